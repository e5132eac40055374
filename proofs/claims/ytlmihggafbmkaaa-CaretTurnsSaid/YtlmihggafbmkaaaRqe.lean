/- The reference's Encode and Decode (3.1). -/
import Derived.Test.YtlmihggafbmkaaaCnt
import Derived.Test.YtlmihggafbmkaaaRpn
import Derived.Test.YtlmihggafbmkaaaRpd
import Derived.Test.YtlmihggafbmkaaaByt
namespace Go.Proofs.Ytlmihggafbmkaaa
open Go Go.RowKit
theorem encS_take1 {s : List UInt8} {i : Nat} (h : i < s.length) : encS (s.take (i + 1)) = encS (s.take i) ++ encF s[i] := by
  rw [List.take_succ_eq_append_getElem h, encS_app]
  simp [encS]
theorem u8_l {c : UInt8} {k : Nat} (hk : k < 256) (h : c.toNat = k) : c = UInt8.ofNat k := by
  rw [← h, UInt8.ofNat_toNat]
def carP : List UInt8 := [94, 94, 94, 110, 94, 39]
theorem idx_all : ∀ d : _root_.Fin 256, Lib.index carP [94, UInt8.ofNat d.1] = if d.1 = 94 then 0 else if d.1 = 110 then 2 else if d.1 = 39 then 4 else -1 := by decide +kernel
theorem idx_two {d : UInt8} : Lib.index carP [94, d] = if d.toNat = 94 then 0 else if d.toNat = 110 then 2 else if d.toNat = 39 then 4 else -1 := by
  have := idx_all ⟨d.toNat, d.toNat_lt⟩
  rwa [UInt8.ofNat_toNat] at this
set_option maxRecDepth 20000
set_option maxHeartbeats 4000000
set_option linter.unusedSimpArgs false
set_option linter.unusedVariables false
attribute [local irreducible] AWp AOps byteAt SrcOK OrOk GloAll FnSpec
attribute [local irreducible] encF encS decS
theorem ref_Encode {G : Glo} (s : List UInt8) (hl : s.length ≤ 1000000) : FnIs Try.prog G 5 [.str s] (.str (encS s)) := by
  have hGL : GloAll G [] := gloAll_nil
  refine fn_x Try.func5 Try.call5 rfl rfl rfl rfl hGL ?_
  intro C hC
  repeat' (first
    | (conv => whnf); first
      | (apply ch_l; apply sp_i; first | exact rfl | omega | exact ⟨rfl, rfl, by omega⟩ | exact ⟨rfl, by omega⟩ | exact ⟨rfl, by omega, by omega, by omega⟩ | exact ⟨⟨_, rfl⟩, by omega⟩ | exact ⟨⟨_, rfl⟩, by omega, by omega⟩ | assumption | decide | (simp only [List.length_drop, List.length_take, List.length_append, List.length_set, List.length_cons, List.length_nil, OrOk] at *; omega) | (simp; omega))
      | (apply sp_i; first | exact rfl | omega | exact ⟨rfl, rfl, by omega⟩ | exact ⟨rfl, by omega⟩ | exact ⟨rfl, by omega, by omega, by omega⟩ | exact ⟨⟨_, rfl⟩, by omega⟩ | exact ⟨⟨_, rfl⟩, by omega, by omega⟩ | assumption | decide | (simp only [List.length_drop, List.length_take, List.length_append, List.length_set, List.length_cons, List.length_nil, OrOk] at *; omega) | (simp; omega))
      | (apply sc_true) | (apply sc_false)
      | (first | apply sc_lt | apply sc_nlt | apply sc_eq | apply sc_neq | apply sc_nil | apply sc_nnil | apply sc_seq | apply sc_nseq); all_goals (intro hb; try (first | (exfalso; omega) | exact absurd rfl hb | exact absurd hb (by decide) | exact absurd hb (by assumption) | exact absurd (by assumption) hb | (exfalso; simp only [List.length_cons, List.length_nil, List.length_append] at hb; omega)))
      | (apply sc_not) | (apply sc_or) | (apply sc_i; all_goals intro hb)
      | (first | apply ix_nat | apply ix_int); first | omega | (simp only [List.length_drop, List.length_take, List.length_append, List.length_set, List.length_cons, List.length_nil] at *; omega)
      | (apply bx_i; intro hbd) | (apply gt_i; assumption; exact rfl)
      | (first | apply sd_nat | apply sd_int | apply sl_nat | apply sl_int); first | omega | (simp only [List.length_drop, List.length_take, List.length_append, List.length_set, List.length_cons, List.length_nil] at *; omega)
      | (apply cx_is; first | fail) | (apply cx_do (i := 0) rfl; first | fail)
      | (apply ab_i; intro bl) | (apply as_i; intro va vk vc hva) | (apply av_i; intro v) | (apply ac_i; intro bl cap hcap)
      | (apply bo_l) | (apply ch_r; apply sp_i; assumption) | (apply ch_r; apply sp_i; intro i hi; exact ⟨rfl, rfl, rfl⟩) | (apply nx_i; all_goals intro hnx)
      | (apply Ia.hit; assumption) | (apply Ia.miss; assumption)
      | (apply rt_is; exact rfl) | (apply rt_do; exact rfl; (repeat (first | exact List.nil_sublist _ | apply List.Sublist.cons_cons))) | (apply iv; assumption)
      | (apply dw_q mixed hC hGL (by kernel_rfl))
      | (apply cq; assumption; (first | fail); exact rfl))
  all_goals (try conv => whnf)
  refine lp hC hGL (fun i : Nat => [(3, .str (encS (s.take i))), (7, .own 0 (.slice (some ⟨bl, 0, none⟩) s.length cap)), (8, .int .i64 (s.length : Nat)), (9, .int .i64 (i : Nat))]) (fun _ => [.buf bl s cap]) (fun i => i ≤ s.length) (fun i => s.length - i) 0 (Nat.zero_le _) ⟨?_, rfl, rfl, rfl, trivial⟩ rfl ?_
  · show some (AVal.str []) = some (AVal.str (encS (s.take 0)))
    rw [List.take_zero, encS_nil]
  · intro i hi
    have e1 := (encS_len (s.take i)).2
    rw [List.length_take, Nat.min_eq_left hi] at e1
    by_cases hlt : i < s.length
    · have et := encS_take1 hlt
      have hb0 := byteAt_ge hlt
      have hby := byteAt_lt s i
      rcases (show byteAt s i = 94 ∨ byteAt s i = 10 ∨ byteAt s i = 34 ∨ (byteAt s i ≠ 94 ∧ byteAt s i ≠ 10 ∧ byteAt s i ≠ 34) by omega) with hk | hk | hk | ⟨k1, k2, k3⟩
      · have he : encF s[i] = [94, 94] := by rw [u8_l (by decide) (hb0.symm.trans hk)]; exact enc_94
        repeat' (first
          | (conv => whnf); first
            | (apply ch_l; apply sp_i; first | exact rfl | omega | exact ⟨rfl, rfl, by omega⟩ | exact ⟨rfl, by omega⟩ | exact ⟨rfl, by omega, by omega, by omega⟩ | exact ⟨⟨_, rfl⟩, by omega⟩ | exact ⟨⟨_, rfl⟩, by omega, by omega⟩ | assumption | decide | (simp only [List.length_drop, List.length_take, List.length_append, List.length_set, List.length_cons, List.length_nil, OrOk] at *; omega) | (simp; omega))
            | (apply sp_i; first | exact rfl | omega | exact ⟨rfl, rfl, by omega⟩ | exact ⟨rfl, by omega⟩ | exact ⟨rfl, by omega, by omega, by omega⟩ | exact ⟨⟨_, rfl⟩, by omega⟩ | exact ⟨⟨_, rfl⟩, by omega, by omega⟩ | assumption | decide | (simp only [List.length_drop, List.length_take, List.length_append, List.length_set, List.length_cons, List.length_nil, OrOk] at *; omega) | (simp; omega))
            | (apply sc_true) | (apply sc_false)
            | (first | apply sc_lt | apply sc_nlt | apply sc_eq | apply sc_neq | apply sc_nil | apply sc_nnil | apply sc_seq | apply sc_nseq); all_goals (intro hb; try (first | (exfalso; omega) | exact absurd rfl hb | exact absurd hb (by decide) | exact absurd hb (by assumption) | exact absurd (by assumption) hb | (exfalso; simp only [List.length_cons, List.length_nil, List.length_append] at hb; omega)))
            | (apply sc_not) | (apply sc_or) | (apply sc_i; all_goals intro hb)
            | (first | apply ix_nat | apply ix_int); first | omega | (simp only [List.length_drop, List.length_take, List.length_append, List.length_set, List.length_cons, List.length_nil] at *; omega)
            | (apply bx_i; intro hbd) | (apply gt_i; assumption; exact rfl)
            | (first | apply sd_nat | apply sd_int | apply sl_nat | apply sl_int); first | omega | (simp only [List.length_drop, List.length_take, List.length_append, List.length_set, List.length_cons, List.length_nil] at *; omega)
            | (apply cx_is; first | fail) | (apply cx_do (i := 0) rfl; first | fail)
            | (apply ab_i; intro bl) | (apply as_i; intro va vk vc hva) | (apply av_i; intro v) | (apply ac_i; intro bl cap hcap)
            | (apply bo_l) | (apply ch_r; apply sp_i; assumption) | (apply ch_r; apply sp_i; intro i hi; exact ⟨rfl, rfl, rfl⟩) | (apply nx_i; all_goals intro hnx)
            | (apply Ia.hit; assumption) | (apply Ia.miss; assumption)
            | (apply rt_is; exact rfl) | (apply rt_do; exact rfl; (repeat (first | exact List.nil_sublist _ | apply List.Sublist.cons_cons))) | (apply iv; assumption)
            | (apply dw_q mixed hC hGL (by kernel_rfl))
            | (apply cq; assumption; (first | fail); exact rfl))
        all_goals (try conv => whnf)
        refine nxt (i + 1) ?_ ?_ ⟨?_, rfl, rfl, rfl, trivial⟩ rfl
        · exact hlt
        · show s.length - (i + 1) < s.length - i; omega
        · rw [et, he]; rfl
      · have he : encF s[i] = [94, 110] := by rw [u8_l (by decide) (hb0.symm.trans hk)]; exact enc_10
        repeat' (first
          | (conv => whnf); first
            | (apply ch_l; apply sp_i; first | exact rfl | omega | exact ⟨rfl, rfl, by omega⟩ | exact ⟨rfl, by omega⟩ | exact ⟨rfl, by omega, by omega, by omega⟩ | exact ⟨⟨_, rfl⟩, by omega⟩ | exact ⟨⟨_, rfl⟩, by omega, by omega⟩ | assumption | decide | (simp only [List.length_drop, List.length_take, List.length_append, List.length_set, List.length_cons, List.length_nil, OrOk] at *; omega) | (simp; omega))
            | (apply sp_i; first | exact rfl | omega | exact ⟨rfl, rfl, by omega⟩ | exact ⟨rfl, by omega⟩ | exact ⟨rfl, by omega, by omega, by omega⟩ | exact ⟨⟨_, rfl⟩, by omega⟩ | exact ⟨⟨_, rfl⟩, by omega, by omega⟩ | assumption | decide | (simp only [List.length_drop, List.length_take, List.length_append, List.length_set, List.length_cons, List.length_nil, OrOk] at *; omega) | (simp; omega))
            | (apply sc_true) | (apply sc_false)
            | (first | apply sc_lt | apply sc_nlt | apply sc_eq | apply sc_neq | apply sc_nil | apply sc_nnil | apply sc_seq | apply sc_nseq); all_goals (intro hb; try (first | (exfalso; omega) | exact absurd rfl hb | exact absurd hb (by decide) | exact absurd hb (by assumption) | exact absurd (by assumption) hb | (exfalso; simp only [List.length_cons, List.length_nil, List.length_append] at hb; omega)))
            | (apply sc_not) | (apply sc_or) | (apply sc_i; all_goals intro hb)
            | (first | apply ix_nat | apply ix_int); first | omega | (simp only [List.length_drop, List.length_take, List.length_append, List.length_set, List.length_cons, List.length_nil] at *; omega)
            | (apply bx_i; intro hbd) | (apply gt_i; assumption; exact rfl)
            | (first | apply sd_nat | apply sd_int | apply sl_nat | apply sl_int); first | omega | (simp only [List.length_drop, List.length_take, List.length_append, List.length_set, List.length_cons, List.length_nil] at *; omega)
            | (apply cx_is; first | fail) | (apply cx_do (i := 0) rfl; first | fail)
            | (apply ab_i; intro bl) | (apply as_i; intro va vk vc hva) | (apply av_i; intro v) | (apply ac_i; intro bl cap hcap)
            | (apply bo_l) | (apply ch_r; apply sp_i; assumption) | (apply ch_r; apply sp_i; intro i hi; exact ⟨rfl, rfl, rfl⟩) | (apply nx_i; all_goals intro hnx)
            | (apply Ia.hit; assumption) | (apply Ia.miss; assumption)
            | (apply rt_is; exact rfl) | (apply rt_do; exact rfl; (repeat (first | exact List.nil_sublist _ | apply List.Sublist.cons_cons))) | (apply iv; assumption)
            | (apply dw_q mixed hC hGL (by kernel_rfl))
            | (apply cq; assumption; (first | fail); exact rfl))
        all_goals (try conv => whnf)
        refine nxt (i + 1) ?_ ?_ ⟨?_, rfl, rfl, rfl, trivial⟩ rfl
        · exact hlt
        · show s.length - (i + 1) < s.length - i; omega
        · rw [et, he]; rfl
      · have he : encF s[i] = [94, 39] := by rw [u8_l (by decide) (hb0.symm.trans hk)]; exact enc_34
        repeat' (first
          | (conv => whnf); first
            | (apply ch_l; apply sp_i; first | exact rfl | omega | exact ⟨rfl, rfl, by omega⟩ | exact ⟨rfl, by omega⟩ | exact ⟨rfl, by omega, by omega, by omega⟩ | exact ⟨⟨_, rfl⟩, by omega⟩ | exact ⟨⟨_, rfl⟩, by omega, by omega⟩ | assumption | decide | (simp only [List.length_drop, List.length_take, List.length_append, List.length_set, List.length_cons, List.length_nil, OrOk] at *; omega) | (simp; omega))
            | (apply sp_i; first | exact rfl | omega | exact ⟨rfl, rfl, by omega⟩ | exact ⟨rfl, by omega⟩ | exact ⟨rfl, by omega, by omega, by omega⟩ | exact ⟨⟨_, rfl⟩, by omega⟩ | exact ⟨⟨_, rfl⟩, by omega, by omega⟩ | assumption | decide | (simp only [List.length_drop, List.length_take, List.length_append, List.length_set, List.length_cons, List.length_nil, OrOk] at *; omega) | (simp; omega))
            | (apply sc_true) | (apply sc_false)
            | (first | apply sc_lt | apply sc_nlt | apply sc_eq | apply sc_neq | apply sc_nil | apply sc_nnil | apply sc_seq | apply sc_nseq); all_goals (intro hb; try (first | (exfalso; omega) | exact absurd rfl hb | exact absurd hb (by decide) | exact absurd hb (by assumption) | exact absurd (by assumption) hb | (exfalso; simp only [List.length_cons, List.length_nil, List.length_append] at hb; omega)))
            | (apply sc_not) | (apply sc_or) | (apply sc_i; all_goals intro hb)
            | (first | apply ix_nat | apply ix_int); first | omega | (simp only [List.length_drop, List.length_take, List.length_append, List.length_set, List.length_cons, List.length_nil] at *; omega)
            | (apply bx_i; intro hbd) | (apply gt_i; assumption; exact rfl)
            | (first | apply sd_nat | apply sd_int | apply sl_nat | apply sl_int); first | omega | (simp only [List.length_drop, List.length_take, List.length_append, List.length_set, List.length_cons, List.length_nil] at *; omega)
            | (apply cx_is; first | fail) | (apply cx_do (i := 0) rfl; first | fail)
            | (apply ab_i; intro bl) | (apply as_i; intro va vk vc hva) | (apply av_i; intro v) | (apply ac_i; intro bl cap hcap)
            | (apply bo_l) | (apply ch_r; apply sp_i; assumption) | (apply ch_r; apply sp_i; intro i hi; exact ⟨rfl, rfl, rfl⟩) | (apply nx_i; all_goals intro hnx)
            | (apply Ia.hit; assumption) | (apply Ia.miss; assumption)
            | (apply rt_is; exact rfl) | (apply rt_do; exact rfl; (repeat (first | exact List.nil_sublist _ | apply List.Sublist.cons_cons))) | (apply iv; assumption)
            | (apply dw_q mixed hC hGL (by kernel_rfl))
            | (apply cq; assumption; (first | fail); exact rfl))
        all_goals (try conv => whnf)
        refine nxt (i + 1) ?_ ?_ ⟨?_, rfl, rfl, rfl, trivial⟩ rfl
        · exact hlt
        · show s.length - (i + 1) < s.length - i; omega
        · rw [et, he]; rfl
      · have he : encF s[i] = bytesI [(byteAt s i : Int)] := by
          rw [enc_else (by rw [← hb0]; exact k1) (by rw [← hb0]; exact k2) (by rw [← hb0]; exact k3), hb0]
          simp [bytesI]
        repeat' (first
          | (conv => whnf); first
            | (apply ch_l; apply sp_i; first | exact rfl | omega | exact ⟨rfl, rfl, by omega⟩ | exact ⟨rfl, by omega⟩ | exact ⟨rfl, by omega, by omega, by omega⟩ | exact ⟨⟨_, rfl⟩, by omega⟩ | exact ⟨⟨_, rfl⟩, by omega, by omega⟩ | assumption | decide | (simp only [List.length_drop, List.length_take, List.length_append, List.length_set, List.length_cons, List.length_nil, OrOk] at *; omega) | (simp; omega))
            | (apply sp_i; first | exact rfl | omega | exact ⟨rfl, rfl, by omega⟩ | exact ⟨rfl, by omega⟩ | exact ⟨rfl, by omega, by omega, by omega⟩ | exact ⟨⟨_, rfl⟩, by omega⟩ | exact ⟨⟨_, rfl⟩, by omega, by omega⟩ | assumption | decide | (simp only [List.length_drop, List.length_take, List.length_append, List.length_set, List.length_cons, List.length_nil, OrOk] at *; omega) | (simp; omega))
            | (apply sc_true) | (apply sc_false)
            | (first | apply sc_lt | apply sc_nlt | apply sc_eq | apply sc_neq | apply sc_nil | apply sc_nnil | apply sc_seq | apply sc_nseq); all_goals (intro hb; try (first | (exfalso; omega) | exact absurd rfl hb | exact absurd hb (by decide) | exact absurd hb (by assumption) | exact absurd (by assumption) hb | (exfalso; simp only [List.length_cons, List.length_nil, List.length_append] at hb; omega)))
            | (apply sc_not) | (apply sc_or) | (apply sc_i; all_goals intro hb)
            | (first | apply ix_nat | apply ix_int); first | omega | (simp only [List.length_drop, List.length_take, List.length_append, List.length_set, List.length_cons, List.length_nil] at *; omega)
            | (apply bx_i; intro hbd) | (apply gt_i; assumption; exact rfl)
            | (first | apply sd_nat | apply sd_int | apply sl_nat | apply sl_int); first | omega | (simp only [List.length_drop, List.length_take, List.length_append, List.length_set, List.length_cons, List.length_nil] at *; omega)
            | (apply cx_is; first | fail) | (apply cx_do (i := 0) rfl; first | fail)
            | (apply ab_i; intro bl) | (apply as_i; intro va vk vc hva) | (apply av_i; intro v) | (apply ac_i; intro bl cap hcap)
            | (apply bo_l) | (apply ch_r; apply sp_i; assumption) | (apply ch_r; apply sp_i; intro i hi; exact ⟨rfl, rfl, rfl⟩) | (apply nx_i; all_goals intro hnx)
            | (apply Ia.hit; assumption) | (apply Ia.miss; assumption)
            | (apply rt_is; exact rfl) | (apply rt_do; exact rfl; (repeat (first | exact List.nil_sublist _ | apply List.Sublist.cons_cons))) | (apply iv; assumption)
            | (apply dw_q mixed hC hGL (by kernel_rfl))
            | (apply cq; assumption; (first | fail); exact rfl))
        all_goals (try conv => whnf)
        refine op1_run hC hGL (rv_bytes [(byteAt s i : Int)] rfl (by intro v hv; simp only [List.mem_cons, List.not_mem_nil, or_false] at hv; omega) rfl rfl rfl rfl rfl rfl) rfl rfl ?_
        have hl9 : (bytesI [(byteAt s i : Int)]).length = 1 := rfl
        repeat' (first
          | (conv => whnf); first
            | (apply ch_l; apply sp_i; first | exact rfl | omega | exact ⟨rfl, rfl, by omega⟩ | exact ⟨rfl, by omega⟩ | exact ⟨rfl, by omega, by omega, by omega⟩ | exact ⟨⟨_, rfl⟩, by omega⟩ | exact ⟨⟨_, rfl⟩, by omega, by omega⟩ | assumption | decide | (simp only [List.length_drop, List.length_take, List.length_append, List.length_set, List.length_cons, List.length_nil, OrOk] at *; omega) | (simp; omega))
            | (apply sp_i; first | exact rfl | omega | exact ⟨rfl, rfl, by omega⟩ | exact ⟨rfl, by omega⟩ | exact ⟨rfl, by omega, by omega, by omega⟩ | exact ⟨⟨_, rfl⟩, by omega⟩ | exact ⟨⟨_, rfl⟩, by omega, by omega⟩ | assumption | decide | (simp only [List.length_drop, List.length_take, List.length_append, List.length_set, List.length_cons, List.length_nil, OrOk] at *; omega) | (simp; omega))
            | (apply sc_true) | (apply sc_false)
            | (first | apply sc_lt | apply sc_nlt | apply sc_eq | apply sc_neq | apply sc_nil | apply sc_nnil | apply sc_seq | apply sc_nseq); all_goals (intro hb; try (first | (exfalso; omega) | exact absurd rfl hb | exact absurd hb (by decide) | exact absurd hb (by assumption) | exact absurd (by assumption) hb | (exfalso; simp only [List.length_cons, List.length_nil, List.length_append] at hb; omega)))
            | (apply sc_not) | (apply sc_or) | (apply sc_i; all_goals intro hb)
            | (first | apply ix_nat | apply ix_int); first | omega | (simp only [List.length_drop, List.length_take, List.length_append, List.length_set, List.length_cons, List.length_nil] at *; omega)
            | (apply bx_i; intro hbd) | (apply gt_i; assumption; exact rfl)
            | (first | apply sd_nat | apply sd_int | apply sl_nat | apply sl_int); first | omega | (simp only [List.length_drop, List.length_take, List.length_append, List.length_set, List.length_cons, List.length_nil] at *; omega)
            | (apply cx_is; first | fail) | (apply cx_do (i := 0) rfl; first | fail)
            | (apply ab_i; intro bl) | (apply as_i; intro va vk vc hva) | (apply av_i; intro v) | (apply ac_i; intro bl cap hcap)
            | (apply bo_l) | (apply ch_r; apply sp_i; assumption) | (apply ch_r; apply sp_i; intro i hi; exact ⟨rfl, rfl, rfl⟩) | (apply nx_i; all_goals intro hnx)
            | (apply Ia.hit; assumption) | (apply Ia.miss; assumption)
            | (apply rt_is; exact rfl) | (apply rt_do; exact rfl; (repeat (first | exact List.nil_sublist _ | apply List.Sublist.cons_cons))) | (apply iv; assumption)
            | (apply dw_q mixed hC hGL (by kernel_rfl))
            | (apply cq; assumption; (first | fail); exact rfl))
        all_goals (try conv => whnf)
        refine nxt (i + 1) ?_ ?_ ⟨?_, rfl, rfl, rfl, trivial⟩ rfl
        · exact hlt
        · show s.length - (i + 1) < s.length - i; omega
        · rw [et, he]; rfl
    · have h9 : encS (s.take i) = encS s := by rw [List.take_of_length_le (by omega)]
      repeat' (first
        | (conv => whnf); first
          | (apply ch_l; apply sp_i; first | exact rfl | omega | exact ⟨rfl, rfl, by omega⟩ | exact ⟨rfl, by omega⟩ | exact ⟨rfl, by omega, by omega, by omega⟩ | exact ⟨⟨_, rfl⟩, by omega⟩ | exact ⟨⟨_, rfl⟩, by omega, by omega⟩ | assumption | decide | (simp only [List.length_drop, List.length_take, List.length_append, List.length_set, List.length_cons, List.length_nil, OrOk] at *; omega) | (simp; omega))
          | (apply sp_i; first | exact rfl | omega | exact ⟨rfl, rfl, by omega⟩ | exact ⟨rfl, by omega⟩ | exact ⟨rfl, by omega, by omega, by omega⟩ | exact ⟨⟨_, rfl⟩, by omega⟩ | exact ⟨⟨_, rfl⟩, by omega, by omega⟩ | assumption | decide | (simp only [List.length_drop, List.length_take, List.length_append, List.length_set, List.length_cons, List.length_nil, OrOk] at *; omega) | (simp; omega))
          | (apply sc_true) | (apply sc_false)
          | (first | apply sc_lt | apply sc_nlt | apply sc_eq | apply sc_neq | apply sc_nil | apply sc_nnil | apply sc_seq | apply sc_nseq); all_goals (intro hb; try (first | (exfalso; omega) | exact absurd rfl hb | exact absurd hb (by decide) | exact absurd hb (by assumption) | exact absurd (by assumption) hb | (exfalso; simp only [List.length_cons, List.length_nil, List.length_append] at hb; omega)))
          | (apply sc_not) | (apply sc_or) | (apply sc_i; all_goals intro hb)
          | (first | apply ix_nat | apply ix_int); first | omega | (simp only [List.length_drop, List.length_take, List.length_append, List.length_set, List.length_cons, List.length_nil] at *; omega)
          | (apply bx_i; intro hbd) | (apply gt_i; assumption; exact rfl)
          | (first | apply sd_nat | apply sd_int | apply sl_nat | apply sl_int); first | omega | (simp only [List.length_drop, List.length_take, List.length_append, List.length_set, List.length_cons, List.length_nil] at *; omega)
          | (apply cx_is; first | fail) | (apply cx_do (i := 0) rfl; first | fail)
          | (apply ab_i; intro bl) | (apply as_i; intro va vk vc hva) | (apply av_i; intro v) | (apply ac_i; intro bl cap hcap)
          | (apply bo_l) | (apply ch_r; apply sp_i; assumption) | (apply ch_r; apply sp_i; intro i hi; exact ⟨rfl, rfl, rfl⟩) | (apply nx_i; all_goals intro hnx)
          | (apply Ia.hit; assumption) | (apply Ia.miss; assumption)
          | (apply rt_is; exact rfl) | (apply rt_do; exact rfl; (repeat (first | exact List.nil_sublist _ | apply List.Sublist.cons_cons))) | (apply iv; assumption)
          | (apply dw_q mixed hC hGL (by kernel_rfl))
          | (apply cq; assumption; (first | fail); exact rfl))
      all_goals (try conv => whnf)
      apply rt_is
      rw [h9]
theorem ref_Decode {G : Glo} {m : Int} (hU : GloAll G (maxTy m)) (s : List UInt8) (hl : s.length ≤ 1000000) : FnIs Try.prog G 7 [.str s] (.str (decS s)) := by
  have hI := fun t : List UInt8 => strings_index (G := G) hU carP t (by decide)
  have hGL : GloAll G [] := gloAll_nil
  refine fn_x Try.func7 Try.call7 rfl rfl rfl rfl hGL ?_
  intro C hC
  repeat' (first
    | (conv => whnf); first
      | (apply ch_l; apply sp_i; first | exact rfl | omega | exact ⟨rfl, rfl, by omega⟩ | exact ⟨rfl, by omega⟩ | exact ⟨rfl, by omega, by omega, by omega⟩ | exact ⟨⟨_, rfl⟩, by omega⟩ | exact ⟨⟨_, rfl⟩, by omega, by omega⟩ | assumption | decide | (simp only [List.length_drop, List.length_take, List.length_append, List.length_set, List.length_cons, List.length_nil, OrOk] at *; omega) | (simp; omega))
      | (apply sp_i; first | exact rfl | omega | exact ⟨rfl, rfl, by omega⟩ | exact ⟨rfl, by omega⟩ | exact ⟨rfl, by omega, by omega, by omega⟩ | exact ⟨⟨_, rfl⟩, by omega⟩ | exact ⟨⟨_, rfl⟩, by omega, by omega⟩ | assumption | decide | (simp only [List.length_drop, List.length_take, List.length_append, List.length_set, List.length_cons, List.length_nil, OrOk] at *; omega) | (simp; omega))
      | (apply sc_true) | (apply sc_false)
      | (first | apply sc_lt | apply sc_nlt | apply sc_eq | apply sc_neq | apply sc_nil | apply sc_nnil | apply sc_seq | apply sc_nseq); all_goals (intro hb; try (first | (exfalso; omega) | exact absurd rfl hb | exact absurd hb (by decide) | exact absurd hb (by assumption) | exact absurd (by assumption) hb | (exfalso; simp only [List.length_cons, List.length_nil, List.length_append] at hb; omega)))
      | (apply sc_not) | (apply sc_or) | (apply sc_i; all_goals intro hb)
      | (first | apply ix_nat | apply ix_int); first | omega | (simp only [List.length_drop, List.length_take, List.length_append, List.length_set, List.length_cons, List.length_nil] at *; omega)
      | (apply bx_i; intro hbd) | (apply gt_i; assumption; exact rfl)
      | (first | apply sd_nat | apply sd_int | apply sl_nat | apply sl_int); first | omega | (simp only [List.length_drop, List.length_take, List.length_append, List.length_set, List.length_cons, List.length_nil] at *; omega)
      | (apply cx_is; first | fail) | (apply cx_do (i := 0) rfl; first | fail)
      | (apply ab_i; intro bl) | (apply as_i; intro va vk vc hva) | (apply av_i; intro v) | (apply ac_i; intro bl cap hcap)
      | (apply bo_l) | (apply ch_r; apply sp_i; assumption) | (apply ch_r; apply sp_i; intro i hi; exact ⟨rfl, rfl, rfl⟩) | (apply nx_i; all_goals intro hnx)
      | (apply Ia.hit; assumption) | (apply Ia.miss; assumption)
      | (apply rt_is; exact rfl) | (apply rt_do; exact rfl; (repeat (first | exact List.nil_sublist _ | apply List.Sublist.cons_cons))) | (apply iv; assumption)
      | (apply dw_q mixed hC hGL (by kernel_rfl))
      | (apply cq; assumption; (first | fail); exact rfl))
  all_goals (try conv => whnf)
  refine lp hC hGL (fun x : Nat × List UInt8 => [(0, .str s), (3, .str x.2), (4, .int .i64 (x.1 : Nat))]) (fun _ => []) (fun x => x.1 ≤ s.length ∧ x.2.length ≤ x.1 ∧ x.2 ++ decS (s.drop x.1) = decS s) (fun x => s.length - x.1) (0, []) ⟨Nat.zero_le _, Nat.zero_le _, rfl⟩ ⟨rfl, rfl, rfl, trivial⟩ rfl ?_
  rintro ⟨i, out⟩ ⟨hi, ho, hd⟩
  have hi : i ≤ s.length := hi
  have ho : out.length ≤ i := ho
  have hd : out ++ decS (s.drop i) = decS s := hd
  by_cases hlt : i < s.length
  · have hT : ((s.take (min ((s.length : Nat) : Int) (((i : Nat) : Int) + 2)).toNat).drop ((i : Nat) : Int).toNat) = (s.drop i).take (min 2 (s.length - i)) := by
      rw [Int.toNat_natCast, show (min ((s.length : Nat) : Int) (((i : Nat) : Int) + 2)).toNat = i + min 2 (s.length - i) by omega, List.drop_take, show i + min 2 (s.length - i) - i = min 2 (s.length - i) by omega]
    have hTl : ((s.take (min ((s.length : Nat) : Int) (((i : Nat) : Int) + 2)).toNat).drop ((i : Nat) : Int).toNat).length = min 2 (s.length - i) := by rw [hT, List.length_take, List.length_drop]; omega
    by_cases hk : byteAt s i = 94
    · by_cases hi2 : i + 1 < s.length
      · have e0 := byteAt_ge hlt
        have e1 := byteAt_ge hi2
        have hT2 : ((s.take (min ((s.length : Nat) : Int) (((i : Nat) : Int) + 2)).toNat).drop ((i : Nat) : Int).toNat) = [94, s[i + 1]] := by
          rw [hT, show min 2 (s.length - i) = 2 by omega, List.drop_eq_getElem_cons hlt, List.drop_eq_getElem_cons hi2, u8_l (by decide) (e0.symm.trans hk)]
          rfl
        have hx := hI ((s.take (min ((s.length : Nat) : Int) (((i : Nat) : Int) + 2)).toNat).drop ((i : Nat) : Int).toNat)
        rw [show Lib.index carP ((s.take (min ((s.length : Nat) : Int) (((i : Nat) : Int) + 2)).toNat).drop ((i : Nat) : Int).toNat) = _ from (congrArg (Lib.index carP) hT2).trans idx_two, ← e1] at hx
        have hTl2 : ((((s.take (min ((s.length : Nat) : Int) (((i : Nat) : Int) + 2)).toNat).drop ((i : Nat) : Int).toNat).length : Nat) : Int) = 2 := by rw [hTl]; omega
        rcases (show byteAt s (i + 1) = 94 ∨ byteAt s (i + 1) = 110 ∨ byteAt s (i + 1) = 39 ∨ (byteAt s (i + 1) ≠ 94 ∧ byteAt s (i + 1) ≠ 110 ∧ byteAt s (i + 1) ≠ 39) by omega) with hq | hq | hq | ⟨k1, k2, k3⟩
        · rw [if_pos hq] at hx
          repeat' (first
            | (conv => whnf); first
              | (apply ch_l; apply sp_i; first | exact rfl | omega | exact ⟨rfl, rfl, by omega⟩ | exact ⟨rfl, by omega⟩ | exact ⟨rfl, by omega, by omega, by omega⟩ | exact ⟨⟨_, rfl⟩, by omega⟩ | exact ⟨⟨_, rfl⟩, by omega, by omega⟩ | assumption | decide | (simp only [List.length_drop, List.length_take, List.length_append, List.length_set, List.length_cons, List.length_nil, OrOk] at *; omega) | (simp; omega))
              | (apply sp_i; first | exact rfl | omega | exact ⟨rfl, rfl, by omega⟩ | exact ⟨rfl, by omega⟩ | exact ⟨rfl, by omega, by omega, by omega⟩ | exact ⟨⟨_, rfl⟩, by omega⟩ | exact ⟨⟨_, rfl⟩, by omega, by omega⟩ | assumption | decide | (simp only [List.length_drop, List.length_take, List.length_append, List.length_set, List.length_cons, List.length_nil, OrOk] at *; omega) | (simp; omega))
              | (apply sc_true) | (apply sc_false)
              | (first | apply sc_lt | apply sc_nlt | apply sc_eq | apply sc_neq | apply sc_nil | apply sc_nnil | apply sc_seq | apply sc_nseq); all_goals (intro hb; try (first | (exfalso; omega) | exact absurd rfl hb | exact absurd hb (by decide) | exact absurd hb (by assumption) | exact absurd (by assumption) hb | (exfalso; simp only [List.length_cons, List.length_nil, List.length_append] at hb; omega)))
              | (apply sc_not) | (apply sc_or) | (apply sc_i; all_goals intro hb)
              | (first | apply ix_nat | apply ix_int); first | omega | (simp only [List.length_drop, List.length_take, List.length_append, List.length_set, List.length_cons, List.length_nil] at *; omega)
              | (apply bx_i; intro hbd) | (apply gt_i; assumption; exact rfl)
              | (first | apply sd_nat | apply sd_int | apply sl_nat | apply sl_int); first | omega | (simp only [List.length_drop, List.length_take, List.length_append, List.length_set, List.length_cons, List.length_nil] at *; omega)
              | (apply cx_is; first | exact hx) | (apply cx_do (i := 0) rfl; first | exact hx)
              | (apply ab_i; intro bl) | (apply as_i; intro va vk vc hva) | (apply av_i; intro v) | (apply ac_i; intro bl cap hcap)
              | (apply bo_l) | (apply ch_r; apply sp_i; assumption) | (apply ch_r; apply sp_i; intro i hi; exact ⟨rfl, rfl, rfl⟩) | (apply nx_i; all_goals intro hnx)
              | (apply Ia.hit; assumption) | (apply Ia.miss; assumption)
              | (apply rt_is; exact rfl) | (apply rt_do; exact rfl; (repeat (first | exact List.nil_sublist _ | apply List.Sublist.cons_cons))) | (apply iv; assumption)
              | (apply dw_q mixed hC hGL (by kernel_rfl))
              | (apply cq; assumption; (first | exact hx); exact rfl))
          all_goals (try conv => whnf)
          · refine nxt (i + 2, out ++ [94]) ?_ ?_ ⟨rfl, rfl, rfl, trivial⟩ rfl
            · refine ⟨hi2, ?_, ?_⟩
              · show (out ++ [(94 : UInt8)]).length ≤ i + 2
                rw [List.length_append, List.length_singleton]; omega
              · show out ++ [94] ++ decS (s.drop (i + 2)) = decS s
                rw [← hd, dec_two hi2 hk (e := 94) (.inl ⟨hq, rfl⟩), List.append_assoc]; rfl
            · show s.length - (i + 2) < s.length - i; omega
          all_goals exact absurd hTl2 ‹_›
        · rw [if_neg (by omega), if_pos hq] at hx
          repeat' (first
            | (conv => whnf); first
              | (apply ch_l; apply sp_i; first | exact rfl | omega | exact ⟨rfl, rfl, by omega⟩ | exact ⟨rfl, by omega⟩ | exact ⟨rfl, by omega, by omega, by omega⟩ | exact ⟨⟨_, rfl⟩, by omega⟩ | exact ⟨⟨_, rfl⟩, by omega, by omega⟩ | assumption | decide | (simp only [List.length_drop, List.length_take, List.length_append, List.length_set, List.length_cons, List.length_nil, OrOk] at *; omega) | (simp; omega))
              | (apply sp_i; first | exact rfl | omega | exact ⟨rfl, rfl, by omega⟩ | exact ⟨rfl, by omega⟩ | exact ⟨rfl, by omega, by omega, by omega⟩ | exact ⟨⟨_, rfl⟩, by omega⟩ | exact ⟨⟨_, rfl⟩, by omega, by omega⟩ | assumption | decide | (simp only [List.length_drop, List.length_take, List.length_append, List.length_set, List.length_cons, List.length_nil, OrOk] at *; omega) | (simp; omega))
              | (apply sc_true) | (apply sc_false)
              | (first | apply sc_lt | apply sc_nlt | apply sc_eq | apply sc_neq | apply sc_nil | apply sc_nnil | apply sc_seq | apply sc_nseq); all_goals (intro hb; try (first | (exfalso; omega) | exact absurd rfl hb | exact absurd hb (by decide) | exact absurd hb (by assumption) | exact absurd (by assumption) hb | (exfalso; simp only [List.length_cons, List.length_nil, List.length_append] at hb; omega)))
              | (apply sc_not) | (apply sc_or) | (apply sc_i; all_goals intro hb)
              | (first | apply ix_nat | apply ix_int); first | omega | (simp only [List.length_drop, List.length_take, List.length_append, List.length_set, List.length_cons, List.length_nil] at *; omega)
              | (apply bx_i; intro hbd) | (apply gt_i; assumption; exact rfl)
              | (first | apply sd_nat | apply sd_int | apply sl_nat | apply sl_int); first | omega | (simp only [List.length_drop, List.length_take, List.length_append, List.length_set, List.length_cons, List.length_nil] at *; omega)
              | (apply cx_is; first | exact hx) | (apply cx_do (i := 0) rfl; first | exact hx)
              | (apply ab_i; intro bl) | (apply as_i; intro va vk vc hva) | (apply av_i; intro v) | (apply ac_i; intro bl cap hcap)
              | (apply bo_l) | (apply ch_r; apply sp_i; assumption) | (apply ch_r; apply sp_i; intro i hi; exact ⟨rfl, rfl, rfl⟩) | (apply nx_i; all_goals intro hnx)
              | (apply Ia.hit; assumption) | (apply Ia.miss; assumption)
              | (apply rt_is; exact rfl) | (apply rt_do; exact rfl; (repeat (first | exact List.nil_sublist _ | apply List.Sublist.cons_cons))) | (apply iv; assumption)
              | (apply dw_q mixed hC hGL (by kernel_rfl))
              | (apply cq; assumption; (first | exact hx); exact rfl))
          all_goals (try conv => whnf)
          · refine nxt (i + 2, out ++ [10]) ?_ ?_ ⟨rfl, rfl, rfl, trivial⟩ rfl
            · refine ⟨hi2, ?_, ?_⟩
              · show (out ++ [(10 : UInt8)]).length ≤ i + 2
                rw [List.length_append, List.length_singleton]; omega
              · show out ++ [10] ++ decS (s.drop (i + 2)) = decS s
                rw [← hd, dec_two hi2 hk (e := 10) (.inr (.inl ⟨hq, rfl⟩)), List.append_assoc]; rfl
            · show s.length - (i + 2) < s.length - i; omega
          all_goals exact absurd hTl2 ‹_›
        · rw [if_neg (by omega), if_neg (by omega), if_pos hq] at hx
          repeat' (first
            | (conv => whnf); first
              | (apply ch_l; apply sp_i; first | exact rfl | omega | exact ⟨rfl, rfl, by omega⟩ | exact ⟨rfl, by omega⟩ | exact ⟨rfl, by omega, by omega, by omega⟩ | exact ⟨⟨_, rfl⟩, by omega⟩ | exact ⟨⟨_, rfl⟩, by omega, by omega⟩ | assumption | decide | (simp only [List.length_drop, List.length_take, List.length_append, List.length_set, List.length_cons, List.length_nil, OrOk] at *; omega) | (simp; omega))
              | (apply sp_i; first | exact rfl | omega | exact ⟨rfl, rfl, by omega⟩ | exact ⟨rfl, by omega⟩ | exact ⟨rfl, by omega, by omega, by omega⟩ | exact ⟨⟨_, rfl⟩, by omega⟩ | exact ⟨⟨_, rfl⟩, by omega, by omega⟩ | assumption | decide | (simp only [List.length_drop, List.length_take, List.length_append, List.length_set, List.length_cons, List.length_nil, OrOk] at *; omega) | (simp; omega))
              | (apply sc_true) | (apply sc_false)
              | (first | apply sc_lt | apply sc_nlt | apply sc_eq | apply sc_neq | apply sc_nil | apply sc_nnil | apply sc_seq | apply sc_nseq); all_goals (intro hb; try (first | (exfalso; omega) | exact absurd rfl hb | exact absurd hb (by decide) | exact absurd hb (by assumption) | exact absurd (by assumption) hb | (exfalso; simp only [List.length_cons, List.length_nil, List.length_append] at hb; omega)))
              | (apply sc_not) | (apply sc_or) | (apply sc_i; all_goals intro hb)
              | (first | apply ix_nat | apply ix_int); first | omega | (simp only [List.length_drop, List.length_take, List.length_append, List.length_set, List.length_cons, List.length_nil] at *; omega)
              | (apply bx_i; intro hbd) | (apply gt_i; assumption; exact rfl)
              | (first | apply sd_nat | apply sd_int | apply sl_nat | apply sl_int); first | omega | (simp only [List.length_drop, List.length_take, List.length_append, List.length_set, List.length_cons, List.length_nil] at *; omega)
              | (apply cx_is; first | exact hx) | (apply cx_do (i := 0) rfl; first | exact hx)
              | (apply ab_i; intro bl) | (apply as_i; intro va vk vc hva) | (apply av_i; intro v) | (apply ac_i; intro bl cap hcap)
              | (apply bo_l) | (apply ch_r; apply sp_i; assumption) | (apply ch_r; apply sp_i; intro i hi; exact ⟨rfl, rfl, rfl⟩) | (apply nx_i; all_goals intro hnx)
              | (apply Ia.hit; assumption) | (apply Ia.miss; assumption)
              | (apply rt_is; exact rfl) | (apply rt_do; exact rfl; (repeat (first | exact List.nil_sublist _ | apply List.Sublist.cons_cons))) | (apply iv; assumption)
              | (apply dw_q mixed hC hGL (by kernel_rfl))
              | (apply cq; assumption; (first | exact hx); exact rfl))
          all_goals (try conv => whnf)
          · refine nxt (i + 2, out ++ [34]) ?_ ?_ ⟨rfl, rfl, rfl, trivial⟩ rfl
            · refine ⟨hi2, ?_, ?_⟩
              · show (out ++ [(34 : UInt8)]).length ≤ i + 2
                rw [List.length_append, List.length_singleton]; omega
              · show out ++ [34] ++ decS (s.drop (i + 2)) = decS s
                rw [← hd, dec_two hi2 hk (e := 34) (.inr (.inr ⟨hq, rfl⟩)), List.append_assoc]; rfl
            · show s.length - (i + 2) < s.length - i; omega
          all_goals exact absurd hTl2 ‹_›
        · rw [if_neg k1, if_neg k2, if_neg k3] at hx
          repeat' (first
            | (conv => whnf); first
              | (apply ch_l; apply sp_i; first | exact rfl | omega | exact ⟨rfl, rfl, by omega⟩ | exact ⟨rfl, by omega⟩ | exact ⟨rfl, by omega, by omega, by omega⟩ | exact ⟨⟨_, rfl⟩, by omega⟩ | exact ⟨⟨_, rfl⟩, by omega, by omega⟩ | assumption | decide | (simp only [List.length_drop, List.length_take, List.length_append, List.length_set, List.length_cons, List.length_nil, OrOk] at *; omega) | (simp; omega))
              | (apply sp_i; first | exact rfl | omega | exact ⟨rfl, rfl, by omega⟩ | exact ⟨rfl, by omega⟩ | exact ⟨rfl, by omega, by omega, by omega⟩ | exact ⟨⟨_, rfl⟩, by omega⟩ | exact ⟨⟨_, rfl⟩, by omega, by omega⟩ | assumption | decide | (simp only [List.length_drop, List.length_take, List.length_append, List.length_set, List.length_cons, List.length_nil, OrOk] at *; omega) | (simp; omega))
              | (apply sc_true) | (apply sc_false)
              | (first | apply sc_lt | apply sc_nlt | apply sc_eq | apply sc_neq | apply sc_nil | apply sc_nnil | apply sc_seq | apply sc_nseq); all_goals (intro hb; try (first | (exfalso; omega) | exact absurd rfl hb | exact absurd hb (by decide) | exact absurd hb (by assumption) | exact absurd (by assumption) hb | (exfalso; simp only [List.length_cons, List.length_nil, List.length_append] at hb; omega)))
              | (apply sc_not) | (apply sc_or) | (apply sc_i; all_goals intro hb)
              | (first | apply ix_nat | apply ix_int); first | omega | (simp only [List.length_drop, List.length_take, List.length_append, List.length_set, List.length_cons, List.length_nil] at *; omega)
              | (apply bx_i; intro hbd) | (apply gt_i; assumption; exact rfl)
              | (first | apply sd_nat | apply sd_int | apply sl_nat | apply sl_int); first | omega | (simp only [List.length_drop, List.length_take, List.length_append, List.length_set, List.length_cons, List.length_nil] at *; omega)
              | (apply cx_is; first | exact hx) | (apply cx_do (i := 0) rfl; first | exact hx)
              | (apply ab_i; intro bl) | (apply as_i; intro va vk vc hva) | (apply av_i; intro v) | (apply ac_i; intro bl cap hcap)
              | (apply bo_l) | (apply ch_r; apply sp_i; assumption) | (apply ch_r; apply sp_i; intro i hi; exact ⟨rfl, rfl, rfl⟩) | (apply nx_i; all_goals intro hnx)
              | (apply Ia.hit; assumption) | (apply Ia.miss; assumption)
              | (apply rt_is; exact rfl) | (apply rt_do; exact rfl; (repeat (first | exact List.nil_sublist _ | apply List.Sublist.cons_cons))) | (apply iv; assumption)
              | (apply dw_q mixed hC hGL (by kernel_rfl))
              | (apply cq; assumption; (first | exact hx); exact rfl))
          all_goals (try conv => whnf)
          · refine nxt (i + 1, out ++ (s.take (i + 1)).drop i) ?_ ?_ ⟨rfl, rfl, rfl, trivial⟩ rfl
            · refine ⟨hlt, ?_, ?_⟩
              · show (out ++ (s.take (i + 1)).drop i).length ≤ i + 1
                rw [List.length_append, List.length_drop, List.length_take]; omega
              · show out ++ (s.take (i + 1)).drop i ++ decS (s.drop (i + 1)) = decS s
                rw [List.append_assoc, List.drop_take, show i + 1 - i = 1 by omega, ← dec_one hlt (.inr (.inr ⟨k1, k2, k3⟩))]; exact hd
            · show s.length - (i + 1) < s.length - i; omega
          all_goals exact absurd hTl2 ‹_›
      · repeat' (first
          | (conv => whnf); first
            | (apply ch_l; apply sp_i; first | exact rfl | omega | exact ⟨rfl, rfl, by omega⟩ | exact ⟨rfl, by omega⟩ | exact ⟨rfl, by omega, by omega, by omega⟩ | exact ⟨⟨_, rfl⟩, by omega⟩ | exact ⟨⟨_, rfl⟩, by omega, by omega⟩ | assumption | decide | (simp only [List.length_drop, List.length_take, List.length_append, List.length_set, List.length_cons, List.length_nil, OrOk] at *; omega) | (simp; omega))
            | (apply sp_i; first | exact rfl | omega | exact ⟨rfl, rfl, by omega⟩ | exact ⟨rfl, by omega⟩ | exact ⟨rfl, by omega, by omega, by omega⟩ | exact ⟨⟨_, rfl⟩, by omega⟩ | exact ⟨⟨_, rfl⟩, by omega, by omega⟩ | assumption | decide | (simp only [List.length_drop, List.length_take, List.length_append, List.length_set, List.length_cons, List.length_nil, OrOk] at *; omega) | (simp; omega))
            | (apply sc_true) | (apply sc_false)
            | (first | apply sc_lt | apply sc_nlt | apply sc_eq | apply sc_neq | apply sc_nil | apply sc_nnil | apply sc_seq | apply sc_nseq); all_goals (intro hb; try (first | (exfalso; omega) | exact absurd rfl hb | exact absurd hb (by decide) | exact absurd hb (by assumption) | exact absurd (by assumption) hb | (exfalso; simp only [List.length_cons, List.length_nil, List.length_append] at hb; omega)))
            | (apply sc_not) | (apply sc_or) | (apply sc_i; all_goals intro hb)
            | (first | apply ix_nat | apply ix_int); first | omega | (simp only [List.length_drop, List.length_take, List.length_append, List.length_set, List.length_cons, List.length_nil] at *; omega)
            | (apply bx_i; intro hbd) | (apply gt_i; assumption; exact rfl)
            | (first | apply sd_nat | apply sd_int | apply sl_nat | apply sl_int); first | omega | (simp only [List.length_drop, List.length_take, List.length_append, List.length_set, List.length_cons, List.length_nil] at *; omega)
            | (apply cx_is; first | exact hI _) | (apply cx_do (i := 0) rfl; first | exact hI _)
            | (apply ab_i; intro bl) | (apply as_i; intro va vk vc hva) | (apply av_i; intro v) | (apply ac_i; intro bl cap hcap)
            | (apply bo_l) | (apply ch_r; apply sp_i; assumption) | (apply ch_r; apply sp_i; intro i hi; exact ⟨rfl, rfl, rfl⟩) | (apply nx_i; all_goals intro hnx)
            | (apply Ia.hit; assumption) | (apply Ia.miss; assumption)
            | (apply rt_is; exact rfl) | (apply rt_do; exact rfl; (repeat (first | exact List.nil_sublist _ | apply List.Sublist.cons_cons))) | (apply iv; assumption)
            | (apply dw_q mixed hC hGL (by kernel_rfl))
            | (apply cq; assumption; (first | exact hI _); exact rfl))
        all_goals (try conv => whnf)
        refine nxt (i + 1, out ++ (s.take (i + 1)).drop i) ?_ ?_ ⟨rfl, rfl, rfl, trivial⟩ rfl
        · refine ⟨hlt, ?_, ?_⟩
          · show (out ++ (s.take (i + 1)).drop i).length ≤ i + 1
            rw [List.length_append, List.length_drop, List.length_take]; omega
          · show out ++ (s.take (i + 1)).drop i ++ decS (s.drop (i + 1)) = decS s
            rw [List.append_assoc, List.drop_take, show i + 1 - i = 1 by omega, ← dec_one hlt (.inr (.inl (by omega)))]; exact hd
        · show s.length - (i + 1) < s.length - i; omega
    · repeat' (first
        | (conv => whnf); first
          | (apply ch_l; apply sp_i; first | exact rfl | omega | exact ⟨rfl, rfl, by omega⟩ | exact ⟨rfl, by omega⟩ | exact ⟨rfl, by omega, by omega, by omega⟩ | exact ⟨⟨_, rfl⟩, by omega⟩ | exact ⟨⟨_, rfl⟩, by omega, by omega⟩ | assumption | decide | (simp only [List.length_drop, List.length_take, List.length_append, List.length_set, List.length_cons, List.length_nil, OrOk] at *; omega) | (simp; omega))
          | (apply sp_i; first | exact rfl | omega | exact ⟨rfl, rfl, by omega⟩ | exact ⟨rfl, by omega⟩ | exact ⟨rfl, by omega, by omega, by omega⟩ | exact ⟨⟨_, rfl⟩, by omega⟩ | exact ⟨⟨_, rfl⟩, by omega, by omega⟩ | assumption | decide | (simp only [List.length_drop, List.length_take, List.length_append, List.length_set, List.length_cons, List.length_nil, OrOk] at *; omega) | (simp; omega))
          | (apply sc_true) | (apply sc_false)
          | (first | apply sc_lt | apply sc_nlt | apply sc_eq | apply sc_neq | apply sc_nil | apply sc_nnil | apply sc_seq | apply sc_nseq); all_goals (intro hb; try (first | (exfalso; omega) | exact absurd rfl hb | exact absurd hb (by decide) | exact absurd hb (by assumption) | exact absurd (by assumption) hb | (exfalso; simp only [List.length_cons, List.length_nil, List.length_append] at hb; omega)))
          | (apply sc_not) | (apply sc_or) | (apply sc_i; all_goals intro hb)
          | (first | apply ix_nat | apply ix_int); first | omega | (simp only [List.length_drop, List.length_take, List.length_append, List.length_set, List.length_cons, List.length_nil] at *; omega)
          | (apply bx_i; intro hbd) | (apply gt_i; assumption; exact rfl)
          | (first | apply sd_nat | apply sd_int | apply sl_nat | apply sl_int); first | omega | (simp only [List.length_drop, List.length_take, List.length_append, List.length_set, List.length_cons, List.length_nil] at *; omega)
          | (apply cx_is; first | exact hI _) | (apply cx_do (i := 0) rfl; first | exact hI _)
          | (apply ab_i; intro bl) | (apply as_i; intro va vk vc hva) | (apply av_i; intro v) | (apply ac_i; intro bl cap hcap)
          | (apply bo_l) | (apply ch_r; apply sp_i; assumption) | (apply ch_r; apply sp_i; intro i hi; exact ⟨rfl, rfl, rfl⟩) | (apply nx_i; all_goals intro hnx)
          | (apply Ia.hit; assumption) | (apply Ia.miss; assumption)
          | (apply rt_is; exact rfl) | (apply rt_do; exact rfl; (repeat (first | exact List.nil_sublist _ | apply List.Sublist.cons_cons))) | (apply iv; assumption)
          | (apply dw_q mixed hC hGL (by kernel_rfl))
          | (apply cq; assumption; (first | exact hI _); exact rfl))
      all_goals (try conv => whnf)
      refine nxt (i + 1, out ++ (s.take (i + 1)).drop i) ?_ ?_ ⟨rfl, rfl, rfl, trivial⟩ rfl
      · refine ⟨hlt, ?_, ?_⟩
        · show (out ++ (s.take (i + 1)).drop i).length ≤ i + 1
          rw [List.length_append, List.length_drop, List.length_take]; omega
        · show out ++ (s.take (i + 1)).drop i ++ decS (s.drop (i + 1)) = decS s
          rw [List.append_assoc, List.drop_take, show i + 1 - i = 1 by omega, ← dec_one hlt (.inl hk)]; exact hd
      · show s.length - (i + 1) < s.length - i; omega
  · have h9 : out = decS s := by rw [← hd, List.drop_eq_nil_of_le (by omega), decS_nil, List.append_nil]
    repeat' (first
      | (conv => whnf); first
        | (apply ch_l; apply sp_i; first | exact rfl | omega | exact ⟨rfl, rfl, by omega⟩ | exact ⟨rfl, by omega⟩ | exact ⟨rfl, by omega, by omega, by omega⟩ | exact ⟨⟨_, rfl⟩, by omega⟩ | exact ⟨⟨_, rfl⟩, by omega, by omega⟩ | assumption | decide | (simp only [List.length_drop, List.length_take, List.length_append, List.length_set, List.length_cons, List.length_nil, OrOk] at *; omega) | (simp; omega))
        | (apply sp_i; first | exact rfl | omega | exact ⟨rfl, rfl, by omega⟩ | exact ⟨rfl, by omega⟩ | exact ⟨rfl, by omega, by omega, by omega⟩ | exact ⟨⟨_, rfl⟩, by omega⟩ | exact ⟨⟨_, rfl⟩, by omega, by omega⟩ | assumption | decide | (simp only [List.length_drop, List.length_take, List.length_append, List.length_set, List.length_cons, List.length_nil, OrOk] at *; omega) | (simp; omega))
        | (apply sc_true) | (apply sc_false)
        | (first | apply sc_lt | apply sc_nlt | apply sc_eq | apply sc_neq | apply sc_nil | apply sc_nnil | apply sc_seq | apply sc_nseq); all_goals (intro hb; try (first | (exfalso; omega) | exact absurd rfl hb | exact absurd hb (by decide) | exact absurd hb (by assumption) | exact absurd (by assumption) hb | (exfalso; simp only [List.length_cons, List.length_nil, List.length_append] at hb; omega)))
        | (apply sc_not) | (apply sc_or) | (apply sc_i; all_goals intro hb)
        | (first | apply ix_nat | apply ix_int); first | omega | (simp only [List.length_drop, List.length_take, List.length_append, List.length_set, List.length_cons, List.length_nil] at *; omega)
        | (apply bx_i; intro hbd) | (apply gt_i; assumption; exact rfl)
        | (first | apply sd_nat | apply sd_int | apply sl_nat | apply sl_int); first | omega | (simp only [List.length_drop, List.length_take, List.length_append, List.length_set, List.length_cons, List.length_nil] at *; omega)
        | (apply cx_is; first | fail) | (apply cx_do (i := 0) rfl; first | fail)
        | (apply ab_i; intro bl) | (apply as_i; intro va vk vc hva) | (apply av_i; intro v) | (apply ac_i; intro bl cap hcap)
        | (apply bo_l) | (apply ch_r; apply sp_i; assumption) | (apply ch_r; apply sp_i; intro i hi; exact ⟨rfl, rfl, rfl⟩) | (apply nx_i; all_goals intro hnx)
        | (apply Ia.hit; assumption) | (apply Ia.miss; assumption)
        | (apply rt_is; exact rfl) | (apply rt_do; exact rfl; (repeat (first | exact List.nil_sublist _ | apply List.Sublist.cons_cons))) | (apply iv; assumption)
        | (apply dw_q mixed hC hGL (by kernel_rfl))
        | (apply cq; assumption; (first | fail); exact rfl))
    all_goals (try conv => whnf)
    apply rt_is
    rw [h9]
end Go.Proofs.Ytlmihggafbmkaaa
