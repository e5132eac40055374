/- Languages: the reference's check (11.1). -/
import Derived.Test.YtlmihggafbmkaaaDoorLan
namespace Go.Proofs.YtlmihggafbmkaaaDoor
open Go Go.RowKit
theorem isS_byte {c : Nat} (h : c < 256) : isS (bytesI [(c : Int)]) = letterB c := by
  have hb : byteAt (bytesI [(c : Int)]) 0 = c := by
    unfold bytesI byteAt
    simp
    omega
  rw [Bool.eq_iff_iff, isS]
  have hl : (bytesI [(c : Int)]).length = 1 := rfl
  rw [hl]
  simp only [Bool.and_eq_true, allB_t, hl, decide_eq_true_eq]
  constructor
  · intro h; have := h.1 0 (by omega); rwa [hb] at this
  · intro h; exact ⟨fun j hj => by rw [show j = 0 by omega, hb]; exact h, by omega, by omega⟩
theorem letter_dig {c : Int} (h : letterB c = true) (hc : c ≠ 45) : (48 ≤ c ∧ c ≤ 57) ↔ c ≤ 57 := by
  rw [letterB_t] at h; omega
theorem langE_cons {b : Bool} {a : Nat} {x : List UInt8} {xs : List (List UInt8)} : langE b a (x :: xs) = if (pieceX b a x).isNone then langE false (a + x.length + 1) xs else pieceX b a x := by rw [langE]
theorem not_mem_byte {x : List UInt8} (h : (45 : UInt8) ∉ x) {j : Nat} (hj : j < x.length) : byteAt x j ≠ 45 := by
  intro e
  rw [byteAt_getElem hj] at e
  exact h (by rw [← show x[j] = 45 from UInt8.toNat_inj.1 (by rw [e]; rfl)]; exact List.getElem_mem hj)
theorem pieceX_bad {first : Bool} {a : Nat} {x : List UInt8} {i : Nat} (hi : i < x.length) (hb : lgB first (byteAt x i : Int) = false) (h0 : ∀ j, j < i → lgB first (byteAt x j : Int) = true) : pieceX first a x = .at 3 ((a : Int) + i) := by
  have hf : fstB (fun c => !lgB first c) x = i := fstB_at hi (by rw [hb]; rfl) (fun j hj => by rw [h0 j hj]; rfl)
  unfold pieceX
  rw [hf, if_pos (by omega)]
theorem pieceX_good {first : Bool} {a : Nat} {x : List UInt8} (h0 : ∀ j, j < x.length → lgB first (byteAt x j : Int) = true) : pieceX first a x = if x.length = 0 then .at 7 a else if 8 < x.length then .at 4 a else .none := by
  have hf : fstB (fun c => !lgB first c) x = -1 := fstB_none (fun j hj => by rw [h0 j hj]; rfl)
  unfold pieceX
  rw [hf, if_neg (by omega)]
theorem splS_lens (c : UInt8) : ∀ s : List UInt8, (splS c s).length ≤ s.length + 1 ∧ ∀ p, p ∈ splS c s → p.length ≤ s.length
  | [] => ⟨Nat.le_refl _, fun p h => by simp [splS] at h; subst h; exact Nat.le_refl _⟩
  | x :: t => by
    obtain ⟨h1, h2⟩ := splS_lens c t
    by_cases hx : x = c
    · rw [splS, if_pos hx]
      refine ⟨by simp only [List.length_cons]; omega, fun p hp => ?_⟩
      rcases List.mem_cons.1 hp with rfl | hp
      · simp
      · have := h2 p hp; simp only [List.length_cons]; omega
    · rw [splS, if_neg hx]
      cases h3 : splS c t with
      | nil => exact absurd h3 (splS_ne c t)
      | cons q qs =>
        rw [h3] at h1 h2
        refine ⟨by simp only [List.length_cons] at *; omega, fun p hp => ?_⟩
        rcases List.mem_cons.1 hp with rfl | hp
        · have := h2 q (by simp); simp only [List.length_cons]; omega
        · have := h2 p (by simp [hp]); simp only [List.length_cons]; omega
set_option maxRecDepth 20000
set_option maxHeartbeats 4000000
set_option linter.unusedSimpArgs false
set_option linter.unusedVariables false
attribute [local irreducible] AWp AOps byteAt SrcOK OrOk GloAll FnSpec
attribute [local irreducible] splS langE lgB isS letterB pieceX
theorem ref_LangRight {G : Glo} {m : Int} (hM : GloAll G (maxTy m)) (s : List UInt8) (hl : s.length ≤ 300) : FnIs Tryd.prog G 94 [.str s] (.agg [.int .i64 (langX s).e, .int .i64 (langX s).p]) := by
  have h1 := split_list (G := G) hM s 45 (by omega)
  have hgd := ref_Good (G := G)
  have hmem : ∀ k, k < (splS 45 s).length → (45 : UInt8) ∉ (splS 45 s).getD k [] := fun k hk => by
    rw [List.getD_eq_getElem?_getD, List.getElem?_eq_getElem hk]
    exact splS_mem (List.getElem_mem hk)
  have hX : langX s = langE true 0 (splS 45 s) := rfl
  have hlen : ∀ p, p ∈ splS 45 s → p.length ≤ 300 := fun p hp => Nat.le_trans ((splS_lens 45 s).2 p hp) hl
  have hPl : (splS 45 s).length ≤ 301 := by have := (splS_lens 45 s).1; omega
  generalize splS 45 s = P at *
  have hGL : GloAll G [] := gloAll_nil
  refine fn_x Tryd.func94 Tryd.call94 rfl rfl rfl rfl hGL ?_
  intro C hC
  repeat' (first
    | (conv => whnf); first
      | (apply ch_l; apply sp_i; first | exact rfl | omega | exact ⟨rfl, rfl, by omega⟩ | exact ⟨rfl, by omega⟩ | exact ⟨rfl, by omega, by omega, by omega⟩ | exact ⟨⟨_, rfl⟩, by omega⟩ | exact ⟨⟨_, rfl⟩, by omega, by omega⟩ | decide | (simp only [List.length_drop, List.length_take, List.length_append, List.length_set, List.length_cons, List.length_nil, OrOk] at *; omega) | (simp; omega))
      | (apply sp_i; first | exact rfl | omega | exact ⟨rfl, rfl, by omega⟩ | exact ⟨rfl, by omega⟩ | exact ⟨rfl, by omega, by omega, by omega⟩ | exact ⟨⟨_, rfl⟩, by omega⟩ | exact ⟨⟨_, rfl⟩, by omega, by omega⟩ | decide | (simp only [List.length_drop, List.length_take, List.length_append, List.length_set, List.length_cons, List.length_nil, OrOk] at *; omega) | (simp; omega))
      | (apply sc_true) | (apply sc_false)
      | (first | apply sc_lt | apply sc_nlt | apply sc_eq | apply sc_neq | apply sc_nil | apply sc_nnil | apply sc_seq | apply sc_nseq); all_goals (intro hb; try (first | (exfalso; omega) | exact absurd rfl hb | exact absurd hb (by decide) | exact absurd hb (by assumption) | exact absurd (by assumption) hb | (exfalso; simp only [List.length_cons, List.length_nil, List.length_append] at hb; omega)))
      | (apply sc_not) | (apply sc_or) | (apply sc_i; all_goals intro hb)
      | (first | apply ix_nat | apply ix_int); first | omega | (simp only [List.length_drop, List.length_take, List.length_append, List.length_set, List.length_cons, List.length_nil] at *; omega)
      | (apply bx_i; intro hbd)
      | (first | apply sd_nat | apply sd_int | apply sl_nat | apply sl_int); first | omega | (simp only [List.length_drop, List.length_take, List.length_append, List.length_set, List.length_cons, List.length_nil] at *; omega)
      | (apply cx_is; first | exact h1) | (apply cx_do (i := 0) rfl; first | exact h1)
      | (apply ab_i; intro bl) | (apply as_i; intro va vk vc) | (apply av_i; intro v) | (apply ac_i; intro bl cap hcap)
      | (apply bo_l) | (apply ch_r; apply sp_i; intro i hi; exact ⟨rfl, rfl, rfl⟩) | (apply nx_i; all_goals intro hnx)
      | (apply Ia.hit; assumption) | (apply Ia.miss; assumption)
      | (apply rt_is; exact rfl) | (apply rt_do; exact rfl; (repeat (first | exact List.nil_sublist _ | apply List.Sublist.cons_cons))) | (apply iv; assumption)
      | (apply dw_q mixed hC hGL (by kernel_rfl))
      | (apply cq; assumption; (first | exact h1); exact rfl))
  all_goals (try conv => whnf)
  rename Nat => bl0
  refine lp hC hGL (fun (x : Nat × Nat) => [(2, .own 0 (.pointer (some ⟨bl0, 0, none⟩))), (3, .int .i64 x.2), (9, .list 1 P.length (strsF P)), (10, .int .i64 P.length), (11, .int .i64 x.1)]) (fun _ => [.cells bl0 (some 28) [.int .i64 0, .int .i64 0]]) (fun x => x.1 ≤ P.length ∧ x.2 ≤ 400 * x.1 ∧ langX s = langE (decide (x.1 = 0)) x.2 (P.drop x.1)) (fun x => P.length - x.1) (0, 0) ?_ (by repeat (first | exact trivial | refine And.intro rfl ?_)) rfl ?_
  · exact ⟨Nat.zero_le _, Nat.zero_le _, hX⟩
  rintro ⟨k, a⟩ ⟨g1, g2, g3⟩
  dsimp only at g1 g2 g3 ⊢
  by_cases hk : k < P.length
  · have hx : ∃ x, P.getD k [] = x ∧ P.drop k = x :: P.drop (k + 1) ∧ (45 : UInt8) ∉ x ∧ x.length ≤ 300 := by
      refine ⟨P.getD k [], rfl, ?_, hmem k hk, ?_⟩
      · rw [List.drop_eq_getElem_cons hk, List.getD_eq_getElem?_getD, List.getElem?_eq_getElem hk]; rfl
      · rw [List.getD_eq_getElem?_getD, List.getElem?_eq_getElem hk]; exact hlen _ (List.getElem_mem hk)
    obtain ⟨x, hx, hd, hm, hxl⟩ := hx
    have hxe : strsF P k = .str x := by unfold strsF; rw [hx]
    rw [hd, langE_cons] at g3
    have hkl : k ≤ 400 * k := by omega
    repeat' (first
      | (conv => whnf); first
        | (apply ch_l; apply sp_i; first | exact rfl | omega | exact ⟨rfl, rfl, by omega⟩ | exact ⟨rfl, by omega⟩ | exact ⟨rfl, by omega, by omega, by omega⟩ | exact ⟨⟨_, rfl⟩, by omega⟩ | exact ⟨⟨_, rfl⟩, by omega, by omega⟩ | decide | (simp only [List.length_drop, List.length_take, List.length_append, List.length_set, List.length_cons, List.length_nil, OrOk] at *; omega) | (simp; omega))
        | (apply sp_i; first | exact rfl | omega | exact ⟨rfl, rfl, by omega⟩ | exact ⟨rfl, by omega⟩ | exact ⟨rfl, by omega, by omega, by omega⟩ | exact ⟨⟨_, rfl⟩, by omega⟩ | exact ⟨⟨_, rfl⟩, by omega, by omega⟩ | decide | (simp only [List.length_drop, List.length_take, List.length_append, List.length_set, List.length_cons, List.length_nil, OrOk] at *; omega) | (simp; omega))
        | (apply sc_true) | (apply sc_false)
        | (first | apply sc_lt | apply sc_nlt | apply sc_eq | apply sc_neq | apply sc_nil | apply sc_nnil | apply sc_seq | apply sc_nseq); all_goals (intro hb; try (first | (exfalso; omega) | exact absurd rfl hb | exact absurd hb (by decide) | exact absurd hb (by assumption) | exact absurd (by assumption) hb | (exfalso; simp only [List.length_cons, List.length_nil, List.length_append] at hb; omega)))
        | (apply sc_not) | (apply sc_or) | (apply sc_i; all_goals intro hb)
        | (first | apply ix_nat | apply ix_int); first | omega | (simp only [List.length_drop, List.length_take, List.length_append, List.length_set, List.length_cons, List.length_nil] at *; omega)
        | (apply bx_i; intro hbd)
        | (first | apply sd_nat | apply sd_int | apply sl_nat | apply sl_int); first | omega | (simp only [List.length_drop, List.length_take, List.length_append, List.length_set, List.length_cons, List.length_nil] at *; omega)
        | (apply cx_is; first | exact hgd) | (apply cx_do (i := 0) rfl; first | exact hgd)
        | (apply ab_i; intro bl) | (apply as_i; intro va vk vc) | (apply av_i; intro v) | (apply ac_i; intro bl cap hcap)
        | (apply bo_l) | (apply ch_r; apply sp_i; intro i hi; exact ⟨rfl, rfl, rfl⟩) | (apply nx_i; all_goals intro hnx)
        | (apply Ia.hit; assumption) | (apply Ia.miss; assumption)
        | (apply rt_is; exact rfl) | (apply rt_do; exact rfl; (repeat (first | exact List.nil_sublist _ | apply List.Sublist.cons_cons))) | (apply iv; assumption)
        | (apply dw_q mixed hC hGL (by kernel_rfl))
        | (apply cq; assumption; (first | exact hgd); exact rfl))
    all_goals (try conv => whnf)
    rw [hx] at *
    rw [hxe] at *
    refine lp hC hGL (fun (i : Nat) => [(2, .own 0 (.pointer (some ⟨bl0, 0, none⟩))), (3, .int .i64 a), (4, .int .i64 k), (5, .str x), (9, .list 1 P.length (strsF P)), (10, .int .i64 P.length), (11, .int .i64 k), (17, .own 1 (.slice (some ⟨bl, 0, none⟩) x.length cap)), (18, .int .i64 x.length), (19, .int .i64 i)]) (fun _ => [.cells bl0 (some 28) [.int .i64 0, .int .i64 0], .buf bl x cap]) (fun i => i ≤ x.length ∧ ∀ j, j < i → lgB (decide (k = 0)) (byteAt x j : Int) = true) (fun i => x.length - i) 0 ?_ (by repeat (first | exact trivial | refine And.intro rfl ?_)) rfl ?_
    · exact ⟨Nat.zero_le _, by intro j hj; omega⟩
    rintro i ⟨hi, hb0⟩
    have hI : i < x.length → FnIs Tryd.prog G 13 [.str (bytesI [(byteAt x i : Int)])] (.bool (letterB (byteAt x i))) := fun h => by
      have := ref_Is (G := G) (bytesI [(byteAt x i : Int)]) (by show 1 ≤ _; omega)
      rwa [isS_byte (byteAt_lt _ _)] at this
    have hW := ref_within (G := G) (byteAt x i : Int) 48 57
    repeat' (first
      | (conv => whnf); first
        | (apply ch_l; apply sp_i; first | exact rfl | omega | exact ⟨rfl, rfl, by omega⟩ | exact ⟨rfl, by omega⟩ | exact ⟨rfl, by omega, by omega, by omega⟩ | exact ⟨⟨_, rfl⟩, by omega⟩ | exact ⟨⟨_, rfl⟩, by omega, by omega⟩ | decide | (simp only [List.length_drop, List.length_take, List.length_append, List.length_set, List.length_cons, List.length_nil, OrOk] at *; omega) | (simp; omega))
        | (apply sp_i; first | exact rfl | omega | exact ⟨rfl, rfl, by omega⟩ | exact ⟨rfl, by omega⟩ | exact ⟨rfl, by omega, by omega, by omega⟩ | exact ⟨⟨_, rfl⟩, by omega⟩ | exact ⟨⟨_, rfl⟩, by omega, by omega⟩ | decide | (simp only [List.length_drop, List.length_take, List.length_append, List.length_set, List.length_cons, List.length_nil, OrOk] at *; omega) | (simp; omega))
        | (apply sc_true) | (apply sc_false)
        | (first | apply sc_lt | apply sc_nlt | apply sc_eq | apply sc_neq | apply sc_nil | apply sc_nnil | apply sc_seq | apply sc_nseq); all_goals (intro hb; try (first | (exfalso; omega) | exact absurd rfl hb | exact absurd hb (by decide) | exact absurd hb (by assumption) | exact absurd (by assumption) hb | (exfalso; simp only [List.length_cons, List.length_nil, List.length_append] at hb; omega)))
        | (apply sc_not) | (apply sc_or) | (apply sc_i; all_goals intro hb)
        | (first | apply ix_nat | apply ix_int); first | omega | (simp only [List.length_drop, List.length_take, List.length_append, List.length_set, List.length_cons, List.length_nil] at *; omega)
        | (apply bx_i; intro hbd)
        | (first | apply sd_nat | apply sd_int | apply sl_nat | apply sl_int); first | omega | (simp only [List.length_drop, List.length_take, List.length_append, List.length_set, List.length_cons, List.length_nil] at *; omega)
        | (apply cx_is; first | exact hgd) | (apply cx_do (i := 0) rfl; first | exact hgd)
        | (apply ab_i; intro bl) | (apply as_i; intro va vk vc) | (apply av_i; intro v) | (apply ac_i; intro bl cap hcap)
        | (apply bo_l) | (apply ch_r; apply sp_i; intro i hi; exact ⟨rfl, rfl, rfl⟩) | (apply nx_i; all_goals intro hnx)
        | (apply Ia.hit; assumption) | (apply Ia.miss; assumption)
        | (apply rt_is; exact rfl) | (apply rt_do; exact rfl; (repeat (first | exact List.nil_sublist _ | apply List.Sublist.cons_cons))) | (apply iv; assumption)
        | (apply dw_q mixed hC hGL (by kernel_rfl))
        | (apply cq; assumption; (first | exact hgd); exact rfl))
    all_goals (try conv => whnf)
    · refine op1_run hC hGL (rv_bytes [_] rfl (by intro v hv; simp only [List.mem_cons, List.not_mem_nil, or_false] at hv; omega) rfl rfl rfl rfl rfl rfl) rfl rfl ?_
      repeat' (first
        | (conv => whnf); first
          | (apply ch_l; apply sp_i; first | exact rfl | omega | exact ⟨rfl, rfl, by omega⟩ | exact ⟨rfl, by omega⟩ | exact ⟨rfl, by omega, by omega, by omega⟩ | exact ⟨⟨_, rfl⟩, by omega⟩ | exact ⟨⟨_, rfl⟩, by omega, by omega⟩ | decide | (simp only [List.length_drop, List.length_take, List.length_append, List.length_set, List.length_cons, List.length_nil, OrOk] at *; omega) | (simp; omega))
          | (apply sp_i; first | exact rfl | omega | exact ⟨rfl, rfl, by omega⟩ | exact ⟨rfl, by omega⟩ | exact ⟨rfl, by omega, by omega, by omega⟩ | exact ⟨⟨_, rfl⟩, by omega⟩ | exact ⟨⟨_, rfl⟩, by omega, by omega⟩ | decide | (simp only [List.length_drop, List.length_take, List.length_append, List.length_set, List.length_cons, List.length_nil, OrOk] at *; omega) | (simp; omega))
          | (apply sc_true) | (apply sc_false)
          | (first | apply sc_lt | apply sc_nlt | apply sc_eq | apply sc_neq | apply sc_nil | apply sc_nnil | apply sc_seq | apply sc_nseq); all_goals (intro hb; try (first | (exfalso; omega) | exact absurd rfl hb | exact absurd hb (by decide) | exact absurd hb (by assumption) | exact absurd (by assumption) hb | (exfalso; simp only [List.length_cons, List.length_nil, List.length_append] at hb; omega)))
          | (apply sc_not) | (apply sc_or) | (apply sc_i; all_goals intro hb)
          | (first | apply ix_nat | apply ix_int); first | omega | (simp only [List.length_drop, List.length_take, List.length_append, List.length_set, List.length_cons, List.length_nil] at *; omega)
          | (apply bx_i; intro hbd)
          | (first | apply sd_nat | apply sd_int | apply sl_nat | apply sl_int); first | omega | (simp only [List.length_drop, List.length_take, List.length_append, List.length_set, List.length_cons, List.length_nil] at *; omega)
          | (apply cx_is; first | exact hI (by omega) | exact hW) | (apply cx_do (i := 0) rfl; first | exact hI (by omega) | exact hW)
          | (apply ab_i; intro bl) | (apply as_i; intro va vk vc) | (apply av_i; intro v) | (apply ac_i; intro bl cap hcap)
          | (apply bo_l) | (apply ch_r; apply sp_i; intro i hi; exact ⟨rfl, rfl, rfl⟩) | (apply nx_i; all_goals intro hnx)
          | (apply Ia.hit; assumption) | (apply Ia.miss; assumption)
          | (apply rt_is; exact rfl) | (apply rt_do; exact rfl; (repeat (first | exact List.nil_sublist _ | apply List.Sublist.cons_cons))) | (apply iv; assumption)
          | (apply dw_q mixed hC hGL (by kernel_rfl))
          | (apply cq; assumption; (first | exact hI (by omega) | exact hW); exact rfl))
      all_goals (try conv => whnf)
      · apply rt_is
        rw [Bool.and_eq_true, decide_eq_true_eq, decide_eq_true_eq] at hb
        rw [g3, pieceX_bad (by omega) (lgB_f.2 (.inr ⟨by simp; omega, by omega⟩)) hb0]
        rfl
      · rw [Bool.and_eq_false_iff, decide_eq_false_iff_not, decide_eq_false_iff_not] at hb
        refine nxt (i + 1) ?_ ?_ (by repeat (first | exact trivial | refine And.intro rfl ?_)) rfl
        · refine ⟨by omega, below_succ hb0 (lgB_t.2 ⟨by assumption, fun _ => ?_⟩)⟩
          have := (letter_dig (c := (byteAt x i : Int)) (by assumption) (by have := not_mem_byte hm (j := i) (by omega); omega))
          omega
        · omega
      · refine nxt (i + 1) ?_ ?_ (by repeat (first | exact trivial | refine And.intro rfl ?_)) rfl
        · exact ⟨by omega, below_succ hb0 (lgB_t.2 ⟨by assumption, fun h => by simp at h; omega⟩)⟩
        · omega
      · apply rt_is
        rw [g3, pieceX_bad (by omega) (lgB_f.2 (.inl hb)) hb0]
        rfl
    · apply rt_is
      have hp := pieceX_good (first := decide (k = 0)) (a := a) (x := x) (fun j hj => hb0 j (by omega))
      rw [if_pos (by omega)] at hp
      rw [g3, hp]
      rfl
    · apply rt_is
      have hp := pieceX_good (first := decide (k = 0)) (a := a) (x := x) (fun j hj => hb0 j (by omega))
      rw [if_neg (by omega), if_pos (by omega)] at hp
      rw [g3, hp]
      rfl
    · have hp := pieceX_good (first := decide (k = 0)) (a := a) (x := x) (fun j hj => hb0 j (by omega))
      rw [if_neg (by omega), if_neg (by omega)] at hp
      rw [hp, if_pos (show Err.none.isNone = true from rfl)] at g3
      refine nxs (k + 1, a + x.length + 1) ⟨by omega, by dsimp only; omega, ?_⟩ (by dsimp only; omega) ⟨rfl, ?_, rfl, rfl, rfl, trivial⟩ (by repeat (first | exact List.nil_sublist _ | apply List.Sublist.cons_cons | apply List.Sublist.cons))
      · dsimp only
        rw [g3]
        simp
      · exact congrArg (fun z => some (AVal.int .i64 z)) (by dsimp only; omega)
  · repeat' (first
      | (conv => whnf); first
        | (apply ch_l; apply sp_i; first | exact rfl | omega | exact ⟨rfl, rfl, by omega⟩ | exact ⟨rfl, by omega⟩ | exact ⟨rfl, by omega, by omega, by omega⟩ | exact ⟨⟨_, rfl⟩, by omega⟩ | exact ⟨⟨_, rfl⟩, by omega, by omega⟩ | decide | (simp only [List.length_drop, List.length_take, List.length_append, List.length_set, List.length_cons, List.length_nil, OrOk] at *; omega) | (simp; omega))
        | (apply sp_i; first | exact rfl | omega | exact ⟨rfl, rfl, by omega⟩ | exact ⟨rfl, by omega⟩ | exact ⟨rfl, by omega, by omega, by omega⟩ | exact ⟨⟨_, rfl⟩, by omega⟩ | exact ⟨⟨_, rfl⟩, by omega, by omega⟩ | decide | (simp only [List.length_drop, List.length_take, List.length_append, List.length_set, List.length_cons, List.length_nil, OrOk] at *; omega) | (simp; omega))
        | (apply sc_true) | (apply sc_false)
        | (first | apply sc_lt | apply sc_nlt | apply sc_eq | apply sc_neq | apply sc_nil | apply sc_nnil | apply sc_seq | apply sc_nseq); all_goals (intro hb; try (first | (exfalso; omega) | exact absurd rfl hb | exact absurd hb (by decide) | exact absurd hb (by assumption) | exact absurd (by assumption) hb | (exfalso; simp only [List.length_cons, List.length_nil, List.length_append] at hb; omega)))
        | (apply sc_not) | (apply sc_or) | (apply sc_i; all_goals intro hb)
        | (first | apply ix_nat | apply ix_int); first | omega | (simp only [List.length_drop, List.length_take, List.length_append, List.length_set, List.length_cons, List.length_nil] at *; omega)
        | (apply bx_i; intro hbd)
        | (first | apply sd_nat | apply sd_int | apply sl_nat | apply sl_int); first | omega | (simp only [List.length_drop, List.length_take, List.length_append, List.length_set, List.length_cons, List.length_nil] at *; omega)
        | (apply cx_is; first | exact hgd) | (apply cx_do (i := 0) rfl; first | exact hgd)
        | (apply ab_i; intro bl) | (apply as_i; intro va vk vc) | (apply av_i; intro v) | (apply ac_i; intro bl cap hcap)
        | (apply bo_l) | (apply ch_r; apply sp_i; intro i hi; exact ⟨rfl, rfl, rfl⟩) | (apply nx_i; all_goals intro hnx)
        | (apply Ia.hit; assumption) | (apply Ia.miss; assumption)
        | (apply rt_is; exact rfl) | (apply rt_do; exact rfl; (repeat (first | exact List.nil_sublist _ | apply List.Sublist.cons_cons))) | (apply iv; assumption)
        | (apply dw_q mixed hC hGL (by kernel_rfl))
        | (apply cq; assumption; (first | exact hgd); exact rfl))
    all_goals (try conv => whnf)
    apply rt_is
    rw [g3, List.drop_eq_nil_of_le (by omega), langE]
    rfl
end Go.Proofs.YtlmihggafbmkaaaDoor
