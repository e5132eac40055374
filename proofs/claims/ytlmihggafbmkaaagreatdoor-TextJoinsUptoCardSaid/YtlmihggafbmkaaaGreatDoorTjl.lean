/- The law TextJoins (6.2). -/
import Derived.Test.YtlmihggafbmkaaaGreatDoorTjp
namespace Go.Proofs.YtlmihggafbmkaaaGreatDoor
open Go Go.RowKit
set_option maxRecDepth 20000
set_option maxHeartbeats 4000000
set_option linter.unusedSimpArgs false
set_option linter.unusedVariables false
attribute [local irreducible] AWp AOps byteAt SrcOK OrOk GloAll FnSpec
attribute [local irreducible] escF escS joinT joinE joinPT joinPE
theorem joinE_p (l : List (List UInt8)) : (joinE l).p = -1 := by
  by_cases h : l = []
  · subst h; rw [joinE_nil]; rfl
  · rw [joinE_cons h]; rfl
theorem law_TextJoins {G : Glo} (hU : GloAll G errTy) (L : List (List (List UInt8))) (hs : Small L) : FnIs Tryz.prog G 3 [.list 1 L.length (partsF L)] (.bool true) := by
  have h1 := text_JoinParts (G := G) L hs
  have h2 := ref_JoinParts (G := G) L hs
  have h3 := fun k => text_Join (G := G) (L.getD k []) (hs.k k).1 (hs.k k).2
  have h4 := fun k => ref_Join (G := G) (L.getD k []) (hs.k k).1 (hs.k k).2
  have h5 := placed_ok (G := G) hU (joinPE L)
  have h6 := fun k => bare_ok (G := G) hU (joinE (L.getD k [])) (joinE_p _)
  have hn := hs.n
  have hk := hs.k
  rw [← unown_uri] at h5
  have h6 := fun k => (show FnIs Tryz.prog G 10 [unown (joinE (L.getD k [])).A, .int .i64 (joinE (L.getD k [])).e] (.bool true) by rw [unown_uri]; exact h6 k)
  have hGL : GloAll G [] := gloAll_nil
  refine fn_x Tryz.func3 Tryz.call3 rfl rfl rfl rfl hGL ?_
  intro C hC
  repeat' (first
    | (conv => whnf); first
      | (apply ch_l; apply sp_i; first | exact rfl | omega | exact ⟨rfl, rfl, by omega⟩ | exact ⟨rfl, by omega⟩ | exact ⟨rfl, by omega, by omega, by omega⟩ | exact ⟨⟨_, rfl⟩, by omega⟩ | exact ⟨⟨_, rfl⟩, by omega, by omega⟩ | assumption | decide | (simp only [List.length_drop, List.length_take, List.length_append, List.length_set, List.length_cons, List.length_nil, OrOk] at *; omega) | (simp; omega))
      | (apply sp_i; first | exact rfl | omega | exact ⟨rfl, rfl, by omega⟩ | exact ⟨rfl, by omega⟩ | exact ⟨rfl, by omega, by omega, by omega⟩ | exact ⟨⟨_, rfl⟩, by omega⟩ | exact ⟨⟨_, rfl⟩, by omega, by omega⟩ | assumption | decide | (simp only [List.length_drop, List.length_take, List.length_append, List.length_set, List.length_cons, List.length_nil, OrOk] at *; omega) | (simp; omega))
      | (apply sc_true) | (apply sc_false)
      | (first | apply sc_lt | apply sc_nlt | apply sc_eq | apply sc_neq | apply sc_nil | apply sc_nnil | apply sc_seq | apply sc_nseq); all_goals (intro hb; try (first | (exfalso; omega) | exact absurd rfl hb | exact absurd hb (by decide) | exact absurd hb (by assumption) | exact absurd (by assumption) hb | (exfalso; simp only [List.length_cons, List.length_nil, List.length_append] at hb; omega)))
      | (apply sc_not) | (apply sc_or) | (apply sc_i; all_goals intro hb)
      | (first | apply ix_nat | apply ix_int); first | omega | (simp only [List.length_drop, List.length_take, List.length_append, List.length_set, List.length_cons, List.length_nil] at *; omega)
      | (apply bx_i; intro hbd) | (apply gt_i; assumption; exact rfl)
      | (first | apply sd_nat | apply sd_int | apply sl_nat | apply sl_int); first | omega | (simp only [List.length_drop, List.length_take, List.length_append, List.length_set, List.length_cons, List.length_nil] at *; omega)
      | (apply cx_is; first | fail) | (apply cx_do (i := 0) rfl; first | fail)
      | (apply ab_i; intro bl) | (apply as_i; intro va vk vc hva) | (apply av_i; intro v) | (apply ac_i; intro bl cap hcap)
      | (apply bo_l) | (apply ch_r; apply sp_i; assumption) | (apply ch_r; apply sp_i; intro i hi; exact ⟨rfl, rfl, rfl⟩) | (apply nx_i; all_goals intro hnx)
      | (apply Ia.hit; assumption) | (apply Ia.miss; assumption)
      | (apply rt_is; exact rfl) | (apply rt_do; exact rfl; (repeat (first | exact List.nil_sublist _ | apply List.Sublist.cons_cons))) | (apply iv; assumption)
      | (apply dw_q mixed hC hGL (by kernel_rfl))
      | (apply cq; assumption; (first | fail); exact rfl))
  all_goals (try conv => whnf)
  refine lp hC hGL (fun x : Nat × Int => [(0, .list 1 L.length (partsF L)), (3, .int .i64 x.2), (20, .list 1 L.length (partsF L)), (21, .int .i64 (L.length : Nat)), (22, .int .i64 (x.1 : Nat))]) (fun _ => []) (fun x => x.1 ≤ L.length) (fun x => L.length - x.1) (0, (L.length : Int)) ?_ (by repeat (first | exact trivial | refine And.intro rfl ?_)) rfl ?_
  · exact Nat.zero_le _
  · rintro ⟨k, n⟩ hkl
    have hkl : k ≤ L.length := hkl
    repeat' (first
      | (conv => whnf); first
        | (apply ch_l; apply sp_i; first | exact rfl | omega | exact ⟨rfl, rfl, by omega⟩ | exact ⟨rfl, by omega⟩ | exact ⟨rfl, by omega, by omega, by omega⟩ | exact ⟨⟨_, rfl⟩, by omega⟩ | exact ⟨⟨_, rfl⟩, by omega, by omega⟩ | assumption | decide | (simp only [List.length_drop, List.length_take, List.length_append, List.length_set, List.length_cons, List.length_nil, OrOk] at *; omega) | (simp; omega))
        | (apply sp_i; first | exact rfl | omega | exact ⟨rfl, rfl, by omega⟩ | exact ⟨rfl, by omega⟩ | exact ⟨rfl, by omega, by omega, by omega⟩ | exact ⟨⟨_, rfl⟩, by omega⟩ | exact ⟨⟨_, rfl⟩, by omega, by omega⟩ | assumption | decide | (simp only [List.length_drop, List.length_take, List.length_append, List.length_set, List.length_cons, List.length_nil, OrOk] at *; omega) | (simp; omega))
        | (apply sc_true) | (apply sc_false)
        | (first | apply sc_lt | apply sc_nlt | apply sc_eq | apply sc_neq | apply sc_nil | apply sc_nnil | apply sc_seq | apply sc_nseq); all_goals (intro hb; try (first | (exfalso; omega) | exact absurd rfl hb | exact absurd hb (by decide) | exact absurd hb (by assumption) | exact absurd (by assumption) hb | (exfalso; simp only [List.length_cons, List.length_nil, List.length_append] at hb; omega)))
        | (apply sc_not) | (apply sc_or) | (apply sc_i; all_goals intro hb)
        | (first | apply ix_nat | apply ix_int); first | omega | (simp only [List.length_drop, List.length_take, List.length_append, List.length_set, List.length_cons, List.length_nil] at *; omega)
        | (apply bx_i; intro hbd) | (apply gt_i; assumption; exact rfl)
        | (first | apply sd_nat | apply sd_int | apply sl_nat | apply sl_int); first | omega | (simp only [List.length_drop, List.length_take, List.length_append, List.length_set, List.length_cons, List.length_nil] at *; omega)
        | (apply cx_is; first | fail) | (apply cx_do (i := 0) rfl; first | fail)
        | (apply ab_i; intro bl) | (apply as_i; intro va vk vc hva) | (apply av_i; intro v) | (apply ac_i; intro bl cap hcap)
        | (apply bo_l) | (apply ch_r; apply sp_i; assumption) | (apply ch_r; apply sp_i; intro i hi; exact ⟨rfl, rfl, rfl⟩) | (apply nx_i; all_goals intro hnx)
        | (apply Ia.hit; assumption) | (apply Ia.miss; assumption)
        | (apply rt_is; exact rfl) | (apply rt_do; exact rfl; (repeat (first | exact List.nil_sublist _ | apply List.Sublist.cons_cons))) | (apply iv; assumption)
        | (apply dw_q mixed hC hGL (by kernel_rfl))
        | (apply cq; assumption; (first | fail); exact rfl))
    all_goals (try conv => whnf)
    · have hb : ((k : Nat) : Int) < ((L.length : Nat) : Int) := hb
      refine ch_r ?_
      repeat' (first
        | (conv => whnf); first
          | (apply ch_l; apply sp_i; first | exact rfl | omega | exact ⟨rfl, rfl, by omega⟩ | exact ⟨rfl, by omega⟩ | exact ⟨rfl, by omega, by omega, by omega⟩ | exact ⟨⟨_, rfl⟩, by omega⟩ | exact ⟨⟨_, rfl⟩, by omega, by omega⟩ | assumption | decide | (simp only [List.length_drop, List.length_take, List.length_append, List.length_set, List.length_cons, List.length_nil, OrOk] at *; omega) | (simp; omega))
          | (apply sp_i; first | exact rfl | omega | exact ⟨rfl, rfl, by omega⟩ | exact ⟨rfl, by omega⟩ | exact ⟨rfl, by omega, by omega, by omega⟩ | exact ⟨⟨_, rfl⟩, by omega⟩ | exact ⟨⟨_, rfl⟩, by omega, by omega⟩ | assumption | decide | (simp only [List.length_drop, List.length_take, List.length_append, List.length_set, List.length_cons, List.length_nil, OrOk] at *; omega) | (simp; omega))
          | (apply sc_true) | (apply sc_false)
          | (first | apply sc_lt | apply sc_nlt | apply sc_eq | apply sc_neq | apply sc_nil | apply sc_nnil | apply sc_seq | apply sc_nseq); all_goals (intro hb; try (first | (exfalso; omega) | exact absurd rfl hb | exact absurd hb (by decide) | exact absurd hb (by assumption) | exact absurd (by assumption) hb | (exfalso; simp only [List.length_cons, List.length_nil, List.length_append] at hb; omega)))
          | (apply sc_not) | (apply sc_or) | (apply sc_i; all_goals intro hb)
          | (first | apply ix_nat | apply ix_int); first | omega | (simp only [List.length_drop, List.length_take, List.length_append, List.length_set, List.length_cons, List.length_nil] at *; omega)
          | (apply bx_i; intro hbd) | (apply gt_i; assumption; exact rfl)
          | (first | apply sd_nat | apply sd_int | apply sl_nat | apply sl_int); first | omega | (simp only [List.length_drop, List.length_take, List.length_append, List.length_set, List.length_cons, List.length_nil] at *; omega)
          | (apply cx_is; first | fail) | (apply cx_do (i := 0) rfl; first | fail)
          | (apply ab_i; intro bl) | (apply as_i; intro va vk vc hva) | (apply av_i; intro v) | (apply ac_i; intro bl cap hcap)
          | (apply bo_l) | (apply ch_r; apply sp_i; assumption) | (apply ch_r; apply sp_i; intro i hi; exact ⟨rfl, rfl, rfl⟩) | (apply nx_i; all_goals intro hnx)
          | (apply Ia.hit; assumption) | (apply Ia.miss; assumption)
          | (apply rt_is; exact rfl) | (apply rt_do; exact rfl; (repeat (first | exact List.nil_sublist _ | apply List.Sublist.cons_cons))) | (apply iv; assumption)
          | (apply dw_q mixed hC hGL (by kernel_rfl))
          | (apply cq; assumption; (first | fail); exact rfl))
      all_goals (try conv => whnf)
      refine lp hC hGL (fun x : Nat × Int => [(0, .list 1 L.length (partsF L)), (3, .int .i64 x.2), (20, .list 1 L.length (partsF L)), (21, .int .i64 (L.length : Nat)), (22, .int .i64 (k : Nat)), (30, .list 1 (L.getD k []).length (strsF (L.getD k []))), (31, .int .i64 ((L.getD k []).length : Nat)), (32, .int .i64 (x.1 : Nat))]) (fun _ => []) (fun x => x.1 ≤ (L.getD k []).length) (fun x => (L.getD k []).length - x.1) (0, IntKind.i64.wrap (n + ((L.getD k []).length : Nat))) ?_ (by repeat (first | exact trivial | refine And.intro rfl ?_)) rfl ?_
      · exact Nat.zero_le _
      · rintro ⟨j, n2⟩ hj
        have hj : j ≤ (L.getD k []).length := hj
        have hl5 := hk k
        repeat' (first
          | (conv => whnf); first
            | (apply ch_l; apply sp_i; first | exact rfl | omega | exact ⟨rfl, rfl, by omega⟩ | exact ⟨rfl, by omega⟩ | exact ⟨rfl, by omega, by omega, by omega⟩ | exact ⟨⟨_, rfl⟩, by omega⟩ | exact ⟨⟨_, rfl⟩, by omega, by omega⟩ | assumption | decide | (simp only [List.length_drop, List.length_take, List.length_append, List.length_set, List.length_cons, List.length_nil, OrOk] at *; omega) | (simp; omega))
            | (apply sp_i; first | exact rfl | omega | exact ⟨rfl, rfl, by omega⟩ | exact ⟨rfl, by omega⟩ | exact ⟨rfl, by omega, by omega, by omega⟩ | exact ⟨⟨_, rfl⟩, by omega⟩ | exact ⟨⟨_, rfl⟩, by omega, by omega⟩ | assumption | decide | (simp only [List.length_drop, List.length_take, List.length_append, List.length_set, List.length_cons, List.length_nil, OrOk] at *; omega) | (simp; omega))
            | (apply sc_true) | (apply sc_false)
            | (first | apply sc_lt | apply sc_nlt | apply sc_eq | apply sc_neq | apply sc_nil | apply sc_nnil | apply sc_seq | apply sc_nseq); all_goals (intro hb; try (first | (exfalso; omega) | exact absurd rfl hb | exact absurd hb (by decide) | exact absurd hb (by assumption) | exact absurd (by assumption) hb | (exfalso; simp only [List.length_cons, List.length_nil, List.length_append] at hb; omega)))
            | (apply sc_not) | (apply sc_or) | (apply sc_i; all_goals intro hb)
            | (first | apply ix_nat | apply ix_int); first | omega | (simp only [List.length_drop, List.length_take, List.length_append, List.length_set, List.length_cons, List.length_nil] at *; omega)
            | (apply bx_i; intro hbd) | (apply gt_i; assumption; exact rfl)
            | (first | apply sd_nat | apply sd_int | apply sl_nat | apply sl_int); first | omega | (simp only [List.length_drop, List.length_take, List.length_append, List.length_set, List.length_cons, List.length_nil] at *; omega)
            | (apply cx_is; first | fail) | (apply cx_do (i := 0) rfl; first | fail)
            | (apply ab_i; intro bl) | (apply as_i; intro va vk vc hva) | (apply av_i; intro v) | (apply ac_i; intro bl cap hcap)
            | (apply bo_l) | (apply ch_r; apply sp_i; assumption) | (apply ch_r; apply sp_i; intro i hi; exact ⟨rfl, rfl, rfl⟩) | (apply nx_i; all_goals intro hnx)
            | (apply Ia.hit; assumption) | (apply Ia.miss; assumption)
            | (apply rt_is; exact rfl) | (apply rt_do; exact rfl; (repeat (first | exact List.nil_sublist _ | apply List.Sublist.cons_cons))) | (apply iv; assumption)
            | (apply dw_q mixed hC hGL (by kernel_rfl))
            | (apply cq; assumption; (first | fail); exact rfl))
        all_goals (try conv => whnf)
        · have hb : ((j : Nat) : Int) < (((L.getD k []).length : Nat) : Int) := hb
          refine ch_r ?_
          repeat' (first
            | (conv => whnf); first
              | (apply ch_l; apply sp_i; first | exact rfl | omega | exact ⟨rfl, rfl, by omega⟩ | exact ⟨rfl, by omega⟩ | exact ⟨rfl, by omega, by omega, by omega⟩ | exact ⟨⟨_, rfl⟩, by omega⟩ | exact ⟨⟨_, rfl⟩, by omega, by omega⟩ | assumption | decide | (simp only [List.length_drop, List.length_take, List.length_append, List.length_set, List.length_cons, List.length_nil, OrOk] at *; omega) | (simp; omega))
              | (apply sp_i; first | exact rfl | omega | exact ⟨rfl, rfl, by omega⟩ | exact ⟨rfl, by omega⟩ | exact ⟨rfl, by omega, by omega, by omega⟩ | exact ⟨⟨_, rfl⟩, by omega⟩ | exact ⟨⟨_, rfl⟩, by omega, by omega⟩ | assumption | decide | (simp only [List.length_drop, List.length_take, List.length_append, List.length_set, List.length_cons, List.length_nil, OrOk] at *; omega) | (simp; omega))
              | (apply sc_true) | (apply sc_false)
              | (first | apply sc_lt | apply sc_nlt | apply sc_eq | apply sc_neq | apply sc_nil | apply sc_nnil | apply sc_seq | apply sc_nseq); all_goals (intro hb; try (first | (exfalso; omega) | exact absurd rfl hb | exact absurd hb (by decide) | exact absurd hb (by assumption) | exact absurd (by assumption) hb | (exfalso; simp only [List.length_cons, List.length_nil, List.length_append] at hb; omega)))
              | (apply sc_not) | (apply sc_or) | (apply sc_i; all_goals intro hb)
              | (first | apply ix_nat | apply ix_int); first | omega | (simp only [List.length_drop, List.length_take, List.length_append, List.length_set, List.length_cons, List.length_nil] at *; omega)
              | (apply bx_i; intro hbd) | (apply gt_i; assumption; exact rfl)
              | (first | apply sd_nat | apply sd_int | apply sl_nat | apply sl_int); first | omega | (simp only [List.length_drop, List.length_take, List.length_append, List.length_set, List.length_cons, List.length_nil] at *; omega)
              | (apply cx_is; first | fail) | (apply cx_do (i := 0) rfl; first | fail)
              | (apply ab_i; intro bl) | (apply as_i; intro va vk vc hva) | (apply av_i; intro v) | (apply ac_i; intro bl cap hcap)
              | (apply bo_l) | (apply ch_r; apply sp_i; assumption) | (apply ch_r; apply sp_i; intro i hi; exact ⟨rfl, rfl, rfl⟩) | (apply nx_i; all_goals intro hnx)
              | (apply Ia.hit; assumption) | (apply Ia.miss; assumption)
              | (apply rt_is; exact rfl) | (apply rt_do; exact rfl; (repeat (first | exact List.nil_sublist _ | apply List.Sublist.cons_cons))) | (apply iv; assumption)
              | (apply dw_q mixed hC hGL (by kernel_rfl))
              | (apply cq; assumption; (first | fail); exact rfl))
          all_goals (try conv => whnf)
          refine nxt (j + 1, IntKind.i64.wrap (n2 + (((L.getD k []).getD j []).length : Nat))) ?_ ?_ (by repeat (first | exact trivial | refine And.intro rfl ?_)) rfl
          · show j + 1 ≤ (L.getD k []).length; omega
          · show (L.getD k []).length - (j + 1) < (L.getD k []).length - j; omega
        · refine nxt (k + 1, n2) ?_ ?_ (by repeat (first | exact trivial | refine And.intro rfl ?_)) rfl
          · show k + 1 ≤ L.length; omega
          · show L.length - (k + 1) < L.length - k; omega
    · repeat' (first
        | (conv => whnf); first
          | (apply ch_l; apply sp_i; first | exact rfl | omega | exact ⟨rfl, rfl, by omega⟩ | exact ⟨rfl, by omega⟩ | exact ⟨rfl, by omega, by omega, by omega⟩ | exact ⟨⟨_, rfl⟩, by omega⟩ | exact ⟨⟨_, rfl⟩, by omega, by omega⟩ | assumption | decide | (simp only [List.length_drop, List.length_take, List.length_append, List.length_set, List.length_cons, List.length_nil, OrOk] at *; omega) | (simp; omega))
          | (apply sp_i; first | exact rfl | omega | exact ⟨rfl, rfl, by omega⟩ | exact ⟨rfl, by omega⟩ | exact ⟨rfl, by omega, by omega, by omega⟩ | exact ⟨⟨_, rfl⟩, by omega⟩ | exact ⟨⟨_, rfl⟩, by omega, by omega⟩ | assumption | decide | (simp only [List.length_drop, List.length_take, List.length_append, List.length_set, List.length_cons, List.length_nil, OrOk] at *; omega) | (simp; omega))
          | (apply sc_true) | (apply sc_false)
          | (first | apply sc_lt | apply sc_nlt | apply sc_eq | apply sc_neq | apply sc_nil | apply sc_nnil | apply sc_seq | apply sc_nseq); all_goals (intro hb; try (first | (exfalso; omega) | exact absurd rfl hb | exact absurd hb (by decide) | exact absurd hb (by assumption) | exact absurd (by assumption) hb | (exfalso; simp only [List.length_cons, List.length_nil, List.length_append] at hb; omega)))
          | (apply sc_not) | (apply sc_or) | (apply sc_i; all_goals intro hb)
          | (first | apply ix_nat | apply ix_int); first | omega | (simp only [List.length_drop, List.length_take, List.length_append, List.length_set, List.length_cons, List.length_nil] at *; omega)
          | (apply bx_i; intro hbd) | (apply gt_i; assumption; exact rfl)
          | (first | apply sd_nat | apply sd_int | apply sl_nat | apply sl_int); first | omega | (simp only [List.length_drop, List.length_take, List.length_append, List.length_set, List.length_cons, List.length_nil] at *; omega)
          | (apply cx_is; first | exact h2 | exact h1 | exact h5) | (apply cx_do (i := 0) rfl; first | exact h2 | exact h1 | exact h5)
          | (apply ab_i; intro bl) | (apply as_i; intro va vk vc hva) | (apply av_i; intro v) | (apply ac_i; intro bl cap hcap)
          | (apply bo_l) | (apply ch_r; apply sp_i; assumption) | (apply ch_r; apply sp_i; intro i hi; exact ⟨rfl, rfl, rfl⟩) | (apply nx_i; all_goals intro hnx)
          | (apply Ia.hit; assumption) | (apply Ia.miss; assumption)
          | (apply rt_is; exact rfl) | (apply rt_do; exact rfl; (repeat (first | exact List.nil_sublist _ | apply List.Sublist.cons_cons))) | (apply iv; assumption)
          | (apply dw_q mixed hC hGL (by kernel_rfl))
          | (apply cq; assumption; (first | exact h2 | exact h1 | exact h5); exact rfl))
      all_goals (try conv => whnf)
      refine lp hC hGL (fun k : Nat => [(63, .list 1 L.length (partsF L)), (64, .int .i64 (L.length : Nat)), (65, .int .i64 (k : Nat))]) (fun _ => [.cells bl (some 26) [.int .i64 (joinPE L).e, .int .i64 (joinPE L).p]]) (fun k => k ≤ L.length) (fun k => L.length - k) 0 ?_ (by repeat (first | exact trivial | refine And.intro rfl ?_)) rfl ?_
      · exact Nat.zero_le _
      · intro k hkl
        repeat' (first
          | (conv => whnf); first
            | (apply ch_l; apply sp_i; first | exact rfl | omega | exact ⟨rfl, rfl, by omega⟩ | exact ⟨rfl, by omega⟩ | exact ⟨rfl, by omega, by omega, by omega⟩ | exact ⟨⟨_, rfl⟩, by omega⟩ | exact ⟨⟨_, rfl⟩, by omega, by omega⟩ | assumption | decide | (simp only [List.length_drop, List.length_take, List.length_append, List.length_set, List.length_cons, List.length_nil, OrOk] at *; omega) | (simp; omega))
            | (apply sp_i; first | exact rfl | omega | exact ⟨rfl, rfl, by omega⟩ | exact ⟨rfl, by omega⟩ | exact ⟨rfl, by omega, by omega, by omega⟩ | exact ⟨⟨_, rfl⟩, by omega⟩ | exact ⟨⟨_, rfl⟩, by omega, by omega⟩ | assumption | decide | (simp only [List.length_drop, List.length_take, List.length_append, List.length_set, List.length_cons, List.length_nil, OrOk] at *; omega) | (simp; omega))
            | (apply sc_true) | (apply sc_false)
            | (first | apply sc_lt | apply sc_nlt | apply sc_eq | apply sc_neq | apply sc_nil | apply sc_nnil | apply sc_seq | apply sc_nseq); all_goals (intro hb; try (first | (exfalso; omega) | exact absurd rfl hb | exact absurd hb (by decide) | exact absurd hb (by assumption) | exact absurd (by assumption) hb | (exfalso; simp only [List.length_cons, List.length_nil, List.length_append] at hb; omega)))
            | (apply sc_not) | (apply sc_or) | (apply sc_i; all_goals intro hb)
            | (first | apply ix_nat | apply ix_int); first | omega | (simp only [List.length_drop, List.length_take, List.length_append, List.length_set, List.length_cons, List.length_nil] at *; omega)
            | (apply bx_i; intro hbd) | (apply gt_i; assumption; exact rfl)
            | (first | apply sd_nat | apply sd_int | apply sl_nat | apply sl_int); first | omega | (simp only [List.length_drop, List.length_take, List.length_append, List.length_set, List.length_cons, List.length_nil] at *; omega)
            | (apply cx_is; first | exact h4 _ | exact h3 _ | exact h6 _) | (apply cx_do (i := 0) rfl; first | exact h4 _ | exact h3 _ | exact h6 _)
            | (apply ab_i; intro bl) | (apply as_i; intro va vk vc hva) | (apply av_i; intro v) | (apply ac_i; intro bl cap hcap)
            | (apply bo_l) | (apply ch_r; apply sp_i; assumption) | (apply ch_r; apply sp_i; intro i hi; exact ⟨rfl, rfl, rfl⟩) | (apply nx_i; all_goals intro hnx)
            | (apply Ia.hit; assumption) | (apply Ia.miss; assumption)
            | (apply rt_is; exact rfl) | (apply rt_do; exact rfl; (repeat (first | exact List.nil_sublist _ | apply List.Sublist.cons_cons))) | (apply iv; assumption)
            | (apply dw_q mixed hC hGL (by kernel_rfl))
            | (apply cq; assumption; (first | exact h4 _ | exact h3 _ | exact h6 _); exact rfl))
        all_goals (try conv => whnf)
        refine nxt (k + 1) ?_ ?_ (by repeat (first | exact trivial | refine And.intro rfl ?_)) rfl
        · show k + 1 ≤ L.length; omega
        · show L.length - (k + 1) < L.length - k; omega
end Go.Proofs.YtlmihggafbmkaaaGreatDoor
