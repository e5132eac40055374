/- The law CaretTurns (3.1). -/
import Derived.Test.YtlmihggafbmkaaaRpq
import Derived.Test.YtlmihggafbmkaaaRpz
import Derived.Test.YtlmihggafbmkaaaRqe
namespace Go.Proofs.Ytlmihggafbmkaaa
open Go Go.RowKit
set_option maxRecDepth 20000
set_option maxHeartbeats 4000000
set_option linter.unusedSimpArgs false
set_option linter.unusedVariables false
attribute [local irreducible] AWp AOps byteAt SrcOK OrOk GloAll FnSpec
attribute [local irreducible] encF encS decS
theorem law_CaretTurns {G : Glo} {m : Int} (hU : GloAll G (maxTy m)) (s : List UInt8) (hl : s.length ≤ 9223372036854775807) : FnIs Try.prog G 3 [.str s] (.bool true) := by
  by_cases h : 500 < s.length
  · have hGL : GloAll G [] := gloAll_nil
    refine fn_x Try.func3 Try.call3 rfl rfl rfl rfl hGL ?_
    intro C hC
    repeat' (first
      | (conv => whnf); first
        | (apply ch_l; apply sp_i; first | exact rfl | omega | exact ⟨rfl, rfl, by omega⟩ | exact ⟨rfl, by omega⟩ | exact ⟨rfl, by omega, by omega, by omega⟩ | exact ⟨⟨_, rfl⟩, by omega⟩ | exact ⟨⟨_, rfl⟩, by omega, by omega⟩ | assumption | decide | (simp only [List.length_drop, List.length_take, List.length_append, List.length_set, List.length_cons, List.length_nil, OrOk] at *; omega) | (simp; omega))
        | (apply sp_i; first | exact rfl | omega | exact ⟨rfl, rfl, by omega⟩ | exact ⟨rfl, by omega⟩ | exact ⟨rfl, by omega, by omega, by omega⟩ | exact ⟨⟨_, rfl⟩, by omega⟩ | exact ⟨⟨_, rfl⟩, by omega, by omega⟩ | assumption | decide | (simp only [List.length_drop, List.length_take, List.length_append, List.length_set, List.length_cons, List.length_nil, OrOk] at *; omega) | (simp; omega))
        | (apply sc_true) | (apply sc_false)
        | (first | apply sc_lt | apply sc_nlt | apply sc_eq | apply sc_neq | apply sc_nil | apply sc_nnil | apply sc_seq | apply sc_nseq); all_goals (intro hb; try (first | (exfalso; omega) | exact absurd rfl hb | exact absurd hb (by decide) | exact absurd hb (by assumption) | exact absurd (by assumption) hb | (exfalso; simp only [List.length_cons, List.length_nil, List.length_append] at hb; omega)))
        | (apply sc_not) | (apply sc_or) | (apply sc_i; all_goals intro hb)
        | (first | apply ix_nat | apply ix_int); first | omega | (simp only [List.length_drop, List.length_take, List.length_append, List.length_set, List.length_cons, List.length_nil] at *; omega)
        | (apply bx_i; intro hbd) | (apply gt_i; assumption; exact rfl)
        | (first | apply sd_nat | apply sd_int | apply sl_nat | apply sl_int); first | omega | (simp only [List.length_drop, List.length_take, List.length_append, List.length_set, List.length_cons, List.length_nil] at *; omega)
        | (apply cx_is; first | fail) | (apply cx_do (i := 0) rfl; first | fail)
        | (apply ab_i; intro bl) | (apply as_i; intro va vk vc hva) | (apply av_i; intro v) | (apply ac_i; intro bl cap hcap)
        | (apply bo_l) | (apply ch_r; apply sp_i; assumption) | (apply ch_r; apply sp_i; intro i hi; exact ⟨rfl, rfl, rfl⟩) | (apply nx_i; all_goals intro hnx)
        | (apply Ia.hit; assumption) | (apply Ia.miss; assumption)
        | (apply rt_is; exact rfl) | (apply rt_do; exact rfl; (repeat (first | exact List.nil_sublist _ | apply List.Sublist.cons_cons))) | (apply iv; assumption)
        | (apply dw_q mixed hC hGL (by kernel_rfl))
        | (apply cq; assumption; (first | fail); exact rfl))
    all_goals (try conv => whnf)
  · have e1 := caret_Encode (G := G) s (by omega) (count_one s)
    have e2 := ref_Encode (G := G) s (by omega)
    have e3 := caret_Decode (G := G) s (by omega)
    have e4 := ref_Decode (G := G) hU s (by omega)
    have hGL : GloAll G [] := gloAll_nil
    refine fn_x Try.func3 Try.call3 rfl rfl rfl rfl hGL ?_
    intro C hC
    repeat' (first
      | (conv => whnf); first
        | (apply ch_l; apply sp_i; first | exact rfl | omega | exact ⟨rfl, rfl, by omega⟩ | exact ⟨rfl, by omega⟩ | exact ⟨rfl, by omega, by omega, by omega⟩ | exact ⟨⟨_, rfl⟩, by omega⟩ | exact ⟨⟨_, rfl⟩, by omega, by omega⟩ | assumption | decide | (simp only [List.length_drop, List.length_take, List.length_append, List.length_set, List.length_cons, List.length_nil, OrOk] at *; omega) | (simp; omega))
        | (apply sp_i; first | exact rfl | omega | exact ⟨rfl, rfl, by omega⟩ | exact ⟨rfl, by omega⟩ | exact ⟨rfl, by omega, by omega, by omega⟩ | exact ⟨⟨_, rfl⟩, by omega⟩ | exact ⟨⟨_, rfl⟩, by omega, by omega⟩ | assumption | decide | (simp only [List.length_drop, List.length_take, List.length_append, List.length_set, List.length_cons, List.length_nil, OrOk] at *; omega) | (simp; omega))
        | (apply sc_true) | (apply sc_false)
        | (first | apply sc_lt | apply sc_nlt | apply sc_eq | apply sc_neq | apply sc_nil | apply sc_nnil | apply sc_seq | apply sc_nseq); all_goals (intro hb; try (first | (exfalso; omega) | exact absurd rfl hb | exact absurd hb (by decide) | exact absurd hb (by assumption) | exact absurd (by assumption) hb | (exfalso; simp only [List.length_cons, List.length_nil, List.length_append] at hb; omega)))
        | (apply sc_not) | (apply sc_or) | (apply sc_i; all_goals intro hb)
        | (first | apply ix_nat | apply ix_int); first | omega | (simp only [List.length_drop, List.length_take, List.length_append, List.length_set, List.length_cons, List.length_nil] at *; omega)
        | (apply bx_i; intro hbd) | (apply gt_i; assumption; exact rfl)
        | (first | apply sd_nat | apply sd_int | apply sl_nat | apply sl_int); first | omega | (simp only [List.length_drop, List.length_take, List.length_append, List.length_set, List.length_cons, List.length_nil] at *; omega)
        | (apply cx_is; first | exact e1 | exact e2 | exact e3 | exact e4) | (apply cx_do (i := 0) rfl; first | exact e1 | exact e2 | exact e3 | exact e4)
        | (apply ab_i; intro bl) | (apply as_i; intro va vk vc hva) | (apply av_i; intro v) | (apply ac_i; intro bl cap hcap)
        | (apply bo_l) | (apply ch_r; apply sp_i; assumption) | (apply ch_r; apply sp_i; intro i hi; exact ⟨rfl, rfl, rfl⟩) | (apply nx_i; all_goals intro hnx)
        | (apply Ia.hit; assumption) | (apply Ia.miss; assumption)
        | (apply rt_is; exact rfl) | (apply rt_do; exact rfl; (repeat (first | exact List.nil_sublist _ | apply List.Sublist.cons_cons))) | (apply iv; assumption)
        | (apply dw_q mixed hC hGL (by kernel_rfl))
        | (apply cq; assumption; (first | exact e1 | exact e2 | exact e3 | exact e4); exact rfl))
    all_goals (try conv => whnf)
    apply rt_is
    rw [seqB_t.2 rfl]
end Go.Proofs.Ytlmihggafbmkaaa
