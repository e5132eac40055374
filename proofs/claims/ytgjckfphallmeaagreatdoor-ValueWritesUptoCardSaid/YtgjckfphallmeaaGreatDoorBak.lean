/- Parts of the proof of valueWrites_card: Whh. -/
import Derived.Test.YtgjckfphallmeaaGreatDoorBaj
namespace Go.Proofs.YtgjckfphallmeaaGreatDoor
open Go Go.RowKit
set_option maxRecDepth 20000
set_option maxHeartbeats 8000000
set_option linter.unusedSimpArgs false
set_option linter.unusedVariables false
theorem Stm.three (t : Stm) : (t.frm = true ∧ t.rng = true ∧ t.E = .none ∧ t.e = 0 ∧ t.T = t.txt) ∨ (t.E = .errno 2 ∧ t.e = 2 ∧ t.T = []) ∨ (t.E = .errno 3 ∧ t.e = 3 ∧ t.T = []) := by
  unfold Stm.E Stm.e Stm.T
  cases t.frm <;> cases t.rng <;> simp
attribute [local irreducible] AWp AOps SrcOK OrOk GloAll FnSpec byteAt Stm.txt dayN
theorem ref_WhenPrint {G : Glo} (hS : GloAll G shapesTy) (hP : PowIs G) (t : Stm) : FnIs Tryz.prog G 14 [t.A] (.tuple [.str t.T, .int .i64 t.e]) := by
  have h1 := ref_WhenRight hS t
  rcases Stm.three t with ⟨hf, hr, h2, h3, h4⟩ | ⟨h2, h3, h4⟩ | ⟨h2, h3, h4⟩
  · have h5 := ref_whenText hS hP t hf hr
    rw [h3] at h1
    rw [h3, h4]
    have hGL : GloAll G [] := gloAll_nil
    refine fn_x Tryz.func14 Tryz.call14 rfl rfl rfl rfl hGL ?_
    intro C hC
    repeat' (first
      | (conv => whnf); first
        | refine .w ?_ | refine .v ?_ | apply sc_true | apply sc_false
        | (first | apply sc_lt | apply sc_nlt | apply sc_eq | apply sc_neq | apply sc_nil | apply sc_nnil | apply sc_seq | apply sc_nseq) <;> (intro hb; try exact dd hb)
        | apply sc_not | apply sc_or | (apply sc_i <;> intro hb)
        | (apply bx_i; intro hbd) | (apply gt_i; assumption; exact rfl)
        | (apply cx_is; first | exact h1 | exact h5) | (apply cx_do (i := 0) rfl; first | exact h1 | exact h5)
        | (apply ab_i; intro bl) | (apply as_i; intro va vk vc hva) | (apply av_i; intro v) | (apply ac_i; intro bl cap hcap)
        | apply bo_l | (apply nx_i <;> intro hnx) | (apply Ia.hit; assumption) | (apply Ia.miss; assumption)
        | (apply rt_is; exact rfl) | exact rt_w | (apply iv; assumption)
        | apply dw_q mixed hC hGL (by kernel_rfl) | (apply cq; assumption; (first | exact h1 | exact h5); exact rfl))
    all_goals (try conv => whnf)
  · rw [h3] at h1
    rw [h3, h4]
    have hGL : GloAll G [] := gloAll_nil
    refine fn_x Tryz.func14 Tryz.call14 rfl rfl rfl rfl hGL ?_
    intro C hC
    repeat' (first
      | (conv => whnf); first
        | refine .w ?_ | refine .v ?_ | apply sc_true | apply sc_false
        | (first | apply sc_lt | apply sc_nlt | apply sc_eq | apply sc_neq | apply sc_nil | apply sc_nnil | apply sc_seq | apply sc_nseq) <;> (intro hb; try exact dd hb)
        | apply sc_not | apply sc_or | (apply sc_i <;> intro hb)
        | (apply bx_i; intro hbd) | (apply gt_i; assumption; exact rfl)
        | (apply cx_is; first | exact h1) | (apply cx_do (i := 0) rfl; first | exact h1)
        | (apply ab_i; intro bl) | (apply as_i; intro va vk vc hva) | (apply av_i; intro v) | (apply ac_i; intro bl cap hcap)
        | apply bo_l | (apply nx_i <;> intro hnx) | (apply Ia.hit; assumption) | (apply Ia.miss; assumption)
        | (apply rt_is; exact rfl) | exact rt_w | (apply iv; assumption)
        | apply dw_q mixed hC hGL (by kernel_rfl) | (apply cq; assumption; (first | exact h1); exact rfl))
    all_goals (try conv => whnf)
  · rw [h3] at h1
    rw [h3, h4]
    have hGL : GloAll G [] := gloAll_nil
    refine fn_x Tryz.func14 Tryz.call14 rfl rfl rfl rfl hGL ?_
    intro C hC
    repeat' (first
      | (conv => whnf); first
        | refine .w ?_ | refine .v ?_ | apply sc_true | apply sc_false
        | (first | apply sc_lt | apply sc_nlt | apply sc_eq | apply sc_neq | apply sc_nil | apply sc_nnil | apply sc_seq | apply sc_nseq) <;> (intro hb; try exact dd hb)
        | apply sc_not | apply sc_or | (apply sc_i <;> intro hb)
        | (apply bx_i; intro hbd) | (apply gt_i; assumption; exact rfl)
        | (apply cx_is; first | exact h1) | (apply cx_do (i := 0) rfl; first | exact h1)
        | (apply ab_i; intro bl) | (apply as_i; intro va vk vc hva) | (apply av_i; intro v) | (apply ac_i; intro bl cap hcap)
        | apply bo_l | (apply nx_i <;> intro hnx) | (apply Ia.hit; assumption) | (apply Ia.miss; assumption)
        | (apply rt_is; exact rfl) | exact rt_w | (apply iv; assumption)
        | apply dw_q mixed hC hGL (by kernel_rfl) | (apply cq; assumption; (first | exact h1); exact rfl))
    all_goals (try conv => whnf)
end Go.Proofs.YtgjckfphallmeaaGreatDoor
