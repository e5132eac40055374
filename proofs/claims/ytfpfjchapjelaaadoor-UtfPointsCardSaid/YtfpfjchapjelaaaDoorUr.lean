/- The law of numbers as bytes and of texts' code points. -/
import Derived.Test.YtfpfjchapjelaaaDoorUq
namespace Go.Proofs.YtfpfjchapjelaaaDoor
open Go
set_option maxRecDepth 20000
set_option maxHeartbeats 4000000
set_option linter.unusedSimpArgs false
set_option linter.unusedVariables false
attribute [local irreducible] AWp AOps byteAt SrcOK OrOk GloAll FnSpec
attribute [local irreducible] nextS badI badS stepS cutS rngR ownB mayZ encS ptsA ptsE
def ptE (r : Int) : Err := if mayZ r then .none else .errno 2
theorem ptE_A (r : Int) : (if mayZ r then .raw .nilIface else errA 2) = (ptE r).A := by unfold ptE; split <;> rfl
theorem ptE_e (r : Int) : (ptE r).e = if mayZ r then 0 else 2 := by unfold ptE; split <;> rfl
theorem ptE_p (r : Int) : (ptE r).p = -1 := by unfold ptE; split <;> rfl
theorem unown_A (x : Err) : unown x.A = x.A := by cases x <;> rfl
theorem unown_ptsA (s : List UInt8) : unown (ptsA s) = ptsA s := by unfold ptsA; split <;> rfl
theorem law_UtfPoints {G : Glo} (hU1 : GloAll G utfTy) (hU2 : GloAll G errTy) (r : Int) (s : List UInt8) (hl : s.length ≤ 9223372036854775807) : FnIs Tryd.prog G 5 [.int .i64 r, .str s] (.bool true) := by
  have hGL : GloAll G [] := gloAll_nil
  refine fn_x Tryd.func5 Tryd.call5 rfl rfl rfl rfl hGL ?_
  intro C hC
  have e1 := ref_Point (G := G) r
  have e2 := utf_Point (G := G) r
  rw [ptE_A] at e2
  have e3 := fun h => ref_Points (G := G) hU1 s h
  have e4 := fun h => utf_Points (G := G) s h
  have e5 := law_bare hU2 (ptE r) (if mayZ r then 0 else 2)
  rw [← ptE_e] at e1 e5
  rw [← unown_A] at e5
  have e6 := utf_May (G := G) r
  have e7 := ref_May (G := G) r
  have e8 := law_placed hU2 (ptsE s) (ptsE s).e (ptsE s).p
  have e9 := fun h => pts_Equal (G := G) s h
  rw [← unown_A] at e8
  rw [← unown_ptsA] at e9
  repeat' (first
    | (conv => whnf); first
      | (apply ch_l; apply sp_i; first | exact rfl | omega | exact ⟨rfl, rfl, by omega⟩ | exact ⟨rfl, by omega⟩ | exact ⟨rfl, by omega, by omega, by omega⟩ | decide | (simp only [List.length_drop, List.length_take, List.length_append, List.length_set, List.length_cons, List.length_nil, OrOk] at *; omega) | (simp; omega))
      | (apply sp_i; first | exact rfl | omega | exact ⟨rfl, rfl, by omega⟩ | exact ⟨rfl, by omega⟩ | exact ⟨rfl, by omega, by omega, by omega⟩ | decide | (simp only [List.length_drop, List.length_take, List.length_append, List.length_set, List.length_cons, List.length_nil, OrOk] at *; omega) | (simp; omega))
      | (apply sc_true) | (apply sc_false)
      | (first | apply sc_lt | apply sc_nlt | apply sc_eq | apply sc_neq | apply sc_nil | apply sc_nnil | apply sc_seq | apply sc_nseq); all_goals (intro hb; try (first | (exfalso; omega) | exact absurd rfl hb))
      | (apply sc_not) | (apply sc_or) | (apply sc_i; all_goals intro hb)
      | (first | apply ix_nat | apply ix_int); first | omega | (simp only [List.length_drop, List.length_take, List.length_append, List.length_set, List.length_cons, List.length_nil] at *; omega)
      | (apply bx_i; intro hbd)
      | (first | apply sd_nat | apply sd_int | apply sl_nat | apply sl_int); first | omega | (simp only [List.length_drop, List.length_take, List.length_append, List.length_set, List.length_cons, List.length_nil] at *; omega)
      | (apply cx_is; first | exact e1 | exact e2 | exact e3 (by omega) | exact e4 (by omega) | exact e5 | exact e6 | exact e7 | exact e8 | exact e9 (by omega)) | (apply cx_do (i := 0) rfl; first | exact e1 | exact e2 | exact e3 (by omega) | exact e4 (by omega) | exact e5 | exact e6 | exact e7 | exact e8 | exact e9 (by omega))
      | (apply ab_i; intro bl) | (apply av_i; intro v) | (apply ac_i; intro bl cap hcap)
      | (apply bo_l) | (apply ch_r; apply sp_i; intro i hi; exact ⟨rfl, rfl, rfl⟩) | (apply nx_i; all_goals intro hnx)
      | (apply Ia.hit; assumption) | (apply Ia.miss; assumption)
      | (apply rt_is; exact rfl) | (apply rt_do; exact rfl; (repeat (first | exact List.nil_sublist _ | apply List.Sublist.cons_cons))) | (apply iv; assumption)
      | (apply dw_q mixed hC hGL (by kernel_rfl))
      | (apply cq; assumption; (first | exact e1 | exact e2 | exact e3 (by omega) | exact e4 (by omega) | exact e5 | exact e6 | exact e7 | exact e8 | exact e9 (by omega)); exact rfl))
  all_goals (try conv => whnf)
  all_goals (simp [show ∀ a, eqB a a = true from fun _ => eqB_t.2 rfl, ptE_p] at hb)
end Go.Proofs.YtfpfjchapjelaaaDoor
