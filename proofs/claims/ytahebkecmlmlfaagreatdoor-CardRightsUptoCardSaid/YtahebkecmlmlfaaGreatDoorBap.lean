/- Parts of the proof of prints_root: Cru. -/
import Derived.Test.YtahebkecmlmlfaaGreatDoorBao
import Derived.Test.YtahebkecmlmlfaaGreatDoorBam
import Derived.Test.YtahebkecmlmlfaaGreatDoorBah
set_option linter.unusedVariables false
set_option linter.unusedSimpArgs false
set_option linter.unusedSectionVars false
namespace Go.Proofs.YtahebkecmlmlfaaGreatDoor
set_option maxRecDepth 20000
set_option maxHeartbeats 4000000
section
open Go Go.RowKit
attribute [local irreducible] AWp AOps aa ax OrOk ad ae
attribute [local irreducible] Crd.E Itm.lE Itm.lT
theorem oT {G : Glo} {m : Int} (hU : ad G utfTy) (hE : ad G errTy) (hE2 : ij G) (hP : co G) (hM : ad G (bI m)) (hH : ad G shapesTy) (hS : SpIs G) (c : Crd) (ho : ∀ x ∈ c.l, Itm.OK 1048576 x) (hl : c.l.length ≤ 1048576) : FnIs Tryz.prog G 3 [c.A] (.bool true) := by
 have hB := sB (G := G) c ho hl
 have hf1 := fun hf : c.fine => pF hE hE2 hP hM hS c hf.ok
 have hf2 := fun hf : c.fine => jI hU hM hH hP c hf.ok
 have hpl := l0 (G := G) hE c.E
 have hfin : c.fine → c.l.length ≤ 70 ∧ ∀ x ∈ c.l, Itm.OK 2500 x := fun h => h
 generalize c.E = e at *
 generalize hcf : c.fine = fine at *
 obtain ⟨v, l⟩ := c
 unfold Crd.A at *
 dsimp only at *
 have hGL : ad G [] := ab
 refine fn_x Tryz.func3 Tryz.call3 rfl rfl rfl rfl hGL ?_
 intro C hC
 refine xw1 ?_
 intros
 refine mw hB ?_
 rintro _ ⟨b, rfl, hb⟩
 cases b with
 | true => exact xw0
 | false =>
  have hf := hb rfl
  have h1 := hf1 hf
  have h2 := hf2 hf
  obtain ⟨h70, ho2⟩ := hfin hf
  refine xw1 ?_
  intros
  refine lp hC hGL (fun k : Nat => [(1, .rop [.int .i64 v, .list 15 l.length (itsF l)] 0), (12, .list 15 l.length (itsF l)), (13, .int .i64 (l.length : Nat)), (14, .int .i64 (k : Nat))]) (fun _ => []) (fun k => k ≤ l.length) (fun k => l.length - k) 0 (Nat.zero_le _) ai rfl ?_
  intro k k1
  have k1 : k ≤ l.length := k1
  by_cases hk : k < l.length
  ·have a1 := sj hU hM hH hP v (l.getD k Itm.z) (eX ho2 hk)
   have a2 := AR hE hE2 hP hM hS v (l.getD k Itm.z) (eX ho2 hk)
   have hp : ((l.getD k Itm.z).lE v).p = -1 := by
    unfold Itm.lE
    (repeat' split) <;> rfl
   have a3 := EV (G := G) hE ((l.getD k Itm.z).lE v) hp
   unfold itR at a1 a2
   generalize (l.getD k Itm.z).lE v = x at *
   generalize (l.getD k Itm.z).lT v = t at *
   have hrf : (t != t) = false := by simp
   cases x <;> simp only [Err.A, Err.e, errA, atA] at a1 a2 a3
   all_goals
    refine xw1 ?_
    intros
    exact nxs (k + 1) hk (by omega) ai aR
  ·cases e <;> simp only [Err.A, Err.e, Err.p, errA, atA] at h1 h2 hpl
   all_goals
    refine xn1 ?_
    intros
    refine dw_p mixed hC hGL false (fun _ : Unit => [(2, .bool true)]) (fun _ => []) (.take 0 (.take 2 (.br 1 (.br 3 (.br 4 (.take 5 (.done)) (.nil)) (.nil)) (.nil)))) (by kernel_rfl) ?_ ?_
    ·refine xn ?_
     repeat' (first | exact Le.n | refine Lc.mk ?_ ?_)
     all_goals intros
     all_goals exact ⟨(), ai, rfl⟩
    intro _
    exact xw0
end
end Go.Proofs.YtahebkecmlmlfaaGreatDoor
