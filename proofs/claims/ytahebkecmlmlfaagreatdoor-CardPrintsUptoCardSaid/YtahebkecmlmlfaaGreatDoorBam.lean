/- Parts of the proof of prints_root: Vle, Vlf, Vlg, End, Han, Lai, Lu, Tjk, Tra, Trb, Whc, Whd, Whe, Whf, Whg, Whh, Crt, Mps, Big, Upt. -/
import Derived.Test.YtahebkecmlmlfaaGreatDoorRows
import Derived.ProofKit
import Derived.LaidMore
import Derived.Lay
import Derived.Stop.Joined
import Derived.LaidSub
import Derived.LaidHandle
import Derived.OpenShut
import Derived.Lib.ItoaNum
import Derived.Deep.Strs
import Derived.Shelf.Vars
import Derived.SizedLaws
import Derived.Test.YtahebkecmlmlfaaGreatDoorBal
import Derived.Test.YtahebkecmlmlfaaGreatDoorBak
import Derived.Test.YtahebkecmlmlfaaGreatDoorBae
import Derived.Test.YtahebkecmlmlfaaGreatDoorBad
import Derived.Test.YtahebkecmlmlfaaGreatDoorBah
import Derived.Test.YtahebkecmlmlfaaGreatDoorBai
import Derived.Test.YtahebkecmlmlfaaGreatDoorBaj
import Derived.Test.YtahebkecmlmlfaaGreatDoorBac
set_option linter.unusedVariables false
set_option linter.unusedSimpArgs false
set_option linter.unusedSectionVars false
namespace Go.Proofs.YtahebkecmlmlfaaGreatDoor
set_option maxRecDepth 20000
set_option maxHeartbeats 4000000
section
open Go Go.RowKit
attribute [local irreducible] AWp AOps aa ax OrOk ad ae
theorem Ep {P : Program} [Tab P] {C : Ctx} {n : Nat} {env : Env} {H : Heap} {Q : AExit → Env → Heap → Prop} {c : Code} (k : Lp P C n c env [] Q) : Lp P C n c env H Q :=
 G0 (fun R _ _ hm hf => ⟨R, Seal.le_refl R, hm.drop (List.nil_sublist _), hf⟩) k
theorem Cg {v : Vl} {z : Bool} (hz : fU v.st = z) : v.only = true ↔ (v.s.length = 0 ∨ v.t = 1 ∨ v.t = 4 ∨ v.t = 7 ∨ v.t = 8) ∧ (v.L.length = 0 ∨ v.t = 2 ∨ v.t = 3) ∧ ((if z then 0 else 1 : Int) = 0 ∨ v.t = 5) ∧ (v.n = 0 ∨ v.t = 6) := by
 unfold Vl.only
 rw [hz, decide_eq_true_eq]
 cases z <;> simp
theorem Vl.E_out {v : Vl} (h : v.t < 1 ∨ 9 ≤ v.t) : v.E = .errno 1 := Vl.E_bad (h.elim .inl (fun k => .inr (.inl k)))
theorem Vl.E_no {v : Vl} (h : ¬ v.only = true) : v.E = .errno 1 := Vl.E_bad (.inr (.inr (by simpa using h)))
attribute [local irreducible] hdC hdB badI fU Vl.only uriE ca Stm.e zrB bV hdL
theorem iy {G : Glo} {m : Int} (hU : ad G utfTy) (hM : ad G (bI m)) (v : Vl) (hv : v.OK) (hl : v.s.length ≤ 3000) (h3 : FnIs Tryz.prog G 88 [v.st.A] (.int .i64 v.st.e)) : FnIs Tryz.prog G 47 [v.A] (.int .i64 v.E.e) := by
 have h1 := si (G := G) v.s (by omega)
 have h4 := fK (G := G) v.n
 have h5 := jH hM v.s hl
 have h7 := lZ hU v.s true (by omega)
 have h8 := lZ hU v.s false (by omega)
 have k1 := fun k j (_ : (0 : Int) ≤ 0) => lZ hU ((v.L.getD k []).getD j []) true (hv.l k j)
 have hW := cr (G := G) v.t 1 8
 have hz := nM v.st
 have hz0 : andL [eqB 0 0, eqB 0 0, eqB 0 0, eqB 0 0, eqB 0 0, eqB 0 0, false == false, eqB 0 0] = true := by rw [nM ⟨0, 0, 0, 0, 0, 0, false, 0⟩]; unfold fU; rfl
 have hn := hv.n
 have hr := hv.r
 by_cases ht : v.t < 1 ∨ 9 ≤ v.t
 ·rw [show (decide (1 ≤ v.t) && decide (v.t ≤ 8)) = false by rw [← Bool.not_eq_true, Bool.and_eq_true, decide_eq_true_eq, decide_eq_true_eq]; omega] at hW
  rw [Vl.E_out ht]
  have hGL : ad G [] := ab
  refine fn_x Tryz.func47 Tryz.call47 rfl rfl rfl rfl hGL ?_
  intro C hC
  exact xw0
 rw [show (decide (1 ≤ v.t) && decide (v.t ≤ 8)) = true by rw [Bool.and_eq_true, decide_eq_true_eq, decide_eq_true_eq]; omega] at hW
 have hO := Cg (v := v) rfl
 cases hq : fU v.st
 all_goals
  rw [hq] at hz hO
  simp only [if_true, if_false, Bool.false_eq_true, true_or, true_and] at hO
  have hGL : ad G [] := ab
  refine fn_x Tryz.func47 Tryz.call47 rfl rfl rfl rfl hGL ?_
  intro C hC
  refine xw ?_
  repeat' (first | exact Le.n | refine Lc.mk ?_ ?_)
  all_goals intros
  all_goals first
   | (refine aH hC hGL (qA _ rfl rfl rfl rfl (by kernel_rfl) (by kernel_rfl) (by kernel_rfl) rfl hz) rfl rfl ?_; refine xw ?_)
   | (refine aH hC hGL (qA _ rfl rfl rfl rfl (by kernel_rfl) (by kernel_rfl) (by kernel_rfl) rfl hz0) rfl rfl ?_; refine xw ?_)
   | skip
  repeat' (first | exact Le.n | refine Lc.mk ?_ ?_)
  all_goals intros
  all_goals try first
   | (apply aj; rw [Vl.E_no (fun k => by have := hO.1 k; omega)]; rfl)
   | (apply aj; rw [Vl.E_4 (hO.2 (by omega)) (by assumption), Err.b_e]; done)
   | (apply aj; rw [Vl.E_5 (hO.2 (by omega)) (by assumption), Stm.E_e]; done)
   | (apply aj; rw [Vl.E_7 (hO.2 (by omega)) (by assumption), Err.b_e]; done)
   | (apply aj; rw [Vl.E_6 (hO.2 (by omega)) (by assumption)]; unfold zprE; rw [show zrB v.n = true by assumption]; rfl)
   | (apply aj; rw [Vl.E_6 (hO.2 (by omega)) (by assumption)]; unfold zprE; rw [show zrB v.n = false by assumption]; rfl)
   | (apply aj; rw [Vl.E_p (hO.2 (by omega)) (by omega), yR (by omega)]; rfl)
   | (apply aj; rw [Vl.E_rest (hO.2 (by omega)) (by omega) (by omega) (by omega) (by omega) (by omega) (by omega) (by omega) (by omega)]; first
     | (rw [show decide (v.t = 1) = true from decide_eq_true (by omega), show hdB true v.s = true by assumption]; rfl)
     | (rw [show decide (v.t = 1) = true from decide_eq_true (by omega), show hdB true v.s = false by assumption]; rfl)
     | (rw [show decide (v.t = 1) = false from decide_eq_false (by omega), show hdB false v.s = true by assumption]; rfl)
     | (rw [show decide (v.t = 1) = false from decide_eq_false (by omega), show hdB false v.s = false by assumption]; rfl))
  all_goals
   rw [Vl.E_p (hO.2 (by omega)) (by omega), yS (by omega)]
   refine Ep ?_
   refine lp hC hGL (fun x : Nat × Bool => [(4, .bool x.2), (71, .list 1 v.L.length (cB v.L)), (72, .int .i64 (v.L.length : Nat)), (73, .int .i64 (x.1 : Nat))]) (fun _ => []) (fun x => x.1 ≤ bV v.L ∧ (x.2 = false → hdK v.L x.1) ∧ (x.2 = true → hdL v.L = false)) (fun x => v.L.length - x.1) (0, false) ?_ ai rfl ?_
   ·exact ⟨Nat.zero_le _, fun _ i hi => absurd hi (Nat.not_lt_zero _), fun h => by cases h⟩
   rintro ⟨k, b⟩ ⟨hk, hb1, hb2⟩
   dsimp only at hk hb1 hb2
   have hnl := kT v.L
   refine xw ?_
   repeat' (first | exact Le.n | refine Lc.mk ?_ ?_)
   all_goals intros
   all_goals try dsimp only at *
   all_goals try first
    | (apply aj; rw [if_pos (yZ (k := k) (by omega) hk (by omega))]; rfl)
    | (apply aj; rw [if_neg (by omega), hb2 (by assumption)]; rfl)
    | (apply aj; rw [if_neg (by omega), zf (by omega) (hb1 (by assumption))]; rfl)
   refine lp hC hGL (fun x : Nat × Bool => [(4, .bool x.2), (71, .list 1 v.L.length (cB v.L)), (72, .int .i64 (v.L.length : Nat)), (73, .int .i64 (k : Nat)), (80, .list 1 (v.L.getD k []).length (aF (v.L.getD k []))), (81, .int .i64 ((v.L.getD k []).length : Nat)), (82, .int .i64 (x.1 : Nat))]) (fun _ => []) (fun x => x.1 ≤ (v.L.getD k []).length ∧ (x.2 = false → hdK v.L k ∧ hdJ (v.L.getD k []) x.1) ∧ (x.2 = true → hdL v.L = false)) (fun x => (v.L.getD k []).length - x.1) (0, b) ?_ ai rfl ?_
   ·exact ⟨Nat.zero_le _, fun h => ⟨hb1 h, fun i hi => absurd hi (Nat.not_lt_zero _)⟩, hb2⟩
   rintro ⟨j, c⟩ ⟨hj, hc1, hc2⟩
   dsimp only at hj hc1 hc2
   have hrk := hr k
   refine xw ?_
   repeat' (first | exact Le.n | refine Lc.mk ?_ ?_)
   all_goals intros
   all_goals try dsimp only at *
   all_goals first
    | (refine nxt (k + 1, c) ⟨uI (by omega) hk (by omega), fun h => ve (hc1 h).1 (zh (by omega) (hc1 h).2), hc2⟩ (by dsimp only; omega) ai rfl)
    | (refine nxt (j + 1, true) ⟨by dsimp only; omega, fun h => Bool.noConfusion h, fun _ => hc2 (by assumption)⟩ (by dsimp only; omega) ai rfl)
    | (refine nxt (j + 1, !(hdB true ((v.L.getD k []).getD j []))) ⟨by dsimp only; omega, fun h => ⟨(hc1 (by assumption)).1, vf (hc1 (by assumption)).2 (by simpa using h)⟩, fun h => ze (k := k) (by omega) (zg (j := j) (by omega) (by simpa using h))⟩ (by dsimp only; omega) ai rfl)
end
section
open Go Go.RowKit
attribute [local irreducible] AWp AOps aa ax OrOk ad ae
theorem Vl.E_none {v : Vl} (h : v.E = .none) : v.only = true ∧ 1 ≤ v.t ∧ v.t < 9 := by
 by_cases h1 : v.t < 1 ∨ 9 ≤ v.t ∨ v.only = false
 ·rw [Vl.E_bad h1] at h; cases h
 ·refine ⟨?_, by omega, by omega⟩
  cases ho : v.only
  ·exact absurd (.inr (.inr ho)) h1
  ·rfl
theorem Vl.T_ok {v : Vl} (h : v.E = .none) : v.T = if v.t = 1 then escS v.s else if v.t = 2 ∨ v.t = 3 then cS v.L else if v.t = 5 then v.st.T else if v.t = 6 then zprS v.n else v.s := by
 unfold Vl.T
 rw [h]
theorem Vl.T_no {v : Vl} (h : v.E ≠ .none) : v.T = [] := by
 unfold Vl.T
 split
 ·rename_i k; exact absurd k h
 ·rfl
theorem uV {t : Int} {L : List (List (List UInt8))} (h : ptsE t L = .none) : dm L = .none := by
 unfold ptsE at h
 unfold dm
 split at h
 ·cases h
 ·split at h
  ·cases h
  ·rename_i h1 h2
   rw [if_neg (fun k => h1 (.inl (by rw [k]; rfl))), if_neg h2]
theorem Vl.right {v : Vl} (h : v.E = .none) : (v.t = 2 ∨ v.t = 3 → dm v.L = .none) ∧ (v.t = 5 → v.st.E = .none) ∧ (v.t = 6 → zprE v.n = .none) := by
 obtain ⟨ho, _, _⟩ := Vl.E_none h
 refine ⟨fun k => ?_, fun k => ?_, fun k => ?_⟩
 ·rw [Vl.E_p ho k] at h; exact uV h
 ·rwa [Vl.E_5 ho k] at h
 ·rwa [Vl.E_6 ho k] at h
theorem T_1 {v : Vl} (h : v.E = .none) (k : v.t = 1) : v.T = escS v.s := by rw [Vl.T_ok h, if_pos k]
theorem T_2 {v : Vl} (h : v.E = .none) (k : v.t = 2 ∨ v.t = 3) : v.T = cS v.L := by rw [Vl.T_ok h, if_neg (by omega), if_pos k]
theorem T_5 {v : Vl} (h : v.E = .none) (k : v.t = 5) : v.T = v.st.T := by rw [Vl.T_ok h, if_neg (by omega), if_neg (by omega), if_pos k]
theorem T_6 {v : Vl} (h : v.E = .none) (k : v.t = 6) : v.T = zprS v.n := by rw [Vl.T_ok h, if_neg (by omega), if_neg (by omega), if_neg (by omega), if_pos k]
theorem T_s {v : Vl} (h : v.E = .none) (a : v.t ≠ 1) (b : v.t ≠ 2) (c : v.t ≠ 3) (d : v.t ≠ 5) (e : v.t ≠ 6) : v.T = v.s := by rw [Vl.T_ok h, if_neg a, if_neg (by omega), if_neg d, if_neg e]
attribute [local irreducible] Vl.E Vl.T cS dm zprS zprE Stm.T Stm.E Stm.e escS escF
theorem tB {G : Glo} (v : Vl) (hR : FnIs Tryz.prog G 56 [v.A] v.E.A) (hE : FnIs Tryz.prog G 109 [.str v.s] (.str (escS v.s)))
  (hJ : FnIs Tryz.prog G 110 [.list 1 v.L.length (cB v.L)] (.tuple [.str (cS v.L), (dm v.L).A])) (hP : FnIs Tryz.prog G 111 [v.st.A] (.tuple [.str v.st.T, v.st.E.A])) :
  FnIs Tryz.prog G 57 [v.A] (.tuple [.str v.T, v.E.A]) := by
 have hZ := nL (G := G) v.n
 rcases hq : v.E with _ | e | ⟨e, p⟩
 ·obtain ⟨r1, r2, r3⟩ := Vl.right hq
  have t1 := T_1 hq
  have t2 := T_2 hq
  have t5 := T_5 hq
  have t6 := T_6 hq
  have ts := T_s hq
  rw [hq] at hR
  have hGL : ad G [] := ab
  refine fn_x Tryz.func57 Tryz.call57 rfl rfl rfl rfl hGL ?_
  intro C hC
  refine xw ?_
  repeat' (first | exact Le.n | refine Lc.mk ?_ ?_)
  all_goals intros
  all_goals first
   | (apply aj; rw [t1 (by assumption)] <;> rfl)
   | (apply aj; rw [t2 (by omega), r1 (by omega)] <;> rfl)
   | (apply aj; rw [t5 (by assumption), r2 (by assumption)] <;> rfl)
   | (apply aj; rw [t6 (by assumption), r3 (by assumption)] <;> rfl)
   | (apply aj; rw [ts (by assumption) (by assumption) (by assumption) (by assumption) (by assumption)] <;> rfl)
 ·rw [Vl.T_no (by rw [hq]; exact fun k => by cases k)]
  rw [hq] at hR
  have hGL : ad G [] := ab
  refine fn_x Tryz.func57 Tryz.call57 rfl rfl rfl rfl hGL ?_
  intro C hC
  exact xw0
 ·rw [Vl.T_no (by rw [hq]; exact fun k => by cases k)]
  rw [hq] at hR
  have hGL : ad G [] := ab
  refine fn_x Tryz.func57 Tryz.call57 rfl rfl rfl rfl hGL ?_
  intro C hC
  exact xw0
theorem ow {G : Glo} (v : Vl) (hR : FnIs Tryz.prog G 47 [v.A] (.int .i64 v.E.e)) (hE : FnIs Tryz.prog G 90 [.str v.s] (.str (escS v.s)))
  (hJ : FnIs Tryz.prog G 91 [.list 1 v.L.length (cB v.L)] (.tuple [.str (cS v.L), .agg [.int .i64 (dm v.L).e, .int .i64 (dm v.L).p]])) (hP : FnIs Tryz.prog G 92 [v.st.A] (.tuple [.str v.st.T, .int .i64 v.st.e]))
  (h0 : v.E.e = 0 → v.E = .none) : FnIs Tryz.prog G 48 [v.A] (.tuple [.str v.T, .int .i64 v.E.e]) := by
 have hZ := jF (G := G) v.n
 by_cases hq : v.E = .none
 ·obtain ⟨r1, r2, r3⟩ := Vl.right hq
  have t1 := T_1 hq
  have t2 := T_2 hq
  have t5 := T_5 hq
  have t6 := T_6 hq
  have ts := T_s hq
  have r4 : v.t = 5 → v.st.e = 0 := fun k => by rw [← Stm.E_e, r2 k]; rfl
  rw [hq] at hR ⊢
  have hR : FnIs Tryz.prog G 47 [v.A] (.int .i64 0) := hR
  have e0 : (Err.none).e = 0 := rfl
  rw [e0]
  have hGL : ad G [] := ab
  refine fn_x Tryz.func48 Tryz.call48 rfl rfl rfl rfl hGL ?_
  intro C hC
  refine xw ?_
  repeat' (first | exact Le.n | refine Lc.mk ?_ ?_)
  all_goals intros
  all_goals first
   | (apply aj; rw [t1 (by assumption)] <;> rfl)
   | (apply aj; rw [t2 (by omega)] <;> rfl)
   | (apply aj; rw [t5 (by assumption), r4 (by assumption)] <;> rfl)
   | (apply aj; rw [t6 (by assumption), r3 (by assumption)] <;> rfl)
   | (apply aj; rw [ts (by assumption) (by assumption) (by assumption) (by assumption) (by assumption)] <;> rfl)
 ·have hne : v.E.e ≠ 0 := fun k => hq (h0 k)
  rw [Vl.T_no hq]
  have hGL : ad G [] := ab
  refine fn_x Tryz.func48 Tryz.call48 rfl rfl rfl rfl hGL ?_
  intro C hC
  exact xw0
end
section
open Go Go.RowKit
attribute [local irreducible] AWp AOps aa ax OrOk ad ae
theorem Ao {l : List (List UInt8)} {j : Nat} (h : j < l.length) : Lib.lens (l.take (j + 1)) = Lib.lens (l.take j) + (l.getD j []).length :=
 Lib.lens_take_succ l j _ (by rw [List.getD_eq_getElem?_getD, List.getElem?_eq_getElem h]; rfl)
theorem F1 (t : Int) (L : List (List (List UInt8))) : (ptsE t L).p = -1 := by unfold ptsE; (repeat' split) <;> rfl
theorem Vl.E_at (v : Vl) : v.E.p = -1 := by
 unfold Vl.E
 (repeat' split)
 ·rfl
 ·exact F1 _ _
 ·exact Err.b_p _
 ·exact Stm.E_p _
 ·unfold zprE; split <;> rfl
 ·exact Err.b_p _
 ·rfl
 ·rfl
theorem Fy (s : List UInt8) (h : (uriE s).e = 0) : uriE s = .none := by
 unfold uriE at h ⊢
 (repeat' split at h) <;> first | (exfalso; revert h; simp [Err.e]; done) | (rename_i h1 h2 h3; rw [if_neg h1, if_neg h2, if_neg h3])
theorem y8 : ∀ (l : List (List UInt8)) (b : Bool) (a : Nat), (cD b a l).e = 0 → cD b a l = .none
 | [], _, _, _ => rfl
 | x :: xs, b, a, h => by
  rw [oW] at h ⊢
  split at h
  ·rename_i k
   rw [if_pos k]
   exact y8 xs _ _ h
  ·rename_i k
   exfalso
   revert h k
   unfold ct
   (repeat' split) <;> simp [Err.e, Err.isNone]
theorem Err.b_none {x : Err} (h : x.e = 0 → x = .none) (k : x.b.e = 0) : x.b = .none := by
 rw [Err.b_e] at k
 rw [h k]
 rfl
theorem Vl.E_zero (v : Vl) (h : v.E.e = 0) : v.E = .none := by
 revert h
 unfold Vl.E
 (repeat' split)
 ·intro h; cases h
 ·unfold ptsE; (repeat' split) <;> intro h <;> first | rfl | cases h
 ·exact Err.b_none (Fy _)
 ·unfold Stm.E; (repeat' split) <;> intro h <;> first | rfl | cases h
 ·unfold zprE; (repeat' split) <;> intro h <;> first | rfl | cases h
 ·exact Err.b_none (y8 _ _ _)
 ·intro _; rfl
 ·intro h; cases h
attribute [local irreducible] Vl.E Vl.T hdB
theorem Ar {G : Glo} (v : Vl) (hs : v.s.length ≤ 2000000) (hL : Small v.L) : ae Tryz.prog G 18 [v.A] [] (fun r H => (∃ a, r = .ret a ∧ ∃ b, a = .bool b ∧ (b = false → v.s.length ≤ 2500)) ∧ H = []) := by
 have hn := hL.n
 have hGL : ad G [] := ab
 refine fn_x Tryz.func18 Tryz.call18 rfl rfl rfl rfl hGL ?_
 intro C hC
 refine xw1 ?_
 refine lp hC hGL (fun x : Nat × Nat => [(3, .int .i64 (x.2 : Nat)), (16, .list 1 v.L.length (cB v.L)), (17, .int .i64 (v.L.length : Nat)), (18, .int .i64 (x.1 : Nat))]) (fun _ => []) (fun x => x.1 ≤ v.L.length ∧ v.s.length ≤ x.2 ∧ x.2 ≤ v.s.length + v.L.length + 4000000 * x.1) (fun x => v.L.length - x.1) (0, v.s.length + v.L.length) ?_ ai rfl ?_
 ·exact ⟨Nat.zero_le _, Nat.le_add_right _ _, Nat.le_refl _⟩
 rintro ⟨k, n⟩ ⟨h1, h2, h3⟩
 dsimp only at h1 h2 h3
 have hk := hL.k k
 refine xw ?_
 repeat' (first | exact Le.n | refine Lc.mk ?_ ?_)
 all_goals intros
 ·refine lp hC hGL (fun x : Nat × Nat => [(3, .int .i64 (x.2 : Nat)), (16, .list 1 v.L.length (cB v.L)), (17, .int .i64 (v.L.length : Nat)), (18, .int .i64 (k : Nat)), (26, .list 1 (v.L.getD k []).length (aF (v.L.getD k []))), (27, .int .i64 ((v.L.getD k []).length : Nat)), (28, .int .i64 (x.1 : Nat))]) (fun _ => []) (fun x => x.1 ≤ (v.L.getD k []).length ∧ v.s.length ≤ x.2 ∧ x.2 ≤ v.s.length + v.L.length + 4000000 * k + 2000000 + Lib.lens ((v.L.getD k []).take x.1)) (fun x => (v.L.getD k []).length - x.1) (0, n + (v.L.getD k []).length) ?_ ai rfl ?_
  ·exact ⟨Nat.zero_le _, by dsimp only; omega, by dsimp only; omega⟩
  rintro ⟨j, q⟩ ⟨g1, g2, g3⟩
  dsimp only at g1 g2 g3
  have hj1 := Lib.lens_take_le (v.L.getD k []) j
  have hj2 := Lib.lens_take_le (v.L.getD k []) (j + 1)
  have hj3 : j < (v.L.getD k []).length → Lib.lens ((v.L.getD k []).take (j + 1)) = Lib.lens ((v.L.getD k []).take j) + ((v.L.getD k []).getD j []).length := fun h => Ao h
  refine xw ?_
  repeat' (first | exact Le.n | refine Lc.mk ?_ ?_)
  all_goals intros
  all_goals try dsimp only at *
  ·refine nxt (j + 1, q + ((v.L.getD k []).getD j []).length) ⟨by dsimp only; omega, by dsimp only; omega, ?_⟩ (by dsimp only; omega) ai rfl
   dsimp only
   rw [hj3 (by omega)]
   omega
  ·exact nxt (k + 1, q) ⟨by dsimp only; omega, by dsimp only; omega, by dsimp only; omega⟩ (by dsimp only; omega) ai rfl
 ·refine ⟨[], List.nil_sublist _, ⟨_, rfl, _, rfl, fun h => ?_⟩, rfl⟩
  have h := g8.1 h
  dsimp only at h
  omega
end
section
open Go
theorem Tryz.own : ownKnob Tryz.prog.godebug = none := by kernel_rfl
def aw (W : World) (k : Nat) : Seal := fun b => if b < k then W.heap[b]? else none
theorem gB (W : World) (k : Nat) : cH (aw W k) W := by
 intro b o h
 unfold aw at h
 split at h
 ·exact h
 ·cases h
theorem Cm (W : World) (R : Seal) (G : Glo) (hG : G.p R) (hs : cH R W) : MS ⟨W, R, blks [], G, hG, []⟩ R [] W :=
 ⟨hs, Seal.le_refl R, fun _ hb => .inl hb, ⟨fun _ h => absurd h List.not_mem_nil, List.nodup_nil, fun _ h => absurd h List.not_mem_nil⟩, fun _ h => absurd h List.not_mem_nil, Ext.refl W _⟩
theorem oY {W W' : World} (h : Ext W [] W') (may : MemPlace → Prop) : W.keptBut W' may := by
 refine ⟨h.os, h.output, fun i hi => ?_⟩
 rw [h.block i hi (by simp)]
 generalize W.heap[i]? = o
 cases o with
 | none => rfl
 | some o =>
  cases o with
  | cells c t fr => exact ⟨rfl, rfl, rfl, fun _ _ => rfl⟩
  | map es clock => exact .inr ⟨rfl, rfl⟩
  | _ => rfl
end
section
open Go
theorem nQ {P : Program} {w : World} {n : String} {g : Nat} {cs : Array Value} (hg : P.globalNamed n = some g) (hv : w.var? P n = some cs) : ∃ e fz, w.heap[g]? = some (.cells cs e fz) := by
 simp only [World.var?, hg, Option.bind_some] at hv
 split at hv
 ·rename_i c e fz hh
  cases hv
  exact ⟨_, _, hh⟩
 ·cases hv
def Fj (L : List (Nat × List AVal)) : Glo := ⟨fun R => ∀ x, x ∈ L → bY R x.1 0 x.2, fun _ _ hle h x hx => by
 obtain ⟨C, e, fz, h1, h2⟩ := h x hx
 exact ⟨C, e, fz, hle _ _ h1, ci hle _ _ h2⟩⟩
theorem pf : ∀ (L : List (Nat × List AVal)) {g : Nat} {cs : List AVal}, iH L g = some cs → (g, cs) ∈ L
 | [], _, _, h => by simp [iH] at h
 | (k, c) :: r, g, cs, h => by
  unfold iH at h
  split at h
  ·rename_i e
   obtain rfl := Nat.eq_of_beq_eq_true e
   cases h
   exact List.mem_cons_self
  ·exact List.mem_cons_of_mem _ (pf r h)
theorem jj {L L' : List (Nat × List AVal)} (h : ∀ x, x ∈ L' → x ∈ L) : ad (Fj L) L' := fun g cs hg R hR => hR (g, cs) (h _ (pf L' hg))
theorem dh {W : World} {k g : Nat} {C : Array Value} {e : TypeId} {fz : Nat × Nat} {cs : List AVal} (hk : g < k) (hW : W.heap[g]? = some (.cells C e fz)) (h : RelL (aw W k) cs (C.toList.take cs.length)) : bY (aw W k) g 0 cs :=
 ⟨C, e, fz, by unfold aw; rw [if_pos hk]; exact hW, by rw [List.drop_zero]; exact h⟩
theorem oo : ∀ ty, ty < Tryz.prog.types.size → Tryz.prog.rowNamed ty [101, 114, 114, 111, 114] = true → ty = 38 := by
 have h : ((List.range Tryz.prog.types.size).all fun ty => !Tryz.prog.rowNamed ty [101, 114, 114, 111, 114] || Nat.beq ty 38) = true := by kernel_rfl
 intro ty h1 h2
 have := List.all_eq_true.1 h ty (List.mem_range.2 h1)
 rw [h2] at this
 exact Nat.eq_of_beq_eq_true (by simpa using this)
theorem xP {W : World} {k : Nat} (hk : 1 < k) {laid : List (String × DataW Unit)} (hL : laidMetH Tryz.prog laid W) (hm : ("errors.errorType", Rows.laid_errors_errorType) ∈ laid) : bY (aw W k) 1 0 [rty 38] := by
 have h := (laidMetH_iff.1 hL).2 _ (List.mem_filter.2 ⟨hm, by kernel_rfl⟩)
 have h : ∃ name u ty, (Rows.laid_errors_errorType (H := Unit)).handleName? = some name ∧ (Tryz.prog.cutTypes.find? (·.1 == "internal/reflectlite.rtype")).map (·.2) = some u ∧ ty < Tryz.prog.types.size ∧ Tryz.prog.rowNamed ty name = true ∧
   W.var? Tryz.prog "errors.errorType" = some #[.iface u (.agg #[typeHandle Tryz.prog ty])] := h
 obtain ⟨name, u, ty, h1, h2, h3, h4, h5⟩ := h
 obtain rfl : [101, 114, 114, 111, 114] = name := Option.some.inj ((show (Rows.laid_errors_errorType (H := Unit)).handleName? = some [101, 114, 114, 111, 114] by kernel_rfl).symm.trans h1)
 obtain rfl : 242 = u := Option.some.inj ((show (Tryz.prog.cutTypes.find? (·.1 == "internal/reflectlite.rtype")).map (·.2) = some 242 by kernel_rfl).symm.trans h2)
 obtain rfl := oo ty h3 h4
 obtain ⟨e, fz, hh⟩ := nQ (show Tryz.prog.globalNamed "errors.errorType" = some 1 by kernel_rfl) h5
 exact dh hk hh ⟨_, _, rfl, (kM _).1, rfl⟩
noncomputable def fB (os : Os) : World :=
 let w0 := World.holding Tryz.prog os ⟨#[], #[], []⟩
 { w0 with heap := w0.heap.modify 1 fun
   | .cells _ t frozen => .cells #[.iface 242 (.agg #[hdl 38])] t frozen
   | o => o }
def dM (laid : List (String × DataW Unit)) : List (String × DataW Unit) := laid.filter fun x => x.2.handleName?.isNone
noncomputable def bj (os : Os) (laid : List (String × DataW Unit)) : World := (fB os).layVars Tryz.prog (dM laid)
theorem fM (os : Os) (laid : List (String × DataW Unit)) : (bj os laid).os = os := World.layVars_os _ _ _
theorem eZ {os : Os} {laid : List (String × DataW Unit)} (args : Array Value) (hf : (fB os).layFits Tryz.prog (dM laid) [] = true) (hi : (fB os).layIfaces Tryz.prog (dM laid) (bj os laid) = true)
  (hh : ((laid.filter fun x => x.2.handleName?.isSome).all (handleAtB Tryz.prog ((bj os laid).forCall (fun _ _ => 0) ⟨#[], args, []⟩).memory)) = true) :
  laidMetH Tryz.prog laid ((bj os laid).forCall (fun _ _ => 0) ⟨#[], args, []⟩).memory := by
 refine laidMetH_of_parts ?_ hh
 have e1 : ((dM laid).filter fun x => ((dM laid).map (·.1)).contains x.1) = dM laid := List.filter_eq_self.2 fun x hx => List.contains_iff_mem.2 (List.mem_map.2 ⟨x, hx, rfl⟩)
 have e2 : ((dM laid).filter fun x => !((dM laid).map (·.1)).contains x.1) = [] := List.filter_eq_nil_iff.2 fun x hx => by rw [List.contains_iff_mem.2 (List.mem_map.2 ⟨x, hx, rfl⟩)]; simp
 have h : laidMet Tryz.prog (dM laid) (bj os laid) := laidMet_layVars (w0 := fB os) ((dM laid).map (·.1)) [] (by rw [e1]; rfl) (by rw [e1]; exact hf) (by rw [e1]; exact hi) (by rw [e2]; exact LaidIn.none)
 exact h.of_heap (by simp [World.memory, World.forCall, Input.heap])
theorem Gp {W : World} {laid : List (String × DataW Unit)} (hL : laidMetH Tryz.prog laid W) (hm : ("errors.errorType", Rows.laid_errors_errorType) ∈ laid) : 1 < W.heap.size := by
 have h := (laidMetH_iff.1 hL).2 _ (List.mem_filter.2 ⟨hm, by kernel_rfl⟩)
 obtain ⟨name, u, ty, h1, h2, h3, h4, h5⟩ := h
 obtain ⟨e, fz, hh⟩ := nQ (show Tryz.prog.globalNamed "errors.errorType" = some 1 by kernel_rfl) h5
 exact (Array.getElem?_eq_some_iff.1 hh).1
theorem mh {P : Program} {G : Glo} {f : FuncId} {avs : List AVal} {c : Bool} {args : Array Value} {W : World} {R : Seal} (hs : FnIs P G f avs (.bool c)) (hc : (callFunc f args).run P W = .ok (.enter f args) W)
  (hG : G.p R) (hR : cH R W) (ha : RelV R avs args.toList) : Calls P f args W fun e W' => e = .returned (.bool c) ∧ (∀ may, W.keptBut W' may) ∧ Go.RowKit.Below W.heap.size W W' := by
 rcases hs R W args hG (Cm W R G hG hR) ha with ⟨_, h⟩ | ⟨v, w', h, _⟩
 ·refine h.mono fun e W' ⟨res, H', R', ⟨hr, hH⟩, he, hm⟩ => ?_
  subst hr
  obtain ⟨x, rfl, hx⟩ := he
  refine ⟨by rw [aD.1 hx], fun may => oY hm.ext may, ⟨hm.ext.os, hm.ext.tape, hm.ext.output, hm.ext.size, fun k hk => hm.ext.block k hk (fun h => absurd h List.not_mem_nil)⟩⟩
 ·rw [hc] at h
  cases h
end
section
open Go
theorem ye {α β : Type} (k : Nat) (E : α → List β) (hE : ∀ z, (E z).length = k) : ∀ (zs : List α) (cs : List β), cs.length = zs.length * k →
  (∀ i z, zs[i]? = some z → (cs.drop (i * k)).take k = E z) → cs = zs.flatMap E
 | [], cs, hl, _ => by
  simp only [List.length_nil, Nat.zero_mul] at hl
  simp [List.eq_nil_of_length_eq_zero hl]
 | z :: zs, cs, hl, h => by
  have h0 := h 0 z rfl
  simp only [Nat.zero_mul, List.drop_zero] at h0
  have hr := ye k E hE zs (cs.drop k) (by rw [List.length_drop, hl, List.length_cons, Nat.succ_mul]; omega) (fun i y hy => by
   have := h (i + 1) y hy
   rw [List.drop_drop]
   rw [Nat.succ_mul, Nat.add_comm] at this
   exact this)
  rw [List.flatMap_cons, ← h0, ← hr, List.take_append_drop]
theorem lW {R : Seal} : ∀ (l : List (IntKind × Int)), RelL R (l.map fun x => .int x.1 x.2) (l.map fun x => .int x.1 x.2)
 | [] => rfl
 | _ :: l => ⟨_, _, rfl, rfl, lW l⟩
section
variable {P : Program} {H : Type} {enc : TypeId × Value → H} {w : World} {base : Nat} {spare : Nat → Bool} {held : Bool}
theorem lG {t e n fuel : Nat} {k : IntKind} {cs : List Value} {ps : List MemPlace} {zs : List Nat} (ht : P.underlying t = some (.array n e)) (he : P.underlying e = some (.int k)) (hc : P.cellsOf e = 1) (hct : P.cellsOf t = n)
  (h : DataW.trod enc P w base spare held fuel t cs = some (.agg (zs.map fun x : Nat => .lit (.int k (x : Int))), ps)) (hz : zs.length = n) : cs = zs.flatMap fun x : Nat => [Value.int k (x : Int)] := by
 obtain ⟨xs, m, _, ex, hl, hxl, hel⟩ := DataW.trod_array ht h
 have e3 : (xs.map (·.1)) = zs.map fun x : Nat => .lit (.int k x) := (DataW.agg.inj (Prod.mk.inj ex).1).symm
 refine ye 1 _ (fun _ => rfl) zs cs (by omega) (fun i z hi => ?_)
 have hin : i < zs.length := (List.getElem?_eq_some_iff.1 hi).1
 have hE := hel i (by omega)
 rw [hc, List.getElem?_eq_getElem (by omega)] at hE
 obtain ⟨y, e1, e2, _⟩ := DataW.trod_int he hE
 have e4 : (xs.map (·.1))[i]? = (zs.map fun x : Nat => (DataW.lit (.int k x) : DataW H))[i]? := by rw [e3]
 rw [List.getElem?_map, List.getElem?_map, List.getElem?_eq_getElem (by omega : i < xs.length), hi, e2] at e4
 simp only [Option.map_some, Option.some.injEq, DataW.lit.injEq, Lit.int.injEq, true_and] at e4
 rw [e1, e4]
end
theorem gL {P : Program} {W : World} {laid : List (String × DataW Unit)} (hL : laidMetH P laid W) {n : String} {d : DataW Unit} (hm : (n, d) ∈ laid) (hn : d.handleName?.isNone = true) {g : Nat} {t : TypeId} (hg : P.globalNamed n = some g) (ht : (P.globals[g]?).map (·.type) = some t) :
  ∃ cs e fz fuel p, W.heap[g]? = some (.cells cs e fz) ∧ DataW.trod (fun _ => ()) P W 0 (fun _ => true) false fuel t cs.toList = some (d, p) := by
 have h1 := (laidMetH_iff.1 hL).1
 obtain ⟨ps, h, _⟩ := h1
 have key : ∀ (l : List (String × DataW Unit)) (ps : List MemPlace), DataW.LaidVars P W l ps → (n, d) ∈ l → ∃ cs e fz fuel p, W.heap[g]? = some (.cells cs e fz) ∧ DataW.trod (fun _ => ()) P W 0 (fun _ => true) false fuel t cs.toList = some (d, p) := by
  intro l
  induction l with
  | nil => intro ps _ hm; cases hm
  | cons a r ih =>
   obtain ⟨m, b⟩ := a
   rintro ps ⟨g', t', cs, fuel, p, q, e1, e2, e3, e4, e5, _⟩ hm
   rcases List.mem_cons.1 hm with hm | hm
   ·cases hm
    obtain rfl := Option.some.inj (hg.symm.trans e1)
    obtain rfl := Option.some.inj (ht.symm.trans e2)
    obtain ⟨e, fz, hh⟩ := nQ hg e3
    exact ⟨cs, e, fz, fuel, p, hh, e4⟩
   ·exact ih q e5 hm
 exact key _ ps h (List.mem_filter.2 ⟨hm, hn⟩)
theorem oM {W : World} (h : W.ShapedOpen Tryz.prog) : ∃ m, W.cell? ⟨4, 0, none⟩ = some (.int .i64 m) :=
 cell_of_shapedOpen_int (t := 3) (zero := #[.int .i64 0]) h (of_decide_eq_true (by kernel_rfl)) (by kernel_rfl) rfl (by kernel_rfl) (by kernel_rfl) Tryz.underlying3
theorem w9 {W : World} {k : Nat} (hk : 4 < k) {m : Int} (h : W.cell? ⟨4, 0, none⟩ = some (.int .i64 m)) : bY (aw W k) 4 0 [.int .i64 m] := by
 unfold World.cell? at h
 split at h
 ·rename_i C e fz hW
  refine dh hk hW ?_
  have h : C[0]? = some (.int .i64 m) := h
  have h0 := (Array.getElem?_eq_some_iff.1 h)
  obtain ⟨hlt, h1⟩ := h0
  have e1 : C.toList.take 1 = [.int .i64 m] := by
   have hl : 0 < C.toList.length := by simpa using hlt
   have := List.take_succ_eq_append_getElem (l := C.toList) (i := 0) hl
   simp at this
   rw [show (1 : Nat) = 0 + 1 from rfl, List.take_succ_eq_append_getElem hl]
   simp [h1]
  show RelL _ _ (C.toList.take 1)
  rw [e1]
  exact ⟨_, _, rfl, rfl, rfl⟩
 ·cases h
def sJ (A B : Glo) : Glo := ⟨fun R => A.p R ∧ B.p R, fun R R' h k => ⟨A.mono R R' h k.1, B.mono R R' h k.2⟩⟩
theorem k6 {A B : Glo} {L : List (Nat × List AVal)} (h : ad A L) : ad (sJ A B) L := fun g cs hg R hR => h g cs hg R hR.1
def CR : Glo := ⟨fun R => ∃ e fz, R 7 = some (.cells (Lib.pow10Tab.map fun z => Value.int .u64 z).toArray e fz), fun _ _ hle ⟨e, fz, h⟩ => ⟨e, fz, hle _ _ h⟩⟩
theorem B7 {W : World} {k : Nat} (hk : 7 < k) {laid : List (String × DataW Unit)} (hL : laidMetH Tryz.prog laid W) (hm : ("internal/strconv.uint64pow10", Rows.laid_internal_strconv_uint64pow10) ∈ laid) : CR.p (aw W k) := by
 obtain ⟨C, e, fz, fuel, p, hW, hd⟩ := gL hL hm (by kernel_rfl) (g := 7) (t := 277) (by kernel_rfl) (by kernel_rfl)
 have hc := lG (n := 20) (zs := (List.range 20).map (10 ^ ·)) Tryz.underlying277 Tryz.underlying233 (by kernel_rfl) (by kernel_rfl) hd (by simp)
 have e1 : C = (Lib.pow10Tab.map fun z => Value.int .u64 z).toArray := by
  apply Array.ext'
  rw [hc]
  unfold Lib.pow10Tab
  simp
  rfl
 refine ⟨e, fz, ?_⟩
 unfold aw
 rw [if_pos hk, hW, e1]
theorem iS {W : World} {g : Nat} {o : Obj} (h : W.heap[g]? = some o) : g < W.heap.size := (Array.getElem?_eq_some_iff.1 h).1
theorem nx {W : World} {laid : List (String × DataW Unit)} (hL : laidMetH Tryz.prog laid W) {n : String} {d : DataW Unit} (hm : (n, d) ∈ laid) (hn : d.handleName?.isNone = true) {g : Nat} {t : TypeId} (hg : Tryz.prog.globalNamed n = some g) (ht : (Tryz.prog.globals[g]?).map (·.type) = some t) : g < W.heap.size := by
 obtain ⟨_, _, _, _, _, hW, _⟩ := gL hL hm hn hg ht
 exact iS hW
end
section
open Go
section
variable {P : Program} {H : Type} {enc : TypeId × Value → H} {w : World} {base : Nat} {spare : Nat → Bool} {held : Bool}
theorem wi {t e n fuel u : Nat} {k : IntKind} {f0 f1 : Field} {cs : List Value} {ps : List MemPlace} {zs : List (Nat × Nat)} (ht : P.underlying t = some (.array n e)) (he : P.underlying e = some (.struct #[f0, f1])) (hc : P.cellsOf e = 2) (hct : P.cellsOf t = n * 2)
  (hf0 : f0.type = u) (hf1 : f1.type = u) (ho0 : f0.offset = 0) (ho1 : f1.offset = 1) (hu : P.underlying u = some (.int k)) (hcu : P.cellsOf u = 1)
  (h : DataW.trod enc P w base spare held fuel t cs = some (.agg (zs.map fun x : Nat × Nat => .agg [.lit (.int k (x.1 : Int)), .lit (.int k (x.2 : Int))]), ps)) (hz : zs.length = n) : cs = zs.flatMap fun x : Nat × Nat => [Value.int k (x.1 : Int), Value.int k (x.2 : Int)] := by
 obtain ⟨xs, m, _, ex, hl, hxl, hel⟩ := DataW.trod_array ht h
 have e3 : (xs.map (·.1)) = zs.map fun x : Nat × Nat => .agg [.lit (.int k x.1), .lit (.int k x.2)] := (DataW.agg.inj (Prod.mk.inj ex).1).symm
 refine ye 2 _ (fun _ => rfl) zs cs (by omega) (fun i z hi => ?_)
 have hin : i < zs.length := (List.getElem?_eq_some_iff.1 hi).1
 have hE := hel i (by omega)
 rw [hc, List.getElem?_eq_getElem (by omega)] at hE
 generalize hcc : (cs.drop (i * 2)).take 2 = c at hE
 obtain ⟨y0, y1, m', e2, hl2, h0, h1⟩ := Go.ChangeShapes.trod_struct2 he hE
 rw [hf0, ho0, hcu] at h0
 rw [hf1, ho1, hcu] at h1
 obtain ⟨a0, c0, d0, _⟩ := DataW.trod_int hu h0
 obtain ⟨a1, c1, d1, _⟩ := DataW.trod_int hu h1
 have e4 : (xs.map (·.1))[i]? = (zs.map fun x : Nat × Nat => (DataW.agg [.lit (.int k x.1), .lit (.int k x.2)] : DataW H))[i]? := by rw [e3]
 rw [List.getElem?_map, List.getElem?_map, List.getElem?_eq_getElem (by omega : i < xs.length), hi, e2, d0, d1] at e4
 simp only [Option.map_some, Option.some.injEq, DataW.agg.injEq, List.cons.injEq, DataW.lit.injEq, Lit.int.injEq, true_and, and_true] at e4
 rw [hc] at hl2
 match c, hl2 with
 | [x0, x1], _ =>
  simp only [List.drop_zero, List.take_succ_cons, List.take_zero, List.cons.injEq, and_true, List.drop_succ_cons] at c0 c1
  rw [c0, c1, e4.1, e4.2]
end
theorem xH {W : World} {k : Nat} (hk : 8 < k) {laid : List (String × DataW Unit)} (hL : laidMetH Tryz.prog laid W) (hm : ("unicode/utf8.first", Rows.laid_unicode_utf8_first) ∈ laid) : bY (aw W k) 8 0 firstTab := by
 obtain ⟨C, e, fz, fuel, p, hW, hd⟩ := gL hL hm (by kernel_rfl) (g := 8) (t := 160) (by kernel_rfl) (by kernel_rfl)
 refine dh hk hW ?_
 have hc := lG (n := 256) (zs := Go.Pinned.utf8FirstZ) Tryz.underlying160 Tryz.underlying5 (by kernel_rfl) (by kernel_rfl) hd (by kernel_rfl)
 have e1 : firstTab = (Go.Pinned.utf8FirstZ.map fun x : Nat => (IntKind.u8, (x : Int))).map fun x => .int x.1 x.2 := by simp [firstTab]
 have e2 : C.toList.take firstTab.length = (Go.Pinned.utf8FirstZ.map fun x : Nat => (IntKind.u8, (x : Int))).map fun x => .int x.1 x.2 := by
  have : C.toList = Go.Pinned.utf8FirstZ.map fun x : Nat => Value.int .u8 (x : Int) := by
   rw [hc]; generalize Go.Pinned.utf8FirstZ = l; induction l <;> simp_all
  rw [this, List.take_of_length_le (by simp [firstTab])]
  simp
 rw [e2, e1]
 exact lW _
def zC : List (Nat × Nat) := [(128, 191), (160, 191), (128, 159), (144, 191), (128, 143), (0, 0), (0, 0), (0, 0), (0, 0), (0, 0), (0, 0), (0, 0), (0, 0), (0, 0), (0, 0), (0, 0)]
theorem vZ {W : World} {k : Nat} (hk : 9 < k) {laid : List (String × DataW Unit)} (hL : laidMetH Tryz.prog laid W) (hm : ("unicode/utf8.acceptRanges", Rows.laid_unicode_utf8_acceptRanges) ∈ laid) : bY (aw W k) 9 0 acceptTab := by
 obtain ⟨C, e, fz, fuel, p, hW, hd⟩ := gL hL hm (by kernel_rfl) (g := 9) (t := 297) (by kernel_rfl) (by kernel_rfl)
 refine dh hk hW ?_
 rw [wi (n := 16) (zs := zC) Tryz.underlying297 Tryz.underlying296 (by kernel_rfl) (by kernel_rfl) rfl rfl rfl rfl Tryz.underlying5 (by kernel_rfl) hd (by kernel_rfl)]
 exact lW ((zC.flatMap fun x : Nat × Nat => [x.1, x.2]).map fun x : Nat => (IntKind.u8, (x : Int)))
end
section
open Go Go.RowKit
attribute [local irreducible] AWp AOps aa ax OrOk ad ae
attribute [local irreducible] escF escS
theorem oy {G : Glo} (s : List UInt8) (hl : s.length ≤ 2000000) : FnIs Tryz.prog G 90 [.str s] (.str (escS s)) := by
 have hGL : ad G [] := ab
 refine fn_x Tryz.func90 Tryz.call90 rfl rfl rfl rfl hGL ?_
 intro C hC
 refine xw1 ?_
 intros
 refine lp hC hGL (fun i : Nat => [(0, .str s), (3, .str (escS (s.take i))), (6, .int .i64 (s.length : Nat)), (7, .int .i64 (i : Nat))]) (fun _ => []) (fun i => i ≤ s.length) (fun i => s.length - i) 0 (Nat.zero_le _) ⟨rfl, ?_, rfl, rfl, trivial⟩ rfl ?_
 ·show some (AVal.str []) = some (AVal.str (escS (s.take 0)))
  rw [List.take_zero, fd]
 ·intro i hi
  have e1 := (ff (s.take i)).2
  rw [List.length_take, Nat.min_eq_left hi] at e1
  by_cases hlt : i < s.length
  ·have et := jq hlt
   have hb0 := jw hlt
   have hby := aK s i
   have hone : (s.take (i + 1)).drop i = [s[i]] := by rw [List.drop_take, show i + 1 - i = 1 by omega, List.drop_eq_getElem_cons hlt]; rfl
   have hlo : ((s.take (i + 1)).drop i).length = 1 := by rw [hone]; rfl
   rcases (show (aa s i = 92 ∨ aa s i = 44 ∨ aa s i = 59) ∨ aa s i = 10 ∨ (aa s i ≠ 92 ∧ aa s i ≠ 44 ∧ aa s i ≠ 59 ∧ aa s i ≠ 10) by omega) with hk | hk | ⟨k1, k2, k3, k4⟩
   ·have he : escF s[i] = [92] ++ (s.take (i + 1)).drop i := by
     rw [hone]
     rcases hk with hk | hk | hk
     all_goals rw [(u8_k (by decide)).2 (hb0.symm.trans hk)]
     ·exact sQ
     ·exact sS
     ·exact sR
    refine xw ?_
    repeat' (first | exact Le.n | refine Lc.mk ?_ ?_)
    all_goals intros
    all_goals first
     | (refine nxt (i + 1) ?_ ?_ ⟨rfl, ?_, rfl, rfl, trivial⟩ rfl; exact hlt; (show s.length - (i + 1) < s.length - i; omega); (rw [et, he]; rfl))
     | skip
   ·have he : escF s[i] = [92, 110] := by rw [(u8_k (by decide)).2 (hb0.symm.trans hk)]; exact sT
    refine xw ?_
    repeat' (first | exact Le.n | refine Lc.mk ?_ ?_)
    all_goals intros
    all_goals first
     | (refine nxt (i + 1) ?_ ?_ ⟨rfl, ?_, rfl, rfl, trivial⟩ rfl; exact hlt; (show s.length - (i + 1) < s.length - i; omega); (rw [et, he]; rfl))
     | skip
   ·have he : escF s[i] = (s.take (i + 1)).drop i := by
     rw [hone]
     exact lf (by rw [← hb0]; exact k1) (by rw [← hb0]; exact k2) (by rw [← hb0]; exact k3) (by rw [← hb0]; exact k4)
    refine xw ?_
    repeat' (first | exact Le.n | refine Lc.mk ?_ ?_)
    all_goals intros
    all_goals first
     | (refine nxt (i + 1) ?_ ?_ ⟨rfl, ?_, rfl, rfl, trivial⟩ rfl; exact hlt; (show s.length - (i + 1) < s.length - i; omega); (rw [et, he]; rfl))
     | skip
  ·have h9 : escS (s.take i) = escS s := by rw [List.take_of_length_le (by omega)]
   refine xw1 ?_
   intros
   apply aj
   rw [h9]
end
section
open Go
inductive Tk where
 | one (c : UInt8)
 | two (d : UInt8)
def Tk.raw : Tk → List UInt8
 | .one c => [c]
 | .two d => [92, d]
def escV (d : UInt8) : UInt8 := if d = 110 ∨ d = 78 then 10 else d
def Tk.val : Tk → UInt8
 | .one c => c
 | .two d => escV d
def okE (d : UInt8) : Bool := decide (d = 92 ∨ d = 44 ∨ d = 59 ∨ d = 110 ∨ d = 78)
def Tk.ok : Tk → Prop
 | .one c => c ≠ 92
 | .two d => okE d = true
end
section
open Go
end
section
open Go
end
section
open Go Go.RowKit
set_option maxHeartbeats 8000000
attribute [local irreducible] AWp AOps ax OrOk ad ae aa escV idxB
end
section
open Go Go.RowKit
set_option maxHeartbeats 8000000
attribute [local irreducible] AWp AOps ax OrOk ad ae aa
end
section
open Go Go.RowKit
set_option maxHeartbeats 8000000
attribute [local irreducible] AWp AOps ax OrOk ad ae aa
theorem po {G : Glo} (e p : Int) : FnIs Tryz.prog G 36 [.agg [.int .i64 e, .int .i64 p]] (.bool (eqB e 0)) := by
 have hGL : ad G [] := ab
 refine fn_x Tryz.func36 Tryz.call36 rfl rfl rfl rfl hGL ?_
 intro C hC
 exact xw0
end
section
open Go Go.RowKit
set_option maxHeartbeats 8000000
attribute [local irreducible] AWp AOps ax OrOk ad ae aa
end
section
open Go Go.RowKit
set_option maxHeartbeats 8000000
attribute [local irreducible] AWp AOps ax OrOk ad ae
theorem vj (n : Int) : (d9 n).length = 4 := rfl
theorem df (n : Int) : (twoS n).length = 2 := rfl
theorem yy (n : Int) : (zprS n).length ≤ 100 := by
 unfold zprS
 (repeat' split) <;> simp [df]
theorem kq {t : Stm} (hf : t.frm = true) {P : Prop} (h : okN (whN (tlB t.y) (tlB t.m) (tlB t.d)) (whN (tlB t.h) (tlB t.i) (tlB t.s)) = true → (t.z = true → tlB t.h = true) → P) : P := by
 unfold Stm.frm at hf
 rw [Bool.and_eq_true] at hf
 refine h hf.1 fun hz => ?_
 have := hf.2
 rw [hz] at this
 exact this
theorem GV {d t : Int} (h : okN d t = true) : 0 ≤ d := by
 unfold okN at h
 exact (of_decide_eq_true h).1
theorem GU {d t : Int} (h : okN d t = true) : 0 ≤ t := by
 unfold okN at h
 exact (of_decide_eq_true h).2.1
theorem C9 (t : Stm) : (iM (tlB t.y) (tlB t.m) (tlB t.d) t.y t.m t.d).length ≤ 8 := by
 cases tlB t.y <;> cases tlB t.m <;> cases tlB t.d <;> simp [iM, d9, twoS, aT]
theorem Bk (t : Stm) : (gZ (tlB t.h) (tlB t.i) (tlB t.s) t.h t.i t.s).length ≤ 8 := by
 cases tlB t.h <;> cases tlB t.i <;> cases tlB t.s <;> simp [gZ, twoS, aT]
def Stm.R (t : Stm) : List AVal := [.int .i64 t.y, .int .i64 t.m, .int .i64 t.d, .int .i64 t.h, .int .i64 t.i, .int .i64 t.s, .bool t.z, .int .i64 t.o]
attribute [local irreducible] d9 twoS zprS
theorem pU {G : Glo} {m : Int} (hU : ad G (bI m)) (t : Stm) (hf : t.frm = true) (hr : t.rng = true) (hE : t.E = .none) : FnIs Tryz.prog G 111 [t.A] (.tuple [.str t.txt, Err.none.A]) := by
 have h0 := gv (G := G) hU t
 rw [hE] at h0
 have h1 := iX (G := G) t.y t.m t.d
 have h2 := iX (G := G) t.h t.i t.s
 have h3 := nL (G := G) t.o
 have hc := Tryz.call155
 have k1 := fun n a b => zF (G := G) n a b
 have k2 := fun n a b => Ba (G := G) n a b
 have l1 := vj t.y
 have l2 := df t.m
 have l3 := df t.d
 have l4 := df t.h
 have l5 := df t.i
 have l6 := df t.s
 have l7 := yy t.o
 have r := hr
 unfold Stm.rng at r
 simp only [Bool.and_eq_true, nO] at r
 obtain ⟨r1, r2, r3, r4, r5, r6, -⟩ := r
 have r3' : t.d = -1 ∨ 1 ≤ t.d ∧ t.d ≤ 31 := by
  refine r3.imp_right fun h => ⟨h.1, ?_⟩
  have := h.2
  unfold Stm.day dayN at this
  (repeat' split at this) <;> omega
 clear r3
 have hx : t.txt = iM (tlB t.y) (tlB t.m) (tlB t.d) t.y t.m t.d ++ gZ (tlB t.h) (tlB t.i) (tlB t.s) t.h t.i t.s ++ (if t.z then zprS t.o else []) := rfl
 have hD := C9 t
 have hT := Bk t
 refine kq hf fun k kz => ?_
 have hGL : ad G [] := ab
 refine fn_a Tryz.func111 Tryz.call111 rfl rfl rfl rfl ?_
 intro C hC
 refine cut hC hGL [(1, .rop t.R 0)] [] True ?_ fun _ => ?_
 ·exact xw0
 refine cut hC hGL [(1, .rop t.R 0)] [] True ?_ fun _ => ?_
 ·exact xw0
 refine cut hC hGL [(1, .rop t.R 0), (5, .str [])] [] True ?_ fun _ => ?_
 ·exact xw0
 refine cut hC hGL [(1, .rop t.R 0), (5, .str (iM (tlB t.y) (tlB t.m) (tlB t.d) t.y t.m t.d))] [] True ?_ fun _ => ?_
 ·clear h0 h2 h3 hx hD hT kz l4 l5 l6 l7 r4 r5 r6
  cases e1 : tlB t.y
  all_goals cases e2 : tlB t.m
  all_goals cases e3 : tlB t.d
  all_goals rw [e1, e2, e3] at k h1
  all_goals try exact absurd (GV k) (by decide)
  all_goals clear k
  all_goals simp only [fmS, fmB, if_true, Bool.false_eq_true, if_false] at h1
  all_goals simp only [gY, yF] at e1 e2 e3
  all_goals exact xw0
 generalize iM (tlB t.y) (tlB t.m) (tlB t.d) t.y t.m t.d = D at *
 clear h0 h1 l1 l2 l3 r1 r2 r3'
 refine cut hC hGL [(1, .rop t.R 0), (5, .str D), (6, .str (fmS (tlB t.h) (tlB t.i) (tlB t.s)))] [] True ?_ fun _ => ?_
 ·exact xw0
 refine cut hC hGL [(1, .rop t.R 0), (5, .str D), (6, .str (fmS (tlB t.h) (tlB t.i) (tlB t.s)))] [] (fmS (tlB t.h) (tlB t.i) (tlB t.s) ≠ [45, 45, 45]) ?_ fun hn => ?_
 ·refine xw ?_
  repeat' (first | exact Le.n | refine Lc.mk ?_ ?_)
  all_goals intros
  all_goals first
   | contradiction
   | (apply aj; refine congrArg (fun l => AVal.tuple [.str l, Err.none.A]) ?_; have hq := (show fmS (tlB t.h) (tlB t.i) (tlB t.s) = [45, 45, 45] by assumption); rw [hx]; revert hq kz; cases tlB t.h <;> cases tlB t.i <;> cases tlB t.s <;> simp [fmS, fmB, gZ] <;> (intro a b; rw [a] at b; cases b))
 refine cut hC hGL [(1, .rop t.R 0), (5, .str (D ++ [84])), (6, .str (fmS (tlB t.h) (tlB t.i) (tlB t.s)))] [] True ?_ fun _ => ?_
 ·exact xw0
 refine cut hC hGL [(1, .rop t.R 0), (5, .str (D ++ [84])), (6, .str (fmS (tlB t.h) (tlB t.i) (tlB t.s))), (7, .bool false)] [] True ?_ fun _ => ?_
 ·exact xw0
 refine cuty hC hGL (fun q : List UInt8 => [(1, .rop t.R 0), (5, .str q)]) (fun _ => []) (fun q => q = D ++ gZ (tlB t.h) (tlB t.i) (tlB t.s) t.h t.i t.s) ?_ fun q hq => ?_
 ·clear hx kz hT h3
  cases e4 : tlB t.h
  all_goals cases e5 : tlB t.i
  all_goals cases e6 : tlB t.s
  all_goals rw [e4, e5, e6] at k hn
  all_goals try exact absurd (GU k) (by decide)
  all_goals try exact absurd rfl hn
  all_goals clear k hn
  all_goals simp only [gY, yF] at e4 e5 e6
  all_goals simp only [fmS, fmB, if_true, Bool.false_eq_true, if_false]
  all_goals
   refine xw1 ?_
   refine rds hC hGL 4 ?_
   refine xw1 ?_
   intros
   refine aH hC hGL (lM (i := 0) rfl rfl rfl rfl rfl rfl rfl (show _ < 3 by decide) rfl rfl) rfl rfl ?_
   refine xw1 ?_
   intros
   refine aH hC hGL (lM (i := 1) rfl rfl rfl rfl rfl rfl rfl (show _ < 3 by decide) rfl rfl) rfl rfl ?_
   refine xw1 ?_
   intros
   refine aH hC hGL (lM (i := 2) rfl rfl rfl rfl rfl rfl rfl (show _ < 3 by decide) rfl rfl) rfl rfl ?_
   refine xw1 ?_
   intros
   refine cy _ ?_
   simp only [gZ, List.append_assoc]
 subst hq
 refine cuty hC hGL (fun q : List UInt8 => [(1, .rop t.R 0), (5, .str q)]) (fun _ => []) (fun q => q = t.txt) ?_ fun q hq => ?_
 ·rw [hx]
  refine xw ?_
  repeat' (first | exact Le.n | refine Lc.mk ?_ ?_)
  all_goals intros
  all_goals first
   | (refine cy _ ?_; rw [if_pos (by assumption)])
   | (refine cy _ ?_; rw [if_neg (by rw [show t.z = false by assumption]; decide), List.append_nil])
 subst hq
 exact bw hC hGL xw0
theorem v8 {G : Glo} {m : Int} (hU : ad G (bI m)) (t : Stm) : FnIs Tryz.prog G 111 [t.A] (.tuple [.str t.T, t.E.A]) := by
 cases hf : t.frm with
 | true =>
  cases hr : t.rng with
  | true =>
   have hE : t.E = .none := by unfold Stm.E; rw [hf, hr]; rfl
   rw [hE, show t.T = t.txt by unfold Stm.T; rw [hf, hr]; rfl]
   exact pU hU t hf hr hE
  | false =>
   have h0 := gv (G := G) hU t
   have hE : t.E = .errno 2 := by unfold Stm.E; rw [hf, hr]; rfl
   rw [hE] at h0 ⊢
   rw [show t.T = [] by unfold Stm.T; rw [hf, hr]; rfl]
   have hGL : ad G [] := ab
   refine fn_x Tryz.func111 Tryz.call111 rfl rfl rfl rfl hGL ?_
   intro C hC
   repeat' (first | (conv => whnf); first | refine .w ?_ | refine .v ?_ | refine sc_c ?_ ?_ <;> (intro hb; try exact dd hb) | apply an | apply az | (apply sc_i <;> intro hb) | (apply bx_i; intro hbd) | (apply ar; first | exact h0) | (apply ap (i := 0) rfl; first | exact h0) | (apply ab_i; intro bl) | (apply as_i; intro va vk vc hva) | (apply av_i; intro v) | (apply ac_i; intro bl cap hcap) | apply bo_l | (apply nx_i <;> intro hnx) | exact rt_w | apply dw_q mixed hC hGL (by kernel_rfl) | (apply cq; assumption; (first | exact h0); exact rfl))
   all_goals try conv => whnf
 | false =>
  have h0 := gv (G := G) hU t
  have hE : t.E = .errno 3 := by unfold Stm.E; rw [hf]; rfl
  rw [hE] at h0 ⊢
  rw [show t.T = [] by unfold Stm.T; rw [hf]; rfl]
  have hGL : ad G [] := ab
  refine fn_x Tryz.func111 Tryz.call111 rfl rfl rfl rfl hGL ?_
  intro C hC
  repeat' (first | (conv => whnf); first | refine .w ?_ | refine .v ?_ | refine sc_c ?_ ?_ <;> (intro hb; try exact dd hb) | apply an | apply az | (apply sc_i <;> intro hb) | (apply bx_i; intro hbd) | (apply ar; first | exact h0) | (apply ap (i := 0) rfl; first | exact h0) | (apply ab_i; intro bl) | (apply as_i; intro va vk vc hva) | (apply av_i; intro v) | (apply ac_i; intro bl cap hcap) | apply bo_l | (apply nx_i <;> intro hnx) | exact rt_w | apply dw_q mixed hC hGL (by kernel_rfl) | (apply cq; assumption; (first | exact h0); exact rfl))
  all_goals try conv => whnf
end
section
open Go Go.RowKit
def Fd (i : Nat) : List UInt8 := [[], [97], [97, 98], [97, 98, 99], [98], [98, 99], [99]].getD i []
def bg (i : Nat) : List UInt8 := [[], [57, 57, 57, 57], [57, 57, 57, 57, 45, 57, 57], [57, 57, 57, 57, 57, 57, 57, 57], [45, 45, 57, 57], [45, 45, 57, 57, 57, 57], [45, 45, 45, 57, 57]].getD i []
def clkF (i : Nat) : List UInt8 := [[], [57, 57], [57, 57, 57, 57], [57, 57, 57, 57, 57, 57], [45, 57, 57], [45, 57, 57, 57, 57], [45, 45, 57, 57]].getD i []
def rO (i : Nat) : AVal := .agg [.str (Fd i), .str (bg i), .str (clkF i)]
def shapesTy : List (Nat × List AVal) := [(3, [.list 3 7 rO])]
set_option maxHeartbeats 8000000
attribute [local irreducible] AWp AOps ax OrOk ad ae
theorem ja {G : Glo} (hGL : ad G shapesTy) (a b c : Int) : FnIs Tryz.prog G 143 [Bm a b c] (.int .i64 (whN (tlB a) (tlB b) (tlB c))) := by
 by_cases h1 : a = -1
 all_goals by_cases h2 : b = -1
 all_goals by_cases h3 : c = -1
 all_goals
  refine fn_x Tryz.func143 Tryz.call143 rfl rfl rfl rfl hGL ?_
  intro C hC
  repeat' (first | (conv => whnf); first | refine .w ?_ | refine .v ?_ | refine sc_c ?_ ?_ <;> (intro hb; try exact dd hb) | apply an | apply az | (apply sc_i <;> intro hb) | (apply bx_i; intro hbd) | (apply ar; first | fail) | (apply ap (i := 0) rfl; first | fail) | (apply ab_i; intro bl) | (apply as_i; intro va vk vc hva) | (apply av_i; intro v) | (apply ac_i; intro bl cap hcap) | apply bo_l | (apply nx_i <;> intro hnx) | exact rt_w | apply dw_q mixed hC hGL (by kernel_rfl) | (apply cq; assumption; (first | fail); exact rfl))
  all_goals try conv => whnf
  refine rds hC hGL 4 ?_
  repeat' (first | (conv => whnf); first | refine .w ?_ | refine .v ?_ | refine sc_c ?_ ?_ <;> (intro hb; try exact dd hb) | apply an | apply az | (apply sc_i <;> intro hb) | (apply bx_i; intro hbd) | (apply ar; first | fail) | (apply ap (i := 0) rfl; first | fail) | (apply ab_i; intro bl) | (apply as_i; intro va vk vc hva) | (apply av_i; intro v) | (apply ac_i; intro bl cap hcap) | apply bo_l | (apply nx_i <;> intro hnx) | exact rt_w | apply dw_q mixed hC hGL (by kernel_rfl) | (apply cq; assumption; (first | fail); exact rfl))
  all_goals try conv => whnf
  refine rds hC hGL 8 ?_
  repeat' (first | (conv => whnf); first | refine .w ?_ | refine .v ?_ | refine sc_c ?_ ?_ <;> (intro hb; try exact dd hb) | apply an | apply az | (apply sc_i <;> intro hb) | (apply bx_i; intro hbd) | (apply ar; first | fail) | (apply ap (i := 0) rfl; first | fail) | (apply ab_i; intro bl) | (apply as_i; intro va vk vc hva) | (apply av_i; intro v) | (apply ac_i; intro bl cap hcap) | apply bo_l | (apply nx_i <;> intro hnx) | exact rt_w | apply dw_q mixed hC hGL (by kernel_rfl) | (apply cq; assumption; (first | fail); exact rfl))
  all_goals try conv => whnf
  all_goals (apply aj; simp only [tlB, h1, h2, h3, ne_eq, not_true_eq_false, not_false_eq_true, decide_true, decide_false]; rfl)
end
section
open Go Go.RowKit
set_option maxHeartbeats 8000000
attribute [local irreducible] AWp AOps ax OrOk ad ae
def tstB (t : Stm) : Nat → Bool
 | 0 => witB t.y 0 9999
 | 1 => witB t.m 1 12
 | 2 => witB t.d 1 t.day
 | 3 => witB t.h 0 23
 | 4 => witB t.i 0 59
 | _ => witB t.s 0 59
theorem FY {t : Stm} (h : ∀ j, j < 6 → tstB t j = true) (z : zrB t.o = true) : t.rng = true := by
 have h0 : witB t.y 0 9999 = true := h 0 (by decide)
 have h1 : witB t.m 1 12 = true := h 1 (by decide)
 have h2 : witB t.d 1 t.day = true := h 2 (by decide)
 have h3 : witB t.h 0 23 = true := h 3 (by decide)
 have h4 : witB t.i 0 59 = true := h 4 (by decide)
 have h5 : witB t.s 0 59 = true := h 5 (by decide)
 unfold Stm.rng
 rw [h0, h1, h2, h3, h4, h5, z]
 rfl
theorem lQ {t : Stm} (j : Nat) (h : tstB t j = false) : t.rng = false := by
 unfold Stm.rng
 match j, h with
 | 0, h => have h : witB t.y 0 9999 = false := h; simp [h]
 | 1, h => have h : witB t.m 1 12 = false := h; simp [h]
 | 2, h => have h : witB t.d 1 t.day = false := h; simp [h]
 | 3, h => have h : witB t.h 0 23 = false := h; simp [h]
 | 4, h => have h : witB t.i 0 59 = false := h; simp [h]
 | n + 5, h => have h : witB t.s 0 59 = false := h; simp [h]
theorem GQ {t : Stm} (z : zrB t.o = false) : t.rng = false := by
 unfold Stm.rng
 rw [z]
 simp
theorem e_3 {t : Stm} (h : ¬ FrmP t.dn t.tn t.z t.h t.o) : t.e = 3 := by
 unfold Stm.e
 rw [if_neg (fun k => h ((fC t).1 k))]
theorem e_2 {t : Stm} (h : FrmP t.dn t.tn t.z t.h t.o) (k : t.rng = false) : t.e = 2 := by
 unfold Stm.e
 rw [if_pos ((fC t).2 h), k]
 rfl
theorem e_0 {t : Stm} (h : FrmP t.dn t.tn t.z t.h t.o) (k : t.rng = true) : t.e = 0 := by
 unfold Stm.e
 rw [if_pos ((fC t).2 h), k]
 rfl
theorem fY {t : Stm} {k : Nat} (h : ∀ j, j < k → tstB t j = true) (hk : tstB t k = true) : ∀ j, j < k + 1 → tstB t j = true := by
 intro j hj
 rcases Nat.lt_or_ge j k with g | g
 ·exact h j g
 ·rw [show j = k by omega]
  exact hk
theorem GI {p q : Prop} [Decidable p] [Decidable q] : ((decide p && decide q) = true) ↔ p ∧ q := by simp
theorem GJ {p q : Prop} [Decidable p] [Decidable q] : ((decide p && decide q) = false) ↔ ¬ (p ∧ q) := by simp
theorem wT {n lo hi : Int} (h : n = -1 ∨ lo ≤ n ∧ n ≤ hi) : witB n lo hi = true := nO.2 h
theorem wF {n lo hi : Int} (h : ¬ (n = -1 ∨ lo ≤ n ∧ n ≤ hi)) : witB n lo hi = false := Fw.2 h
attribute [local irreducible] whN
theorem fL {G : Glo} (hS : ad G shapesTy) (t : Stm) : FnIs Tryz.prog G 88 [t.A] (.int .i64 t.e) := by
 have h1 := ja hS t.y t.m t.d
 have h2 := ja hS t.h t.i t.s
 have h3 := B5 (G := G) t.y t.m
 have k1 := fun n lo hi (_ : (0 : Int) ≤ 0) => cr (G := G) n lo hi
 have h5 := fK (G := G) t.o
 have hE3 := e_3 (t := t)
 have hE2 := e_2 (t := t)
 have hE0 := e_0 (t := t)
 unfold FrmP Stm.dn Stm.tn at hE3 hE2 hE0
 have hGL : ad G [] := ab
 refine fn_a Tryz.func88 Tryz.call88 rfl rfl rfl rfl ?_
 intro C hC
 refine cut hC hGL [(1, .rop t.R 0), (2, .int .i64 0)] [] True ?_ fun _ => ?_
 ·exact xw0
 refine cut hC hGL [(1, .rop t.R 0), (3, .int .i64 (whN (tlB t.y) (tlB t.m) (tlB t.d))), (4, .int .i64 (whN (tlB t.h) (tlB t.i) (tlB t.s)))] [] True ?_ fun _ => ?_
 ·refine xn1 ?_
  refine dw_p mixed hC hGL false (fun (_ : Unit) => [(1, .rop t.R 0), (3, .int .i64 (whN (tlB t.y) (tlB t.m) (tlB t.d))), (4, .int .i64 (whN (tlB t.h) (tlB t.i) (tlB t.s)))]) (fun _ => []) (.take 0 (.take 1 (.take 2 (.take 3 (.take 4 (.take 5 (.take 8 (.take 9 (.take 10 (.take 11 (.take 12 (.take 13 (.br 6 (.br 7 (.br 14 (.br 15 (.take 16 (.take 17 (.done))) (.nil)) (.nil)) (.br 14 (.br 7 (.br 15 (.take 16 (.take 17 (.done))) (.nil)) (.nil)) (.nil))) (.br 14 (.br 6 (.br 7 (.br 15 (.take 16 (.take 17 (.done))) (.nil)) (.nil)) (.nil)) (.nil))))))))))))))) (by kernel_rfl) ?_ ?_
  ·refine xn ?_
   repeat' (first | exact Le.n | refine Lc.mk ?_ ?_)
   all_goals intros
   all_goals exact ⟨(), ⟨rfl, rfl, rfl, trivial⟩, rfl⟩
  ·intro _
   exact xn0
 clear h1 h2
 generalize whN (tlB t.y) (tlB t.m) (tlB t.d) = D at *
 generalize whN (tlB t.h) (tlB t.i) (tlB t.s) = T at *
 refine cut hC hGL [(1, .rop t.R 0), (3, .int .i64 D), (4, .int .i64 T)] [] (0 ≤ D ∧ 0 ≤ T ∧ ¬ (D = 0 ∧ T = 0)) ?_ fun p1 => ?_
 ·clear hE2 hE0
  refine xw ?_
  repeat' (first | exact Le.n | refine Lc.mk ?_ ?_)
  all_goals intros
  all_goals first | omega | (apply aj; refine congrArg (AVal.int .i64) ?_; rw [hE3 (fun k => by have := k.1; omega)])
 refine cut hC hGL [(1, .rop t.R 0), (3, .int .i64 D), (4, .int .i64 T)] [] (0 < D ∧ 0 < T → (D = 3 ∨ D = 5 ∨ D = 6) ∧ T ≤ 3) ?_ fun p2 => ?_
 ·clear hE2 hE0
  refine xw ?_
  repeat' (first | exact Le.n | refine Lc.mk ?_ ?_)
  all_goals intros
  all_goals first | omega | (apply aj; refine congrArg (AVal.int .i64) ?_; rw [hE3 (fun k => by have := k.1.2.2.2; omega)])
 refine cut hC hGL [(1, .rop t.R 0)] [] ((t.z = true → t.h ≠ -1) ∧ (t.z = false → t.o = 0)) ?_ fun p3 => ?_
 ·clear hE2 hE0 p1 p2
  refine xw ?_
  repeat' (first | exact Le.n | refine Lc.mk ?_ ?_)
  all_goals intros
  all_goals first
   | exact Bool.noConfusion ((show t.z = true by assumption).symm.trans (show t.z = false by assumption))
   | exact ⟨fun _ => by assumption, fun k => Bool.noConfusion ((show t.z = true by assumption).symm.trans k)⟩
   | exact ⟨fun k => Bool.noConfusion (k.symm.trans (show t.z = false by assumption)), fun _ => by assumption⟩
   | (apply aj; refine congrArg (AVal.int .i64) ?_; rw [hE3 (fun k => by have := k.2; rw [if_pos (by assumption)] at this; omega)])
   | (apply aj; refine congrArg (AVal.int .i64) ?_; rw [hE3 (fun k => by have := k.2; rw [if_neg (by rw [show t.z = false by assumption]; decide)] at this; omega)])
 have hF : (0 ≤ D ∧ 0 ≤ T ∧ ¬ (D = 0 ∧ T = 0) ∧ (0 < D ∧ 0 < T → (D = 3 ∨ D = 5 ∨ D = 6) ∧ T ≤ 3)) ∧ (if t.z = true then t.h ≠ -1 else t.o = 0) := by
  refine ⟨⟨p1.1, p1.2.1, p1.2.2, p2⟩, ?_⟩
  split
  ·exact p3.1 (by assumption)
  ·rename_i k
   exact p3.2 (by simpa using k)
 have key2 := hE2 hF
 have key0 := hE0 hF
 clear hE2 hE0 hE3 hF p1 p2 p3
 refine cut hC hGL [(1, .rop t.R 0), (5, .int .i64 31)] [] True ?_ fun _ => ?_
 ·exact xw0
 refine cuty hC hGL (fun q : Int => [(1, .rop t.R 0), (5, .int .i64 q)]) (fun _ => []) (fun q => q = t.day) ?_ fun q hq => ?_
 ·refine xw ?_
  repeat' (first | exact Le.n | refine Lc.mk ?_ ?_)
  all_goals intros
  all_goals first
   | exact cy _ (by unfold Stm.day; rw [if_neg (by assumption)])
   | exact cy _ (by unfold Stm.day; rw [if_pos (by assumption)])
 subst hq
 refine cut hC hGL [(1, .rop t.R 0)] [] (∀ j, j < 6 → tstB t j = true) ?_ fun hj => ?_
 ·refine xw1 ?_
  refine lp hC hGL (fun (k : Nat) => [(1, .rop t.R 0), (104, _), (105, .int .i64 6), (106, .int .i64 (k : Nat))]) (fun _ => []) (fun k => k ≤ 6 ∧ ∀ j, j < k → tstB t j = true) (fun k => 6 - k) 0 ?_ ai rfl ?_
  ·exact ⟨by omega, fun j hj => absurd hj (by omega)⟩
  rintro k ⟨hk, hj⟩
  rcases (show k = 0 ∨ k = 1 ∨ k = 2 ∨ k = 3 ∨ k = 4 ∨ k = 5 ∨ k = 6 by omega) with rfl | rfl | rfl | rfl | rfl | rfl | rfl
  all_goals
   refine xw ?_
   repeat' (first | exact Le.n | refine Lc.mk ?_ ?_)
   all_goals intros
   all_goals try simp only [GI, GJ] at *
   all_goals first
    | exact hj _ (by assumption)
    | exact nxs 1 ⟨by decide, fY hj (wT (by omega))⟩ (by decide) ai aR
    | exact nxs 2 ⟨by decide, fY hj (wT (by omega))⟩ (by decide) ai aR
    | exact nxs 3 ⟨by decide, fY hj (wT (by omega))⟩ (by decide) ai aR
    | exact nxs 4 ⟨by decide, fY hj (wT (by omega))⟩ (by decide) ai aR
    | exact nxs 5 ⟨by decide, fY hj (wT (by omega))⟩ (by decide) ai aR
    | exact nxs 6 ⟨by decide, fY hj (wT (by omega))⟩ (by decide) ai aR
    | (apply aj; refine congrArg (AVal.int .i64) ?_; first
     | rw [key2 (lQ 0 (wF (by omega)))]
     | rw [key2 (lQ 1 (wF (by omega)))]
     | rw [key2 (lQ 2 (wF (by omega)))]
     | rw [key2 (lQ 3 (wF (by omega)))]
     | rw [key2 (lQ 4 (wF (by omega)))]
     | rw [key2 (lQ 5 (wF (by omega)))])
 refine bw hC hGL ?_
 refine xw ?_
 repeat' (first | exact Le.n | refine Lc.mk ?_ ?_)
 all_goals intros
 all_goals (apply aj; refine congrArg (AVal.int .i64) ?_; first | rw [key0 (FY hj (by assumption))] | rw [key2 (GQ (by assumption))])
end
section
open Go Go.RowKit
set_option maxHeartbeats 8000000
attribute [local irreducible] AWp AOps ax OrOk ad ae aa
theorem kw {G : Glo} (hP : co G) (n : Nat) (hn : n ≤ 9223372036854775807) : FnIs Tryz.prog G 186 [.int .i64 (n : Int), .int .i64 10] (.str (Lib.decDigits n)) := by
 refine bi rfl Tryz.call186 ?_
 intro R args hr w hG hs
 obtain ⟨x, t, e, hx, y, t', e', hy, rfl⟩ := hr
 have hx := am.1 hx
 have hy := am.1 hy
 subst hx hy
 obtain rfl : args = #[.int .i64 (n : Int), .int .i64 10] := by cases args; simp_all
 have ht : Lib.TabIs Tryz.prog w "internal/strconv.uint64pow10" .u64 Lib.pow10Tab := by
  obtain ⟨e, fz, hR⟩ := hP R hG
  have hg : Tryz.prog.globalNamed "internal/strconv.uint64pow10" = some 7 := by kernel_rfl
  show w.var? Tryz.prog "internal/strconv.uint64pow10" = _
  simp only [World.var?, hg, Option.bind_some, hs _ _ hR]
 refine (Tryz.strconv_FormatInt_10 n (by omega) (by omega) w ht).mono ?_
 rintro e w' ⟨rfl, k, os, rfl⟩
 refine ⟨?_, ⟨rfl, rfl, rfl, ?_, fun b hb => ?_⟩⟩
 ·have : Lib.itoa (n : Int) = Lib.decDigits n := by unfold Lib.itoa; rw [if_neg (by omega)]; rfl
  rw [this]
  rfl
 ·show w.heap.size ≤ (w.heap ++ os).size
  rw [Array.size_append]; omega
 ·show (w.heap ++ os)[b]? = w.heap[b]?
  rw [Array.getElem?_append_left hb]
theorem ic {i : Nat} (h : 100 ≤ i) (h1 : i < 1000) : Lib.decDigits i = [UInt8.ofNat (48 + i / 100), UInt8.ofNat (48 + i / 10 % 10), UInt8.ofNat (48 + i % 10)] := by
 rw [Lib.decDigits, dif_neg (by omega), fN (by omega) (by omega), show i / 10 / 10 = i / 100 by omega]
 rfl
theorem pw {i : Nat} (h : 1000 ≤ i) (h1 : i < 10000) : Lib.decDigits i = [UInt8.ofNat (48 + i / 1000), UInt8.ofNat (48 + i / 100 % 10), UInt8.ofNat (48 + i / 10 % 10), UInt8.ofNat (48 + i % 10)] := by
 rw [Lib.decDigits, dif_neg (by omega), ic (by omega) (by omega), show i / 10 / 10 % 10 = i / 100 % 10 by omega, show i / 10 / 100 = i / 1000 by omega]
 rfl
theorem AD (i : Nat) : d9 (i : Int) = [UInt8.ofNat (48 + i / 1000), UInt8.ofNat (48 + i / 100 % 10), UInt8.ofNat (48 + i / 10 % 10), UInt8.ofNat (48 + i % 10)] := by
 unfold d9 aT
 simp only [List.map]
 rw [show (48 + (i : Int) / 1000).toNat = 48 + i / 1000 by omega, show (48 + (i : Int) / 100 % 10).toNat = 48 + i / 100 % 10 by omega, show (48 + (i : Int) / 10 % 10).toNat = 48 + i / 10 % 10 by omega, show (48 + (i : Int) % 10).toNat = 48 + i % 10 by omega]
theorem nc {G : Glo} (hP : co G) (i : Nat) (h1 : i < 10000) : FnIs Tryz.prog G 147 [.int .i64 (i : Int), .int .i64 10, .int .i64 4] (.str (d9 i)) := by
 have hf := kw (G := G) hP i (by omega)
 rw [AD]
 by_cases h2 : i < 10
 ·rw [fO h2] at hf
  have hGL : ad G [] := ab
  refine fn_x Tryz.func147 Tryz.call147 rfl rfl rfl rfl hGL ?_
  intro C hC
  refine xw1 ?_
  intros
  refine rds hC hGL 4 ?_
  refine xw1 ?_
  intros
  apply aj
  rw [show i / 1000 = 0 by omega, show i / 100 % 10 = 0 by omega, show i / 10 % 10 = 0 by omega, show i % 10 = i by omega]
  rfl
 by_cases h3 : i < 100
 ·rw [fN (by omega) h3] at hf
  have hGL : ad G [] := ab
  refine fn_x Tryz.func147 Tryz.call147 rfl rfl rfl rfl hGL ?_
  intro C hC
  refine xw1 ?_
  intros
  refine rds hC hGL 3 ?_
  refine xw1 ?_
  intros
  apply aj
  rw [show i / 1000 = 0 by omega, show i / 100 % 10 = 0 by omega, show i / 10 % 10 = i / 10 by omega]
  rfl
 by_cases h4 : i < 1000
 ·rw [ic (by omega) h4] at hf
  have hGL : ad G [] := ab
  refine fn_x Tryz.func147 Tryz.call147 rfl rfl rfl rfl hGL ?_
  intro C hC
  refine xw1 ?_
  intros
  refine rds hC hGL 2 ?_
  refine xw1 ?_
  intros
  apply aj
  rw [show i / 1000 = 0 by omega, show i / 100 % 10 = i / 100 by omega]
  rfl
 ·rw [pw (by omega) h1] at hf
  have hGL : ad G [] := ab
  refine fn_x Tryz.func147 Tryz.call147 rfl rfl rfl rfl hGL ?_
  intro C hC
  refine xw1 ?_
  intros
  refine rds hC hGL 1 ?_
  exact xw0
end
section
open Go Go.RowKit
set_option maxHeartbeats 8000000
def g9 : List UInt8 → Nat
 | [] => 0
 | c :: r => if c = 57 then g9 r + 1 else g9 r
theorem jm {form : List UInt8} {i : Nat} (h : i < form.length) : form.drop i = form[i] :: form.drop (i + 1) := List.drop_eq_getElem_cons h
theorem ra {form : List UInt8} {i : Nat} (h : i < form.length) (hc : form[i] = 57) : g9 (form.drop i) = g9 (form.drop (i + 1)) + 1 := by
 rw [jm h, g9, if_pos hc]
theorem AC {form : List UInt8} {i : Nat} (h : i < form.length) (hc : form[i] ≠ 57) : g9 (form.drop i) = g9 (form.drop (i + 1)) := by
 rw [jm h, g9, if_neg hc]
theorem xI {form all : List UInt8} {i : Nat} (h : i < form.length) (hc : form[i] = 57) (ha : 0 < all.length) : ea (form.drop i) all = aT [(aa all 0 : Int)] ++ ea (form.drop (i + 1)) (all.drop 1) := by
 rw [jm h]
 cases all with
 | nil => cases ha
 | cons x t =>
  rw [ea, if_pos hc]
  have : aT [(aa (x :: t) 0 : Int)] = [x] := by
   show [UInt8.ofNat x.toNat] = [x]
   rw [UInt8.ofNat_toNat]
  rw [this]
  rfl
theorem xJ {form all : List UInt8} {i : Nat} (h : i < form.length) (hc : form[i] ≠ 57) : ea (form.drop i) all = aT [(aa form i : Int)] ++ ea (form.drop (i + 1)) all := by
 rw [jm h]
 have e : ea (form[i] :: form.drop (i + 1)) all = form[i] :: ea (form.drop (i + 1)) all := by simp only [ea, if_neg hc]
 rw [e]
 have : aT [(aa form i : Int)] = [form[i]] := by
  rw [bm h]
  show [UInt8.ofNat form[i].toNat] = _
  rw [UInt8.ofNat_toNat]
 rw [this]
 rfl
theorem at57 {form : List UInt8} {i : Nat} (h : i < form.length) : form[i] = 57 ↔ (aa form i : Int) = 57 := by
 rw [bm h, ← UInt8.toNat_inj]
 constructor
 ·intro k; rw [k]; rfl
 ·intro k; have : form[i].toNat = 57 := by omega
  rw [this]; rfl
theorem GW {t : Stm} (hf : t.frm = true) : 0 ≤ whN (tlB t.y) (tlB t.m) (tlB t.d) ∧ whN (tlB t.y) (tlB t.m) (tlB t.d) < 7 := by
 have := ((fC t).1 hf).1
 have h2 := yz (tlB t.y) (tlB t.m) (tlB t.d)
 unfold Stm.dn Stm.tn at this
 omega
theorem GT {t : Stm} (hf : t.frm = true) : 0 ≤ whN (tlB t.h) (tlB t.i) (tlB t.s) ∧ whN (tlB t.h) (tlB t.i) (tlB t.s) < 7 := by
 have := ((fC t).1 hf).1
 have h2 := yz (tlB t.h) (tlB t.i) (tlB t.s)
 unfold Stm.dn Stm.tn at this
 omega
theorem AM (i : Nat) : (bg i).length ≤ 8 := by
 match i with
 | 0 | 1 | 2 | 3 | 4 | 5 | 6 => decide
 | n + 7 => exact Nat.zero_le _
theorem Dm (i : Nat) : (clkF i).length ≤ 6 := by
 match i with
 | 0 | 1 | 2 | 3 | 4 | 5 | 6 => decide
 | n + 7 => exact Nat.zero_le _
def numP (t : Stm) : Nat → Int
 | 0 => t.m
 | 1 => t.d
 | 2 => t.h
 | 3 => t.i
 | _ => t.s
def allP (t : Stm) : Nat → List UInt8
 | 0 => if t.y = -1 then [] else d9 t.y
 | k + 1 => if numP t k = -1 then allP t k else allP t k ++ twoS (numP t k)
theorem fQ {t : Stm} {A : List UInt8} {k : Nat} (hA : A = allP t k) (h : numP t k ≠ -1) : A ++ twoS (numP t k) = allP t (k + 1) := by
 rw [allP, if_neg h, hA]
theorem dQ {t : Stm} {A : List UInt8} {k : Nat} (hA : A = allP t k) (h : numP t k = -1) : A = allP t (k + 1) := by
 rw [allP, if_pos h, hA]
theorem yw (t : Stm) : ∀ k, (allP t k).length ≤ 4 + 2 * k
 | 0 => by
  unfold allP
  split
  ·exact Nat.zero_le _
  ·exact Nat.le_refl _
 | k + 1 => by
  have := yw t k
  unfold allP
  split
  ·omega
  ·rw [List.length_append, show (twoS (numP t k)).length = 2 from rfl]; omega
def fm (form A : List UInt8) (i : Nat) (out all : List UInt8) : Prop := i ≤ form.length ∧ out.length = i ∧ all.length ≤ 100 ∧ g9 (form.drop i) ≤ all.length ∧ out ++ ea (form.drop i) all = ea form A
theorem jn {form A : List UInt8} (h : g9 form ≤ A.length) (hl : A.length ≤ 4 + 2 * 5) : fm form A 0 [] A := ⟨Nat.zero_le _, rfl, by omega, by rw [List.drop_zero]; exact h, by rw [List.drop_zero]; rfl⟩
theorem iL {form A : List UInt8} {i : Nat} {out all : List UInt8} (h : fm form A i out all) (hb : i < form.length ∧ (aa form i : Int) = 57) : 0 < all.length := by
 have h4 := h.2.2.2.1
 rw [ra hb.1 ((at57 hb.1).2 hb.2)] at h4
 omega
theorem jo {form A : List UInt8} {i : Nat} {out all : List UInt8} (h : fm form A i out all) (h1 : i < form.length) (hb : (aa form i : Int) = 57) : fm form A (i + 1) (out ++ aT [(aa all 0 : Int)]) (all.drop 1) := by
 have hp := iL h ⟨h1, hb⟩
 obtain ⟨a, b, c, d, e⟩ := h
 have hc := (at57 h1).2 hb
 rw [ra h1 hc] at d
 rw [xI h1 hc hp, ← List.append_assoc] at e
 refine ⟨h1, ?_, ?_, ?_, e⟩
 ·rw [List.length_append, b]; rfl
 ·rw [List.length_drop]; omega
 ·rw [List.length_drop]; omega
theorem jp {form A : List UInt8} {i : Nat} {out all : List UInt8} (h : fm form A i out all) (h1 : i < form.length) (hb : (aa form i : Int) ≠ 57) : fm form A (i + 1) (out ++ aT [(aa form i : Int)]) all := by
 obtain ⟨a, b, c, d, e⟩ := h
 have hc : form[i] ≠ 57 := fun k => hb ((at57 h1).1 k)
 rw [AC h1 hc] at d
 rw [xJ h1 hc, ← List.append_assoc] at e
 refine ⟨h1, ?_, c, d, e⟩
 rw [List.length_append, b]; rfl
theorem ld {form A : List UInt8} {i : Nat} {out all : List UInt8} (h : fm form A i out all) (h1 : form.length ≤ i) : out = ea form A := by
 obtain ⟨a, b, c, d, e⟩ := h
 rw [List.drop_of_length_le h1] at e
 rw [← e]
 simp [ea]
theorem rl {t : Stm} (hf : t.frm = true) (h : 0 < whN (tlB t.h) (tlB t.i) (tlB t.s)) : g9 (bg (whN (tlB t.y) (tlB t.m) (tlB t.d)).toNat ++ ([84] ++ clkF (whN (tlB t.h) (tlB t.i) (tlB t.s)).toNat)) ≤ (allP t 5).length ∧ ea (bg (whN (tlB t.y) (tlB t.m) (tlB t.d)).toNat ++ ([84] ++ clkF (whN (tlB t.h) (tlB t.i) (tlB t.s)).toNat)) (allP t 5) = iM (tlB t.y) (tlB t.m) (tlB t.d) t.y t.m t.d ++ gZ (tlB t.h) (tlB t.i) (tlB t.s) t.h t.i t.s := by
 refine kq hf fun k kz => ?_
 clear kz
 revert h k
 cases e1 : tlB t.y <;> cases e2 : tlB t.m <;> cases e3 : tlB t.d <;> cases e4 : tlB t.h <;> cases e5 : tlB t.i <;> cases e6 : tlB t.s <;> intro h k <;> first | exact absurd k (by decide) | exact absurd h (by decide) | (simp only [gY, yF] at e1 e2 e3 e4 e5 e6; simp only [allP, numP, e1, e2, e3, e4, e5, e6, if_true, if_false]; exact ⟨Nat.le_refl _, rfl⟩)
theorem rm {t : Stm} (hf : t.frm = true) (h : whN (tlB t.h) (tlB t.i) (tlB t.s) ≤ 0) : g9 (bg (whN (tlB t.y) (tlB t.m) (tlB t.d)).toNat) ≤ (allP t 5).length ∧ ea (bg (whN (tlB t.y) (tlB t.m) (tlB t.d)).toNat) (allP t 5) = iM (tlB t.y) (tlB t.m) (tlB t.d) t.y t.m t.d ++ gZ (tlB t.h) (tlB t.i) (tlB t.s) t.h t.i t.s := by
 refine kq hf fun k kz => ?_
 clear kz
 revert h k
 cases e1 : tlB t.y <;> cases e2 : tlB t.m <;> cases e3 : tlB t.d <;> cases e4 : tlB t.h <;> cases e5 : tlB t.i <;> cases e6 : tlB t.s <;> intro h k <;> first | exact absurd k (by decide) | exact absurd h (by decide) | (simp only [gY, yF] at e1 e2 e3 e4 e5 e6; simp only [allP, numP, e1, e2, e3, e4, e5, e6, if_true, if_false]; exact ⟨Nat.le_refl _, rfl⟩)
attribute [local irreducible] AWp AOps ax OrOk ad ae aa d9 twoS zprS ea
theorem bq {G : Glo} (k : Int) (h0 : 0 ≤ k) (h1 : k < 100) : FnIs Tryz.prog G 147 [.int .i64 k, .int .i64 10, .int .i64 2] (.str (twoS k)) := by
 obtain ⟨i, rfl⟩ := Int.eq_ofNat_of_zero_le h0
 exact ix i (by omega)
theorem jz {G : Glo} (hP : co G) (k : Int) (h0 : 0 ≤ k) (h1 : k < 10000) : FnIs Tryz.prog G 147 [.int .i64 k, .int .i64 10, .int .i64 4] (.str (d9 k)) := by
 obtain ⟨i, rfl⟩ := Int.eq_ofNat_of_zero_le h0
 exact nc hP i (by omega)
theorem sf {G : Glo} (hGL : ad G shapesTy) (hP : co G) (t : Stm) (hf : t.frm = true) (hr : t.rng = true) : FnIs Tryz.prog G 146 [t.A] (.str t.txt) := by
 have h1 := ja hGL t.y t.m t.d
 have h2 := ja hGL t.h t.i t.s
 have h3 := jF (G := G) t.o
 have kd : 0 ≤ whN (tlB t.y) (tlB t.m) (tlB t.d) ∧ whN (tlB t.y) (tlB t.m) (tlB t.d) < 7 := GW hf
 have kt := GT hf
 have hc := Tryz.call143
 have l1 := vj t.y
 have l2 := df t.m
 have l3 := df t.d
 have l4 := df t.h
 have l5 := df t.i
 have l6 := df t.s
 have l7 := yy t.o
 have l8 := AM (whN (tlB t.y) (tlB t.m) (tlB t.d)).toNat
 have l9 := Dm (whN (tlB t.h) (tlB t.i) (tlB t.s)).toNat
 have r := hr
 unfold Stm.rng at r
 simp only [Bool.and_eq_true, nO] at r
 obtain ⟨r1, r2, r3, r4, r5, r6, -⟩ := r
 have r3' : t.d = -1 ∨ 1 ≤ t.d ∧ t.d ≤ 31 := by
  refine r3.imp_right fun h => ⟨h.1, ?_⟩
  have := h.2
  unfold Stm.day dayN at this
  (repeat' split at this) <;> omega
 refine kq hf fun k kz => ?_
 unfold Stm.txt
 refine fn_x Tryz.func146 Tryz.call146 rfl rfl rfl rfl hGL ?_
 intro C hC
 by_cases hy : t.y = -1
 ·have k1 := fun n => jz (G := G) hP n
  refine xn1 ?_
  intros
  refine lp hC hGL (fun (x : Nat × List UInt8) => [(1, .rop [.int .i64 t.y, .int .i64 t.m, .int .i64 t.d, .int .i64 t.h, .int .i64 t.i, .int .i64 t.s, .bool t.z, .int .i64 t.o] 0), (3, .str x.2), (29, .list 1 5 (bH [(0, .int .i64 t.m), (1, .int .i64 t.d), (2, .int .i64 t.h), (3, .int .i64 t.i), (4, .int .i64 t.s)])), (30, .int .i64 5), (31, .int .i64 (x.1 : Nat))]) (fun _ => []) (fun x => x.1 ≤ 5 ∧ x.2 = allP t x.1) (fun x => 5 - x.1) (0, []) ⟨show 0 ≤ 5 by decide, (if_pos hy).symm⟩ (by repeat (first | exact trivial | refine And.intro rfl ?_)) rfl ?_
  rintro ⟨k', A⟩ ⟨hk, hA⟩
  have hk : k' ≤ 5 := hk
  have hA : A = allP t k' := hA
  have hl := yw t k'
  rw [← hA] at hl
  rcases (show k' = 0 ∨ k' = 1 ∨ k' = 2 ∨ k' = 3 ∨ k' = 4 ∨ k' = 5 by omega) with rfl | rfl | rfl | rfl | rfl | rfl
  ·have k1 := fun n => bq (G := G) n
   refine xm ?_
   repeat' (first | exact Le.n | refine Lc.mk ?_ ?_)
   all_goals intros
   ·refine nxs (1, A ++ twoS (numP t 0)) ⟨show (1 : Nat) ≤ 5 by decide, fQ hA (by assumption)⟩ (show 5 - 1 < 5 - 0 by decide) (by repeat (first | exact trivial | refine And.intro rfl ?_)) (by repeat (first | exact List.nil_sublist _ | apply List.Sublist.cons_cons | apply List.Sublist.cons))
   ·refine nxs (1, A) ⟨show (1 : Nat) ≤ 5 by decide, dQ hA (by assumption)⟩ (show 5 - 1 < 5 - 0 by decide) (by repeat (first | exact trivial | refine And.intro rfl ?_)) (by repeat (first | exact List.nil_sublist _ | apply List.Sublist.cons_cons | apply List.Sublist.cons))
  ·have k1 := fun n => bq (G := G) n
   refine xm ?_
   repeat' (first | exact Le.n | refine Lc.mk ?_ ?_)
   all_goals intros
   ·refine nxs (2, A ++ twoS (numP t 1)) ⟨show (2 : Nat) ≤ 5 by decide, fQ hA (by assumption)⟩ (show 5 - 2 < 5 - 1 by decide) (by repeat (first | exact trivial | refine And.intro rfl ?_)) (by repeat (first | exact List.nil_sublist _ | apply List.Sublist.cons_cons | apply List.Sublist.cons))
   ·refine nxs (2, A) ⟨show (2 : Nat) ≤ 5 by decide, dQ hA (by assumption)⟩ (show 5 - 2 < 5 - 1 by decide) (by repeat (first | exact trivial | refine And.intro rfl ?_)) (by repeat (first | exact List.nil_sublist _ | apply List.Sublist.cons_cons | apply List.Sublist.cons))
  ·have k1 := fun n => bq (G := G) n
   refine xm ?_
   repeat' (first | exact Le.n | refine Lc.mk ?_ ?_)
   all_goals intros
   ·refine nxs (3, A ++ twoS (numP t 2)) ⟨show (3 : Nat) ≤ 5 by decide, fQ hA (by assumption)⟩ (show 5 - 3 < 5 - 2 by decide) (by repeat (first | exact trivial | refine And.intro rfl ?_)) (by repeat (first | exact List.nil_sublist _ | apply List.Sublist.cons_cons | apply List.Sublist.cons))
   ·refine nxs (3, A) ⟨show (3 : Nat) ≤ 5 by decide, dQ hA (by assumption)⟩ (show 5 - 3 < 5 - 2 by decide) (by repeat (first | exact trivial | refine And.intro rfl ?_)) (by repeat (first | exact List.nil_sublist _ | apply List.Sublist.cons_cons | apply List.Sublist.cons))
  ·have k1 := fun n => bq (G := G) n
   refine xm ?_
   repeat' (first | exact Le.n | refine Lc.mk ?_ ?_)
   all_goals intros
   ·refine nxs (4, A ++ twoS (numP t 3)) ⟨show (4 : Nat) ≤ 5 by decide, fQ hA (by assumption)⟩ (show 5 - 4 < 5 - 3 by decide) (by repeat (first | exact trivial | refine And.intro rfl ?_)) (by repeat (first | exact List.nil_sublist _ | apply List.Sublist.cons_cons | apply List.Sublist.cons))
   ·refine nxs (4, A) ⟨show (4 : Nat) ≤ 5 by decide, dQ hA (by assumption)⟩ (show 5 - 4 < 5 - 3 by decide) (by repeat (first | exact trivial | refine And.intro rfl ?_)) (by repeat (first | exact List.nil_sublist _ | apply List.Sublist.cons_cons | apply List.Sublist.cons))
  ·have k1 := fun n => bq (G := G) n
   refine xm ?_
   repeat' (first | exact Le.n | refine Lc.mk ?_ ?_)
   all_goals intros
   ·refine nxs (5, A ++ twoS (numP t 4)) ⟨show (5 : Nat) ≤ 5 by decide, fQ hA (by assumption)⟩ (show 5 - 5 < 5 - 4 by decide) (by repeat (first | exact trivial | refine And.intro rfl ?_)) (by repeat (first | exact List.nil_sublist _ | apply List.Sublist.cons_cons | apply List.Sublist.cons))
   ·refine nxs (5, A) ⟨show (5 : Nat) ≤ 5 by decide, dQ hA (by assumption)⟩ (show 5 - 5 < 5 - 4 by decide) (by repeat (first | exact trivial | refine And.intro rfl ?_)) (by repeat (first | exact List.nil_sublist _ | apply List.Sublist.cons_cons | apply List.Sublist.cons))
  refine xm1 ?_
  intros
  refine dw_p mixed hC hGL false (fun (_ : Unit) => [(1, .rop [.int .i64 t.y, .int .i64 t.m, .int .i64 t.d, .int .i64 t.h, .int .i64 t.i, .int .i64 t.s, .bool t.z, .int .i64 t.o] 0), (3, .str A), (6, .str (bg (whN (tlB t.y) (tlB t.m) (tlB t.d)).toNat))]) (fun _ => []) (.take 1 (.take 2 (.take 3 (.take 4 (.take 5 (.take 6 (.br 0 (.br 7 (.br 8 (.take 9 (.take 10 (.take 11 (.take 12 (.done))))) (.nil)) (.nil)) (.br 7 (.br 0 (.br 8 (.take 9 (.take 10 (.take 11 (.take 12 (.done))))) (.nil)) (.br 8 (.br 0 (.take 9 (.take 10 (.take 11 (.take 12 (.done))))) (.nil)) (.nil))) (.nil))))))))) (by kernel_rfl) ?_ ?_
  ·refine xn ?_
   repeat' (first | exact Le.n | refine Lc.mk ?_ ?_)
   all_goals intros
   all_goals exact ⟨(), ⟨rfl, rfl, rfl, trivial⟩, rfl⟩
  intro _
  repeat' (first | (conv => whnf); first | refine .w ?_ | refine .v ?_ | refine sc_c ?_ ?_ <;> (intro hb; try exact dd hb) | apply an | apply az | (apply sc_i <;> intro hb) | (apply bx_i; intro hbd) | (apply ar; first | exact h2 | exact h3) | (apply ap (i := 0) rfl; first | exact h2 | exact h3) | (apply ab_i; intro bl) | (apply as_i; intro va vk vc hva) | (apply av_i; intro v) | (apply ac_i; intro bl cap hcap) | apply bo_l | (apply nx_i <;> intro hnx) | exact rt_w | exact True.intro | (apply bc_i; intro C hC) | apply bt_i | apply og_n | (apply og_a; exact rfl))
  all_goals try conv => whnf
  ·have hG := rl hf (by assumption)
   have hLF : (bg (whN (tlB t.y) (tlB t.m) (tlB t.d)).toNat ++ ([84] ++ clkF (whN (tlB t.h) (tlB t.i) (tlB t.s)).toNat)).length ≤ 15 := by first | (rw [List.length_append, List.length_append, List.length_singleton]; omega) | omega
   rw [← hA] at hG
   refine lp hC hGL (fun (x : Nat × List UInt8 × List UInt8) => [(1, .rop [.int .i64 t.y, .int .i64 t.m, .int .i64 t.d, .int .i64 t.h, .int .i64 t.i, .int .i64 t.s, .bool t.z, .int .i64 t.o] 0), (3, .str x.2.2), (8, .str x.2.1), (73, .own 0 (.slice (some ⟨bl, 0, none⟩) (bg (whN (tlB t.y) (tlB t.m) (tlB t.d)).toNat ++ ([84] ++ clkF (whN (tlB t.h) (tlB t.i) (tlB t.s)).toNat)).length cap)), (74, .int .i64 ((bg (whN (tlB t.y) (tlB t.m) (tlB t.d)).toNat ++ ([84] ++ clkF (whN (tlB t.h) (tlB t.i) (tlB t.s)).toNat)).length : Nat)), (75, .int .i64 (x.1 : Nat))]) (fun _ => [.buf bl (bg (whN (tlB t.y) (tlB t.m) (tlB t.d)).toNat ++ ([84] ++ clkF (whN (tlB t.h) (tlB t.i) (tlB t.s)).toNat)) cap]) (fun x => fm (bg (whN (tlB t.y) (tlB t.m) (tlB t.d)).toNat ++ ([84] ++ clkF (whN (tlB t.h) (tlB t.i) (tlB t.s)).toNat)) A x.1 x.2.1 x.2.2) (fun x => (bg (whN (tlB t.y) (tlB t.m) (tlB t.d)).toNat ++ ([84] ++ clkF (whN (tlB t.h) (tlB t.i) (tlB t.s)).toNat)).length - x.1) (0, [], A) (jn hG.1 hl) (by repeat (first | exact trivial | refine And.intro rfl ?_)) rfl ?_
   rintro ⟨i, out, all⟩ hI
   have hI : fm (bg (whN (tlB t.y) (tlB t.m) (tlB t.d)).toNat ++ ([84] ++ clkF (whN (tlB t.h) (tlB t.i) (tlB t.s)).toNat)) A i out all := hI
   have hI1 := hI.1
   have hI2 := hI.2.1
   have hI3 := hI.2.2.1
   have hI0 := fun h => iL hI h
   refine xw ?_
   repeat' (first | exact Le.n | refine Lc.mk ?_ ?_)
   all_goals intros
   ·refine aH hC hGL (bp [_] rfl (by intro v hv; obtain rfl := List.mem_singleton.1 hv; exact ⟨Int.natCast_nonneg _, by exact_mod_cast aK _ _⟩) rfl rfl rfl rfl rfl rfl) rfl rfl ?_
    refine xm1 ?_
    intros
    refine sp_i (show out.length + 1 ≤ 9223372036854775807 by omega) ?_
    refine xm1 ?_
    intros
    refine nxt (i + 1, out ++ aT [(aa all 0 : Int)], all.drop 1) ?_ ?_ (by repeat (first | exact trivial | refine And.intro rfl ?_)) rfl
    ·exact jo hI (by omega) (by assumption)
    ·show _ - (i + 1) < _ - i
     omega
   ·refine aH hC hGL (bp [_] rfl (by intro v hv; obtain rfl := List.mem_singleton.1 hv; exact ⟨Int.natCast_nonneg _, by exact_mod_cast aK _ _⟩) rfl rfl rfl rfl rfl rfl) rfl rfl ?_
    refine xm1 ?_
    intros
    refine sp_i (show out.length + 1 ≤ 9223372036854775807 by omega) ?_
    refine xm1 ?_
    intros
    refine nxt (i + 1, out ++ aT [(aa (bg (whN (tlB t.y) (tlB t.m) (tlB t.d)).toNat ++ ([84] ++ clkF (whN (tlB t.h) (tlB t.i) (tlB t.s)).toNat)) i : Int)], all) ?_ ?_ (by repeat (first | exact trivial | refine And.intro rfl ?_)) rfl
    ·exact jp hI (by omega) (by assumption)
    ·show _ - (i + 1) < _ - i
     omega
   all_goals
    apply aj
    refine congrArg AVal.str ?_
    have e := ld hI (by omega)
    rw [hG.2] at e
    first
     | (rw [if_pos (by assumption), ← e])
     | (rw [if_neg (by simp only [Bool.not_eq_true]; assumption), ← e, List.append_nil])
  ·have hG := rm hf (by assumption)
   have hLF : (bg (whN (tlB t.y) (tlB t.m) (tlB t.d)).toNat).length ≤ 15 := by first | (rw [List.length_append, List.length_append, List.length_singleton]; omega) | omega
   rw [← hA] at hG
   refine lp hC hGL (fun (x : Nat × List UInt8 × List UInt8) => [(1, .rop [.int .i64 t.y, .int .i64 t.m, .int .i64 t.d, .int .i64 t.h, .int .i64 t.i, .int .i64 t.s, .bool t.z, .int .i64 t.o] 0), (3, .str x.2.2), (8, .str x.2.1), (73, .own 0 (.slice (some ⟨bl, 0, none⟩) (bg (whN (tlB t.y) (tlB t.m) (tlB t.d)).toNat).length cap)), (74, .int .i64 ((bg (whN (tlB t.y) (tlB t.m) (tlB t.d)).toNat).length : Nat)), (75, .int .i64 (x.1 : Nat))]) (fun _ => [.buf bl (bg (whN (tlB t.y) (tlB t.m) (tlB t.d)).toNat) cap]) (fun x => fm (bg (whN (tlB t.y) (tlB t.m) (tlB t.d)).toNat) A x.1 x.2.1 x.2.2) (fun x => (bg (whN (tlB t.y) (tlB t.m) (tlB t.d)).toNat).length - x.1) (0, [], A) (jn hG.1 hl) (by repeat (first | exact trivial | refine And.intro rfl ?_)) rfl ?_
   rintro ⟨i, out, all⟩ hI
   have hI : fm (bg (whN (tlB t.y) (tlB t.m) (tlB t.d)).toNat) A i out all := hI
   have hI1 := hI.1
   have hI2 := hI.2.1
   have hI3 := hI.2.2.1
   have hI0 := fun h => iL hI h
   refine xw ?_
   repeat' (first | exact Le.n | refine Lc.mk ?_ ?_)
   all_goals intros
   ·refine aH hC hGL (bp [_] rfl (by intro v hv; obtain rfl := List.mem_singleton.1 hv; exact ⟨Int.natCast_nonneg _, by exact_mod_cast aK _ _⟩) rfl rfl rfl rfl rfl rfl) rfl rfl ?_
    refine xm1 ?_
    intros
    refine sp_i (show out.length + 1 ≤ 9223372036854775807 by omega) ?_
    refine xm1 ?_
    intros
    refine nxt (i + 1, out ++ aT [(aa all 0 : Int)], all.drop 1) ?_ ?_ (by repeat (first | exact trivial | refine And.intro rfl ?_)) rfl
    ·exact jo hI (by omega) (by assumption)
    ·show _ - (i + 1) < _ - i
     omega
   ·refine aH hC hGL (bp [_] rfl (by intro v hv; obtain rfl := List.mem_singleton.1 hv; exact ⟨Int.natCast_nonneg _, by exact_mod_cast aK _ _⟩) rfl rfl rfl rfl rfl rfl) rfl rfl ?_
    refine xm1 ?_
    intros
    refine sp_i (show out.length + 1 ≤ 9223372036854775807 by omega) ?_
    refine xm1 ?_
    intros
    refine nxt (i + 1, out ++ aT [(aa (bg (whN (tlB t.y) (tlB t.m) (tlB t.d)).toNat) i : Int)], all) ?_ ?_ (by repeat (first | exact trivial | refine And.intro rfl ?_)) rfl
    ·exact jp hI (by omega) (by assumption)
    ·show _ - (i + 1) < _ - i
     omega
   all_goals
    apply aj
    refine congrArg AVal.str ?_
    have e := ld hI (by omega)
    rw [hG.2] at e
    first
     | (rw [if_pos (by assumption), ← e])
     | (rw [if_neg (by simp only [Bool.not_eq_true]; assumption), ← e, List.append_nil])
 ·have k1 := fun n => jz (G := G) hP n
  refine xn1 ?_
  intros
  refine lp hC hGL (fun (x : Nat × List UInt8) => [(1, .rop [.int .i64 t.y, .int .i64 t.m, .int .i64 t.d, .int .i64 t.h, .int .i64 t.i, .int .i64 t.s, .bool t.z, .int .i64 t.o] 0), (3, .str x.2), (29, .list 1 5 (bH [(0, .int .i64 t.m), (1, .int .i64 t.d), (2, .int .i64 t.h), (3, .int .i64 t.i), (4, .int .i64 t.s)])), (30, .int .i64 5), (31, .int .i64 (x.1 : Nat))]) (fun _ => []) (fun x => x.1 ≤ 5 ∧ x.2 = allP t x.1) (fun x => 5 - x.1) (0, d9 t.y) ⟨show 0 ≤ 5 by decide, (if_neg hy).symm⟩ (by repeat (first | exact trivial | refine And.intro rfl ?_)) rfl ?_
  rintro ⟨k', A⟩ ⟨hk, hA⟩
  have hk : k' ≤ 5 := hk
  have hA : A = allP t k' := hA
  have hl := yw t k'
  rw [← hA] at hl
  rcases (show k' = 0 ∨ k' = 1 ∨ k' = 2 ∨ k' = 3 ∨ k' = 4 ∨ k' = 5 by omega) with rfl | rfl | rfl | rfl | rfl | rfl
  ·have k1 := fun n => bq (G := G) n
   refine xm ?_
   repeat' (first | exact Le.n | refine Lc.mk ?_ ?_)
   all_goals intros
   ·refine nxs (1, A ++ twoS (numP t 0)) ⟨show (1 : Nat) ≤ 5 by decide, fQ hA (by assumption)⟩ (show 5 - 1 < 5 - 0 by decide) (by repeat (first | exact trivial | refine And.intro rfl ?_)) (by repeat (first | exact List.nil_sublist _ | apply List.Sublist.cons_cons | apply List.Sublist.cons))
   ·refine nxs (1, A) ⟨show (1 : Nat) ≤ 5 by decide, dQ hA (by assumption)⟩ (show 5 - 1 < 5 - 0 by decide) (by repeat (first | exact trivial | refine And.intro rfl ?_)) (by repeat (first | exact List.nil_sublist _ | apply List.Sublist.cons_cons | apply List.Sublist.cons))
  ·have k1 := fun n => bq (G := G) n
   refine xm ?_
   repeat' (first | exact Le.n | refine Lc.mk ?_ ?_)
   all_goals intros
   ·refine nxs (2, A ++ twoS (numP t 1)) ⟨show (2 : Nat) ≤ 5 by decide, fQ hA (by assumption)⟩ (show 5 - 2 < 5 - 1 by decide) (by repeat (first | exact trivial | refine And.intro rfl ?_)) (by repeat (first | exact List.nil_sublist _ | apply List.Sublist.cons_cons | apply List.Sublist.cons))
   ·refine nxs (2, A) ⟨show (2 : Nat) ≤ 5 by decide, dQ hA (by assumption)⟩ (show 5 - 2 < 5 - 1 by decide) (by repeat (first | exact trivial | refine And.intro rfl ?_)) (by repeat (first | exact List.nil_sublist _ | apply List.Sublist.cons_cons | apply List.Sublist.cons))
  ·have k1 := fun n => bq (G := G) n
   refine xm ?_
   repeat' (first | exact Le.n | refine Lc.mk ?_ ?_)
   all_goals intros
   ·refine nxs (3, A ++ twoS (numP t 2)) ⟨show (3 : Nat) ≤ 5 by decide, fQ hA (by assumption)⟩ (show 5 - 3 < 5 - 2 by decide) (by repeat (first | exact trivial | refine And.intro rfl ?_)) (by repeat (first | exact List.nil_sublist _ | apply List.Sublist.cons_cons | apply List.Sublist.cons))
   ·refine nxs (3, A) ⟨show (3 : Nat) ≤ 5 by decide, dQ hA (by assumption)⟩ (show 5 - 3 < 5 - 2 by decide) (by repeat (first | exact trivial | refine And.intro rfl ?_)) (by repeat (first | exact List.nil_sublist _ | apply List.Sublist.cons_cons | apply List.Sublist.cons))
  ·have k1 := fun n => bq (G := G) n
   refine xm ?_
   repeat' (first | exact Le.n | refine Lc.mk ?_ ?_)
   all_goals intros
   ·refine nxs (4, A ++ twoS (numP t 3)) ⟨show (4 : Nat) ≤ 5 by decide, fQ hA (by assumption)⟩ (show 5 - 4 < 5 - 3 by decide) (by repeat (first | exact trivial | refine And.intro rfl ?_)) (by repeat (first | exact List.nil_sublist _ | apply List.Sublist.cons_cons | apply List.Sublist.cons))
   ·refine nxs (4, A) ⟨show (4 : Nat) ≤ 5 by decide, dQ hA (by assumption)⟩ (show 5 - 4 < 5 - 3 by decide) (by repeat (first | exact trivial | refine And.intro rfl ?_)) (by repeat (first | exact List.nil_sublist _ | apply List.Sublist.cons_cons | apply List.Sublist.cons))
  ·have k1 := fun n => bq (G := G) n
   refine xm ?_
   repeat' (first | exact Le.n | refine Lc.mk ?_ ?_)
   all_goals intros
   ·refine nxs (5, A ++ twoS (numP t 4)) ⟨show (5 : Nat) ≤ 5 by decide, fQ hA (by assumption)⟩ (show 5 - 5 < 5 - 4 by decide) (by repeat (first | exact trivial | refine And.intro rfl ?_)) (by repeat (first | exact List.nil_sublist _ | apply List.Sublist.cons_cons | apply List.Sublist.cons))
   ·refine nxs (5, A) ⟨show (5 : Nat) ≤ 5 by decide, dQ hA (by assumption)⟩ (show 5 - 5 < 5 - 4 by decide) (by repeat (first | exact trivial | refine And.intro rfl ?_)) (by repeat (first | exact List.nil_sublist _ | apply List.Sublist.cons_cons | apply List.Sublist.cons))
  refine xm1 ?_
  intros
  refine dw_p mixed hC hGL false (fun (_ : Unit) => [(1, .rop [.int .i64 t.y, .int .i64 t.m, .int .i64 t.d, .int .i64 t.h, .int .i64 t.i, .int .i64 t.s, .bool t.z, .int .i64 t.o] 0), (3, .str A), (6, .str (bg (whN (tlB t.y) (tlB t.m) (tlB t.d)).toNat))]) (fun _ => []) (.take 1 (.take 2 (.take 3 (.take 4 (.take 5 (.take 6 (.br 0 (.br 7 (.br 8 (.take 9 (.take 10 (.take 11 (.take 12 (.done))))) (.nil)) (.nil)) (.br 7 (.br 0 (.br 8 (.take 9 (.take 10 (.take 11 (.take 12 (.done))))) (.nil)) (.br 8 (.br 0 (.take 9 (.take 10 (.take 11 (.take 12 (.done))))) (.nil)) (.nil))) (.nil))))))))) (by kernel_rfl) ?_ ?_
  ·refine xn ?_
   repeat' (first | exact Le.n | refine Lc.mk ?_ ?_)
   all_goals intros
   all_goals exact ⟨(), ⟨rfl, rfl, rfl, trivial⟩, rfl⟩
  intro _
  repeat' (first | (conv => whnf); first | refine .w ?_ | refine .v ?_ | refine sc_c ?_ ?_ <;> (intro hb; try exact dd hb) | apply an | apply az | (apply sc_i <;> intro hb) | (apply bx_i; intro hbd) | (apply ar; first | exact h2 | exact h3) | (apply ap (i := 0) rfl; first | exact h2 | exact h3) | (apply ab_i; intro bl) | (apply as_i; intro va vk vc hva) | (apply av_i; intro v) | (apply ac_i; intro bl cap hcap) | apply bo_l | (apply nx_i <;> intro hnx) | exact rt_w | exact True.intro | (apply bc_i; intro C hC) | apply bt_i | apply og_n | (apply og_a; exact rfl))
  all_goals try conv => whnf
  ·have hG := rl hf (by assumption)
   have hLF : (bg (whN (tlB t.y) (tlB t.m) (tlB t.d)).toNat ++ ([84] ++ clkF (whN (tlB t.h) (tlB t.i) (tlB t.s)).toNat)).length ≤ 15 := by first | (rw [List.length_append, List.length_append, List.length_singleton]; omega) | omega
   rw [← hA] at hG
   refine lp hC hGL (fun (x : Nat × List UInt8 × List UInt8) => [(1, .rop [.int .i64 t.y, .int .i64 t.m, .int .i64 t.d, .int .i64 t.h, .int .i64 t.i, .int .i64 t.s, .bool t.z, .int .i64 t.o] 0), (3, .str x.2.2), (8, .str x.2.1), (73, .own 0 (.slice (some ⟨bl, 0, none⟩) (bg (whN (tlB t.y) (tlB t.m) (tlB t.d)).toNat ++ ([84] ++ clkF (whN (tlB t.h) (tlB t.i) (tlB t.s)).toNat)).length cap)), (74, .int .i64 ((bg (whN (tlB t.y) (tlB t.m) (tlB t.d)).toNat ++ ([84] ++ clkF (whN (tlB t.h) (tlB t.i) (tlB t.s)).toNat)).length : Nat)), (75, .int .i64 (x.1 : Nat))]) (fun _ => [.buf bl (bg (whN (tlB t.y) (tlB t.m) (tlB t.d)).toNat ++ ([84] ++ clkF (whN (tlB t.h) (tlB t.i) (tlB t.s)).toNat)) cap]) (fun x => fm (bg (whN (tlB t.y) (tlB t.m) (tlB t.d)).toNat ++ ([84] ++ clkF (whN (tlB t.h) (tlB t.i) (tlB t.s)).toNat)) A x.1 x.2.1 x.2.2) (fun x => (bg (whN (tlB t.y) (tlB t.m) (tlB t.d)).toNat ++ ([84] ++ clkF (whN (tlB t.h) (tlB t.i) (tlB t.s)).toNat)).length - x.1) (0, [], A) (jn hG.1 hl) (by repeat (first | exact trivial | refine And.intro rfl ?_)) rfl ?_
   rintro ⟨i, out, all⟩ hI
   have hI : fm (bg (whN (tlB t.y) (tlB t.m) (tlB t.d)).toNat ++ ([84] ++ clkF (whN (tlB t.h) (tlB t.i) (tlB t.s)).toNat)) A i out all := hI
   have hI1 := hI.1
   have hI2 := hI.2.1
   have hI3 := hI.2.2.1
   have hI0 := fun h => iL hI h
   refine xw ?_
   repeat' (first | exact Le.n | refine Lc.mk ?_ ?_)
   all_goals intros
   ·refine aH hC hGL (bp [_] rfl (by intro v hv; obtain rfl := List.mem_singleton.1 hv; exact ⟨Int.natCast_nonneg _, by exact_mod_cast aK _ _⟩) rfl rfl rfl rfl rfl rfl) rfl rfl ?_
    refine xm1 ?_
    intros
    refine sp_i (show out.length + 1 ≤ 9223372036854775807 by omega) ?_
    refine xm1 ?_
    intros
    refine nxt (i + 1, out ++ aT [(aa all 0 : Int)], all.drop 1) ?_ ?_ (by repeat (first | exact trivial | refine And.intro rfl ?_)) rfl
    ·exact jo hI (by omega) (by assumption)
    ·show _ - (i + 1) < _ - i
     omega
   ·refine aH hC hGL (bp [_] rfl (by intro v hv; obtain rfl := List.mem_singleton.1 hv; exact ⟨Int.natCast_nonneg _, by exact_mod_cast aK _ _⟩) rfl rfl rfl rfl rfl rfl) rfl rfl ?_
    refine xm1 ?_
    intros
    refine sp_i (show out.length + 1 ≤ 9223372036854775807 by omega) ?_
    refine xm1 ?_
    intros
    refine nxt (i + 1, out ++ aT [(aa (bg (whN (tlB t.y) (tlB t.m) (tlB t.d)).toNat ++ ([84] ++ clkF (whN (tlB t.h) (tlB t.i) (tlB t.s)).toNat)) i : Int)], all) ?_ ?_ (by repeat (first | exact trivial | refine And.intro rfl ?_)) rfl
    ·exact jp hI (by omega) (by assumption)
    ·show _ - (i + 1) < _ - i
     omega
   all_goals
    apply aj
    refine congrArg AVal.str ?_
    have e := ld hI (by omega)
    rw [hG.2] at e
    first
     | (rw [if_pos (by assumption), ← e])
     | (rw [if_neg (by simp only [Bool.not_eq_true]; assumption), ← e, List.append_nil])
  ·have hG := rm hf (by assumption)
   have hLF : (bg (whN (tlB t.y) (tlB t.m) (tlB t.d)).toNat).length ≤ 15 := by first | (rw [List.length_append, List.length_append, List.length_singleton]; omega) | omega
   rw [← hA] at hG
   refine lp hC hGL (fun (x : Nat × List UInt8 × List UInt8) => [(1, .rop [.int .i64 t.y, .int .i64 t.m, .int .i64 t.d, .int .i64 t.h, .int .i64 t.i, .int .i64 t.s, .bool t.z, .int .i64 t.o] 0), (3, .str x.2.2), (8, .str x.2.1), (73, .own 0 (.slice (some ⟨bl, 0, none⟩) (bg (whN (tlB t.y) (tlB t.m) (tlB t.d)).toNat).length cap)), (74, .int .i64 ((bg (whN (tlB t.y) (tlB t.m) (tlB t.d)).toNat).length : Nat)), (75, .int .i64 (x.1 : Nat))]) (fun _ => [.buf bl (bg (whN (tlB t.y) (tlB t.m) (tlB t.d)).toNat) cap]) (fun x => fm (bg (whN (tlB t.y) (tlB t.m) (tlB t.d)).toNat) A x.1 x.2.1 x.2.2) (fun x => (bg (whN (tlB t.y) (tlB t.m) (tlB t.d)).toNat).length - x.1) (0, [], A) (jn hG.1 hl) (by repeat (first | exact trivial | refine And.intro rfl ?_)) rfl ?_
   rintro ⟨i, out, all⟩ hI
   have hI : fm (bg (whN (tlB t.y) (tlB t.m) (tlB t.d)).toNat) A i out all := hI
   have hI1 := hI.1
   have hI2 := hI.2.1
   have hI3 := hI.2.2.1
   have hI0 := fun h => iL hI h
   refine xw ?_
   repeat' (first | exact Le.n | refine Lc.mk ?_ ?_)
   all_goals intros
   ·refine aH hC hGL (bp [_] rfl (by intro v hv; obtain rfl := List.mem_singleton.1 hv; exact ⟨Int.natCast_nonneg _, by exact_mod_cast aK _ _⟩) rfl rfl rfl rfl rfl rfl) rfl rfl ?_
    refine xm1 ?_
    intros
    refine sp_i (show out.length + 1 ≤ 9223372036854775807 by omega) ?_
    refine xm1 ?_
    intros
    refine nxt (i + 1, out ++ aT [(aa all 0 : Int)], all.drop 1) ?_ ?_ (by repeat (first | exact trivial | refine And.intro rfl ?_)) rfl
    ·exact jo hI (by omega) (by assumption)
    ·show _ - (i + 1) < _ - i
     omega
   ·refine aH hC hGL (bp [_] rfl (by intro v hv; obtain rfl := List.mem_singleton.1 hv; exact ⟨Int.natCast_nonneg _, by exact_mod_cast aK _ _⟩) rfl rfl rfl rfl rfl rfl) rfl rfl ?_
    refine xm1 ?_
    intros
    refine sp_i (show out.length + 1 ≤ 9223372036854775807 by omega) ?_
    refine xm1 ?_
    intros
    refine nxt (i + 1, out ++ aT [(aa (bg (whN (tlB t.y) (tlB t.m) (tlB t.d)).toNat) i : Int)], all) ?_ ?_ (by repeat (first | exact trivial | refine And.intro rfl ?_)) rfl
    ·exact jp hI (by omega) (by assumption)
    ·show _ - (i + 1) < _ - i
     omega
   all_goals
    apply aj
    refine congrArg AVal.str ?_
    have e := ld hI (by omega)
    rw [hG.2] at e
    first
     | (rw [if_pos (by assumption), ← e])
     | (rw [if_neg (by simp only [Bool.not_eq_true]; assumption), ← e, List.append_nil])
end
section
open Go Go.RowKit
set_option maxHeartbeats 8000000
theorem Stm.three (t : Stm) : (t.frm = true ∧ t.rng = true ∧ t.E = .none ∧ t.e = 0 ∧ t.T = t.txt) ∨ (t.E = .errno 2 ∧ t.e = 2 ∧ t.T = []) ∨ (t.E = .errno 3 ∧ t.e = 3 ∧ t.T = []) := by
 unfold Stm.E Stm.e Stm.T
 cases t.frm <;> cases t.rng <;> simp
attribute [local irreducible] AWp AOps ax OrOk ad ae aa Stm.txt dayN
theorem p6 {G : Glo} (hS : ad G shapesTy) (hP : co G) (t : Stm) : FnIs Tryz.prog G 92 [t.A] (.tuple [.str t.T, .int .i64 t.e]) := by
 have h1 := fL hS t
 rcases Stm.three t with ⟨hf, hr, h2, h3, h4⟩ | ⟨h2, h3, h4⟩ | ⟨h2, h3, h4⟩
 ·have h5 := sf hS hP t hf hr
  rw [h3] at h1
  rw [h3, h4]
  have hGL : ad G [] := ab
  refine fn_x Tryz.func92 Tryz.call92 rfl rfl rfl rfl hGL ?_
  intro C hC
  repeat' (first | (conv => whnf); first | refine .w ?_ | refine .v ?_ | refine sc_c ?_ ?_ <;> (intro hb; try exact dd hb) | apply an | apply az | (apply sc_i <;> intro hb) | (apply bx_i; intro hbd) | (apply ar; first | exact h1 | exact h5) | (apply ap (i := 0) rfl; first | exact h1 | exact h5) | (apply ab_i; intro bl) | (apply as_i; intro va vk vc hva) | (apply av_i; intro v) | (apply ac_i; intro bl cap hcap) | apply bo_l | (apply nx_i <;> intro hnx) | exact rt_w | apply dw_q mixed hC hGL (by kernel_rfl) | (apply cq; assumption; (first | exact h1 | exact h5); exact rfl))
  all_goals try conv => whnf
 ·rw [h3] at h1
  rw [h3, h4]
  have hGL : ad G [] := ab
  refine fn_x Tryz.func92 Tryz.call92 rfl rfl rfl rfl hGL ?_
  intro C hC
  repeat' (first | (conv => whnf); first | refine .w ?_ | refine .v ?_ | refine sc_c ?_ ?_ <;> (intro hb; try exact dd hb) | apply an | apply az | (apply sc_i <;> intro hb) | (apply bx_i; intro hbd) | (apply ar; first | exact h1) | (apply ap (i := 0) rfl; first | exact h1) | (apply ab_i; intro bl) | (apply as_i; intro va vk vc hva) | (apply av_i; intro v) | (apply ac_i; intro bl cap hcap) | apply bo_l | (apply nx_i <;> intro hnx) | exact rt_w | apply dw_q mixed hC hGL (by kernel_rfl) | (apply cq; assumption; (first | exact h1); exact rfl))
  all_goals try conv => whnf
 ·rw [h3] at h1
  rw [h3, h4]
  have hGL : ad G [] := ab
  refine fn_x Tryz.func92 Tryz.call92 rfl rfl rfl rfl hGL ?_
  intro C hC
  repeat' (first | (conv => whnf); first | refine .w ?_ | refine .v ?_ | refine sc_c ?_ ?_ <;> (intro hb; try exact dd hb) | apply an | apply az | (apply sc_i <;> intro hb) | (apply bx_i; intro hbd) | (apply ar; first | exact h1) | (apply ap (i := 0) rfl; first | exact h1) | (apply ab_i; intro bl) | (apply as_i; intro va vk vc hva) | (apply av_i; intro v) | (apply ac_i; intro bl cap hcap) | apply bo_l | (apply nx_i <;> intro hnx) | exact rt_w | apply dw_q mixed hC hGL (by kernel_rfl) | (apply cq; assumption; (first | exact h1); exact rfl))
  all_goals try conv => whnf
end
section
open Go Go.RowKit
attribute [local irreducible] AWp AOps aa ax OrOk ad ae
theorem iO {G : Glo} (v : Int) : FnIs Tryz.prog G 24 [.int .i64 v] (.bool (eqB v 4)) := by
 have hGL : ad G [] := ab
 refine fn_x Tryz.func24 Tryz.call24 rfl rfl rfl rfl hGL ?_
 intro C hC
 exact xw0
end
section
open Go Go.RowKit
def mapE (L : List (List UInt8 × Int)) : List (AVal × AVal) := L.map fun x => (.str x.1, .int .i64 x.2)
def bT (s : List UInt8) : List (List UInt8 × Int) → Nat → Option (Nat × Int)
 | [], _ => none
 | x :: L, i => if seqB s x.1 then some (i, x.2) else bT s L (i + 1)
def numL (s : List UInt8) (L : List (List UInt8 × Int)) : Int := match bT s L 0 with
 | some (_, n) => n
 | none => 0
theorem d8 (s : List UInt8) : ∀ (L : List (List UInt8 × Int)) (i : Nat), bT s L i = (bT s L 0).map fun x => (x.1 + i, x.2)
 | [], _ => rfl
 | x :: L, i => by
  simp only [bT]
  split
  ·simp
  ·rw [d8 s L (i + 1), d8 s L (0 + 1)]
   cases bT s L 0 with
   | none => rfl
   | some y => simp only [Option.map_some]; congr 2; omega
theorem dF (s : List UInt8) (x : List UInt8 × Int) (L : List (List UInt8 × Int)) : numL s (x :: L) = if seqB s x.1 then x.2 else numL s L := by
 cases h : seqB s x.1 with
 | true =>
  unfold numL
  simp only [bT, h, if_true]
 | false =>
  unfold numL
  simp only [bT, h, Bool.false_eq_true, if_false]
  rw [d8 s L (0 + 1)]
  cases bT s L 0 with
  | none => rfl
  | some y => rfl
theorem qM {s t : List UInt8} {n : Int} : ∀ {L : List (List UInt8 × Int)}, bT t L 0 = none → numL s (L ++ [(t, n)]) = if seqB s t then n else numL s L
 | [], _ => by rw [List.nil_append, dF]
 | x :: L, h => by
  simp only [bT] at h
  split at h
  ·cases h
  ·rename_i hx
   rw [d8 t L (0 + 1)] at h
   have h0 : bT t L 0 = none := by
    cases h1 : bT t L 0 with
    | none => rfl
    | some y => rw [h1] at h; cases h
   rw [List.cons_append, dF, qM h0, dF]
   cases h1 : seqB s x.1 with
   | false => rfl
   | true =>
    have e1 := a7.1 h1
    cases h2 : seqB s t with
    | false => rfl
    | true =>
     have e2 := a7.1 h2
     exact absurd (a7.2 (e2.symm.trans e1)) hx
theorem uH {s t : List UInt8} {n m : Int} : ∀ {L : List (List UInt8 × Int)} {j : Nat}, bT t L 0 = some (j, m) → numL s (L.set j (t, n)) = if seqB s t then n else numL s L
 | [], _, h => by cases h
 | x :: L, j, h => by
  simp only [bT] at h
  split at h
  ·rename_i hx
   cases h
   rw [List.set_cons_zero, dF, dF]
   dsimp only
   rw [a7.1 hx]
   split <;> rfl
  ·rename_i hx
   rw [d8 t L (0 + 1)] at h
   cases h1 : bT t L 0 with
   | none => rw [h1] at h; cases h
   | some y =>
    rw [h1] at h
    simp only [Option.map_some, Option.some.injEq, Prod.mk.injEq] at h
    obtain ⟨rfl, rfl⟩ := h
    rw [show y.1 + (0 + 1) = y.1 + 1 by omega, List.set_cons_succ, dF, uH (m := y.2) h1, dF]
    cases h2 : seqB s x.1 with
    | false => rfl
    | true =>
     have e1 := a7.1 h2
     cases h3 : seqB s t with
     | false => rfl
     | true => exact absurd (a7.2 ((a7.1 h3).symm.trans e1)) hx
theorem mf (L : List (List UInt8 × Int)) (s : List UInt8) (n : Int) : mapE L ++ [(AVal.str s, AVal.int .i64 n)] = mapE (L ++ [(s, n)]) := by
 unfold mapE
 rw [List.map_append]
 rfl
theorem oQ (L : List (List UInt8 × Int)) (j : Nat) (s : List UInt8) (n : Int) : (mapE L).set j (AVal.str s, AVal.int .i64 n) = mapE (L.set j (s, n)) := by
 unfold mapE
 rw [List.map_set]
def updL (s : List UInt8) (n : Int) (L : List (List UInt8 × Int)) : List (List UInt8 × Int) := match bT s L 0 with
 | some (j, _) => L.set j (s, n)
 | none => L ++ [(s, n)]
theorem Cj (s t : List UInt8) (n : Int) (L : List (List UInt8 × Int)) : numL s (updL t n L) = if seqB s t then n else numL s L := by
 unfold updL
 cases h : bT t L 0 with
 | none => exact qM h
 | some y => exact uH (m := y.2) h
end
section
open Go Go.RowKit
attribute [local irreducible] AWp AOps aa ax OrOk ad ae
theorem sB {G : Glo} (c : Crd) (ho : ∀ x ∈ c.l, Itm.OK 1048576 x) (hl : c.l.length ≤ 1048576) : ae Tryz.prog G 6 [c.A] [] (fun r H => (∃ a, r = .ret a ∧ ∃ b, a = .bool b ∧ (b = false → c.fine)) ∧ H = []) := by
  obtain ⟨v, l⟩ := c
  dsimp only at ho hl
  have hGL : ad G [] := ab
  refine fn_x Tryz.func6 Tryz.call6 rfl rfl rfl rfl hGL ?_
  intro C hC
  refine xw ?_
  repeat' (first | exact Le.n | refine Lc.mk ?_ ?_)
  all_goals intros
  · exact ⟨[], List.nil_sublist _, ⟨_, rfl, true, rfl, fun h => by cases h⟩, rfl⟩
  have h70 : l.length ≤ 70 := by have : (l.length : Int) ≤ 70 := by assumption
                                 omega
  refine lp hC hGL (fun k : Nat => [(10, .list 15 l.length (itsF l)), (11, .int .i64 (l.length : Nat)), (12, .int .i64 (k : Nat))]) (fun _ => []) (fun k => k ≤ l.length ∧ ∀ j, j < k → Itm.OK 2500 (l.getD j Itm.z)) (fun k => l.length - k) 0 ⟨Nat.zero_le _, fun j h => absurd h (Nat.not_lt_zero _)⟩ ai rfl ?_
  rintro k ⟨h1, h2⟩
  by_cases hk : k < l.length
  · have hx := eX ho hk
    have hw := CD (G := G) (l.getD k Itm.z).p hx.p
    have ht := Ar (G := G) (l.getD k Itm.z).2 (by have := hx.s; omega) hx.L
    refine xw1 ?_
    intros
    refine mw hw ?_
    rintro _ ⟨b, rfl, hb⟩
    cases b with
    | true =>
      refine xw1 ?_
      exact ⟨[], List.nil_sublist _, ⟨_, rfl, true, rfl, fun h => by cases h⟩, rfl⟩
    | false =>
      refine xw1 ?_
      refine mw ht ?_
      rintro _ ⟨b, rfl, hb2⟩
      cases b with
      | true =>
        refine xw1 ?_
        exact ⟨[], List.nil_sublist _, ⟨_, rfl, true, rfl, fun h => by cases h⟩, rfl⟩
      | false =>
        refine xw1 ?_
        intros
        refine nxs (k + 1) ⟨hk, fun j hj => ?_⟩ (by omega) ai aR
        rcases Nat.lt_or_eq_of_le (Nat.le_of_lt_succ hj) with h | rfl
        · exact h2 j h
        · exact ⟨hb rfl, hb2 rfl, hx.L⟩
  · refine xw1 ?_
    intros
    exact ⟨[], List.nil_sublist _, ⟨_, rfl, false, rfl, fun _ => ⟨h70, y9 fun j hj => h2 j (by dsimp only at hj; omega)⟩⟩, rfl⟩
end
section
open Go.ChangeShapes Go.WideShapes Go.ChangeAt Go.RowKit Go.WideMaps Go.WideElems
theorem Dr {H : Type} (d : DataW H) : 1 ≤ Rows.uptoBulk d := by
 cases d with
 | lit l => cases l <;> simp [Rows.uptoBulk]
 | _ => simp [Rows.uptoBulk]
theorem iQ {H : Type} : ∀ l : List (DataW H), l.length ≤ Rows.uptoBulkAll l
 | [] => Nat.zero_le _
 | x :: r => by
  have h1 := Dr x
  have h2 := iQ r
  simp only [Rows.uptoBulkAll, List.length_cons]
  omega
theorem iP {H : Type} {d : DataW H} : ∀ {l : List (DataW H)}, d ∈ l → Rows.uptoBulk d ≤ Rows.uptoBulkAll l
 | [], h => by cases h
 | x :: r, h => by
  simp only [Rows.uptoBulkAll]
  rcases List.mem_cons.1 h with rfl | h
  ·omega
  ·have := iP h; omega
theorem rq {H : Type} : ∀ l : List (List UInt8), Rows.uptoBulkAll (H := H) (l.map fun s => .lit (.string s)) = Lib.lens l + l.length
 | [] => rfl
 | s :: r => by
  have e1 : Lib.lens (s :: r) = s.length + Lib.lens r := by simp [Lib.lens]
  have h := rq (H := H) r
  simp only [List.map_cons, Rows.uptoBulkAll, Rows.uptoBulk, h, e1, List.length_cons]
  omega
section
variable {H : Type} {enc : TypeId × Value → H} {W : World}
theorem ur {m : Nat} {f : Nat → AVal} {a : Addr} {cap : Nat} (hm : m ≤ cap) {V : Nat → Value} (hV : ∀ i, i < m → W.cell? (a.add i) = some (V i) ∧ RelC (aw W W.heap.size) (f i) [V i]) :
  Rel (aw W W.heap.size) (.list 1 m f) (.slice (some a) m cap) := by
 refine ⟨⟨some a, cap, rfl, hm, ?_⟩, rfl⟩
 rcases Nat.eq_zero_or_pos m with h0 | h0
 ·exact .inl h0
 ·refine .inr ?_
  obtain ⟨b, o, sp⟩ := a
  have h1 := (hV 0 h0).1
  rw [show (⟨b, o, sp⟩ : Addr).add 0 = ⟨b, o, sp⟩ from rfl] at h1
  unfold World.cell? at h1
  dsimp only at h1
  cases hW : W.heap[b]? with
  | none => rw [hW] at h1; cases h1
  | some ob =>
   cases ob with
   | cells C e fz =>
    rw [hW] at h1
    cases sp with
    | some s => simp at h1
    | none =>
     refine ⟨b, o, C, e, fz, rfl, ?_, fun i hi => ?_⟩
     ·unfold aw
      rw [if_pos (Array.getElem?_eq_some_iff.1 hW).1]
      exact hW
     ·obtain ⟨h2, h3⟩ := hV i hi
      have ha : (⟨b, o, none⟩ : Addr).add i = ⟨b, o + i, none⟩ := by
       unfold Addr.add
       split
       ·rename_i h; rw [h]; rfl
       ·rfl
      rw [ha] at h2
      have hci : C[o + i]? = some (V i) := by
       unfold World.cell? at h2
       simpa [hW] using h2
      have hlt : o + i < C.toList.length := by simpa using (Array.getElem?_eq_some_iff.1 hci).1
      have e1 : (C.toList.drop (o + i * 1)).take 1 = [V i] := by
       rw [Nat.mul_one, List.drop_eq_getElem_cons hlt, List.take_succ_cons, List.take_zero]
       have : C.toList[o + i]? = some (V i) := by rw [Array.getElem?_toList]; exact hci
       rw [List.getElem?_eq_getElem hlt] at this
       rw [Option.some.inj this]
      rw [e1]
      exact h3
   | _ => rw [hW] at h1; cases h1
theorem uq {fuel : Nat} {spare : Nat → Bool} {held : Bool} {v : Value} {x : DataW H × List MemPlace} (h : DataW.trod enc Tryz.prog W 0 spare held fuel 67 [v] = some x) :
  ∃ l : List (List UInt8), Rel (aw W W.heap.size) (.list 1 l.length (aF l)) v ∧ l.length ≤ Rows.uptoBulk x.1 ∧ Lib.lens l ≤ Rows.uptoBulk x.1 := by
 rcases Go.Deep.open_strs Tryz.underlying67 Tryz.underlying9 (by kernel_rfl) h with ⟨hv, rfl⟩ | ⟨a, len, cap, m, Sx, hv, _, hl, _, hm, rfl, hx⟩
 ·obtain rfl : v = .slice none 0 0 := by simpa using hv
  exact ⟨[], ⟨⟨none, 0, rfl, Nat.le_refl _, .inl rfl⟩, rfl⟩, Nat.zero_le _, Nat.zero_le _⟩
 ·obtain rfl : v = .slice (some a) len cap := by simpa using hv
  have hlm : len ≤ m := by rw [hm]; split <;> omega
  let l : List (List UInt8) := (List.range len).map fun i => (Sx i).data.toList
  have hll : l.length = len := by simp [l]
  have hget : ∀ i, i < len → l.getD i [] = (Sx i).data.toList := fun i hi => by simp [l, List.getD, hi]
  refine ⟨l, ?_, ?_⟩
  ·rw [hll]
   refine ur hl (V := fun i => .string (Sx i)) (fun i hi => ⟨(hx i (by omega)).1, ?_⟩)
   have := (aB (R := aw W W.heap.size) (s := l.getD i []) (v := .string (Sx i))).2 (by rw [hget i hi, ip])
   exact this.1
  ·have e1 : ((List.range len).map fun i => (DataW.lit (.string (Sx i).data.toList) : DataW H)) = l.map fun s => .lit (.string s) := by simp [l, List.map_map, Function.comp_def]
   have h1 := rq (H := H) l
   simp only [Rows.uptoBulk]
   rw [e1, h1]
   omega
theorem Aa {fuel : Nat} {spare : Nat → Bool} {held : Bool} {v : Value} {x : DataW H × List MemPlace} (h : DataW.trod enc Tryz.prog W 0 spare held fuel 27 [v] = some x) (hb : Rows.uptoBulk x.1 ≤ 1048576) :
  ∃ L : List (List (List UInt8)), Rel (aw W W.heap.size) (.list 1 L.length (cB L)) v ∧ Small L := by
 rcases Go.Deep.open_slice1 Tryz.underlying27 (by kernel_rfl) h with ⟨hv, rfl⟩ | ⟨a, len, cap, m, n, V, D, Pl, hv, _, hl, _, hm, rfl, hx⟩
 ·obtain rfl : v = .slice none 0 0 := by simpa using hv
  refine ⟨[], ⟨⟨none, 0, rfl, Nat.le_refl _, .inl rfl⟩, rfl⟩, ⟨by simp, fun k => ?_⟩⟩
  rw [List.getD_nil]
  exact ⟨by simp, by simp [Lib.lens]⟩
 ·obtain rfl : v = .slice (some a) len cap := by simpa using hv
  have hlm : len ≤ m := by rw [hm]; split <;> omega
  obtain ⟨Lx, hLx⟩ := Go.Deep.choose_lt (α := List (List UInt8)) (n := len) (p := fun i l => Rel (aw W W.heap.size) (.list 1 l.length (aF l)) (V i) ∧ l.length ≤ Rows.uptoBulk (D i) ∧ Lib.lens l ≤ Rows.uptoBulk (D i)) (fun i hi => uq (hx i (by omega)).2)
  let L : List (List (List UInt8)) := (List.range len).map Lx
  have hll : L.length = len := by simp [L]
  have hget : ∀ i, i < len → L.getD i [] = Lx i := fun i hi => by simp [L, List.getD, hi]
  simp only [Rows.uptoBulk] at hb
  have h1 := iQ ((List.range len).map D)
  rw [List.length_map, List.length_range] at h1
  refine ⟨L, ?_, ⟨by omega, fun k => ?_⟩⟩
  ·rw [hll]
   refine ur hl (V := V) (fun i hi => ⟨(hx i (by omega)).1, ?_⟩)
   have h2 := (hLx i hi).1
   unfold cB
   rw [hget i hi]
   have h3 := h2.1
   obtain ⟨c, cp, e, h4⟩ := h3
   have e2 : [V i] = [.slice c (Lx i).length cp] := by
    obtain ⟨c2, cp2, e3, _⟩ := aP h2 rfl
    have e4 : V i = .slice c2 (Lx i).length cp2 := by simpa using e3
    rw [e4] at e ⊢
    exact e
   exact ⟨c, cp, e2, h4⟩
  ·by_cases hk : k < len
   ·rw [hget k hk]
    have h2 := (hLx k hk).2
    have h3 := iP (d := D k) (l := (List.range len).map D) (List.mem_map.2 ⟨k, List.mem_range.2 hk, rfl⟩)
    omega
   ·rw [List.getD_eq_getElem?_getD, List.getElem?_eq_none (by omega)]
    exact ⟨by simp, by simp [Lib.lens]⟩
end
end
end Go.Proofs.YtahebkecmlmlfaaGreatDoor
