/- Parts of the proof of prints_root: Whb, Vld, Vle, Vlf, Vlg, End, Han, Lai, Lu, Tjk, Esl, Tra, Trb, Whc, Whd, Whe, Whf. -/
import Derived.Test.YtahebkecmlmlfaaGreatDoorRows
import Derived.ProofKit
import Derived.LaidMore
import Derived.Lay
import Derived.Stop.Joined
import Derived.LaidSub
import Derived.LaidHandle
import Derived.OpenShut
import Derived.Lib.ItoaNum
import Derived.Deep.Strs
import Derived.Shelf.Vars
import Derived.SizedLaws
import Derived.Test.YtahebkecmlmlfaaGreatDoorBaj
import Derived.Test.YtahebkecmlmlfaaGreatDoorBai
import Derived.Test.YtahebkecmlmlfaaGreatDoorBad
import Derived.Test.YtahebkecmlmlfaaGreatDoorBah
import Derived.Test.YtahebkecmlmlfaaGreatDoorBae
import Derived.Test.YtahebkecmlmlfaaGreatDoorBaf
import Derived.Test.YtahebkecmlmlfaaGreatDoorBag
set_option linter.unusedVariables false
set_option linter.unusedSimpArgs false
set_option linter.unusedSectionVars false
namespace Go.Proofs.YtahebkecmlmlfaaGreatDoor
set_option maxRecDepth 20000
set_option maxHeartbeats 4000000
section
open Go Go.RowKit
def datA : List UInt8 := [32, 45, 45, 45, 32, 57, 45, 45, 32, 57, 57, 45, 32, 57, 57, 57, 32, 45, 57, 45, 32, 45, 57, 57, 32, 45, 45, 57, 32]
def datB : List UInt8 := [32, 57, 57, 57, 32, 45, 57, 57, 32, 45, 45, 57, 32]
def timB : List UInt8 := [32, 57, 45, 45, 32, 57, 57, 45, 32, 57, 57, 57, 32]
def cnB (l : List UInt8) (a b c : Bool) : Bool := Lib.contains l (([32] ++ fmS a b c) ++ [32])
theorem cnA : ∀ a b c : Bool, cnB datA a b c = decide (0 ≤ whN a b c) := by decide
theorem cnD : ∀ a b c : Bool, cnB datB a b c = decide (whN a b c = 3 ∨ whN a b c = 5 ∨ whN a b c = 6) := by decide
theorem cnT : ∀ a b c : Bool, cnB timB a b c = decide (1 ≤ whN a b c ∧ whN a b c ≤ 3) := by decide
theorem xD : ∀ a b c : Bool, fmS a b c = [45, 45, 45] ↔ whN a b c = 0 := by decide
theorem Fu : ∀ a b c d e f : Bool, fmS a b c = fmS d e f ↔ whN a b c = whN d e f := by decide
theorem yw : ∀ a b c : Bool, -1 ≤ whN a b c ∧ whN a b c ≤ 6 := by decide
def FrmP (d t : Int) (z : Bool) (h o : Int) : Prop := (0 ≤ d ∧ 0 ≤ t ∧ ¬ (d = 0 ∧ t = 0) ∧ (0 < d ∧ 0 < t → (d = 3 ∨ d = 5 ∨ d = 6) ∧ t ≤ 3)) ∧ (if z then h ≠ -1 else o = 0)
theorem fE (t : Stm) : t.frm = true ↔ FrmP t.dn t.tn t.z t.h t.o := by
 unfold Stm.frm FrmP okN
 rw [Bool.and_eq_true, decide_eq_true_eq]
 refine and_congr Iff.rfl ?_
 cases t.z <;> simp [gZ]
theorem nB {G : Glo} {m : Int} (hU : ad G (bI m)) (l : List UInt8) (hl : l.length < 100000) (a b c : Bool) : FnIs Tryz.prog G 81 [.str l, .str (([32] ++ fmS a b c) ++ [32])] (.bool (cnB l a b c)) := f6 hU l _ hl
theorem E_3 {t : Stm} (h : ¬ FrmP t.dn t.tn t.z t.h t.o) : t.E = .errno 3 := by
 unfold Stm.E
 rw [if_neg (fun k => h ((fE t).1 k))]
theorem E_2 {t : Stm} (h : FrmP t.dn t.tn t.z t.h t.o) (k : t.rng = false) : t.E = .errno 2 := by
 unfold Stm.E
 rw [if_pos ((fE t).2 h), k]
 rfl
theorem E_0 {t : Stm} (h : FrmP t.dn t.tn t.z t.h t.o) (k : t.rng = true) : t.E = .none := by
 unfold Stm.E
 rw [if_pos ((fE t).2 h), k]
 rfl
attribute [local irreducible] AWp AOps az OrOk ad ah aa
attribute [local irreducible] fmS cnB witB tlB dayN zrB
theorem gw {G : Glo} {m : Int} (hU : ad G (bI m)) (t : Stm) : FnIs Tryz.prog G 107 [t.A] t.E.A := by
 have h1 := iX (G := G) t.y t.m t.d
 have h2 := iX (G := G) t.h t.i t.s
 have h3a := nB (G := G) hU datA (by decide) (tlB t.y) (tlB t.m) (tlB t.d)
 have h3b := nB (G := G) hU datB (by decide) (tlB t.y) (tlB t.m) (tlB t.d)
 have h4a := nB (G := G) hU datA (by decide) (tlB t.h) (tlB t.i) (tlB t.s)
 have h4b := nB (G := G) hU timB (by decide) (tlB t.h) (tlB t.i) (tlB t.s)
 rw [cnA] at h3a h4a
 rw [cnD] at h3b
 rw [cnT] at h4b
 have k1 := xD (tlB t.y) (tlB t.m) (tlB t.d)
 have k2 := xD (tlB t.h) (tlB t.i) (tlB t.s)
 have k3 := Fu (tlB t.y) (tlB t.m) (tlB t.d) (tlB t.h) (tlB t.i) (tlB t.s)
 have k4 := yw (tlB t.y) (tlB t.m) (tlB t.d)
 have k5 := yw (tlB t.h) (tlB t.i) (tlB t.s)
 have h5 := zD (G := G) t.y t.m
 have h6 := fun n lo hi => tr (G := G) n lo hi
 have h7 := jR (G := G) t.o
 have l1 : (fmS (tlB t.y) (tlB t.m) (tlB t.d)).length = 3 := by unfold fmS; rfl
 have l2 : (fmS (tlB t.h) (tlB t.i) (tlB t.s)).length = 3 := by unfold fmS; rfl
 have hGL : ad G [] := ab
 refine fn_x Tryz.func107 Tryz.call107 rfl rfl rfl rfl hGL ?_
 intro C hC
 repeat' (first | (conv => whnf); first | refine .w ?_ | refine .v ?_ | refine sc_c ?_ ?_ <;> (intro hb; try exact dd hb) | apply ae | apply an | (apply sc_i <;> intro hb) | (apply bx_i; intro hbd) | (apply aj; first | fail) | (apply am (i := 0) rfl; first | fail) | (apply ab_i; intro bl) | (apply as_i; intro va vk vc hva) | (apply av_i; intro v) | (apply ac_i; intro bl cap hcap) | apply bo_l | (apply nx_i <;> intro hnx) | exact rt_w | exact True.intro | (apply bc_i; intro C hC) | apply bt_i | apply og_n | (apply og_a; exact rfl))
 all_goals try conv => whnf
 refine dw_p mixed hC hGL false (fun (_ : Unit) => [(1, .rop [.int .i64 t.y, .int .i64 t.m, .int .i64 t.d, .int .i64 t.h, .int .i64 t.i, .int .i64 t.s, .bool t.z, .int .i64 t.o] 0), (2, .raw .nilIface), (3, .str (fmS (tlB t.y) (tlB t.m) (tlB t.d))), (4, .str (fmS (tlB t.h) (tlB t.i) (tlB t.s)))]) (fun _ => []) (.take 0 (.take 1 (.take 2 (.take 3 (.take 4 (.take 5 (.take 8 (.take 9 (.take 10 (.take 11 (.take 12 (.take 13 (.br 6 (.br 7 (.br 14 (.br 15 (.take 16 (.take 17 (.done))) (.nil)) (.nil)) (.br 14 (.br 7 (.br 15 (.take 16 (.take 17 (.done))) (.nil)) (.nil)) (.nil))) (.br 14 (.br 6 (.br 7 (.br 15 (.take 16 (.take 17 (.done))) (.nil)) (.nil)) (.nil)) (.nil))))))))))))))) (by kernel_rfl) ?_ ?_
 ·repeat' (first | (conv => whnf); first | refine .w ?_ | refine .v ?_ | refine sc_c ?_ ?_ <;> (intro hb; try exact dd hb) | apply ae | apply an | (apply sc_i <;> intro hb) | (apply bx_i; intro hbd) | (apply aj; first | exact h1 | exact h2) | (apply am (i := 0) rfl; first | exact h1 | exact h2) | (apply ab_i; intro bl) | (apply as_i; intro va vk vc hva) | (apply av_i; intro v) | (apply ac_i; intro bl cap hcap) | apply bo_l | (apply nx_i <;> intro hnx) | exact rt_w | exact True.intro | (apply bc_i; intro C hC) | apply bt_i | apply og_n | (apply og_a; exact rfl))
  all_goals try conv => whnf
  all_goals exact ⟨(), ⟨rfl, rfl, rfl, rfl, trivial⟩, rfl⟩
 intro _
 clear h1 h2
 have hE3 := fun h => E_3 (t := t) h
 have hE2 := fun h k => E_2 (t := t) h k
 have hE0 := fun h k => E_0 (t := t) h k
 unfold FrmP Stm.dn Stm.tn at hE3 hE2 hE0
 unfold Stm.rng Stm.day at hE2 hE0
 cases hz : t.z
 all_goals
  rw [hz] at hE3 hE2 hE0
  simp only [Bool.false_eq_true, if_false, if_true] at hE3 hE2 hE0
  repeat' (first | (conv => whnf); first | refine .w ?_ | refine .v ?_ | refine sc_c ?_ ?_ <;> (intro hb; try exact dd hb) | apply ae | apply an | (apply sc_i <;> intro hb) | (apply bx_i; intro hbd) | (apply aj; first | exact h3a | exact h3b | exact h4a | exact h4b | exact h5 | exact h6 _ _ _ | exact h7) | (apply am (i := 0) rfl; first | exact h3a | exact h3b | exact h4a | exact h4b | exact h5 | exact h6 _ _ _ | exact h7) | (apply ab_i; intro bl) | (apply as_i; intro va vk vc hva) | (apply av_i; intro v) | (apply ac_i; intro bl cap hcap) | apply bo_l | (apply nx_i <;> intro hnx) | exact rt_w | exact True.intro | (apply bc_i; intro C hC) | apply bt_i | apply og_n | (apply og_a; exact rfl))
  all_goals try conv => whnf
  all_goals
   clear h3a h3b h4a h4b h5 h6 h7
   simp only [ne_eq, xD, Fu, decide_eq_true_eq, decide_eq_false_iff_not] at *
   apply al
   generalize whN (tlB t.y) (tlB t.m) (tlB t.d) = dn at *
   generalize whN (tlB t.h) (tlB t.i) (tlB t.s) = tn at *
   generalize zrB t.o = zr at *
   first | rw [if_neg (by assumption)] at hE2 hE0 | rw [if_pos (by assumption)] at hE2 hE0 | skip
   generalize witB t.m 1 12 = w1 at *
   generalize witB t.d 1 (dayN t.y t.m) = w2 at *
   generalize witB t.d 1 31 = w8 at *
   generalize witB t.h 0 23 = w3 at *
   generalize witB t.i 0 59 = w4 at *
   generalize witB t.s 0 59 = w5 at *
   generalize witB t.y 0 9999 = w6 at *
   first
    | (rw [hE3 (by omega)]; rfl)
    | (rw [hE2 (by omega) (by simp [*])]; rfl)
    | (rw [hE0 (by omega) (by simp [*])]; rfl)
end
section
open Go Go.RowKit
attribute [local irreducible] AWp AOps aa az OrOk ad ah
theorem ES {a b : Int} : eqB a b = decide (a = b) := by rw [Bool.eq_iff_iff, de, decide_eq_true_eq]
theorem Vl.E_bad {v : Vl} (h : v.t < 1 ∨ 9 ≤ v.t ∨ v.only = false) : v.E = .errno 1 := if_pos h
theorem Vl.E_ok {v : Vl} (h1 : 1 ≤ v.t) (h2 : v.t < 9) (h3 : v.only = true) : v.E = if v.t = 2 ∨ v.t = 3 then ptsE v.t v.L
  else if v.t = 4 then (uriE v.s).b else if v.t = 5 then v.st.E else if v.t = 6 then zprE v.n else if v.t = 7 then (ca v.s).b else if hdB (decide (v.t = 1)) v.s then .none else .errno 3 := by
 unfold Vl.E
 rw [if_neg]
 rintro (h | h | h)
 ·omega
 ·omega
 ·rw [h3] at h; cases h
theorem Vl.E_rest {v : Vl} (h : v.only = true) (h1 : 1 ≤ v.t) (h2 : v.t < 9) (a : v.t ≠ 2) (b : v.t ≠ 3) (c : v.t ≠ 4) (d : v.t ≠ 5) (e : v.t ≠ 6) (f : v.t ≠ 7) : v.E = if hdB (decide (v.t = 1)) v.s then .none else .errno 3 := by
 rw [Vl.E_ok h1 h2 h, if_neg (by omega), if_neg c, if_neg d, if_neg e, if_neg f]
theorem Vl.E_p {v : Vl} (h : v.only = true) (a : v.t = 2 ∨ v.t = 3) : v.E = ptsE v.t v.L := by rw [Vl.E_ok (by omega) (by omega) h, if_pos a]
theorem Vl.E_4 {v : Vl} (h : v.only = true) (a : v.t = 4) : v.E = (uriE v.s).b := by rw [Vl.E_ok (by omega) (by omega) h, if_neg (by omega), if_pos a]
theorem Vl.E_5 {v : Vl} (h : v.only = true) (a : v.t = 5) : v.E = v.st.E := by rw [Vl.E_ok (by omega) (by omega) h, if_neg (by omega), if_neg (by omega), if_pos a]
theorem Vl.E_6 {v : Vl} (h : v.only = true) (a : v.t = 6) : v.E = zprE v.n := by rw [Vl.E_ok (by omega) (by omega) h, if_neg (by omega), if_neg (by omega), if_neg (by omega), if_pos a]
theorem Vl.E_7 {v : Vl} (h : v.only = true) (a : v.t = 7) : v.E = (ca v.s).b := by rw [Vl.E_ok (by omega) (by omega) h, if_neg (by omega), if_neg (by omega), if_neg (by omega), if_neg (by omega), if_pos a]
theorem yN {t : Int} {L : List (List (List UInt8))} (h : L.length = 0 ∨ (t = 2 ∧ L.length ≠ 1)) : ptsE t L = .errno 8 := if_pos h
theorem yO {t : Int} {L : List (List (List UInt8))} (h : ¬ (L.length = 0 ∨ (t = 2 ∧ L.length ≠ 1))) : ptsE t L = if bV L < L.length then .errno 8 else if hdL L then .none else .errno 3 := if_neg h
structure Vl.OK (v : Vl) : Prop where
 s : v.s.length ≤ 9223372036854775000
 n : v.L.length ≤ 2000000
 r : ∀ k, (v.L.getD k []).length ≤ 2000000
 l : ∀ k j, ((v.L.getD k []).getD j []).length ≤ 9223372036854775807
attribute [local irreducible] hdC hdB badI fW Vl.only uriE ca Stm.E zrB bV hdL
theorem mD {G : Glo} {m : Int} (hU : ad G errTy) (hM : ad G (bI m)) (v : Vl) (hv : v.OK) : FnIs Tryz.prog G 56 [v.A] v.E.A := by
 have h0 := vY (G := G) v
 have h1 := zE (G := G) v.s (by have := hv.s; omega)
 have h2 := nP hU (uriE v.s)
 rw [← qk (uriE v.s)] at h2
 have h3 := gw hM v.st
 have h4 := jR (G := G) v.n
 have h5 := oQ (G := G) v.s (by have := hv.s; omega)
 have h6 := nP hU (ca v.s)
 rw [← qk (ca v.s)] at h6
 have h7 := mE (G := G) v.s (eqB v.t 1) (by have := hv.s; omega)
 have h8 := fun k j => mE (G := G) ((v.L.getD k []).getD j []) true (hv.l k j)
 rw [show hdB (eqB v.t 1) v.s = hdB (decide (v.t = 1)) v.s by rw [ES]] at h7
 have k1 := fun k j (_ : (0 : Int) ≤ 0) => h8 k j
 have hn := hv.n
 have hr := hv.r
 obtain ⟨t, s, L, st, n⟩ := v
 dsimp only at *
 by_cases ht : t < 1 ∨ 9 ≤ t
 ·rw [Vl.E_bad (v := ⟨t, s, L, st, n⟩) (ht.elim .inl (fun h => .inr (.inl h)))]
  have hGL : ad G [] := ab
  refine fn_x Tryz.func56 Tryz.call56 rfl rfl rfl rfl hGL ?_
  intro C hC
  refine xw ?_
  repeat' (first | exact Le.n | refine Lc.mk ?_ ?_)
  all_goals intros
  all_goals dsimp only at *
  all_goals first | exact al rfl | (exfalso; omega)
 cases ho : Vl.only ⟨t, s, L, st, n⟩
 ·rw [Vl.E_bad (.inr (.inr ho))]
  rw [ho] at h0
  have hGL : ad G [] := ab
  refine fn_x Tryz.func56 Tryz.call56 rfl rfl rfl rfl hGL ?_
  intro C hC
  exact xw0
 ·rw [ho] at h0
  have hGL : ad G [] := ab
  refine fn_x Tryz.func56 Tryz.call56 rfl rfl rfl rfl hGL ?_
  intro C hC
  refine xw ?_
  repeat' (first | exact Le.n | refine Lc.mk ?_ ?_)
  all_goals intros
  all_goals dsimp only at *
  all_goals try first
   | (apply al; rw [Vl.E_4 ho (by assumption)]; done)
   | (apply al; rw [Vl.E_5 ho (by assumption)]; done)
   | (apply al; rw [Vl.E_7 ho (by assumption)]; done)
   | (apply al; rw [Vl.E_6 ho (by assumption)]; unfold zprE; dsimp only; rw [show zrB n = true by assumption]; rfl)
   | (apply al; rw [Vl.E_6 ho (by assumption)]; unfold zprE; dsimp only; rw [show zrB n = false by assumption]; rfl)
   | (apply al; rw [Vl.E_p ho (by first | exact .inl (by assumption) | exact .inr (by assumption)), yN (by dsimp only; omega)]; rfl)
   | (apply al; rw [Vl.E_rest ho (by assumption) (by assumption) (by assumption) (by assumption) (by assumption) (by assumption) (by assumption) (by assumption)]; dsimp only; rw [show hdB (decide (t = 1)) s = true by assumption]; rfl)
   | (apply al; rw [Vl.E_rest ho (by assumption) (by assumption) (by assumption) (by assumption) (by assumption) (by assumption) (by assumption) (by assumption)]; dsimp only; rw [show hdB (decide (t = 1)) s = false by assumption]; rfl)
  all_goals
   rw [Vl.E_p ho (by first | exact .inl (by assumption) | exact .inr (by assumption)), yO (by dsimp only; omega)]
   dsimp only
   refine lp hC hGL (fun k : Nat => [(1, .rop [.int .i64 t, .str s, .list 1 L.length (cC L), .int .i64 st.y, .int .i64 st.m, .int .i64 st.d, .int .i64 st.h, .int .i64 st.i, .int .i64 st.s, .bool st.z, .int .i64 st.o, .int .i64 n] 0), (45, .list 1 L.length (cC L)), (46, .int .i64 (L.length : Nat)), (47, .int .i64 (k : Nat))]) (fun _ => []) (fun k => k ≤ bV L) (fun k => L.length - k) 0 ?_ ak rfl ?_
   ·exact Nat.zero_le _
   intro k hk
   have hnl := kR L
   refine xw ?_
   repeat' (first | exact Le.n | refine Lc.mk ?_ ?_)
   all_goals intros
   all_goals try first
    | (apply al; rw [if_pos (yW (by omega) hk (by omega))]; rfl)
    | exact nxt (k + 1) (uD (by omega) hk (by omega)) (by omega) ak rfl
   rw [if_neg (by omega)]
   refine lp hC hGL (fun k : Nat => [(57, .list 1 L.length (cC L)), (58, .int .i64 (L.length : Nat)), (59, .int .i64 (k : Nat))]) (fun _ => []) (fun k => k ≤ L.length ∧ hdK L k) (fun k => L.length - k) 0 ?_ ak rfl ?_
   ·exact ⟨Nat.zero_le _, fun i hi => absurd hi (Nat.not_lt_zero _)⟩
   rintro i ⟨hi, hK⟩
   refine xw ?_
   repeat' (first | exact Le.n | refine Lc.mk ?_ ?_)
   all_goals intros
   all_goals try (apply al; rw [zc (by omega) hK]; rfl)
   ·refine lp hC hGL (fun j : Nat => [(57, .list 1 L.length (cC L)), (58, .int .i64 (L.length : Nat)), (59, .int .i64 (i : Nat)), (63, .list 1 (L.getD i []).length (aG (L.getD i []))), (64, .int .i64 ((L.getD i []).length : Nat)), (65, .int .i64 (j : Nat))]) (fun _ => []) (fun j => j ≤ (L.getD i []).length ∧ hdJ (L.getD i []) j) (fun j => (L.getD i []).length - j) 0 ?_ ak rfl ?_
    ·exact ⟨Nat.zero_le _, fun i hi => absurd hi (Nat.not_lt_zero _)⟩
    rintro j ⟨hj, hJ⟩
    have hri := hr i
    refine xw ?_
    repeat' (first | exact Le.n | refine Lc.mk ?_ ?_)
    all_goals intros
    all_goals first
     | (apply al; rw [zb (k := i) (by omega) (zd (j := j) (by omega) (by assumption))]; rfl)
     | exact nxt (j + 1) ⟨by omega, uX hJ (by assumption)⟩ (by omega) ak rfl
     | exact nxt (i + 1) ⟨by omega, uW hK (ze (by omega) hJ)⟩ (by omega) ak rfl
end
section
open Go Go.RowKit
attribute [local irreducible] AWp AOps aa az OrOk ad ah
theorem Ey {P : Program} [Tab P] {C : Ctx} {n : Nat} {env : Env} {H : Heap} {Q : AExit → Env → Heap → Prop} {c : Code} (k : Lp P C n c env [] Q) : Lp P C n c env H Q :=
 Ha (fun R _ _ hm hf => ⟨R, Seal.le_refl R, hm.drop (List.nil_sublist _), hf⟩) k
theorem Cl {v : Vl} {z : Bool} (hz : fW v.st = z) : v.only = true ↔ (v.s.length = 0 ∨ v.t = 1 ∨ v.t = 4 ∨ v.t = 7 ∨ v.t = 8) ∧ (v.L.length = 0 ∨ v.t = 2 ∨ v.t = 3) ∧ ((if z then 0 else 1 : Int) = 0 ∨ v.t = 5) ∧ (v.n = 0 ∨ v.t = 6) := by
 unfold Vl.only
 rw [hz, decide_eq_true_eq]
 cases z <;> simp
theorem Vl.E_out {v : Vl} (h : v.t < 1 ∨ 9 ≤ v.t) : v.E = .errno 1 := Vl.E_bad (h.elim .inl (fun k => .inr (.inl k)))
theorem Vl.E_no {v : Vl} (h : ¬ v.only = true) : v.E = .errno 1 := Vl.E_bad (.inr (.inr (by simpa using h)))
attribute [local irreducible] hdC hdB badI fW Vl.only uriE ca Stm.e zrB bV hdL
theorem ix {G : Glo} {m : Int} (hU : ad G utfTy) (hM : ad G (bI m)) (v : Vl) (hv : v.OK) (hl : v.s.length ≤ 3000) (h3 : FnIs Tryz.prog G 88 [v.st.A] (.int .i64 v.st.e)) : FnIs Tryz.prog G 47 [v.A] (.int .i64 v.E.e) := by
 have h1 := sd (G := G) v.s (by omega)
 have h4 := fM (G := G) v.n
 have h5 := jG hM v.s hl
 have h7 := lX hU v.s true (by omega)
 have h8 := lX hU v.s false (by omega)
 have k1 := fun k j (_ : (0 : Int) ≤ 0) => lX hU ((v.L.getD k []).getD j []) true (hv.l k j)
 have hW := cr (G := G) v.t 1 8
 have hz := nK v.st
 have hz0 : andL [eqB 0 0, eqB 0 0, eqB 0 0, eqB 0 0, eqB 0 0, eqB 0 0, false == false, eqB 0 0] = true := by rw [nK ⟨0, 0, 0, 0, 0, 0, false, 0⟩]; unfold fW; rfl
 have hn := hv.n
 have hr := hv.r
 by_cases ht : v.t < 1 ∨ 9 ≤ v.t
 ·rw [show (decide (1 ≤ v.t) && decide (v.t ≤ 8)) = false by rw [← Bool.not_eq_true, Bool.and_eq_true, decide_eq_true_eq, decide_eq_true_eq]; omega] at hW
  rw [Vl.E_out ht]
  have hGL : ad G [] := ab
  refine fn_x Tryz.func47 Tryz.call47 rfl rfl rfl rfl hGL ?_
  intro C hC
  exact xw0
 rw [show (decide (1 ≤ v.t) && decide (v.t ≤ 8)) = true by rw [Bool.and_eq_true, decide_eq_true_eq, decide_eq_true_eq]; omega] at hW
 have hO := Cl (v := v) rfl
 cases hq : fW v.st
 all_goals
  rw [hq] at hz hO
  simp only [if_true, if_false, Bool.false_eq_true, true_or, true_and] at hO
  have hGL : ad G [] := ab
  refine fn_x Tryz.func47 Tryz.call47 rfl rfl rfl rfl hGL ?_
  intro C hC
  refine xw ?_
  repeat' (first | exact Le.n | refine Lc.mk ?_ ?_)
  all_goals intros
  all_goals first
   | (refine aI hC hGL (qv _ rfl rfl rfl rfl (by kernel_rfl) (by kernel_rfl) (by kernel_rfl) rfl hz) rfl rfl ?_; refine xw ?_)
   | (refine aI hC hGL (qv _ rfl rfl rfl rfl (by kernel_rfl) (by kernel_rfl) (by kernel_rfl) rfl hz0) rfl rfl ?_; refine xw ?_)
   | skip
  repeat' (first | exact Le.n | refine Lc.mk ?_ ?_)
  all_goals intros
  all_goals try first
   | (apply al; rw [Vl.E_no (fun k => by have := hO.1 k; omega)]; rfl)
   | (apply al; rw [Vl.E_4 (hO.2 (by omega)) (by assumption), Err.b_e]; done)
   | (apply al; rw [Vl.E_5 (hO.2 (by omega)) (by assumption), Stm.E_e]; done)
   | (apply al; rw [Vl.E_7 (hO.2 (by omega)) (by assumption), Err.b_e]; done)
   | (apply al; rw [Vl.E_6 (hO.2 (by omega)) (by assumption)]; unfold zprE; rw [show zrB v.n = true by assumption]; rfl)
   | (apply al; rw [Vl.E_6 (hO.2 (by omega)) (by assumption)]; unfold zprE; rw [show zrB v.n = false by assumption]; rfl)
   | (apply al; rw [Vl.E_p (hO.2 (by omega)) (by omega), yN (by omega)]; rfl)
   | (apply al; rw [Vl.E_rest (hO.2 (by omega)) (by omega) (by omega) (by omega) (by omega) (by omega) (by omega) (by omega) (by omega)]; first
     | (rw [show decide (v.t = 1) = true from decide_eq_true (by omega), show hdB true v.s = true by assumption]; rfl)
     | (rw [show decide (v.t = 1) = true from decide_eq_true (by omega), show hdB true v.s = false by assumption]; rfl)
     | (rw [show decide (v.t = 1) = false from decide_eq_false (by omega), show hdB false v.s = true by assumption]; rfl)
     | (rw [show decide (v.t = 1) = false from decide_eq_false (by omega), show hdB false v.s = false by assumption]; rfl))
  all_goals
   rw [Vl.E_p (hO.2 (by omega)) (by omega), yO (by omega)]
   refine Ey ?_
   refine lp hC hGL (fun x : Nat × Bool => [(4, .bool x.2), (71, .list 1 v.L.length (cC v.L)), (72, .int .i64 (v.L.length : Nat)), (73, .int .i64 (x.1 : Nat))]) (fun _ => []) (fun x => x.1 ≤ bV v.L ∧ (x.2 = false → hdK v.L x.1) ∧ (x.2 = true → hdL v.L = false)) (fun x => v.L.length - x.1) (0, false) ?_ ak rfl ?_
   ·exact ⟨Nat.zero_le _, fun _ i hi => absurd hi (Nat.not_lt_zero _), fun h => by cases h⟩
   rintro ⟨k, b⟩ ⟨hk, hb1, hb2⟩
   dsimp only at hk hb1 hb2
   have hnl := kR v.L
   refine xw ?_
   repeat' (first | exact Le.n | refine Lc.mk ?_ ?_)
   all_goals intros
   all_goals try dsimp only at *
   all_goals try first
    | (apply al; rw [if_pos (yW (k := k) (by omega) hk (by omega))]; rfl)
    | (apply al; rw [if_neg (by omega), hb2 (by assumption)]; rfl)
    | (apply al; rw [if_neg (by omega), zc (by omega) (hb1 (by assumption))]; rfl)
   refine lp hC hGL (fun x : Nat × Bool => [(4, .bool x.2), (71, .list 1 v.L.length (cC v.L)), (72, .int .i64 (v.L.length : Nat)), (73, .int .i64 (k : Nat)), (80, .list 1 (v.L.getD k []).length (aG (v.L.getD k []))), (81, .int .i64 ((v.L.getD k []).length : Nat)), (82, .int .i64 (x.1 : Nat))]) (fun _ => []) (fun x => x.1 ≤ (v.L.getD k []).length ∧ (x.2 = false → hdK v.L k ∧ hdJ (v.L.getD k []) x.1) ∧ (x.2 = true → hdL v.L = false)) (fun x => (v.L.getD k []).length - x.1) (0, b) ?_ ak rfl ?_
   ·exact ⟨Nat.zero_le _, fun h => ⟨hb1 h, fun i hi => absurd hi (Nat.not_lt_zero _)⟩, hb2⟩
   rintro ⟨j, c⟩ ⟨hj, hc1, hc2⟩
   dsimp only at hj hc1 hc2
   have hrk := hr k
   refine xw ?_
   repeat' (first | exact Le.n | refine Lc.mk ?_ ?_)
   all_goals intros
   all_goals try dsimp only at *
   all_goals first
    | (refine nxt (k + 1, c) ⟨uD (by omega) hk (by omega), fun h => uW (hc1 h).1 (ze (by omega) (hc1 h).2), hc2⟩ (by dsimp only; omega) ak rfl)
    | (refine nxt (j + 1, true) ⟨by dsimp only; omega, fun h => Bool.noConfusion h, fun _ => hc2 (by assumption)⟩ (by dsimp only; omega) ak rfl)
    | (refine nxt (j + 1, !(hdB true ((v.L.getD k []).getD j []))) ⟨by dsimp only; omega, fun h => ⟨(hc1 (by assumption)).1, uX (hc1 (by assumption)).2 (by simpa using h)⟩, fun h => zb (k := k) (by omega) (zd (j := j) (by omega) (by simpa using h))⟩ (by dsimp only; omega) ak rfl)
end
section
open Go Go.RowKit
attribute [local irreducible] AWp AOps aa az OrOk ad ah
theorem Vl.E_none {v : Vl} (h : v.E = .none) : v.only = true ∧ 1 ≤ v.t ∧ v.t < 9 := by
 by_cases h1 : v.t < 1 ∨ 9 ≤ v.t ∨ v.only = false
 ·rw [Vl.E_bad h1] at h; cases h
 ·refine ⟨?_, by omega, by omega⟩
  cases ho : v.only
  ·exact absurd (.inr (.inr ho)) h1
  ·rfl
theorem Vl.T_ok {v : Vl} (h : v.E = .none) : v.T = if v.t = 1 then escS v.s else if v.t = 2 ∨ v.t = 3 then cT v.L else if v.t = 5 then v.st.T else if v.t = 6 then zprS v.n else v.s := by
 unfold Vl.T
 rw [h]
theorem Vl.T_no {v : Vl} (h : v.E ≠ .none) : v.T = [] := by
 unfold Vl.T
 split
 ·rename_i k; exact absurd k h
 ·rfl
theorem uQ {t : Int} {L : List (List (List UInt8))} (h : ptsE t L = .none) : dp L = .none := by
 unfold ptsE at h
 unfold dp
 split at h
 ·cases h
 ·split at h
  ·cases h
  ·rename_i h1 h2
   rw [if_neg (fun k => h1 (.inl (by rw [k]; rfl))), if_neg h2]
theorem Vl.right {v : Vl} (h : v.E = .none) : (v.t = 2 ∨ v.t = 3 → dp v.L = .none) ∧ (v.t = 5 → v.st.E = .none) ∧ (v.t = 6 → zprE v.n = .none) := by
 obtain ⟨ho, _, _⟩ := Vl.E_none h
 refine ⟨fun k => ?_, fun k => ?_, fun k => ?_⟩
 ·rw [Vl.E_p ho k] at h; exact uQ h
 ·rwa [Vl.E_5 ho k] at h
 ·rwa [Vl.E_6 ho k] at h
theorem T_1 {v : Vl} (h : v.E = .none) (k : v.t = 1) : v.T = escS v.s := by rw [Vl.T_ok h, if_pos k]
theorem T_2 {v : Vl} (h : v.E = .none) (k : v.t = 2 ∨ v.t = 3) : v.T = cT v.L := by rw [Vl.T_ok h, if_neg (by omega), if_pos k]
theorem T_5 {v : Vl} (h : v.E = .none) (k : v.t = 5) : v.T = v.st.T := by rw [Vl.T_ok h, if_neg (by omega), if_neg (by omega), if_pos k]
theorem T_6 {v : Vl} (h : v.E = .none) (k : v.t = 6) : v.T = zprS v.n := by rw [Vl.T_ok h, if_neg (by omega), if_neg (by omega), if_neg (by omega), if_pos k]
theorem T_s {v : Vl} (h : v.E = .none) (a : v.t ≠ 1) (b : v.t ≠ 2) (c : v.t ≠ 3) (d : v.t ≠ 5) (e : v.t ≠ 6) : v.T = v.s := by rw [Vl.T_ok h, if_neg a, if_neg (by omega), if_neg d, if_neg e]
attribute [local irreducible] Vl.E Vl.T cT dp zprS zprE Stm.T Stm.E Stm.e escS escF
theorem tt {G : Glo} (v : Vl) (hR : FnIs Tryz.prog G 56 [v.A] v.E.A) (hE : FnIs Tryz.prog G 109 [.str v.s] (.str (escS v.s)))
  (hJ : FnIs Tryz.prog G 110 [.list 1 v.L.length (cC v.L)] (.tuple [.str (cT v.L), (dp v.L).A])) (hP : FnIs Tryz.prog G 111 [v.st.A] (.tuple [.str v.st.T, v.st.E.A])) :
  FnIs Tryz.prog G 57 [v.A] (.tuple [.str v.T, v.E.A]) := by
 have hZ := nJ (G := G) v.n
 rcases hq : v.E with _ | e | ⟨e, p⟩
 ·obtain ⟨r1, r2, r3⟩ := Vl.right hq
  have t1 := T_1 hq
  have t2 := T_2 hq
  have t5 := T_5 hq
  have t6 := T_6 hq
  have ts := T_s hq
  rw [hq] at hR
  have hGL : ad G [] := ab
  refine fn_x Tryz.func57 Tryz.call57 rfl rfl rfl rfl hGL ?_
  intro C hC
  refine xw ?_
  repeat' (first | exact Le.n | refine Lc.mk ?_ ?_)
  all_goals intros
  all_goals first
   | (apply al; rw [t1 (by assumption)] <;> rfl)
   | (apply al; rw [t2 (by omega), r1 (by omega)] <;> rfl)
   | (apply al; rw [t5 (by assumption), r2 (by assumption)] <;> rfl)
   | (apply al; rw [t6 (by assumption), r3 (by assumption)] <;> rfl)
   | (apply al; rw [ts (by assumption) (by assumption) (by assumption) (by assumption) (by assumption)] <;> rfl)
 ·rw [Vl.T_no (by rw [hq]; exact fun k => by cases k)]
  rw [hq] at hR
  have hGL : ad G [] := ab
  refine fn_x Tryz.func57 Tryz.call57 rfl rfl rfl rfl hGL ?_
  intro C hC
  exact xw0
 ·rw [Vl.T_no (by rw [hq]; exact fun k => by cases k)]
  rw [hq] at hR
  have hGL : ad G [] := ab
  refine fn_x Tryz.func57 Tryz.call57 rfl rfl rfl rfl hGL ?_
  intro C hC
  exact xw0
theorem oq {G : Glo} (v : Vl) (hR : FnIs Tryz.prog G 47 [v.A] (.int .i64 v.E.e)) (hE : FnIs Tryz.prog G 90 [.str v.s] (.str (escS v.s)))
  (hJ : FnIs Tryz.prog G 91 [.list 1 v.L.length (cC v.L)] (.tuple [.str (cT v.L), .agg [.int .i64 (dp v.L).e, .int .i64 (dp v.L).p]])) (hP : FnIs Tryz.prog G 92 [v.st.A] (.tuple [.str v.st.T, .int .i64 v.st.e]))
  (h0 : v.E.e = 0 → v.E = .none) : FnIs Tryz.prog G 48 [v.A] (.tuple [.str v.T, .int .i64 v.E.e]) := by
 have hZ := jE (G := G) v.n
 by_cases hq : v.E = .none
 ·obtain ⟨r1, r2, r3⟩ := Vl.right hq
  have t1 := T_1 hq
  have t2 := T_2 hq
  have t5 := T_5 hq
  have t6 := T_6 hq
  have ts := T_s hq
  have r4 : v.t = 5 → v.st.e = 0 := fun k => by rw [← Stm.E_e, r2 k]; rfl
  rw [hq] at hR ⊢
  have hR : FnIs Tryz.prog G 47 [v.A] (.int .i64 0) := hR
  have e0 : (Err.none).e = 0 := rfl
  rw [e0]
  have hGL : ad G [] := ab
  refine fn_x Tryz.func48 Tryz.call48 rfl rfl rfl rfl hGL ?_
  intro C hC
  refine xw ?_
  repeat' (first | exact Le.n | refine Lc.mk ?_ ?_)
  all_goals intros
  all_goals first
   | (apply al; rw [t1 (by assumption)] <;> rfl)
   | (apply al; rw [t2 (by omega)] <;> rfl)
   | (apply al; rw [t5 (by assumption), r4 (by assumption)] <;> rfl)
   | (apply al; rw [t6 (by assumption), r3 (by assumption)] <;> rfl)
   | (apply al; rw [ts (by assumption) (by assumption) (by assumption) (by assumption) (by assumption)] <;> rfl)
 ·have hne : v.E.e ≠ 0 := fun k => hq (h0 k)
  rw [Vl.T_no hq]
  have hGL : ad G [] := ab
  refine fn_x Tryz.func48 Tryz.call48 rfl rfl rfl rfl hGL ?_
  intro C hC
  exact xw0
end
section
open Go Go.RowKit
attribute [local irreducible] AWp AOps aa az OrOk ad ah
theorem Aq {l : List (List UInt8)} {j : Nat} (h : j < l.length) : Lib.lens (l.take (j + 1)) = Lib.lens (l.take j) + (l.getD j []).length :=
 Lib.lens_take_succ l j _ (by rw [List.getD_eq_getElem?_getD, List.getElem?_eq_getElem h]; rfl)
theorem Gb (t : Int) (L : List (List (List UInt8))) : (ptsE t L).p = -1 := by unfold ptsE; (repeat' split) <;> rfl
theorem Vl.E_at (v : Vl) : v.E.p = -1 := by
 unfold Vl.E
 (repeat' split)
 ·rfl
 ·exact Gb _ _
 ·exact Err.b_p _
 ·exact Stm.E_p _
 ·unfold zprE; split <;> rfl
 ·exact Err.b_p _
 ·rfl
 ·rfl
theorem FG (s : List UInt8) (h : (uriE s).e = 0) : uriE s = .none := by
 unfold uriE at h ⊢
 (repeat' split at h) <;> first | (exfalso; revert h; simp [Err.e]; done) | (rename_i h1 h2 h3; rw [if_neg h1, if_neg h2, if_neg h3])
theorem y5 : ∀ (l : List (List UInt8)) (b : Bool) (a : Nat), (cE b a l).e = 0 → cE b a l = .none
 | [], _, _, _ => rfl
 | x :: xs, b, a, h => by
  rw [oR] at h ⊢
  split at h
  ·rename_i k
   rw [if_pos k]
   exact y5 xs _ _ h
  ·rename_i k
   exfalso
   revert h k
   unfold ct
   (repeat' split) <;> simp [Err.e, Err.isNone]
theorem Err.b_none {x : Err} (h : x.e = 0 → x = .none) (k : x.b.e = 0) : x.b = .none := by
 rw [Err.b_e] at k
 rw [h k]
 rfl
theorem Vl.E_zero (v : Vl) (h : v.E.e = 0) : v.E = .none := by
 revert h
 unfold Vl.E
 (repeat' split)
 ·intro h; cases h
 ·unfold ptsE; (repeat' split) <;> intro h <;> first | rfl | cases h
 ·exact Err.b_none (FG _)
 ·unfold Stm.E; (repeat' split) <;> intro h <;> first | rfl | cases h
 ·unfold zprE; (repeat' split) <;> intro h <;> first | rfl | cases h
 ·exact Err.b_none (y5 _ _ _)
 ·intro _; rfl
 ·intro h; cases h
attribute [local irreducible] Vl.E Vl.T hdB
theorem Aw {G : Glo} (v : Vl) (hs : v.s.length ≤ 2000000) (hL : Small v.L) : ah Tryz.prog G 18 [v.A] [] (fun r H => (∃ a, r = .ret a ∧ ∃ b, a = .bool b ∧ (b = false → v.s.length ≤ 2500)) ∧ H = []) := by
 have hn := hL.n
 have hGL : ad G [] := ab
 refine fn_x Tryz.func18 Tryz.call18 rfl rfl rfl rfl hGL ?_
 intro C hC
 refine xw1 ?_
 refine lp hC hGL (fun x : Nat × Nat => [(3, .int .i64 (x.2 : Nat)), (16, .list 1 v.L.length (cC v.L)), (17, .int .i64 (v.L.length : Nat)), (18, .int .i64 (x.1 : Nat))]) (fun _ => []) (fun x => x.1 ≤ v.L.length ∧ v.s.length ≤ x.2 ∧ x.2 ≤ v.s.length + v.L.length + 4000000 * x.1) (fun x => v.L.length - x.1) (0, v.s.length + v.L.length) ?_ ak rfl ?_
 ·exact ⟨Nat.zero_le _, Nat.le_add_right _ _, Nat.le_refl _⟩
 rintro ⟨k, n⟩ ⟨h1, h2, h3⟩
 dsimp only at h1 h2 h3
 have hk := hL.k k
 refine xw ?_
 repeat' (first | exact Le.n | refine Lc.mk ?_ ?_)
 all_goals intros
 ·refine lp hC hGL (fun x : Nat × Nat => [(3, .int .i64 (x.2 : Nat)), (16, .list 1 v.L.length (cC v.L)), (17, .int .i64 (v.L.length : Nat)), (18, .int .i64 (k : Nat)), (26, .list 1 (v.L.getD k []).length (aG (v.L.getD k []))), (27, .int .i64 ((v.L.getD k []).length : Nat)), (28, .int .i64 (x.1 : Nat))]) (fun _ => []) (fun x => x.1 ≤ (v.L.getD k []).length ∧ v.s.length ≤ x.2 ∧ x.2 ≤ v.s.length + v.L.length + 4000000 * k + 2000000 + Lib.lens ((v.L.getD k []).take x.1)) (fun x => (v.L.getD k []).length - x.1) (0, n + (v.L.getD k []).length) ?_ ak rfl ?_
  ·exact ⟨Nat.zero_le _, by dsimp only; omega, by dsimp only; omega⟩
  rintro ⟨j, q⟩ ⟨g1, g2, g3⟩
  dsimp only at g1 g2 g3
  have hj1 := Lib.lens_take_le (v.L.getD k []) j
  have hj2 := Lib.lens_take_le (v.L.getD k []) (j + 1)
  have hj3 : j < (v.L.getD k []).length → Lib.lens ((v.L.getD k []).take (j + 1)) = Lib.lens ((v.L.getD k []).take j) + ((v.L.getD k []).getD j []).length := fun h => Aq h
  refine xw ?_
  repeat' (first | exact Le.n | refine Lc.mk ?_ ?_)
  all_goals intros
  all_goals try dsimp only at *
  ·refine nxt (j + 1, q + ((v.L.getD k []).getD j []).length) ⟨by dsimp only; omega, by dsimp only; omega, ?_⟩ (by dsimp only; omega) ak rfl
   dsimp only
   rw [hj3 (by omega)]
   omega
  ·exact nxt (k + 1, q) ⟨by dsimp only; omega, by dsimp only; omega, by dsimp only; omega⟩ (by dsimp only; omega) ak rfl
 ·refine ⟨[], List.nil_sublist _, ⟨_, rfl, _, rfl, fun h => ?_⟩, rfl⟩
  have h := g9.1 h
  dsimp only at h
  omega
end
section
open Go
theorem Tryz.own : ownKnob Tryz.prog.godebug = none := by kernel_rfl
def ay (W : World) (k : Nat) : Seal := fun b => if b < k then W.heap[b]? else none
theorem gC (W : World) (k : Nat) : cI (ay W k) W := by
 intro b o h
 unfold ay at h
 split at h
 ·exact h
 ·cases h
theorem Cr (W : World) (R : Seal) (G : Glo) (hG : G.p R) (hs : cI R W) : MS ⟨W, R, blks [], G, hG, []⟩ R [] W :=
 ⟨hs, Seal.le_refl R, fun _ hb => .inl hb, ⟨fun _ h => absurd h List.not_mem_nil, List.nodup_nil, fun _ h => absurd h List.not_mem_nil⟩, fun _ h => absurd h List.not_mem_nil, Ext.refl W _⟩
theorem oT {W W' : World} (h : Ext W [] W') (may : MemPlace → Prop) : W.keptBut W' may := by
 refine ⟨h.os, h.output, fun i hi => ?_⟩
 rw [h.block i hi (by simp)]
 generalize W.heap[i]? = o
 cases o with
 | none => rfl
 | some o =>
  cases o with
  | cells c t fr => exact ⟨rfl, rfl, rfl, fun _ _ => rfl⟩
  | map es clock => exact .inr ⟨rfl, rfl⟩
  | _ => rfl
end
section
open Go
theorem nO {P : Program} {w : World} {n : String} {g : Nat} {cs : Array Value} (hg : P.globalNamed n = some g) (hv : w.var? P n = some cs) : ∃ e fz, w.heap[g]? = some (.cells cs e fz) := by
 simp only [World.var?, hg, Option.bind_some] at hv
 split at hv
 ·rename_i c e fz hh
  cases hv
  exact ⟨_, _, hh⟩
 ·cases hv
def Ft (L : List (Nat × List AVal)) : Glo := ⟨fun R => ∀ x, x ∈ L → bY R x.1 0 x.2, fun _ _ hle h x hx => by
 obtain ⟨C, e, fz, h1, h2⟩ := h x hx
 exact ⟨C, e, fz, hle _ _ h1, ci hle _ _ h2⟩⟩
theorem o8 : ∀ (L : List (Nat × List AVal)) {g : Nat} {cs : List AVal}, iH L g = some cs → (g, cs) ∈ L
 | [], _, _, h => by simp [iH] at h
 | (k, c) :: r, g, cs, h => by
  unfold iH at h
  split at h
  ·rename_i e
   obtain rfl := Nat.eq_of_beq_eq_true e
   cases h
   exact List.mem_cons_self
  ·exact List.mem_cons_of_mem _ (o8 r h)
theorem jj {L L' : List (Nat × List AVal)} (h : ∀ x, x ∈ L' → x ∈ L) : ad (Ft L) L' := fun g cs hg R hR => hR (g, cs) (h _ (o8 L' hg))
theorem di {W : World} {k g : Nat} {C : Array Value} {e : TypeId} {fz : Nat × Nat} {cs : List AVal} (hk : g < k) (hW : W.heap[g]? = some (.cells C e fz)) (h : RelL (ay W k) cs (C.toList.take cs.length)) : bY (ay W k) g 0 cs :=
 ⟨C, e, fz, by unfold ay; rw [if_pos hk]; exact hW, by rw [List.drop_zero]; exact h⟩
theorem oi : ∀ ty, ty < Tryz.prog.types.size → Tryz.prog.rowNamed ty [101, 114, 114, 111, 114] = true → ty = 38 := by
 have h : ((List.range Tryz.prog.types.size).all fun ty => !Tryz.prog.rowNamed ty [101, 114, 114, 111, 114] || Nat.beq ty 38) = true := by kernel_rfl
 intro ty h1 h2
 have := List.all_eq_true.1 h ty (List.mem_range.2 h1)
 rw [h2] at this
 exact Nat.eq_of_beq_eq_true (by simpa using this)
theorem xM {W : World} {k : Nat} (hk : 1 < k) {laid : List (String × DataW Unit)} (hL : laidMetH Tryz.prog laid W) (hm : ("errors.errorType", Rows.laid_errors_errorType) ∈ laid) : bY (ay W k) 1 0 [rty 38] := by
 have h := (laidMetH_iff.1 hL).2 _ (List.mem_filter.2 ⟨hm, by kernel_rfl⟩)
 have h : ∃ name u ty, (Rows.laid_errors_errorType (H := Unit)).handleName? = some name ∧ (Tryz.prog.cutTypes.find? (·.1 == "internal/reflectlite.rtype")).map (·.2) = some u ∧ ty < Tryz.prog.types.size ∧ Tryz.prog.rowNamed ty name = true ∧
   W.var? Tryz.prog "errors.errorType" = some #[.iface u (.agg #[typeHandle Tryz.prog ty])] := h
 obtain ⟨name, u, ty, h1, h2, h3, h4, h5⟩ := h
 obtain rfl : [101, 114, 114, 111, 114] = name := Option.some.inj ((show (Rows.laid_errors_errorType (H := Unit)).handleName? = some [101, 114, 114, 111, 114] by kernel_rfl).symm.trans h1)
 obtain rfl : 242 = u := Option.some.inj ((show (Tryz.prog.cutTypes.find? (·.1 == "internal/reflectlite.rtype")).map (·.2) = some 242 by kernel_rfl).symm.trans h2)
 obtain rfl := oi ty h3 h4
 obtain ⟨e, fz, hh⟩ := nO (show Tryz.prog.globalNamed "errors.errorType" = some 1 by kernel_rfl) h5
 exact di hk hh ⟨_, _, rfl, (kJ _).1, rfl⟩
noncomputable def fD (os : Os) : World :=
 let w0 := World.holding Tryz.prog os ⟨#[], #[], []⟩
 { w0 with heap := w0.heap.modify 1 fun
   | .cells _ t frozen => .cells #[.iface 242 (.agg #[hdl 38])] t frozen
   | o => o }
def dO (laid : List (String × DataW Unit)) : List (String × DataW Unit) := laid.filter fun x => x.2.handleName?.isNone
noncomputable def bj (os : Os) (laid : List (String × DataW Unit)) : World := (fD os).layVars Tryz.prog (dO laid)
theorem fO (os : Os) (laid : List (String × DataW Unit)) : (bj os laid).os = os := World.layVars_os _ _ _
theorem fa {os : Os} {laid : List (String × DataW Unit)} (args : Array Value) (hf : (fD os).layFits Tryz.prog (dO laid) [] = true) (hi : (fD os).layIfaces Tryz.prog (dO laid) (bj os laid) = true)
  (hh : ((laid.filter fun x => x.2.handleName?.isSome).all (handleAtB Tryz.prog ((bj os laid).forCall (fun _ _ => 0) ⟨#[], args, []⟩).memory)) = true) :
  laidMetH Tryz.prog laid ((bj os laid).forCall (fun _ _ => 0) ⟨#[], args, []⟩).memory := by
 refine laidMetH_of_parts ?_ hh
 have e1 : ((dO laid).filter fun x => ((dO laid).map (·.1)).contains x.1) = dO laid := List.filter_eq_self.2 fun x hx => List.contains_iff_mem.2 (List.mem_map.2 ⟨x, hx, rfl⟩)
 have e2 : ((dO laid).filter fun x => !((dO laid).map (·.1)).contains x.1) = [] := List.filter_eq_nil_iff.2 fun x hx => by rw [List.contains_iff_mem.2 (List.mem_map.2 ⟨x, hx, rfl⟩)]; simp
 have h : laidMet Tryz.prog (dO laid) (bj os laid) := laidMet_layVars (w0 := fD os) ((dO laid).map (·.1)) [] (by rw [e1]; rfl) (by rw [e1]; exact hf) (by rw [e1]; exact hi) (by rw [e2]; exact LaidIn.none)
 exact h.of_heap (by simp [World.memory, World.forCall, Input.heap])
theorem GB {W : World} {laid : List (String × DataW Unit)} (hL : laidMetH Tryz.prog laid W) (hm : ("errors.errorType", Rows.laid_errors_errorType) ∈ laid) : 1 < W.heap.size := by
 have h := (laidMetH_iff.1 hL).2 _ (List.mem_filter.2 ⟨hm, by kernel_rfl⟩)
 obtain ⟨name, u, ty, h1, h2, h3, h4, h5⟩ := h
 obtain ⟨e, fz, hh⟩ := nO (show Tryz.prog.globalNamed "errors.errorType" = some 1 by kernel_rfl) h5
 exact (Array.getElem?_eq_some_iff.1 hh).1
theorem mf {P : Program} {G : Glo} {f : FuncId} {avs : List AVal} {c : Bool} {args : Array Value} {W : World} {R : Seal} (hs : FnIs P G f avs (.bool c)) (hc : (callFunc f args).run P W = .ok (.enter f args) W)
  (hG : G.p R) (hR : cI R W) (ha : RelV R avs args.toList) : Calls P f args W fun e W' => e = .returned (.bool c) ∧ (∀ may, W.keptBut W' may) ∧ Go.RowKit.Below W.heap.size W W' := by
 rcases hs R W args hG (Cr W R G hG hR) ha with ⟨_, h⟩ | ⟨v, w', h, _⟩
 ·refine h.mono fun e W' ⟨res, H', R', ⟨hr, hH⟩, he, hm⟩ => ?_
  subst hr
  obtain ⟨x, rfl, hx⟩ := he
  refine ⟨by rw [aE.1 hx], fun may => oT hm.ext may, ⟨hm.ext.os, hm.ext.tape, hm.ext.output, hm.ext.size, fun k hk => hm.ext.block k hk (fun h => absurd h List.not_mem_nil)⟩⟩
 ·rw [hc] at h
  cases h
end
section
open Go
theorem x9 {α β : Type} (k : Nat) (E : α → List β) (hE : ∀ z, (E z).length = k) : ∀ (zs : List α) (cs : List β), cs.length = zs.length * k →
  (∀ i z, zs[i]? = some z → (cs.drop (i * k)).take k = E z) → cs = zs.flatMap E
 | [], cs, hl, _ => by
  simp only [List.length_nil, Nat.zero_mul] at hl
  simp [List.eq_nil_of_length_eq_zero hl]
 | z :: zs, cs, hl, h => by
  have h0 := h 0 z rfl
  simp only [Nat.zero_mul, List.drop_zero] at h0
  have hr := x9 k E hE zs (cs.drop k) (by rw [List.length_drop, hl, List.length_cons, Nat.succ_mul]; omega) (fun i y hy => by
   have := h (i + 1) y hy
   rw [List.drop_drop]
   rw [Nat.succ_mul, Nat.add_comm] at this
   exact this)
  rw [List.flatMap_cons, ← h0, ← hr, List.take_append_drop]
theorem lU {R : Seal} : ∀ (l : List (IntKind × Int)), RelL R (l.map fun x => .int x.1 x.2) (l.map fun x => .int x.1 x.2)
 | [] => rfl
 | _ :: l => ⟨_, _, rfl, rfl, lU l⟩
section
variable {P : Program} {H : Type} {enc : TypeId × Value → H} {w : World} {base : Nat} {spare : Nat → Bool} {held : Bool}
theorem lD {t e n fuel : Nat} {k : IntKind} {cs : List Value} {ps : List MemPlace} {zs : List Nat} (ht : P.underlying t = some (.array n e)) (he : P.underlying e = some (.int k)) (hc : P.cellsOf e = 1) (hct : P.cellsOf t = n)
  (h : DataW.trod enc P w base spare held fuel t cs = some (.agg (zs.map fun x : Nat => .lit (.int k (x : Int))), ps)) (hz : zs.length = n) : cs = zs.flatMap fun x : Nat => [Value.int k (x : Int)] := by
 obtain ⟨xs, m, _, ex, hl, hxl, hel⟩ := DataW.trod_array ht h
 have e3 : (xs.map (·.1)) = zs.map fun x : Nat => .lit (.int k x) := (DataW.agg.inj (Prod.mk.inj ex).1).symm
 refine x9 1 _ (fun _ => rfl) zs cs (by omega) (fun i z hi => ?_)
 have hin : i < zs.length := (List.getElem?_eq_some_iff.1 hi).1
 have hE := hel i (by omega)
 rw [hc, List.getElem?_eq_getElem (by omega)] at hE
 obtain ⟨y, e1, e2, _⟩ := DataW.trod_int he hE
 have e4 : (xs.map (·.1))[i]? = (zs.map fun x : Nat => (DataW.lit (.int k x) : DataW H))[i]? := by rw [e3]
 rw [List.getElem?_map, List.getElem?_map, List.getElem?_eq_getElem (by omega : i < xs.length), hi, e2] at e4
 simp only [Option.map_some, Option.some.injEq, DataW.lit.injEq, Lit.int.injEq, true_and] at e4
 rw [e1, e4]
end
theorem gM {P : Program} {W : World} {laid : List (String × DataW Unit)} (hL : laidMetH P laid W) {n : String} {d : DataW Unit} (hm : (n, d) ∈ laid) (hn : d.handleName?.isNone = true) {g : Nat} {t : TypeId} (hg : P.globalNamed n = some g) (ht : (P.globals[g]?).map (·.type) = some t) :
  ∃ cs e fz fuel p, W.heap[g]? = some (.cells cs e fz) ∧ DataW.trod (fun _ => ()) P W 0 (fun _ => true) false fuel t cs.toList = some (d, p) := by
 have h1 := (laidMetH_iff.1 hL).1
 obtain ⟨ps, h, _⟩ := h1
 have key : ∀ (l : List (String × DataW Unit)) (ps : List MemPlace), DataW.LaidVars P W l ps → (n, d) ∈ l → ∃ cs e fz fuel p, W.heap[g]? = some (.cells cs e fz) ∧ DataW.trod (fun _ => ()) P W 0 (fun _ => true) false fuel t cs.toList = some (d, p) := by
  intro l
  induction l with
  | nil => intro ps _ hm; cases hm
  | cons a r ih =>
   obtain ⟨m, b⟩ := a
   rintro ps ⟨g', t', cs, fuel, p, q, e1, e2, e3, e4, e5, _⟩ hm
   rcases List.mem_cons.1 hm with hm | hm
   ·cases hm
    obtain rfl := Option.some.inj (hg.symm.trans e1)
    obtain rfl := Option.some.inj (ht.symm.trans e2)
    obtain ⟨e, fz, hh⟩ := nO hg e3
    exact ⟨cs, e, fz, fuel, p, hh, e4⟩
   ·exact ih q e5 hm
 exact key _ ps h (List.mem_filter.2 ⟨hm, hn⟩)
theorem oI {W : World} (h : W.ShapedOpen Tryz.prog) : ∃ m, W.cell? ⟨4, 0, none⟩ = some (.int .i64 m) :=
 cell_of_shapedOpen_int (t := 3) (zero := #[.int .i64 0]) h (of_decide_eq_true (by kernel_rfl)) (by kernel_rfl) rfl (by kernel_rfl) (by kernel_rfl) Tryz.underlying3
theorem wY {W : World} {k : Nat} (hk : 4 < k) {m : Int} (h : W.cell? ⟨4, 0, none⟩ = some (.int .i64 m)) : bY (ay W k) 4 0 [.int .i64 m] := by
 unfold World.cell? at h
 split at h
 ·rename_i C e fz hW
  refine di hk hW ?_
  have h : C[0]? = some (.int .i64 m) := h
  have h0 := (Array.getElem?_eq_some_iff.1 h)
  obtain ⟨hlt, h1⟩ := h0
  have e1 : C.toList.take 1 = [.int .i64 m] := by
   have hl : 0 < C.toList.length := by simpa using hlt
   have := List.take_succ_eq_append_getElem (l := C.toList) (i := 0) hl
   simp at this
   rw [show (1 : Nat) = 0 + 1 from rfl, List.take_succ_eq_append_getElem hl]
   simp [h1]
  show RelL _ _ (C.toList.take 1)
  rw [e1]
  exact ⟨_, _, rfl, rfl, rfl⟩
 ·cases h
def sE (A B : Glo) : Glo := ⟨fun R => A.p R ∧ B.p R, fun R R' h k => ⟨A.mono R R' h k.1, B.mono R R' h k.2⟩⟩
theorem kY {A B : Glo} {L : List (Nat × List AVal)} (h : ad A L) : ad (sE A B) L := fun g cs hg R hR => h g cs hg R hR.1
def CV : Glo := ⟨fun R => ∃ e fz, R 7 = some (.cells (Lib.pow10Tab.map fun z => Value.int .u64 z).toArray e fz), fun _ _ hle ⟨e, fz, h⟩ => ⟨e, fz, hle _ _ h⟩⟩
theorem Cb {W : World} {k : Nat} (hk : 7 < k) {laid : List (String × DataW Unit)} (hL : laidMetH Tryz.prog laid W) (hm : ("internal/strconv.uint64pow10", Rows.laid_internal_strconv_uint64pow10) ∈ laid) : CV.p (ay W k) := by
 obtain ⟨C, e, fz, fuel, p, hW, hd⟩ := gM hL hm (by kernel_rfl) (g := 7) (t := 277) (by kernel_rfl) (by kernel_rfl)
 have hc := lD (n := 20) (zs := (List.range 20).map (10 ^ ·)) Tryz.underlying277 Tryz.underlying233 (by kernel_rfl) (by kernel_rfl) hd (by simp)
 have e1 : C = (Lib.pow10Tab.map fun z => Value.int .u64 z).toArray := by
  apply Array.ext'
  rw [hc]
  unfold Lib.pow10Tab
  simp
  rfl
 refine ⟨e, fz, ?_⟩
 unfold ay
 rw [if_pos hk, hW, e1]
theorem iS {W : World} {g : Nat} {o : Obj} (h : W.heap[g]? = some o) : g < W.heap.size := (Array.getElem?_eq_some_iff.1 h).1
theorem nv {W : World} {laid : List (String × DataW Unit)} (hL : laidMetH Tryz.prog laid W) {n : String} {d : DataW Unit} (hm : (n, d) ∈ laid) (hn : d.handleName?.isNone = true) {g : Nat} {t : TypeId} (hg : Tryz.prog.globalNamed n = some g) (ht : (Tryz.prog.globals[g]?).map (·.type) = some t) : g < W.heap.size := by
 obtain ⟨_, _, _, _, _, hW, _⟩ := gM hL hm hn hg ht
 exact iS hW
end
section
open Go
section
variable {P : Program} {H : Type} {enc : TypeId × Value → H} {w : World} {base : Nat} {spare : Nat → Bool} {held : Bool}
theorem we {t e n fuel u : Nat} {k : IntKind} {f0 f1 : Field} {cs : List Value} {ps : List MemPlace} {zs : List (Nat × Nat)} (ht : P.underlying t = some (.array n e)) (he : P.underlying e = some (.struct #[f0, f1])) (hc : P.cellsOf e = 2) (hct : P.cellsOf t = n * 2)
  (hf0 : f0.type = u) (hf1 : f1.type = u) (ho0 : f0.offset = 0) (ho1 : f1.offset = 1) (hu : P.underlying u = some (.int k)) (hcu : P.cellsOf u = 1)
  (h : DataW.trod enc P w base spare held fuel t cs = some (.agg (zs.map fun x : Nat × Nat => .agg [.lit (.int k (x.1 : Int)), .lit (.int k (x.2 : Int))]), ps)) (hz : zs.length = n) : cs = zs.flatMap fun x : Nat × Nat => [Value.int k (x.1 : Int), Value.int k (x.2 : Int)] := by
 obtain ⟨xs, m, _, ex, hl, hxl, hel⟩ := DataW.trod_array ht h
 have e3 : (xs.map (·.1)) = zs.map fun x : Nat × Nat => .agg [.lit (.int k x.1), .lit (.int k x.2)] := (DataW.agg.inj (Prod.mk.inj ex).1).symm
 refine x9 2 _ (fun _ => rfl) zs cs (by omega) (fun i z hi => ?_)
 have hin : i < zs.length := (List.getElem?_eq_some_iff.1 hi).1
 have hE := hel i (by omega)
 rw [hc, List.getElem?_eq_getElem (by omega)] at hE
 generalize hcc : (cs.drop (i * 2)).take 2 = c at hE
 obtain ⟨y0, y1, m', e2, hl2, h0, h1⟩ := Go.ChangeShapes.trod_struct2 he hE
 rw [hf0, ho0, hcu] at h0
 rw [hf1, ho1, hcu] at h1
 obtain ⟨a0, c0, d0, _⟩ := DataW.trod_int hu h0
 obtain ⟨a1, c1, d1, _⟩ := DataW.trod_int hu h1
 have e4 : (xs.map (·.1))[i]? = (zs.map fun x : Nat × Nat => (DataW.agg [.lit (.int k x.1), .lit (.int k x.2)] : DataW H))[i]? := by rw [e3]
 rw [List.getElem?_map, List.getElem?_map, List.getElem?_eq_getElem (by omega : i < xs.length), hi, e2, d0, d1] at e4
 simp only [Option.map_some, Option.some.injEq, DataW.agg.injEq, List.cons.injEq, DataW.lit.injEq, Lit.int.injEq, true_and, and_true] at e4
 rw [hc] at hl2
 match c, hl2 with
 | [x0, x1], _ =>
  simp only [List.drop_zero, List.take_succ_cons, List.take_zero, List.cons.injEq, and_true, List.drop_succ_cons] at c0 c1
  rw [c0, c1, e4.1, e4.2]
end
theorem xE {W : World} {k : Nat} (hk : 8 < k) {laid : List (String × DataW Unit)} (hL : laidMetH Tryz.prog laid W) (hm : ("unicode/utf8.first", Rows.laid_unicode_utf8_first) ∈ laid) : bY (ay W k) 8 0 firstTab := by
 obtain ⟨C, e, fz, fuel, p, hW, hd⟩ := gM hL hm (by kernel_rfl) (g := 8) (t := 160) (by kernel_rfl) (by kernel_rfl)
 refine di hk hW ?_
 have hc := lD (n := 256) (zs := Go.Pinned.utf8FirstZ) Tryz.underlying160 Tryz.underlying5 (by kernel_rfl) (by kernel_rfl) hd (by kernel_rfl)
 have e1 : firstTab = (Go.Pinned.utf8FirstZ.map fun x : Nat => (IntKind.u8, (x : Int))).map fun x => .int x.1 x.2 := by simp [firstTab]
 have e2 : C.toList.take firstTab.length = (Go.Pinned.utf8FirstZ.map fun x : Nat => (IntKind.u8, (x : Int))).map fun x => .int x.1 x.2 := by
  have : C.toList = Go.Pinned.utf8FirstZ.map fun x : Nat => Value.int .u8 (x : Int) := by
   rw [hc]; generalize Go.Pinned.utf8FirstZ = l; induction l <;> simp_all
  rw [this, List.take_of_length_le (by simp [firstTab])]
  simp
 rw [e2, e1]
 exact lU _
def zz : List (Nat × Nat) := [(128, 191), (160, 191), (128, 159), (144, 191), (128, 143), (0, 0), (0, 0), (0, 0), (0, 0), (0, 0), (0, 0), (0, 0), (0, 0), (0, 0), (0, 0), (0, 0)]
theorem vU {W : World} {k : Nat} (hk : 9 < k) {laid : List (String × DataW Unit)} (hL : laidMetH Tryz.prog laid W) (hm : ("unicode/utf8.acceptRanges", Rows.laid_unicode_utf8_acceptRanges) ∈ laid) : bY (ay W k) 9 0 acceptTab := by
 obtain ⟨C, e, fz, fuel, p, hW, hd⟩ := gM hL hm (by kernel_rfl) (g := 9) (t := 297) (by kernel_rfl) (by kernel_rfl)
 refine di hk hW ?_
 rw [we (n := 16) (zs := zz) Tryz.underlying297 Tryz.underlying296 (by kernel_rfl) (by kernel_rfl) rfl rfl rfl rfl Tryz.underlying5 (by kernel_rfl) hd (by kernel_rfl)]
 exact lU ((zz.flatMap fun x : Nat × Nat => [x.1, x.2]).map fun x : Nat => (IntKind.u8, (x : Int)))
end
section
open Go Go.RowKit
attribute [local irreducible] AWp AOps aa az OrOk ad ah
attribute [local irreducible] escF escS
theorem ou {G : Glo} (s : List UInt8) (hl : s.length ≤ 2000000) : FnIs Tryz.prog G 90 [.str s] (.str (escS s)) := by
 have hGL : ad G [] := ab
 refine fn_x Tryz.func90 Tryz.call90 rfl rfl rfl rfl hGL ?_
 intro C hC
 repeat' (first | (conv => whnf); first | refine .w ?_ | refine .v ?_ | refine sc_c ?_ ?_ <;> (intro hb; try exact dd hb) | apply ae | apply an | (apply sc_i <;> intro hb) | (apply bx_i; intro hbd) | (apply aj; first | fail) | (apply am (i := 0) rfl; first | fail) | (apply ab_i; intro bl) | (apply as_i; intro va vk vc hva) | (apply av_i; intro v) | (apply ac_i; intro bl cap hcap) | apply bo_l | (apply nx_i <;> intro hnx) | exact rt_w | apply dw_q mixed hC hGL (by kernel_rfl) | (apply cq; assumption; (first | fail); exact rfl))
 all_goals try conv => whnf
 refine lp hC hGL (fun i : Nat => [(0, .str s), (3, .str (escS (s.take i))), (6, .int .i64 (s.length : Nat)), (7, .int .i64 (i : Nat))]) (fun _ => []) (fun i => i ≤ s.length) (fun i => s.length - i) 0 (Nat.zero_le _) ⟨rfl, ?_, rfl, rfl, trivial⟩ rfl ?_
 ·show some (AVal.str []) = some (AVal.str (escS (s.take 0)))
  rw [List.take_zero, fg]
 ·intro i hi
  have e1 := (fh (s.take i)).2
  rw [List.length_take, Nat.min_eq_left hi] at e1
  by_cases hlt : i < s.length
  ·have et := jq hlt
   have hb0 := jw hlt
   have hby := aL s i
   have hone : (s.take (i + 1)).drop i = [s[i]] := by rw [List.drop_take, show i + 1 - i = 1 by omega, List.drop_eq_getElem_cons hlt]; rfl
   have hlo : ((s.take (i + 1)).drop i).length = 1 := by rw [hone]; rfl
   rcases (show (aa s i = 92 ∨ aa s i = 44 ∨ aa s i = 59) ∨ aa s i = 10 ∨ (aa s i ≠ 92 ∧ aa s i ≠ 44 ∧ aa s i ≠ 59 ∧ aa s i ≠ 10) by omega) with hk | hk | ⟨k1, k2, k3, k4⟩
   ·have he : escF s[i] = [92] ++ (s.take (i + 1)).drop i := by
     rw [hone]
     rcases hk with hk | hk | hk
     all_goals rw [(u8_k (by decide)).2 (hb0.symm.trans hk)]
     ·exact sL
     ·exact sN
     ·exact sM
    repeat' (first | (conv => whnf); first | refine .w ?_ | refine .v ?_ | refine sc_c ?_ ?_ <;> (intro hb; try exact dd hb) | apply ae | apply an | (apply sc_i <;> intro hb) | (apply bx_i; intro hbd) | (apply aj; first | fail) | (apply am (i := 0) rfl; first | fail) | (apply ab_i; intro bl) | (apply as_i; intro va vk vc hva) | (apply av_i; intro v) | (apply ac_i; intro bl cap hcap) | apply bo_l | (apply nx_i <;> intro hnx) | exact rt_w | apply dw_q mixed hC hGL (by kernel_rfl) | (apply cq; assumption; (first | fail); exact rfl))
    all_goals try conv => whnf
    all_goals first
     | (refine nxt (i + 1) ?_ ?_ ⟨rfl, ?_, rfl, rfl, trivial⟩ rfl; exact hlt; (show s.length - (i + 1) < s.length - i; omega); (rw [et, he]; rfl))
     | skip
   ·have he : escF s[i] = [92, 110] := by rw [(u8_k (by decide)).2 (hb0.symm.trans hk)]; exact sO
    repeat' (first | (conv => whnf); first | refine .w ?_ | refine .v ?_ | refine sc_c ?_ ?_ <;> (intro hb; try exact dd hb) | apply ae | apply an | (apply sc_i <;> intro hb) | (apply bx_i; intro hbd) | (apply aj; first | fail) | (apply am (i := 0) rfl; first | fail) | (apply ab_i; intro bl) | (apply as_i; intro va vk vc hva) | (apply av_i; intro v) | (apply ac_i; intro bl cap hcap) | apply bo_l | (apply nx_i <;> intro hnx) | exact rt_w | apply dw_q mixed hC hGL (by kernel_rfl) | (apply cq; assumption; (first | fail); exact rfl))
    all_goals try conv => whnf
    all_goals first
     | (refine nxt (i + 1) ?_ ?_ ⟨rfl, ?_, rfl, rfl, trivial⟩ rfl; exact hlt; (show s.length - (i + 1) < s.length - i; omega); (rw [et, he]; rfl))
     | skip
   ·have he : escF s[i] = (s.take (i + 1)).drop i := by
     rw [hone]
     exact lc (by rw [← hb0]; exact k1) (by rw [← hb0]; exact k2) (by rw [← hb0]; exact k3) (by rw [← hb0]; exact k4)
    repeat' (first | (conv => whnf); first | refine .w ?_ | refine .v ?_ | refine sc_c ?_ ?_ <;> (intro hb; try exact dd hb) | apply ae | apply an | (apply sc_i <;> intro hb) | (apply bx_i; intro hbd) | (apply aj; first | fail) | (apply am (i := 0) rfl; first | fail) | (apply ab_i; intro bl) | (apply as_i; intro va vk vc hva) | (apply av_i; intro v) | (apply ac_i; intro bl cap hcap) | apply bo_l | (apply nx_i <;> intro hnx) | exact rt_w | apply dw_q mixed hC hGL (by kernel_rfl) | (apply cq; assumption; (first | fail); exact rfl))
    all_goals try conv => whnf
    all_goals first
     | (refine nxt (i + 1) ?_ ?_ ⟨rfl, ?_, rfl, rfl, trivial⟩ rfl; exact hlt; (show s.length - (i + 1) < s.length - i; omega); (rw [et, he]; rfl))
     | skip
  ·have h9 : escS (s.take i) = escS s := by rw [List.take_of_length_le (by omega)]
   repeat' (first | (conv => whnf); first | refine .w ?_ | refine .v ?_ | refine sc_c ?_ ?_ <;> (intro hb; try exact dd hb) | apply ae | apply an | (apply sc_i <;> intro hb) | (apply bx_i; intro hbd) | (apply aj; first | fail) | (apply am (i := 0) rfl; first | fail) | (apply ab_i; intro bl) | (apply as_i; intro va vk vc hva) | (apply av_i; intro v) | (apply ac_i; intro bl cap hcap) | apply bo_l | (apply nx_i <;> intro hnx) | exact rt_w | apply dw_q mixed hC hGL (by kernel_rfl) | (apply cq; assumption; (first | fail); exact rfl))
   all_goals try conv => whnf
   apply al
   rw [h9]
end
section
open Go Go.RowKit
attribute [local irreducible] AWp AOps az OrOk ad ah
attribute [local irreducible] fL Lv AWpD To
def newC (u : Value) : List AVal := [.int .u32 0, .int .i32 0, .int .u32 0, .raw .nilIface, .own 0 u]
theorem sm {G : Glo} (m : Nat) (f : Nat → AVal) (hm : m ≤ 1000) (h2 : m % 2 = 0) (hs : az 1 m f) : ah Tryz.prog G 113 [.list 1 m f] [] (fun r H => ∃ bl va vk vc, RowV m va vk ∧ r = .ret (.own 1 (pv bl 0)) ∧ H = [.row (.slice va vk vc) none 1 m (cg m f), .cells bl (some 214) (newC (.slice va vk vc))]) := by
 have hGL : ad G [] := ab
 refine fn_x Tryz.func113 Tryz.call113 rfl rfl rfl rfl hGL ?_
 intro C hC
 repeat' (first | (conv => whnf); first | refine .w ?_ | refine .v ?_ | refine sc_c ?_ ?_ <;> (intro hb; try exact dd hb) | apply ae | apply an | (apply sc_i <;> intro hb) | (apply bx_i; intro hbd) | (apply aj; first | fail) | (apply am (i := 0) rfl; first | fail) | (apply ab_i; intro bl) | (apply as_i; intro va vk vc hva) | (apply av_i; intro v) | (apply ac_i; intro bl cap hcap) | apply bo_r | (apply nx_i <;> intro hnx) | exact rt_w | exact True.intro | (apply bc_i; intro C hC) | apply bt_i | apply og_n | (apply og_a; exact rfl))
 all_goals try conv => whnf
 exact ⟨_, List.Sublist.refl _, bl, va, vk, vc, hva, rfl, rfl⟩
abbrev escO (br vc : Nat) : HEnt := HEnt.row (.slice (some ⟨br, 0, none⟩) 8 vc) none 1 8 [.str [92], .str [92, 92], .str [44], .str [92, 44], .str [59], .str [92, 59], .str [10], .str [92, 110]]
abbrev escH (br bl vc : Nat) (cs : List AVal) (va : Option Addr) (vk vt bz b1 c1 b2 c2 b3 c3 b4 c4 : Nat) : Heap := [escO br vc, .cells bl (some 214) cs, .row (.slice va vk vt) (some 9) 1 4 [.str [10], .str [59], .str [44], .str [92]], .cells bz (some 293) (tabE (.own 4 (.slice (some ⟨b1, 0, none⟩) 2 c1)) (.own 5 (.slice (some ⟨b2, 0, none⟩) 2 c2)) (.own 6 (.slice (some ⟨b3, 0, none⟩) 2 c3)) (.own 7 (.slice (some ⟨b4, 0, none⟩) 2 c4)) (.own 2 (.slice va vk vt))), .buf b1 [92, 110] c1, .buf b2 [92, 59] c2, .buf b3 [92, 44] c3, .buf b4 [92, 92] c4]
theorem AV {G : Glo} (br bl vc : Nat) : ah Tryz.prog G 189 [.raw (pv bl 0)] [escO br vc, .cells bl (some 214) ((newC (.slice (some ⟨br, 0, none⟩) 8 vc)).set 1 (.int .i32 1))]
  (fun r H => ∃ va vk vt bz b1 c1 b2 c2 b3 c3 b4 c4, RowV 4 va vk ∧ r = .ret (.iface 294 (.own 3 (pv bz 0))) ∧ H = escH br bl vc ((newC (.slice (some ⟨br, 0, none⟩) 8 vc)).set 1 (.int .i32 1)) va vk vt bz b1 c1 b2 c2 b3 c3 b4 c4) := by
 have hGL : ad G [] := ab
 unfold newC
 refine gk 1 Tryz.func189 Tryz.call189 rfl rfl rfl rfl hGL rfl ?_
 intro C hC
 repeat' (first | (conv => whnf); first | refine .w ?_ | refine .v ?_ | refine sc_c ?_ ?_ <;> (intro hb; try exact dd hb) | apply ae | apply an | (apply sc_i <;> intro hb) | (apply bx_i; intro hbd) | (apply aj; first | fail) | (apply am (i := 0) rfl; first | fail) | (apply ab_i; intro bl) | (apply as_i; intro va vk vc hva) | (apply av_i; intro v) | (apply ac_i; intro bl cap hcap) | apply bo_l | (apply nx_i <;> intro hnx) | exact rt_w | exact True.intro | (apply bc_i; intro C hC) | apply bt_i | apply og_n | (apply og_a; exact rfl))
 all_goals try conv => whnf
 have d0 : ([.str [92], .str [92, 92], .str [44], .str [92, 44], .str [59], .str [92, 59], .str [10], .str [92, 110]] : List AVal)[0]? = some (.str [92]) := rfl
 have r0 : cm (.slice (some ⟨br, 0, none⟩) 8 vc) br 8 ∧ 0 < 8 * 1 := ⟨⟨_, rfl⟩, by decide⟩
 have d1 : ([.str [92], .str [92, 92], .str [44], .str [92, 44], .str [59], .str [92, 59], .str [10], .str [92, 110]] : List AVal)[1]? = some (.str [92, 92]) := rfl
 have r1 : cm (.slice (some ⟨br, 0, none⟩) 8 vc) br 8 ∧ 1 < 8 * 1 := ⟨⟨_, rfl⟩, by decide⟩
 have d2 : ([.str [92], .str [92, 92], .str [44], .str [92, 44], .str [59], .str [92, 59], .str [10], .str [92, 110]] : List AVal)[2]? = some (.str [44]) := rfl
 have r2 : cm (.slice (some ⟨br, 0, none⟩) 8 vc) br 8 ∧ 2 < 8 * 1 := ⟨⟨_, rfl⟩, by decide⟩
 have d3 : ([.str [92], .str [92, 92], .str [44], .str [92, 44], .str [59], .str [92, 59], .str [10], .str [92, 110]] : List AVal)[3]? = some (.str [92, 44]) := rfl
 have r3 : cm (.slice (some ⟨br, 0, none⟩) 8 vc) br 8 ∧ 3 < 8 * 1 := ⟨⟨_, rfl⟩, by decide⟩
 have d4 : ([.str [92], .str [92, 92], .str [44], .str [92, 44], .str [59], .str [92, 59], .str [10], .str [92, 110]] : List AVal)[4]? = some (.str [59]) := rfl
 have r4 : cm (.slice (some ⟨br, 0, none⟩) 8 vc) br 8 ∧ 4 < 8 * 1 := ⟨⟨_, rfl⟩, by decide⟩
 have d5 : ([.str [92], .str [92, 92], .str [44], .str [92, 44], .str [59], .str [92, 59], .str [10], .str [92, 110]] : List AVal)[5]? = some (.str [92, 59]) := rfl
 have r5 : cm (.slice (some ⟨br, 0, none⟩) 8 vc) br 8 ∧ 5 < 8 * 1 := ⟨⟨_, rfl⟩, by decide⟩
 have d6 : ([.str [92], .str [92, 92], .str [44], .str [92, 44], .str [59], .str [92, 59], .str [10], .str [92, 110]] : List AVal)[6]? = some (.str [10]) := rfl
 have r6 : cm (.slice (some ⟨br, 0, none⟩) 8 vc) br 8 ∧ 6 < 8 * 1 := ⟨⟨_, rfl⟩, by decide⟩
 have d7 : ([.str [92], .str [92, 92], .str [44], .str [92, 44], .str [59], .str [92, 59], .str [10], .str [92, 110]] : List AVal)[7]? = some (.str [92, 110]) := rfl
 have r7 : cm (.slice (some ⟨br, 0, none⟩) 8 vc) br 8 ∧ 7 < 8 * 1 := ⟨⟨_, rfl⟩, by decide⟩
 refine rds hC hGL 5 ?_
 repeat' (first | (conv => whnf); first | refine .w ?_ | refine .v ?_ | refine sc_c ?_ ?_ <;> (intro hb; try exact dd hb) | apply ae | apply an | (apply sc_i <;> intro hb) | (apply bx_i; intro hbd) | (apply aj; first | fail) | (apply am (i := 0) rfl; first | fail) | (apply ab_i; intro bl) | (apply as_i; intro va vk vc hva) | (apply av_i; intro v) | (apply ac_i; intro bl cap hcap) | apply bo_l | (apply nx_i <;> intro hnx) | exact rt_w | exact True.intro | (apply bc_i; intro C hC) | apply bt_i | apply og_n | (apply og_a; exact rfl))
 all_goals try conv => whnf
 refine qG (m := 4) hC hGL rfl rfl (by omega) rfl rfl rfl rfl rfl rfl rfl (fun bt => ?_)
 repeat' (first | (conv => whnf); first | refine .w ?_ | refine .v ?_ | refine sc_c ?_ ?_ <;> (intro hb; try exact dd hb) | apply ae | apply an | (apply sc_i <;> intro hb) | (apply bx_i; intro hbd) | (apply aj; first | fail) | (apply am (i := 0) rfl; first | fail) | (apply ab_i; intro bl) | (apply as_i; intro va vk vc hva) | (apply av_i; intro v) | (apply ac_i; intro bl cap hcap) | apply bo_l | (apply nx_i <;> intro hnx) | exact rt_w | exact True.intro | (apply bc_i; intro C hC) | apply bt_i | apply og_n | (apply og_a; exact rfl))
 all_goals try conv => whnf
 refine rds hC hGL 5 ?_
 repeat' (first | (conv => whnf); first | refine .w ?_ | refine .v ?_ | refine sc_c ?_ ?_ <;> (intro hb; try exact dd hb) | apply ae | apply an | (apply sc_i <;> intro hb) | (apply bx_i; intro hbd) | (apply aj; first | fail) | (apply am (i := 0) rfl; first | fail) | (apply ab_i; intro bl) | (apply as_i; intro va vk vc hva) | (apply av_i; intro v) | (apply ac_i; intro bl cap hcap) | apply bo_l | (apply nx_i <;> intro hnx) | exact rt_w | exact True.intro | (apply bc_i; intro C hC) | apply bt_i | apply og_n | (apply og_a; exact rfl))
 all_goals try conv => whnf
 refine aI hC hGL (bp [10] rfl (by intro v hv; simp only [List.mem_cons, List.not_mem_nil, or_false] at hv; omega) rfl rfl rfl rfl rfl rfl) rfl rfl ?_
 repeat' (first | (conv => whnf); first | refine .w ?_ | refine .v ?_ | refine sc_c ?_ ?_ <;> (intro hb; try exact dd hb) | apply ae | apply an | (apply sc_i <;> intro hb) | (apply bx_i; intro hbd) | (apply aj; first | fail) | (apply am (i := 0) rfl; first | fail) | (apply ab_i; intro bl) | (apply as_i; intro va vk vc hva) | (apply av_i; intro v) | (apply ac_i; intro bl cap hcap) | apply bo_l | (apply nx_i <;> intro hnx) | exact rt_w | exact True.intro | (apply bc_i; intro C hC) | apply bt_i | apply og_n | (apply og_a; exact rfl))
 all_goals try conv => whnf
 refine aI hC hGL (bp [59] rfl (by intro v hv; simp only [List.mem_cons, List.not_mem_nil, or_false] at hv; omega) rfl rfl rfl rfl rfl rfl) rfl rfl ?_
 repeat' (first | (conv => whnf); first | refine .w ?_ | refine .v ?_ | refine sc_c ?_ ?_ <;> (intro hb; try exact dd hb) | apply ae | apply an | (apply sc_i <;> intro hb) | (apply bx_i; intro hbd) | (apply aj; first | fail) | (apply am (i := 0) rfl; first | fail) | (apply ab_i; intro bl) | (apply as_i; intro va vk vc hva) | (apply av_i; intro v) | (apply ac_i; intro bl cap hcap) | apply bo_l | (apply nx_i <;> intro hnx) | exact rt_w | exact True.intro | (apply bc_i; intro C hC) | apply bt_i | apply og_n | (apply og_a; exact rfl))
 all_goals try conv => whnf
 refine aI hC hGL (bp [44] rfl (by intro v hv; simp only [List.mem_cons, List.not_mem_nil, or_false] at hv; omega) rfl rfl rfl rfl rfl rfl) rfl rfl ?_
 repeat' (first | (conv => whnf); first | refine .w ?_ | refine .v ?_ | refine sc_c ?_ ?_ <;> (intro hb; try exact dd hb) | apply ae | apply an | (apply sc_i <;> intro hb) | (apply bx_i; intro hbd) | (apply aj; first | fail) | (apply am (i := 0) rfl; first | fail) | (apply ab_i; intro bl) | (apply as_i; intro va vk vc hva) | (apply av_i; intro v) | (apply ac_i; intro bl cap hcap) | apply bo_l | (apply nx_i <;> intro hnx) | exact rt_w | exact True.intro | (apply bc_i; intro C hC) | apply bt_i | apply og_n | (apply og_a; exact rfl))
 all_goals try conv => whnf
 refine aI hC hGL (bp [92] rfl (by intro v hv; simp only [List.mem_cons, List.not_mem_nil, or_false] at hv; omega) rfl rfl rfl rfl rfl rfl) rfl rfl ?_
 repeat' (first | (conv => whnf); first | refine .w ?_ | refine .v ?_ | refine sc_c ?_ ?_ <;> (intro hb; try exact dd hb) | apply ae | apply an | (apply sc_i <;> intro hb) | (apply bx_i; intro hbd) | (apply aj; first | fail) | (apply am (i := 0) rfl; first | fail) | (apply ab_i; intro bl) | (apply as_i; intro va vk vc hva) | (apply av_i; intro v) | (apply ac_i; intro bl cap hcap) | apply bo_l | (apply nx_i <;> intro hnx) | exact rt_w | exact True.intro | (apply bc_i; intro C hC) | apply bt_i | apply og_n | (apply og_a; exact rfl))
 all_goals try conv => whnf
 exact ⟨_, List.Sublist.refl _, _, _, _, _, _, _, _, _, _, _, _, _, by assumption, rfl, rfl⟩
attribute [local irreducible] tabE
structure EscY where
 va : Option Addr
 vk : Nat
 vt : Nat
 bz : Nat
 b1 : Nat
 c1 : Nat
 b2 : Nat
 c2 : Nat
 b3 : Nat
 c3 : Nat
 b4 : Nat
 c4 : Nat
 h : RowV 4 va vk
abbrev EscY.H (y : EscY) (br bl vc : Nat) (cs : List AVal) : Heap := escH br bl vc cs y.va y.vk y.vt y.bz y.b1 y.c1 y.b2 y.c2 y.b3 y.c3 y.b4 y.c4
abbrev escA (y : EscY) : List AVal := [.int .u32 0, .int .i32 1, .int .u32 0, .iface 294 (.own 3 (pv y.bz 0)), .raw (.slice none 0 0)]
abbrev escQ (y : EscY) : List AVal := [.int .u32 1, .int .i32 0, .int .u32 0, .iface 294 (.own 3 (pv y.bz 0)), .raw (.slice none 0 0)]
theorem Cm {G : Glo} (br bl vc : Nat) : ah Tryz.prog G 158 [.raw (pv bl 0)] [escO br vc, .cells bl (some 214) ((newC (.slice (some ⟨br, 0, none⟩) 8 vc)).set 1 (.int .i32 1))]
  (fun r H => ∃ y : EscY, r = .ret (.tuple []) ∧ H = y.H br bl vc (escA y)) := by
 have hGL : ad G [] := ab
 have e1 := AV (G := G) br bl vc
 unfold newC at *
 refine gk 1 Tryz.func158 Tryz.call158 rfl rfl rfl rfl hGL rfl ?_
 intro C hC
 repeat' (first | (conv => whnf); first | refine .w ?_ | refine Ix.v ?_ | refine Sd.v ?_ | refine Sl.v ?_ | apply au | refine sc_d ?_ ?_ <;> (intro hb; try exact dd hb) | apply ae | (apply sc_i <;> intro hb) | (apply bx_i; intro hbd) | (apply aj; first | fail) | (apply ab_i; intro bl) | exact rt_w | exact True.intro | (apply bc_i; intro C hC) | apply bt_i | apply og_n | (apply og_a; exact rfl))
 all_goals try conv => whnf
 refine ⟨_, e1, ?_, ?_⟩
 ·rintro v' H2 ⟨va, vk, vt, bz, b1, c1, b2, c2, b3, c3, b4, c4, hva, e, rfl⟩
  cases e
  repeat' (first | (conv => whnf); first | refine .w ?_ | refine Ix.v ?_ | refine Sd.v ?_ | refine Sl.v ?_ | apply au | refine sc_d ?_ ?_ <;> (intro hb; try exact dd hb) | apply ae | (apply sc_i <;> intro hb) | (apply bx_i; intro hbd) | (apply aj; first | fail) | (apply ab_i; intro bl) | exact rt_w | exact True.intro | (apply bc_i; intro C hC) | apply bt_i | apply og_n | (apply og_a; exact rfl))
  all_goals try conv => whnf
  exact ⟨_, List.Sublist.refl _, ⟨va, vk, vt, bz, b1, c1, b2, c2, b3, c3, b4, c4, hva⟩, rfl, rfl⟩
 ·rintro v' H2 ⟨va, vk, vt, bz, b1, c1, b2, c2, b3, c3, b4, c4, hva, e, rfl⟩
  cases e
theorem GD {G : Glo} (br bl vc : Nat) : ah Tryz.prog G 157 [.raw (pv bl 0), .func (.func 158) [.raw (pv bl 0)] []] [escO br vc, .cells bl (some 214) (newC (.slice (some ⟨br, 0, none⟩) 8 vc))]
  (fun r H => ∃ y : EscY, r = .ret (.tuple []) ∧ H = y.H br bl vc (escQ y)) := by
 have e1 := Cm (G := G) br bl vc
 have e2 := yU (G := G) (b := bl) (off := 0) (fid := 158) (eT := some 214) (cs := newC (.slice (some ⟨br, 0, none⟩) 8 vc)) (T := [escO br vc]) (Y := EscY) (cs2 := escA) (T2 := fun y => (y.H br bl vc (escA y)).eraseIdx 1) (l1 := [.raw (pv bl 0)]) (l2 := []) rfl rfl (fun _ => rfl) (fun _ => rfl) rfl rfl
  (by
   refine dR (dQ (List.Perm.swap _ _ _) e1) ?_
   rintro r H ⟨y, rfl, rfl⟩
   exact ⟨_, List.Perm.swap _ _ _, y, rfl, rfl⟩)
 refine dR (dQ (List.Perm.swap _ _ _) e2) ?_
 rintro r H ⟨y, rfl, rfl⟩
 exact ⟨_, List.Perm.swap _ _ _, y, rfl, rfl⟩
end
section
open Go
inductive Tk where
 | one (c : UInt8)
 | two (d : UInt8)
def Tk.raw : Tk → List UInt8
 | .one c => [c]
 | .two d => [92, d]
def escV (d : UInt8) : UInt8 := if d = 110 ∨ d = 78 then 10 else d
def Tk.val : Tk → UInt8
 | .one c => c
 | .two d => escV d
def okE (d : UInt8) : Bool := decide (d = 92 ∨ d = 44 ∨ d = 59 ∨ d = 110 ∨ d = 78)
def Tk.ok : Tk → Prop
 | .one c => c ≠ 92
 | .two d => okE d = true
end
section
open Go
end
section
open Go
end
section
open Go Go.RowKit
set_option maxHeartbeats 8000000
attribute [local irreducible] AWp AOps az OrOk ad ah aa escV idxB
end
section
open Go Go.RowKit
set_option maxHeartbeats 8000000
attribute [local irreducible] AWp AOps az OrOk ad ah aa
end
section
open Go Go.RowKit
set_option maxHeartbeats 8000000
attribute [local irreducible] AWp AOps az OrOk ad ah aa
theorem pi {G : Glo} (e p : Int) : FnIs Tryz.prog G 36 [.agg [.int .i64 e, .int .i64 p]] (.bool (eqB e 0)) := by
 have hGL : ad G [] := ab
 refine fn_x Tryz.func36 Tryz.call36 rfl rfl rfl rfl hGL ?_
 intro C hC
 exact xw0
end
section
open Go Go.RowKit
set_option maxHeartbeats 8000000
attribute [local irreducible] AWp AOps az OrOk ad ah aa
end
section
open Go Go.RowKit
set_option maxHeartbeats 8000000
attribute [local irreducible] AWp AOps az OrOk ad ah
theorem ve (n : Int) : (eb n).length = 4 := rfl
theorem dg (n : Int) : (twoS n).length = 2 := rfl
theorem yv (n : Int) : (zprS n).length ≤ 100 := by
 unfold zprS
 (repeat' split) <;> simp [dg]
theorem ko {t : Stm} (hf : t.frm = true) {P : Prop} (h : okN (whN (tlB t.y) (tlB t.m) (tlB t.d)) (whN (tlB t.h) (tlB t.i) (tlB t.s)) = true → (t.z = true → tlB t.h = true) → P) : P := by
 unfold Stm.frm at hf
 rw [Bool.and_eq_true] at hf
 refine h hf.1 fun hz => ?_
 have := hf.2
 rw [hz] at this
 exact this
theorem G5 {d t : Int} (h : okN d t = true) : 0 ≤ d := by
 unfold okN at h
 exact (of_decide_eq_true h).1
theorem G4 {d t : Int} (h : okN d t = true) : 0 ≤ t := by
 unfold okN at h
 exact (of_decide_eq_true h).2.1
theorem De (t : Stm) : (iM (tlB t.y) (tlB t.m) (tlB t.d) t.y t.m t.d).length ≤ 8 := by
 cases tlB t.y <;> cases tlB t.m <;> cases tlB t.d <;> simp [iM, eb, twoS, aU]
theorem Bp (t : Stm) : (g8 (tlB t.h) (tlB t.i) (tlB t.s) t.h t.i t.s).length ≤ 8 := by
 cases tlB t.h <;> cases tlB t.i <;> cases tlB t.s <;> simp [g8, twoS, aU]
def Stm.R (t : Stm) : List AVal := [.int .i64 t.y, .int .i64 t.m, .int .i64 t.d, .int .i64 t.h, .int .i64 t.i, .int .i64 t.s, .bool t.z, .int .i64 t.o]
attribute [local irreducible] eb twoS zprS
theorem pO {G : Glo} {m : Int} (hU : ad G (bI m)) (t : Stm) (hf : t.frm = true) (hr : t.rng = true) (hE : t.E = .none) : FnIs Tryz.prog G 111 [t.A] (.tuple [.str t.txt, Err.none.A]) := by
 have h0 := gw (G := G) hU t
 rw [hE] at h0
 have h1 := iX (G := G) t.y t.m t.d
 have h2 := iX (G := G) t.h t.i t.s
 have h3 := nJ (G := G) t.o
 have hc := Tryz.call155
 have k1 := fun n a b => zC (G := G) n a b
 have k2 := fun n a b => Bd (G := G) n a b
 have l1 := ve t.y
 have l2 := dg t.m
 have l3 := dg t.d
 have l4 := dg t.h
 have l5 := dg t.i
 have l6 := dg t.s
 have l7 := yv t.o
 have r := hr
 unfold Stm.rng at r
 simp only [Bool.and_eq_true, nM] at r
 obtain ⟨r1, r2, r3, r4, r5, r6, -⟩ := r
 have r3' : t.d = -1 ∨ 1 ≤ t.d ∧ t.d ≤ 31 := by
  refine r3.imp_right fun h => ⟨h.1, ?_⟩
  have := h.2
  unfold Stm.day dayN at this
  (repeat' split at this) <;> omega
 clear r3
 have hx : t.txt = iM (tlB t.y) (tlB t.m) (tlB t.d) t.y t.m t.d ++ g8 (tlB t.h) (tlB t.i) (tlB t.s) t.h t.i t.s ++ (if t.z then zprS t.o else []) := rfl
 have hD := De t
 have hT := Bp t
 refine ko hf fun k kz => ?_
 have hGL : ad G [] := ab
 refine fn_a Tryz.func111 Tryz.call111 rfl rfl rfl rfl ?_
 intro C hC
 refine cut hC hGL [(1, .rop t.R 0)] [] True ?_ fun _ => ?_
 ·exact xw0
 refine cut hC hGL [(1, .rop t.R 0)] [] True ?_ fun _ => ?_
 ·exact xw0
 refine cut hC hGL [(1, .rop t.R 0), (5, .str [])] [] True ?_ fun _ => ?_
 ·exact xw0
 refine cut hC hGL [(1, .rop t.R 0), (5, .str (iM (tlB t.y) (tlB t.m) (tlB t.d) t.y t.m t.d))] [] True ?_ fun _ => ?_
 ·clear h0 h2 h3 hx hD hT kz l4 l5 l6 l7 r4 r5 r6
  cases e1 : tlB t.y
  all_goals cases e2 : tlB t.m
  all_goals cases e3 : tlB t.d
  all_goals rw [e1, e2, e3] at k h1
  all_goals try exact absurd (G5 k) (by decide)
  all_goals clear k
  all_goals simp only [fmS, fmB, if_true, Bool.false_eq_true, if_false] at h1
  all_goals simp only [gZ, yC] at e1 e2 e3
  all_goals exact xw0
 generalize iM (tlB t.y) (tlB t.m) (tlB t.d) t.y t.m t.d = D at *
 clear h0 h1 l1 l2 l3 r1 r2 r3'
 refine cut hC hGL [(1, .rop t.R 0), (5, .str D), (6, .str (fmS (tlB t.h) (tlB t.i) (tlB t.s)))] [] True ?_ fun _ => ?_
 ·exact xw0
 refine cut hC hGL [(1, .rop t.R 0), (5, .str D), (6, .str (fmS (tlB t.h) (tlB t.i) (tlB t.s)))] [] (fmS (tlB t.h) (tlB t.i) (tlB t.s) ≠ [45, 45, 45]) ?_ fun hn => ?_
 ·refine xw ?_
  repeat' (first | exact Le.n | refine Lc.mk ?_ ?_)
  all_goals intros
  all_goals first
   | contradiction
   | (apply al; refine congrArg (fun l => AVal.tuple [.str l, Err.none.A]) ?_; have hq := (show fmS (tlB t.h) (tlB t.i) (tlB t.s) = [45, 45, 45] by assumption); rw [hx]; revert hq kz; cases tlB t.h <;> cases tlB t.i <;> cases tlB t.s <;> simp [fmS, fmB, g8] <;> (intro a b; rw [a] at b; cases b))
 refine cut hC hGL [(1, .rop t.R 0), (5, .str (D ++ [84])), (6, .str (fmS (tlB t.h) (tlB t.i) (tlB t.s)))] [] True ?_ fun _ => ?_
 ·exact xw0
 refine cut hC hGL [(1, .rop t.R 0), (5, .str (D ++ [84])), (6, .str (fmS (tlB t.h) (tlB t.i) (tlB t.s))), (7, .bool false)] [] True ?_ fun _ => ?_
 ·exact xw0
 refine cuty hC hGL (fun q : List UInt8 => [(1, .rop t.R 0), (5, .str q)]) (fun _ => []) (fun q => q = D ++ g8 (tlB t.h) (tlB t.i) (tlB t.s) t.h t.i t.s) ?_ fun q hq => ?_
 ·clear hx kz hT h3
  cases e4 : tlB t.h
  all_goals cases e5 : tlB t.i
  all_goals cases e6 : tlB t.s
  all_goals rw [e4, e5, e6] at k hn
  all_goals try exact absurd (G4 k) (by decide)
  all_goals try exact absurd rfl hn
  all_goals clear k hn
  all_goals simp only [gZ, yC] at e4 e5 e6
  all_goals simp only [fmS, fmB, if_true, Bool.false_eq_true, if_false]
  all_goals
   refine xw1 ?_
   refine rds hC hGL 4 ?_
   refine xw1 ?_
   intros
   refine aI hC hGL (lK (i := 0) rfl rfl rfl rfl rfl rfl rfl (show _ < 3 by decide) rfl rfl) rfl rfl ?_
   refine xw1 ?_
   intros
   refine aI hC hGL (lK (i := 1) rfl rfl rfl rfl rfl rfl rfl (show _ < 3 by decide) rfl rfl) rfl rfl ?_
   refine xw1 ?_
   intros
   refine aI hC hGL (lK (i := 2) rfl rfl rfl rfl rfl rfl rfl (show _ < 3 by decide) rfl rfl) rfl rfl ?_
   refine xw1 ?_
   intros
   refine cy _ ?_
   simp only [g8, List.append_assoc]
 subst hq
 refine cuty hC hGL (fun q : List UInt8 => [(1, .rop t.R 0), (5, .str q)]) (fun _ => []) (fun q => q = t.txt) ?_ fun q hq => ?_
 ·rw [hx]
  refine xw ?_
  repeat' (first | exact Le.n | refine Lc.mk ?_ ?_)
  all_goals intros
  all_goals first
   | (refine cy _ ?_; rw [if_pos (by assumption)])
   | (refine cy _ ?_; rw [if_neg (by rw [show t.z = false by assumption]; decide), List.append_nil])
 subst hq
 exact bw hC hGL xw0
theorem vX {G : Glo} {m : Int} (hU : ad G (bI m)) (t : Stm) : FnIs Tryz.prog G 111 [t.A] (.tuple [.str t.T, t.E.A]) := by
 cases hf : t.frm with
 | true =>
  cases hr : t.rng with
  | true =>
   have hE : t.E = .none := by unfold Stm.E; rw [hf, hr]; rfl
   rw [hE, show t.T = t.txt by unfold Stm.T; rw [hf, hr]; rfl]
   exact pO hU t hf hr hE
  | false =>
   have h0 := gw (G := G) hU t
   have hE : t.E = .errno 2 := by unfold Stm.E; rw [hf, hr]; rfl
   rw [hE] at h0 ⊢
   rw [show t.T = [] by unfold Stm.T; rw [hf, hr]; rfl]
   have hGL : ad G [] := ab
   refine fn_x Tryz.func111 Tryz.call111 rfl rfl rfl rfl hGL ?_
   intro C hC
   repeat' (first | (conv => whnf); first | refine .w ?_ | refine .v ?_ | refine sc_c ?_ ?_ <;> (intro hb; try exact dd hb) | apply ae | apply an | (apply sc_i <;> intro hb) | (apply bx_i; intro hbd) | (apply aj; first | exact h0) | (apply am (i := 0) rfl; first | exact h0) | (apply ab_i; intro bl) | (apply as_i; intro va vk vc hva) | (apply av_i; intro v) | (apply ac_i; intro bl cap hcap) | apply bo_l | (apply nx_i <;> intro hnx) | exact rt_w | apply dw_q mixed hC hGL (by kernel_rfl) | (apply cq; assumption; (first | exact h0); exact rfl))
   all_goals try conv => whnf
 | false =>
  have h0 := gw (G := G) hU t
  have hE : t.E = .errno 3 := by unfold Stm.E; rw [hf]; rfl
  rw [hE] at h0 ⊢
  rw [show t.T = [] by unfold Stm.T; rw [hf]; rfl]
  have hGL : ad G [] := ab
  refine fn_x Tryz.func111 Tryz.call111 rfl rfl rfl rfl hGL ?_
  intro C hC
  repeat' (first | (conv => whnf); first | refine .w ?_ | refine .v ?_ | refine sc_c ?_ ?_ <;> (intro hb; try exact dd hb) | apply ae | apply an | (apply sc_i <;> intro hb) | (apply bx_i; intro hbd) | (apply aj; first | exact h0) | (apply am (i := 0) rfl; first | exact h0) | (apply ab_i; intro bl) | (apply as_i; intro va vk vc hva) | (apply av_i; intro v) | (apply ac_i; intro bl cap hcap) | apply bo_l | (apply nx_i <;> intro hnx) | exact rt_w | apply dw_q mixed hC hGL (by kernel_rfl) | (apply cq; assumption; (first | exact h0); exact rfl))
  all_goals try conv => whnf
end
section
open Go Go.RowKit
def Fl (i : Nat) : List UInt8 := [[], [97], [97, 98], [97, 98, 99], [98], [98, 99], [99]].getD i []
def bg (i : Nat) : List UInt8 := [[], [57, 57, 57, 57], [57, 57, 57, 57, 45, 57, 57], [57, 57, 57, 57, 57, 57, 57, 57], [45, 45, 57, 57], [45, 45, 57, 57, 57, 57], [45, 45, 45, 57, 57]].getD i []
def clkF (i : Nat) : List UInt8 := [[], [57, 57], [57, 57, 57, 57], [57, 57, 57, 57, 57, 57], [45, 57, 57], [45, 57, 57, 57, 57], [45, 45, 57, 57]].getD i []
def rJ (i : Nat) : AVal := .agg [.str (Fl i), .str (bg i), .str (clkF i)]
def shapesTy : List (Nat × List AVal) := [(3, [.list 3 7 rJ])]
set_option maxHeartbeats 8000000
attribute [local irreducible] AWp AOps az OrOk ad ah
theorem ja {G : Glo} (hGL : ad G shapesTy) (a b c : Int) : FnIs Tryz.prog G 143 [Br a b c] (.int .i64 (whN (tlB a) (tlB b) (tlB c))) := by
 by_cases h1 : a = -1
 all_goals by_cases h2 : b = -1
 all_goals by_cases h3 : c = -1
 all_goals
  refine fn_x Tryz.func143 Tryz.call143 rfl rfl rfl rfl hGL ?_
  intro C hC
  repeat' (first | (conv => whnf); first | refine .w ?_ | refine .v ?_ | refine sc_c ?_ ?_ <;> (intro hb; try exact dd hb) | apply ae | apply an | (apply sc_i <;> intro hb) | (apply bx_i; intro hbd) | (apply aj; first | fail) | (apply am (i := 0) rfl; first | fail) | (apply ab_i; intro bl) | (apply as_i; intro va vk vc hva) | (apply av_i; intro v) | (apply ac_i; intro bl cap hcap) | apply bo_l | (apply nx_i <;> intro hnx) | exact rt_w | apply dw_q mixed hC hGL (by kernel_rfl) | (apply cq; assumption; (first | fail); exact rfl))
  all_goals try conv => whnf
  refine rds hC hGL 4 ?_
  repeat' (first | (conv => whnf); first | refine .w ?_ | refine .v ?_ | refine sc_c ?_ ?_ <;> (intro hb; try exact dd hb) | apply ae | apply an | (apply sc_i <;> intro hb) | (apply bx_i; intro hbd) | (apply aj; first | fail) | (apply am (i := 0) rfl; first | fail) | (apply ab_i; intro bl) | (apply as_i; intro va vk vc hva) | (apply av_i; intro v) | (apply ac_i; intro bl cap hcap) | apply bo_l | (apply nx_i <;> intro hnx) | exact rt_w | apply dw_q mixed hC hGL (by kernel_rfl) | (apply cq; assumption; (first | fail); exact rfl))
  all_goals try conv => whnf
  refine rds hC hGL 8 ?_
  repeat' (first | (conv => whnf); first | refine .w ?_ | refine .v ?_ | refine sc_c ?_ ?_ <;> (intro hb; try exact dd hb) | apply ae | apply an | (apply sc_i <;> intro hb) | (apply bx_i; intro hbd) | (apply aj; first | fail) | (apply am (i := 0) rfl; first | fail) | (apply ab_i; intro bl) | (apply as_i; intro va vk vc hva) | (apply av_i; intro v) | (apply ac_i; intro bl cap hcap) | apply bo_l | (apply nx_i <;> intro hnx) | exact rt_w | apply dw_q mixed hC hGL (by kernel_rfl) | (apply cq; assumption; (first | fail); exact rfl))
  all_goals try conv => whnf
  all_goals (apply al; simp only [tlB, h1, h2, h3, ne_eq, not_true_eq_false, not_false_eq_true, decide_true, decide_false]; rfl)
end
section
open Go Go.RowKit
set_option maxHeartbeats 8000000
attribute [local irreducible] AWp AOps az OrOk ad ah
def tstB (t : Stm) : Nat → Bool
 | 0 => witB t.y 0 9999
 | 1 => witB t.m 1 12
 | 2 => witB t.d 1 t.day
 | 3 => witB t.h 0 23
 | 4 => witB t.i 0 59
 | _ => witB t.s 0 59
theorem F8 {t : Stm} (h : ∀ j, j < 6 → tstB t j = true) (z : zrB t.o = true) : t.rng = true := by
 have h0 : witB t.y 0 9999 = true := h 0 (by decide)
 have h1 : witB t.m 1 12 = true := h 1 (by decide)
 have h2 : witB t.d 1 t.day = true := h 2 (by decide)
 have h3 : witB t.h 0 23 = true := h 3 (by decide)
 have h4 : witB t.i 0 59 = true := h 4 (by decide)
 have h5 : witB t.s 0 59 = true := h 5 (by decide)
 unfold Stm.rng
 rw [h0, h1, h2, h3, h4, h5, z]
 rfl
theorem lO {t : Stm} (j : Nat) (h : tstB t j = false) : t.rng = false := by
 unfold Stm.rng
 match j, h with
 | 0, h => have h : witB t.y 0 9999 = false := h; simp [h]
 | 1, h => have h : witB t.m 1 12 = false := h; simp [h]
 | 2, h => have h : witB t.d 1 t.day = false := h; simp [h]
 | 3, h => have h : witB t.h 0 23 = false := h; simp [h]
 | 4, h => have h : witB t.i 0 59 = false := h; simp [h]
 | n + 5, h => have h : witB t.s 0 59 = false := h; simp [h]
theorem G0 {t : Stm} (z : zrB t.o = false) : t.rng = false := by
 unfold Stm.rng
 rw [z]
 simp
theorem e_3 {t : Stm} (h : ¬ FrmP t.dn t.tn t.z t.h t.o) : t.e = 3 := by
 unfold Stm.e
 rw [if_neg (fun k => h ((fE t).1 k))]
theorem e_2 {t : Stm} (h : FrmP t.dn t.tn t.z t.h t.o) (k : t.rng = false) : t.e = 2 := by
 unfold Stm.e
 rw [if_pos ((fE t).2 h), k]
 rfl
theorem e_0 {t : Stm} (h : FrmP t.dn t.tn t.z t.h t.o) (k : t.rng = true) : t.e = 0 := by
 unfold Stm.e
 rw [if_pos ((fE t).2 h), k]
 rfl
theorem fZ {t : Stm} {k : Nat} (h : ∀ j, j < k → tstB t j = true) (hk : tstB t k = true) : ∀ j, j < k + 1 → tstB t j = true := by
 intro j hj
 rcases Nat.lt_or_ge j k with g | g
 ·exact h j g
 ·rw [show j = k by omega]
  exact hk
theorem GT {p q : Prop} [Decidable p] [Decidable q] : ((decide p && decide q) = true) ↔ p ∧ q := by simp
theorem GU {p q : Prop} [Decidable p] [Decidable q] : ((decide p && decide q) = false) ↔ ¬ (p ∧ q) := by simp
theorem wT {n lo hi : Int} (h : n = -1 ∨ lo ≤ n ∧ n ≤ hi) : witB n lo hi = true := nM.2 h
theorem wF {n lo hi : Int} (h : ¬ (n = -1 ∨ lo ≤ n ∧ n ≤ hi)) : witB n lo hi = false := FE.2 h
attribute [local irreducible] whN
theorem fN {G : Glo} (hS : ad G shapesTy) (t : Stm) : FnIs Tryz.prog G 88 [t.A] (.int .i64 t.e) := by
 have h1 := ja hS t.y t.m t.d
 have h2 := ja hS t.h t.i t.s
 have h3 := B9 (G := G) t.y t.m
 have k1 := fun n lo hi (_ : (0 : Int) ≤ 0) => cr (G := G) n lo hi
 have h5 := fM (G := G) t.o
 have hE3 := e_3 (t := t)
 have hE2 := e_2 (t := t)
 have hE0 := e_0 (t := t)
 unfold FrmP Stm.dn Stm.tn at hE3 hE2 hE0
 have hGL : ad G [] := ab
 refine fn_a Tryz.func88 Tryz.call88 rfl rfl rfl rfl ?_
 intro C hC
 refine cut hC hGL [(1, .rop t.R 0), (2, .int .i64 0)] [] True ?_ fun _ => ?_
 ·exact xw0
 refine cut hC hGL [(1, .rop t.R 0), (3, .int .i64 (whN (tlB t.y) (tlB t.m) (tlB t.d))), (4, .int .i64 (whN (tlB t.h) (tlB t.i) (tlB t.s)))] [] True ?_ fun _ => ?_
 ·refine xn1 ?_
  refine dw_p mixed hC hGL false (fun (_ : Unit) => [(1, .rop t.R 0), (3, .int .i64 (whN (tlB t.y) (tlB t.m) (tlB t.d))), (4, .int .i64 (whN (tlB t.h) (tlB t.i) (tlB t.s)))]) (fun _ => []) (.take 0 (.take 1 (.take 2 (.take 3 (.take 4 (.take 5 (.take 8 (.take 9 (.take 10 (.take 11 (.take 12 (.take 13 (.br 6 (.br 7 (.br 14 (.br 15 (.take 16 (.take 17 (.done))) (.nil)) (.nil)) (.br 14 (.br 7 (.br 15 (.take 16 (.take 17 (.done))) (.nil)) (.nil)) (.nil))) (.br 14 (.br 6 (.br 7 (.br 15 (.take 16 (.take 17 (.done))) (.nil)) (.nil)) (.nil)) (.nil))))))))))))))) (by kernel_rfl) ?_ ?_
  ·refine xn ?_
   repeat' (first | exact Le.n | refine Lc.mk ?_ ?_)
   all_goals intros
   all_goals exact ⟨(), ⟨rfl, rfl, rfl, trivial⟩, rfl⟩
  ·intro _
   exact xn0
 clear h1 h2
 generalize whN (tlB t.y) (tlB t.m) (tlB t.d) = D at *
 generalize whN (tlB t.h) (tlB t.i) (tlB t.s) = T at *
 refine cut hC hGL [(1, .rop t.R 0), (3, .int .i64 D), (4, .int .i64 T)] [] (0 ≤ D ∧ 0 ≤ T ∧ ¬ (D = 0 ∧ T = 0)) ?_ fun p1 => ?_
 ·clear hE2 hE0
  refine xw ?_
  repeat' (first | exact Le.n | refine Lc.mk ?_ ?_)
  all_goals intros
  all_goals first | omega | (apply al; refine congrArg (AVal.int .i64) ?_; rw [hE3 (fun k => by have := k.1; omega)])
 refine cut hC hGL [(1, .rop t.R 0), (3, .int .i64 D), (4, .int .i64 T)] [] (0 < D ∧ 0 < T → (D = 3 ∨ D = 5 ∨ D = 6) ∧ T ≤ 3) ?_ fun p2 => ?_
 ·clear hE2 hE0
  refine xw ?_
  repeat' (first | exact Le.n | refine Lc.mk ?_ ?_)
  all_goals intros
  all_goals first | omega | (apply al; refine congrArg (AVal.int .i64) ?_; rw [hE3 (fun k => by have := k.1.2.2.2; omega)])
 refine cut hC hGL [(1, .rop t.R 0)] [] ((t.z = true → t.h ≠ -1) ∧ (t.z = false → t.o = 0)) ?_ fun p3 => ?_
 ·clear hE2 hE0 p1 p2
  refine xw ?_
  repeat' (first | exact Le.n | refine Lc.mk ?_ ?_)
  all_goals intros
  all_goals first
   | exact Bool.noConfusion ((show t.z = true by assumption).symm.trans (show t.z = false by assumption))
   | exact ⟨fun _ => by assumption, fun k => Bool.noConfusion ((show t.z = true by assumption).symm.trans k)⟩
   | exact ⟨fun k => Bool.noConfusion (k.symm.trans (show t.z = false by assumption)), fun _ => by assumption⟩
   | (apply al; refine congrArg (AVal.int .i64) ?_; rw [hE3 (fun k => by have := k.2; rw [if_pos (by assumption)] at this; omega)])
   | (apply al; refine congrArg (AVal.int .i64) ?_; rw [hE3 (fun k => by have := k.2; rw [if_neg (by rw [show t.z = false by assumption]; decide)] at this; omega)])
 have hF : (0 ≤ D ∧ 0 ≤ T ∧ ¬ (D = 0 ∧ T = 0) ∧ (0 < D ∧ 0 < T → (D = 3 ∨ D = 5 ∨ D = 6) ∧ T ≤ 3)) ∧ (if t.z = true then t.h ≠ -1 else t.o = 0) := by
  refine ⟨⟨p1.1, p1.2.1, p1.2.2, p2⟩, ?_⟩
  split
  ·exact p3.1 (by assumption)
  ·rename_i k
   exact p3.2 (by simpa using k)
 have key2 := hE2 hF
 have key0 := hE0 hF
 clear hE2 hE0 hE3 hF p1 p2 p3
 refine cut hC hGL [(1, .rop t.R 0), (5, .int .i64 31)] [] True ?_ fun _ => ?_
 ·exact xw0
 refine cuty hC hGL (fun q : Int => [(1, .rop t.R 0), (5, .int .i64 q)]) (fun _ => []) (fun q => q = t.day) ?_ fun q hq => ?_
 ·refine xw ?_
  repeat' (first | exact Le.n | refine Lc.mk ?_ ?_)
  all_goals intros
  all_goals first
   | exact cy _ (by unfold Stm.day; rw [if_neg (by assumption)])
   | exact cy _ (by unfold Stm.day; rw [if_pos (by assumption)])
 subst hq
 refine cut hC hGL [(1, .rop t.R 0)] [] (∀ j, j < 6 → tstB t j = true) ?_ fun hj => ?_
 ·refine xw1 ?_
  refine lp hC hGL (fun (k : Nat) => [(1, .rop t.R 0), (104, _), (105, .int .i64 6), (106, .int .i64 (k : Nat))]) (fun _ => []) (fun k => k ≤ 6 ∧ ∀ j, j < k → tstB t j = true) (fun k => 6 - k) 0 ?_ ak rfl ?_
  ·exact ⟨by omega, fun j hj => absurd hj (by omega)⟩
  rintro k ⟨hk, hj⟩
  rcases (show k = 0 ∨ k = 1 ∨ k = 2 ∨ k = 3 ∨ k = 4 ∨ k = 5 ∨ k = 6 by omega) with rfl | rfl | rfl | rfl | rfl | rfl | rfl
  all_goals
   refine xw ?_
   repeat' (first | exact Le.n | refine Lc.mk ?_ ?_)
   all_goals intros
   all_goals try simp only [GT, GU] at *
   all_goals first
    | exact hj _ (by assumption)
    | exact nxs 1 ⟨by decide, fZ hj (wT (by omega))⟩ (by decide) ak aS
    | exact nxs 2 ⟨by decide, fZ hj (wT (by omega))⟩ (by decide) ak aS
    | exact nxs 3 ⟨by decide, fZ hj (wT (by omega))⟩ (by decide) ak aS
    | exact nxs 4 ⟨by decide, fZ hj (wT (by omega))⟩ (by decide) ak aS
    | exact nxs 5 ⟨by decide, fZ hj (wT (by omega))⟩ (by decide) ak aS
    | exact nxs 6 ⟨by decide, fZ hj (wT (by omega))⟩ (by decide) ak aS
    | (apply al; refine congrArg (AVal.int .i64) ?_; first
     | rw [key2 (lO 0 (wF (by omega)))]
     | rw [key2 (lO 1 (wF (by omega)))]
     | rw [key2 (lO 2 (wF (by omega)))]
     | rw [key2 (lO 3 (wF (by omega)))]
     | rw [key2 (lO 4 (wF (by omega)))]
     | rw [key2 (lO 5 (wF (by omega)))])
 refine bw hC hGL ?_
 refine xw ?_
 repeat' (first | exact Le.n | refine Lc.mk ?_ ?_)
 all_goals intros
 all_goals (apply al; refine congrArg (AVal.int .i64) ?_; first | rw [key0 (F8 hj (by assumption))] | rw [key2 (G0 (by assumption))])
end
section
open Go Go.RowKit
set_option maxHeartbeats 8000000
attribute [local irreducible] AWp AOps az OrOk ad ah aa
theorem ks {G : Glo} (hP : co G) (n : Nat) (hn : n ≤ 9223372036854775807) : FnIs Tryz.prog G 186 [.int .i64 (n : Int), .int .i64 10] (.str (Lib.decDigits n)) := by
 refine bi rfl Tryz.call186 ?_
 intro R args hr w hG hs
 obtain ⟨x, t, e, hx, y, t', e', hy, rfl⟩ := hr
 have hx := aq.1 hx
 have hy := aq.1 hy
 subst hx hy
 obtain rfl : args = #[.int .i64 (n : Int), .int .i64 10] := by cases args; simp_all
 have ht : Lib.TabIs Tryz.prog w "internal/strconv.uint64pow10" .u64 Lib.pow10Tab := by
  obtain ⟨e, fz, hR⟩ := hP R hG
  have hg : Tryz.prog.globalNamed "internal/strconv.uint64pow10" = some 7 := by kernel_rfl
  show w.var? Tryz.prog "internal/strconv.uint64pow10" = _
  simp only [World.var?, hg, Option.bind_some, hs _ _ hR]
 refine (Tryz.strconv_FormatInt_10 n (by omega) (by omega) w ht).mono ?_
 rintro e w' ⟨rfl, k, os, rfl⟩
 refine ⟨?_, ⟨rfl, rfl, rfl, ?_, fun b hb => ?_⟩⟩
 ·have : Lib.itoa (n : Int) = Lib.decDigits n := by unfold Lib.itoa; rw [if_neg (by omega)]; rfl
  rw [this]
  rfl
 ·show w.heap.size ≤ (w.heap ++ os).size
  rw [Array.size_append]; omega
 ·show (w.heap ++ os)[b]? = w.heap[b]?
  rw [Array.getElem?_append_left hb]
theorem ig {i : Nat} (h : 100 ≤ i) (h1 : i < 1000) : Lib.decDigits i = [UInt8.ofNat (48 + i / 100), UInt8.ofNat (48 + i / 10 % 10), UInt8.ofNat (48 + i % 10)] := by
 rw [Lib.decDigits, dif_neg (by omega), fP (by omega) (by omega), show i / 10 / 10 = i / 100 by omega]
 rfl
theorem pn {i : Nat} (h : 1000 ≤ i) (h1 : i < 10000) : Lib.decDigits i = [UInt8.ofNat (48 + i / 1000), UInt8.ofNat (48 + i / 100 % 10), UInt8.ofNat (48 + i / 10 % 10), UInt8.ofNat (48 + i % 10)] := by
 rw [Lib.decDigits, dif_neg (by omega), ig (by omega) (by omega), show i / 10 / 10 % 10 = i / 100 % 10 by omega, show i / 10 / 100 = i / 1000 by omega]
 rfl
theorem AF (i : Nat) : eb (i : Int) = [UInt8.ofNat (48 + i / 1000), UInt8.ofNat (48 + i / 100 % 10), UInt8.ofNat (48 + i / 10 % 10), UInt8.ofNat (48 + i % 10)] := by
 unfold eb aU
 simp only [List.map]
 rw [show (48 + (i : Int) / 1000).toNat = 48 + i / 1000 by omega, show (48 + (i : Int) / 100 % 10).toNat = 48 + i / 100 % 10 by omega, show (48 + (i : Int) / 10 % 10).toNat = 48 + i / 10 % 10 by omega, show (48 + (i : Int) % 10).toNat = 48 + i % 10 by omega]
theorem na {G : Glo} (hP : co G) (i : Nat) (h1 : i < 10000) : FnIs Tryz.prog G 147 [.int .i64 (i : Int), .int .i64 10, .int .i64 4] (.str (eb i)) := by
 have hf := ks (G := G) hP i (by omega)
 rw [AF]
 by_cases h2 : i < 10
 ·rw [fQ h2] at hf
  have hGL : ad G [] := ab
  refine fn_x Tryz.func147 Tryz.call147 rfl rfl rfl rfl hGL ?_
  intro C hC
  repeat' (first | (conv => whnf); first | refine .w ?_ | refine .v ?_ | refine sc_c ?_ ?_ <;> (intro hb; try exact dd hb) | apply ae | apply an | (apply sc_i <;> intro hb) | (apply bx_i; intro hbd) | (apply aj; first | exact hf) | (apply am (i := 0) rfl; first | exact hf) | (apply ab_i; intro bl) | (apply as_i; intro va vk vc hva) | (apply av_i; intro v) | (apply ac_i; intro bl cap hcap) | apply bo_l | (apply nx_i <;> intro hnx) | exact rt_w | apply dw_q mixed hC hGL (by kernel_rfl) | (apply cq; assumption; (first | exact hf); exact rfl))
  all_goals try conv => whnf
  refine rds hC hGL 4 ?_
  repeat' (first | (conv => whnf); first | refine .w ?_ | refine .v ?_ | refine sc_c ?_ ?_ <;> (intro hb; try exact dd hb) | apply ae | apply an | (apply sc_i <;> intro hb) | (apply bx_i; intro hbd) | (apply aj; first | fail) | (apply am (i := 0) rfl; first | fail) | (apply ab_i; intro bl) | (apply as_i; intro va vk vc hva) | (apply av_i; intro v) | (apply ac_i; intro bl cap hcap) | apply bo_l | (apply nx_i <;> intro hnx) | exact rt_w | apply dw_q mixed hC hGL (by kernel_rfl) | (apply cq; assumption; (first | fail); exact rfl))
  all_goals try conv => whnf
  apply al
  rw [show i / 1000 = 0 by omega, show i / 100 % 10 = 0 by omega, show i / 10 % 10 = 0 by omega, show i % 10 = i by omega]
  rfl
 by_cases h3 : i < 100
 ·rw [fP (by omega) h3] at hf
  have hGL : ad G [] := ab
  refine fn_x Tryz.func147 Tryz.call147 rfl rfl rfl rfl hGL ?_
  intro C hC
  repeat' (first | (conv => whnf); first | refine .w ?_ | refine .v ?_ | refine sc_c ?_ ?_ <;> (intro hb; try exact dd hb) | apply ae | apply an | (apply sc_i <;> intro hb) | (apply bx_i; intro hbd) | (apply aj; first | exact hf) | (apply am (i := 0) rfl; first | exact hf) | (apply ab_i; intro bl) | (apply as_i; intro va vk vc hva) | (apply av_i; intro v) | (apply ac_i; intro bl cap hcap) | apply bo_l | (apply nx_i <;> intro hnx) | exact rt_w | apply dw_q mixed hC hGL (by kernel_rfl) | (apply cq; assumption; (first | exact hf); exact rfl))
  all_goals try conv => whnf
  refine rds hC hGL 3 ?_
  repeat' (first | (conv => whnf); first | refine .w ?_ | refine .v ?_ | refine sc_c ?_ ?_ <;> (intro hb; try exact dd hb) | apply ae | apply an | (apply sc_i <;> intro hb) | (apply bx_i; intro hbd) | (apply aj; first | fail) | (apply am (i := 0) rfl; first | fail) | (apply ab_i; intro bl) | (apply as_i; intro va vk vc hva) | (apply av_i; intro v) | (apply ac_i; intro bl cap hcap) | apply bo_l | (apply nx_i <;> intro hnx) | exact rt_w | apply dw_q mixed hC hGL (by kernel_rfl) | (apply cq; assumption; (first | fail); exact rfl))
  all_goals try conv => whnf
  apply al
  rw [show i / 1000 = 0 by omega, show i / 100 % 10 = 0 by omega, show i / 10 % 10 = i / 10 by omega]
  rfl
 by_cases h4 : i < 1000
 ·rw [ig (by omega) h4] at hf
  have hGL : ad G [] := ab
  refine fn_x Tryz.func147 Tryz.call147 rfl rfl rfl rfl hGL ?_
  intro C hC
  repeat' (first | (conv => whnf); first | refine .w ?_ | refine .v ?_ | refine sc_c ?_ ?_ <;> (intro hb; try exact dd hb) | apply ae | apply an | (apply sc_i <;> intro hb) | (apply bx_i; intro hbd) | (apply aj; first | exact hf) | (apply am (i := 0) rfl; first | exact hf) | (apply ab_i; intro bl) | (apply as_i; intro va vk vc hva) | (apply av_i; intro v) | (apply ac_i; intro bl cap hcap) | apply bo_l | (apply nx_i <;> intro hnx) | exact rt_w | apply dw_q mixed hC hGL (by kernel_rfl) | (apply cq; assumption; (first | exact hf); exact rfl))
  all_goals try conv => whnf
  refine rds hC hGL 2 ?_
  repeat' (first | (conv => whnf); first | refine .w ?_ | refine .v ?_ | refine sc_c ?_ ?_ <;> (intro hb; try exact dd hb) | apply ae | apply an | (apply sc_i <;> intro hb) | (apply bx_i; intro hbd) | (apply aj; first | fail) | (apply am (i := 0) rfl; first | fail) | (apply ab_i; intro bl) | (apply as_i; intro va vk vc hva) | (apply av_i; intro v) | (apply ac_i; intro bl cap hcap) | apply bo_l | (apply nx_i <;> intro hnx) | exact rt_w | apply dw_q mixed hC hGL (by kernel_rfl) | (apply cq; assumption; (first | fail); exact rfl))
  all_goals try conv => whnf
  apply al
  rw [show i / 1000 = 0 by omega, show i / 100 % 10 = i / 100 by omega]
  rfl
 ·rw [pn (by omega) h1] at hf
  have hGL : ad G [] := ab
  refine fn_x Tryz.func147 Tryz.call147 rfl rfl rfl rfl hGL ?_
  intro C hC
  repeat' (first | (conv => whnf); first | refine .w ?_ | refine .v ?_ | refine sc_c ?_ ?_ <;> (intro hb; try exact dd hb) | apply ae | apply an | (apply sc_i <;> intro hb) | (apply bx_i; intro hbd) | (apply aj; first | exact hf) | (apply am (i := 0) rfl; first | exact hf) | (apply ab_i; intro bl) | (apply as_i; intro va vk vc hva) | (apply av_i; intro v) | (apply ac_i; intro bl cap hcap) | apply bo_l | (apply nx_i <;> intro hnx) | exact rt_w | apply dw_q mixed hC hGL (by kernel_rfl) | (apply cq; assumption; (first | exact hf); exact rfl))
  all_goals try conv => whnf
  refine rds hC hGL 1 ?_
  repeat' (first | (conv => whnf); first | refine .w ?_ | refine .v ?_ | refine sc_c ?_ ?_ <;> (intro hb; try exact dd hb) | apply ae | apply an | (apply sc_i <;> intro hb) | (apply bx_i; intro hbd) | (apply aj; first | fail) | (apply am (i := 0) rfl; first | fail) | (apply ab_i; intro bl) | (apply as_i; intro va vk vc hva) | (apply av_i; intro v) | (apply ac_i; intro bl cap hcap) | apply bo_l | (apply nx_i <;> intro hnx) | exact rt_w | apply dw_q mixed hC hGL (by kernel_rfl) | (apply cq; assumption; (first | fail); exact rfl))
  all_goals try conv => whnf
end
end Go.Proofs.YtahebkecmlmlfaaGreatDoor
