/- Parts of the proof of cardItems_card: Rub, Ruc, Mx0, Spl, Rud, Rue, Ruf, Rug, Ruj, Zon, Whp, Spm, Bu, Vr, Bw, Bx, Crl. -/
import Derived.Lib.ItoaNum
import Derived.Lib.Split
import Derived.Lib.LaidTab
import Derived.Lib.Builder
import Derived.Lib.UnsafeStr
import Derived.Scope
import Derived.Lib.IndexAny
import Derived.Test.YtkelbglfhigmiaaGreatDoorBah
import Derived.Test.YtkelbglfhigmiaaGreatDoorBaf
import Derived.Test.YtkelbglfhigmiaaGreatDoorBae
import Derived.Test.YtkelbglfhigmiaaGreatDoorBad
import Derived.Test.YtkelbglfhigmiaaGreatDoorBag
set_option linter.unusedVariables false
set_option linter.unusedSimpArgs false
set_option linter.unusedSectionVars false
namespace Go.Proofs.YtkelbglfhigmiaaGreatDoor
set_option maxRecDepth 20000
set_option maxHeartbeats 4000000
section
open Go Go.RowKit
theorem tX {s : List UInt8} {j : Nat} {c : UInt8} (hj : j < s.length) (h : c ∉ s) : (aa s j : Int) ≠ (c.toNat : Int) := by
 intro e
 apply h
 have e1 : aa s j = (s[j]).toNat := by simp [aa, List.getD, hj]
 have e2 : (s[j]).toNat = c.toNat := by rw [← e1]; omega
 rw [← UInt8.toNat_inj.1 e2]
 exact List.getElem_mem hj
theorem BS {r t : List UInt8} {c : UInt8} (h : c ∉ r) : idxB (r ++ c :: t) (c.toNat : Int) = (r.length : Nat) := by
 refine qY (by simp) ?_ fun j hj => ?_
 ·simp [aa, List.getD]
 ·have := tX hj h
  rwa [show aa (r ++ c :: t) j = aa r j by simp [aa, List.getD, List.getElem?_append_left hj]]
theorem D8 {r : List UInt8} {c : UInt8} (h : c ∉ r) : idxB r (c.toNat : Int) = -1 := pO fun j hj => tX hj h
/-! ## Yields in another order of what is owned -/
theorem ut {P : Program} {G : Glo} {L : Nat} {avs : List AVal} {H : Heap} {Q Q' : Bool → Heap → Prop} (h : iT P G L avs H Q) (hq : ∀ b H', Q b H' → ∃ H2, H'.Perm H2 ∧ Q' b H2) : iT P G L avs H Q' := by
 intro R w args hG hm ha
 obtain ⟨fn, tm, ag, bd, hy, hr⟩ := h R w args hG hm ha
 exact ⟨fn, tm, ag, bd, hy, hr.mono fun e w' ⟨b, H', R', q, er, hm'⟩ => let ⟨H2, hp, q'⟩ := hq _ _ q; ⟨b, H2, R', q', er, hm'.perm hp⟩⟩
theorem E8 {P : Program} [Tab P] {G : Glo} {L : Nat} {avs : List AVal} {H1 H2 : Heap} {Q : Bool → Heap → Prop} (hp : H1.Perm H2) (h : iT P G L avs H1 Q) : iT P G L avs H2 Q := by
 have hb : ∀ k, k ∈ blks H2 ↔ k ∈ blks H1 := fun k => by
  have := (hp.filterMap HEnt.blk).mem_iff (a := k)
  exact this.symm
 intro R w args hG hm ha
 obtain ⟨fn, tm, ag, bd, hy, hr⟩ := h R w args hG ((hm.perm hp.symm).blks_iff hb) ha
 exact ⟨fn, tm, ag, bd, hy, hr.mono fun e w' ⟨b, H', R', q, er, hm'⟩ => ⟨b, H', R', q, er, hm'.blks_iff fun k => (hb k).symm⟩⟩
theorem F8 {P : Program} [Tab P] {G : Glo} {f : FuncId} {avs : List AVal} (H : Heap) {X : Type} {N : X → Heap} {v v' : X → AVal} (hs : ae P G f avs [] (fun r H' => ∃ x, r = .ret (v x) ∧ H' = N x)) (hv : ∀ x R u, Rel R (v x) u → Rel R (v' x) u) :
  ae P G f avs H (fun r H' => ∃ x, r = .ret (v' x) ∧ H' = H ++ N x) := by
 intro R w args hG hm ha
 rcases cf H hs R w args hG hm ha with ⟨h1, h2⟩ | ⟨u, w', h1, res, H', R', ⟨H1, ⟨x, rfl, rfl⟩, rfl⟩, er, hm'⟩
 ·refine .inl ⟨h1, h2.mono ?_⟩
  rintro e w' ⟨res, H', R', ⟨H1, ⟨x, rfl, rfl⟩, rfl⟩, ⟨y, e1, hr⟩, hm'⟩
  exact ⟨.ret (v' x), _, R', ⟨x, rfl, rfl⟩, ⟨y, e1, hv x R' y hr⟩, hm'.perm List.perm_append_comm⟩
 ·obtain ⟨y, e1, hr⟩ := er
  exact .inr ⟨u, w', h1, .ret (v' x), _, R', ⟨x, rfl, rfl⟩, ⟨y, e1, hv x R' y hr⟩, hm'.perm List.perm_append_comm⟩
theorem Ck {P : Program} [Tab P] {G : Glo} {f : FuncId} {avs : List AVal} {H : Heap} {K Kp : AVal → Heap → Prop} {X : Type} {N : X → Heap} {v : X → AVal} (v' : X → AVal) (hs : ae P G f avs [] (fun r H' => ∃ x, r = .ret (v x) ∧ H' = N x)) (hv : ∀ x R u, Rel R (v x) u → Rel R (v' x) u) (k : ∀ x, K (v' x) (H ++ N x)) : Cx P G f avs H K Kp := by
 refine .mk _ (F8 H hs hv) ?_ ?_
 ·rintro u H' ⟨x, e, rfl⟩; cases e; exact k x
 ·rintro u H' ⟨x, e, rfl⟩; cases e
abbrev sqS (b : Nat) (s : List UInt8) : HEnt := .cells b (some 9) [.str s]
abbrev sqI (b : Nat) (m : Int) : HEnt := .cells b (some 3) [.int .i64 m]
abbrev sqP (b : Nat) : Value := .pointer (some ⟨b, 0, none⟩)
attribute [local irreducible] AWp AOps aa ax OrOk ab ae
attribute [local irreducible] AWpR iT
theorem me {G : Glo} (s : List UInt8) (c : UInt8) : FnIs Tryz.prog G 74 [.str s, .str [c]] (.int .i64 (idxB s (c.toNat : Int))) := by
 have k1 := ke (G := G) s c
 have hGL : ab G [] := ad
 refine fn_x Tryz.func74 Tryz.call74 rfl rfl rfl rfl hGL ?_
 intro C hC
 exact xw0
theorem la {G : Glo} (s : List UInt8) (c : UInt8) : ae Tryz.prog G 130 [.str s, .str [c], .int .i64 0] []
  (fun r H => ∃ x : Nat × Nat × Nat, r = .ret (.func (.func 170) [] [.own 1 (sqP x.2.1), .own 0 (sqP x.1), .own 2 (sqP x.2.2)]) ∧ H = [sqS x.1 s, sqS x.2.1 [c], sqI x.2.2 0]) := by
 have hGL : ab G [] := ad
 refine fn_x Tryz.func130 Tryz.call130 rfl rfl rfl rfl hGL ?_
 intro C hC
 refine xb1 ?_
 intro b0 b1 b2
 intros
 exact ⟨_, List.Sublist.refl _, (b0, b1, b2), rfl, rfl⟩
theorem lc {G : Glo} (s : List UInt8) (c : UInt8) : ae Tryz.prog G 92 [.str s, .str [c]] []
  (fun r H => ∃ x : Nat × Nat × Nat, r = .ret (.func (.func 170) [] [.own 1 (sqP x.2.1), .own 0 (sqP x.1), .own 2 (sqP x.2.2)]) ∧ H = [sqS x.1 s, sqS x.2.1 [c], sqI x.2.2 0]) := by
 have h1 := la (G := G) s c
 have hGL : ab G [] := ad
 refine fn_x Tryz.func92 Tryz.call92 rfl rfl rfl rfl hGL ?_
 intro C hC
 refine xn1 ?_
 refine Ck (fun x : Nat × Nat × Nat => .func (.func 170) [] [.own 1 (sqP x.2.1), .own 0 (sqP x.1), .own 2 (sqP x.2.2)]) h1 (fun _ _ _ h => h) ?_
 rintro ⟨b0, b1, b2⟩
 refine xn1 ?_
 exact ⟨_, List.Sublist.refl _, (b0, b1, b2), rfl, rfl⟩
theorem oE {G : Glo} (L b0 b1 b2 : Nat) (c : UInt8) (rows : List (List UInt8)) (hne : 0 < rows.length) (hno : ∀ k, c ∉ rows.getD k []) (hlen : ∀ k, (cp c (rows.drop k)).length ≤ 1000000) {Y Z : Type} (J : Y → Heap) (E : Z → Heap) (Inv : Nat → Y → Prop) (y0 : Y) (h0 : Inv 0 y0)
  (hy : ∀ (k : Nat) (s' : List UInt8) (y : Y), k < rows.length → Inv k y → iT Tryz.prog G L [.str (rows.getD k [])] (sqS b0 s' :: sqS b1 [c] :: sqI b2 0 :: J y) (fun b H' => (b = true ∧ ∃ y', Inv (k + 1) y' ∧ H' = sqS b0 s' :: sqS b1 [c] :: sqI b2 0 :: J y') ∨ (b = false ∧ ∃ z, H' = sqS b0 s' :: sqS b1 [c] :: sqI b2 0 :: E z))) :
  ae Tryz.prog G 170 [.func (.yield L) [] [], .own 1 (sqP b1), .own 0 (sqP b0), .own 2 (sqP b2)] (sqS b0 (cp c rows) :: sqS b1 [c] :: sqI b2 0 :: J y0)
   (fun r H' => r = .ret (.tuple []) ∧ ∃ s', (∃ y, Inv rows.length y ∧ H' = sqS b0 s' :: sqS b1 [c] :: sqI b2 0 :: J y) ∨ ∃ z, H' = sqS b0 s' :: sqS b1 [c] :: sqI b2 0 :: E z) := by
 have k1 := fun s => me (G := G) s c
 have hGL : ab G [] := ad
 refine fn_a Tryz.func170 Tryz.call170 rfl rfl rfl rfl ?_
 intro C hC
 refine cut hC hGL [(0, .func (.yield L) [] []), (1, .own 1 (sqP b1)), (2, .own 0 (sqP b0)), (3, .own 2 (sqP b2))] (sqS b0 (cp c rows) :: sqS b1 [c] :: sqI b2 0 :: J y0) True xn0 fun _ => ?_
 refine jW (kV (ox (X := Nat × Y) (fun x => [(0, .func (.yield L) [] []), (1, .own 1 (sqP b1)), (2, .own 0 (sqP b0)), (3, .own 2 (sqP b2))]) (fun x => sqS b0 (cp c (rows.drop x.1)) :: sqS b1 [c] :: sqI b2 0 :: J x.2) (fun x => x.1 < rows.length ∧ Inv x.1 x.2) (fun x => rows.length - x.1) (0, y0) ⟨hne, h0⟩ aj (List.Sublist.refl _) ?_))
 rintro ⟨k, y⟩ ⟨hk, hI⟩
 dsimp only at hk hI ⊢
 refine kV ?_
 by_cases hl : k + 1 < rows.length
 ·have e1 := vM (c := c) hl
  have hi := BS (r := rows.getD k []) (t := cp c (rows.drop (k + 1))) (hno k)
  have hln := hlen k
  rw [← e1] at hi
  have k2 := k1 (cp c (rows.drop k))
  rw [hi] at k2
  have hy1 := hy k (cp c (rows.drop k)) y hk hI
  have e3 : (cp c (rows.drop k)).take (rows.getD k []).length = rows.getD k [] := by rw [e1, List.take_left]
  have e4 : (cp c (rows.drop k)).drop ((rows.getD k []).length + 1) = cp c (rows.drop (k + 1)) := by
   rw [e1, ← List.drop_drop, List.drop_left]; rfl
  have e5 : (rows.getD k []).length + 1 ≤ (cp c (rows.drop k)).length := by rw [e1]; simp
  generalize hsr : cp c (rows.drop k) = s at *
  generalize hr : rows.getD k [] = r at *
  refine cut hC hGL [(0, .func (.yield L) [] []), (1, .own 1 (sqP b1)), (2, .own 0 (sqP b0)), (3, .own 2 (sqP b2)), (7, .int .i64 (r.length : Nat))] (sqS b0 s :: sqS b1 [c] :: sqI b2 0 :: J y) True xn0 fun _ => ?_
  refine cut hC hGL [(0, .func (.yield L) [] []), (1, .own 1 (sqP b1)), (2, .own 0 (sqP b0)), (3, .own 2 (sqP b2)), (7, .int .i64 (r.length : Nat))] (sqS b0 s :: sqS b1 [c] :: sqI b2 0 :: J y) True xn0 fun _ => ?_
  refine cut hC hGL [(0, .func (.yield L) [] []), (1, .own 1 (sqP b1)), (2, .own 0 (sqP b0)), (3, .own 2 (sqP b2)), (7, .int .i64 (r.length : Nat)), (8, .str (s.take r.length))] (sqS b0 s :: sqS b1 [c] :: sqI b2 0 :: J y) True xn0 fun _ => ?_
  rw [e3]
  refine jW (jW (uh 2 hC hGL rfl rfl (by kernel_rfl) ?_))
  refine xn1 ?_
  refine ⟨L, _, rfl, rfl, ut hy1 ?_⟩
  rintro b H' (⟨rfl, y', hy', rfl⟩ | ⟨rfl, z, rfl⟩)
  ·refine ⟨_, List.Perm.refl _, ?_⟩
   refine xn1 ?_
   refine aH hC hGL (xn1 ?_)
   refine aH hC hGL (xn1 ?_)
   rw [aP]
   refine ⟨(k + 1, y'), ⟨hl, hy'⟩, by show rows.length - (k + 1) < rows.length - k; omega, aj, ?_⟩
   show List.Sublist (sqS b0 (cp c (rows.drop (k + 1))) :: sqS b1 [c] :: sqI b2 0 :: J y') _
   rw [← e4]
   exact List.Sublist.refl _
  ·refine ⟨_, List.Perm.refl _, ?_⟩
   refine xn1 ?_
   refine aH hC hGL (xn1 ?_)
   exact ⟨_, List.Sublist.refl _, rfl, s, .inr ⟨z, rfl⟩⟩
 ·have e1 := vL (c := c) (l := rows) (k := k) (by omega)
  have hi := D8 (hno k)
  rw [← e1] at hi
  have k2 := k1 (cp c (rows.drop k))
  rw [hi] at k2
  have hy1 := hy k (cp c (rows.drop k)) y hk hI
  rw [← e1] at hy1
  have hkl : k + 1 = rows.length := by omega
  generalize cp c (rows.drop k) = s at *
  refine cut hC hGL [(0, .func (.yield L) [] []), (1, .own 1 (sqP b1)), (2, .own 0 (sqP b0)), (3, .own 2 (sqP b2)), (7, .int .i64 (-1))] (sqS b0 s :: sqS b1 [c] :: sqI b2 0 :: J y) True xn0 fun _ => ?_
  refine aH hC hGL (xn1 ?_)
  intro _
  refine ⟨fun h => absurd h (by decide), fun _ => ⟨fun _ => ?_, fun h => absurd rfl h⟩⟩
  refine uh 2 hC hGL rfl rfl (by kernel_rfl) ?_
  refine xn1 ?_
  refine ⟨L, _, rfl, rfl, ut hy1 ?_⟩
  rintro b H' (⟨rfl, y', hy', rfl⟩ | ⟨rfl, z, rfl⟩)
  ·refine ⟨_, List.Perm.refl _, ?_⟩
   refine xn1 ?_
   rw [hkl] at hy'
   exact ⟨_, List.Sublist.refl _, rfl, s, .inl ⟨y', hy', rfl⟩⟩
  ·refine ⟨_, List.Perm.refl _, ?_⟩
   refine xn1 ?_
   exact ⟨_, List.Sublist.refl _, rfl, s, .inr ⟨z, rfl⟩⟩
end
section
open Go Go.RowKit
theorem yb {P : Program} {G : Glo} {f : FuncId} {avs avs' : List AVal} {H : Heap} {Qf : ARes → Heap → Prop} (h : ae P G f avs H Qf) (ha : ∀ R vs, RelV R avs' vs → RelV R avs vs) : ae P G f avs' H Qf :=
 fun R w args hG hm h2 => h R w args hG hm (ha R _ h2)
def su (x : List UInt8 × Rl) : Bool := !(txtR x).contains 124 && decide ((cutB (txtR x) 32).1 = x.1) && (txtR x).all (fun c => decide (c.toNat < 128)) && decide ((txtR x).length ≤ 60) &&
 decide (Lib.fields (txtR x) = [x.1, [digC x.2.t], [digC x.2.a], [digC x.2.b], [digC x.2.p]]) && decide (0 ≤ x.2.t ∧ x.2.t < 10 ∧ 0 ≤ x.2.a ∧ x.2.a < 10 ∧ 0 ≤ x.2.b ∧ x.2.b < 10 ∧ 0 ≤ x.2.p ∧ x.2.p < 10)
theorem mC {v : Int} (hv : v = 3 ∨ v = 4) : (rowV v).all su = true ∧ (rowV v).length ≤ 36 ∧ 0 < (rowV v).length := by
 rcases hv with rfl | rfl
 ·exact ⟨by decide +kernel, by decide +kernel, by decide +kernel⟩
 ·exact ⟨by decide +kernel, by decide +kernel, by decide +kernel⟩
theorem AN {v : Int} (hv : v = 3 ∨ v = 4) {k : Nat} (hk : k < (rowV v).length) : su (rowV v)[k] = true := List.all_eq_true.1 (mC hv).1 _ (List.getElem_mem hk)
theorem j9 {v : Int} {k : Nat} (hk : k < (rowV v).length) : (tabR v).getD k [] = txtR (rowV v)[k] := by
 unfold tabR
 rw [List.getD_eq_getElem?_getD, List.getElem?_map, List.getElem?_eq_getElem hk]
 rfl
theorem pL (c : UInt8) {m : Nat} : ∀ l : List (List UInt8), (∀ x ∈ l, x.length ≤ m) → (cp c l).length ≤ l.length * (m + 1)
 | [], _ => Nat.zero_le _
 | [x], h => by
  have := h x (List.mem_singleton.2 rfl)
  simp only [cp, List.length_cons, List.length_nil]
  omega
 | x :: y :: t, h => by
  have h1 := h x (List.mem_cons_self ..)
  have ih := pL c (m := m) (y :: t) fun z hz => h z (List.mem_cons_of_mem _ hz)
  simp only [cp, List.length_append, List.length_cons] at ih ⊢
  rw [Nat.succ_mul]
  generalize (t.length + 1) * (m + 1) = z at *
  omega
theorem Dr {v : Int} (hv : v = 3 ∨ v = 4) (k : Nat) : (cp 124 ((tabR v).drop k)).length ≤ 1000000 := by
 have h1 := pL 124 (m := 60) ((tabR v).drop k) fun x hx => by
  obtain ⟨y, hy, rfl⟩ := List.mem_map.1 (List.mem_of_mem_drop hx)
  have := List.all_eq_true.1 (mC hv).1 _ hy
  simp only [su, Bool.and_eq_true, decide_eq_true_eq] at this
  exact this.1.1.2
 have h2 : ((tabR v).drop k).length ≤ 36 := by
  have := (mC hv).2.1
  unfold tabR
  rw [List.length_drop, List.length_map]
  omega
 have := Nat.mul_le_mul_right (60 + 1) h2
 omega
theorem Fh {v : Int} (hv : v = 3 ∨ v = 4) (k : Nat) : (124 : UInt8) ∉ (tabR v).getD k [] := by
 by_cases hk : k < (rowV v).length
 ·rw [j9 hk]
  have := AN hv hk
  simp only [su, Bool.and_eq_true, Bool.not_eq_true', List.contains_eq_mem, decide_eq_false_iff_not] at this
  exact this.1.1.1.1.1
 ·rw [List.getD_eq_getElem?_getD, List.getElem?_eq_none (by unfold tabR; rw [List.length_map]; omega)]
  simp
attribute [local irreducible] AWp AOps aa ax OrOk ab ae
attribute [local irreducible] AWpR iT AWpD LvM To tabR rowV cutB
theorem sr {G : Glo} {v : Int} (hv : v = 3 ∨ v = 4) : FnIs Tryz.prog G 93 [.int .i64 v] (.str (tabS v)) := by
 rcases hv with rfl | rfl
 ·have hGL : ab G [] := ad
  refine fn_x Tryz.func93 Tryz.call93 rfl rfl rfl rfl hGL ?_
  intro C hC
  refine xw ?_
  repeat' (first | exact Le.n | refine Lc.mk ?_ ?_)
  all_goals intros
  all_goals first
   | exact absurd rfl (by assumption)
   | (apply ar; refine congrArg AVal.str ?_; decide +kernel)
 ·have hGL : ab G [] := ad
  refine fn_x Tryz.func93 Tryz.call93 rfl rfl rfl rfl hGL ?_
  intro C hC
  refine xw ?_
  repeat' (first | exact Le.n | refine Lc.mk ?_ ?_)
  all_goals intros
  all_goals first
   | (apply ar; refine congrArg AVal.str ?_; decide +kernel)
end
section
open Go Go.RowKit
noncomputable abbrev ce (m : Int) : List (Nat × List AVal) := [(3, [.int .i64 m])]
theorem kC {G : Glo} {m : Int} (hU : ab G (ce m)) {R : Seal} {w : World} (hG : G.p R) (hs : cO R w) : w.cell? ⟨3, 0, none⟩ = some (.int .i64 m) := by
 obtain ⟨v, hc, hr⟩ := bN.cell hs (hU 3 [.int .i64 m] rfl R hG) (i := 0) rfl
 have hr : [v] = [Value.int .i64 m] := hr
 rw [(List.cons.inj hr).1] at hc
 exact hc
end
section
open Go Go.RowKit
def splS (c : UInt8) : List UInt8 → List (List UInt8)
 | [] => [[]]
 | x :: t => if x = c then [] :: splS c t else match splS c t with
  | [] => [[x]]
  | p :: ps => (x :: p) :: ps
theorem ka (c : UInt8) : ∀ s : List UInt8, splS c s ≠ []
 | [] => by simp [splS]
 | x :: t => by
  unfold splS
  split
  ·simp
  ·split <;> simp
theorem vO (c : UInt8) : Lib.index [] [c] = -1 := rfl
theorem vP {x c : UInt8} {t : List UInt8} (h : x = c) : Lib.index (x :: t) [c] = 0 := by
 subst h
 simp [Lib.index, List.isPrefixOf]
theorem tu {x c : UInt8} {t : List UInt8} (h : x ≠ c) : Lib.index (x :: t) [c] = if Lib.index t [c] == -1 then -1 else Lib.index t [c] + 1 := by
 have : (c == x) = false := by simpa using Ne.symm h
 simp [Lib.index, List.isPrefixOf, this]
theorem jJ {sep s : List UInt8} {k i : Nat} (h : Lib.index s sep = i) : Lib.splitK sep 0 (k + 1) s = s.take i :: Lib.splitK sep 0 k (s.drop (i + sep.length)) := by
 have hm : ¬ (Lib.index s sep == -1) = true := fun e => by have := beq_iff_eq.1 e; omega
 rw [Lib.splitK, if_neg hm, h]
 simp
theorem m6 (c : UInt8) : ∀ s : List UInt8, Lib.splitK [c] 0 (Lib.count s [c]) s = splS c s
 | [] => by rw [Lib.count_miss (vO c)]; rfl
 | x :: t => by
  have ih := m6 c t
  by_cases hx : x = c
  ·have h0 : Lib.index (x :: t) [c] = (0 : Nat) := vP hx
   rw [Lib.count_hit (by simp) h0, Nat.add_comm, jJ h0]
   simp only [List.take_zero, List.length_cons, List.length_nil, Nat.zero_add, List.drop_succ_cons, List.drop_zero]
   rw [ih, splS, if_pos hx]
  ·have h1 := tu (t := t) hx
   rcases Lib.index_spec t [c] with ⟨h2, _⟩ | ⟨i, h2, _⟩
   ·rw [h2] at h1
    have h1 : Lib.index (x :: t) [c] = -1 := by simpa using h1
    rw [Lib.count_miss h2] at ih
    rw [Lib.count_miss h1, splS, if_neg hx, ← ih]
    rfl
   ·have hne : ¬ ((i : Int) == -1) = true := fun e => by have := beq_iff_eq.1 e; omega
    rw [h2, if_neg hne] at h1
    have h1 : Lib.index (x :: t) [c] = ((i + 1 : Nat) : Int) := by rw [h1]; omega
    rw [Lib.count_hit (by simp) h2, Nat.add_comm, jJ h2] at ih
    rw [Lib.count_hit (by simp) h1, Nat.add_comm, jJ h1, splS, if_neg hx, ← ih]
    rfl
theorem iM {P : Program} {G : Glo} {f : FuncId} {avs : List AVal} {H : Heap} {sz m : Nat} {cs : List AVal} {T : TypeId} (hc : ∀ args w, (callFunc f args).run P w = .ok (.enter f args) w)
  (hlen : cs.length = m * sz)
  (h : ∀ C R args, RelV R avs args.toList → ∀ w, G.p R → MS C R H w → Calls P f args w fun e w' => ∃ (w1 : World) (Cs : Array Value), Below w.heap.size w w1 ∧ e = .returned (.slice (some ⟨w1.heap.size, 0, none⟩) m m) ∧ w' = w1.alloc (.cells Cs T) ∧ Cs.size = m * sz ∧ ∀ R, RelL R cs Cs.toList) :
  ae P G f avs H (fun r H' => ∃ b, r = .ret (.own H.length (.slice (some ⟨b, 0, none⟩) m m)) ∧ H' = H ++ [.row (.slice (some ⟨b, 0, none⟩) m m) (some T) sz m cs]) := by
 intro R w args hG hm ha
 refine .inl ⟨hc args w, (h _ R args ha w hG hm).mono ?_⟩
 rintro e w' ⟨w1, Cs, hb, rfl, rfl, hsz, hr⟩
 have hm1 := hm.below hb
 have hm2 := hm1.alloc (.cells Cs T) (.row (.slice (some ⟨w1.heap.size, 0, none⟩) m m) (some T) sz m cs) rfl ?_
 ·exact ⟨_, _, R, ⟨w1.heap.size, rfl, rfl⟩, ⟨_, rfl, aA.2 ⟨rfl, rfl⟩⟩, hm2.perm (List.perm_append_singleton _ _).symm⟩
 ·refine ⟨hlen, .inr ⟨w1.heap.size, m, Cs, T, (0, 0), rfl, cU _ _, hsz, Nat.le_refl _, ?_, .inl (Nat.le_refl _), fun t ht => Option.some.inj ht⟩⟩
  have := hr R
  have hl := aw this
  rwa [List.take_of_length_le (by omega)]
theorem lq (R : Seal) : ∀ l : List (List UInt8), RelL R (bM l) (l.map fun s => Value.string ⟨s.toArray⟩)
 | [] => rfl
 | _ :: l => ⟨_, _, rfl, rfl, lq R l⟩
theorem yK {G : Glo} {m : Int} (hU : ab G (ce m)) (H : Heap) (s : List UInt8) (c : UInt8) (hl : s.length < 100000) :
  ae Tryz.prog G 88 [.str s, .str [c]] H (fun r H' => ∃ b, r = .ret (.own H.length (.slice (some ⟨b, 0, none⟩) (splS c s).length (splS c s).length)) ∧ H' = H ++ [.row (.slice (some ⟨b, 0, none⟩) (splS c s).length (splS c s).length) (some 9) 1 (splS c s).length (bM (splS c s))]) := by
 refine iM Tryz.call88 (by rw [pg, Nat.mul_one]) ?_
 rintro C R args ⟨x, t, e, hx, y, t', e', hy, rfl⟩ w hG hm
 obtain rfl := az.1 hx
 obtain rfl := az.1 hy
 subst e'
 obtain rfl := fW e
 refine (Tryz.strings_Split ⟨s.toArray⟩ ⟨#[c]⟩ m w (by rw [aY]; omega) (kC hU hG hm.sealed) (Nat.le_refl 1)).mono ?_
 rintro e w' ⟨rfl, rfl⟩
 have hd := Lib.splitB_data ⟨#[c]⟩ 0 (Lib.countB ⟨s.toArray⟩ ⟨#[c]⟩) ⟨s.toArray⟩
 have hd : (Lib.splitB ⟨#[c]⟩ 0 (Lib.countB ⟨s.toArray⟩ ⟨#[c]⟩) ⟨s.toArray⟩).map (·.data.toList) = splS c s := hd.trans (m6 c s)
 have hn : (splS c s).length = Lib.countB ⟨s.toArray⟩ ⟨#[c]⟩ + 1 := by
  have h1 := Lib.splitB_all ⟨#[c]⟩ (Nat.le_refl 1) 0 _ ⟨s.toArray⟩ rfl
  rw [← hd, List.length_map, h1]
 rw [hn]
 have hm2 : (Lib.splitB ⟨#[c]⟩ 0 (Lib.countB ⟨s.toArray⟩ ⟨#[c]⟩) ⟨s.toArray⟩).map Value.string = (splS c s).map fun s => Value.string ⟨s.toArray⟩ := by
  rw [← hd, List.map_map]
  refine List.map_congr_left fun x _ => ?_
  simp
 refine ⟨w, _, Below.refl _ _, rfl, rfl, ?_, fun R => ?_⟩
 ·rw [hm2]; simp [hn]
 ·rw [hm2]
  exact lq R _
theorem uN {G : Glo} {m : Int} (hU : ab G (ce m)) (s : List UInt8) (c : UInt8) (hl : s.length < 100000) :
  FnIs Tryz.prog G 88 [.str s, .str [c]] (.list 1 (splS c s).length (aO (splS c s))) :=
 kJ (fun a => a) Bp (aO (splS c s)) (dS _) ((yK hU [] s c hl).mono fun _ _ ⟨_, h1, h2⟩ => ⟨_, _, h1, h2⟩)
end
section
open Go Go.RowKit
def SpIs (G : Glo) : Prop := ∀ R, G.p R → ∃ e fz, R 2 = some (.cells (Lib.asciiSpaceTab.map fun z => Value.int .u8 z).toArray e fz)
theorem Fj {G : Glo} (hS : SpIs G) {R : Seal} {w : World} (hG : G.p R) (hs : cO R w) : Lib.TabIs Tryz.prog w "strings.asciiSpace" .u8 Lib.asciiSpaceTab := by
 obtain ⟨e, fz, h⟩ := hS R hG
 have hb := hs _ _ h
 unfold Lib.TabIs World.var?
 rw [show Tryz.prog.globalNamed "strings.asciiSpace" = some 2 by kernel_rfl]
 simp [hb]
theorem CR : ∀ d : Fin 10, Lib.atoiAll [UInt8.ofNat (48 + d.val)] = .ok (d.val : Int) := by decide
attribute [local irreducible] AWp AOps aa ax OrOk ab ae
theorem kW {G : Glo} (d : Int) (h0 : 0 ≤ d) (h1 : d < 10) : FnIs Tryz.prog G 83 [.str [digC d]] (.tuple [.int .i64 d, .raw .nilIface]) := by
 have ha := CR ⟨d.toNat, by omega⟩
 have ed : ((d.toNat : Nat) : Int) = d := by omega
 simp only [ed] at ha
 refine e8 (.tuple #[.int .i64 d, .nilIface]) (fun R => nk (ao.2 rfl) (an.2 rfl)) Tryz.call83 ?_
 intro R args hr w _ _
 obtain ⟨x, t, e', hx, rfl⟩ := hr
 obtain rfl := az.1 hx
 obtain rfl := fW e'
 refine (Tryz.strconv_Atoi_ok ⟨[digC d].toArray⟩ (by rw [aY]; show 1 ≤ 9223372036854775806; omega) _ (by unfold digC; simpa using ha) w).mono ?_
 rintro e w' ⟨rfl, hw⟩
 refine ⟨rfl, ?_⟩
 rcases hw with rfl | ⟨t, rfl⟩
 ·exact Below.refl _ _
 ·exact ⟨rfl, rfl, rfl, by rw [Lib.bytesWorld_size]; omega, fun k hk => Lib.bytesWorld_at_old _ _ _ _ hk⟩
theorem vZ {G : Glo} (hS : SpIs G) (H : Heap) (s : List UInt8) (hl : s.length < 100000) (ha : ∀ (j : Nat) (b : UInt8), s[j]? = some b → b.toNat < 128) :
  ae Tryz.prog G 94 [.str s] H (fun r H' => ∃ b, r = .ret (.own H.length (.slice (some ⟨b, 0, none⟩) (Lib.fields s).length (Lib.fields s).length)) ∧ H' = H ++ [.row (.slice (some ⟨b, 0, none⟩) (Lib.fields s).length (Lib.fields s).length) (some 9) 1 (Lib.fields s).length (bM (Lib.fields s))]) := by
 refine iM Tryz.call94 (by rw [pg, Nat.mul_one]) ?_
 rintro C R args ⟨x, t, e, hx, rfl⟩ w hG hm
 obtain rfl := az.1 hx
 obtain rfl := fW e
 refine (Tryz.strings_Fields ⟨s.toArray⟩ w (by rw [aY]; omega) (fun j b hb => ha j b (by simpa using hb)) (Fj hS hG hm.sealed)).mono ?_
 rintro e w' ⟨rfl, rfl⟩
 refine ⟨w, _, Below.refl _ _, rfl, rfl, ?_, fun R => ?_⟩
 ·simp
 ·have := lq R (Lib.fields s)
  simpa using this
theorem tK {G : Glo} (hS : SpIs G) (s : List UInt8) (hl : s.length < 100000) (ha : ∀ (j : Nat) (b : UInt8), s[j]? = some b → b.toNat < 128) : FnIs Tryz.prog G 94 [.str s] (.list 1 (Lib.fields s).length (aO (Lib.fields s))) :=
 kJ (fun a => a) Bp (aO (Lib.fields s)) (dS _) ((vZ hS [] s hl ha).mono fun _ _ ⟨_, h1, h2⟩ => ⟨_, _, h1, h2⟩)
end
section
open Go Go.RowKit
abbrev rlC (b : Nat) (r : Rl) : HEnt := .cells b (some 91) [.int .i64 r.t, .int .i64 r.a, .int .i64 r.b, .int .i64 r.p]
abbrev arC (b : Nat) (t a u p : Int) : HEnt := .cells b (some 159) [.int .i64 t, .int .i64 a, .int .i64 u, .int .i64 p]
abbrev erV (b : Nat) : HEnt := .cells b (some 39) [.raw .nilIface]
theorem yV {s : List UInt8} (h : (s.all fun c => decide (c.toNat < 128)) = true) : ∀ (j : Nat) (b : UInt8), s[j]? = some b → b.toNat < 128 := fun j b hb => by
 have := List.all_eq_true.1 h b (List.mem_of_getElem? hb)
 simpa using this
theorem pV {s : List UInt8} : ∀ {l : List (List UInt8 × Rl)} {k : Nat} (hk : k < l.length), (∀ j (hj : j < l.length), j < k → l[j].1 ≠ s) → l[k].1 = s → du s l = l[k].2
 | x :: t, 0, hk, _, h => by
  have h : x.1 = s := h
  simp only [du, if_pos h]
  rfl
 | x :: t, k + 1, hk, h0, h => by
  have h1 := h0 0 (by simp) (Nat.succ_pos k)
  have h1 : x.1 ≠ s := h1
  have ih := pV (s := s) (l := t) (k := k) (by simpa using hk) (fun j hj hjk => by
   have := h0 (j + 1) (by simpa using hj) (by omega)
   simpa using this) (by simpa using h)
  simp only [du, if_neg h1, ih]
  rfl
theorem tI {s : List UInt8} : ∀ {l : List (List UInt8 × Rl)}, (∀ j (hj : j < l.length), l[j].1 ≠ s) → du s l = ⟨8, 0, 0, 0⟩
 | [], _ => rfl
 | x :: t, h0 => by
  have h1 : x.1 ≠ s := h0 0 (by simp)
  have ih := tI (s := s) (l := t) (fun j hj => by
   have := h0 (j + 1) (by simpa using hj)
   simpa using this)
  simp only [du, if_neg h1, ih]
attribute [local irreducible] AWp AOps aa ax OrOk ab ae
attribute [local irreducible] AWpR iT AWpD LvM To tabR rowV aJ
theorem yU {G : Glo} (hS : SpIs G) {v : Int} (hv : v = 3 ∨ v = 4) (s : List UInt8) (hl : s.length ≤ 1000000) : FnIs Tryz.prog G 58 [.str s, .int .i64 v] (.tuple [(du (aJ 97 122 (-32) s) (rowV v)).A, .raw .nilIface]) := by
 have hGL : ab G [] := ad
 have hT := sr (G := G) hv
 have hSq := lc (G := G) (tabS v) 124
 have hU := jM (G := G) s (by omega)
 have hcu := Tryz.call95
 have hlr : (tabR v).length = (rowV v).length := by unfold tabR; rw [List.length_map]
 have h36 := (mC hv).2
 generalize hup : aJ 97 122 (-32) s = up at *
 refine fn_m (rs := [.cell 4 91, .cell 5 39]) Tryz.func58 Tryz.call58 rfl rfl rfl rfl ?_
 intro C hC hD
 refine bx hC hGL (fun x : Nat × Nat × Nat => [(1, .int .i64 v), (2, .own 0 (sqP x.1)), (4, .own 1 (sqP x.2.1)), (5, .own 2 (sqP x.2.2))]) (fun x => [sqS x.1 s, rlC x.2.1 Rl.z, erV x.2.2]) (fun _ => True) ?_ ?_
 ·refine xb1 ?_
  intro b2 b4 b5
  intros
  exact cy (b2, b4, b5) trivial
 rintro ⟨b2, b4, b5⟩ -
 dsimp only
 refine bx hC hGL (fun _ : Unit => [(1, .int .i64 v), (2, .own 0 (sqP b2)), (4, .own 1 (sqP b4)), (5, .own 2 (sqP b5))]) (fun _ => [sqS b2 s, rlC b4 Rl.z, erV b5]) (fun _ => True) ?_ fun _ _ => ?_
 ·refine xn ?_
  repeat' (first | exact Le.n | refine Lc.mk ?_ ?_)
  all_goals intros
  all_goals first
   | exact cy () trivial
   | (exfalso; omega)
 refine fw (bx hC hGL (fun x : Nat × Nat × Nat => [(1, .int .i64 v), (2, .own 0 (sqP b2)), (4, .own 1 (sqP b4)), (5, .own 2 (sqP b5)), (20, .func (.func 170) [] [.own 4 (sqP x.2.1), .own 3 (sqP x.1), .own 5 (sqP x.2.2)])]) (fun x => [sqS b2 s, rlC b4 Rl.z, erV b5, sqS x.1 (tabS v), sqS x.2.1 [124], sqI x.2.2 0]) (fun _ => True) ?_ ?_)
 ·refine xn1 ?_
  refine Ck (fun x : Nat × Nat × Nat => .func (.func 170) [] [.own 4 (sqP x.2.1), .own 3 (sqP x.1), .own 5 (sqP x.2.2)]) hSq (fun _ _ _ h => h) ?_
  rintro ⟨b0, b1, b3⟩
  refine xn1 ?_
  exact cy (b0, b1, b3) trivial
 rintro ⟨b0, b1, b3⟩ -
 dsimp only
 refine zK ?_
 refine zJ rfl Tryz.call170 [(1, .int .i64 v), (2, .own 0 (sqP b2)), (4, .own 1 (sqP b4)), (5, .own 2 (sqP b5))] aj rfl ?_
 intro L D r hp ha hb hfs
 rw [hC]
 have hy : ∀ (k : Nat) (s' : List UInt8) (y : Unit), k < (tabR v).length → (∀ j (hj : j < (rowV v).length), j < k → (rowV v)[j].1 ≠ up) → iT Tryz.prog G L [.str ((tabR v).getD k [])] (sqS b0 s' :: sqS b1 [124] :: sqI b3 0 :: [sqS b2 s, rlC b4 Rl.z, erV b5, objD D, objL L r .ready none])
   (fun b H' => (b = true ∧ ∃ _ : Unit, (∀ j (hj : j < (rowV v).length), j < k + 1 → (rowV v)[j].1 ≠ up) ∧ H' = sqS b0 s' :: sqS b1 [124] :: sqI b3 0 :: [sqS b2 s, rlC b4 Rl.z, erV b5, objD D, objL L r .ready none]) ∨
    (b = false ∧ ∃ T : Heap, H' = sqS b0 s' :: sqS b1 [124] :: sqI b3 0 :: (sqS b2 s :: rlC b4 (du up (rowV v)) :: erV b5 :: objD D :: objL L r .done (some .ret) :: T))) := by
  intro k s' y hk hI
  have hk' : k < (rowV v).length := by omega
  have hro := AN hv hk'
  simp only [su, Bool.and_eq_true, decide_eq_true_eq] at hro
  have hF := tK hS ((tabR v).getD k []) (by rw [j9 hk']; omega) (by rw [j9 hk']; exact yV hro.1.1.1.2)
  rw [j9 hk', hro.1.2] at hF
  have hdg := hro.2
  have a1 := kW (G := G) (rowV v)[k].2.t hdg.1 hdg.2.1
  have a2 := kW (G := G) (rowV v)[k].2.a hdg.2.2.1 hdg.2.2.2.1
  have a3 := kW (G := G) (rowV v)[k].2.b hdg.2.2.2.2.1 hdg.2.2.2.2.2.1
  have a4 := kW (G := G) (rowV v)[k].2.p hdg.2.2.2.2.2.2.1 hdg.2.2.2.2.2.2.2
  have hfind : (rowV v)[k].1 = up → du up (rowV v) = (rowV v)[k].2 := fun h => pV hk' hI h
  have hnext : (rowV v)[k].1 ≠ up → ∀ j (hj : j < (rowV v).length), j < k + 1 → (rowV v)[j].1 ≠ up := fun h j hj hjk => by
   by_cases e : j = k
   ·subst e; exact h
   ·exact hI j hj (by omega)
  rw [j9 hk']
  generalize (rowV v)[k] = row at *
  obtain ⟨nm, t, a, b, p⟩ := row
  dsimp only at *
  have hperm : ∀ (x : HEnt) (rr : Rl) (T : Heap), (sqS b2 s :: rlC b4 rr :: erV b5 :: sqS b0 s' :: sqS b1 [124] :: sqI b3 0 :: T).Perm (sqS b0 s' :: sqS b1 [124] :: sqI b3 0 :: sqS b2 s :: rlC b4 rr :: erV b5 :: T) := fun _ rr T =>
   (List.perm_append_comm (l₁ := [sqS b2 s, rlC b4 rr, erV b5]) (l₂ := [sqS b0 s', sqS b1 [124], sqI b3 0])).append_right T
  refine ut (E8 (H1 := [sqS b2 s, rlC b4 Rl.z, erV b5, sqS b0 s', sqS b1 [124], sqI b3 0, objD D, objL L r .ready none]) (hperm (objD D) _ _)
   (E7 (i := 7) (p := 21) (Qf := fun bb H' => (bb = true ∧ nm ≠ up ∧ H' = [sqS b2 s, rlC b4 Rl.z, erV b5, sqS b0 s', sqS b1 [124], sqI b3 0, objD D, objL L r .ready none]) ∨ (bb = false ∧ nm = up ∧ ∃ T, H' = [sqS b2 s, rlC b4 ⟨t, a, b, p⟩, erV b5, sqS b0 s', sqS b1 [124], sqI b3 0, objD D, objL L r .done (some .ret)] ++ T)) rfl hp (by kernel_rfl) hfs ?_)) ?_
  ·intro C2 hC2 hD2
   rw [ha]
   refine eW hC2 hGL (xn1 ?_)
   refine ⟨rfl, 7, rfl, ?_⟩
   rw [hb]
   refine lN (rq hC2 hGL (fun _ : Unit => [(1, .int .i64 v), (2, .own 0 (sqP b2)), (4, .own 1 (sqP b4)), (5, .own 2 (sqP b5)), (7, .list 1 5 (aO [nm, [digC t], [digC a], [digC b], [digC p]]))]) (fun _ => [sqS b2 s, rlC b4 Rl.z, erV b5, sqS b0 s', sqS b1 [124], sqI b3 0, objD D, objL L r .busy none]) (fun _ => True) ?_ fun _ _ => ?_)
   ·refine xn1 ?_
    intros
    exact cy () trivial
   refine mM (Ex mixed hC2 hGL (by kernel_rfl) ?_)
   refine xn1 ?_
   refine cq hcu hU rfl ?_
   refine xn1 ?_
   refine ug rfl (fun h => ?_) (fun h => ?_)
   ·have hnu : nm = up := dU.1 h
    refine rq hC2 hGL (fun b8 : Nat => [(4, .own 1 (sqP b4)), (5, .own 2 (sqP b5)), (7, .list 1 5 (aO [nm, [digC t], [digC a], [digC b], [digC p]])), (8, .own 8 (sqP b8))]) (fun b8 => [sqS b2 s, rlC b4 Rl.z, erV b5, sqS b0 s', sqS b1 [124], sqI b3 0, objD D, objL L r .busy none, arC b8 0 0 0 0]) (fun _ => True) ?_ fun b8 _ => ?_
    ·refine xn1 ?_
     intro b8
     intros
     exact cy b8 trivial
    refine mM (rq hC2 hGL (fun _ : Unit => [(4, .own 1 (sqP b4)), (5, .own 2 (sqP b5)), (7, .list 1 5 (aO [nm, [digC t], [digC a], [digC b], [digC p]])), (8, .own 8 (sqP b8)), (30, .int .i64 0)]) (fun _ => [sqS b2 s, rlC b4 Rl.z, erV b5, sqS b0 s', sqS b1 [124], sqI b3 0, objD D, objL L r .busy none, arC b8 0 0 0 0]) (fun _ => True) ?_ fun _ _ => ?_)
    ·refine xn1 ?_
     exact cy () trivial
    refine lN (wD 5 (rdsR (eW hC2 hGL (xn1 ?_))))
    intro _
    refine eW hC2 hGL (xn1 ?_)
    intro _
    refine eW hC2 hGL (xn1 ?_)
    intro _
    refine eW hC2 hGL (xn1 ?_)
    intro _
    refine eW hC2 hGL (xn1 ?_)
    intro _
    refine ⟨fun _ => ?_, fun h => absurd rfl h⟩
    refine eW hC2 hGL (xn1 ?_)
    exact ⟨7, rfl, .inr ⟨rfl, hnu, [arC b8 t a b p], rfl⟩⟩
   ·refine eW hC2 hGL (xn1 ?_)
    refine ⟨7, rfl, .inl ⟨rfl, fun e => ?_, rfl⟩⟩
    have h : seqB nm up = false := h
    rw [dU.2 e] at h
    cases h
  ·rintro b' H' (⟨rfl, hne, rfl⟩ | ⟨rfl, hnu, T, rfl⟩)
   ·exact ⟨_, hperm (objD D) _ _, .inl ⟨rfl, (), hnext hne, rfl⟩⟩
   ·rw [hfind hnu]
    exact ⟨_, hperm (objD D) _ _, .inr ⟨rfl, T, rfl⟩⟩
 have run := oE (G := G) L b0 b1 b3 124 (tabR v) (by omega) (Fh hv) (Dr hv) (Y := Unit) (Z := Heap) (fun _ => [sqS b2 s, rlC b4 Rl.z, erV b5, objD D, objL L r .ready none]) (fun T => sqS b2 s :: rlC b4 (du up (rowV v)) :: erV b5 :: objD D :: objL L r .done (some .ret) :: T) (fun k _ => ∀ j (hj : j < (rowV v).length), j < k → (rowV v)[j].1 ≠ up) () (fun j hj h => absurd h (Nat.not_lt_zero _)) hy
 have hperm : ∀ (s' : List UInt8) (rr : Rl) (T : Heap), (sqS b0 s' :: sqS b1 [124] :: sqI b3 0 :: sqS b2 s :: rlC b4 rr :: erV b5 :: T).Perm (sqS b2 s :: rlC b4 rr :: erV b5 :: sqS b0 s' :: sqS b1 [124] :: sqI b3 0 :: T) := fun s' rr T =>
  (List.perm_append_comm (l₁ := [sqS b0 s', sqS b1 [124], sqI b3 0]) (l₂ := [sqS b2 s, rlC b4 rr, erV b5])).append_right T
 refine gh (gg (hperm _ _ _) (yb run fun _ _ h => h)) ?_
 rintro res H' ⟨rfl, s', ⟨y, hI, rfl⟩ | ⟨T, rfl⟩⟩
 ·refine ⟨_, hperm _ _ _, .tuple [], 7, .ready, none, rfl, rfl, (fun h => by cases h), ?_⟩
  rw [tI fun j hj => hI j hj (by omega)]
  show AWpD Tryz.prog _ _ _ _ _ _
  refine ec (C := withD C (colD D :: C.D)) hC hGL (xn1 ?_)
  rw [show (withD C (colD D :: C.D)).D = [colD D] from (by show colD D :: C.D = _; rw [hD])]
  refine xK (i := 6) rfl (xJ ?_)
  exact xn0
 ·refine ⟨_, hperm _ _ _, .tuple [], 7, .done, some .ret, rfl, rfl, (fun h => by cases h), ?_⟩
  show LvM _ _ _ _ _ (colD D :: C.D) _ _ _
  rw [hD]
  refine xK (i := 6) rfl (xJ ?_)
  exact xn0
theorem AM {G : Glo} (hS : SpIs G) (v : Int) (s : List UInt8) (hl : s.length ≤ 1000000) : FnIs Tryz.prog G 58 [.str s, .int .i64 v] (.tuple [(fd v s).A, (verE v).A]) := by
 by_cases hv : v = 3 ∨ v = 4
 ·have e1 : fd v s = du (aJ 97 122 (-32) s) (rowV v) := by unfold fd; rw [if_pos hv]
  have e2 : verE v = .none := by unfold verE; rw [if_pos hv]
  rw [e1, e2]
  exact yU hS hv s hl
 ·have e1 : fd v s = Rl.z := by unfold fd; rw [if_neg hv]
  have e2 : verE v = .errno 1 := by unfold verE; rw [if_neg hv]
  rw [e1, e2]
  have hGL : ab G [] := ad
  refine fn_x Tryz.func58 Tryz.call58 rfl rfl rfl rfl hGL ?_
  intro C hC
  refine xb ?_
  repeat' (first | exact Le.n | refine Lc.mk ?_ ?_)
  all_goals intros
  all_goals intros
  all_goals first
   | (exfalso; omega)
   | (apply ar; rfl)
end
section
open Go Go.RowKit
def rlL (r : Rl) : AVal := .list 1 4 (aV [(0, .int .i64 r.t), (1, .int .i64 r.a), (2, .int .i64 r.b), (3, .int .i64 r.p)])
def optA : Option Rl → AVal
 | none => .raw (.slice none 0 0)
 | some r => rlL r
def knAt (i : Nat) : Kn := knR.getD i ⟨[], none, none⟩
def knF (i : Nat) : AVal := .agg [.str (knAt i).n, optA (knAt i).o, optA (knAt i).w]
def knPs : List (Nat × AVal) := (List.range 36).map fun i => (i, knF i)
theorem FX {i : Nat} (h : i < 36) : aV knPs i = knF i := by
 unfold aV knPs
 rw [List.getElem?_map, List.getElem?_range h]
 rfl
theorem td {R : Seal} {sz n : Nat} {f g : Nat → AVal} {u : Value} (h : ∀ i, i < n → f i = g i) : Rel R (.list sz n f) u → Rel R (.list sz n g) u := by
 rintro ⟨⟨a, cap, e, hle, y⟩, h2⟩
 refine ⟨⟨a, cap, e, hle, ?_⟩, h2⟩
 rcases y with y | ⟨b, o, C, el, fz, ha, hR, hi⟩
 ·exact .inl y
 ·exact .inr ⟨b, o, C, el, fz, ha, hR, fun i hn => by rw [← h i hn]; exact hi i hn⟩
/-! Names whatever their letters. -/
def upB (c : UInt8) : Bool := decide ((65 ≤ c.toNat ∧ c.toNat ≤ 90) ∨ c.toNat = 45)
theorem FW : (knR.all fun k => k.n.all upB) = true := by decide +kernel
theorem zp {c d : UInt8} (hc : upB c = true) : UInt8.ofNat (dj 65 90 32 c.toNat).toNat = UInt8.ofNat (dj 65 90 32 d.toNat).toNat ↔ c = UInt8.ofNat (dj 97 122 (-32) d.toNat).toNat := by
 have hc : (65 ≤ c.toNat ∧ c.toNat ≤ 90) ∨ c.toNat = 45 := by simpa [upB] using hc
 have h1 := c.toNat_lt
 have h2 := d.toNat_lt
 rw [← UInt8.toNat_inj, ← UInt8.toNat_inj, UInt8.toNat_ofNat', UInt8.toNat_ofNat', UInt8.toNat_ofNat']
 unfold dj
 (repeat' split) <;> omega
theorem pR : ∀ {n s : List UInt8}, n.all upB = true → (aJ 65 90 32 n = aJ 65 90 32 s ↔ n = aJ 97 122 (-32) s)
 | [], [], _ => by simp [aJ]
 | [], d :: s, _ => by simp [aJ]
 | c :: n, [], _ => by simp [aJ]
 | c :: n, d :: s, h => by
  rw [List.all_cons, Bool.and_eq_true] at h
  have ih := pR (n := n) (s := s) h.2
  have hb := zp (d := d) h.1
  unfold aJ at ih ⊢
  simp only [List.map_cons, List.cons.injEq]
  rw [ih, hb]
theorem D3 (i : Nat) : (knAt i).n.all upB = true := by
 unfold knAt
 by_cases h : i < knR.length
 ·rw [List.getD_eq_getElem?_getD, List.getElem?_eq_getElem h]
  exact List.all_eq_true.1 FW _ (List.getElem_mem h)
 ·rw [List.getD_eq_getElem?_getD, List.getElem?_eq_none (by omega)]
  rfl
/-! What is found. -/
theorem pX {v : Int} {up : List UInt8} {r : Rl} : ∀ {l : List Kn} {k : Nat} (hk : k < l.length), (∀ j (hj : j < l.length), j < k → (l[j].of v = none ∨ l[j].n ≠ up)) → l[k].of v = some r → l[k].n = up → du up (l.filterMap fun k => (k.of v).map fun r => (k.n, r)) = r
 | x :: t, 0, hk, _, h1, h2 => by
  have h1 : x.of v = some r := h1
  have h2 : x.n = up := h2
  simp only [List.filterMap_cons, h1, Option.map_some, du, if_pos h2]
 | x :: t, k + 1, hk, h0, h1, h2 => by
  have ih := pX (l := t) (k := k) (by simpa using hk) (fun j hj hjk => by
   have := h0 (j + 1) (by simpa using hj) (by omega)
   simpa using this) (by simpa using h1) (by simpa using h2)
  have h3 : x.of v = none ∨ x.n ≠ up := h0 0 (by simp) (Nat.succ_pos k)
  cases hx : x.of v with
  | none => simp only [List.filterMap_cons, hx, Option.map_none, ih]
  | some r' =>
   rw [hx] at h3
   have h3 : x.n ≠ up := by rcases h3 with h | h; cases h; exact h
   simp only [List.filterMap_cons, hx, Option.map_some, du, if_neg h3, ih]
theorem tJ {v : Int} {up : List UInt8} : ∀ {l : List Kn}, (∀ j (hj : j < l.length), (l[j].of v = none ∨ l[j].n ≠ up)) → du up (l.filterMap fun k => (k.of v).map fun r => (k.n, r)) = ⟨8, 0, 0, 0⟩
 | [], _ => rfl
 | x :: t, h0 => by
  have ih := tJ (v := v) (up := up) (l := t) (fun j hj => by
   have := h0 (j + 1) (by simpa using hj)
   simpa using this)
  have h3 : x.of v = none ∨ x.n ≠ up := h0 0 (by simp)
  cases hx : x.of v with
  | none => simp only [List.filterMap_cons, hx, Option.map_none, ih]
  | some r' =>
   rw [hx] at h3
   have h3 : x.n ≠ up := by rcases h3 with h | h; cases h; exact h
   simp only [List.filterMap_cons, hx, Option.map_some, du, if_neg h3, ih]
theorem nS {i : Nat} (h : i < knR.length) : knAt i = knR[i] := by
 unfold knAt
 rw [List.getD_eq_getElem?_getD, List.getElem?_eq_getElem h]
 rfl
theorem qT : knR.length = 36 := rfl
attribute [local irreducible] AWp AOps aa ax OrOk ab ae
theorem vi {G : Glo} : FnIs Tryz.prog G 75 [] (.list 3 36 (aV knPs)) := by
 have hGL : ab G [] := ad
 refine fn_x Tryz.func75 Tryz.call75 rfl rfl rfl rfl hGL ?_
 intro C hC
 exact xw0
theorem yZ {G : Glo} : FnIs Tryz.prog G 75 [] (.list 3 36 knF) :=
 dz vi fun r H h => by
  obtain ⟨rfl, rfl⟩ := h
  rintro C R w e hm ⟨x, rfl, hx⟩
  exact ⟨R, hm, x, rfl, td (fun i h => FX h) hx⟩
theorem sB {G : Glo} (s t : List UInt8) (hl : s.length ≤ 9223372036854775807) (hm : t.length ≤ 9223372036854775807) : FnIs Tryz.prog G 76 [.str s, .str t] (.bool (seqB (aJ 65 90 32 s) (aJ 65 90 32 t))) := by
 have h1 := lu (G := G) s hl
 have h2 := lu (G := G) t hm
 have hGL : ab G [] := ad
 refine fn_x Tryz.func76 Tryz.call76 rfl rfl rfl rfl hGL ?_
 intro C hC
 exact xw0
end
section
open Go Go.RowKit
abbrev kRl (b : Nat) (r : Rl) : HEnt := .cells b (some 91) [.int .i64 r.t, .int .i64 r.a, .int .i64 r.b, .int .i64 r.p]
abbrev kPt (b : Nat) : Value := .pointer (some ⟨b, 0, none⟩)
section
variable {P : Program} [Tab P] {C : Ctx} {H : Heap} {env : Env}
theorem ne {sz m : Nat} {f : Nat → AVal} {x : Operand} {T ty e : TypeId} {xT : TI} (hx : ai env x = some (.list sz (m + 1) f)) (h1 : tab P T = some xT) (h2 : xT.desc = .slice e) : RunV P C H env (.binOp .neq T x (.const (.slice none 0 0)) ty) (.bool true) := by
 intro R ρ w hm hf dst t p af g
 refine ⟨_, ?_, aE.2 rfl⟩
 obtain ⟨a, cap, e1, _, y⟩ := aT (hf _ _ hx) rfl
 have e1 : ρ x = .slice a (m + 1) cap := (List.cons.inj e1).1
 obtain ⟨b, o, C0, el, fz, rfl, _⟩ := y.resolve_left (Nat.succ_ne_zero m)
 have hc : ρ (.const (.slice none 0 0)) = .slice none 0 0 := an.1 (hf (.const (.slice none 0 0)) _ (db env (.slice none 0 0)))
 obtain ⟨h3, h4, h5⟩ := lH (R := R) (x := x) (w := w) (av := .raw (ρ x)) (c := false) (z := .slice none 0 0) (an.2 rfl) h1 (by rw [h2, e1]; rfl) (by rw [h2]; rfl)
 have h6 := h5 .neq (.inr rfl)
 rw [if_neg (by decide)] at h6
 simp only [execOp, hc, Sem.run_bind, h4, Result.andThen_ok, h6, h3, Sem.run_pure, Bool.not_false]
end
attribute [local irreducible] AWp AOps aa ax OrOk ab ae
attribute [local irreducible] aJ knAt knR rowV To
theorem y4 {G : Glo} {v : Int} (hv : v = 3 ∨ v = 4) (s : List UInt8) (hl : s.length ≤ 1000000) : FnIs Tryz.prog G 39 [.str s, .int .i64 v] (.tuple [(du (aJ 97 122 (-32) s) (rowV v)).A, .int .i64 0]) := by
 have hGL : ab G [] := ad
 have hK := yZ (G := G)
 generalize hup : aJ 97 122 (-32) s = up at *
 have hsame : ∀ k, k < 36 → FnIs Tryz.prog G 76 [.str (knAt k).n, .str s] (.bool (seqB (knAt k).n up)) := fun k hk => by
  have h := sB (G := G) (knAt k).n s (by
   have : ∀ j, j < 36 → (knAt j).n.length ≤ 100 := by decide +kernel
   have := this k hk
   omega) (by omega)
  have e : seqB (aJ 65 90 32 (knAt k).n) (aJ 65 90 32 s) = seqB (knAt k).n up := by
   rw [Bool.eq_iff_iff, dU, dU, pR (D3 k), hup]
  rwa [e] at h
 refine fn_a Tryz.func39 Tryz.call39 rfl rfl rfl rfl ?_
 intro C hC
 refine cuty hC hGL (fun b4 : Nat => [(0, .str s), (1, .int .i64 v), (4, .own 0 (kPt b4))]) (fun b4 => [kRl b4 Rl.z]) (fun _ => True) ?_ fun b4 _ => ?_
 ·refine xb1 ?_
  intro b4
  intros
  exact cy b4 trivial
 refine cut hC hGL [(0, .str s), (1, .int .i64 v), (4, .own 0 (kPt b4))] [kRl b4 Rl.z] True ?_ fun _ => ?_
 ·refine xn ?_
  repeat' (first | exact Le.n | refine Lc.mk ?_ ?_)
  all_goals intros
  all_goals first
   | exact Ct.w
   | (exfalso; omega)
 refine jW (cut hC hGL [(0, .str s), (1, .int .i64 v), (4, .own 0 (kPt b4)), (16, .list 3 36 knF), (17, .int .i64 (36 : Nat)), (18, .int .i64 (0 : Nat))] [kRl b4 Rl.z] True xn0 fun _ => ?_)
 refine kV (ox (X := Nat) (fun k => [(0, .str s), (1, .int .i64 v), (4, .own 0 (kPt b4)), (16, .list 3 36 knF), (17, .int .i64 (36 : Nat)), (18, .int .i64 (k : Nat))]) (fun _ => [kRl b4 Rl.z]) (fun k => k ≤ 36 ∧ ∀ j, j < k → ((knAt j).of v = none ∨ (knAt j).n ≠ up)) (fun k => 36 - k) 0 ⟨Nat.zero_le _, fun j h => absurd h (Nat.not_lt_zero _)⟩ aj (List.Sublist.refl _) ?_)
 rintro k ⟨hk, hI⟩
 have hk : k ≤ 36 := hk
 by_cases hlt : k < 36
 ·have hs1 := hsame k hlt
  refine cut hC hGL [(0, .str s), (1, .int .i64 v), (4, .own 0 (kPt b4)), (16, .list 3 36 knF), (17, .int .i64 (36 : Nat)), (18, .int .i64 (k : Nat)), (19, .bool (ltB (k : Int) (36 : Nat)))] [kRl b4 Rl.z] True xn0 fun _ => ?_
  refine cut hC hGL [(0, .str s), (1, .int .i64 v), (4, .own 0 (kPt b4)), (16, .list 3 36 knF), (17, .int .i64 (36 : Nat)), (18, .int .i64 (k : Nat))] [kRl b4 Rl.z] True ?_ fun _ => ?_
  ·refine xn ?_
   repeat' (first | exact Le.n | refine Lc.mk ?_ ?_)
   all_goals intros
   all_goals first
    | (intros; exact Ct.w)
    | (intros; exfalso; omega)
  rcases hkn : knAt k with ⟨n, o, w⟩
  have hkF : knF k = .agg [.str n, optA o, optA w] := by unfold knF; rw [hkn]
  rw [hkn] at hs1
  dsimp only at hs1
  have hnx : ((knAt k).of v = none ∨ n ≠ up) → ∀ j, j < k + 1 → ((knAt j).of v = none ∨ (knAt j).n ≠ up) := fun h j hj => by
   by_cases e : j = k
   ·subst e; rw [hkn] at h ⊢; exact h
   ·exact hI j (by omega)
  rw [hkn] at hnx
  have hfound : ∀ r, (⟨n, o, w⟩ : Kn).of v = some r → n = up → du up (rowV v) = r := fun r h1 h2 => by
   have e := nS (i := k) (by rw [qT]; exact hlt)
   rw [hkn] at e
   unfold rowV
   exact pX (k := k) (by rw [qT]; exact hlt) (fun j hj hjk => by have := hI j hjk; rwa [nS hj] at this) (by rw [← e]; exact h1) (by rw [← e]; exact h2)
  rcases hv with rfl | rfl
  ·rcases o with _ | o <;> rcases w with _ | w
   all_goals
    refine aH hC hGL ?_
    (conv => whnf)
    refine Ix.w ?_
    rw [hkF]
    refine xn ?_
    repeat' (first | exact Le.n | refine Lc.mk ?_ ?_)
    all_goals intros
    all_goals intros
    all_goals try exact ⟨k + 1, ⟨by show k + 1 ≤ 36; omega, hnx (.inl rfl)⟩, by show 36 - (k + 1) < 36 - k; omega, aj, aD⟩
    all_goals try exact ⟨k + 1, ⟨by show k + 1 ≤ 36; omega, hnx (.inr (by assumption))⟩, by show 36 - (k + 1) < 36 - k; omega, aj, aD⟩
   all_goals
    have hfd := hfound o rfl (by assumption)
    refine bF hC hGL (ne (m := 3) rfl rfl rfl) rfl rfl ?_
    refine xn1 ?_
    refine dw_p mixed hC hGL false (fun (_ : HEnt) => [(4, .own 0 (kPt b4)), (5, .int .i64 0)]) (fun y => [kRl b4 o, y]) (.take 0 (.take 1 (.take 2 (.take 3 (.take 4 (.take 5 (.take 6 (.take 7 (.take 8 (.take 9 (.take 10 (.take 11 (.br 12 (.br 13 (.take 14 (.done)) (.nil)) (.nil)))))))))))))) (by kernel_rfl) ?_ ?_
    ·refine xn ?_
     repeat' (first | exact Le.n | refine Lc.mk ?_ ?_)
     all_goals intros
     all_goals exact ⟨_, aj, rfl⟩
    intro y
    refine xn1 ?_
    rw [hfd]
    exact ar rfl
  ·rcases o with _ | o <;> rcases w with _ | w
   all_goals
    refine aH hC hGL ?_
    (conv => whnf)
    refine Ix.w ?_
    rw [hkF]
    refine xn ?_
    repeat' (first | exact Le.n | refine Lc.mk ?_ ?_)
    all_goals intros
    all_goals intros
    all_goals try exact ⟨k + 1, ⟨by show k + 1 ≤ 36; omega, hnx (.inl rfl)⟩, by show 36 - (k + 1) < 36 - k; omega, aj, aD⟩
    all_goals try exact ⟨k + 1, ⟨by show k + 1 ≤ 36; omega, hnx (.inr (by assumption))⟩, by show 36 - (k + 1) < 36 - k; omega, aj, aD⟩
   all_goals
    have hfd := hfound w rfl (by assumption)
    refine bF hC hGL (ne (m := 3) rfl rfl rfl) rfl rfl ?_
    refine xn1 ?_
    refine dw_p mixed hC hGL false (fun (_ : HEnt) => [(4, .own 0 (kPt b4)), (5, .int .i64 0)]) (fun y => [kRl b4 w, y]) (.take 0 (.take 1 (.take 2 (.take 3 (.take 4 (.take 5 (.take 6 (.take 7 (.take 8 (.take 9 (.take 10 (.take 11 (.br 12 (.br 13 (.take 14 (.done)) (.nil)) (.nil)))))))))))))) (by kernel_rfl) ?_ ?_
    ·refine xn ?_
     repeat' (first | exact Le.n | refine Lc.mk ?_ ?_)
     all_goals intros
     all_goals exact ⟨_, aj, rfl⟩
    intro y
    refine xn1 ?_
    rw [hfd]
    exact ar rfl
 ·obtain rfl : k = 36 := by omega
  have hno : du up (rowV v) = ⟨8, 0, 0, 0⟩ := by
   unfold rowV
   exact tJ fun j hj => by have := hI j (by rw [qT] at hj; exact hj); rwa [nS hj] at this
  refine aH hC hGL (xn1 ?_)
  intro _
  refine ⟨fun _ => ?_, fun h => absurd rfl h⟩
  refine aH hC hGL (xn1 ?_)
  rw [hno]
  exact ar rfl
theorem AZ {G : Glo} (v : Int) (s : List UInt8) (hl : s.length ≤ 1000000) : FnIs Tryz.prog G 39 [.str s, .int .i64 v] (.tuple [(fd v s).A, .int .i64 (verE v).e]) := by
 by_cases hv : v = 3 ∨ v = 4
 ·have e1 : fd v s = du (aJ 97 122 (-32) s) (rowV v) := by unfold fd; rw [if_pos hv]
  have e2 : verE v = .none := by unfold verE; rw [if_pos hv]
  rw [e1, e2]
  exact y4 hv s hl
 ·have e1 : fd v s = Rl.z := by unfold fd; rw [if_neg hv]
  have e2 : verE v = .errno 1 := by unfold verE; rw [if_neg hv]
  rw [e1, e2]
  have hGL : ab G [] := ad
  refine fn_x Tryz.func39 Tryz.call39 rfl rfl rfl rfl hGL ?_
  intro C hC
  refine xb ?_
  repeat' (first | exact Le.n | refine Lc.mk ?_ ?_)
  all_goals intros
  all_goals intros
  all_goals first
   | (exfalso; omega)
   | (apply ar; rfl)
end
section
open Go Go.RowKit
def valN : List UInt8 := [86, 65, 76, 85, 69]
def da (s : List UInt8) : List Pr → Nat → Int
 | [], _ => -1
 | q :: l, i => if aJ 97 122 (-32) q.n = aJ 97 122 (-32) s then (i : Int) else da s l (i + 1)
def tyL (t : Int) (x : List UInt8) : Int := if x = [116, 101, 120, 116] then (if t = 2 ∨ t = 3 then t else 1)
 else if x = [117, 114, 105] then 4
 else if x = [100, 97, 116, 101, 45, 97, 110, 100, 45, 111, 114, 45, 116, 105, 109, 101] then 5
 else if x = [100, 97, 116, 101] then 5
 else if x = [100, 97, 116, 101, 45, 116, 105, 109, 101] then 5
 else if x = [116, 105, 109, 101, 115, 116, 97, 109, 112] then 5
 else if x = [117, 116, 99, 45, 111, 102, 102, 115, 101, 116] then 6
 else if x = [108, 97, 110, 103, 117, 97, 103, 101, 45, 116, 97, 103] then 7
 else 8
def jZ (t : Int) (l : List Pr) : Int := if da valN l 0 < 0 ∨ (l.getD (da valN l 0).toNat Pr.z).vs.length = 0 then t else tyL t (aJ 65 90 32 ((l.getD (da valN l 0).toNat Pr.z).vs.getD 0 []))
def gt (v : Int) (s : List UInt8) (l : List Pr) : Int := if v = 3 ∨ v = 4 then jZ (fd v s).t l else 0
theorem oa {s : List UInt8} : ∀ {l : List Pr} {k : Nat} (i : Nat), k < l.length → (∀ j, j < k → aJ 97 122 (-32) (l.getD j Pr.z).n ≠ aJ 97 122 (-32) s) → aJ 97 122 (-32) (l.getD k Pr.z).n = aJ 97 122 (-32) s → da s l i = ((i + k : Nat) : Int)
 | [], k, i, h, _, _ => absurd h (Nat.not_lt_zero _)
 | q :: l, 0, i, _, _, h => by
  have h : aJ 97 122 (-32) q.n = aJ 97 122 (-32) s := h
  simp only [da, if_pos h, Nat.add_zero]
 | q :: l, k + 1, i, hk, h0, h => by
  have h1 : aJ 97 122 (-32) q.n ≠ aJ 97 122 (-32) s := h0 0 (Nat.succ_pos k)
  have ih := oa (s := s) (l := l) (k := k) (i + 1) (by simpa using hk) (fun j hj => by simpa using h0 (j + 1) (by omega)) (by simpa using h)
  simp only [da, if_neg h1, ih]
  omega
theorem n9 {s : List UInt8} : ∀ {l : List Pr} (i : Nat), (∀ j, j < l.length → aJ 97 122 (-32) (l.getD j Pr.z).n ≠ aJ 97 122 (-32) s) → da s l i = -1
 | [], _, _ => rfl
 | q :: l, i, h0 => by
  have h1 : aJ 97 122 (-32) q.n ≠ aJ 97 122 (-32) s := h0 0 (by simp)
  have ih := n9 (s := s) (l := l) (i + 1) (fun j hj => by simpa using h0 (j + 1) (by simpa using hj))
  simp only [da, if_neg h1, ih]
theorem iO (s : List UInt8) : ∀ (l : List Pr) (i : Nat), da s l i = -1 ∨ ∃ k, k < l.length ∧ da s l i = ((i + k : Nat) : Int)
 | [], _ => .inl rfl
 | q :: l, i => by
  by_cases h : aJ 97 122 (-32) q.n = aJ 97 122 (-32) s
  ·exact .inr ⟨0, by simp, by simp only [da, if_pos h, Nat.add_zero]⟩
  ·rcases iO s l (i + 1) with h1 | ⟨k, h1, h2⟩
   ·exact .inl (by simp only [da, if_neg h, h1])
   ·exact .inr ⟨k + 1, by simpa using h1, by simp only [da, if_neg h, h2]; omega⟩
theorem BY {c d : UInt8} : UInt8.ofNat (dj 65 90 32 c.toNat).toNat = UInt8.ofNat (dj 65 90 32 d.toNat).toNat ↔ UInt8.ofNat (dj 97 122 (-32) c.toNat).toNat = UInt8.ofNat (dj 97 122 (-32) d.toNat).toNat := by
 have h1 := c.toNat_lt
 have h2 := d.toNat_lt
 rw [← UInt8.toNat_inj, ← UInt8.toNat_inj, UInt8.toNat_ofNat', UInt8.toNat_ofNat', UInt8.toNat_ofNat', UInt8.toNat_ofNat']
 unfold dj
 (repeat' split) <;> omega
theorem tE : ∀ {n s : List UInt8}, (aJ 65 90 32 n = aJ 65 90 32 s ↔ aJ 97 122 (-32) n = aJ 97 122 (-32) s)
 | [], [] => by simp [aJ]
 | [], d :: s => by simp [aJ]
 | c :: n, [] => by simp [aJ]
 | c :: n, d :: s => by
  have ih := tE (n := n) (s := s)
  have hb := BY (c := c) (d := d)
  unfold aJ at ih ⊢
  simp only [List.map_cons, List.cons.injEq]
  rw [ih, hb]
theorem BZ (n s : List UInt8) : seqB (aJ 65 90 32 n) (aJ 65 90 32 s) = seqB (aJ 97 122 (-32) n) (aJ 97 122 (-32) s) := by
 rw [Bool.eq_iff_iff, dU, dU]
 exact tE
attribute [local irreducible] AWp AOps aa ax OrOk ab ae
attribute [local irreducible] aJ da tyL
theorem u9 {G : Glo} (l : List Pr) (s : List UInt8) (hl : l.length ≤ 9223372036854775807) (hn : ∀ k, (l.getD k Pr.z).n.length ≤ 9223372036854775807) (hs : s.length ≤ 1000000) : FnIs Tryz.prog G 59 [.list 2 l.length (prF l), .str s] (.int .i64 (da s l 0)) := by
 have h1 := fun k => zh (G := G) (l.getD k Pr.z).n s (by have := hn k; omega) (by omega)
 have hGL : ab G [] := ad
 refine fn_x Tryz.func59 Tryz.call59 rfl rfl rfl rfl hGL ?_
 intro C hC
 refine xw1 ?_
 intros
 refine lp hC hGL (fun (k : Nat) => [(1, .str s), (7, .list 2 l.length (prF l)), (8, .int .i64 (l.length : Nat)), (9, .int .i64 (k : Nat))]) (fun _ => []) (fun k => k ≤ l.length ∧ ∀ j, j < k → aJ 97 122 (-32) (l.getD j Pr.z).n ≠ aJ 97 122 (-32) s) (fun k => l.length - k) 0 ⟨Nat.zero_le _, fun j h => absurd h (Nat.not_lt_zero _)⟩ aj rfl ?_
 rintro k ⟨hk, hI⟩
 have h2 := h1 k
 refine xw ?_
 repeat' (first | exact Le.n | refine Lc.mk ?_ ?_)
 all_goals intros
 all_goals intros
 ·apply ar
  rw [oa 0 (by omega) hI (by assumption), Nat.zero_add]
 ·exact nxs (k + 1) ⟨by omega, ov hI (by assumption)⟩ (by omega) aj aD
 ·apply ar
  rw [n9 0 fun j hj => hI j (by omega)]
  rfl
theorem A2 {G : Glo} (l : List Pr) (s : List UInt8) (hl : l.length ≤ 9223372036854775807) (hn : ∀ k, (l.getD k Pr.z).n.length ≤ 9223372036854775807) (hs : s.length ≤ 1000000) : FnIs Tryz.prog G 40 [.list 2 l.length (prF l), .str s] (.int .i64 (da s l 0)) := by
 have h1 := fun k => sB (G := G) (l.getD k Pr.z).n s (by have := hn k; omega) (by omega)
 have hGL : ab G [] := ad
 refine fn_x Tryz.func40 Tryz.call40 rfl rfl rfl rfl hGL ?_
 intro C hC
 refine xw1 ?_
 intros
 refine lp hC hGL (fun (k : Nat) => [(0, .list 2 l.length (prF l)), (1, .str s), (7, .int .i64 (l.length : Nat)), (8, .int .i64 (k : Nat))]) (fun _ => []) (fun k => k ≤ l.length ∧ ∀ j, j < k → aJ 97 122 (-32) (l.getD j Pr.z).n ≠ aJ 97 122 (-32) s) (fun k => l.length - k) 0 ⟨Nat.zero_le _, fun j h => absurd h (Nat.not_lt_zero _)⟩ aj rfl ?_
 rintro k ⟨hk, hI⟩
 have h2 := h1 k
 rw [BZ] at h2
 refine xw ?_
 repeat' (first | exact Le.n | refine Lc.mk ?_ ?_)
 all_goals intros
 all_goals intros
 ·apply ar
  rw [oa 0 (by omega) hI (by assumption), Nat.zero_add]
 ·exact nxs (k + 1) ⟨by omega, ov hI (by assumption)⟩ (by omega) aj aD
 ·apply ar
  rw [n9 0 fun j hj => hI j (by omega)]
  rfl
end
section
open Go Go.RowKit
def twoS (n : Int) : List UInt8 := eI [48 + n / 10, 48 + n % 10]
def zrB (n : Int) : Bool := decide (-840 ≤ n ∧ n ≤ 840)
theorem wL {n : Int} : zrB n = true ↔ (-840 ≤ n ∧ n ≤ 840) := by simp [zrB]
theorem EJ {n : Int} : zrB n = false ↔ ¬ (-840 ≤ n ∧ n ≤ 840) := by simp [zrB]
def zprS (n : Int) : List UInt8 := if zrB n then (if n = 0 then [90] else if n < 0 then ([45] ++ twoS ((0 - n) / 60)) ++ twoS ((0 - n) % 60) else ([43] ++ twoS (n / 60)) ++ twoS (n % 60)) else []
def zprE (n : Int) : Err := if zrB n then .none else .errno 2
attribute [local irreducible] AWp AOps aa ax OrOk ab ae
attribute [local irreducible] zrB
theorem ur {G : Glo} (n : Int) : FnIs Tryz.prog G 145 [.int .i64 n] (.bool (zrB n)) := by
 have hGL : ab G [] := ad
 refine fn_x Tryz.func145 Tryz.call145 rfl rfl rfl rfl hGL ?_
 intro C hC
 refine xw ?_
 repeat' (first | exact Le.n | refine Lc.mk ?_ ?_)
 all_goals intros
 all_goals (apply ar; refine congrArg AVal.bool ?_; rw [Bool.eq_iff_iff]; simp only [wL, reduceCtorEq, false_iff, true_iff, Bool.not_eq_true', kD]; omega)
theorem jz {G : Glo} (n : Int) : FnIs Tryz.prog G 84 [.int .i64 n] (.bool (zrB n)) := by
 have hGL : ab G [] := ad
 refine fn_x Tryz.func84 Tryz.call84 rfl rfl rfl rfl hGL ?_
 intro C hC
 have hw := cY (G := G) n (-840) 840
 refine xw1 ?_
 intros
 apply ar
 refine congrArg AVal.bool ?_
 rw [Bool.eq_iff_iff, wL]
 simp
attribute [local irreducible] twoS
end
section
open Go Go.RowKit
def tlB (n : Int) : Bool := decide (n ≠ -1)
theorem GJ {n : Int} : tlB n = true ↔ n ≠ -1 := by simp [tlB]
def fmB (b : Bool) : UInt8 := if b then 57 else 45
def fmS (a b c : Bool) : List UInt8 := [fmB a, fmB b, fmB c]
def whN : Bool → Bool → Bool → Int
 | false, false, false => 0
 | true, false, false => 1
 | true, true, false => 2
 | true, true, true => 3
 | false, true, false => 4
 | false, true, true => 5
 | false, false, true => 6
 | true, false, true => -1
def dayN (y m : Int) : Int :=
 if m < 1 ∨ 12 < m then 0
 else if m = 2 then (if y ≠ -1 ∧ (y.tmod 4 ≠ 0 ∨ y.tmod 100 = 0 ∧ y.tmod 400 ≠ 0) then 28 else 29)
 else if m = 4 ∨ m = 6 ∨ m = 9 ∨ m = 11 then 30 else 31
def witB (n lo hi : Int) : Bool := decide (n = -1 ∨ lo ≤ n ∧ n ≤ hi)
theorem zS {n lo hi : Int} : witB n lo hi = true ↔ (n = -1 ∨ lo ≤ n ∧ n ≤ hi) := by simp [witB]
theorem E9 {n lo hi : Int} : witB n lo hi = false ↔ ¬ (n = -1 ∨ lo ≤ n ∧ n ≤ hi) := by simp [witB]
structure Stm where
 y : Int
 m : Int
 d : Int
 h : Int
 i : Int
 s : Int
 z : Bool
 o : Int
def Stm.A (t : Stm) : AVal := .agg [.int .i64 t.y, .int .i64 t.m, .int .i64 t.d, .int .i64 t.h, .int .i64 t.i, .int .i64 t.s, .bool t.z, .int .i64 t.o]
def okN (d t : Int) : Bool := decide (0 ≤ d ∧ 0 ≤ t ∧ ¬ (d = 0 ∧ t = 0) ∧ (0 < d ∧ 0 < t → (d = 3 ∨ d = 5 ∨ d = 6) ∧ t ≤ 3))
def Stm.dn (t : Stm) : Int := whN (tlB t.y) (tlB t.m) (tlB t.d)
def Stm.tn (t : Stm) : Int := whN (tlB t.h) (tlB t.i) (tlB t.s)
def Stm.frm (t : Stm) : Bool := okN t.dn t.tn && (if t.z then tlB t.h else decide (t.o = 0))
def Stm.day (t : Stm) : Int := if t.m = -1 then 31 else dayN t.y t.m
def Stm.rng (t : Stm) : Bool := witB t.y 0 9999 && (witB t.m 1 12 && (witB t.d 1 t.day && (witB t.h 0 23 && (witB t.i 0 59 && (witB t.s 0 59 && zrB t.o)))))
def Stm.e (t : Stm) : Int := if t.frm then (if t.rng then 0 else 2) else 3
def Stm.E (t : Stm) : Err := if t.frm then (if t.rng then .none else .errno 2) else .errno 3
def x9 (n : Int) : List UInt8 := eI [48 + n / 1000, 48 + n / 100 % 10, 48 + n / 10 % 10, 48 + n % 10]
def GZ (a b c : Bool) (y m d : Int) : List UInt8 := match a, b, c with
 | true, false, false => x9 y
 | true, true, false => (x9 y ++ [45]) ++ twoS m
 | true, true, true => (x9 y ++ twoS m) ++ twoS d
 | false, true, false => [45, 45] ++ twoS m
 | false, true, true => ([45, 45] ++ twoS m) ++ twoS d
 | false, false, true => [45, 45, 45] ++ twoS d
 | _, _, _ => []
def GK (a b c : Bool) (h m s : Int) : List UInt8 := match a, b, c with
 | true, false, false => [84] ++ twoS h
 | true, true, false => ([84] ++ twoS h) ++ twoS m
 | true, true, true => (([84] ++ twoS h) ++ twoS m) ++ twoS s
 | false, true, false => ([84] ++ [45]) ++ twoS m
 | false, true, true => (([84] ++ [45]) ++ twoS m) ++ twoS s
 | false, false, true => (([84] ++ [45]) ++ [45]) ++ twoS s
 | _, _, _ => []
def Stm.txt (t : Stm) : List UInt8 := GZ (tlB t.y) (tlB t.m) (tlB t.d) t.y t.m t.d ++ GK (tlB t.h) (tlB t.i) (tlB t.s) t.h t.i t.s ++ (if t.z then zprS t.o else [])
def Stm.T (t : Stm) : List UInt8 := if t.frm then (if t.rng then t.txt else []) else []
end
section
open Go Go.RowKit
theorem ph {c : UInt8} : ∀ {s : List UInt8}, c ∉ s → splS c s = [s]
 | [], _ => rfl
 | x :: t, h => by
  simp only [List.mem_cons, not_or] at h
  rw [splS, if_neg (Ne.symm h.1), ph h.2]
theorem m7 {c : UInt8} : ∀ {u : List UInt8} {v : List UInt8}, c ∉ u → ∃ p ps, splS c v = p :: ps ∧ splS c (u ++ v) = (u ++ p) :: ps
 | [], v, _ => by
  cases h : splS c v with
  | nil => exact absurd h (ka c v)
  | cons p ps => exact ⟨p, ps, rfl, h⟩
 | x :: u, v, h => by
  simp only [List.mem_cons, not_or] at h
  obtain ⟨p, ps, h1, h2⟩ := m7 (v := v) h.2
  refine ⟨p, ps, h1, ?_⟩
  rw [List.cons_append, splS, if_neg (Ne.symm h.1), h2]
  rfl
theorem Ay {c : UInt8} {u v : List UInt8} (h : c ∉ u) : splS c (u ++ c :: v) = u :: splS c v := by
 obtain ⟨p, ps, h1, h2⟩ := m7 (v := c :: v) h
 rw [splS, if_pos rfl] at h1
 cases h1
 rw [h2, List.append_nil]
end
section
open Go
attribute [local irreducible] AWp AOps aa ax OrOk ab ae
abbrev ptrA (b : Nat) : Value := .pointer (some ⟨b, 0, none⟩)
abbrev bldC (b : Nat) (p : Value) (j : Nat) (v : Value) : HEnt := .cells b (some 184) [.raw p, .own j v]
abbrev bldR (v : Value) (s : List UInt8) : HEnt := .row v (some 5) 1 s.length (cM s)
theorem l5 {P : Program} [Tab P] {G : Glo} {GL : List (Nat × List AVal)} {n : Nat} {H : Heap} {v : Value} (i : Nat) {f : FuncId} {fn : Func} {c : Code} {avs : List AVal} {Qf : ARes → Heap → Prop} {rs : List ResultVar} (hf : P.funcs[f]? = some fn)
  (hc : ∀ args w, (callFunc f args).run P w = .ok (.enter f args) w) (hb : fn.body = some c) (hn : fn.ntmps = n) (hrs : fn.results = rs.toArray) (hlen : Nat.ble (AVal.raw v :: avs).length n = true) (hGL : ab G GL) (hv : vAgg v = false)
  (h : ∀ C : Ctx, C.G = G → dv P C n G GL c ((0, .own i v) :: cA 0 (.raw v :: avs)) H (RetX P rs Qf)) : ae P G f (.raw v :: avs) H Qf :=
 jm hf hb hc hn hrs hlen fun w0 R0 hG => (nC (C := ⟨w0, R0, blks H, G, hG, []⟩) (k := 0) i rfl hGL hv rfl (h ⟨w0, R0, blks H, G, hG, []⟩ rfl)).mono fun _ _ _ q => eO q
theorem lx {G : Glo} (b : Nat) : FnIs Tryz.prog G 174 [.raw (ptrA b)] (.raw (ptrA b)) := by
 refine bQ Tryz.func174 (by kernel_rfl) (by kernel_rfl) (by kernel_rfl) (e := Go.Extern.AbiNoEscape.same) (by kernel_rfl) ?_
 rintro R args ⟨x, t, e, h1, h2⟩ w
 obtain rfl : t = [] := h2
 obtain ⟨l⟩ := args
 obtain rfl : l = [x] := e
 exact ⟨x, rfl, h1⟩
theorem s5 {C : Ctx} {R : Seal} {H : Heap} {w : World} (hm : MS C R H w) {i b : Nat} {e : TypeId} {cs : List AVal} (hi : H[i]? = some (.cells b (some e) cs)) : w.shape? b = some (e, cs.length) := by
 obtain ⟨Cs, el, fz, hb, hl, _, ht⟩ := fB hm hi
 have := aw hl
 simp only [Array.length_toList] at this
 simp [World.shape?, hb, this, ht e rfl]
section
variable {C : Ctx} {H : Heap} {env : Env} {x y : Operand} {i j b : Nat} {c0 c1 : AVal}
theorem DE (hx : ai env x = some (.own i (ptrA b))) (hi : H[j]? = some (.cells b (some 184) [c0, c1])) : RunV Tryz.prog C H env (.convert 182 168 x) (.own i (ptrA b)) := by
 intro R ρ w hm hf dst t p af g
 refine ⟨ptrA b, ?_, aA.2 ⟨rfl, rfl⟩⟩
 obtain ⟨ie, hie, hs1, _⟩ := dR (P := Tryz.prog) (t := 184) rfl
 have hr := Lib.run_to_unsafe (P := Tryz.prog) w (src := 182) (dst := 168) (t := 184) (j := ie) ⟨b, 0, none⟩ Tryz.underlying182 Tryz.underlying168 hie (by rw [hs1]; exact Nat.succ_ne_zero _) (s5 hm hi) (Nat.zero_lt_succ _)
 simp only [execOp, (aA.1 (hf _ _ hx)).1, Sem.run_bind, hr, Result.andThen_ok, Sem.run_pure]
theorem DG (hx : ai env x = some (.raw (ptrA b))) (hi : H[j]? = some (.cells b (some 184) [c0, c1])) : RunV Tryz.prog C H env (.convert 168 182 x) (.raw (ptrA b)) := by
 intro R ρ w hm hf dst t p af g
 refine ⟨ptrA b, ?_, an.2 rfl⟩
 obtain ⟨ie, hie, hs1, _⟩ := dR (P := Tryz.prog) (t := 184) rfl
 have hr := Lib.run_from_unsafe (P := Tryz.prog) w (src := 168) (dst := 182) (u := 184) (j := ie) ⟨b, 0, none⟩ Tryz.underlying168 Tryz.underlying182 hie (s5 hm hi) (by kernel_rfl)
 simp only [execOp, an.1 (hf _ _ hx), Sem.run_bind, hr, Result.andThen_ok, Sem.run_pure]
theorem AH (hx : ai env x = some (.raw (ptrA b))) (hy : ai env y = some (.own i (ptrA b))) : RunV Tryz.prog C H env (.binOp .neq 182 x y 182) (.bool false) := by
 intro R ρ w hm hf dst t p af g
 refine ⟨.bool false, ?_, aE.2 rfl⟩
 obtain ⟨ie, hie, hs1, _⟩ := dR (P := Tryz.prog) (t := 184) rfl
 have hr := Lib.run_neq_ptr_same (P := Tryz.prog) w (tp := 182) (te := 184) (j := ie) ⟨b, 0, none⟩ Tryz.underlying182 hie
 have hg : (eqGuard BinOp.neq 182 x y (ptrA b) (ptrA b)).run Tryz.prog w = .ok () w := rfl
 simp only [execOp, an.1 (hf _ _ hx), (aA.1 (hf _ _ hy)).1, Sem.run_bind, hg, hr, Result.andThen_ok, Sem.run_pure]
end
theorem o1 {G : Glo} (b : Nat) (j : Nat) (v : Value) : ae Tryz.prog G 150 [.raw (ptrA b)] [bldC b (.pointer none) j v] (fun r H => r = .ret (.tuple []) ∧ H = [bldC b (ptrA b) j v]) := by
 have hGL : ab G [] := ad
 refine l5 0 Tryz.func150 Tryz.call150 rfl rfl rfl rfl hGL rfl ?_
 intro C hC
 refine xw1 ?_
 intros
 refine bF hC hGL (DE (j := 0) rfl rfl) rfl rfl ?_
 repeat' (first | (conv => whnf); first | refine .w ?_ | refine .v ?_ | refine sc_c ?_ ?_ <;> (intro hb; try exact dd hb) | apply ah | apply aq | (apply sc_i <;> intro hb) | (apply bx_i; intro hbd) | (apply ak; first | exact lx _) | (apply ap (i := 0) rfl; first | exact lx _) | (apply ab_i; intro bl) | (apply as_i; intro va vk vc hva) | (apply av_i; intro v) | (apply ac_i; intro bl cap hcap) | apply bo_l | (apply nx_i <;> intro hnx) | exact rt_w | apply dw_q mixed hC hGL (by kernel_rfl) | (apply cq; assumption; (first | exact lx _); exact rfl))
 all_goals try conv => whnf
 refine bF hC hGL (DG (j := 0) rfl rfl) rfl rfl ?_
 exact xw0
theorem o0 {G : Glo} (b : Nat) (j : Nat) (v : Value) : ae Tryz.prog G 150 [.raw (ptrA b)] [bldC b (ptrA b) j v] (fun r H => r = .ret (.tuple []) ∧ H = [bldC b (ptrA b) j v]) := by
 have hGL : ab G [] := ad
 refine l5 0 Tryz.func150 Tryz.call150 rfl rfl rfl rfl hGL rfl ?_
 intro C hC
 refine xw1 ?_
 intros
 refine bF hC hGL (AH rfl rfl) rfl rfl ?_
 exact xw0
def wK (b : Nat) (p : Value) : Prop := p = .pointer none ∨ p = ptrA b
theorem gm {G : Glo} {b : Nat} {p : Value} (hp : wK b p) (j : Nat) (v : Value) : ae Tryz.prog G 150 [.raw (ptrA b)] [bldC b p j v] (fun r H => r = .ret (.tuple []) ∧ H = [bldC b (ptrA b) j v]) := by
 rcases hp with rfl | rfl
 ·exact o1 b j v
 ·exact o0 b j v
theorem CJ (v : Value) (s t : List UInt8) : HEnt.row v (some 5) 1 (s.length + t.length) (cM s ++ cM t) = bldR v (s ++ t) := by
 simp only [bldR, cM, List.length_append, List.map_append]
theorem rU {H : Heap} {i j : Nat} {x0 y0 : HEnt} (hne : i ≠ j) (hi : H[i]? = some x0) (hj : H[j]? = some y0) : ∃ rest : Heap, H.Perm ([x0, y0] ++ rest) ∧ ∀ x y, ((H.set i x).set j y).Perm ([x, y] ++ rest) := by
 have key : ∃ rest : Heap, ∀ x y, ((H.set i x).set j y).Perm ([x, y] ++ rest) := by
  rcases Nat.lt_or_gt_of_ne hne with h | h
  ·refine ⟨(H.eraseIdx j).eraseIdx i, fun x y => ?_⟩
   have h1 := eQ (H := H.set i x) (i := j) (x := y0) y (by rw [List.getElem?_set_ne (by omega)]; exact hj)
   rw [List.eraseIdx_set_gt h] at h1
   have h2 := eQ (H := H.eraseIdx j) (i := i) (x := x0) x (by rw [List.getElem?_eraseIdx_of_lt h]; exact hi)
   refine h1.symm.trans ?_
   refine (List.Perm.append_left [y] h2.symm).trans ?_
   exact List.Perm.swap x y _
  ·refine ⟨(H.eraseIdx j).eraseIdx (i - 1), fun x y => ?_⟩
   have h1 := eQ (H := H.set i x) (i := j) (x := y0) y (by rw [List.getElem?_set_ne (by omega)]; exact hj)
   rw [List.eraseIdx_set_lt h] at h1
   have h2 := eQ (H := H.eraseIdx j) (i := i - 1) (x := x0) x (by rw [List.getElem?_eraseIdx_of_ge (by omega), show i - 1 + 1 = i by omega]; exact hi)
   refine h1.symm.trans ?_
   refine (List.Perm.append_left [y] h2.symm).trans ?_
   exact List.Perm.swap x y _
 obtain ⟨rest, h⟩ := key
 refine ⟨rest, ?_, h⟩
 have := h x0 y0
 have e1 : H.set i x0 = H := by
  obtain ⟨hl, he⟩ := List.getElem?_eq_some_iff.1 hi
  rw [← he]; exact List.set_getElem_self hl
 have e2 : H.set j y0 = H := by
  obtain ⟨hl, he⟩ := List.getElem?_eq_some_iff.1 hj
  rw [← he]; exact List.set_getElem_self hl
 rw [e1, e2] at this
 exact this
theorem qO {C : Ctx} {R : Seal} {H : Heap} {w : World} {b j : Nat} {p v : Value} (k : Nat) (h : MS C R (bldC b p j v :: H) w) : MS C R (bldC b p k v :: H) w :=
 h.swap (i := 0) (x := bldC b p j v) (y := bldC b p k v) rfl rfl (h.heap.holds (bldC b p j v) List.mem_cons_self)
theorem q6 {P : Program} {G : Glo} {f : FuncId} {avs : List AVal} {H H0 : Heap} {Qf Qf' : ARes → Heap → Prop} (hb : ∀ k, k ∈ blks H ↔ k ∈ blks H0) (hpre : ∀ C R w, MS C R H0 w → MS C R H w) (h : ae P G f avs H Qf)
  (hq : ∀ r H', Qf r H' → ∃ H'', Qf' r H'' ∧ ∀ C R w, MS C R H' w → MS C R H'' w) : ae P G f avs H0 Qf' := by
 unfold ae at h ⊢
 intro R w args hG hm ha
 rcases h R w args hG ((hpre _ _ _ hm).blks_iff fun k => (hb k).symm) ha with ⟨h1, h2⟩ | ⟨v, w', h1, res, H', R', q, er, hm'⟩
 ·exact .inl ⟨h1, h2.mono fun e w' ⟨res, H', R', q, er, hm'⟩ => let ⟨H'', q', hc⟩ := hq _ _ q; ⟨res, H'', R', q', er, hc _ _ _ (hm'.blks_iff hb)⟩⟩
 ·obtain ⟨H'', q', hc⟩ := hq _ _ q
  exact .inr ⟨v, w', h1, res, H'', R', q', er, hc _ _ _ (hm'.blks_iff hb)⟩
theorem ya {P : Program} {G : Glo} {f : FuncId} {avs : List AVal} {b j k : Nat} {p v : Value} {H : Heap} {Qf Qf' : ARes → Heap → Prop} (h : ae P G f avs (bldC b p k v :: H) Qf)
  (hq : ∀ r H', Qf r H' → ∃ H'', Qf' r H'' ∧ ∀ C R w, MS C R H' w → MS C R H'' w) : ae P G f avs (bldC b p j v :: H) Qf' :=
 q6 (H := bldC b p k v :: H) (H0 := bldC b p j v :: H) (fun _ => Iff.rfl) (fun _ _ _ h => qO k h) h hq
abbrev jR : HEnt := .row (.slice none 0 0) none 1 0 []
theorem MS.spoil {C : Ctx} {R : Seal} {H : Heap} {w w' : World} {i b : Nat} {x : HEnt} {o : Obj} (h : MS C R H w) (hi : H[i]? = some x) (hb : x.blk = some b) (hw : OneBlk w b o w') : MS C R (H.set i jR) w' := by
 obtain ⟨a, c, rfl, hset⟩ := i7 (y := jR) hi
 rw [hset]
 have hx : x ∈ a ++ x :: c := by simp
 have hRb := h.heap.apart x hx b hb
 have hnd := h.heap.nodup
 rw [List.filterMap_append, List.filterMap_cons, hb] at hnd
 have hd := List.nodup_append.1 hnd
 have hother : ∀ z, z ∈ a ∨ z ∈ c → ∀ k, z.blk = some k → k ≠ b := by
  rintro z hz k hk rfl
  rcases hz with hz | hz
  ·exact hd.2.2 k (List.mem_filterMap.2 ⟨z, hz, hk⟩) k (by simp) rfl
  ·exact (List.nodup_cons.1 hd.2.1).1 (List.mem_filterMap.2 ⟨z, hz, hk⟩)
 have hmem : ∀ z, z ∈ a ++ jR :: c → z = jR ∨ ((z ∈ a ∨ z ∈ c) ∧ z ∈ a ++ x :: c) := by
  intro z hz
  simp only [List.mem_append, List.mem_cons] at hz ⊢
  rcases hz with hz | hz | hz
  ·exact .inr ⟨.inl hz, .inl hz⟩
  ·exact .inl hz
  ·exact .inr ⟨.inr hz, .inr (.inr hz)⟩
 refine ⟨?_, h.ge, h.fresh, ⟨?_, ?_, ?_⟩, ?_, ?_⟩
 ·intro k o' hk
  rw [hw.other k (by rintro rfl; rw [hRb] at hk; cases hk)]
  exact h.sealed k o' hk
 ·intro z hz
  rcases hmem z hz with rfl | ⟨hz', hz''⟩
  ·exact ⟨rfl, .inl ⟨rfl, rfl⟩⟩
  ·exact HEnt.holds_mono (h.heap.holds z hz'') (Seal.le_refl R) fun k hk => hw.other k (hother z hz' k hk)
 ·rw [List.filterMap_append, List.filterMap_cons]
  refine List.nodup_append.2 ⟨hd.1, (List.nodup_cons.1 hd.2.1).2, fun k hk l hl => hd.2.2 k hk l (List.mem_cons_of_mem _ hl)⟩
 ·intro z hz k hk
  rcases hmem z hz with rfl | ⟨_, hz''⟩
  ·cases hk
  ·exact h.heap.apart z hz'' k hk
 ·intro z hz k hk
  rcases hmem z hz with rfl | ⟨_, hz''⟩
  ·cases hk
  ·exact h.own z hz'' k hk
 ·have hob := h.own x hx b hb
  refine ⟨hw.os.trans h.ext.os, hw.tape.trans h.ext.tape, hw.output.trans h.ext.output, by rw [hw.size]; exact h.ext.size, fun k hk hB => ?_⟩
  rw [hw.other k (by rintro rfl; rcases hob with h1 | h1; omega; exact hB h1)]
  exact h.ext.block k hk hB
theorem lJ {P : Program} [Tab P] {G : Glo} {f : FuncId} {avs : List AVal} {H : Heap} {K Kp : AVal → Heap → Prop} {i j b : Nat} {p v : Value} {s s' : List UInt8} {r : AVal} (hi : H[i]? = some (bldC b p j v)) (hj : H[j]? = some (bldR v s)) (hne : i ≠ j)
  (hs : ae P G f avs [bldC b p 1 v, bldR v s] (fun x H => ∃ va vk vc, x = .ret r ∧ H = [bldC b (ptrA b) 1 (.slice va vk vc), bldR (.slice va vk vc) s']))
  (k : ∀ va vk vc, bV ((H.set i (bldC b (ptrA b) j (.slice va vk vc))).set j (bldR (.slice va vk vc) s')) (K r)) : Cx P G f avs H K Kp := by
 obtain ⟨rest, hp, hp2⟩ := rU hne hi hj
 have h1 : ae P G f avs [bldC b p j v, bldR v s] (fun x H => ∃ va vk vc, x = .ret r ∧ H = [bldC b (ptrA b) j (.slice va vk vc), bldR (.slice va vk vc) s']) := by
  refine ya hs ?_
  rintro x H' ⟨va, vk, vc, rfl, rfl⟩
  exact ⟨_, ⟨va, vk, vc, rfl, rfl⟩, fun C R w h => qO j h⟩
 refine ⟨fun x H' => ∃ va vk vc, x = .ret r ∧ H' = (H.set i (bldC b (ptrA b) j (.slice va vk vc))).set j (bldR (.slice va vk vc) s'), gh (gg (H1 := [bldC b p j v, bldR v s] ++ rest) hp.symm (cf rest h1)) ?_, ?_, ?_⟩
 ·rintro x H' ⟨H1', ⟨va, vk, vc, rfl, rfl⟩, rfl⟩
  exact ⟨_, (hp2 _ _).symm, va, vk, vc, rfl, rfl⟩
 ·rintro v' H' ⟨va, vk, vc, e, rfl⟩
  cases e
  have := k va vk vc
  rw [aP] at this
  exact this
 ·rintro v' H' ⟨va, vk, vc, e, rfl⟩; cases e
theorem dF {G : Glo} {b : Nat} {p : Value} (hp : wK b p) (v : Value) (s : List UInt8) (c : Int) (h0 : 0 ≤ c) (h1 : c < 256) (hl : s.length + 1 ≤ 137438953472) : ae Tryz.prog G 113 [.raw (ptrA b), .int .u8 c] [bldC b p 1 v, bldR v s]
    (fun r H => ∃ va vk vc, r = .ret (.raw .nilIface) ∧ H = [bldC b (ptrA b) 1 (.slice va vk vc), bldR (.slice va vk vc) (s ++ [UInt8.ofNat c.toNat])]) := by
  have hGL : ab G [] := ad
  refine l5 0 Tryz.func113 Tryz.call113 rfl rfl rfl rfl hGL rfl ?_
  intro C hC
  repeat' (first | (conv => whnf); first | refine .w ?_ | refine .v ?_ | refine sc_c ?_ ?_ <;> (intro hb; try exact dd hb) | apply ah | apply aq | (apply sc_i <;> intro hb) | (apply bx_i; intro hbd) | (apply ak; first | exact gm hp _ _) | (apply ap (i := 0) rfl; first | exact gm hp _ _) | (apply ab_i; intro bl) | (apply as_i; intro va vk vc hva) | (apply av_i; intro v) | (apply ac_i; intro bl cap hcap) | apply bo_l | (apply nx_i <;> intro hnx) | exact rt_w | apply dw_q mixed hC hGL (by kernel_rfl) | (apply cq; assumption; (first | exact gm hp _ _); exact rfl))
  all_goals try conv => whnf
  refine ⟨_, List.Sublist.refl _, va, vk, vc, rfl, ?_⟩
  rw [← CJ]
  have e : c = ((UInt8.ofNat c.toNat).toNat : Int) := by
    rw [UInt8.toNat_ofNat_of_lt' (by have : c.toNat < 256 := by omega
                                     simpa using this)]
    omega
  show [_, HEnt.row _ _ 1 (s.length + 1) (cM s ++ [AVal.int .u8 c])] = [_, HEnt.row _ _ 1 (s.length + 1) (cM s ++ [AVal.int .u8 _])]
  rw [← e]
theorem F7 {P : Program} {G : Glo} {f : FuncId} {avs : List AVal} {H : Heap} {Qf : ARes → Heap → Prop} {i sz m : Nat} {v : Value} {eT : Option TypeId} {cs : List AVal} (hi : H[i]? = some (.row v eT sz m cs))
  (h : ((v = .slice none 0 0 ∧ m = 0) ∨ ∃ g cap, v = .slice (some ⟨g, 0, none⟩) m cap ∧ m ≤ cap) → ae P G f avs H Qf) : ae P G f avs H Qf := by
 unfold ae at h ⊢
 intro R w args hG hm ha
 obtain ⟨_, hh⟩ := hm.heap.holds _ (List.mem_of_getElem? hi)
 refine h ?_ R w args hG hm ha
 rcases hh with ⟨rfl, rfl⟩ | ⟨g, cap, _, _, _, rfl, _, _, hle, _⟩
 ·exact .inl ⟨rfl, rfl⟩
 ·exact .inr ⟨g, cap, rfl, hle⟩
section
variable {P : Program} [Tab P] {C : Ctx} {n : Nat} {env : Env} {H : Heap} {Q : AExit → Env → Heap → Prop} {ops : Array Oper} {rest : List Oper} {G : Glo} {GL : List (Nat × List AVal)}
variable {d : Nat} {t : TypeId} {p : String} {af : Array Edge} {g : Option (Nat × Bool)} {b : Bool} {x y : Operand}
omit [Tab P] in
theorem AF {i k c : Nat} {a : Addr} {ts : Array TypeId} (hx : ai env x = some (.own i (.slice (some a) k c))) (hc : c ≠ 0) : RunV P C H env (.call { callee := .builtin .unsafeSliceData, args := #[x], argTypes := ts }) (.raw (.pointer (some a))) := by
 intro R ρ w hm hf dst t p af g
 refine ⟨.pointer (some a), ?_, an.2 rfl⟩
 have hr := Lib.run_unsafeSliceData_row (P := P) w ts t a k c hc
 have e : (#[x].map ρ) = #[.slice (some a) k c] := by simp [(aA.1 (hf _ _ hx)).1]
 simp only [execOp, resolve, Sem.run_bind, Sem.run_pure, Result.andThen_ok, invoke, builtin, e, hr]
theorem Bg {i0 gb cap : Nat} {s : List UInt8} {pt it : TypeId} {e : TypeId} (hC : C.G = G) (hGL : ab G GL) (hg : aF ops env g = some (b, b)) (hdn : Nat.ble (d + 1) n = true)
  (hx : ai env x = some (.raw (ptrA gb))) (hy : ai env y = some (.int .i64 s.length)) (hi : H[i0]? = some (.row (.slice (some ⟨gb, 0, none⟩) s.length cap) (some e) 1 s.length (cM s))) (hs : s ≠ []) (hlen : s.length ≤ 137438953472)
  (hp : P.underlying pt = some (.pointer e)) (hce : P.cellsOf e = 1) (k : opsX P C n G GL ops Q rest ((d, .str s) :: env) (H.set i0 jR)) :
  Op1 P C n ops ({ dst := some d, op := .call { callee := .builtin .unsafeString, args := #[x, y], argTypes := #[pt, it] }, type := t, pos := p, after := af, guard := g } :: rest) env H Q := by
 refine ⟨di (X := Unit) (av := fun _ => .str s) (H' := fun _ => H.set i0 jR) hg rfl hdn (fun R ρ w hm hf => ?_) fun _ => cP hC hGL _ _ _ k⟩
 obtain ⟨_, hh⟩ := hm.heap.holds _ (List.mem_of_getElem? hi)
 rcases hh with ⟨h, _⟩ | ⟨g', cap', Cs, el, fz, h, hb, hcs, hle, hl, hfz, ht⟩
 ·cases h
 ·cases h
  obtain rfl := ht e rfl
  rw [Nat.mul_one] at hcs hl
  have hcell : ∀ j x, s[j]? = some x → w.cell? ((⟨gb, 0, none⟩ : Addr).add j) = some (.int .u8 x.toNat) := by
   intro j x hj
   obtain ⟨hj1, hj2⟩ := List.getElem?_eq_some_iff.1 hj
   have := jU (s := s) (o := 0) hb (by rw [List.drop_zero]; exact hl) j hj1
   rw [hj2] at this
   exact this
  have hsh : w.shape? gb = some (el, Cs.size) := by simp [World.shape?, hb]
  have hr := Lib.run_unsafeString_row (P := P) w pt it t el hp hce gb Cs.size hsh s hs (by omega) (by omega) hcell
  have e2 : (#[x, y].map ρ) = #[ptrA gb, .int .i64 s.length] := by simp [an.1 (hf _ _ hx), ao.1 (hf _ _ hy)]
  have hone : ∃ o, OneBlk w gb o (w.freeze ⟨gb, 0, none⟩ s.length) := by
   have h0 : s.length ≠ 0 := by simpa using hs
   unfold World.freeze
   rw [if_neg h0]
   obtain ⟨lo, hi⟩ := fz
   refine ⟨.cells Cs el (if lo == hi then (0, 0 + s.length) else (min lo 0, max hi (0 + s.length))), rfl, rfl, rfl, by simp, ?_, ?_⟩
   ·simp [Array.getElem?_modify, hb]
   ·intro k hk; simp [Array.getElem?_modify, Ne.symm hk]
  obtain ⟨o, hone⟩ := hone
  refine ⟨(), .string ⟨s.toArray⟩, w.freeze ⟨gb, 0, none⟩ s.length, R, ?_, Seal.le_refl R, az.2 rfl, hm.spoil hi rfl hone⟩
  simp only [execOp, resolve, Sem.run_bind, Sem.run_pure, Result.andThen_ok, invoke, builtin, e2, hr]
omit [Tab P] in
theorem Fs {i k c : Nat} {ts : Array TypeId} (hx : ai env x = some (.own i (.slice none k c))) : RunV P C H env (.call { callee := .builtin .unsafeSliceData, args := #[x], argTypes := ts }) (.raw (.pointer none)) := by
 intro R ρ w hm hf dst t p af g
 refine ⟨.pointer none, ?_, an.2 rfl⟩
 have hr := Lib.run_unsafeSliceData_nil (P := P) w ts t k c
 have e : (#[x].map ρ) = #[.slice none k c] := by simp [(aA.1 (hf _ _ hx)).1]
 simp only [execOp, resolve, Sem.run_bind, Sem.run_pure, Result.andThen_ok, invoke, builtin, e, hr]
omit [Tab P] in
theorem qm {pt it : TypeId} {a : Option Addr} (hx : ai env x = some (.raw (.pointer a))) (hy : ai env y = some (.int .i64 0)) : RunV P C H env (.call { callee := .builtin .unsafeString, args := #[x, y], argTypes := #[pt, it] }) (.str []) := by
 intro R ρ w hm hf dst t p af g
 refine ⟨.string .empty, ?_, az.2 rfl⟩
 have hr := Lib.run_unsafeString_none (P := P) w pt it t a
 have e : (#[x, y].map ρ) = #[.pointer a, .int .i64 0] := by simp [an.1 (hf _ _ hx), ao.1 (hf _ _ hy)]
 simp only [execOp, resolve, Sem.run_bind, Sem.run_pure, Result.andThen_ok, invoke, builtin, e, hr]
theorem DQ {i0 i k gb : Nat} {ts : Array TypeId} {e : TypeId} {eT : Option TypeId} {cs : List AVal} (hC : C.G = G) (hGL : ab G GL) (hg : aF ops env g = some (b, b)) (hdn : Nat.ble (d + 1) n = true)
  (hx : ai env x = some (.own i (.slice (some ⟨gb, 0, none⟩) k 0))) (hi : H[i0]? = some (.row (.slice (some ⟨gb, 0, none⟩) k 0) eT 1 k cs)) (hp : P.underlying t = some (.pointer e))
  (kk : ∀ bl, opsX P C n G GL ops Q rest ((d, .raw (ptrA bl)) :: env) H) :
  Op1 P C n ops ({ dst := some d, op := .call { callee := .builtin .unsafeSliceData, args := #[x], argTypes := ts }, type := t, pos := p, after := af, guard := g } :: rest) env H Q := by
 refine ⟨di (X := Nat) (av := fun bl => .raw (ptrA bl)) (H' := fun _ => H) hg rfl hdn (fun R ρ w hm hf => ?_) fun bl => cP hC hGL _ _ _ (kk bl)⟩
 obtain ⟨_, hh⟩ := hm.heap.holds _ (List.mem_of_getElem? hi)
 rcases hh with ⟨h, _⟩ | ⟨g', cap', Cs, el, fz, h, hb, hcs, hle, hl, hfz, ht⟩
 ·cases h
 ·cases h
  have hr := Lib.run_unsafeSliceData_zero (P := P) w ts t e hp ⟨gb, 0, none⟩ k (el, Cs.size) (by simp [World.shape?, hb])
  have e2 : (#[x].map ρ) = #[.slice (some ⟨gb, 0, none⟩) k 0] := by simp [(aA.1 (hf _ _ hx)).1]
  refine ⟨w.heap.size, ptrA w.heap.size, _, R.put w.heap.size (.view ⟨gb, 0, none⟩ e), ?_, Seal.put_le hm.seal_free, an.2 rfl, hm.alloc_sealed _⟩
  simp only [execOp, resolve, Sem.run_bind, Sem.run_pure, Result.andThen_ok, invoke, builtin, e2, hr]
  rfl
end
theorem mw {G : Glo} {b : Nat} {p : Value} (g cap : Nat) (s : List UInt8) (hs : s ≠ []) (hlen : s.length ≤ 137438953472) (hc0 : cap ≠ 0) : ae Tryz.prog G 114 [.raw (ptrA b)] [bldC b p 1 (.slice (some ⟨g, 0, none⟩) s.length cap), bldR (.slice (some ⟨g, 0, none⟩) s.length cap) s] (fun r H => r = .ret (.str s) ∧ H = [bldC b p 1 (.slice (some ⟨g, 0, none⟩) s.length cap)]) := by
 have hGL : ab G [] := ad
 refine l5 0 Tryz.func114 Tryz.call114 rfl rfl rfl rfl hGL rfl ?_
 intro C hC
 refine xn1 ?_
 intros
 refine dw_p mixed hC hGL false (fun (_ : Unit) => [(2, .str s)]) (fun _ => [bldC b p 1 (.slice (some ⟨g, 0, none⟩) s.length cap), jR]) (.take 0 (.take 1 (.take 2 (.take 5 (.take 6 (.take 7 (.br 3 (.br 4 (.br 8 (.br 9 (.br 10 (.take 11 (.done)) (.nil)) (.nil)) (.nil)) (.br 8 (.br 4 (.br 9 (.br 10 (.take 11 (.done)) (.nil)) (.nil)) (.br 9 (.br 4 (.br 10 (.take 11 (.done)) (.nil)) (.nil)) (.nil))) (.nil))) (.br 8 (.br 3 (.br 4 (.br 9 (.br 10 (.take 11 (.done)) (.nil)) (.nil)) (.br 9 (.br 4 (.br 10 (.take 11 (.done)) (.nil)) (.nil)) (.nil))) (.br 9 (.br 3 (.br 4 (.br 10 (.take 11 (.done)) (.nil)) (.nil)) (.nil)) (.nil))) (.nil))))))))) (by kernel_rfl) ?_ ?_
 ·repeat' (first | (conv => whnf); first | refine .w ?_ | refine Ix.v ?_ | refine Sd.v ?_ | refine Sl.v ?_ | apply am | refine sc_d ?_ ?_ <;> (intro hb; try exact dd hb) | apply ah | (apply sc_i <;> intro hb) | (apply bx_i; intro hbd) | (apply ak; first | fail) | (apply ab_i; intro bl) | exact rt_w | exact True.intro | (apply bc_i; intro C hC) | apply bt_i | apply og_n | (apply og_a; exact rfl))
  all_goals try conv => whnf
  all_goals (apply bF hC hGL; exact AF rfl hc0; exact rfl; exact rfl)
  all_goals (
   repeat' (first | (conv => whnf); first | refine .w ?_ | refine Ix.v ?_ | refine Sd.v ?_ | refine Sl.v ?_ | apply am | refine sc_d ?_ ?_ <;> (intro hb; try exact dd hb) | apply ah | (apply sc_i <;> intro hb) | (apply bx_i; intro hbd) | (apply ak; first | fail) | (apply ab_i; intro bl) | exact rt_w | exact True.intro | (apply bc_i; intro C hC) | apply bt_i | apply og_n | (apply og_a; exact rfl))
   all_goals try conv => whnf
  )
  all_goals (apply Bg (i0 := 1) (s := s) (cap := cap) (gb := g) hC hGL; exact rfl; exact rfl; exact rfl; exact rfl; exact rfl; exact hs; exact hlen; exact Tryz.underlying226; kernel_rfl)
  all_goals (
   repeat' (first | (conv => whnf); first | refine .w ?_ | refine Ix.v ?_ | refine Sd.v ?_ | refine Sl.v ?_ | apply am | refine sc_d ?_ ?_ <;> (intro hb; try exact dd hb) | apply ah | (apply sc_i <;> intro hb) | (apply bx_i; intro hbd) | (apply ak; first | fail) | (apply ab_i; intro bl) | exact rt_w | exact True.intro | (apply bc_i; intro C hC) | apply bt_i | apply og_n | (apply og_a; exact rfl))
   all_goals try conv => whnf
  )
  all_goals (exact ⟨(), ⟨rfl, trivial⟩, rfl⟩)
 ·intro _
  exact xn0
theorem mv {G : Glo} {b : Nat} {p : Value} (g cap : Nat) (hc0 : cap ≠ 0) : ae Tryz.prog G 114 [.raw (ptrA b)] [bldC b p 1 (.slice (some ⟨g, 0, none⟩) 0 cap), bldR (.slice (some ⟨g, 0, none⟩) 0 cap) []] (fun r H => r = .ret (.str []) ∧ H = [bldC b p 1 (.slice (some ⟨g, 0, none⟩) 0 cap)]) := by
 have hGL : ab G [] := ad
 refine l5 0 Tryz.func114 Tryz.call114 rfl rfl rfl rfl hGL rfl ?_
 intro C hC
 refine xn1 ?_
 intros
 refine dw_p mixed hC hGL false (fun (_ : Unit) => [(2, .str [])]) (fun _ => [bldC b p 1 (.slice (some ⟨g, 0, none⟩) 0 cap), bldR (.slice (some ⟨g, 0, none⟩) 0 cap) []]) (.take 0 (.take 1 (.take 2 (.take 5 (.take 6 (.take 7 (.br 3 (.br 4 (.br 8 (.br 9 (.br 10 (.take 11 (.done)) (.nil)) (.nil)) (.nil)) (.br 8 (.br 4 (.br 9 (.br 10 (.take 11 (.done)) (.nil)) (.nil)) (.br 9 (.br 4 (.br 10 (.take 11 (.done)) (.nil)) (.nil)) (.nil))) (.nil))) (.br 8 (.br 3 (.br 4 (.br 9 (.br 10 (.take 11 (.done)) (.nil)) (.nil)) (.br 9 (.br 4 (.br 10 (.take 11 (.done)) (.nil)) (.nil)) (.nil))) (.br 9 (.br 3 (.br 4 (.br 10 (.take 11 (.done)) (.nil)) (.nil)) (.nil)) (.nil))) (.nil))))))))) (by kernel_rfl) ?_ ?_
 ·repeat' (first | (conv => whnf); first | refine .w ?_ | refine Ix.v ?_ | refine Sd.v ?_ | refine Sl.v ?_ | apply am | refine sc_d ?_ ?_ <;> (intro hb; try exact dd hb) | apply ah | (apply sc_i <;> intro hb) | (apply bx_i; intro hbd) | (apply ak; first | fail) | (apply ab_i; intro bl) | exact rt_w | exact True.intro | (apply bc_i; intro C hC) | apply bt_i | apply og_n | (apply og_a; exact rfl))
  all_goals try conv => whnf
  all_goals (apply bF hC hGL; exact AF rfl hc0; exact rfl; exact rfl)
  all_goals (
   repeat' (first | (conv => whnf); first | refine .w ?_ | refine Ix.v ?_ | refine Sd.v ?_ | refine Sl.v ?_ | apply am | refine sc_d ?_ ?_ <;> (intro hb; try exact dd hb) | apply ah | (apply sc_i <;> intro hb) | (apply bx_i; intro hbd) | (apply ak; first | fail) | (apply ab_i; intro bl) | exact rt_w | exact True.intro | (apply bc_i; intro C hC) | apply bt_i | apply og_n | (apply og_a; exact rfl))
   all_goals try conv => whnf
  )
  all_goals (apply bF hC hGL; exact qm rfl rfl; exact rfl; exact rfl)
  all_goals (
   repeat' (first | (conv => whnf); first | refine .w ?_ | refine Ix.v ?_ | refine Sd.v ?_ | refine Sl.v ?_ | apply am | refine sc_d ?_ ?_ <;> (intro hb; try exact dd hb) | apply ah | (apply sc_i <;> intro hb) | (apply bx_i; intro hbd) | (apply ak; first | fail) | (apply ab_i; intro bl) | exact rt_w | exact True.intro | (apply bc_i; intro C hC) | apply bt_i | apply og_n | (apply og_a; exact rfl))
   all_goals try conv => whnf
  )
  all_goals (exact ⟨(), ⟨rfl, trivial⟩, rfl⟩)
 ·intro _
  exact xn0
theorem mu {G : Glo} {b : Nat} {p : Value}  : ae Tryz.prog G 114 [.raw (ptrA b)] [bldC b p 1 (.slice none 0 0), bldR (.slice none 0 0) []] (fun r H => r = .ret (.str []) ∧ H = [bldC b p 1 (.slice none 0 0)]) := by
 have hGL : ab G [] := ad
 refine l5 0 Tryz.func114 Tryz.call114 rfl rfl rfl rfl hGL rfl ?_
 intro C hC
 refine xn1 ?_
 intros
 refine dw_p mixed hC hGL false (fun (_ : Unit) => [(2, .str [])]) (fun _ => [bldC b p 1 (.slice none 0 0), bldR (.slice none 0 0) []]) (.take 0 (.take 1 (.take 2 (.take 5 (.take 6 (.take 7 (.br 3 (.br 4 (.br 8 (.br 9 (.br 10 (.take 11 (.done)) (.nil)) (.nil)) (.nil)) (.br 8 (.br 4 (.br 9 (.br 10 (.take 11 (.done)) (.nil)) (.nil)) (.br 9 (.br 4 (.br 10 (.take 11 (.done)) (.nil)) (.nil)) (.nil))) (.nil))) (.br 8 (.br 3 (.br 4 (.br 9 (.br 10 (.take 11 (.done)) (.nil)) (.nil)) (.br 9 (.br 4 (.br 10 (.take 11 (.done)) (.nil)) (.nil)) (.nil))) (.br 9 (.br 3 (.br 4 (.br 10 (.take 11 (.done)) (.nil)) (.nil)) (.nil)) (.nil))) (.nil))))))))) (by kernel_rfl) ?_ ?_
 ·repeat' (first | (conv => whnf); first | refine .w ?_ | refine Ix.v ?_ | refine Sd.v ?_ | refine Sl.v ?_ | apply am | refine sc_d ?_ ?_ <;> (intro hb; try exact dd hb) | apply ah | (apply sc_i <;> intro hb) | (apply bx_i; intro hbd) | (apply ak; first | fail) | (apply ab_i; intro bl) | exact rt_w | exact True.intro | (apply bc_i; intro C hC) | apply bt_i | apply og_n | (apply og_a; exact rfl))
  all_goals try conv => whnf
  all_goals (apply bF hC hGL; exact Fs rfl; exact rfl; exact rfl)
  all_goals (
   repeat' (first | (conv => whnf); first | refine .w ?_ | refine Ix.v ?_ | refine Sd.v ?_ | refine Sl.v ?_ | apply am | refine sc_d ?_ ?_ <;> (intro hb; try exact dd hb) | apply ah | (apply sc_i <;> intro hb) | (apply bx_i; intro hbd) | (apply ak; first | fail) | (apply ab_i; intro bl) | exact rt_w | exact True.intro | (apply bc_i; intro C hC) | apply bt_i | apply og_n | (apply og_a; exact rfl))
   all_goals try conv => whnf
  )
  all_goals (apply bF hC hGL; exact qm rfl rfl; exact rfl; exact rfl)
  all_goals (
   repeat' (first | (conv => whnf); first | refine .w ?_ | refine Ix.v ?_ | refine Sd.v ?_ | refine Sl.v ?_ | apply am | refine sc_d ?_ ?_ <;> (intro hb; try exact dd hb) | apply ah | (apply sc_i <;> intro hb) | (apply bx_i; intro hbd) | (apply ak; first | fail) | (apply ab_i; intro bl) | exact rt_w | exact True.intro | (apply bc_i; intro C hC) | apply bt_i | apply og_n | (apply og_a; exact rfl))
   all_goals try conv => whnf
  )
  all_goals (exact ⟨(), ⟨rfl, trivial⟩, rfl⟩)
 ·intro _
  exact xn0
theorem mt {G : Glo} {b : Nat} {p : Value} (g : Nat) : ae Tryz.prog G 114 [.raw (ptrA b)] [bldC b p 1 (.slice (some ⟨g, 0, none⟩) 0 0), bldR (.slice (some ⟨g, 0, none⟩) 0 0) []] (fun r H => r = .ret (.str []) ∧ H = [bldC b p 1 (.slice (some ⟨g, 0, none⟩) 0 0)]) := by
 have hGL : ab G [] := ad
 refine l5 0 Tryz.func114 Tryz.call114 rfl rfl rfl rfl hGL rfl ?_
 intro C hC
 refine xn1 ?_
 intros
 refine dw_p mixed hC hGL false (fun (_ : Unit) => [(2, .str [])]) (fun _ => [bldC b p 1 (.slice (some ⟨g, 0, none⟩) 0 0), bldR (.slice (some ⟨g, 0, none⟩) 0 0) []]) (.take 0 (.take 1 (.take 2 (.take 5 (.take 6 (.take 7 (.br 3 (.br 4 (.br 8 (.br 9 (.br 10 (.take 11 (.done)) (.nil)) (.nil)) (.nil)) (.br 8 (.br 4 (.br 9 (.br 10 (.take 11 (.done)) (.nil)) (.nil)) (.br 9 (.br 4 (.br 10 (.take 11 (.done)) (.nil)) (.nil)) (.nil))) (.nil))) (.br 8 (.br 3 (.br 4 (.br 9 (.br 10 (.take 11 (.done)) (.nil)) (.nil)) (.br 9 (.br 4 (.br 10 (.take 11 (.done)) (.nil)) (.nil)) (.nil))) (.br 9 (.br 3 (.br 4 (.br 10 (.take 11 (.done)) (.nil)) (.nil)) (.nil)) (.nil))) (.nil))))))))) (by kernel_rfl) ?_ ?_
 ·repeat' (first | (conv => whnf); first | refine .w ?_ | refine Ix.v ?_ | refine Sd.v ?_ | refine Sl.v ?_ | apply am | refine sc_d ?_ ?_ <;> (intro hb; try exact dd hb) | apply ah | (apply sc_i <;> intro hb) | (apply bx_i; intro hbd) | (apply ak; first | fail) | (apply ab_i; intro bl) | exact rt_w | exact True.intro | (apply bc_i; intro C hC) | apply bt_i | apply og_n | (apply og_a; exact rfl))
  all_goals try conv => whnf
  all_goals (apply DQ (i0 := 1) hC hGL; exact rfl; exact rfl; exact rfl; exact rfl; exact Tryz.underlying226; intro bl)
  all_goals (
   repeat' (first | (conv => whnf); first | refine .w ?_ | refine Ix.v ?_ | refine Sd.v ?_ | refine Sl.v ?_ | apply am | refine sc_d ?_ ?_ <;> (intro hb; try exact dd hb) | apply ah | (apply sc_i <;> intro hb) | (apply bx_i; intro hbd) | (apply ak; first | fail) | (apply ab_i; intro bl) | exact rt_w | exact True.intro | (apply bc_i; intro C hC) | apply bt_i | apply og_n | (apply og_a; exact rfl))
   all_goals try conv => whnf
  )
  all_goals (apply bF hC hGL; exact qm rfl rfl; exact rfl; exact rfl)
  all_goals (
   repeat' (first | (conv => whnf); first | refine .w ?_ | refine Ix.v ?_ | refine Sd.v ?_ | refine Sl.v ?_ | apply am | refine sc_d ?_ ?_ <;> (intro hb; try exact dd hb) | apply ah | (apply sc_i <;> intro hb) | (apply bx_i; intro hbd) | (apply ak; first | fail) | (apply ab_i; intro bl) | exact rt_w | exact True.intro | (apply bc_i; intro C hC) | apply bt_i | apply og_n | (apply og_a; exact rfl))
   all_goals try conv => whnf
  )
  all_goals (exact ⟨(), ⟨rfl, trivial⟩, rfl⟩)
 ·intro _
  exact xn0
theorem rl {G : Glo} {b : Nat} {p v : Value} (s : List UInt8) (hlen : s.length ≤ 137438953472) : ae Tryz.prog G 114 [.raw (ptrA b)] [bldC b p 1 v, bldR v s] (fun r H => r = .ret (.str s) ∧ H = [bldC b p 1 v]) := by
 refine F7 (i := 1) rfl ?_
 rintro (⟨rfl, h0⟩ | ⟨g, cap, rfl, hc⟩)
 ·obtain rfl : s = [] := List.eq_nil_of_length_eq_zero h0
  exact mu
 ·by_cases hs : s = []
  ·subst hs
   by_cases hc0 : cap = 0
   ·subst hc0; exact mt g
   ·exact mv g cap hc0
  ·have h1 : s.length ≠ 0 := by simpa using hs
   exact mw g cap s hs hlen (by omega)
end
section
open Go
attribute [local irreducible] AWp AOps aa ax OrOk ab ae
attribute [local irreducible] aB badI badS cm rngR ownB mayZ
theorem uy {G : Glo} (r : Int) : FnIs Tryz.prog G 173 [.int .i32 r] (.bool (mayZ r)) := by
 have hGL : ab G [] := ad
 refine fn_x Tryz.func173 Tryz.call173 rfl rfl rfl rfl hGL ?_
 intro C hC
 repeat' (first | (conv => whnf); first | refine .w ?_ | refine .v ?_ | refine sc_c ?_ ?_ <;> (intro hb; try exact dd hb) | apply ah | apply aq | (apply sc_i <;> intro hb) | (apply bx_i; intro hbd) | (apply ak; first | fail) | (apply ap (i := 0) rfl; first | fail) | (apply ab_i; intro bl) | (apply as_i; intro va vk vc hva) | (apply av_i; intro v) | (apply ac_i; intro bl cap hcap) | apply bo_l | (apply nx_i <;> intro hnx) | exact rt_w | apply dw_q mixed hC hGL (by kernel_rfl) | (apply cq; assumption; (first | fail); exact rfl))
 all_goals try conv => whnf
 all_goals (apply ar; refine congrArg AVal.bool ?_)
 all_goals (rw [Bool.eq_iff_iff]; simp [jN, lZ, kD, Bool.not_eq_true'] <;> omega)
theorem Eg {r : Int} (hz : 0 ≤ r ∧ r ≤ 1114111 ∧ (r < 55296 ∨ 57343 < r)) : (Utf8.encode r).data.toList =
  if r.toNat < 128 then [UInt8.ofNat r.toNat] else if r.toNat < 2048 then [UInt8.ofNat (192 + r.toNat / 64), UInt8.ofNat (128 + r.toNat % 64)]
  else if r.toNat < 65536 then [UInt8.ofNat (224 + r.toNat / 4096), UInt8.ofNat (128 + r.toNat / 64 % 64), UInt8.ofNat (128 + r.toNat % 64)]
  else [UInt8.ofNat (240 + r.toNat / 262144), UInt8.ofNat (128 + r.toNat / 4096 % 64), UInt8.ofNat (128 + r.toNat / 64 % 64), UInt8.ofNat (128 + r.toNat % 64)] := by
 have hv : Utf8.valid r = true := by simp [Utf8.valid]; omega
 unfold Utf8.encode
 simp only [hv, if_true]
 (repeat' split) <;> first | rfl | omega
end
section
open Go
theorem DT {x : UInt8} {t : List UInt8} (h : x.toNat < 128) : aB (x :: t) = (x.toNat, 1) := by
 unfold aB
 simp [aa, h]
theorem qx {x : UInt8} {t : List UInt8} (h : x.toNat < 128) : rngR (x :: t) = x.toNat ∧ cm (x :: t) = 1 := by
 unfold rngR cm
 rw [DT h]
 simp
theorem GI {a b : UInt8} (ha : a.toNat < 128) (hb : b.toNat < 128) : rngR [a, b] = a.toNat ∧ cm [a, b] = 1 ∧ rngR [b] = b.toNat ∧ cm [b] = 1 := ⟨(qx ha).1, (qx ha).2, (qx hb).1, (qx hb).2⟩
theorem two1 {a b : UInt8} : aa [a, b] 1 = b.toNat := rfl
def noGo (Q : AExit → Env → Heap → Prop) : AExit → Env → Heap → Prop
 | .goto _, _, _ => False
 | x, e, h => Q x e h
theorem tV {P : Program} [Tab P] {C : Ctx} {n : Nat} {env : Env} {H : Heap} {Q : AExit → Env → Heap → Prop} {c : Code} {G : Glo} {GL : List (Nat × List AVal)} (hC : C.G = G) (hGL : ab G GL) (h : dv P C n G GL c env H (noGo Q)) : Cd P C n (.scope c) env H Q := by
 refine ⟨fun R a w hm hf => wp_scope_straight (wp_mono (bD hC hGL c _ _ _ h R a w hm hf) ?_)⟩
 rintro ex a w ⟨x, e, h, R, hq, hr, hm, hf⟩
 cases x with
 | goto l => exact hq.elim
 | normal => simp only [au] at hr; subst hr; exact ⟨.normal, e, h, R, hq, rfl, hm, hf⟩
 | exit i => simp only [au] at hr; subst hr; exact ⟨.exit i, e, h, R, hq, rfl, hm, hf⟩
 | ret => simp only [au] at hr; subst hr; exact ⟨.ret, e, h, R, hq, rfl, hm, hf⟩
 | panic v =>
  obtain ⟨x, rfl, hx⟩ := hr
  exact ⟨.panic v, e, h, R, hq, ⟨x, rfl, hx⟩, hm, hf⟩
attribute [local irreducible] AWp AOps aa ax OrOk ab ae
attribute [local irreducible] aB badI badS cm rngR ownB mayZ
theorem Gb {r : Int} (h1 : 128 ≤ r) (hv : mayZ r = true) : ∃ e : List UInt8, (Utf8.encode r).data.toList = e ∧ 2 ≤ e.length ∧ e.length ≤ 4 ∧ 128 ≤ aa e 1 ∧ aa e 1 < 256 := by
 refine ⟨_, rfl, ?_⟩
 rw [jN] at hv
 rw [Eg hv]
 have hb : ∀ k : Nat, 128 ≤ ((UInt8.ofNat (128 + k % 64)).toNat) ∧ ((UInt8.ofNat (128 + k % 64)).toNat) < 256 := by
  intro k
  have e : 128 + k % 64 < 256 := by omega
  rw [UInt8.toNat_ofNat_of_lt' (by simpa using e)]
  omega
 split
 ·omega
 ·split
  ·refine ⟨by simp, by simp, ?_⟩; simpa [aa] using hb _
  ·split
   ·refine ⟨by simp, by simp, ?_⟩; simpa [aa] using hb _
   ·refine ⟨by simp, by simp, ?_⟩; simpa [aa] using hb _
theorem qW {G : Glo} {a b : UInt8} (ha : a.toNat < 128) (hb' : b.toNat < 128) (r : Int) (h1 : 128 ≤ r) (hv : mayZ r = true) (hne : r ≠ 65533) : FnIs Tryz.prog G 137 [.str [a, b], .int .i32 r] (.int .i64 (-1)) := by
 have hGL : ab G [] := ad
 refine fn_x Tryz.func137 Tryz.call137 rfl rfl rfl rfl hGL ?_
 intro C hC
 have hV := uy (G := G) r
 rw [hv] at hV
 refine xw1 ?_
 intros
 apply tV hC hGL
 refine xw1 ?_
 intros
 obtain ⟨e, he, e1, e2, e3, e4⟩ := Gb h1 hv
 refine bF hC hGL (DK rfl rfl rfl rfl) rfl rfl ?_
 rw [he]
 refine xw1 ?_
 intros
 refine rds hC hGL 1 ?_
 have hix : ∀ c : Int, 0 ≤ c → c ≤ 255 → FnIs Tryz.prog G 35 [.str [], .int .u8 c] (.int .i64 (-1)) := fun c h0 h1 => aL [] c h0 h1
 repeat' (first | (conv => whnf); first | refine .w ?_ | refine .v ?_ | refine sc_c ?_ ?_ <;> (intro hb; try exact dd hb) | apply ah | apply aq | (apply sc_i <;> intro hb) | (apply bx_i; intro hbd) | (apply ak; first | exact hV | exact hix _ (by omega) (by omega)) | (apply ap (i := 0) rfl; first | exact hV | exact hix _ (by omega) (by omega)) | (apply ab_i; intro bl) | (apply as_i; intro va vk vc hva) | (apply av_i; intro v) | (apply ac_i; intro bl cap hcap) | apply bo_l | (apply nx_i <;> intro hnx) | exact rt_w | apply dw_q mixed hC hGL (by kernel_rfl) | (apply cq; assumption; (first | exact hV | exact hix _ (by omega) (by omega)); exact rfl))
 all_goals try conv => whnf
 have hl2 : e.length = 2 := by simp only [List.length_cons, List.length_nil] at hb; omega
 have ht1 : ((e.length : Int) - 1).toNat = 1 := by omega
 have ht2 : ((e.length : Int) - 1 + 1).toNat = 2 := by omega
 have hcall := Tryz.call35
 have hix2 : ∀ c : Int, 0 ≤ c → c ≤ 255 → FnIs Tryz.prog G 35 [.str (List.drop ((e.length : Int) - 1 + 1).toNat [a, b]), .int .u8 c] (.int .i64 (-1)) := by rw [ht2]; exact hix
 have h10 : aa [a, b] ((e.length : Int) - 1).toNat = b.toNat := by rw [ht1]; exact two1
 have h128 : 128 ≤ aa e ((e.length : Int) - 1).toNat := by rw [ht1]; exact e3
 apply tV hC hGL
 repeat' (first | (conv => whnf); first | refine .w ?_ | refine .v ?_ | refine sc_c ?_ ?_ <;> (intro hb; try exact dd hb) | apply ah | apply aq | (apply sc_i <;> intro hb) | (apply bx_i; intro hbd) | (apply ak; first | exact hV | exact hix2 _ (by omega) (by omega)) | (apply ap (i := 0) rfl; first | exact hV | exact hix2 _ (by omega) (by omega)) | (apply ab_i; intro bl) | (apply as_i; intro va vk vc hva) | (apply av_i; intro v) | (apply ac_i; intro bl cap hcap) | apply bo_l | (apply nx_i <;> intro hnx) | exact rt_w | apply dw_q mixed hC hGL (by kernel_rfl) | (apply cq; assumption; (first | exact hV | exact hix2 _ (by omega) (by omega)); exact rfl))
 all_goals try conv => whnf
theorem oU {G : Glo} {a b : UInt8} (ha : a.toNat < 128) (hb' : b.toNat < 128) : FnIs Tryz.prog G 137 [.str [a, b], .int .i32 65533] (.int .i64 (-1)) := by
 have hGL : ab G [] := ad
 refine fn_x Tryz.func137 Tryz.call137 rfl rfl rfl rfl hGL ?_
 intro C hC
 refine xw1 ?_
 intros
 refine rds hC hGL 3 ?_
 refine xw ?_
 repeat' (first | exact Le.n | refine Lc.mk ?_ ?_)
 all_goals intros
 all_goals (
  exfalso
  obtain ⟨f1, f2, f3, f4⟩ := GI ha hb'
  simp only [List.drop_zero, f1, f2, Nat.zero_add, List.drop_succ_cons, f3, f4, List.length_cons, List.length_nil] at *
  omega)
theorem qV {G : Glo} {a b : UInt8} (r : Int) (h0 : 0 ≤ r) (h1 : r < 128) : FnIs Tryz.prog G 137 [.str [a, b], .int .i32 r] (.int .i64 (idxB [a, b] r)) := by
 have hGL : ab G [] := ad
 refine fn_x Tryz.func137 Tryz.call137 rfl rfl rfl rfl hGL ?_
 intro C hC
 have hI := aL (G := G) [a, b] r h0 (by omega)
 exact xw0
end
section
open Go Go.RowKit
theorem s3 (t : List UInt8) (h : (aB t).2 ≠ 0) : ((aB t).1 < 128 → (aB t).2 = 1 ∧ aa t 0 = (aB t).1) ∧ (128 ≤ (aB t).1 → ∀ j, j < (aB t).2 → 128 ≤ aa t j) ∧ mayZ (aB t).1 = true := by
 have hb := aX t 0
 rw [jN]
 revert h
 unfold aB
 repeat' split
 all_goals (intro h; try (exact absurd rfl h))
 all_goals (simp only [dc, mayN, Bool.and_eq_true, Bool.or_eq_true, decide_eq_true_eq, beq_iff_eq] at *)
 ·refine ⟨fun _ => by simp, fun h => by omega, by omega⟩
 ·refine ⟨fun h => by omega, fun _ j hj => ?_, by omega⟩
  obtain rfl | rfl : j = 0 ∨ j = 1 := by omega
  all_goals omega
 ·refine ⟨fun h => by omega, fun _ j hj => ?_, by omega⟩
  obtain rfl | rfl | rfl : j = 0 ∨ j = 1 ∨ j = 2 := by omega
  all_goals omega
 ·refine ⟨fun h => by omega, fun _ j hj => ?_, by omega⟩
  obtain rfl | rfl | rfl | rfl : j = 0 ∨ j = 1 ∨ j = 2 ∨ j = 3 := by omega
  all_goals omega
theorem vx (t : List UInt8) (h : (aB t).2 = 0) (h0 : t.length ≠ 0) : 128 ≤ aa t 0 := by
 rcases Nat.lt_or_ge (aa t 0) 128 with h1 | h1
 ·exfalso
  revert h
  unfold aB
  rw [if_neg h0, if_pos h1]
  simp
 ·exact h1
theorem wS {a b : UInt8} (x : UInt8) : ([a, b] : List UInt8).contains x = true ↔ (x.toNat = a.toNat ∨ x.toNat = b.toNat) := by
 simp only [List.contains_cons, List.contains_nil, Bool.or_false, Bool.or_eq_true, beq_iff_eq]
 exact ⟨fun h => h.imp (fun h => by rw [h]) (fun h => by rw [h]), fun h => h.imp UInt8.toNat_inj.1 UInt8.toNat_inj.1⟩
theorem Dj {a b : UInt8} {x : UInt8} (h : x.toNat ≠ a.toNat ∧ x.toNat ≠ b.toNat) : ([a, b] : List UInt8).contains x = false := by
 cases hc : ([a, b] : List UInt8).contains x with
 | false => rfl
 | true => rcases (wS x).1 hc with h1 | h1; exact absurd h1 h.1; exact absurd h1 h.2
theorem jD {s : List UInt8} {i : Nat} {x : UInt8} (h : s[i]? = some x) : x.toNat = aa s i := by simp [aa, List.getD, h]
attribute [local irreducible] AWp AOps aa ax OrOk ab ae
attribute [local irreducible] aB badI badS cm rngR ownB mayZ
theorem uQ {G : Glo} (n : Int) : FnIs Tryz.prog G 138 [.int .i64 n] (.bool (ltB 8 n)) := by
 have hGL : ab G [] := ad
 refine fn_x Tryz.func138 Tryz.call138 rfl rfl rfl rfl hGL ?_
 intro C hC
 repeat' (first | (conv => whnf); first | refine .w ?_ | refine .v ?_ | refine sc_c ?_ ?_ <;> (intro hb; try exact dd hb) | apply ah | apply aq | (apply sc_i <;> intro hb) | (apply bx_i; intro hbd) | (apply ak; first | fail) | (apply ap (i := 0) rfl; first | fail) | (apply ab_i; intro bl) | (apply as_i; intro va vk vc hva) | (apply av_i; intro v) | (apply ac_i; intro bl cap hcap) | apply bo_l | (apply nx_i <;> intro hnx) | exact rt_w | apply dw_q mixed hC hGL (by kernel_rfl) | (apply cq; assumption; (first | fail); exact rfl))
 all_goals try conv => whnf
theorem D6 {a b : UInt8} (r : Int) : (0 ≤ idxB [a, b] r ↔ r = a.toNat ∨ r = b.toNat) := by
 unfold idxB
 simp only [idxF]
 split
 ·omega
 ·split <;> omega
theorem oV {G : Glo} {a b : UInt8} (ha : a.toNat < 128) (hb' : b.toNat < 128) (r : Int) (hv : mayZ r = true) : ∃ z : Int, FnIs Tryz.prog G 137 [.str [a, b], .int .i32 r] (.int .i64 z) ∧ (0 ≤ z ↔ r = a.toNat ∨ r = b.toNat) := by
 have hm := hv
 rw [jN] at hm
 by_cases h1 : r < 128
 ·exact ⟨_, qV r hm.1 h1, D6 r⟩
 ·by_cases h2 : r = 65533
  ·subst h2; exact ⟨-1, oU ha hb', by omega⟩
  ·exact ⟨-1, qW ha hb' r (by omega) hv h2, by omega⟩
theorem pn (t : List UInt8) (h0 : t.length ≠ 0) : mayZ (rngR t : Int) = true ∧ 0 < cm t ∧ cm t ≤ t.length ∧ ((rngR t : Int) < 128 → cm t = 1 ∧ (aa t 0 : Int) = rngR t) ∧ (128 ≤ (rngR t : Int) → ∀ j, j < cm t → 128 ≤ aa t j) := by
 have hle := kB t
 by_cases hn : (aB t).2 = 0
 ·have h1 := vx t hn h0
  unfold rngR cm
  rw [if_pos hn, if_pos hn]
  refine ⟨by rw [jN]; omega, by omega, by omega, fun h => by omega, fun _ j hj => by rw [show j = 0 by omega]; exact h1⟩
 ·have h1 := s3 t hn
  unfold rngR cm
  rw [if_neg hn, if_neg hn]
  refine ⟨h1.2.2, by omega, hle.1, fun h => ?_, fun h => h1.2.1 (by omega)⟩
  have := h1.1 (by omega)
  omega
theorem nW {G : Glo} {a b : UInt8} (ha : a.toNat < 128) (hb' : b.toNat < 128) (s : List UInt8) (hl : s.length ≤ 8) : FnIs Tryz.prog G 101 [.str s, .str [a, b]] (.int .i64 (Lib.indexAny s [a, b])) := by
 have hGL : ab G [] := ad
 refine fn_x Tryz.func101 Tryz.call101 rfl rfl rfl rfl hGL ?_
 intro C hC
 have hS := uQ (G := G) s.length
 have hlen2 : ([a, b] : List UInt8).length = 2 := rfl
 repeat' (first | (conv => whnf); first | refine .w ?_ | refine .v ?_ | refine sc_c ?_ ?_ <;> (intro hb; try exact dd hb) | apply ah | apply aq | (apply sc_i <;> intro hb) | (apply bx_i; intro hbd) | (apply ak; first | exact hS) | (apply ap (i := 0) rfl; first | exact hS) | (apply ab_i; intro bl) | (apply as_i; intro va vk vc hva) | (apply av_i; intro v) | (apply ac_i; intro bl cap hcap) | apply bo_l | (apply nx_i <;> intro hnx) | exact rt_w | apply dw_q mixed hC hGL (by kernel_rfl) | (apply cq; assumption; (first | exact hS); exact rfl))
 all_goals try conv => whnf
 refine lp hC hGL (fun (i : Nat) => [(1, .str [a, b]), (45, .own 0 (.pointer (some ⟨bl, 0, none⟩)))]) (fun i => [.iter bl s i]) (fun i => i ≤ s.length ∧ Lib.NoAny s [a, b] i) (fun i => s.length - i) 0 ?_ aj rfl ?_
 ·exact ⟨Nat.zero_le _, Lib.NoAny.zero _ _⟩
 rintro i ⟨hi, hno⟩
 have hz := fun (h : i < s.length) => pn (s.drop i) (by rw [List.length_drop]; omega)
 have hR : ∃ z : Int, i < s.length → FnIs Tryz.prog G 137 [.str [a, b], .int .i32 (rngR (s.drop i))] (.int .i64 z) ∧ (0 ≤ z ↔ (rngR (s.drop i) : Int) = a.toNat ∨ (rngR (s.drop i) : Int) = b.toNat) := by
  by_cases h : i < s.length
  ·obtain ⟨z, h1, h2⟩ := oV (G := G) ha hb' (rngR (s.drop i)) (hz h).1
   exact ⟨z, fun _ => ⟨h1, h2⟩⟩
  ·exact ⟨0, fun h' => absurd h' h⟩
 obtain ⟨z, hR⟩ := hR
 repeat' (first | (conv => whnf); first | refine .w ?_ | refine .v ?_ | refine sc_c ?_ ?_ <;> (intro hb; try exact dd hb) | apply ah | apply aq | (apply sc_i <;> intro hb) | (apply bx_i; intro hbd) | (apply ak; first | exact (hR (by omega)).1) | (apply ap (i := 0) rfl; first | exact (hR (by omega)).1) | (apply ab_i; intro bl) | (apply as_i; intro va vk vc hva) | (apply av_i; intro v) | (apply ac_i; intro bl cap hcap) | apply bo_l | (apply nx_i <;> intro hnx) | exact rt_w | apply dw_q mixed hC hGL (by kernel_rfl) | (apply cq; assumption; (first | exact (hR (by omega)).1); exact rfl))
 all_goals try conv => whnf
 ·obtain ⟨z1, z2, z3, z4, z5⟩ := hz hnx
  have hr := (hR hnx).2.1 hb
  have h1 := z4 (by omega)
  have hx : s[i]? = some s[i] := List.getElem?_eq_getElem hnx
  have h2 := jD hx
  rw [cv, Nat.add_zero] at h1
  refine ar ?_
  rw [Lib.indexAny_hit hno hx ((wS _).2 (by omega))]
 ·obtain ⟨z1, z2, z3, z4, z5⟩ := hz hnx
  rw [List.length_drop] at z3
  have hr : ¬ ((rngR (s.drop i) : Int) = a.toNat ∨ (rngR (s.drop i) : Int) = b.toNat) := fun h => by have := (hR hnx).2.2 h; omega
  refine nxt (i + cm (s.drop i)) ⟨by omega, ?_⟩ (by omega) ⟨rfl, rfl, trivial⟩ rfl
  intro j x hj hx
  by_cases h : j < i
  ·exact hno j x h hx
  ·have h2 := jD hx
   apply Dj
   by_cases h128 : (rngR (s.drop i) : Int) < 128
   ·have h3 := z4 h128
    rw [cv, Nat.add_zero] at h3
    have : j = i := by omega
    subst this
    omega
   ·have h3 := z5 (by omega) (j - i) (by omega)
    rw [cv, show i + (j - i) = j by omega] at h3
    omega
 ·have : i = s.length := by omega
  subst this
  refine ar ?_
  rw [Lib.indexAny_none hno]
  rfl
theorem oW {G : Glo} {a b : UInt8} (ha : a.toNat < 128) (hb' : b.toNat < 128) (s : List UInt8) (h8 : 8 < s.length) (hl : s.length < 100000) : FnIs Tryz.prog G 101 [.str s, .str [a, b]] (.int .i64 (Lib.indexAny s [a, b])) := by
 refine ci rfl Tryz.call101 ?_
 rintro R args ⟨x, t, e, hx, y, t', e', hy, rfl⟩ w _ _
 obtain rfl := az.1 hx
 obtain rfl := az.1 hy
 subst e'
 obtain rfl := fW e
 refine (Tryz.strings_IndexAny_long (fun w => by kernel_rfl) ⟨s.toArray⟩ ⟨#[a, b]⟩ w (by show 2 ≤ 2; omega) (by rw [aY]; exact h8) (by rw [aY]; omega) (by show 2 < 4294967281; omega) ?_).mono ?_
 ·intro j x hx
  match j with
  | 0 => cases hx; exact ha
  | 1 => cases hx; exact hb'
  | j + 2 => simp at hx
 ·rintro e w' ⟨rfl, rfl⟩
  exact ⟨rfl, ((Below.refl w.heap.size w).alloc (Nat.le_refl _) _).alloc (by show w.heap.size ≤ (w.heap.push _).size; simp) _⟩
theorem qX {G : Glo} {a b : UInt8} (ha : a.toNat < 128) (hb' : b.toNat < 128) (s : List UInt8) (hl : s.length < 100000) : FnIs Tryz.prog G 101 [.str s, .str [a, b]] (.int .i64 (Lib.indexAny s [a, b])) := by
 by_cases h : s.length ≤ 8
 ·exact nW ha hb' s h
 ·exact oW ha hb' s (by omega) hl
end
section
open Go Go.RowKit
attribute [local irreducible] AWp AOps aa ax OrOk ab ae
theorem vS {G : Glo} (s p : List UInt8) : FnIs Tryz.prog G 82 [.str s, .str p] (.bool (p.isPrefixOf s)) := by
 refine ci rfl Tryz.call82 ?_
 rintro R args ⟨x, t, e, hx, y, t', e', hy, rfl⟩ w hG hs
 obtain rfl := az.1 hx
 obtain rfl := az.1 hy
 subst e'
 obtain rfl := fW e
 refine (Tryz.strings_HasPrefix ⟨s.toArray⟩ ⟨p.toArray⟩ w).mono ?_
 rintro e w' ⟨rfl, rfl⟩
 exact ⟨by simp [Lib.hasPrefix, AVal.conc], Below.refl _ _⟩
end
end Go.Proofs.YtkelbglfhigmiaaGreatDoor
