/- Parts of the proof of prints_root: Crds, Spa, Spb, Spc, Spd, Ars. -/
import Derived.Test.YtahebkecmlmlfaaGreatDoorBaj
import Derived.Test.YtahebkecmlmlfaaGreatDoorBaq
import Derived.Test.YtahebkecmlmlfaaGreatDoorBam
import Derived.Test.YtahebkecmlmlfaaGreatDoorBah
import Derived.Test.YtahebkecmlmlfaaGreatDoorBan
set_option linter.unusedVariables false
set_option linter.unusedSimpArgs false
set_option linter.unusedSectionVars false
namespace Go.Proofs.YtahebkecmlmlfaaGreatDoor
set_option maxRecDepth 20000
set_option maxHeartbeats 4000000
section
open Go Go.RowKit
def Crd.z : Crd := ⟨0, []⟩
instance : Inhabited Crd := ⟨Crd.z⟩
def crdF (L : List Crd) (i : Nat) : AVal := (L.getD i Crd.z).A
theorem pz {p : Crd → Prop} {l : List Crd} (h : ∀ x ∈ l, p x) {k : Nat} (hk : k < l.length) : p (l.getD k Crd.z) := by
 rw [List.getD_eq_getElem?_getD, List.getElem?_eq_getElem hk]
 exact h _ (List.getElem_mem hk)
theorem zx {p : Crd → Prop} {l : List Crd} (h : ∀ k, k < l.length → p (l.getD k Crd.z)) : ∀ x ∈ l, p x := by
 intro x hx
 obtain ⟨i, hi, rfl⟩ := List.getElem_of_mem hx
 have := h i hi
 rwa [List.getD_eq_getElem?_getD, List.getElem?_eq_getElem hi] at this
end
section
open Go Go.RowKit
def Err.mv (i : Nat) : Err → Err
 | .none => .none
 | .errno e => .errno e
 | .at e _ => .at e i
def sdF (w : Int) (L : List Crd) : Nat → Err
 | 0 => .none
 | n + 1 => match sdF w L n with
  | .none => ((L.getD n Crd.z).pE w).mv n
  | e => e
theorem oi {w : Int} {L : List Crd} : ∀ {n : Nat}, (∀ j, j < n → (L.getD j Crd.z).pE w = .none) → sdF w L n = .none
 | 0, _ => rfl
 | n + 1, h => by rw [sdF, oi fun j hj => h j (by omega)]; simp only [h n (by omega), Err.mv]
theorem y3 {i : Nat} {x : Err} (h : x.mv i = .none) : x = .none := by
 cases x with
 | none => rfl
 | errno e => cases h
 | «at» e p => cases h
theorem BM {w : Int} {L : List Crd} {k : Nat} : ∀ {n : Nat}, k < n → (∀ j, j < k → (L.getD j Crd.z).pE w = .none) → (L.getD k Crd.z).pE w ≠ .none → sdF w L n = ((L.getD k Crd.z).pE w).mv k
 | 0, h, _, _ => absurd h (Nat.not_lt_zero _)
 | n + 1, h, h1, h2 => by
  rw [sdF]
  rcases Nat.lt_or_ge k n with g | g
  ·rw [BM g h1 h2]
   cases h3 : ((L.getD k Crd.z).pE w).mv k with
   | none => exact absurd (y3 h3) h2
   | errno e => rfl
   | «at» e p => rfl
  ·obtain rfl : k = n := by omega
   rw [oi h1]
def sdT (w : Int) (L : List Crd) (k : Nat) : List UInt8 := (L.take k).flatMap fun c => c.pT w
theorem oh {w : Int} {L : List Crd} {k : Nat} (hk : k < L.length) : sdT w L (k + 1) = sdT w L k ++ (L.getD k Crd.z).pT w := by
 unfold sdT
 rw [List.take_succ_eq_append_getElem hk, List.flatMap_append, List.flatMap_singleton, List.getD_eq_getElem?_getD, List.getElem?_eq_getElem hk]
 rfl
theorem BK (w : Int) (L : List Crd) : sdT w L 0 = [] := rfl
theorem rP {w : Int} {L : List Crd} : ∀ k, k ≤ L.length → (sdT w L k).length ≤ k * 20000
 | 0, _ => Nat.zero_le _
 | k + 1, hk => by
  have ih := rP (w := w) (L := L) k (by omega)
  have := wW (L.getD k Crd.z) w
  rw [oh (by omega), List.length_append, Nat.succ_mul]
  omega
def sdE (w : Int) (L : List Crd) : Err := if 20 < L.length then .errno 4 else match sdF w L L.length with
 | .none => if 20000 < (sdT w L L.length).length then .errno 4 else .none
 | e => e
def sdS (w : Int) (L : List Crd) : List UInt8 := match sdE w L with
 | .none => sdT w L L.length
 | _ => []
theorem rQ {w : Int} {L : List Crd} (h : sdE w L ≠ .none) : sdS w L = [] := by
 unfold sdS
 split
 ·rename_i k; exact absurd k h
 ·rfl
theorem BL {w : Int} {L : List Crd} (h : sdE w L = .none) : sdS w L = sdT w L L.length := by unfold sdS; rw [h]
theorem yK {w : Int} {L : List Crd} (h : 20 < L.length) : sdE w L = .errno 4 := by unfold sdE; rw [if_pos h]
theorem BN {w : Int} {L : List Crd} (h : ¬ 20 < L.length) {k : Nat} (hk : k < L.length) (h1 : ∀ j, j < k → (L.getD j Crd.z).pE w = .none) (h2 : (L.getD k Crd.z).pE w ≠ .none) : sdE w L = ((L.getD k Crd.z).pE w).mv k := by
 unfold sdE
 rw [if_neg h, BM hk h1 h2]
 cases h3 : ((L.getD k Crd.z).pE w).mv k with
 | none => exact absurd (y3 h3) h2
 | errno e => rfl
 | «at» e p => rfl
theorem yJ {w : Int} {L : List Crd} (h : ¬ 20 < L.length) (h1 : ∀ j, j < L.length → (L.getD j Crd.z).pE w = .none) : sdE w L = if 20000 < (sdT w L L.length).length then .errno 4 else .none := by
 unfold sdE
 rw [if_neg h, oi h1]
end
section
open Go Go.RowKit
attribute [local irreducible] AWp AOps aa ax OrOk ad ae
attribute [local irreducible] Crd.pE Crd.pT sdT
theorem rK {G : Glo} {m : Int} (hE : ad G errTy) (hE2 : ij G) (hP : co G) (hM : ad G (bI m)) (hS : SpIs G) (L : List Crd) (w : Int) (hl : L.length ≤ 1000000) (hf : ∀ c ∈ L, c.fine) : FnIs Tryz.prog G 16 [.list 2 L.length (crdF L), .int .i64 w] (.tuple [.str (sdS w L), (sdE w L).A]) := by
 by_cases h20 : 20 < L.length
 ·rw [yK h20, rQ (by rw [yK h20]; exact fun h => by cases h)]
  simp only [Err.A, errA]
  have hGL : ad G [] := ab
  refine fn_x Tryz.func16 Tryz.call16 rfl rfl rfl rfl hGL ?_
  intro C hC
  exact xw0
 have hpr := fun k (hk : k < L.length) => pG hE hE2 hP hM hS (L.getD k Crd.z) w (pz hf hk)
 have hat := fun k (hk : k < L.length) a b => BN (w := w) h20 hk a b
 have hen := yJ (w := w) h20
 have hno := rQ (w := w) (L := L)
 have hok := BL (w := w) (L := L)
 generalize sdE w L = E at *
 generalize sdS w L = S at *
 have hGL : ad G [] := ab
 refine fn_x Tryz.func16 Tryz.call16 rfl rfl rfl rfl hGL ?_
 intro C hC
 refine xw1 ?_
 intro bl
 intros
 refine xg 0 rfl ?_
 refine lp hC hGL (fun x : Nat × Value × Value => [(1, .int .i64 w), (6, .own 0 (ptrA bl)), (17, .list 2 L.length (crdF L)), (18, .int .i64 (L.length : Nat)), (19, .int .i64 (x.1 : Nat))]) (fun x => [bldC bl x.2.1 1 x.2.2, bldR x.2.2 (sdT w L x.1)]) (fun x => x.1 ≤ L.length ∧ mE bl x.2.1 ∧ (∃ va vk vc, x.2.2 = .slice va vk vc) ∧ ∀ j, j < x.1 → (L.getD j Crd.z).pE w = .none) (fun x => L.length - x.1) (0, .pointer none, .slice none 0 0) ⟨Nat.zero_le _, .inl rfl, ⟨none, 0, 0, rfl⟩, fun j h => absurd h (Nat.not_lt_zero _)⟩ ai (by unfold sdT; rfl) ?_
 rintro ⟨k, p, v⟩ ⟨k1, k2, k3, k4⟩
 dsimp only at k1 k2 k3 k4 ⊢
 have hsl := rP (w := w) (L := L) k k1
 by_cases hk : k < L.length
 ·have h1 := hpr k hk
  have hat := hat k hk k4
  have hpl := wW (L.getD k Crd.z) w
  have hsu := oh (w := w) hk
  have hi := lz (G := G) hE ((L.getD k Crd.z).pE w)
  have hsame : (crdF L k) = (L.getD k Crd.z).A := by unfold crdF; rfl
  obtain ⟨ua, uk, uc, rfl⟩ := k3
  rcases hq : (L.getD k Crd.z).pE w with _ | e | ⟨e, q⟩
  ·rw [hq] at h1 hi
   simp only [Err.A] at h1 hi
   refine xw1 ?_
   intros
   apply dI (i := 0) (j := 1) rfl rfl (by decide) (aU k2 (.slice ua uk uc) (sdT w L k) ((L.getD k Crd.z).pT w) (by omega))
   intro xa xk xc
   refine xw1 ?_
   intros
   refine nxs (k + 1, ptrA bl, .slice xa xk xc) ⟨hk, .inr rfl, ⟨xa, xk, xc, rfl⟩, aM k4 hq⟩ (by dsimp only; omega) ai ?_
   dsimp only
   rw [hsu]
   exact aR
  ·rw [hq] at h1 hi hat
   have hat := hat (fun h => by cases h)
   subst hat
   rw [hno (fun h => by cases h)]
   simp only [Err.A, Err.e, Err.mv, errA] at h1 hi ⊢
   exact xw0
  ·rw [hq] at h1 hi hat
   have hat := hat (fun h => by cases h)
   subst hat
   rw [hno (fun h => by cases h)]
   simp only [Err.A, Err.e, Err.mv, atA] at h1 hi ⊢
   exact xw0
 ·obtain rfl : k = L.length := by omega
  obtain ⟨ua, uk, uc, rfl⟩ := k3
  have hen := hen k4
  refine xw1 ?_
  intros
  apply Db (i := 0) (j := 1) rfl rfl (by decide) (mW ua uk uc (sdT w L L.length))
  by_cases hl2 : 20000 < (sdT w L L.length).length
  ·rw [if_pos hl2] at hen
   subst hen
   rw [hno (fun h => by cases h)]
   simp only [Err.A, errA]
   exact xw0
  ·rw [if_neg hl2] at hen
   subst hen
   rw [hok rfl]
   simp only [Err.A]
   refine xw1 ?_
   intros
   apply s3 (i := 0) (j := 1) rfl rfl (by decide) (du (sdT w L L.length) (by omega))
   exact xw0
end
section
open Go Go.RowKit
theorem pE_e (c : Crd) (w : Int) : c.pE w = .none ∨ ((c.pE w).e ≠ 0 ∧ ∀ e p, c.pE w = .at e p → 0 ≤ p) := by
 unfold Crd.pE
 split
 ·rcases Dg c with h | ⟨h1, h2⟩
  ·rw [h]
   dsimp only
   split
   ·exact .inr ⟨by decide, fun e p h => by cases h⟩
   ·exact .inl rfl
  ·split
   ·rename_i h; rw [h] at h1; exact absurd rfl h1
   ·exact .inr ⟨h1, h2⟩
 ·exact .inr ⟨by decide, fun e p h => by cases h⟩
attribute [local irreducible] AWp AOps aa ax OrOk ad ae
attribute [local irreducible] Crd.pE Crd.pT sdT
theorem oA {G : Glo} {m : Int} (hU : ad G utfTy) (hM : ad G (bI m)) (hH : ad G shapesTy) (hP : co G) (L : List Crd) (w : Int) (hl : L.length ≤ 1000000) (hf : ∀ c ∈ L, c.fine) : FnIs Tryz.prog G 15 [.list 2 L.length (crdF L), .int .i64 w] (.tuple [.str (sdS w L), .agg [.int .i64 (sdE w L).e, .int .i64 (sdE w L).p]]) := by
 have hB := dj (G := G) 4
 have hGd := di (G := G)
 by_cases h20 : 20 < L.length
 ·rw [yK h20, rQ (by rw [yK h20]; exact fun h => by cases h)]
  simp only [Err.e, Err.p]
  have hGL : ad G [] := ab
  refine fn_x Tryz.func15 Tryz.call15 rfl rfl rfl rfl hGL ?_
  intro C hC
  exact xw0
 have hpr := fun k (hk : k < L.length) => jJ hU hM hH hP (L.getD k Crd.z) w (pz hf hk)
 have hat := fun k (hk : k < L.length) a b => BN (w := w) h20 hk a b
 have hen := yJ (w := w) h20
 have hno := rQ (w := w) (L := L)
 have hok := BL (w := w) (L := L)
 generalize sdE w L = E at *
 generalize sdS w L = S at *
 have hGL : ad G [] := ab
 refine fn_x Tryz.func15 Tryz.call15 rfl rfl rfl rfl hGL ?_
 intro C hC
 refine xw1 ?_
 intro bl
 intros
 refine lp hC hGL (fun k : Nat => [(1, .int .i64 w), (5, .own 0 (.pointer (some ⟨bl, 0, none⟩))), (6, .str (sdT w L k)), (15, .list 2 L.length (crdF L)), (16, .int .i64 (L.length : Nat)), (17, .int .i64 (k : Nat))]) (fun _ => [.cells bl (some 45) [.int .i64 0, .int .i64 0]]) (fun k => k ≤ L.length ∧ ∀ j, j < k → (L.getD j Crd.z).pE w = .none) (fun k => L.length - k) 0 ⟨Nat.zero_le _, fun j h => absurd h (Nat.not_lt_zero _)⟩ (by rw [BK]; exact ai) rfl ?_
 rintro k ⟨k1, k4⟩
 have hsl := rP (w := w) (L := L) k k1
 by_cases hk : k < L.length
 ·have h1 := hpr k hk
  have hat := hat k hk k4
  have hpl := wW (L.getD k Crd.z) w
  have hsu := oh (w := w) hk
  have hc : crdF L k = .agg [.int .i64 (L.getD k Crd.z).v, .list 15 (L.getD k Crd.z).l.length (itsF (L.getD k Crd.z).l)] := by unfold crdF Crd.A; rfl
  unfold Crd.A at h1
  have hFI := fun e p => po (G := G) e p
  rcases pE_e (L.getD k Crd.z) w with hq | ⟨hq1, hq2⟩
  ·rw [hq] at h1
   simp only [Err.e, Err.p] at h1
   have hFI := hFI 0 (-1)
   refine xw1 ?_
   intros
   exact nxs (k + 1) ⟨hk, aM k4 hq⟩ (by omega) (by rw [hsu]; exact ai) aR
  ·rcases hq : (L.getD k Crd.z).pE w with _ | e | ⟨e, q⟩
   ·rw [hq] at hq1; exact absurd rfl hq1
   ·rw [hq] at h1 hq1 hat
    simp only [Err.e, Err.p] at h1 hq1
    have hat := hat (fun h => by cases h)
    subst hat
    rw [hno (fun h => by cases h)]
    simp only [Err.mv, Err.e, Err.p]
    have hFI := hFI e (-1)
    rw [show eqB e 0 = false from jP.2 hq1] at hFI
    refine xn1 ?_
    intros
    refine eb (dT (aX (i := 2) (k := 10) rfl rfl) (aX (i := 1) (k := 8) rfl rfl)) ?_
    refine dw_p mixed hC hGL false (fun _ : Unit => [(4, .str []), (5, .own 0 (.pointer (some ⟨bl, 0, none⟩)))]) (fun _ => [.cells bl (some 45) [.int .i64 e, .int .i64 (-1)], bE, bE]) (.take 0 (.take 1 (.br 2 (.done) (.nil)))) (by kernel_rfl) ?_ ?_
    ·refine xn ?_
     repeat' (first | exact Le.n | refine Lc.mk ?_ ?_)
     all_goals intros
     all_goals exact ⟨(), ai, rfl⟩
    intro _
    exact xw0
   ·have hq0 := hq2 e q hq
    rw [hq] at h1 hq1 hat
    simp only [Err.e, Err.p] at h1 hq1
    have hat := hat (fun h => by cases h)
    subst hat
    rw [hno (fun h => by cases h)]
    simp only [Err.mv, Err.e, Err.p]
    have hFI := hFI e (k : Int)
    rw [show eqB e 0 = false from jP.2 hq1] at hFI
    refine xn1 ?_
    intros
    refine eb (dT (aX (i := 2) (k := 10) rfl rfl) (aX (i := 1) (k := 8) rfl rfl)) ?_
    refine dw_p mixed hC hGL false (fun _ : Unit => [(4, .str []), (5, .own 0 (.pointer (some ⟨bl, 0, none⟩)))]) (fun _ => [.cells bl (some 45) [.int .i64 e, .int .i64 (k : Int)], bE, bE]) (.take 0 (.take 1 (.br 2 (.done) (.nil)))) (by kernel_rfl) ?_ ?_
    ·refine xn ?_
     repeat' (first | exact Le.n | refine Lc.mk ?_ ?_)
     all_goals intros
     all_goals exact ⟨(), ai, rfl⟩
    intro _
    exact xw0
 ·obtain rfl : k = L.length := by omega
  have hen := hen k4
  by_cases hl2 : 20000 < (sdT w L L.length).length
  ·rw [if_pos hl2] at hen
   subst hen
   rw [hno (fun h => by cases h)]
   simp only [Err.e, Err.p]
   exact xw0
  ·rw [if_neg hl2] at hen
   subst hen
   rw [hok rfl]
   simp only [Err.e, Err.p]
   exact xw0
end
section
open Go Go.RowKit
attribute [local irreducible] AWp AOps aa ax OrOk ad ae
attribute [local irreducible] sdE sdS
theorem mi {G : Glo} {m : Int} (hU : ad G utfTy) (hE : ad G errTy) (hE2 : ij G) (hP : co G) (hM : ad G (bI m)) (hH : ad G shapesTy) (hS : SpIs G) (L : List Crd) (w : Int) (hl : L.length ≤ 1048576) (ho : ∀ c ∈ L, c.l.length ≤ 1048576 ∧ ∀ x ∈ c.l, Itm.OK 1048576 x) : FnIs Tryz.prog G 5 [.list 2 L.length (crdF L), .int .i64 w] (.bool true) := by
 by_cases h30 : 30 < L.length
 ·have hGL : ad G [] := ab
  refine fn_x Tryz.func5 Tryz.call5 rfl rfl rfl rfl hGL ?_
  intro C hC
  exact xw0
 have hf1 := fun hf => rK hE hE2 hP hM hS L w (by omega) hf
 have hf2 := fun hf => oA hU hM hH hP L w (by omega) hf
 have hpl := l0 (G := G) hE (sdE w L)
 have hB := fun k (hk : k < L.length) => sB (G := G) (L.getD k Crd.z) (pz ho hk).2 (pz ho hk).1
 have hb1 := fun k (hk : k < L.length) => (pz ho hk).1
 have hall := zx (p := Crd.fine) (l := L)
 generalize sdE w L = e at *
 generalize sdS w L = t at *
 have hGL : ad G [] := ab
 refine fn_x Tryz.func5 Tryz.call5 rfl rfl rfl rfl hGL ?_
 intro C hC
 refine xw1 ?_
 intros
 refine lp hC hGL (fun z : Nat × Nat => [(0, .list 2 L.length (crdF L)), (1, .int .i64 w), (5, .int .i64 (z.2 : Nat)), (15, .list 2 L.length (crdF L)), (16, .int .i64 (L.length : Nat)), (17, .int .i64 (z.1 : Nat))]) (fun _ => []) (fun z => z.1 ≤ L.length ∧ z.2 ≤ z.1 * 1048576 ∧ ∀ j, j < z.1 → (L.getD j Crd.z).fine) (fun z => L.length - z.1) (0, 0) ⟨Nat.zero_le _, Nat.zero_le _, fun j h => absurd h (Nat.not_lt_zero _)⟩ ai rfl ?_
 rintro ⟨k, n⟩ ⟨k1, k2, k3⟩
 dsimp only at k1 k2 k3 ⊢
 by_cases hk : k < L.length
 ·have hB := hB k hk
  have hb1 := hb1 k hk
  have hc : crdF L k = .agg [.int .i64 (L.getD k Crd.z).v, .list 15 (L.getD k Crd.z).l.length (itsF (L.getD k Crd.z).l)] := by unfold crdF Crd.A; rfl
  unfold Crd.A at hB
  refine xw1 ?_
  intros
  refine mw hB ?_
  rintro _ ⟨b, rfl, hb⟩
  cases b with
  | true => exact xw0
  | false =>
   refine xw1 ?_
   intros
   refine nxs (k + 1, n + (L.getD k Crd.z).l.length) ⟨hk, by dsimp only; omega, aM k3 (hb rfl)⟩ (by dsimp only; omega) ?_ aR
   dsimp only
   rw [show (((n + (L.getD k Crd.z).l.length : Nat) : Int)) = (n : Int) + ((L.getD k Crd.z).l.length : Int) by omega]
   exact ai
 ·have hf := hall fun j hj => k3 j (by omega)
  have h1 := hf1 hf
  have h2 := hf2 hf
  by_cases h150 : 150 < n
  ·exact xw0
  ·cases e <;> simp only [Err.A, Err.e, Err.p, errA, atA] at h1 h2 hpl
   all_goals
    refine xw1 ?_
    intros
    rw [show seqB t t = true from a7.2 rfl]
    exact aj rfl
end
section
open Go Go.ChangeShapes Go.WideShapes Go.ChangeAt Go.RowKit Go.WideMaps Go.WideElems
section
variable {H : Type} {enc : TypeId × Value → H} {W : World}
theorem Af {fuel : Nat} {spare : Nat → Bool} {held : Bool} {cs : List Value} {x : DataW H × List MemPlace} (h : DataW.trod enc Tryz.prog W 0 spare held fuel 24 cs = some x) (hb : Rows.uptoBulk x.1 ≤ 1048576) :
  ∃ c : Crd, RelC (aw W W.heap.size) c.A cs ∧ c.l.length ≤ 1048576 ∧ ∀ y ∈ c.l, Itm.OK 1048576 y := by
 obtain ⟨xs, n, _, hx, hl, hxl, hf⟩ := DataW.trod_struct Tryz.underlying24 h
 have hc : Tryz.prog.cellsOf 24 = 2 := by kernel_rfl
 have hci : Tryz.prog.cellsOf 3 = 1 := by kernel_rfl
 have hcl : Tryz.prog.cellsOf 22 = 1 := by kernel_rfl
 rw [hc] at hl
 have hxl : xs.length = 2 := hxl
 obtain ⟨x0, x1, rfl⟩ := lF hxl
 obtain ⟨u0, u1, rfl⟩ := lF hl
 have g0 : DataW.trod enc Tryz.prog W 0 spare held n 3 (([u0, u1].drop 0).take (Tryz.prog.cellsOf 3)) = some x0 := hf 0 _ rfl
 have g1 : DataW.trod enc Tryz.prog W 0 spare held n 22 (([u0, u1].drop 1).take (Tryz.prog.cellsOf 22)) = some x1 := hf 1 _ rfl
 rw [hci] at g0
 rw [hcl] at g1
 simp only [List.drop_zero, List.drop_succ_cons, List.take_succ_cons, List.take_zero] at g0 g1
 rw [hx] at hb
 simp only [List.map_cons, List.map_nil, Rows.uptoBulk, Rows.uptoBulkAll] at hb
 obtain ⟨n0, q0, _, _⟩ := DataW.trod_int Tryz.underlying3 g0
 obtain ⟨L, r1, h1, h2⟩ := qD g1 (by omega)
 refine ⟨⟨n0, L⟩, ?_, h1, h2⟩
 obtain rfl := List.singleton_inj.1 q0
 exact ⟨_, _, rfl, rfl, _, _, rfl, aP r1 rfl, rfl⟩
theorem Ae {fuel : Nat} {spare : Nat → Bool} {held : Bool} {v : Value} {x : DataW H × List MemPlace} (h : DataW.trod enc Tryz.prog W 0 spare held fuel 51 [v] = some x) (hb : Rows.uptoBulk x.1 ≤ 1048576) :
  ∃ L : List Crd, Rel (aw W W.heap.size) (.list 2 L.length (crdF L)) v ∧ L.length ≤ 1048576 ∧ ∀ c ∈ L, c.l.length ≤ 1048576 ∧ ∀ y ∈ c.l, Itm.OK 1048576 y := by
 have hc : Tryz.prog.cellsOf 24 = 2 := by kernel_rfl
 rcases Go.Deep.open_slice Tryz.underlying51 h with ⟨hv, rfl⟩ | ⟨a, len, cap, m, n, D, Pl, hv, _, hl, _, hm, rfl, hx⟩
 ·obtain rfl : v = .slice none 0 0 := by simpa using hv
  exact ⟨[], ⟨⟨none, 0, rfl, Nat.le_refl _, .inl rfl⟩, rfl⟩, Nat.zero_le _, fun y hy => by cases hy⟩
 ·obtain rfl : v = .slice (some a) len cap := by simpa using hv
  rw [hc] at hx
  have hlm : len ≤ m := by rw [hm]; split <;> omega
  simp only [Rows.uptoBulk] at hb
  have h1 := iQ ((List.range len).map D)
  rw [List.length_map, List.length_range] at h1
  have hD : ∀ i, i < len → Rows.uptoBulk (D i) ≤ 1048576 := fun i hi => by
   have := iP (d := D i) (l := (List.range len).map D) (List.mem_map.2 ⟨i, List.mem_range.2 hi, rfl⟩)
   omega
  obtain ⟨Cx, hCx⟩ := Go.Deep.choose_lt (α := List Value) (n := len) (p := fun i cs => W.cells? 0 (a.add (i * 2)) 2 = some cs ∧ DataW.trod enc Tryz.prog W 0 spare held n 24 cs = some (D i, Pl i)) (fun i hi => hx i (by omega))
  obtain ⟨Lx, hLx⟩ := Go.Deep.choose_lt (α := Crd) (n := len) (p := fun i q => RelC (aw W W.heap.size) q.A (Cx i) ∧ q.l.length ≤ 1048576 ∧ ∀ y ∈ q.l, Itm.OK 1048576 y) (fun i hi => Af (hCx i hi).2 (hD i hi))
  let L : List Crd := (List.range len).map Lx
  have hll : L.length = len := by simp [L]
  have hget : ∀ i, i < len → L.getD i Crd.z = Lx i := fun i hi => by simp [L, List.getD, hi]
  refine ⟨L, ?_, by omega, zx fun k hk => ?_⟩
  ·rw [hll]
   refine lU (by decide) hl (cs := Cx) (fun i hi => ⟨(hCx i hi).1, ?_⟩)
   unfold crdF
   rw [hget i hi]
   exact (hLx i hi).1
  ·rw [hget k (by omega)]
   exact (hLx k (by omega)).2
end
end
end Go.Proofs.YtahebkecmlmlfaaGreatDoor
