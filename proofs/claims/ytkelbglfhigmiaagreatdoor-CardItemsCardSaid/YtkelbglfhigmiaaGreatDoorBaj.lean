/- Parts of the proof of cardItems_card: Lan, Esn, Tja, Vla, Wha, Mxc, Whb, Whc, Whd, Zop, Wpa, Tra. -/
import Derived.Lib.Join
import Derived.Laws.IdiomCopy
import Derived.Lib.AtoiAll
import Derived.Test.YtkelbglfhigmiaaGreatDoorBai
import Derived.Test.YtkelbglfhigmiaaGreatDoorBaf
import Derived.Test.YtkelbglfhigmiaaGreatDoorBad
import Derived.Test.YtkelbglfhigmiaaGreatDoorBae
import Derived.Test.YtkelbglfhigmiaaGreatDoorBaa
import Derived.Test.YtkelbglfhigmiaaGreatDoorBag
import Derived.Test.YtkelbglfhigmiaaGreatDoorBah
set_option linter.unusedVariables false
set_option linter.unusedSimpArgs false
set_option linter.unusedSectionVars false
namespace Go.Proofs.YtkelbglfhigmiaaGreatDoor
set_option maxRecDepth 20000
set_option maxHeartbeats 4000000
section
open Go Go.RowKit
def lgB (first : Bool) (c : Int) : Bool := aG c && !(first && decide (c ≤ 57))
def dm (first : Bool) (a : Nat) (x : List UInt8) : Err :=
 if 0 ≤ fstB (fun c => !lgB first c) x then .at 3 (a + fstB (fun c => !lgB first c) x) else if x.length = 0 then .at 7 a else if 8 < x.length then .at 4 a else .none
def Err.isNone : Err → Bool
 | .none => true
 | _ => false
def dK : Bool → Nat → List (List UInt8) → Err
 | _, _, [] => .none
 | first, a, x :: xs => if (dm first a x).isNone then dK false (a + x.length + 1) xs else dm first a x
def ij (s : List UInt8) : Err := dK true 0 (splS 45 s)
theorem kb {c : UInt8} : ∀ {s p : List UInt8}, p ∈ splS c s → c ∉ p
 | [], p, h => by simp [splS] at h; subst h; simp
 | x :: t, p, h => by
  by_cases hx : x = c
  ·rw [splS, if_pos hx] at h
   rcases List.mem_cons.1 h with rfl | h
   ·simp
   ·exact kb h
  ·rw [splS, if_neg hx] at h
   cases h1 : splS c t with
   | nil => exact absurd h1 (ka c t)
   | cons q qs =>
    rw [h1] at h
    rcases List.mem_cons.1 h with rfl | h
    ·have := kb (s := t) (p := q) (c := c) (by rw [h1]; simp)
     simp [this, Ne.symm hx]
    ·exact kb (s := t) (by rw [h1]; simp [h])
theorem Dz {c : UInt8} {u v : List UInt8} {x : UInt8} (hu : c ∉ u) (hx : x ≠ c) : ∃ q qs, splS c (u ++ x :: v) = (u ++ x :: q) :: qs := by
 obtain ⟨p, ps, h1, h2⟩ := m7 (v := x :: v) hu
 rw [splS, if_neg hx] at h1
 cases h3 : splS c v with
 | nil => exact absurd h3 (ka c v)
 | cons q qs =>
  rw [h3] at h1
  cases h1
  exact ⟨_, _, h2⟩
theorem ub {u v : List UInt8} {j : Nat} (h : j < u.length) : aa (u ++ v) j = aa u j := by
 unfold aa; simp [List.getD, List.getElem?_append, h]
theorem tZ {u v : List UInt8} {j : Nat} (h : u.length ≤ j) : aa (u ++ v) j = aa v (j - u.length) := by
 unfold aa; simp [List.getD, List.getElem?_append, show ¬ j < u.length by omega]
theorem Ed {f : Int → Bool} {u q : List UInt8} {x : UInt8} (hu : ∀ j, j < u.length → f (aa u j : Int) = false) (hx : f (x.toNat : Int) = true) : fstB f (u ++ x :: q) = u.length := by
 refine gf (by simp) ?_ (fun j hj => by rw [ub hj]; exact hu j hj)
 rw [tZ (Nat.le_refl _), Nat.sub_self]
 exact hx
theorem og (s : List UInt8) (k i : Nat) (h1 : k ≤ i) (h2 : i ≤ s.length) : s.drop k = (s.drop k).take (i - k) ++ s.drop i := by
 have e := (List.take_append_drop (i - k) (s.drop k)).symm
 rw [List.drop_drop, show k + (i - k) = i by omega] at e
 exact e
theorem BK {s : List UInt8} {k i : Nat} (h1 : k ≤ i) (h2 : i < s.length) (hg : ∀ j, k ≤ j → j < i → aa s j ≠ 45 ∧ lgB (decide (k = 0)) (aa s j : Int) = true) (hc : aa s i ≠ 45) (hb : lgB (decide (k = 0)) (aa s i : Int) = false) (b : Bool) (hbk : b = decide (k = 0)) :
  dK b k (splS 45 (s.drop k)) = .at 3 i := by
 subst hbk
 have e := og s k i h1 (by omega)
 rw [List.drop_eq_getElem_cons h2] at e
 have hl : ((s.drop k).take (i - k)).length = i - k := by rw [List.length_take, List.length_drop]; omega
 have hba : ∀ j, j < i - k → aa ((s.drop k).take (i - k)) j = aa s (k + j) := fun j hj => by rw [cg hj, cv]
 have hu : (45 : UInt8) ∉ (s.drop k).take (i - k) := by
  intro hm
  obtain ⟨j, hj, ej⟩ := List.getElem_of_mem hm
  rw [hl] at hj
  have h3 := (hg (k + j) (by omega) (by omega)).1
  rw [← hba j hj, aW (by omega), ej] at h3
  exact h3 rfl
 have hx : s[i] ≠ 45 := fun h => hc (by rw [aW h2, h]; rfl)
 obtain ⟨q, qs, hs⟩ := Dz (v := s.drop (i + 1)) hu hx
 rw [← e] at hs
 rw [hs, dK]
 have hf : fstB (fun c => !lgB (decide (k = 0)) c) ((s.drop k).take (i - k) ++ s[i] :: q) = ((i - k : Nat) : Int) := by
  rw [Ed (f := fun c => !lgB (decide (k = 0)) c), hl]
  ·intro j hj
   rw [hl] at hj
   rw [hba j hj, (hg (k + j) (by omega) (by omega)).2]
   rfl
  ·rw [← aW h2, hb]; rfl
 have hp : dm (decide (k = 0)) k ((s.drop k).take (i - k) ++ s[i] :: q) = .at 3 i := by
  unfold dm
  rw [hf, if_pos (by omega), show ((k : Nat) : Int) + ((i - k : Nat) : Int) = i by omega]
 rw [hp]
 rfl
theorem tk {s : List UInt8} {k i : Nat} (h1 : k ≤ i) (h2 : i ≤ s.length) (hg : ∀ j, k ≤ j → j < i → aa s j ≠ 45 ∧ lgB (decide (k = 0)) (aa s j : Int) = true) (hc : i = s.length ∨ aa s i = 45) (b : Bool) (hbk : b = decide (k = 0)) :
  dK b k (splS 45 (s.drop k)) = if i = k then .at 7 k else if 8 < i - k then .at 4 k else if i = s.length then .none else dK false (i + 1) (splS 45 (s.drop (i + 1))) := by
 subst hbk
 have e := og s k i h1 (by omega)
 have hl : ((s.drop k).take (i - k)).length = i - k := by rw [List.length_take, List.length_drop]; omega
 have hba : ∀ j, j < i - k → aa ((s.drop k).take (i - k)) j = aa s (k + j) := fun j hj => by rw [cg hj, cv]
 have hu : (45 : UInt8) ∉ (s.drop k).take (i - k) := by
  intro hm
  obtain ⟨j, hj, ej⟩ := List.getElem_of_mem hm
  rw [hl] at hj
  have h3 := (hg (k + j) (by omega) (by omega)).1
  rw [← hba j hj, aW (by omega), ej] at h3
  exact h3 rfl
 have hs : splS 45 (s.drop k) = (s.drop k).take (i - k) :: (if i = s.length then [] else splS 45 (s.drop (i + 1))) := by
  by_cases hi : i = s.length
  ·rw [if_pos hi]
   rw [List.drop_eq_nil_of_le (show s.length ≤ i by omega), List.append_nil] at e
   have hu' : (45 : UInt8) ∉ s.drop k := by rw [e]; exact hu
   rw [ph hu']
   exact congrArg (fun z => [z]) e
  ·rw [if_neg hi]
   have hc := hc.resolve_left hi
   have h2 : i < s.length := by omega
   rw [List.drop_eq_getElem_cons h2] at e
   have hx : s[i] = 45 := UInt8.toNat_inj.1 (by rw [← aW h2, hc]; rfl)
   rw [hx] at e
   generalize hw : (s.drop k).take (i - k) = w at *
   rw [e, Ay hu]
 have hf : fstB (fun c => !lgB (decide (k = 0)) c) ((s.drop k).take (i - k)) = -1 := dO fun j hj => by
  rw [hl] at hj
  rw [hba j hj, (hg (k + j) (by omega) (by omega)).2]
  rfl
 rw [hs, dK]
 have hp : dm (decide (k = 0)) k ((s.drop k).take (i - k)) = if i = k then .at 7 k else if 8 < i - k then .at 4 k else .none := by
  unfold dm
  rw [hf, if_neg (by omega), hl]
  by_cases h3 : i = k
  ·rw [if_pos (by omega), if_pos h3]
  ·rw [if_neg (by omega), if_neg h3]
 rw [hp, hl]
 by_cases h3 : i = k
 ·rw [if_pos h3, if_pos h3]; rfl
 ·rw [if_neg h3, if_neg h3]
  by_cases h4 : 8 < i - k
  ·rw [if_pos h4, if_pos h4]; rfl
  ·rw [if_neg h4, if_neg h4, if_pos (show Err.none.isNone = true from rfl), show k + (i - k) + 1 = i + 1 by omega]
   by_cases h5 : i = s.length
   ·rw [if_pos h5, if_pos h5]; rfl
   ·rw [if_neg h5, if_neg h5]
theorem D5 {s : List UInt8} {i : Nat} (h : i < s.length) : isS ((s.take (i + 1)).drop i) = aG (aa s i) := by
 have hl : ((s.take (i + 1)).drop i).length = 1 := by rw [List.length_drop, List.length_take]; omega
 have hb : aa ((s.take (i + 1)).drop i) 0 = aa s i := by rw [cv, cg (by omega), Nat.add_zero]
 rw [Bool.eq_iff_iff, isS, hl]
 simp only [Bool.and_eq_true, lP, hl, decide_eq_true_eq]
 constructor
 ·intro h; rw [← hb]; exact h.1 0 (by omega)
 ·intro h; exact ⟨fun j hj => by rw [show j = 0 by omega, hb]; exact h, by omega, by omega⟩
theorem xO {b : Bool} {c : Int} : lgB b c = true ↔ aG c = true ∧ (b = true → 57 < c) := by
 unfold lgB
 cases b <;> simp
theorem xP {b : Bool} {c : Int} : lgB b c = false ↔ (aG c = false ∨ (b = true ∧ c ≤ 57)) := by
 unfold lgB
 cases b <;> cases aG c <;> simp
attribute [local irreducible] AWp AOps aa ax OrOk ab ae
attribute [local irreducible] splS dK lgB isS aG
theorem vI {G : Glo} (s : List UInt8) (hl : s.length ≤ 9223372036854775000) : FnIs Tryz.prog G 68 [.str s] (ij s).A := by
 have hGL : ab G [] := ad
 refine fn_x Tryz.func68 Tryz.call68 rfl rfl rfl rfl hGL ?_
 intro C hC
 have hN := fun i (h : i < s.length) => xF (G := G) ((s.take (i + 1)).drop i) (by rw [List.length_drop, List.length_take]; omega)
 repeat' (first | (conv => whnf); first | refine .w ?_ | refine .v ?_ | refine sc_c ?_ ?_ <;> (intro hb; try exact dd hb) | apply ah | apply aq | (apply sc_i <;> intro hb) | (apply bx_i; intro hbd) | (apply ak; first | fail) | (apply ap (i := 0) rfl; first | fail) | (apply ab_i; intro bl) | (apply as_i; intro va vk vc hva) | (apply av_i; intro v) | (apply ac_i; intro bl cap hcap) | apply bo_l | (apply nx_i <;> intro hnx) | exact rt_w | apply dw_q mixed hC hGL (by kernel_rfl) | (apply cq; assumption; (first | fail); exact rfl))
 all_goals try conv => whnf
 refine lp hC hGL (fun (x : Nat × Nat) => [(0, .str s), (3, .int .i64 x.2), (4, .int .i64 x.1)]) (fun _ => []) (fun x => x.2 ≤ x.1 ∧ x.1 ≤ s.length + 1 ∧ (x.1 = s.length + 1 → x.2 = s.length + 1) ∧ (∀ j, x.2 ≤ j → j < x.1 → aa s j ≠ 45 ∧ lgB (decide (x.2 = 0)) (aa s j : Int) = true) ∧ ij s = if x.2 = s.length + 1 then .none else dK (decide (x.2 = 0)) x.2 (splS 45 (s.drop x.2))) (fun x => s.length + 1 - x.1) (0, 0) ?_ aj rfl ?_
 ·exact ⟨Nat.le_refl _, Nat.zero_le _, fun h => by omega, fun j _ h => absurd h (Nat.not_lt_zero _), by rw [if_neg (by omega)]; rfl⟩
 rintro ⟨i, k⟩ ⟨h1, h2, h3, h4, h5⟩
 dsimp only at h1 h2 h3 h4 h5 ⊢
 by_cases hi : i < s.length
 ·have hN := hN i hi
  rw [D5 hi] at hN
  have hE := fun h => tk h1 (by omega) h4 (.inr h) _ rfl
  have hB := fun hc hb => BK h1 hi h4 hc hb _ rfl
  rw [if_neg (by omega)] at h5
  repeat' (first | (conv => whnf); first | refine .w ?_ | refine .v ?_ | refine sc_c ?_ ?_ <;> (intro hb; try exact dd hb) | apply ah | apply aq | (apply sc_i <;> intro hb) | (apply bx_i; intro hbd) | (apply ak; first | exact hN) | (apply ap (i := 0) rfl; first | exact hN) | (apply ab_i; intro bl) | (apply as_i; intro va vk vc hva) | (apply av_i; intro v) | (apply ac_i; intro bl cap hcap) | apply bo_l | (apply nx_i <;> intro hnx) | exact rt_w | apply dw_q mixed hC hGL (by kernel_rfl) | (apply cq; assumption; (first | exact hN); exact rfl))
  all_goals try conv => whnf
  ·apply ar
   rw [h5, hB (by omega) (xP.2 (.inr ⟨by simp; omega, by omega⟩))]
   rfl
  ·refine nxt (i + 1, k) ?_ ?_ aj rfl
   ·refine ⟨by omega, by omega, fun h => by omega, fun j g1 g2 => ?_, by rw [if_neg (by omega)]; exact h5⟩
    by_cases g : j = i
    ·subst g; exact ⟨by omega, xO.2 ⟨by assumption, fun _ => by omega⟩⟩
    ·exact h4 j g1 (by omega)
   ·dsimp only; omega
  ·refine nxt (i + 1, k) ?_ ?_ aj rfl
   ·refine ⟨by omega, by omega, fun h => by omega, fun j g1 g2 => ?_, by rw [if_neg (by omega)]; exact h5⟩
    by_cases g : j = i
    ·subst g; exact ⟨by omega, xO.2 ⟨by assumption, fun h => by simp at h; omega⟩⟩
    ·exact h4 j g1 (by omega)
   ·dsimp only; omega
  ·apply ar
   rw [h5, hB (by omega) (xP.2 (.inl hb))]
   rfl
  ·apply ar
   have hE := hE (by omega)
   obtain rfl : i = k := by omega
   rw [h5, hE, if_pos rfl]
   rfl
  ·apply ar
   have hE := hE (by omega)
   rw [h5, hE, if_neg (by omega), if_pos (by omega)]
   rfl
  ·have hE := hE (by omega)
   rw [if_neg (by omega), if_neg (by omega)] at hE
   refine nxt (i + 1, i + 1) ?_ ?_ aj rfl
   ·refine ⟨Nat.le_refl _, by omega, fun _ => by omega, fun j g1 g2 => by omega, ?_⟩
    rw [h5, hE]
    dsimp only
    by_cases g : i = s.length
    ·rw [if_pos g, if_pos (by omega)]
    ·rw [if_neg g, if_neg (by omega)]
     simp
   ·dsimp only; omega
 ·have hE := fun h => tk h1 h h4 (.inl (by omega)) _ rfl
  repeat' (first | (conv => whnf); first | refine .w ?_ | refine .v ?_ | refine sc_c ?_ ?_ <;> (intro hb; try exact dd hb) | apply ah | apply aq | (apply sc_i <;> intro hb) | (apply bx_i; intro hbd) | (apply ak; first | fail) | (apply ap (i := 0) rfl; first | fail) | (apply ab_i; intro bl) | (apply as_i; intro va vk vc hva) | (apply av_i; intro v) | (apply ac_i; intro bl cap hcap) | apply bo_l | (apply nx_i <;> intro hnx) | exact rt_w | apply dw_q mixed hC hGL (by kernel_rfl) | (apply cq; assumption; (first | fail); exact rfl))
  all_goals try conv => whnf
  ·apply ar
   have hE := hE (by omega)
   rw [if_neg (by omega)] at h5
   obtain rfl : i = k := by omega
   rw [h5, hE, if_pos rfl]
   rfl
  ·apply ar
   have hE := hE (by omega)
   rw [if_neg (by omega)] at h5
   rw [h5, hE, if_neg (by omega), if_pos (by omega)]
   rfl
  ·have hE := hE (by omega)
   rw [if_neg (by omega)] at h5
   rw [if_neg (by omega), if_neg (by omega)] at hE
   refine nxt (i + 1, i + 1) ?_ ?_ aj rfl
   ·refine ⟨Nat.le_refl _, by omega, fun _ => by omega, fun j g1 g2 => by omega, ?_⟩
    rw [h5, hE]
    dsimp only
    by_cases g : i = s.length
    ·rw [if_pos g, if_pos (by omega)]
    ·rw [if_neg g, if_neg (by omega)]
     simp
   ·dsimp only; omega
  ·apply ar
   rw [h5, if_pos (h3 (by omega))]
   rfl
end
section
open Go Go.RowKit
def escF (c : UInt8) : List UInt8 := if c = 92 then [92, 92] else if c = 44 then [92, 44] else if c = 59 then [92, 59] else if c = 10 then [92, 110] else [c]
def escS (s : List UInt8) : List UInt8 := s.flatMap escF
end
section
open Go Go.RowKit
def GU (l : List (List UInt8)) : List UInt8 := Lib.join (l.map escS) [44]
def ER (L : List (List (List UInt8))) : Nat := L.findIdx fun l => l.isEmpty
def FZ (L : List (List (List UInt8))) : List UInt8 := if ER L < L.length then [] else Lib.join (L.map GU) [59]
def FK (L : List (List (List UInt8))) (i : Nat) : AVal := .list 1 (L.getD i []).length (aO (L.getD i []))
end
section
open Go Go.RowKit
def Err.b : Err → Err
 | .none => .none
 | .errno e => .errno e
 | .at e _ => .errno e
structure Vl where
 t : Int
 s : List UInt8
 L : List (List (List UInt8))
 st : Stm
 n : Int
def Vl.A (v : Vl) : AVal := .agg [.int .i64 v.t, .str v.s, .list 1 v.L.length (FK v.L), .int .i64 v.st.y, .int .i64 v.st.m, .int .i64 v.st.d, .int .i64 v.st.h, .int .i64 v.st.i, .int .i64 v.st.s, .bool v.st.z, .int .i64 v.st.o, .int .i64 v.n]
def GB (t : Stm) : Bool := decide (t.y = 0 ∧ t.m = 0 ∧ t.d = 0 ∧ t.h = 0 ∧ t.i = 0 ∧ t.s = 0 ∧ t.z = false ∧ t.o = 0)
def Vl.only (v : Vl) : Bool := decide ((v.s.length = 0 ∨ v.t = 1 ∨ v.t = 4 ∨ v.t = 7 ∨ v.t = 8) ∧ (v.L.length = 0 ∨ v.t = 2 ∨ v.t = 3) ∧ (GB v.st = true ∨ v.t = 5) ∧ (v.n = 0 ∨ v.t = 6))
def hdL (L : List (List (List UInt8))) : Bool := L.all fun l => l.all (hdB true)
def ptsE (t : Int) (L : List (List (List UInt8))) : Err := if L.length = 0 ∨ (t = 2 ∧ L.length ≠ 1) then .errno 8 else if ER L < L.length then .errno 8 else if hdL L then .none else .errno 3
def Vl.E (v : Vl) : Err := if v.t < 1 ∨ 9 ≤ v.t ∨ v.only = false then .errno 1
 else if v.t = 2 ∨ v.t = 3 then ptsE v.t v.L
 else if v.t = 4 then (uriE v.s).b
 else if v.t = 5 then v.st.E
 else if v.t = 6 then zprE v.n
 else if v.t = 7 then (ij v.s).b
 else if hdB (decide (v.t = 1)) v.s then .none else .errno 3
def Vl.T (v : Vl) : List UInt8 := match v.E with
 | .none => if v.t = 1 then escS v.s else if v.t = 2 ∨ v.t = 3 then FZ v.L else if v.t = 5 then v.st.T else if v.t = 6 then zprS v.n else v.s
 | _ => []
end
section
open Go Go.RowKit
attribute [local irreducible] AWp AOps ax OrOk ab ae aa
abbrev Al (a b c : Int) : AVal := .list 1 3 (aV [(0, .int .i64 a), (1, .int .i64 b), (2, .int .i64 c)])
theorem o8 {G : Glo} (a b c : Int) : FnIs Tryz.prog G 142 [Al a b c] (.str (fmS (tlB a) (tlB b) (tlB c))) := by
 by_cases h1 : a = -1
 all_goals by_cases h2 : b = -1
 all_goals by_cases h3 : c = -1
 all_goals
  have hGL : ab G [] := ad
  refine fn_x Tryz.func142 Tryz.call142 rfl rfl rfl rfl hGL ?_
  intro C hC
  refine xw1 ?_
  intros
  refine zf (m := 3) hC hGL rfl rfl (by omega) rfl rfl rfl rfl rfl rfl rfl rfl (fun bo => ?_)
  refine xw1 ?_
  intros
  refine rds hC hGL 4 ?_
  refine xw1 ?_
  intros
  refine sp_i ⟨rfl, rfl⟩ ?_
  apply ar
  simp only [tlB, h1, h2, h3, ne_eq, not_true_eq_false, not_false_eq_true, decide_true, decide_false]
  rfl
theorem rJ {G : Glo} (n lo hi : Int) : FnIs Tryz.prog G 144 [.int .i64 n, .int .i64 lo, .int .i64 hi] (.bool (witB n lo hi)) := by
 have hGL : ab G [] := ad
 refine fn_x Tryz.func144 Tryz.call144 rfl rfl rfl rfl hGL ?_
 intro C hC
 refine xw ?_
 repeat' (first | exact Le.n | refine Lc.mk ?_ ?_)
 all_goals intros
 all_goals (apply ar; refine congrArg AVal.bool ?_; rw [Bool.eq_iff_iff]; simp only [zS, reduceCtorEq, false_iff, true_iff, Bool.not_eq_true', kD]; omega)
theorem yy {G : Glo} (y m : Int) : FnIs Tryz.prog G 143 [.int .i64 y, .int .i64 m] (.int .i64 (dayN y m)) := by
 have hGL : ab G [] := ad
 refine fn_x Tryz.func143 Tryz.call143 rfl rfl rfl rfl hGL ?_
 intro C hC
 refine xw ?_
 repeat' (first | exact Le.n | refine Lc.mk ?_ ?_)
 all_goals intros
 all_goals (apply ar; refine congrArg (AVal.int .i64) ?_; unfold dayN; (repeat' split) <;> omega)
theorem A3 {G : Glo} (y m : Int) : FnIs Tryz.prog G 160 [.int .i64 y, .int .i64 m] (.int .i64 (dayN y m)) := by
 have hw := cY (G := G) m 1 12
 have h4 : y.tmod 400 = 0 → y.tmod 4 = 0 ∧ y.tmod 100 = 0 := fun h => by
  have hd := Int.dvd_of_tmod_eq_zero h
  exact ⟨Int.tmod_eq_zero_of_dvd (Int.dvd_trans (by decide) hd), Int.tmod_eq_zero_of_dvd (Int.dvd_trans (by decide) hd)⟩
 by_cases hm : 1 ≤ m ∧ m ≤ 12
 ·rw [show (decide (1 ≤ m) && decide (m ≤ 12)) = true by simp [hm]] at hw
  rcases (show m = 1 ∨ m = 2 ∨ m = 3 ∨ m = 4 ∨ m = 5 ∨ m = 6 ∨ m = 7 ∨ m = 8 ∨ m = 9 ∨ m = 10 ∨ m = 11 ∨ m = 12 by omega) with rfl | rfl | rfl | rfl | rfl | rfl | rfl | rfl | rfl | rfl | rfl | rfl
  all_goals
   have hGL : ab G [] := ad
   refine fn_x Tryz.func160 Tryz.call160 rfl rfl rfl rfl hGL ?_
   intro C hC
   refine xw ?_
   repeat' (first | exact Le.n | refine Lc.mk ?_ ?_)
   all_goals intros
   all_goals (apply ar; refine congrArg (AVal.int .i64) ?_; unfold dayN; (repeat' split) <;> first | rfl | omega)
 ·rw [show (decide (1 ≤ m) && decide (m ≤ 12)) = false by simp; omega] at hw
  have hGL : ab G [] := ad
  refine fn_x Tryz.func160 Tryz.call160 rfl rfl rfl rfl hGL ?_
  intro C hC
  refine xw1 ?_
  intros
  apply ar
  refine congrArg (AVal.int .i64) ?_
  unfold dayN
  rw [if_pos (by omega)]
end
section
open Go Go.RowKit
theorem gv {G : Glo} {m : Int} (hU : ab G (ce m)) (s t : List UInt8) (hl : s.length < 100000) : FnIs Tryz.prog G 120 [.str s, .str t] (.bool (Lib.contains s t)) := by
 refine ci rfl Tryz.call120 ?_
 rintro R args ⟨x, u, e, hx, y, u', e', hy, rfl⟩ w hG hs
 obtain rfl := az.1 hx
 obtain rfl := az.1 hy
 subst e'
 obtain rfl := fW e
 refine (Tryz.strings_Contains ⟨s.toArray⟩ ⟨t.toArray⟩ m w (by show s.toArray.size < _; simp; omega) (kC hU hG hs)).mono ?_
 rintro e w' ⟨rfl, rfl⟩
 exact ⟨by simp [AVal.conc], Below.refl _ _⟩
end
section
open Go Go.RowKit
def datA : List UInt8 := [32, 45, 45, 45, 32, 57, 45, 45, 32, 57, 57, 45, 32, 57, 57, 57, 32, 45, 57, 45, 32, 45, 57, 57, 32, 45, 45, 57, 32]
def datB : List UInt8 := [32, 57, 57, 57, 32, 45, 57, 57, 32, 45, 45, 57, 32]
def timB : List UInt8 := [32, 57, 45, 45, 32, 57, 57, 45, 32, 57, 57, 57, 32]
def cnB (l : List UInt8) (a b c : Bool) : Bool := Lib.contains l (([32] ++ fmS a b c) ++ [32])
theorem cnA : ∀ a b c : Bool, cnB datA a b c = decide (0 ≤ whN a b c) := by decide
theorem cnD : ∀ a b c : Bool, cnB datB a b c = decide (whN a b c = 3 ∨ whN a b c = 5 ∨ whN a b c = 6) := by decide
theorem cnT : ∀ a b c : Bool, cnB timB a b c = decide (1 ≤ whN a b c ∧ whN a b c ≤ 3) := by decide
theorem vX : ∀ a b c : Bool, fmS a b c = [45, 45, 45] ↔ whN a b c = 0 := by decide
theorem E1 : ∀ a b c d e f : Bool, fmS a b c = fmS d e f ↔ whN a b c = whN d e f := by decide
theorem EK : ∀ a b c : Bool, -1 ≤ whN a b c ∧ whN a b c ≤ 6 := by decide
def FrmP (d t : Int) (z : Bool) (h o : Int) : Prop := (0 ≤ d ∧ 0 ≤ t ∧ ¬ (d = 0 ∧ t = 0) ∧ (0 < d ∧ 0 < t → (d = 3 ∨ d = 5 ∨ d = 6) ∧ t ≤ 3)) ∧ (if z then h ≠ -1 else o = 0)
theorem jl (t : Stm) : t.frm = true ↔ FrmP t.dn t.tn t.z t.h t.o := by
 unfold Stm.frm FrmP okN
 rw [Bool.and_eq_true, decide_eq_true_eq]
 refine and_congr Iff.rfl ?_
 cases t.z <;> simp [GJ]
theorem mK {G : Glo} {m : Int} (hU : ab G (ce m)) (l : List UInt8) (hl : l.length < 100000) (a b c : Bool) : FnIs Tryz.prog G 120 [.str l, .str (([32] ++ fmS a b c) ++ [32])] (.bool (cnB l a b c)) := gv hU l _ hl
theorem E_3 {t : Stm} (h : ¬ FrmP t.dn t.tn t.z t.h t.o) : t.E = .errno 3 := by
 unfold Stm.E
 rw [if_neg (fun k => h ((jl t).1 k))]
theorem E_2 {t : Stm} (h : FrmP t.dn t.tn t.z t.h t.o) (k : t.rng = false) : t.E = .errno 2 := by
 unfold Stm.E
 rw [if_pos ((jl t).2 h), k]
 rfl
theorem E_0 {t : Stm} (h : FrmP t.dn t.tn t.z t.h t.o) (k : t.rng = true) : t.E = .none := by
 unfold Stm.E
 rw [if_pos ((jl t).2 h), k]
 rfl
attribute [local irreducible] AWp AOps ax OrOk ab ae aa
attribute [local irreducible] fmS cnB witB tlB dayN zrB
theorem uv {G : Glo} {m : Int} (hU : ab G (ce m)) (t : Stm) : FnIs Tryz.prog G 104 [t.A] t.E.A := by
 have h1 := o8 (G := G) t.y t.m t.d
 have h2 := o8 (G := G) t.h t.i t.s
 have h3a := mK (G := G) hU datA (by decide) (tlB t.y) (tlB t.m) (tlB t.d)
 have h3b := mK (G := G) hU datB (by decide) (tlB t.y) (tlB t.m) (tlB t.d)
 have h4a := mK (G := G) hU datA (by decide) (tlB t.h) (tlB t.i) (tlB t.s)
 have h4b := mK (G := G) hU timB (by decide) (tlB t.h) (tlB t.i) (tlB t.s)
 rw [cnA] at h3a h4a
 rw [cnD] at h3b
 rw [cnT] at h4b
 have k1 := vX (tlB t.y) (tlB t.m) (tlB t.d)
 have k2 := vX (tlB t.h) (tlB t.i) (tlB t.s)
 have k3 := E1 (tlB t.y) (tlB t.m) (tlB t.d) (tlB t.h) (tlB t.i) (tlB t.s)
 have k4 := EK (tlB t.y) (tlB t.m) (tlB t.d)
 have k5 := EK (tlB t.h) (tlB t.i) (tlB t.s)
 have h5 := yy (G := G) t.y t.m
 have h6 := fun n lo hi => rJ (G := G) n lo hi
 have h7 := ur (G := G) t.o
 have l1 : (fmS (tlB t.y) (tlB t.m) (tlB t.d)).length = 3 := by unfold fmS; rfl
 have l2 : (fmS (tlB t.h) (tlB t.i) (tlB t.s)).length = 3 := by unfold fmS; rfl
 have hGL : ab G [] := ad
 refine fn_x Tryz.func104 Tryz.call104 rfl rfl rfl rfl hGL ?_
 intro C hC
 repeat' (first | (conv => whnf); first | refine .w ?_ | refine .v ?_ | refine sc_c ?_ ?_ <;> (intro hb; try exact dd hb) | apply ah | apply aq | (apply sc_i <;> intro hb) | (apply bx_i; intro hbd) | (apply ak; first | fail) | (apply ap (i := 0) rfl; first | fail) | (apply ab_i; intro bl) | (apply as_i; intro va vk vc hva) | (apply av_i; intro v) | (apply ac_i; intro bl cap hcap) | apply bo_l | (apply nx_i <;> intro hnx) | exact rt_w | exact True.intro | (apply bc_i; intro C hC) | apply bt_i | apply og_n | (apply og_a; exact rfl))
 all_goals try conv => whnf
 refine dw_p mixed hC hGL false (fun (_ : Unit) => [(1, .rop [.int .i64 t.y, .int .i64 t.m, .int .i64 t.d, .int .i64 t.h, .int .i64 t.i, .int .i64 t.s, .bool t.z, .int .i64 t.o] 0), (2, .raw .nilIface), (3, .str (fmS (tlB t.y) (tlB t.m) (tlB t.d))), (4, .str (fmS (tlB t.h) (tlB t.i) (tlB t.s)))]) (fun _ => []) (.take 0 (.take 1 (.take 2 (.take 3 (.take 4 (.take 5 (.take 8 (.take 9 (.take 10 (.take 11 (.take 12 (.take 13 (.br 6 (.br 7 (.br 14 (.br 15 (.take 16 (.take 17 (.done))) (.nil)) (.nil)) (.br 14 (.br 7 (.br 15 (.take 16 (.take 17 (.done))) (.nil)) (.nil)) (.nil))) (.br 14 (.br 6 (.br 7 (.br 15 (.take 16 (.take 17 (.done))) (.nil)) (.nil)) (.nil)) (.nil))))))))))))))) (by kernel_rfl) ?_ ?_
 ·repeat' (first | (conv => whnf); first | refine .w ?_ | refine .v ?_ | refine sc_c ?_ ?_ <;> (intro hb; try exact dd hb) | apply ah | apply aq | (apply sc_i <;> intro hb) | (apply bx_i; intro hbd) | (apply ak; first | exact h1 | exact h2) | (apply ap (i := 0) rfl; first | exact h1 | exact h2) | (apply ab_i; intro bl) | (apply as_i; intro va vk vc hva) | (apply av_i; intro v) | (apply ac_i; intro bl cap hcap) | apply bo_l | (apply nx_i <;> intro hnx) | exact rt_w | exact True.intro | (apply bc_i; intro C hC) | apply bt_i | apply og_n | (apply og_a; exact rfl))
  all_goals try conv => whnf
  all_goals exact ⟨(), ⟨rfl, rfl, rfl, rfl, trivial⟩, rfl⟩
 intro _
 clear h1 h2
 have hE3 := fun h => E_3 (t := t) h
 have hE2 := fun h k => E_2 (t := t) h k
 have hE0 := fun h k => E_0 (t := t) h k
 unfold FrmP Stm.dn Stm.tn at hE3 hE2 hE0
 unfold Stm.rng Stm.day at hE2 hE0
 cases hz : t.z
 all_goals
  rw [hz] at hE3 hE2 hE0
  simp only [Bool.false_eq_true, if_false, if_true] at hE3 hE2 hE0
  repeat' (first | (conv => whnf); first | refine .w ?_ | refine .v ?_ | refine sc_c ?_ ?_ <;> (intro hb; try exact dd hb) | apply ah | apply aq | (apply sc_i <;> intro hb) | (apply bx_i; intro hbd) | (apply ak; first | exact h3a | exact h3b | exact h4a | exact h4b | exact h5 | exact h6 _ _ _ | exact h7) | (apply ap (i := 0) rfl; first | exact h3a | exact h3b | exact h4a | exact h4b | exact h5 | exact h6 _ _ _ | exact h7) | (apply ab_i; intro bl) | (apply as_i; intro va vk vc hva) | (apply av_i; intro v) | (apply ac_i; intro bl cap hcap) | apply bo_l | (apply nx_i <;> intro hnx) | exact rt_w | exact True.intro | (apply bc_i; intro C hC) | apply bt_i | apply og_n | (apply og_a; exact rfl))
  all_goals try conv => whnf
  all_goals
   clear h3a h3b h4a h4b h5 h6 h7
   simp only [ne_eq, vX, E1, decide_eq_true_eq, decide_eq_false_iff_not] at *
   apply ar
   generalize whN (tlB t.y) (tlB t.m) (tlB t.d) = dn at *
   generalize whN (tlB t.h) (tlB t.i) (tlB t.s) = tn at *
   generalize zrB t.o = zr at *
   first | rw [if_neg (by assumption)] at hE2 hE0 | rw [if_pos (by assumption)] at hE2 hE0 | skip
   generalize witB t.m 1 12 = w1 at *
   generalize witB t.d 1 (dayN t.y t.m) = w2 at *
   generalize witB t.d 1 31 = w8 at *
   generalize witB t.h 0 23 = w3 at *
   generalize witB t.i 0 59 = w4 at *
   generalize witB t.s 0 59 = w5 at *
   generalize witB t.y 0 9999 = w6 at *
   first
    | (rw [hE3 (by omega)]; rfl)
    | (rw [hE2 (by omega) (by simp [*])]; rfl)
    | (rw [hE0 (by omega) (by simp [*])]; rfl)
end
section
open Go Go.RowKit
set_option maxHeartbeats 8000000
attribute [local irreducible] AWp AOps ax OrOk ab ae
def Stm.R (t : Stm) : List AVal := [.int .i64 t.y, .int .i64 t.m, .int .i64 t.d, .int .i64 t.h, .int .i64 t.i, .int .i64 t.s, .bool t.z, .int .i64 t.o]
attribute [local irreducible] x9 twoS zprS
end
section
open Go Go.RowKit
def aU (i : Nat) : List UInt8 := [[], [97], [97, 98], [97, 98, 99], [98], [98, 99], [99]].getD i []
def aC (i : Nat) : List UInt8 := [[], [57, 57, 57, 57], [57, 57, 57, 57, 45, 57, 57], [57, 57, 57, 57, 57, 57, 57, 57], [45, 45, 57, 57], [45, 45, 57, 57, 57, 57], [45, 45, 45, 57, 57]].getD i []
def clkF (i : Nat) : List UInt8 := [[], [57, 57], [57, 57, 57, 57], [57, 57, 57, 57, 57, 57], [45, 57, 57], [45, 57, 57, 57, 57], [45, 45, 57, 57]].getD i []
def aI (i : Nat) : AVal := .agg [.str (aU i), .str (aC i), .str (clkF i)]
def shapesTy : List (Nat × List AVal) := [(0, [.list 3 7 aI])]
set_option maxHeartbeats 8000000
attribute [local irreducible] AWp AOps ax OrOk ab ae
theorem pp {G : Glo} (hGL : ab G shapesTy) (a b c : Int) : FnIs Tryz.prog G 159 [Al a b c] (.int .i64 (whN (tlB a) (tlB b) (tlB c))) := by
 by_cases h1 : a = -1
 all_goals by_cases h2 : b = -1
 all_goals by_cases h3 : c = -1
 all_goals
  refine fn_x Tryz.func159 Tryz.call159 rfl rfl rfl rfl hGL ?_
  intro C hC
  repeat' (first | (conv => whnf); first | refine .w ?_ | refine .v ?_ | refine sc_c ?_ ?_ <;> (intro hb; try exact dd hb) | apply ah | apply aq | (apply sc_i <;> intro hb) | (apply bx_i; intro hbd) | (apply ak; first | fail) | (apply ap (i := 0) rfl; first | fail) | (apply ab_i; intro bl) | (apply as_i; intro va vk vc hva) | (apply av_i; intro v) | (apply ac_i; intro bl cap hcap) | apply bo_l | (apply nx_i <;> intro hnx) | exact rt_w | apply dw_q mixed hC hGL (by kernel_rfl) | (apply cq; assumption; (first | fail); exact rfl))
  all_goals try conv => whnf
  refine rds hC hGL 4 ?_
  repeat' (first | (conv => whnf); first | refine .w ?_ | refine .v ?_ | refine sc_c ?_ ?_ <;> (intro hb; try exact dd hb) | apply ah | apply aq | (apply sc_i <;> intro hb) | (apply bx_i; intro hbd) | (apply ak; first | fail) | (apply ap (i := 0) rfl; first | fail) | (apply ab_i; intro bl) | (apply as_i; intro va vk vc hva) | (apply av_i; intro v) | (apply ac_i; intro bl cap hcap) | apply bo_l | (apply nx_i <;> intro hnx) | exact rt_w | apply dw_q mixed hC hGL (by kernel_rfl) | (apply cq; assumption; (first | fail); exact rfl))
  all_goals try conv => whnf
  refine rds hC hGL 8 ?_
  repeat' (first | (conv => whnf); first | refine .w ?_ | refine .v ?_ | refine sc_c ?_ ?_ <;> (intro hb; try exact dd hb) | apply ah | apply aq | (apply sc_i <;> intro hb) | (apply bx_i; intro hbd) | (apply ak; first | fail) | (apply ap (i := 0) rfl; first | fail) | (apply ab_i; intro bl) | (apply as_i; intro va vk vc hva) | (apply av_i; intro v) | (apply ac_i; intro bl cap hcap) | apply bo_l | (apply nx_i <;> intro hnx) | exact rt_w | apply dw_q mixed hC hGL (by kernel_rfl) | (apply cq; assumption; (first | fail); exact rfl))
  all_goals try conv => whnf
  all_goals (apply ar; simp only [tlB, h1, h2, h3, ne_eq, not_true_eq_false, not_false_eq_true, decide_true, decide_false]; rfl)
end
section
open Go Go.RowKit
def mapB (f : Nat → Nat) (s : List UInt8) : List UInt8 := s.map fun c => UInt8.ofNat (f c.toNat)
theorem eS (f : Nat → Nat) (s : List UInt8) : (mapB f s).length = s.length := by simp [mapB]
theorem l8 {f : Nat → Nat} (hf : ∀ c, c < 256 → f c < 256) {s : List UInt8} {j : Nat} (h : j < s.length) : aa (mapB f s) j = f (aa s j) := by
 have e1 : aa (mapB f s) j = (UInt8.ofNat (f s[j].toNat)).toNat := by simp [aa, mapB, List.getD, h]
 rw [e1, aW h, UInt8.toNat_ofNat']
 have := hf _ (UInt8.toNat_lt s[j])
 omega
def Mapd (f : Nat → Nat) (s : List UInt8) (x : Nat × List UInt8) : Prop :=
 x.1 ≤ s.length ∧ x.2.length = s.length ∧ ∀ j, j < s.length → aa x.2 j = if j < x.1 then f (aa s j) else aa s j
theorem FO {f : Nat → Nat} {s : List UInt8} : Mapd f s (0, s) := ⟨Nat.zero_le _, rfl, fun j _ => by rw [if_neg (by simp)]⟩
theorem xG {f : Nat → Nat} {s : List UInt8} {i : Nat} {t : List UInt8} (h : Mapd f s (i, t)) (hi : i < s.length) : aa t i = aa s i := by
 have := h.2.2 i hi
 rwa [if_neg (by simp)] at this
theorem Bv {f : Nat → Nat} {s : List UInt8} {i : Nat} {t : List UInt8} (h : Mapd f s (i, t)) (hi : i < s.length) {m : Nat} (hm : m = f (aa s i)) (h1 : m < 256) : Mapd f s (i + 1, t.set i (UInt8.ofNat m)) := by
 obtain ⟨h2, h3, h4⟩ := h
 refine ⟨hi, by simp only [List.length_set]; exact h3, fun j hj => ?_⟩
 dsimp only at *
 have hb : aa (t.set i (UInt8.ofNat m)) j = if j = i then m else aa t j := by
  unfold aa
  by_cases e : j = i
  ·subst e
   rw [if_pos rfl]
   simp only [List.getD, List.getElem?_set_self (show j < t.length by omega), Option.getD_some]
   rw [UInt8.toNat_ofNat']; omega
  ·rw [if_neg e]
   simp only [List.getD, List.getElem?_set_ne (Ne.symm e)]
 rw [hb]
 by_cases e : j = i
 ·subst e; rw [if_pos rfl, if_pos (by omega), hm]
 ·rw [if_neg e, h4 j hj]
  by_cases e2 : j < i
  ·rw [if_pos e2, if_pos (by omega)]
  ·rw [if_neg e2, if_neg (by omega)]
theorem zi {f : Nat → Nat} {s : List UInt8} {i : Nat} {t : List UInt8} (h : Mapd f s (i, t)) (hi : i < s.length) (hm : f (aa s i) = aa s i) : Mapd f s (i + 1, t) := by
 refine ⟨hi, h.2.1, fun j hj => ?_⟩
 have := h.2.2 j hj
 dsimp only at *
 rw [this]
 by_cases e : j = i
 ·subst e; rw [if_neg (by omega), if_pos (by omega), hm]
 ·by_cases e2 : j < i
  ·rw [if_pos e2, if_pos (by omega)]
  ·rw [if_neg e2, if_neg (by omega)]
theorem By {f : Nat → Nat} (hf : ∀ c, c < 256 → f c < 256) {s : List UInt8} {i : Nat} {t : List UInt8} (h : Mapd f s (i, t)) (hi : s.length ≤ i) : t = mapB f s := by
 refine fU (by rw [eS]; exact h.2.1) (fun j hj => ?_)
 rw [eS] at hj
 rw [l8 hf hj, h.2.2 j hj, if_pos (show j < i by omega)]
def cF (c : Nat) : Nat := if 48 ≤ c ∧ c ≤ 57 then 57 else c
theorem sZ : ∀ c, c < 256 → cF c < 256 := by intro c h; unfold cF; split <;> omega
def shpS (s : List UInt8) : List UInt8 := mapB cF s
def digB (c : Nat) : Bool := decide (48 ≤ c ∧ c ≤ 57)
theorem bH {c : Nat} : digB c = true ↔ (48 ≤ c ∧ c ≤ 57) := by simp [digB]
theorem cR {c : Nat} : cF c = 57 ↔ (48 ≤ c ∧ c ≤ 57) := by unfold cF; split <;> omega
theorem gU {c k : Nat} (h : ¬ (48 ≤ k ∧ k ≤ 57)) : cF c = k ↔ c = k := by unfold cF; split <;> omega
theorem eA {s : List UInt8} {j : Nat} (h : j < s.length) : aa (shpS s) j = cF (aa s j) := l8 sZ h
theorem w7 {s : List UInt8} : shpS s = [90] ↔ s = [90] := by
 constructor
 ·intro h
  have hl : s.length = 1 := by rw [← eS cF s]; exact congrArg List.length h
  have h0 := eA (s := s) (j := 0) (by omega)
  rw [h] at h0
  have h1 : aa s 0 = 90 := (gU (by omega)).1 h0.symm
  exact fU (by rw [hl]; rfl) (fun j hj => by
   have : j = 0 := by simp at hj; omega
   subst this; rw [h1]; rfl)
 ·rintro rfl; rfl
theorem i6 {s : List UInt8} {k : Nat} (hk : ¬ (48 ≤ k ∧ k ≤ 57)) (hk2 : k < 256) : shpS s = [UInt8.ofNat k, 57, 57] ↔ s.length = 3 ∧ aa s 0 = k ∧ (48 ≤ aa s 1 ∧ aa s 1 ≤ 57) ∧ (48 ≤ aa s 2 ∧ aa s 2 ≤ 57) := by
 have hk3 : aa [UInt8.ofNat k, 57, 57] 0 = k := by unfold aa; simp; omega
 constructor
 ·intro h
  have hl : s.length = 3 := by rw [← eS cF s]; exact congrArg List.length h
  have h0 := eA (s := s) (j := 0) (by omega)
  have h1 := eA (s := s) (j := 1) (by omega)
  have h2 := eA (s := s) (j := 2) (by omega)
  rw [h] at h0 h1 h2
  rw [hk3] at h0
  exact ⟨hl, (gU hk).1 h0.symm, cR.1 h1.symm, cR.1 h2.symm⟩
 ·rintro ⟨hl, h0, h1, h2⟩
  refine fU (by rw [show (shpS s).length = _ from eS _ _, hl]; rfl) (fun j hj => ?_)
  have hj : j < 3 := hj
  rw [eA (by omega)]
  match j, hj with
  | 0, _ => rw [hk3, h0, gU hk]
  | 1, _ => exact cR.2 h1
  | 2, _ => exact cR.2 h2
theorem kh {s : List UInt8} {k : Nat} (hk : ¬ (48 ≤ k ∧ k ≤ 57)) (hk2 : k < 256) : shpS s = [UInt8.ofNat k, 57, 57, 57, 57] ↔ s.length = 5 ∧ aa s 0 = k ∧ (48 ≤ aa s 1 ∧ aa s 1 ≤ 57) ∧ (48 ≤ aa s 2 ∧ aa s 2 ≤ 57) ∧ (48 ≤ aa s 3 ∧ aa s 3 ≤ 57) ∧ (48 ≤ aa s 4 ∧ aa s 4 ≤ 57) := by
 have hk3 : aa [UInt8.ofNat k, 57, 57, 57, 57] 0 = k := by unfold aa; simp; omega
 constructor
 ·intro h
  have hl : s.length = 5 := by rw [← eS cF s]; exact congrArg List.length h
  have h0 := eA (s := s) (j := 0) (by omega)
  have h1 := eA (s := s) (j := 1) (by omega)
  have h2 := eA (s := s) (j := 2) (by omega)
  have h3 := eA (s := s) (j := 3) (by omega)
  have h4 := eA (s := s) (j := 4) (by omega)
  rw [h] at h0 h1 h2 h3 h4
  rw [hk3] at h0
  exact ⟨hl, (gU hk).1 h0.symm, cR.1 h1.symm, cR.1 h2.symm, cR.1 h3.symm, cR.1 h4.symm⟩
 ·rintro ⟨hl, h0, h1, h2, h3, h4⟩
  refine fU (by rw [show (shpS s).length = _ from eS _ _, hl]; rfl) (fun j hj => ?_)
  have hj : j < 5 := hj
  rw [eA (by omega)]
  match j, hj with
  | 0, _ => rw [hk3, h0, gU hk]
  | 1, _ => exact cR.2 h1
  | 2, _ => exact cR.2 h2
  | 3, _ => exact cR.2 h3
  | 4, _ => exact cR.2 h4
def hmV (neg : Bool) (h m : Int) : Int × Int := if 5 < m / 10 ∨ 840 < 60 * h + m then (0, 2) else (if neg then 0 - (60 * h + m) else 60 * h + m, 0)
def digN (s : List UInt8) (j : Nat) : Int := (aa s j : Int) - 48
def aS (s : List UInt8) : Int × Int :=
 if s = [90] then (0, 0)
 else if s.length = 3 ∧ (aa s 0 = 43 ∨ aa s 0 = 45) ∧ (digB (aa s 1) ∧ digB (aa s 2)) then hmV (decide (aa s 0 = 45)) (10 * digN s 1 + digN s 2) 0
 else if s.length = 5 ∧ (aa s 0 = 43 ∨ aa s 0 = 45) ∧ (digB (aa s 1) ∧ digB (aa s 2) ∧ digB (aa s 3) ∧ digB (aa s 4)) then hmV (decide (aa s 0 = 45)) (10 * digN s 1 + digN s 2) (10 * digN s 3 + digN s 4)
 else (0, 3)
def dp (s : List UInt8) : Err := if (aS s).2 = 0 then .none else .errno (aS s).2
attribute [local irreducible] AWp AOps aa ax OrOk ab ae
theorem lt {G : Glo} (s : List UInt8) (hl : s.length ≤ 9223372036854775807) : FnIs Tryz.prog G 79 [.str s] (.str (shpS s)) := by
 have hGL : ab G [] := ad
 refine fn_x Tryz.func79 Tryz.call79 rfl rfl rfl rfl hGL ?_
 intro C hC
 have hw := fun c => cY (G := G) c 48 57
 repeat' (first | (conv => whnf); first | refine .w ?_ | refine .v ?_ | refine sc_c ?_ ?_ <;> (intro hb; try exact dd hb) | apply ah | apply aq | (apply sc_i <;> intro hb) | (apply bx_i; intro hbd) | (apply ak; first | fail) | (apply ap (i := 0) rfl; first | fail) | (apply ab_i; intro bl) | (apply as_i; intro va vk vc hva) | (apply av_i; intro v) | (apply ac_i; intro bl cap hcap) | apply bo_l | (apply nx_i <;> intro hnx) | exact rt_w | apply dw_q mixed hC hGL (by kernel_rfl) | (apply cq; assumption; (first | fail); exact rfl))
 all_goals try conv => whnf
 refine lp hC hGL (fun (x : Nat × List UInt8) => [(3, .own 0 (.slice (some ⟨bl, 0, none⟩) s.length cap)), (8, .int .i64 s.length), (9, .int .i64 x.1)]) (fun x => [.buf bl x.2 cap]) (Mapd cF s) (fun x => s.length - x.1) (0, s) ?_ aj rfl ?_
 ·exact FO
 rintro ⟨i, t⟩ hI
 have hi := hI.1
 have ht := hI.2.1
 dsimp only at hi ht ⊢
 repeat' (first | (conv => whnf); first | refine .w ?_ | refine .v ?_ | refine sc_c ?_ ?_ <;> (intro hb; try exact dd hb) | apply ah | apply aq | (apply sc_i <;> intro hb) | (apply bx_i; intro hbd) | (apply ak; first | exact hw _) | (apply ap (i := 0) rfl; first | exact hw _) | (apply ab_i; intro bl) | (apply as_i; intro va vk vc hva) | (apply av_i; intro v) | (apply ac_i; intro bl cap hcap) | apply bo_l | (apply nx_i <;> intro hnx) | exact rt_w | apply dw_q mixed hC hGL (by kernel_rfl) | (apply cq; assumption; (first | exact hw _); exact rfl))
 all_goals try conv => whnf
 ·have e := xG hI (by omega)
  rw [e, Bool.and_eq_true, decide_eq_true_eq, decide_eq_true_eq] at hb
  refine nxt (i + 1, t.set i (UInt8.ofNat 57)) ?_ ?_ aj rfl
  ·exact Bv hI (by omega) (by unfold cF; rw [if_pos (by omega)]) (by omega)
  ·dsimp only; omega
 ·have e := xG hI (by omega)
  rw [e, Bool.and_eq_false_iff, decide_eq_false_iff_not, decide_eq_false_iff_not] at hb
  refine nxt (i + 1, t) ?_ ?_ aj rfl
  ·exact zi hI (by omega) (by unfold cF; rw [if_neg (by omega)])
  ·dsimp only; omega
 ·apply ar
  rw [By sZ hI (by omega)]
  rfl
attribute [local irreducible] digB shpS
theorem z_ok {s : List UInt8} {v : Int} {H' : Heap} (h : aS s = (v, 0)) : Rt (fun (x : ARes) (H : Heap) => x = .ret (.tuple [.int .i64 (aS s).1, (dp s).A]) ∧ H = []) (.tuple [.int .i64 v, .raw .nilIface]) H' := by
 apply ar
 unfold dp
 rw [h, if_pos rfl]
 rfl
theorem GC {s : List UInt8} {e : Int} {H' : Heap} (h : aS s = (0, e)) (he : e ≠ 0) : Rt (fun (x : ARes) (H : Heap) => x = .ret (.tuple [.int .i64 (aS s).1, (dp s).A]) ∧ H = []) (.tuple [.int .i64 0, .iface 33 (.int .i64 e)]) H' := by
 apply ar
 unfold dp
 rw [h, if_neg he]
 rfl
theorem mP {G : Glo} (s : List UInt8) (hl : s.length ≤ 9223372036854775807) : FnIs Tryz.prog G 66 [.str s] (.tuple [.int .i64 (aS s).1, (dp s).A]) := by
  have hGL : ab G [] := ad
  refine fn_x Tryz.func66 Tryz.call66 rfl rfl rfl rfl hGL ?_
  intro C hC
  repeat' (first | (conv => whnf); first | refine .w ?_ | refine .v ?_ | refine sc_c ?_ ?_ <;> (intro hb; try exact dd hb) | apply ah | apply aq | (apply sc_i <;> intro hb) | (apply bx_i; intro hbd) | (apply ak; first | fail) | (apply ap (i := 0) rfl; first | fail) | (apply ab_i; intro bl) | (apply as_i; intro va vk vc hva) | (apply av_i; intro v) | (apply ac_i; intro bl cap hcap) | apply bo_l | (apply nx_i <;> intro hnx) | exact rt_w | apply dw_q mixed hC hGL (by kernel_rfl) | (apply cq; assumption; (first | fail); exact rfl))
  all_goals try conv => whnf
  any_goals (refine rds hC hGL 5 ?_)
  repeat' (first | (conv => whnf); first | refine .w ?_ | refine .v ?_ | refine sc_c ?_ ?_ <;> (intro hb; try exact dd hb) | apply ah | apply aq | (apply sc_i <;> intro hb) | (apply bx_i; intro hbd) | (apply ak; first | fail) | (apply ap (i := 0) rfl; first | fail) | (apply ab_i; intro bl) | (apply as_i; intro va vk vc hva) | (apply av_i; intro v) | (apply ac_i; intro bl cap hcap) | apply bo_l | (apply nx_i <;> intro hnx) | exact rt_w | apply dw_q mixed hC hGL (by kernel_rfl) | (apply cq; assumption; (first | fail); exact rfl))
  all_goals try conv => whnf
  all_goals first
    | (refine GC ?_ (by decide)
       try simp only [Nat.zero_add, Nat.reduceAdd] at *
       unfold aS hmV digN
       rw [if_neg (by assumption)]
       simp only [bH, decide_eq_true_eq]
       (repeat' split) <;> simp only [Prod.mk.injEq, and_true, true_and] <;> omega)
    | (refine z_ok ?_; unfold aS; rw [if_pos (by assumption)]; done)
    | skip
  all_goals (
    refine z_ok ?_
    try simp only [Nat.zero_add, Nat.reduceAdd] at *
    unfold aS hmV digN
    rw [if_neg (by assumption)]
    simp only [bH, decide_eq_true_eq]
    (repeat' split) <;> simp only [Prod.mk.injEq, and_true, true_and] <;> omega)
theorem El : ∀ a b : Fin 10, Lib.atoiAll [UInt8.ofNat (48 + a.1), UInt8.ofNat (48 + b.1)] = .ok ((10 * a.1 + b.1 : Nat) : Int) := by decide
theorem oy {G : Glo} (s : List UInt8) (hl : s.length = 2) (h0 : 48 ≤ aa s 0 ∧ aa s 0 ≤ 57) (h1 : 48 ≤ aa s 1 ∧ aa s 1 ≤ 57) : FnIs Tryz.prog G 83 [.str s] (.tuple [.int .i64 (10 * digN s 0 + digN s 1), .raw .nilIface]) := by
 have e : s = [UInt8.ofNat (48 + (aa s 0 - 48)), UInt8.ofNat (48 + (aa s 1 - 48))] := by
  refine List.ext_getElem (by rw [hl]; rfl) (fun j j1 j2 => ?_)
  have hj : j < 2 := by simpa using j2
  match j, hj with
  | 0, _ =>
   simp only [List.getElem_cons_zero]
   rw [show 48 + (aa s 0 - 48) = aa s 0 by omega, aW (by omega)]
   simp
  | 1, _ =>
   simp only [List.getElem_cons_succ, List.getElem_cons_zero]
   rw [show 48 + (aa s 1 - 48) = aa s 1 by omega, aW (by omega)]
   simp
 have ha := El ⟨aa s 0 - 48, by omega⟩ ⟨aa s 1 - 48, by omega⟩
 simp only at ha
 rw [← e] at ha
 have ev : ((10 * (aa s 0 - 48) + (aa s 1 - 48) : Nat) : Int) = 10 * digN s 0 + digN s 1 := by unfold digN; omega
 rw [ev] at ha
 refine e8 (.tuple #[.int .i64 (10 * digN s 0 + digN s 1), .nilIface]) (fun R => nk (ao.2 rfl) (an.2 rfl)) Tryz.call83 ?_
 intro R args hr w _ _
 obtain ⟨x, t, e', hx, rfl⟩ := hr
 obtain rfl := az.1 hx
 obtain rfl := fW e'
 refine (Tryz.strconv_Atoi_ok ⟨s.toArray⟩ (by rw [aY]; omega) _ (by simpa using ha) w).mono ?_
 rintro e w' ⟨rfl, hw⟩
 refine ⟨rfl, ?_⟩
 rcases hw with rfl | ⟨t, rfl⟩
 ·exact Below.refl _ _
 ·exact ⟨rfl, rfl, rfl, by rw [Lib.bytesWorld_size]; omega, fun k hk => Lib.bytesWorld_at_old _ _ _ _ hk⟩
theorem cw {s : List UInt8} {k j : Nat} : aa (s.drop k) j = aa s (k + j) := by
 unfold aa
 simp [List.getD, List.getElem?_drop]
theorem EW {neg : Bool} {h m a b : Int} {H' : Heap} (e : hmV neg h m = (a, b)) : Rt (fun (x : ARes) (H : Heap) => x = .ret (.tuple [.int .i64 (hmV neg h m).1, .int .i64 (hmV neg h m).2]) ∧ H = []) (.tuple [.int .i64 a, .int .i64 b]) H' := by
 apply ar
 rw [e]
theorem fJ {G : Glo} (s : List UInt8) (hl : s.length = 5) (hs : aa s 0 = 43 ∨ aa s 0 = 45) (h1 : 48 ≤ aa s 1 ∧ aa s 1 ≤ 57) (h2 : 48 ≤ aa s 2 ∧ aa s 2 ≤ 57) (h3 : 48 ≤ aa s 3 ∧ aa s 3 ≤ 57) (h4 : 48 ≤ aa s 4 ∧ aa s 4 ≤ 57) :
  FnIs Tryz.prog G 48 [.str s] (.tuple [.int .i64 (hmV (decide (aa s 0 = 45)) (10 * digN s 1 + digN s 2) (10 * digN s 3 + digN s 4)).1, .int .i64 (hmV (decide (aa s 0 = 45)) (10 * digN s 1 + digN s 2) (10 * digN s 3 + digN s 4)).2]) := by
 have hGL : ab G [] := ad
 refine fn_x Tryz.func48 Tryz.call48 rfl rfl rfl rfl hGL ?_
 intro C hC
 have hsh := lt (G := G) s (by omega)
 have e1 : (s.take 3).drop 1 = (s.drop 1).take 2 := by rw [List.take_drop]
 have a1 := oy (G := G) ((s.take 3).drop 1) (by rw [List.length_drop, List.length_take]; omega) (by rw [cw, cg (by omega)]; exact h1) (by rw [cw, cg (by omega)]; exact h2)
 have a2 := oy (G := G) (s.drop 3) (by rw [List.length_drop]; omega) (by rw [cw]; exact h3) (by rw [cw]; exact h4)
 have d1 : digN ((s.take 3).drop 1) 0 = digN s 1 := by unfold digN; rw [cw, cg (by omega)]
 have d2 : digN ((s.take 3).drop 1) 1 = digN s 2 := by unfold digN; rw [cw, cg (by omega)]
 have d3 : digN (s.drop 3) 0 = digN s 3 := by unfold digN; rw [cw]
 have d4 : digN (s.drop 3) 1 = digN s 4 := by unfold digN; rw [cw]
 rw [d1, d2] at a1
 rw [d3, d4] at a2
 have g1 : 0 ≤ digN s 1 ∧ digN s 1 ≤ 9 := by unfold digN; omega
 have g2 : 0 ≤ digN s 2 ∧ digN s 2 ≤ 9 := by unfold digN; omega
 have g3 : 0 ≤ digN s 3 ∧ digN s 3 ≤ 9 := by unfold digN; omega
 have g4 : 0 ≤ digN s 4 ∧ digN s 4 ≤ 9 := by unfold digN; omega
 have hz := fun n => jz (G := G) n
 rcases hs with hs | hs
 ·have hsp : shpS s = [43, 57, 57, 57, 57] := (kh (k := 43) (by omega) (by omega)).2 ⟨hl, hs, h1, h2, h3, h4⟩
  rw [hsp] at hsh
  repeat' (first | (conv => whnf); first | refine .w ?_ | refine .v ?_ | refine sc_c ?_ ?_ <;> (intro hb; try exact dd hb) | apply ah | apply aq | (apply sc_i <;> intro hb) | (apply bx_i; intro hbd) | (apply ak; first | exact hsh | exact a1 | exact a2 | exact hz _) | (apply ap (i := 0) rfl; first | exact hsh | exact a1 | exact a2 | exact hz _) | (apply ab_i; intro bl) | (apply as_i; intro va vk vc hva) | (apply av_i; intro v) | (apply ac_i; intro bl cap hcap) | apply bo_l | (apply nx_i <;> intro hnx) | exact rt_w | apply dw_q mixed hC hGL (by kernel_rfl) | (apply cq; assumption; (first | exact hsh | exact a1 | exact a2 | exact hz _); exact rfl))
  all_goals try conv => whnf
  all_goals (
   refine EW ?_
   try simp only [wL, EJ] at *
   unfold hmV
   simp only [decide_eq_true_eq]
   (repeat' split) <;> first | (exfalso; omega) | exact rfl)
 ·have hsp : shpS s = [45, 57, 57, 57, 57] := (kh (k := 45) (by omega) (by omega)).2 ⟨hl, hs, h1, h2, h3, h4⟩
  rw [hsp] at hsh
  repeat' (first | (conv => whnf); first | refine .w ?_ | refine .v ?_ | refine sc_c ?_ ?_ <;> (intro hb; try exact dd hb) | apply ah | apply aq | (apply sc_i <;> intro hb) | (apply bx_i; intro hbd) | (apply ak; first | exact hsh | exact a1 | exact a2 | exact hz _) | (apply ap (i := 0) rfl; first | exact hsh | exact a1 | exact a2 | exact hz _) | (apply ab_i; intro bl) | (apply as_i; intro va vk vc hva) | (apply av_i; intro v) | (apply ac_i; intro bl cap hcap) | apply bo_l | (apply nx_i <;> intro hnx) | exact rt_w | apply dw_q mixed hC hGL (by kernel_rfl) | (apply cq; assumption; (first | exact hsh | exact a1 | exact a2 | exact hz _); exact rfl))
  all_goals try conv => whnf
  all_goals (
   refine EW ?_
   try simp only [wL, EJ] at *
   unfold hmV
   simp only [decide_eq_true_eq]
   (repeat' split) <;> first | (exfalso; omega) | exact rfl)
theorem jA {G : Glo} (s : List UInt8) (hl : s.length ≤ 9223372036854775000) : FnIs Tryz.prog G 48 [.str s] (.tuple [.int .i64 (aS s).1, .int .i64 (aS s).2]) := by
 by_cases h5 : s.length = 5 ∧ (aa s 0 = 43 ∨ aa s 0 = 45) ∧ (digB (aa s 1) ∧ digB (aa s 2) ∧ digB (aa s 3) ∧ digB (aa s 4))
 ·obtain ⟨hl5, hs, h1, h2, h3, h4⟩ := h5
  have e : aS s = hmV (decide (aa s 0 = 45)) (10 * digN s 1 + digN s 2) (10 * digN s 3 + digN s 4) := by
   unfold aS
   rw [if_neg (by rintro rfl; simp at hl5), if_neg (by omega), if_pos ⟨hl5, hs, h1, h2, h3, h4⟩]
  rw [e]
  exact fJ s hl5 hs (bH.1 h1) (bH.1 h2) (bH.1 h3) (bH.1 h4)
 have n43 : shpS s ≠ [43, 57, 57, 57, 57] := fun h => by
  have h := (kh (k := 43) (by omega) (by omega)).1 h
  exact h5 ⟨h.1, .inl h.2.1, bH.2 h.2.2.1, bH.2 h.2.2.2.1, bH.2 h.2.2.2.2.1, bH.2 h.2.2.2.2.2⟩
 have n45 : shpS s ≠ [45, 57, 57, 57, 57] := fun h => by
  have h := (kh (k := 45) (by omega) (by omega)).1 h
  exact h5 ⟨h.1, .inr h.2.1, bH.2 h.2.2.1, bH.2 h.2.2.2.1, bH.2 h.2.2.2.2.1, bH.2 h.2.2.2.2.2⟩
 have hGL : ab G [] := ad
 refine fn_x Tryz.func48 Tryz.call48 rfl rfl rfl rfl hGL ?_
 intro C hC
 have hsh := lt (G := G) s (by omega)
 by_cases h3 : s.length = 3 ∧ (aa s 0 = 43 ∨ aa s 0 = 45) ∧ (digB (aa s 1) ∧ digB (aa s 2))
 ·obtain ⟨hl3, hs, h1, h2⟩ := h3
  have g : ∀ j, j < 3 → aa (s ++ [48, 48]) j = aa s j := fun j hj => by unfold aa; simp [List.getD, List.getElem?_append, show j < s.length by omega]
  have g3 : aa (s ++ [48, 48]) 3 = 48 := by unfold aa; simp [List.getD, List.getElem?_append, hl3]
  have g4 : aa (s ++ [48, 48]) 4 = 48 := by unfold aa; simp [List.getD, List.getElem?_append, hl3]
  have hr := fJ (G := G) (s ++ [48, 48]) (by rw [List.length_append, hl3]; rfl) (by rw [g 0 (by omega)]; exact hs) (by rw [g 1 (by omega)]; exact bH.1 h1) (by rw [g 2 (by omega)]; exact bH.1 h2) (by rw [g3]; omega) (by rw [g4]; omega)
  have d1 : digN (s ++ [48, 48]) 1 = digN s 1 := by unfold digN; rw [g 1 (by omega)]
  have d2 : digN (s ++ [48, 48]) 2 = digN s 2 := by unfold digN; rw [g 2 (by omega)]
  have d3 : digN (s ++ [48, 48]) 3 = 0 := by unfold digN; rw [g3]; rfl
  have d4 : digN (s ++ [48, 48]) 4 = 0 := by unfold digN; rw [g4]; rfl
  have e : aS s = hmV (decide (aa s 0 = 45)) (10 * digN s 1 + digN s 2) 0 := by
   unfold aS
   rw [if_neg (by rintro rfl; simp at hl3), if_pos ⟨hl3, hs, h1, h2⟩]
  rw [d1, d2, d3, d4, g 0 (by omega), show (10 * 0 + 0 : Int) = 0 from rfl, ← e] at hr
  have hsh' : shpS s = [43, 57, 57] ∨ shpS s = [45, 57, 57] := by
   rcases hs with hs | hs
   ·exact .inl ((i6 (k := 43) (by omega) (by omega)).2 ⟨hl3, hs, bH.1 h1, bH.1 h2⟩)
   ·exact .inr ((i6 (k := 45) (by omega) (by omega)).2 ⟨hl3, hs, bH.1 h1, bH.1 h2⟩)
  rcases hsh' with hsh' | hsh'
  all_goals (
   rw [hsh'] at hsh
   repeat' (first | (conv => whnf); first | refine .w ?_ | refine .v ?_ | refine sc_c ?_ ?_ <;> (intro hb; try exact dd hb) | apply ah | apply aq | (apply sc_i <;> intro hb) | (apply bx_i; intro hbd) | (apply ak; first | exact hsh | exact hr) | (apply ap (i := 0) rfl; first | exact hsh | exact hr) | (apply ab_i; intro bl) | (apply as_i; intro va vk vc hva) | (apply av_i; intro v) | (apply ac_i; intro bl cap hcap) | apply bo_l | (apply nx_i <;> intro hnx) | exact rt_w | apply dw_q mixed hC hGL (by kernel_rfl) | (apply cq; assumption; (first | exact hsh | exact hr); exact rfl))
   all_goals try conv => whnf)
 have m43 : shpS s ≠ [43, 57, 57] := fun h => by
  have h := (i6 (k := 43) (by omega) (by omega)).1 h
  exact h3 ⟨h.1, .inl h.2.1, bH.2 h.2.2.1, bH.2 h.2.2.2⟩
 have m45 : shpS s ≠ [45, 57, 57] := fun h => by
  have h := (i6 (k := 45) (by omega) (by omega)).1 h
  exact h3 ⟨h.1, .inr h.2.1, bH.2 h.2.2.1, bH.2 h.2.2.2⟩
 have e : aS s = if s = [90] then (0, 0) else (0, 3) := by
  unfold aS
  rw [if_neg h3, if_neg h5]
 rw [e]
 repeat' (first | (conv => whnf); first | refine .w ?_ | refine .v ?_ | refine sc_c ?_ ?_ <;> (intro hb; try exact dd hb) | apply ah | apply aq | (apply sc_i <;> intro hb) | (apply bx_i; intro hbd) | (apply ak; first | exact hsh) | (apply ap (i := 0) rfl; first | exact hsh) | (apply ab_i; intro bl) | (apply as_i; intro va vk vc hva) | (apply av_i; intro v) | (apply ac_i; intro bl cap hcap) | apply bo_l | (apply nx_i <;> intro hnx) | exact rt_w | apply dw_q mixed hC hGL (by kernel_rfl) | (apply cq; assumption; (first | exact hsh); exact rfl))
 all_goals try conv => whnf
 ·apply ar
  rw [if_pos (w7.1 hb)]
  rfl
 ·apply ar
  rw [if_neg (fun h => absurd (w7.2 h) (by assumption))]
  rfl
end
section
open Go Go.RowKit
theorem kg (s : List UInt8) : (shpS s).length = s.length := eS _ _
theorem bS {s u : List UInt8} (h : shpS s = u) : s.length = u.length ∧ ∀ i, i < u.length → cF (aa s i) = aa u i := by
 subst h
 refine ⟨(kg s).symm, fun i hi => ?_⟩
 rw [kg] at hi
 exact (eA hi).symm
theorem dw {s : List UInt8} {n i : Nat} (h : i < n) : aa (s.take n) i = aa s i := by
 unfold aa
 simp [List.getD, List.getElem?_take_of_lt h]
theorem bu {s : List UInt8} {n i : Nat} : aa (s.drop n) i = aa s (n + i) := by
 unfold aa
 simp [List.getD]
theorem ri {j : Nat} (h1 : 1 ≤ j) (h6 : j ≤ 6) : 2 ≤ (clkF j).length ∧ (clkF j).length ≤ 6 := by
 rcases (show j = 1 ∨ j = 2 ∨ j = 3 ∨ j = 4 ∨ j = 5 ∨ j = 6 by omega) with rfl | rfl | rfl | rfl | rfl | rfl <;> decide
theorem Cz {j : Nat} (h1 : 1 ≤ j) (h6 : j ≤ 6) : ∀ i, i < (clkF j).length → aa (clkF j) i = 57 ∨ (aa (clkF j) i = 45 ∧ i < 2) := by
 rcases (show j = 1 ∨ j = 2 ∨ j = 3 ∨ j = 4 ∨ j = 5 ∨ j = 6 by omega) with rfl | rfl | rfl | rfl | rfl | rfl <;> decide
theorem yk {j k : Nat} (h1 : 1 ≤ j) (h6 : j ≤ 6) (g1 : 1 ≤ k) (g6 : k ≤ 6) (h : clkF j = clkF k) : j = k := by
 rcases (show j = 1 ∨ j = 2 ∨ j = 3 ∨ j = 4 ∨ j = 5 ∨ j = 6 by omega) with rfl | rfl | rfl | rfl | rfl | rfl <;>
  rcases (show k = 1 ∨ k = 2 ∨ k = 3 ∨ k = 4 ∨ k = 5 ∨ k = 6 by omega) with rfl | rfl | rfl | rfl | rfl | rfl <;> first | rfl | (revert h; decide)
structure IsSp (t : List UInt8) (j n : Nat) : Prop where
 j1 : 1 ≤ j
 j6 : j ≤ 6
 hn : n ≤ t.length
 hs : shpS (t.take n) = clkF j
 hz : n = t.length ∨ aa t n = 90 ∨ aa t n = 43 ∨ aa t n = 45
theorem IsSp.len {t : List UInt8} {j n : Nat} (h : IsSp t j n) : n = (clkF j).length := by
 have := (bS h.hs).1
 rw [List.length_take] at this
 have := h.hn
 omega
theorem IsSp.at {t : List UInt8} {j n : Nat} (h : IsSp t j n) : ∀ i, i < n → (48 ≤ aa t i ∧ aa t i ≤ 57) ∨ (aa t i = 45 ∧ i < 2) := by
 intro i hi
 have h1 := (bS h.hs).2 i (by rw [← h.len]; exact hi)
 rw [dw hi] at h1
 rcases Cz h.j1 h.j6 i (by rw [← h.len]; exact hi) with k | ⟨k, k2⟩
 ·rw [k] at h1
  exact .inl (cR.1 h1)
 ·rw [k] at h1
  exact .inr ⟨(gU (by omega)).1 h1, k2⟩
theorem IsSp.uniq {t : List UInt8} {j n j' n' : Nat} (h : IsSp t j n) (g : IsSp t j' n') : j = j' ∧ n = n' := by
 have key : ∀ {j n j' n' : Nat}, IsSp t j n → IsSp t j' n' → ¬ n < n' := by
  intro j n j' n' h g hlt
  have h2 := (ri h.j1 h.j6).1
  rw [← h.len] at h2
  have h3 := g.at n hlt
  have h4 := g.hn
  have h5 := h.hz
  omega
 have e : n = n' := by
  have h1 := key h g
  have h2 := key g h
  omega
 subst e
 exact ⟨yk h.j1 h.j6 g.j1 g.j6 (h.hs.symm.trans g.hs), rfl⟩
def KAt (t : List UInt8) (k : Nat) : Prop :=
 (k < t.length ∧ (aa t k = 90 ∨ aa t k = 43) ∧ ∀ j, j < k → aa t j ≠ 90 ∧ aa t j ≠ 43) ∨
 ((∀ j, j < t.length → aa t j ≠ 90 ∧ aa t j ≠ 43) ∧ ((k < t.length ∧ 2 ≤ k ∧ aa t k = 45 ∧ ∀ j, k < j → j < t.length → aa t j ≠ 45) ∨ (k = t.length ∧ ∀ j, 2 ≤ j → j < t.length → aa t j ≠ 45)))
theorem vK {t : List UInt8} {k : Nat} (h : KAt t k) : k ≤ t.length := by
 unfold KAt at h
 omega
theorem rG {z : List UInt8} {m : Nat} (h0 : aa z 0 = 45) (hm : 0 < m) (hl : m < z.length) (h : aa z m = 90 ∨ aa z m = 43 ∨ aa z m = 45) : aS z = (0, 3) := by
 unfold aS
 rw [if_neg (by rintro rfl; exact absurd h0 (by decide)), if_neg, if_neg]
 ·rintro ⟨h1, -, h2, h3, h4, h5⟩
  rw [bH] at h2 h3 h4 h5
  rcases (show m = 1 ∨ m = 2 ∨ m = 3 ∨ m = 4 by omega) with rfl | rfl | rfl | rfl <;> omega
 ·rintro ⟨h1, -, h2, h3⟩
  rw [bH] at h2 h3
  rcases (show m = 1 ∨ m = 2 by omega) with rfl | rfl <;> omega
theorem sp_k {t : List UInt8} {j n k : Nat} (h : IsSp t j n) (hk : KAt t k) : k = n ∨ (n < t.length ∧ aS (t.drop n) = (0, 3) ∧ ∀ j', 1 ≤ j' → j' ≤ 6 → shpS (t.take k) ≠ clkF j') := by
 have hat := h.at
 have hn := h.hn
 have hz := h.hz
 have h2 := (ri h.j1 h.j6).1
 rw [← h.len] at h2
 have hkl := vK hk
 have nok : n < k → n < t.length → aa t n = 45 → ∀ j', 1 ≤ j' → j' ≤ 6 → shpS (t.take k) ≠ clkF j' := by
  intro hlt hnl h45 j' g1 g6 e
  have e1 := bS e
  rw [List.length_take] at e1
  have e2 := e1.2 n (by omega)
  rw [dw hlt, h45] at e2
  have e3 := Cz g1 g6 n (by omega)
  unfold cF at e2
  rw [if_neg (by omega)] at e2
  omega
 rcases hk with ⟨k1, k2, k3⟩ | ⟨k0, ⟨k1, k2, k3, k4⟩ | ⟨k1, k2⟩⟩
 ·have hnk : n ≤ k := by
   rcases Nat.lt_or_ge k n with g | g
   ·have := hat k g
    omega
   ·exact g
  rcases Nat.lt_or_ge n k with g | g
  ·have hb := k3 n g
   have h45 : aa t n = 45 := by omega
   refine .inr ⟨by omega, rG (m := k - n) (by rw [bu, Nat.add_zero]; exact h45) (by omega) (by rw [List.length_drop]; omega) (by rw [bu, show n + (k - n) = k by omega]; omega), nok g (by omega) h45⟩
  ·exact .inl (by omega)
 ·have hnk : n ≤ k := by
   rcases Nat.lt_or_ge k n with g | g
   ·have := hat k g
    omega
   ·exact g
  rcases Nat.lt_or_ge n k with g | g
  ·have hb := k0 n (by omega)
   have h45 : aa t n = 45 := by omega
   refine .inr ⟨by omega, rG (m := k - n) (by rw [bu, Nat.add_zero]; exact h45) (by omega) (by rw [List.length_drop]; omega) (by rw [bu, show n + (k - n) = k by omega]; omega), nok g (by omega) h45⟩
  ·exact .inl (by omega)
 ·refine .inl ?_
  rcases Nat.lt_or_ge n t.length with g | g
  ·have hb := k0 n g
   have hc := k2 n h2 g
   omega
  ·omega
theorem k_sp {t : List UInt8} {j k : Nat} (hk : KAt t k) (h1 : 1 ≤ j) (h6 : j ≤ 6) (h : shpS (t.take k) = clkF j) : IsSp t j k := by
 refine ⟨h1, h6, vK hk, h, ?_⟩
 unfold KAt at hk
 omega
instance (t : List UInt8) (j n : Nat) : Decidable (IsSp t j n) :=
 if h : 1 ≤ j ∧ j ≤ 6 ∧ n ≤ t.length ∧ shpS (t.take n) = clkF j ∧ (n = t.length ∨ aa t n = 90 ∨ aa t n = 43 ∨ aa t n = 45) then isTrue ⟨h.1, h.2.1, h.2.2.1, h.2.2.2.1, h.2.2.2.2⟩ else isFalse fun k => h ⟨k.1, k.2, k.3, k.4, k.5⟩
def splJ (t : List UInt8) : Nat := if IsSp t 1 2 then 1 else if IsSp t 2 4 then 2 else if IsSp t 3 6 then 3 else if IsSp t 4 3 then 4 else if IsSp t 5 5 then 5 else if IsSp t 6 4 then 6 else 0
def splN (t : List UInt8) : Nat := (clkF (splJ t)).length
theorem qj {t : List UInt8} {j n : Nat} (h : IsSp t j n) : splJ t = j ∧ splN t = n := by
  have hl := h.len
  have key : splJ t = j := by
    have u := fun {j' n' : Nat} (g : IsSp t j' n') => (h.uniq g).1
    unfold splJ
    (repeat' split)
    all_goals first
      | exact (u (by assumption)).symm
      | (exfalso
         have g1 := h.j1
         have g6 := h.j6
         rcases (show j = 1 ∨ j = 2 ∨ j = 3 ∨ j = 4 ∨ j = 5 ∨ j = 6 by omega) with rfl | rfl | rfl | rfl | rfl | rfl
         all_goals (simp only [clkF, List.getD_cons_zero, List.getD_cons_succ, List.length_cons, List.length_nil] at hl; subst hl; contradiction))
  exact ⟨key, by unfold splN; rw [key]; exact hl.symm⟩
theorem qi {t : List UInt8} (h : splJ t ≠ 0) : IsSp t (splJ t) (splN t) := by
 have key : ∀ {j n : Nat}, IsSp t j n → IsSp t (splJ t) (splN t) := fun g => by
  obtain ⟨e1, e2⟩ := qj g
  rw [e1, e2]
  exact g
 unfold splJ at h
 (repeat' split at h)
 all_goals first | exact key (by assumption) | exact absurd rfl h
theorem Ax {t : List UInt8} {k : Nat} (hk : KAt t k) (h : ∀ j, 1 ≤ j → j ≤ 6 → shpS (t.take k) ≠ clkF j) : splJ t = 0 ∨ (splJ t ≠ 0 ∧ splN t < t.length ∧ aS (t.drop (splN t)) = (0, 3)) := by
 by_cases h0 : splJ t = 0
 ·exact .inl h0
 ·have g := qi h0
  rcases sp_k g hk with e | e
  ·exact absurd (by rw [e]; exact g.hs) (h _ g.j1 g.j6)
  ·exact .inr ⟨h0, e.1, e.2.1⟩
theorem r6 {t : List UInt8} {j k : Nat} (hk : KAt t k) (h1 : 1 ≤ j) (h6 : j ≤ 6) (h : shpS (t.take k) = clkF j) : splJ t = j ∧ splN t = k := qj (k_sp hk h1 h6 h)
def two2 (s : List UInt8) (j : Nat) : Int := 10 * digN s j + digN s (j + 1)
def eU (s : List UInt8) (j : Nat) : Int := 10 * (10 * (10 * digN s j + digN s (j + 1)) + digN s (j + 2)) + digN s (j + 3)
def dIx (d : List UInt8) : Nat := if shpS d = aC 0 then 0 else if shpS d = aC 1 then 1 else if shpS d = aC 2 then 2 else if shpS d = aC 3 then 3 else if shpS d = aC 4 then 4 else if shpS d = aC 5 then 5 else if shpS d = aC 6 then 6 else 7
theorem tO {j k : Nat} (h6 : j ≤ 6) (g6 : k ≤ 6) (h : aC j = aC k) : j = k := by
 rcases (show j = 0 ∨ j = 1 ∨ j = 2 ∨ j = 3 ∨ j = 4 ∨ j = 5 ∨ j = 6 by omega) with rfl | rfl | rfl | rfl | rfl | rfl | rfl <;>
  rcases (show k = 0 ∨ k = 1 ∨ k = 2 ∨ k = 3 ∨ k = 4 ∨ k = 5 ∨ k = 6 by omega) with rfl | rfl | rfl | rfl | rfl | rfl | rfl <;> first | rfl | (revert h; decide)
theorem ol {d : List UInt8} {k : Nat} (hk : k ≤ 6) (h : shpS d = aC k) : dIx d = k := by
  unfold dIx
  (repeat' split)
  all_goals first
    | (rename_i e; exact (tO hk (by decide) (h.symm.trans e)).symm)
    | (exfalso
       rcases (show k = 0 ∨ k = 1 ∨ k = 2 ∨ k = 3 ∨ k = 4 ∨ k = 5 ∨ k = 6 by omega) with rfl | rfl | rfl | rfl | rfl | rfl | rfl <;> contradiction)
theorem wf {d : List UInt8} (h : ∀ k, k ≤ 6 → shpS d ≠ aC k) : dIx d = 7 := by
 unfold dIx
 rw [if_neg (h 0 (by decide)), if_neg (h 1 (by decide)), if_neg (h 2 (by decide)), if_neg (h 3 (by decide)), if_neg (h 4 (by decide)), if_neg (h 5 (by decide)), if_neg (h 6 (by decide))]
def dY (k : Nat) (d : List UInt8) : Int := if k = 1 ∨ k = 2 ∨ k = 3 then eU d 0 else -1
def dM (k : Nat) (d : List UInt8) : Int := if k = 2 then two2 d 5 else if k = 3 then two2 d 4 else if k = 4 ∨ k = 5 then two2 d 2 else -1
def dD (k : Nat) (d : List UInt8) : Int := if k = 3 then two2 d 6 else if k = 5 then two2 d 4 else if k = 6 then two2 d 3 else -1
def cH (k : Nat) (c : List UInt8) : Int := if k = 1 ∨ k = 2 ∨ k = 3 then two2 c 0 else -1
def cI (k : Nat) (c : List UInt8) : Int := if k = 2 ∨ k = 3 then two2 c 2 else if k = 4 ∨ k = 5 then two2 c 1 else -1
def cS (k : Nat) (c : List UInt8) : Int := if k = 3 then two2 c 4 else if k = 5 then two2 c 3 else if k = 6 then two2 c 2 else -1
def whS (i : Nat) (d : List UInt8) (j : Nat) (c z : List UInt8) : Stm := ⟨dY i d, dM i d, dD i d, cH j c, cI j c, cS j c, decide (z ≠ []), if z = [] then 0 else (aS z).1⟩
def Stm.no : Stm := ⟨0, 0, 0, 0, 0, 0, false, 0⟩
def finP (t : Stm) : Stm × Err := if t.e = 0 then (t, .none) else (Stm.no, .errno t.e)
def whR (d : List UInt8) (timed : Bool) (t : List UInt8) : Stm × Err :=
 if dIx d = 7 then (Stm.no, .errno 3)
 else if timed = false then finP (whS (dIx d) d 0 [] [])
 else if splJ t = 0 then (Stm.no, .errno 3)
 else if t.drop (splN t) ≠ [] ∧ (aS (t.drop (splN t))).2 ≠ 0 then (Stm.no, .errno (aS (t.drop (splN t))).2)
 else finP (whS (dIx d) d (splJ t) (t.take (splN t)) (t.drop (splN t)))
def whP (s : List UInt8) : Stm × Err := whR (cutB s 84).1 (cutB s 84).2.2 (cutB s 84).2.1
end
section
open Go
theorem dT {α : Type} {P : List α → Prop} (h0 : P []) (h1 : ∀ l a, P l → P (l ++ [a])) (l : List α) : P l := by
 rw [← List.reverse_reverse l]
 induction l.reverse with
 | nil => exact h0
 | cons a r ih => rw [List.reverse_cons]; exact h1 _ _ ih
inductive Tk where
 | one (c : UInt8)
 | two (d : UInt8)
def Tk.raw : Tk → List UInt8
 | .one c => [c]
 | .two d => [92, d]
def escV (d : UInt8) : UInt8 := if d = 110 ∨ d = 78 then 10 else d
def Tk.val : Tk → UInt8
 | .one c => c
 | .two d => escV d
def okE (d : UInt8) : Bool := decide (d = 92 ∨ d = 44 ∨ d = 59 ∨ d = 110 ∨ d = 78)
def Tk.ok : Tk → Prop
 | .one c => c ≠ 92
 | .two d => okE d = true
def errT : List UInt8 → Nat → Err
 | [], _ => .none
 | [c], i => if c = 92 then .at 7 ((i + 1 : Nat) : Int) else .none
 | c :: d :: r, i => if c = 92 then (if okE d then errT r (i + 2) else .at 3 ((i + 1 : Nat) : Int)) else errT (d :: r) (i + 1)
def tokT : List UInt8 → List Tk
 | [] => []
 | [c] => if c = 92 then [] else [.one c]
 | c :: d :: r => if c = 92 then (if okE d then .two d :: tokT r else []) else .one c :: tokT (d :: r)
abbrev rawT (T : List Tk) : List UInt8 := T.flatMap Tk.raw
abbrev valT (T : List Tk) : List UInt8 := T.map Tk.val
theorem iQ {c : UInt8} (h : c ≠ 92) (r : List UInt8) (i : Nat) : errT (c :: r) i = errT r (i + 1) := by
 cases r with
 | nil => simp [errT, h]
 | cons d r => simp [errT, h]
theorem ip {c : UInt8} (h : c ≠ 92) (r : List UInt8) : tokT (c :: r) = .one c :: tokT r := by
 cases r with
 | nil => simp [tokT, h]
 | cons d r => simp [tokT, h]
theorem iP {d : UInt8} (h : okE d = true) (r : List UInt8) (i : Nat) : errT (92 :: d :: r) i = errT r (i + 2) := by simp [errT, h]
theorem io {d : UInt8} (h : okE d = true) (r : List UInt8) : tokT (92 :: d :: r) = .two d :: tokT r := by simp [tokT, h]
theorem uE : ∀ (n : Nat) (s : List UInt8), s.length ≤ n → ∀ t ∈ tokT s, t.ok
 | _, [], _, t, ht => by cases ht
 | 0, c :: r, hn, _, _ => by simp at hn
 | n + 1, c :: r, hn, t, ht => by
  have hn : r.length ≤ n := by simpa using hn
  by_cases hc : c = 92
  ·subst hc
   cases r with
   | nil => simp [tokT] at ht
   | cons d r =>
    by_cases hd : okE d = true
    ·rw [io hd] at ht
     rcases List.mem_cons.1 ht with rfl | ht
     ·exact hd
     ·exact uE n r (by simp at hn; omega) t ht
    ·simp [tokT, hd] at ht
  ·rw [ip hc] at ht
   rcases List.mem_cons.1 ht with rfl | ht
   ·exact hc
   ·exact uE n r hn t ht
theorem mB : ∀ (n : Nat) (s : List UInt8) (i : Nat), s.length ≤ n → errT s i = .none → rawT (tokT s) = s
 | _, [], _, _, _ => rfl
 | 0, c :: r, _, hn, _ => by simp at hn
 | n + 1, c :: r, i, hn, he => by
  have hn : r.length ≤ n := by simpa using hn
  by_cases hc : c = 92
  ·subst hc
   cases r with
   | nil => simp [errT] at he
   | cons d r =>
    by_cases hd : okE d = true
    ·rw [iP hd] at he
     rw [io hd]
     show 92 :: d :: rawT (tokT r) = _
     rw [mB n r _ (by simp at hn; omega) he]
    ·simp [errT, hd] at he
  ·rw [iQ hc] at he
   rw [ip hc]
   show c :: rawT (tokT r) = _
   rw [mB n r _ hn he]
theorem xp : ∀ (T : List Tk) (i : Nat), (∀ t ∈ T, t.ok) → errT (rawT T) i = .none ∧ tokT (rawT T) = T
 | [], _, _ => ⟨rfl, rfl⟩
 | t :: T, i, h => by
  have ih := fun i => xp T i (fun t ht => h t (List.mem_cons_of_mem _ ht))
  have ht := h t List.mem_cons_self
  cases t with
  | one c =>
   show errT (c :: rawT T) i = _ ∧ tokT (c :: rawT T) = _
   rw [iQ ht, ip ht, (ih _).1, (ih 0).2]
   exact ⟨rfl, rfl⟩
  | two d =>
   show errT (92 :: d :: rawT T) i = _ ∧ tokT (92 :: d :: rawT T) = _
   rw [iP ht, io ht, (ih _).1, (ih 0).2]
   exact ⟨rfl, rfl⟩
def TokP (s : List UInt8) (i : Nat) (T : List Tk) : Prop := i ≤ s.length ∧ errT s 0 = errT (s.drop i) i ∧ tokT s = T ++ tokT (s.drop i)
theorem pd (s : List UInt8) : TokP s 0 [] := ⟨Nat.zero_le _, rfl, rfl⟩
theorem ff {s : List UInt8} {i : Nat} (h : i < s.length) {c : UInt8} : s[i] = c ↔ (aa s i : Int) = c.toNat := by
 have e : aa s i = s[i].toNat := by simp [aa, List.getD, List.getElem?_eq_getElem h]
 rw [e, ← UInt8.toNat_inj]
 omega
theorem mY {s : List UInt8} {i : Nat} {T : List Tk} (h : TokP s i T) (hi : i < s.length) (hc : (aa s i : Int) ≠ 92) : TokP s (i + 1) (T ++ [.one s[i]]) := by
 obtain ⟨_, h2, h3⟩ := h
 have hc : s[i] ≠ 92 := fun k => hc ((ff hi).1 k)
 rw [List.drop_eq_getElem_cons hi] at h2 h3
 rw [iQ hc] at h2
 rw [ip hc] at h3
 exact ⟨hi, h2, by rw [h3, List.append_assoc]; rfl⟩
theorem dq {s : List UInt8} {i : Nat} {T : List Tk} (h : TokP s i T) (hi : i + 1 < s.length) (hc : (aa s i : Int) = 92) (hd : okE s[i + 1] = true) : TokP s (i + 2) (T ++ [.two s[i + 1]]) := by
 obtain ⟨_, h2, h3⟩ := h
 have hc : s[i] = 92 := (ff (by omega)).2 hc
 rw [List.drop_eq_getElem_cons (by omega : i < s.length), List.drop_eq_getElem_cons hi, hc] at h2 h3
 rw [iP hd] at h2
 rw [io hd] at h3
 exact ⟨hi, h2, by rw [h3, List.append_assoc]; rfl⟩
theorem pc {s : List UInt8} {i : Nat} {T : List Tk} (h : TokP s i T) (hi : i + 1 = s.length) (hc : (aa s i : Int) = 92) : errT s 0 = .at 7 ((i : Int) + 1) := by
 obtain ⟨_, h2, _⟩ := h
 have hc : s[i] = 92 := (ff (by omega)).2 hc
 rw [List.drop_eq_getElem_cons (by omega : i < s.length), List.drop_of_length_le (by omega), hc] at h2
 rw [h2]
 rfl
theorem rX {s : List UInt8} {i : Nat} {T : List Tk} (h : TokP s i T) (hi : i + 1 < s.length) (hc : (aa s i : Int) = 92) (hd : okE s[i + 1] = false) : errT s 0 = .at 3 ((i : Int) + 1) := by
 obtain ⟨_, h2, _⟩ := h
 have hc : s[i] = 92 := (ff (by omega)).2 hc
 rw [List.drop_eq_getElem_cons (by omega : i < s.length), List.drop_eq_getElem_cons hi, hc] at h2
 rw [h2]
 simp [errT, hd]
theorem rW {s : List UInt8} {i : Nat} {T : List Tk} (h : TokP s i T) (hi : s.length ≤ i) : errT s 0 = .none ∧ tokT s = T := by
 obtain ⟨_, h2, h3⟩ := h
 rw [List.drop_of_length_le hi] at h2 h3
 exact ⟨h2, by simpa [tokT] using h3⟩
end
section
open Go
def fY (at_ : List UInt8) (x : List (List UInt8) × List UInt8 × List UInt8) : Tk → List (List UInt8) × List UInt8 × List UInt8
 | .one c => if c ∈ at_ then (x.1 ++ [x.2.1], [], x.2.2 ++ [c]) else (x.1, x.2.1 ++ [c], x.2.2)
 | .two d => (x.1, x.2.1 ++ [escV d], x.2.2)
def sgP (at_ : List UInt8) (T : List Tk) : List (List UInt8) × List UInt8 × List UInt8 := T.foldl (fY at_) ([], [], [])
def fc (c : UInt8) (x : List (List Tk) × List Tk) : Tk → List (List Tk) × List Tk
 | .one b => if b = c then (x.1 ++ [x.2], []) else (x.1, x.2 ++ [.one b])
 | .two d => (x.1, x.2 ++ [.two d])
def stT (c : UInt8) (T : List Tk) : List (List Tk) × List Tk := T.foldl (fc c) ([], [])
def splT (c : UInt8) (T : List Tk) : List (List Tk) := (stT c T).1 ++ [(stT c T).2]
def ir (c : UInt8) (x : List (List UInt8) × List UInt8 × Bool) (b : UInt8) : List (List UInt8) × List UInt8 × Bool :=
 if b = c ∧ x.2.2 = false then (x.1 ++ [x.2.1], [], b == 92 && !x.2.2) else (x.1, x.2.1 ++ [b], b == 92 && !x.2.2)
def stB (c : UInt8) (s : List UInt8) : List (List UInt8) × List UInt8 × Bool := s.foldl (ir c) ([], [], false)
def cutL (c : UInt8) (s : List UInt8) : List (List UInt8) := (stB c s).1 ++ [(stB c s).2.1]
theorem fG (a : List UInt8) (T : List Tk) (t : Tk) : sgP a (T ++ [t]) = fY a (sgP a T) t := by unfold sgP; rw [List.foldl_append]; rfl
theorem eP (c : UInt8) (T : List Tk) (t : Tk) : stT c (T ++ [t]) = fc c (stT c T) t := by unfold stT; rw [List.foldl_append]; rfl
theorem iw (c : UInt8) (s : List UInt8) (b : UInt8) : stB c (s ++ [b]) = ir c (stB c s) b := by unfold stB; rw [List.foldl_append]; rfl
theorem Du (c : UInt8) (s : List UInt8) (a b : UInt8) : stB c (s ++ [a, b]) = ir c (ir c (stB c s) a) b := by unfold stB; rw [List.foldl_append]; rfl
theorem A4 (T : List Tk) (t : Tk) : rawT (T ++ [t]) = rawT T ++ t.raw := by simp
theorem dQ (T : List Tk) (t : Tk) : valT (T ++ [t]) = valT T ++ [t.val] := by simp
theorem wZ {T : List Tk} {t : Tk} (h : ∀ x ∈ T ++ [t], x.ok) : (∀ x ∈ T, x.ok) ∧ t.ok := ⟨fun x hx => h x (List.mem_append_left _ hx), h t (by simp)⟩
theorem Em {c : UInt8} (hc : c ≠ 92) : ∀ T : List Tk, (∀ t ∈ T, t.ok) → stB c (rawT T) = ((stT c T).1.map rawT, rawT (stT c T).2, false) := by
 refine dT (fun _ => rfl) fun T t ih h => ?_
 obtain ⟨h1, h2⟩ := wZ h
 have ih := ih h1
 rw [A4, eP]
 cases t with
 | one b =>
  have h2 : b ≠ 92 := h2
  rw [show (Tk.one b).raw = [b] from rfl, iw, ih]
  unfold ir fc
  by_cases hb : b = c
  ·subst hb
   simp [h2]
  ·simp [hb, h2, Tk.raw]
 | two d =>
  rw [show (Tk.two d).raw = [92, d] from rfl, Du, ih]
  unfold fc
  by_cases hd : d = 92
  ·simp [ir, hd, Ne.symm hc, Tk.raw]
  ·simp [ir, hd, Ne.symm hc, Tk.raw]
theorem Fi {c : UInt8} : ∀ T : List Tk, (∀ t ∈ T, t.ok) → (∀ T' ∈ (stT c T).1, ∀ t ∈ T', t.ok) ∧ ∀ t ∈ (stT c T).2, t.ok := by
 refine dT (fun _ => ⟨fun _ h => by simp [stT] at h, fun _ h => by simp [stT] at h⟩) fun T t ih h => ?_
 obtain ⟨h1, h2⟩ := wZ h
 obtain ⟨i1, i2⟩ := ih h1
 rw [eP]
 have key : ∀ x ∈ (stT c T).2 ++ [t], x.ok := fun x hx => by
  rcases List.mem_append.1 hx with hx | hx
  ·exact i2 x hx
  ·rw [List.mem_singleton.1 hx]; exact h2
 cases t with
 | one b =>
  unfold fc
  by_cases hb : b = c
  ·simp only [hb, if_true]
   refine ⟨fun T' hT => ?_, fun x hx => by cases hx⟩
   rcases List.mem_append.1 hT with hT | hT
   ·exact i1 T' hT
   ·rw [List.mem_singleton.1 hT]; exact i2
  ·simp only [hb, if_false]
   exact ⟨i1, key⟩
 | two d => exact ⟨i1, key⟩
theorem Dy {c : UInt8} {T : List Tk} (h : ∀ t ∈ T, t.ok) : ∀ T' ∈ splT c T, ∀ t ∈ T', t.ok := by
 obtain ⟨h1, h2⟩ := Fi (c := c) T h
 intro T' hT
 rcases List.mem_append.1 hT with hT | hT
 ·exact h1 T' hT
 ·rw [List.mem_singleton.1 hT]; exact h2
theorem Co {c : UInt8} (hc : c ≠ 92) {T : List Tk} (h : ∀ t ∈ T, t.ok) : cutL c (rawT T) = (splT c T).map rawT := by
 unfold cutL splT
 rw [Em hc T h, List.map_append]
 rfl
theorem DD : ∀ T : List Tk, sgP [] T = ([], valT T, []) := by
 refine dT rfl fun T t ih => ?_
 rw [fG, ih, dQ]
 cases t <;> simp [fY, Tk.val]
theorem xd (c : UInt8) : ∀ T : List Tk, (sgP [c] T).1 = (stT c T).1.map valT ∧ (sgP [c] T).2.1 = valT (stT c T).2 := by
 refine dT ⟨rfl, rfl⟩ fun T t ih => ?_
 rw [fG, eP]
 cases t with
 | one b =>
  unfold fY fc
  by_cases hb : b = c
  ·simp [hb, ih.1, ih.2]
  ·simp [hb, ih.1, ih.2, Tk.val]
 | two d => simp [fY, fc, ih.1, ih.2, Tk.val]
def nQ (out : List (List (List UInt8))) (x : List UInt8) : List (List (List UInt8)) := out.dropLast ++ [out.getLast?.getD [] ++ [x]]
theorem gY (out : List (List (List UInt8))) (l : List (List UInt8)) (x : List UInt8) : nQ (out ++ [l]) x = out ++ [l ++ [x]] := by simp [nQ]
def jw (out : List (List (List UInt8))) (c : UInt8 × List UInt8) : List (List (List UInt8)) := nQ (if c.1 = 59 then out ++ [[]] else out) c.2
def grpS (l : List (List UInt8)) (cuts : List UInt8) : List (List (List UInt8)) := (cuts.zip l.tail).foldl jw [[l.headD []]]
theorem tA (l : List (List UInt8)) (hl : l ≠ []) (cuts : List UInt8) (h : l.length = cuts.length + 1) (c : UInt8) (x : List UInt8) : grpS (l ++ [x]) (cuts ++ [c]) = jw (grpS l cuts) (c, x) := by
 cases l with
 | nil => exact absurd rfl hl
 | cons a l =>
  have h : cuts.length = l.length := by simpa using h.symm
  unfold grpS
  simp only [List.cons_append, List.tail_cons, List.headD_cons]
  rw [List.zip_append h, List.foldl_append]
  rfl
def lstT (T : List Tk) : List (List UInt8) := (splT 44 T).map valT
theorem qP (T : List Tk) : lstT T = (stT 44 T).1.map valT ++ [valT (stT 44 T).2] := by simp [lstT, splT]
theorem r4 (o : List (List (List UInt8))) (x : List UInt8) : jw o (44, x) = nQ o x := rfl
theorem uL (o : List (List (List UInt8))) (x : List UInt8) : jw o (59, x) = nQ (o ++ [[]]) x := rfl
theorem w9 : ∀ T : List Tk, (sgP [44, 59] T).1.length = (sgP [44, 59] T).2.2.length ∧ (sgP [44, 59] T).2.1 = valT (stT 44 (stT 59 T).2).2 ∧
  ∀ x, grpS ((sgP [44, 59] T).1 ++ [x]) (sgP [44, 59] T).2.2 = (stT 59 T).1.map lstT ++ [(stT 44 (stT 59 T).2).1.map valT ++ [x]] := by
 refine dT ⟨rfl, rfl, fun x => rfl⟩ fun T t ih => ?_
 obtain ⟨h1, h2, h3⟩ := ih
 rw [fG, eP]
 cases t with
 | one b =>
  by_cases hb : b = 59
  ·subst hb
   rw [show fY [44, 59] (sgP [44, 59] T) (.one 59) = ((sgP [44, 59] T).1 ++ [(sgP [44, 59] T).2.1], [], (sgP [44, 59] T).2.2 ++ [59]) from rfl, show fc 59 (stT 59 T) (.one 59) = ((stT 59 T).1 ++ [(stT 59 T).2], []) from rfl]
   refine ⟨by simp [h1], rfl, fun x => ?_⟩
   rw [tA _ (by simp) _ (by simp [h1]), h3, h2]
   rw [uL, gY, List.map_append, List.map_cons, qP]
   simp [stT]
  ·by_cases hb2 : b = 44
   ·subst hb2
    rw [show fY [44, 59] (sgP [44, 59] T) (.one 44) = ((sgP [44, 59] T).1 ++ [(sgP [44, 59] T).2.1], [], (sgP [44, 59] T).2.2 ++ [44]) from rfl, show fc 59 (stT 59 T) (.one 44) = ((stT 59 T).1, (stT 59 T).2 ++ [.one 44]) from rfl]
    dsimp only
    rw [eP, show fc 44 (stT 44 (stT 59 T).2) (.one 44) = ((stT 44 (stT 59 T).2).1 ++ [(stT 44 (stT 59 T).2).2], []) from rfl]
    refine ⟨by simp [h1], rfl, fun x => ?_⟩
    rw [tA _ (by simp) _ (by simp [h1]), h3, h2]
    rw [r4, gY]
    simp
   ·have e1 : fY [44, 59] (sgP [44, 59] T) (.one b) = ((sgP [44, 59] T).1, (sgP [44, 59] T).2.1 ++ [b], (sgP [44, 59] T).2.2) := by simp [fY, hb, hb2]
    have e2 : fc 59 (stT 59 T) (.one b) = ((stT 59 T).1, (stT 59 T).2 ++ [.one b]) := by simp [fc, hb]
    have e3 : stT 44 ((stT 59 T).2 ++ [.one b]) = ((stT 44 (stT 59 T).2).1, (stT 44 (stT 59 T).2).2 ++ [.one b]) := by rw [eP]; simp [fc, hb2]
    rw [e1, e2]
    dsimp only
    rw [e3]
    exact ⟨h1, by rw [h2, dQ]; rfl, h3⟩
 | two d =>
  have e2 : fc 59 (stT 59 T) (.two d) = ((stT 59 T).1, (stT 59 T).2 ++ [.two d]) := rfl
  have e3 : stT 44 ((stT 59 T).2 ++ [.two d]) = ((stT 44 (stT 59 T).2).1, (stT 44 (stT 59 T).2).2 ++ [.two d]) := by rw [eP]; rfl
  rw [e2, show fY [44, 59] (sgP [44, 59] T) (.two d) = ((sgP [44, 59] T).1, (sgP [44, 59] T).2.1 ++ [escV d], (sgP [44, 59] T).2.2) from rfl]
  dsimp only
  rw [e3]
  exact ⟨h1, by rw [h2, dQ]; rfl, h3⟩
theorem Ec (T : List Tk) : grpS ((sgP [44, 59] T).1 ++ [(sgP [44, 59] T).2.1]) (sgP [44, 59] T).2.2 = (splT 59 T).map lstT := by
 obtain ⟨_, h2, h3⟩ := w9 T
 rw [h3, h2, splT, List.map_append, List.map_cons, qP]
 rfl
end
section
open Go
def bsN (s : List UInt8) : Nat → Nat
 | 0 => 0
 | i + 1 => if (aa s i : Int) = 92 then bsN s i + 1 else 0
theorem wz (s : List UInt8) : ∀ i, bsN s i ≤ i
 | 0 => Nat.le_refl _
 | i + 1 => by
  have := wz s i
  unfold bsN
  split <;> omega
theorem CI (s : List UInt8) : ∀ i n, n < bsN s i → (aa s (i - n - 1) : Int) = 92
 | 0, n, h => absurd h (Nat.not_lt_zero _)
 | i + 1, n, h => by
  unfold bsN at h
  split at h
  ·rename_i hb
   cases n with
   | zero => exact hb
   | succ n =>
    rw [show i + 1 - (n + 1) - 1 = i - n - 1 by omega]
    exact CI s i n (by omega)
  ·exact absurd h (Nat.not_lt_zero _)
theorem ud (s : List UInt8) : ∀ i, bsN s i = i ∨ (aa s (i - bsN s i - 1) : Int) ≠ 92
 | 0 => .inl rfl
 | i + 1 => by
  rcases ud s i with h | h
  ·unfold bsN
   split
   ·left; rw [h]
   ·rename_i hb; exact .inr hb
  ·unfold bsN
   split
   ·right
    rw [show i + 1 - (bsN s i + 1) - 1 = i - bsN s i - 1 by omega]
    exact h
   ·rename_i hb; exact .inr hb
def CutP (s : List UInt8) (c : UInt8) (i : Nat) (out : List (List UInt8)) (fr : Nat) : Prop := i ≤ s.length ∧ fr ≤ i ∧ out.length ≤ i ∧ stB c (s.take i) = (out, (s.take i).drop fr, decide (bsN s i % 2 = 1))
theorem zz (s : List UInt8) (c : UInt8) : CutP s c 0 [] 0 := ⟨Nat.zero_le _, Nat.le_refl _, Nat.le_refl _, rfl⟩
theorem sX (s : List UInt8) {i : Nat} (h : i < s.length) : (s[i] == 92 && !decide (bsN s i % 2 = 1)) = decide (bsN s (i + 1) % 2 = 1) := by
 have e : (s[i] == 92) = decide ((aa s i : Int) = 92) := by
  rw [Bool.eq_iff_iff, beq_iff_eq, decide_eq_true_eq, ff h]; rfl
 rw [e]
 rw [show bsN s (i + 1) = if (aa s i : Int) = 92 then bsN s i + 1 else 0 from rfl]
 by_cases hb : (aa s i : Int) = 92
 ·simp only [hb, decide_true, Bool.true_and, if_true]
  rw [Bool.eq_iff_iff]
  simp only [Bool.not_eq_true', decide_eq_false_iff_not, decide_eq_true_eq]
  omega
 ·simp [hb]
theorem Cn {s : List UInt8} {c : UInt8} {i fr : Nat} {out : List (List UInt8)} (h : CutP s c i out fr) (hi : i < s.length) (hb : (aa s i : Int) = c.toNat) (he : bsN s i % 2 = 0) : CutP s c (i + 1) (out ++ [(s.take i).drop fr]) (i + 1) := by
 obtain ⟨_, h1, h0, h2⟩ := h
 have hb := (ff hi).2 hb
 refine ⟨hi, Nat.le_refl _, by simp; omega, ?_⟩
 rw [List.take_succ_eq_append_getElem hi, iw, h2]
 unfold ir
 rw [if_pos ⟨hb, by simp [he]⟩]
 rw [sX s hi]
 simp
theorem En {s : List UInt8} {c : UInt8} {i fr : Nat} {out : List (List UInt8)} (h : CutP s c i out fr) (hi : i < s.length) (hb : ¬ ((aa s i : Int) = c.toNat ∧ bsN s i % 2 = 0)) : CutP s c (i + 1) out fr := by
 obtain ⟨_, h1, h0, h2⟩ := h
 refine ⟨hi, by omega, by omega, ?_⟩
 rw [List.take_succ_eq_append_getElem hi, iw, h2]
 unfold ir
 rw [if_neg ?_]
 ·rw [sX s hi, List.drop_append_of_le_length (by rw [List.length_take]; omega)]
 ·rintro ⟨k1, k2⟩
  refine hb ⟨(ff hi).1 k1, ?_⟩
  have : ¬ bsN s i % 2 = 1 := by simpa using k2
  omega
theorem Cm {s : List UInt8} {c : UInt8} {i fr : Nat} {out : List (List UInt8)} (h : CutP s c i out fr) (hi : s.length ≤ i) : cutL c s = out ++ [s.drop fr] := by
 obtain ⟨_, h1, h0, h2⟩ := h
 rw [List.take_of_length_le hi] at h2
 unfold cutL
 rw [h2]
end
end Go.Proofs.YtkelbglfhigmiaaGreatDoor
