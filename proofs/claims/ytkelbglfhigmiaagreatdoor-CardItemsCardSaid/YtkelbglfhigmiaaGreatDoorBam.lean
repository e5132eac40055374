/- Parts of the proof of cardItems_card: Wpf, Vrb, Vrc, Cib, Und, Whe, Wpg, Wph, Wpi. -/
import Derived.Lib.Replace
import Derived.Lib.IndexBytes
import Derived.Test.YtkelbglfhigmiaaGreatDoorBal
import Derived.Test.YtkelbglfhigmiaaGreatDoorBaj
import Derived.Test.YtkelbglfhigmiaaGreatDoorBai
import Derived.Test.YtkelbglfhigmiaaGreatDoorBak
import Derived.Test.YtkelbglfhigmiaaGreatDoorBah
import Derived.Test.YtkelbglfhigmiaaGreatDoorBag
import Derived.Test.YtkelbglfhigmiaaGreatDoorBad
set_option linter.unusedVariables false
set_option linter.unusedSimpArgs false
set_option linter.unusedSectionVars false
namespace Go.Proofs.YtkelbglfhigmiaaGreatDoor
set_option maxRecDepth 20000
set_option maxHeartbeats 4000000
section
open Go Go.RowKit
theorem EI (t : Stm) : (t.E = .none ∧ t.e = 0) ∨ ∃ x, x ≠ 0 ∧ t.E = .errno x ∧ t.e = x := by
 unfold Stm.E Stm.e
 (repeat' split)
 ·exact .inl ⟨rfl, rfl⟩
 ·exact .inr ⟨2, by decide, rfl, rfl⟩
 ·exact .inr ⟨3, by decide, rfl, rfl⟩
theorem GY {t : Stm} (h : t.e = 0) : finP t = (t, .none) := by unfold finP; rw [if_pos h]
theorem GX {t : Stm} {x : Int} (h : t.e = x) (hx : x ≠ 0) : finP t = (Stm.no, .errno x) := by unfold finP; rw [if_neg (by rw [h]; exact hx), h]
theorem yi {s : List UInt8} {c : Int} (h : (cutB s c).2.2 = false) : (cutB s c).2.1 = [] := by
 unfold cutB at *
 split
 ·rfl
 ·rename_i h1
  rw [if_neg h1] at h
  cases h
theorem tS (s : List UInt8) (c : Int) : (cutB s c).1.length ≤ s.length ∧ (cutB s c).2.1.length ≤ s.length := by
 unfold cutB
 split
 ·simp
 ·simp only [List.length_take, List.length_drop]; omega
theorem EN {d t : List UInt8} {b : Bool} (h : dIx d = 7) : whR d b t = (Stm.no, .errno 3) := by unfold whR; rw [if_pos h]
theorem EL {d t : List UInt8} (h : dIx d ≠ 7) : whR d false t = finP (whS (dIx d) d 0 [] []) := by unfold whR; rw [if_neg h, if_pos rfl]
theorem zW {d t : List UInt8} (h : dIx d ≠ 7) (h0 : splJ t = 0) : whR d true t = (Stm.no, .errno 3) := by unfold whR; rw [if_neg h, if_neg (by decide), if_pos h0]
theorem Az : splJ [] = 0 := by
 refine Decidable.byContradiction fun h => ?_
 have g := qi h
 have h1 := g.hn
 have h2 := (ri g.j1 g.j6).1
 rw [← g.len] at h2
 simp at h1
 omega
theorem C9 {d t : List UInt8} {k : Nat} (h : dIx d ≠ 7) (hk : KAt t k) (hc : cIx (t.take k) = 7) : whR d true t = (Stm.no, .errno 3) := by
 have hn : ∀ j, 1 ≤ j → j ≤ 6 → shpS (t.take k) ≠ clkF j := fun j h1 h6 e => by
  rw [wu h1 h6 e] at hc
  omega
 rcases Ax hk hn with h0 | ⟨h0, h1, h2⟩
 ·exact zW h h0
 ·unfold whR
  rw [if_neg h, if_neg (by decide), if_neg h0, if_pos ⟨fun e => by have := congrArg List.length e; rw [List.length_drop, List.length_nil] at this; omega, by rw [h2]; decide⟩, h2]
theorem GF {d t : List UInt8} {k j : Nat} (h : dIx d ≠ 7) (hk : KAt t k) (h1 : 1 ≤ j) (h6 : j ≤ 6) (hs : shpS (t.take k) = clkF j) (hl : k < t.length) (hz : (aS (t.drop k)).2 ≠ 0) : whR d true t = (Stm.no, .errno (aS (t.drop k)).2) := by
 obtain ⟨e1, e2⟩ := r6 hk h1 h6 hs
 unfold whR
 rw [if_neg h, if_neg (by decide), if_neg (by omega), e2, if_pos ⟨fun e => by have := congrArg List.length e; rw [List.length_drop, List.length_nil] at this; omega, hz⟩]
theorem zV {d t : List UInt8} {k j : Nat} (h : dIx d ≠ 7) (hk : KAt t k) (h1 : 1 ≤ j) (h6 : j ≤ 6) (hs : shpS (t.take k) = clkF j) (hz : k < t.length → (aS (t.drop k)).2 = 0) : whR d true t = finP (whS (dIx d) d j (t.take k) (t.drop k)) := by
 obtain ⟨e1, e2⟩ := r6 hk h1 h6 hs
 unfold whR
 rw [if_neg h, if_neg (by decide), if_neg (by omega), e1, e2, if_neg]
 rintro ⟨g1, g2⟩
 rcases Nat.lt_or_ge k t.length with g | g
 ·exact g2 (hz g)
 ·exact g1 (List.drop_eq_nil_of_le g)
theorem zT {i j : Nat} {d c z : List UInt8} (h : z ≠ []) : whS i d j c z = ⟨dY i d, dM i d, dD i d, cH j c, cI j c, cS j c, true, (aS z).1⟩ := by
 unfold whS
 rw [if_neg h, decide_eq_true h]
theorem zU {i j : Nat} {d c : List UInt8} : whS i d j c [] = ⟨dY i d, dM i d, dD i d, cH j c, cI j c, cS j c, false, 0⟩ := rfl
theorem uq (z : List UInt8) : (dp z = .none ∧ (aS z).2 = 0) ∨ ∃ e, e ≠ 0 ∧ dp z = .errno e ∧ (aS z).2 = e := by
 unfold dp
 by_cases h : (aS z).2 = 0
 ·rw [if_pos h]; exact .inl ⟨rfl, h⟩
 ·rw [if_neg h]; exact .inr ⟨_, h, rfl, rfl⟩
def zAt (t : List UInt8) : Int := if 0 ≤ Lib.indexAny t [90, 43] then Lib.indexAny t [90, 43] else if 2 ≤ dk t 45 t.length then dk t 45 t.length else t.length
theorem nX (t : List UInt8) : (Lib.indexAny t [90, 43] = -1 ∧ ∀ j, j < t.length → aa t j ≠ 90 ∧ aa t j ≠ 43) ∨ ∃ m, m < t.length ∧ Lib.indexAny t [90, 43] = (m : Int) ∧ (aa t m = 90 ∨ aa t m = 43) ∧ ∀ j, j < m → aa t j ≠ 90 ∧ aa t j ≠ 43 := by
 have key : ∀ j (hj : j < t.length), ([90, 43] : List UInt8).contains t[j] = true ↔ (aa t j = 90 ∨ aa t j = 43) := by
  intro j hj
  rw [aW hj, List.contains_iff_mem]
  simp only [List.mem_cons, List.not_mem_nil, or_false]
  constructor
  ·rintro (h | h) <;> rw [h]
   ·exact .inl rfl
   ·exact .inr rfl
  ·rintro (h | h)
   ·exact .inl (UInt8.toNat_inj.1 h)
   ·exact .inr (UInt8.toNat_inj.1 h)
 by_cases h : ∃ m, m < t.length ∧ (aa t m = 90 ∨ aa t m = 43) ∧ ∀ j, j < m → aa t j ≠ 90 ∧ aa t j ≠ 43
 ·obtain ⟨m, h1, h2, h3⟩ := h
  refine .inr ⟨m, h1, ?_, h2, h3⟩
  refine Lib.indexAny_hit (fun j x hj hx => ?_) (List.getElem?_eq_getElem h1) ((key m h1).2 h2)
  obtain ⟨hj', rfl⟩ := List.getElem?_eq_some_iff.1 hx
  rw [Bool.eq_false_iff]
  intro hc
  have := (key j hj').1 hc
  have := h3 j hj
  omega
 ·have hn : ∀ n, n ≤ t.length → ∀ j, j < n → aa t j ≠ 90 ∧ aa t j ≠ 43 := by
   intro n
   induction n with
   | zero => intro _ j hj; omega
   | succ n ih =>
    intro hl j hj
    rcases Nat.lt_or_ge j n with g | g
    ·exact ih (by omega) j g
    ·refine Decidable.byContradiction fun hc => h ⟨n, by omega, ?_, ih (by omega)⟩
     rw [show j = n by omega] at hc
     omega
  refine .inl ⟨Lib.indexAny_none fun j x hj hx => ?_, hn _ (Nat.le_refl _)⟩
  obtain ⟨hj', rfl⟩ := List.getElem?_eq_some_iff.1 hx
  rw [Bool.eq_false_iff]
  intro hc
  have := (key j hj').1 hc
  have := hn _ (Nat.le_refl _) j hj'
  omega
theorem GD (t : List UInt8) : ∃ k : Nat, zAt t = k ∧ KAt t k := by
 unfold zAt KAt
 rcases nX t with ⟨h1, h2⟩ | ⟨m, h1, h2, h3, h4⟩
 ·rw [h1, if_neg (by decide)]
  rcases l3 t 45 t.length with ⟨g1, g2⟩ | ⟨m, g1, g2, g3, g4⟩
  ·rw [g1, if_neg (by decide)]
   exact ⟨_, rfl, .inr ⟨h2, .inr ⟨rfl, fun j _ hj => by have := g2 j hj; omega⟩⟩⟩
  ·rw [g2]
   split
   ·exact ⟨m, rfl, .inr ⟨h2, .inl ⟨g1, by omega, by omega, fun j k1 k2 => by have := g4 j k1 k2; omega⟩⟩⟩
   ·exact ⟨_, rfl, .inr ⟨h2, .inr ⟨rfl, fun j k1 k2 => by have := g4 j (by omega) k2; omega⟩⟩⟩
 ·rw [h2, if_pos (by omega)]
  exact ⟨m, rfl, .inl ⟨h1, h3, h4⟩⟩
attribute [local irreducible] AWp AOps aa ax OrOk ab ae
attribute [local irreducible] shpS bI dIx cIx whR whS finP cutB aS dp dk KAt
attribute [local irreducible] Lib.indexAny
theorem uw {G : Glo} {m : Int} (hU : ab G utfTy) (hM : ab G (ce m)) (s : List UInt8) (hl : s.length ≤ 10000) : FnIs Tryz.prog G 65 [.str s] (.tuple [(whP s).1.A, (whP s).2.A]) := by
  have k1 : FnIs Tryz.prog G 99 [.str s, .str [84]] (.tuple [.str (cutB s 84).1, .str (cutB s 84).2.1, .bool (cutB s 84).2.2]) := mf s 84 (by omega)
  have hn := yi (s := s) (c := 84)
  have hlen := tS s 84
  unfold whP
  generalize (cutB s 84).1 = d at *
  generalize (cutB s 84).2.1 = t at *
  generalize (cutB s 84).2.2 = timed at *
  have hD := fun b => yx (G := G) hU b d (by omega) (-1) (-1) (-1) false 0
  have hR := fun u => uv (G := G) hM u
  have k2 := qX (G := G) (a := 90) (b := 43) (by decide) (by decide) t (by omega)
  have k3 := il (G := G) t 45 (by decide) (by decide) (by omega)
  have hZ := fun x h => mP (G := G) x h
  have hC4 := fun b x h => uu (G := G) hU b x h (dY (dIx d) d) (dM (dIx d) d) (dD (dIx d) d) false 0
  have hGL : ab G [] := ad
  refine fn_a Tryz.func65 Tryz.call65 rfl rfl rfl rfl ?_
  intro C hC
  refine cuty hC hGL (fun b2 : Nat => [(0, .str s), (2, .own 0 (pW b2))]) (fun b2 => [stC b2 0 0 0 0 0 0 false 0]) (fun _ => True) ?_ fun b2 _ => ?_
  · refine xw1 ?_
    intro b2
    exact cy b2 trivial
  refine cuty hC hGL (fun b4 : Nat => [(0, .str s), (2, .own 0 (pW b2)), (4, .own 1 (pW b4))]) (fun b4 => [stC b2 0 0 0 0 0 0 false 0, stC b4 (-1) (-1) (-1) (-1) (-1) (-1) false 0]) (fun _ => True) ?_ fun b4 _ => ?_
  · refine xw1 ?_
    intro b4
    exact cy b4 trivial
  refine cut hC hGL [(2, .own 0 (pW b2)), (4, .own 1 (pW b4)), (5, .str d), (6, .str t), (7, .bool timed)] [stC b2 0 0 0 0 0 0 false 0, stC b4 (-1) (-1) (-1) (-1) (-1) (-1) false 0] True xw0 fun _ => ?_
  refine cut hC hGL [(2, .own 0 (pW b2)), (4, .own 1 (pW b4)), (6, .str t), (7, .bool timed)] [stC b2 0 0 0 0 0 0 false 0, stC b4 (dY (dIx d) d) (dM (dIx d) d) (dD (dIx d) d) (-1) (-1) (-1) false 0] (dIx d ≠ 7 ∧ (timed = true → t ≠ [])) ?_ fun hd => ?_
  · refine xw1 ?_
    refine ap (i := 1) rfl (hD b4) ?_
    by_cases h7 : dIx d = 7
    · rw [EN h7, h7]
      exact xw0
    · rw [show decide (dIx d ≠ 7) = true from decide_eq_true h7]
      cases timed with
      | false =>
        obtain rfl := hn rfl
        refine xw ?_
        repeat' (first | exact Le.n | refine Lc.mk ?_ ?_)
        all_goals intros
        all_goals first
          | (exfalso; rename_i wb; rw [dU.2 rfl] at wb; cases wb; done)
          | exact ⟨h7, fun h => by cases h⟩
          | skip
      | true =>
        refine xw ?_
        repeat' (first | exact Le.n | refine Lc.mk ?_ ?_)
        all_goals intros
        all_goals first
          | (rename_i wb
             have e : t = [] := dU.1 (by simpa using wb)
             subst e
             rw [zW h7 Az]
             exact rt_w)
          | (rename_i wb
             exact ⟨h7, fun _ => nc.1 (by simpa using wb)⟩)
          | skip
  obtain ⟨h7, ht⟩ := hd
  refine cuty hC hGL (fun _ : Stm => [(2, .own 0 (pW b2)), (4, .own 1 (pW b4))]) (fun u => [stC b2 0 0 0 0 0 0 false 0, stC b4 u.y u.m u.d u.h u.i u.s u.z u.o]) (fun u => whR d timed t = finP u) ?_ fun u hu => ?_
  · cases timed with
    | false =>
      refine xw1 ?_
      intros
      exact cy (whS (dIx d) d 0 [] []) (EL h7) aj (by unfold whS; rfl)
    | true =>
      obtain ⟨k, hk, hI⟩ : ∃ k : Nat, KAt t k ∧ ((Lib.indexAny t [90, 43] = (k : Int)) ∨ (Lib.indexAny t [90, 43] = -1 ∧ dk t 45 t.length = (k : Int) ∧ 2 ≤ k) ∨ (Lib.indexAny t [90, 43] = -1 ∧ dk t 45 t.length < 2 ∧ k = t.length)) := by
        obtain ⟨k, h1, h2⟩ := GD t
        refine ⟨k, h2, ?_⟩
        have g1 := Lib.indexAny_ge [90, 43] t
        unfold zAt at h1
        split at h1
        · exact .inl h1
        · split at h1
          · exact .inr (.inl ⟨by omega, h1, by omega⟩)
          · exact .inr (.inr ⟨by omega, by omega, by omega⟩)
      have hkl := vK hk
      have hc := And.intro trivial (hC4 b4 (t.take k) (by rw [List.length_take]; omega))
      have hz := hZ (t.drop k) (by rw [List.length_drop]; omega)
      generalize Lib.indexAny t [90, 43] = ia at *
      generalize dk t 45 t.length = ib at *
      have key : ∀ j, cIx (t.take k) = j → 1 ≤ j ∧ j ≤ 6 ∧ shpS (t.take k) = clkF j ∨ j = 7 := by
        rintro j rfl
        rcases p4 (t.take k) with ⟨h, _⟩ | ⟨j, h1, h2, h3, h4⟩
        · exact .inr h
        · rw [h3]; exact .inl ⟨h1, h2, h4⟩
      generalize hj : cIx (t.take k) = j at *
      have hzc := uq (t.drop k)
      have hdr : k < t.length → t.drop k ≠ [] := fun h e => by
        have := congrArg List.length e
        rw [List.length_drop, List.length_nil] at this
        omega
      rcases hI with rfl | ⟨rfl, rfl, hI⟩ | ⟨rfl, hI, hI2⟩
      all_goals (
        refine xw1 ?_
        intros
        try (have hI3 : (t.length : Int) = (k : Int) := by omega))
      all_goals (
        try (rw [← hI2])
        refine ap (i := 1) rfl hc.2 ?_
        rcases key j rfl with ⟨j1, j6, js⟩ | rfl)
      all_goals first
        | (rw [C9 h7 hk hj]
           exact xw0)
        | skip
      all_goals (
        rw [show decide (j ≠ 7) = true from decide_eq_true (by omega)]
        by_cases hkt : k < t.length
        · first
          | (exfalso; omega)
          | (have hdr := hdr hkt
             rcases hzc with ⟨z1, z2⟩ | ⟨e, e0, z1, z2⟩
             · rw [z1] at hz
               refine xw1 ?_
               intros
               exact cy ⟨dY (dIx d) d, dM (dIx d) d, dD (dIx d) d, cH j (t.take k), cI j (t.take k), cS j (t.take k), true, (aS (t.drop k)).1⟩ (by rw [zV h7 hk j1 j6 js (fun _ => z2), zT hdr])
             · rw [z1] at hz
               rw [GF h7 hk j1 j6 js hkt (by rw [z2]; exact e0), z2]
               exact xw0)
        · have hd0 : t.drop k = [] := List.drop_eq_nil_of_le (by omega)
          refine xw1 ?_
          intros
          exact cy ⟨dY (dIx d) d, dM (dIx d) d, dD (dIx d) d, cH j (t.take k), cI j (t.take k), cS j (t.take k), false, 0⟩ (by rw [zV h7 hk j1 j6 js (fun h => absurd h hkt), hd0, zU]))
  have hu1 : whR d timed t = finP u := hu
  have hR1 : FnIs Tryz.prog G 104 [.agg [.int .i64 u.y, .int .i64 u.m, .int .i64 u.d, .int .i64 u.h, .int .i64 u.i, .int .i64 u.s, .bool u.z, .int .i64 u.o]] u.E.A := hR u
  rw [hu1]
  rcases EI u with ⟨e1, e2⟩ | ⟨x, x0, e1, e2⟩
  · rw [e1] at hR1
    rw [GY e2]
    exact aH hC hGL xw0
  · rw [e1] at hR1
    rw [GX e2 x0]
    exact aH hC hGL xw0
end
section
open Go Go.RowKit
abbrev vNil : AVal := .raw (.slice none 0 0)
attribute [local irreducible] AWp AOps aa ax OrOk ab ae
abbrev vlQ (v : Vl) (q : AVal) : AVal := .agg [.int .i64 v.t, .str v.s, q, .int .i64 v.st.y, .int .i64 v.st.m, .int .i64 v.st.d, .int .i64 v.st.h, .int .i64 v.st.i, .int .i64 v.st.s, .bool v.st.z, .int .i64 v.st.o, .int .i64 v.n]
attribute [local irreducible] hdC hdB badI unS lstS prtS errT uriE ij whP aS dp prtF lstA
def vrQ (s : List UInt8) (k : Int) (r : ARes) (H : Heap) : Prop :=
 (∃ q, r = .ret (.tuple [vlQ (vrV s k).1 q, (vrV s k).2.A]) ∧ H = [] ∧ ((q = vNil ∧ (vrV s k).1.L = []) ∨ (q = .list 1 (prtS s).length (prtF (prtS s)) ∧ (vrV s k).1.L = prtS s))) ∨
 (∃ g, r = .ret (.tuple [vlQ (vrV s k).1 (.list 1 1 g), .raw .nilIface]) ∧ g 0 = .list 1 (lstS s).length (aO (lstS s)) ∧ (vrV s k).1.L = [lstS s] ∧ (vrV s k).2 = .none ∧ H = [])
theorem rL {G : Glo} {m : Int} (hU : ab G utfTy) (hM : ab G (ce m)) (s : List UInt8) (k : Int) (hl : s.length ≤ 3000) : ae Tryz.prog G 19 [.str s, .int .i64 k] [] (vrQ s k) := by
 have hH := rM (G := G) s false (by omega)
 have hGL : ab G [] := ad
 refine fn_x Tryz.func19 Tryz.call19 rfl rfl rfl rfl hGL ?_
 intro C hC
 by_cases hk : k < 1 ∨ 9 ≤ k
 ·have e : vrV s k = (Vl.no, .errno 1) := by unfold vrV; rw [if_pos hk]
  unfold vrQ
  rw [e]
  refine xw ?_
  repeat' (first | exact Le.n | refine Lc.mk ?_ ?_)
  all_goals intros
  all_goals exact ⟨[], List.nil_sublist _, .inl ⟨vNil, rfl, rfl, .inl ⟨rfl, rfl⟩⟩⟩
 cases hh : hdB false s with
 | false =>
  have e : vrV s k = (Vl.no, .errno 3) := by unfold vrV; rw [if_neg hk, if_pos hh]
  unfold vrQ
  rw [e]
  rw [hh] at hH
  refine xw ?_
  repeat' (first | exact Le.n | refine Lc.mk ?_ ?_)
  all_goals intros
  all_goals exact ⟨[], List.nil_sublist _, .inl ⟨vNil, rfl, rfl, .inl ⟨rfl, rfl⟩⟩⟩
 | true =>
  rw [hh] at hH
  have hv : vrV s k = (match (vrG s k).2 with | .none => vrG s k | e => (Vl.no, e)) := by unfold vrV; rw [if_neg hk, if_neg (by rw [hh]; decide)]; cases (vrG s k).2 <;> rfl
  have h1 := oC (G := G) s (by omega)
  have h2 := yI (G := G) s (by omega)
  have h3 := uF (G := G) s (by omega)
  have h4 := yz (G := G) s (by omega)
  have h5 := uw (G := G) hU hM s (by omega)
  have h6 := mP (G := G) s (by omega)
  have h7 := vI (G := G) s (by omega)
  unfold vrQ
  rw [hv]
  rcases (show k = 1 ∨ k = 2 ∨ k = 3 ∨ k = 4 ∨ k = 5 ∨ k = 6 ∨ k = 7 ∨ k = 8 by omega) with rfl | rfl | rfl | rfl | rfl | rfl | rfl | rfl
  all_goals simp only [vrG, if_pos, if_neg, Int.reduceEq, reduceIte]
  ·rcases hq : errT s 0 with _ | e | ⟨e, p⟩
   all_goals
    rw [hq] at h1
    simp only [Err.A, errA] at h1
    refine xw1 ?_
    intros
    exact ⟨[], List.nil_sublist _, .inl ⟨vNil, rfl, rfl, .inl ⟨rfl, rfl⟩⟩⟩
  ·rcases hq : errT s 0 with _ | e | ⟨e, p⟩
   all_goals
    rw [hq] at h2
    simp only [Err.A, errA] at h2
    refine xn1 ?_
    intros
    first
     | exact ⟨[], List.nil_sublist _, .inl ⟨vNil, rfl, rfl, .inl ⟨rfl, rfl⟩⟩⟩
     | exact ⟨[], List.nil_sublist _, .inr ⟨_, rfl, rfl, rfl, rfl, rfl⟩⟩
  ·rcases hq : errT s 0 with _ | e | ⟨e, p⟩
   all_goals
    rw [hq] at h3
    simp only [Err.A, errA] at h3
    refine xw1 ?_
    intros
    first
     | exact ⟨[], List.nil_sublist _, .inl ⟨_, rfl, rfl, .inr ⟨rfl, rfl⟩⟩⟩
     | exact ⟨[], List.nil_sublist _, .inl ⟨vNil, rfl, rfl, .inl ⟨rfl, rfl⟩⟩⟩
  ·rcases hq : uriE s with _ | e | ⟨e, p⟩
   all_goals
    rw [hq] at h4
    simp only [Err.A, errA] at h4
    refine xw1 ?_
    intros
    exact ⟨[], List.nil_sublist _, .inl ⟨vNil, rfl, rfl, .inl ⟨rfl, rfl⟩⟩⟩
  ·rcases hq : (whP s).2 with _ | e | ⟨e, p⟩
   all_goals
    rw [hq] at h5
    simp only [Err.A, errA] at h5
    generalize (whP s).1 = t at *
    refine xw1 ?_
    intros
    exact ⟨[], List.nil_sublist _, .inl ⟨vNil, rfl, rfl, .inl ⟨rfl, rfl⟩⟩⟩
  ·rcases hq : dp s with _ | e | ⟨e, p⟩
   all_goals
    rw [hq] at h6
    simp only [Err.A, errA] at h6
    refine xw1 ?_
    intros
    exact ⟨[], List.nil_sublist _, .inl ⟨vNil, rfl, rfl, .inl ⟨rfl, rfl⟩⟩⟩
  ·rcases hq : ij s with _ | e | ⟨e, p⟩
   all_goals
    rw [hq] at h7
    simp only [Err.A, errA] at h7
    refine xw1 ?_
    intros
    exact ⟨[], List.nil_sublist _, .inl ⟨vNil, rfl, rfl, .inl ⟨rfl, rfl⟩⟩⟩
  ·refine xw1 ?_
   intros
   exact ⟨[], List.nil_sublist _, .inl ⟨vNil, rfl, rfl, .inl ⟨rfl, trivial⟩⟩⟩
end
section
open Go Go.RowKit
def Vl.R (v : Vl) : AVal := vlQ v (.list 1 v.L.length (prtF v.L))
theorem nL {R : Seal} {sz n : Nat} {f g : Nat → AVal} {u : Value} (h : ∀ i, i < n → f i = g i) : RelC R (.list sz n f) [u] → RelC R (.list sz n g) [u] := by
 rintro ⟨a, cap, e, hle, y⟩
 refine ⟨a, cap, e, hle, ?_⟩
 rcases y with y | ⟨b, o, C, el, fz, ha, hR, hi⟩
 ·exact .inl y
 ·exact .inr ⟨b, o, C, el, fz, ha, hR, fun i hn => by rw [← h i hn]; exact hi i hn⟩
def LsT (L : List (List (List UInt8))) (q : AVal) : Prop := (q = vNil ∧ L = []) ∨ q = .list 1 L.length (prtF L) ∨ ∃ l g, q = .list 1 1 g ∧ g 0 = lstA l ∧ L = [l]
theorem my {v : Vl} {q B : AVal} (h : LsT v.L q) : yu (.ret (.tuple [vlQ v q, B])) [] (.tuple [v.R, B]) := by
 rintro C R w e' hm ⟨x, rfl, hx⟩
 refine ⟨R, hm, x, rfl, fy (Seal.le_refl R) hx fun u hu => ?_⟩
 rcases h with ⟨rfl, hL⟩ | rfl | ⟨l, g, rfl, hg, hL⟩
 ·have e : v.R = vlQ v (.list 1 0 (prtF [])) := by unfold Vl.R; rw [hL]; rfl
  rw [e]
  exact ef (p := 2) (a' := .list 1 0 (prtF [])) (Seal.le_refl R) hu rfl (fun v => iF)
 ·exact hu
 ·have e : v.R = vlQ v (.list 1 1 (prtF [l])) := by unfold Vl.R; rw [hL]; rfl
  rw [e]
  refine ef (p := 2) (a' := .list 1 1 (prtF [l])) (Seal.le_refl R) hu rfl (fun v => nL fun i hi => ?_)
  obtain rfl : i = 0 := by omega
  rw [hg]; rfl
theorem ux {G : Glo} {m : Int} (hU : ab G utfTy) (hM : ab G (ce m)) (s : List UInt8) (k : Int) (hl : s.length ≤ 3000) : FnIs Tryz.prog G 19 [.str s, .int .i64 k] (.tuple [(vrV s k).1.R, (vrV s k).2.A]) := by
 refine dz (rL hU hM s k hl) ?_
 rintro r H (⟨q, rfl, rfl, ⟨rfl, hL⟩ | ⟨rfl, hL⟩⟩ | ⟨g, rfl, hg, hL, he, rfl⟩)
 ·exact my (.inl ⟨rfl, hL⟩)
 ·exact my (.inr (.inl (by rw [hL])))
 ·rw [he]
  exact my (.inr (.inr ⟨lstS s, g, rfl, hg, hL⟩))
end
section
open Go Go.RowKit
theorem BG (c : Bool) (s : List UInt8) (e : Int) : lpE c s ≠ .errno e := by
 unfold lpE
 split <;> exact fun h => by cases h
abbrev itC (b : Nat) (p : Ln) (v : Vl) (q1 q2 : AVal) : HEnt := .cells b (some 32) [.str p.g, .str p.n, q1, .int .i64 v.t, .str v.s, q2, .int .i64 v.st.y, .int .i64 v.st.m, .int .i64 v.st.d, .int .i64 v.st.h, .int .i64 v.st.i, .int .i64 v.st.s, .bool v.st.z, .int .i64 v.st.o, .int .i64 v.n]
abbrev itQ (p : Ln) (v : Vl) (q1 q2 : AVal) : AVal := .agg [.str p.g, .str p.n, q1, .int .i64 v.t, .str v.s, q2, .int .i64 v.st.y, .int .i64 v.st.m, .int .i64 v.st.d, .int .i64 v.st.h, .int .i64 v.st.i, .int .i64 v.st.s, .bool v.st.z, .int .i64 v.st.o, .int .i64 v.n]
def itA (p : Ln) (v : Vl) : AVal := itQ p v (.list 2 p.ps.length (prF p.ps)) (.list 1 v.L.length (prtF v.L))
abbrev liP (l : LineS) : AVal := .rop [.str l.t, .int .i64 l.a, .list 1 l.f.length (nV l.f)] 0
abbrev iN : AVal := .raw (.slice none 0 0)
abbrev iAt (b : Nat) : Value := .pointer (some ⟨b, 0, none⟩)
abbrev vlD (b : Nat) (v : Vl) : HEnt := .cells b (some 30) [.int .i64 v.t, .str v.s, .list 1 v.L.length (prtF v.L), .int .i64 v.st.y, .int .i64 v.st.m, .int .i64 v.st.d, .int .i64 v.st.h, .int .i64 v.st.i, .int .i64 v.st.s, .bool v.st.z, .int .i64 v.st.o, .int .i64 v.n]
def ciQ (v : Int) (l : LineS) (x : AVal) (r : ARes) (H : Heap) : Prop := ∃ q1 q2, r = .ret (.tuple [itQ (ciL v l).1 (ciL v l).2 q1 q2, x]) ∧ H = [] ∧ ((q1 = iN ∧ q2 = iN ∧ ciL v l = (Ln.no, Vl.no)) ∨ (q1 = .list 2 (ciL v l).1.ps.length (prF (ciL v l).1.ps) ∧ q2 = .list 1 (ciL v l).2.L.length (prtF (ciL v l).2.L)))
theorem yl {v : Int} {l : LineS} {x : AVal} {r : ARes} {H : Heap} (h : ciQ v l x r H) : yu r H (.tuple [itA (ciL v l).1 (ciL v l).2, x]) := by
 obtain ⟨q1, q2, rfl, rfl, h⟩ := h
 rintro C R w e' hm ⟨y, rfl, hx⟩
 refine ⟨R, hm, y, rfl, fy (Seal.le_refl R) hx fun u hu => ?_⟩
 rcases h with ⟨rfl, rfl, hL⟩ | ⟨rfl, rfl⟩
 ·rw [hL] at hu ⊢
  exact ef (p := 5) (a' := .list 1 0 (prtF [])) (Seal.le_refl R) (ef (p := 2) (a' := .list 2 0 (prF [])) (Seal.le_refl R) hu rfl (fun v => iF)) rfl (fun v => iF)
 ·exact hu
theorem qI {n : Nat} {l : List Pr} (h : ∀ q ∈ l, q.in n) (k : Nat) (hn : n ≤ 1000000 := by omega) : (l.getD k Pr.z).n.length ≤ 9223372036854775807 ∧ ((l.getD k Pr.z).vs.length ≤ 9223372036854775807 ∧ ((l.getD k Pr.z).vs.getD 0 []).length ≤ 9223372036854775807) := by
 have h0 : (l.getD k Pr.z).in n := by
  by_cases hk : k < l.length
  ·rw [List.getD_eq_getElem?_getD, List.getElem?_eq_getElem hk]; exact h _ (List.getElem_mem hk)
  ·rw [List.getD_eq_getElem?_getD, List.getElem?_eq_none (by omega)]; exact ⟨Nat.zero_le _, Nat.zero_le _, fun v hv => by cases hv⟩
 obtain ⟨h1, h2, h3⟩ := h0
 refine ⟨by omega, by omega, ?_⟩
 cases hv : (l.getD k Pr.z).vs with
 | nil => exact Nat.zero_le _
 | cons v vs => have := h3 v (by rw [hv]; exact List.mem_cons_self ..); show v.length ≤ _; omega
attribute [local irreducible] AWp AOps aa ax OrOk ab ae
attribute [local irreducible] lpL lpE vrV gt bk prF prtF nV
theorem tW {G : Glo} (v : Int) : FnIs Tryz.prog G 16 [.int .i64 v] (.bool (eqB v 4)) := by
 have hGL : ab G [] := ad
 refine fn_x Tryz.func16 Tryz.call16 rfl rfl rfl rfl hGL ?_
 intro C hC
 exact xw0
theorem wo {G : Glo} {m : Int} (hE : ab G errTy) (hU : ab G utfTy) (hM : ab G (ce m)) (hS : SpIs G) (v : Int) (t : List UInt8) (l : LineS) (hl : l.t.length ≤ 1500) (ht : t.length ≤ 20100) (hb : bndL t l) : ae Tryz.prog G 5 [nO l, .int .i64 v] [] (ciQ v l (ciE v l).A) := by
 have hc := tW (G := G) v
 have h1 := vE (G := G) l.t (eqB v 4) (by omega)
 have hin := vC (eqB v 4) l.t
 have hpl := fun i g0 g1 => vW (G := G) t l i g0 g1 ht hb
 have hGL : ab G [] := ad
 refine fn_a Tryz.func5 Tryz.call5 rfl rfl rfl rfl ?_
 intro C hC
 refine cuty hC hGL (fun x : Nat => [(1, .int .i64 v), (2, liP l), (4, .own 0 (iAt x)), (5, .raw .nilIface)]) (fun x => [itC x Ln.no Vl.no iN iN]) (fun _ => True) ?_ ?_
 ·refine xn1 ?_
  intro b
  intros
  exact cy b trivial
 intro b4 _
 by_cases hv : v = 3 ∨ v = 4
 ·refine cut hC hGL [(1, .int .i64 v), (2, liP l), (4, .own 0 (iAt b4)), (5, .raw .nilIface)] [itC b4 Ln.no Vl.no iN iN] True ?_ fun _ => ?_
  ·rcases hv with rfl | rfl <;> exact xn0
  have hke : lpE (eqB v 4) l.t ≠ .none → ciL v l = (Ln.no, Vl.no) := fun h => by
   unfold ciL ciE
   rw [if_pos hv]
   rcases hq : lpE (eqB v 4) l.t with _ | e | ⟨e, p⟩
   ·exact absurd hq h
   ·rfl
   ·rfl
  rcases hq : lpE (eqB v 4) l.t with _ | e | ⟨e, p⟩
  ·have h2 := u7 (G := G) hS v (lpL (eqB v 4) l.t).n (lpL (eqB v 4) l.t).ps (by omega) (by have := (qR (eqB v 4) l.t).1; omega) (fun k => (qI hin.2.2 k).1) (fun k => (qI hin.2.2 k).2)
   have h3 := ux (G := G) hU hM (lpL (eqB v 4) l.t).v (ciK v l.t) (by omega)
   have hvin := zX (lpL (eqB v 4) l.t).v (ciK v l.t)
   have e3 : ciE v l = (match (ciV v l.t).2 with | .none => .none | x => .at x.e (bk l ((l.t.length : Int) - (lpL (eqB v 4) l.t).v.length + max 0 x.p) l.f.length)) := by unfold ciE; rw [if_pos hv, hq]; rfl
   have e4 : ciL v l = (match ciE v l with | .none => (lpL (eqB v 4) l.t, (ciV v l.t).1) | _ => (Ln.no, Vl.no)) := rfl
   have h4 := CX (G := G) hE (ciV v l.t).2
   rw [hq] at h1
   change FnIs _ _ _ _ (.tuple [.int .i64 (ciK v l.t), _]) at h2
   change FnIs _ _ _ _ (.tuple [(ciV v l.t).1.R, (ciV v l.t).2.A]) at h3
   change (ciV v l.t).2.in _ at hvin
   unfold ciQ
   generalize lpL (eqB v 4) l.t = L at *
   generalize ciV v l.t = V at *
   obtain ⟨V, x⟩ := V
   dsimp only at *
   generalize ciK v l.t = k at *
   generalize (verE v).A = z at *
   refine cuty hC hGL (fun b6 : Nat => [(1, .int .i64 v), (2, liP l), (4, .own 0 (iAt b4)), (5, .raw .nilIface), (6, .own 1 (iAt b6)), (7, AVal.raw .nilIface)]) (fun b6 => [itC b4 Ln.no Vl.no iN iN, .cells b6 (some 45) [.str L.g, .str L.n, .list 2 L.ps.length (prF L.ps), .str L.v]]) (fun _ => True) ?_ ?_
   ·refine xn1 ?_
    intros
    refine dw_p mixed hC hGL false (fun b6 : Nat => [(1, .int .i64 v), (2, liP l), (4, .own 0 (iAt b4)), (5, .raw .nilIface), (6, .own 1 (iAt b6)), (7, AVal.raw .nilIface)]) (fun b6 => [itC b4 Ln.no Vl.no iN iN, .cells b6 (some 45) [.str L.g, .str L.n, .list 2 L.ps.length (prF L.ps), .str L.v]]) (.take 0 (.take 1 (.take 2 (.br 3 (.br 4 (.take 5 (.take 6 (.take 7 (.br 8 (.br 9 (.take 10 (.done)) (.nil)) (.nil))))) (.br 8 (.br 4 (.take 5 (.take 6 (.take 7 (.br 9 (.take 10 (.done)) (.nil))))) (.nil)) (.nil))) (.br 8 (.br 3 (.br 4 (.take 5 (.take 6 (.take 7 (.br 9 (.take 10 (.done)) (.nil))))) (.nil)) (.nil)) (.nil)))))) (by kernel_rfl) ?_ ?_
    ·refine xn ?_
     repeat' (first | exact Le.n | refine Lc.mk ?_ ?_)
     all_goals intros
     all_goals intros
     all_goals exact ⟨_, aj, rfl⟩
    ·intro b6
     refine xn1 ?_
     intros
     exact cy b6 trivial
   intro b6 _
   rcases x with _ | e | ⟨e, p⟩
   ·rw [e4, e3]
    simp only [Err.A] at h3 ⊢
    refine aH hC hGL (xn1 ?_)
    intros
    exact ⟨[], List.nil_sublist _, _, _, rfl, rfl, .inr ⟨rfl, rfl⟩⟩
   ·have hp := hpl ((l.t.length : Int) - L.v.length) (by omega) (by omega)
    have e5 : (l.t.length : Int) - L.v.length + max 0 (Err.errno e).p = (l.t.length : Int) - L.v.length := by show _ + max 0 (-1) = _; omega
    rw [e4, e3]
    dsimp only
    rw [e5]
    simp only [Err.A, Err.e, errA] at h3 h4 ⊢
    refine aH hC hGL (xn1 ?_)
    intros
    rename Nat => b12
    refine dw_p mixed hC hGL false (fun _ : Unit => [(4, .own 0 (iAt b4)), (5, atA e (bk l ((l.t.length : Int) - L.v.length) l.f.length))]) (fun _ => [itC b4 Ln.no Vl.no iN iN, .cells b6 (some 45) [.str L.g, .str L.n, .list 2 L.ps.length (prF L.ps), .str L.v], vlD b12 V]) (.take 0 (.take 1 (.take 3 (.take 4 (.br 2 (.br 5 (.take 6 (.br 7 (.take 8 (.br 9 (.take 10 (.done)) (.nil))) (.br 9 (.br 7 (.take 8 (.take 10 (.done))) (.nil)) (.nil)))) (.nil)) (.nil)))))) (by kernel_rfl) ?_ ?_
    ·refine xn ?_
     repeat' (first | exact Le.n | refine Lc.mk ?_ ?_)
     all_goals intros
     all_goals exact ⟨(), aj, rfl⟩
    intro _
    refine xn1 ?_
    intros
    exact ⟨[], List.nil_sublist _, iN, iN, rfl, rfl, .inl ⟨rfl, rfl, by first | exact rfl | exact trivial⟩⟩
   ·have hvin : 0 ≤ p ∧ p ≤ ((L.v.length + 1 : Nat) : Int) := hvin
    have hp := hpl ((l.t.length : Int) - L.v.length + p) (by omega) (by omega)
    have e5 : max 0 (Err.at e p).p = p := by show max 0 p = p; omega
    rw [e4, e3]
    dsimp only
    rw [e5]
    simp only [Err.A, Err.e, errA] at h3 h4 ⊢
    refine aH hC hGL (xn1 ?_)
    intros
    rename Nat => b12
    refine dw_p mixed hC hGL false (fun _ : Unit => [(4, .own 0 (iAt b4)), (5, atA e (bk l ((l.t.length : Int) - L.v.length + p) l.f.length))]) (fun _ => [itC b4 Ln.no Vl.no iN iN, .cells b6 (some 45) [.str L.g, .str L.n, .list 2 L.ps.length (prF L.ps), .str L.v], vlD b12 V]) (.take 0 (.take 1 (.take 3 (.take 4 (.br 2 (.br 5 (.take 6 (.br 7 (.take 8 (.br 9 (.take 10 (.done)) (.nil))) (.br 9 (.br 7 (.take 8 (.take 10 (.done))) (.nil)) (.nil)))) (.nil)) (.nil)))))) (by kernel_rfl) ?_ ?_
    ·refine xn ?_
     repeat' (first | exact Le.n | refine Lc.mk ?_ ?_)
     all_goals intros
     all_goals exact ⟨(), aj, rfl⟩
    intro _
    refine xn1 ?_
    intros
    exact ⟨[], List.nil_sublist _, iN, iN, rfl, rfl, .inl ⟨rfl, rfl, by first | exact rfl | exact trivial⟩⟩
  ·exact absurd hq (BG _ _ _)
  ·have e1 : ciE v l = .at e (bk l p l.f.length) := by unfold ciE; rw [if_pos hv, hq]; rfl
   have e2 := hke (by rw [hq]; exact fun h => by cases h)
   have hip : 0 ≤ p ∧ p ≤ (l.t.length : Int) := by
    have := BH (eqB v 4) l.t
    rw [hq] at this
    exact this
   have hpl := hpl p hip.1 (by omega)
   unfold ciQ
   rw [e1, e2]
   rw [hq] at h1
   generalize lpL (eqB v 4) l.t = L at *
   simp only [Err.A, errA] at h1 ⊢
   refine cuty hC hGL (fun b6 : Nat => [(1, .int .i64 v), (2, liP l), (4, .own 0 (iAt b4)), (5, .raw .nilIface), (6, .own 1 (iAt b6)), (7, atA e p)]) (fun b6 => [itC b4 Ln.no Vl.no iN iN, .cells b6 (some 45) [.str L.g, .str L.n, .list 2 L.ps.length (prF L.ps), .str L.v]]) (fun _ => True) ?_ ?_
   ·refine xn1 ?_
    intros
    refine dw_p mixed hC hGL false (fun b6 : Nat => [(1, .int .i64 v), (2, liP l), (4, .own 0 (iAt b4)), (5, .raw .nilIface), (6, .own 1 (iAt b6)), (7, atA e p)]) (fun b6 => [itC b4 Ln.no Vl.no iN iN, .cells b6 (some 45) [.str L.g, .str L.n, .list 2 L.ps.length (prF L.ps), .str L.v]]) (.take 0 (.take 1 (.take 2 (.br 3 (.br 4 (.take 5 (.take 6 (.take 7 (.br 8 (.br 9 (.take 10 (.done)) (.nil)) (.nil))))) (.br 8 (.br 4 (.take 5 (.take 6 (.take 7 (.br 9 (.take 10 (.done)) (.nil))))) (.nil)) (.nil))) (.br 8 (.br 3 (.br 4 (.take 5 (.take 6 (.take 7 (.br 9 (.take 10 (.done)) (.nil))))) (.nil)) (.nil)) (.nil)))))) (by kernel_rfl) ?_ ?_
    ·refine xn ?_
     repeat' (first | exact Le.n | refine Lc.mk ?_ ?_)
     all_goals intros
     all_goals intros
     all_goals exact ⟨_, aj, rfl⟩
    ·intro b6
     refine xn1 ?_
     intros
     exact cy b6 trivial
   intro b6 _
   refine aH hC hGL (xn1 ?_)
   intros
   refine dw_p mixed hC hGL false (fun _ : Unit => [(4, .own 0 (iAt b4)), (5, atA e (bk l p l.f.length))]) (fun _ => [itC b4 Ln.no Vl.no iN iN, .cells b6 (some 45) [.str L.g, .str L.n, .list 2 L.ps.length (prF L.ps), .str L.v]]) (.take 0 (.take 1 (.take 2 (.take 3 (.take 4 (.take 5 (.take 6 (.take 7 (.take 8 (.take 9 (.br 10 (.take 11 (.br 12 (.take 13 (.br 14 (.take 15 (.done)) (.nil))) (.br 14 (.br 12 (.take 13 (.take 15 (.done))) (.nil)) (.nil)))) (.nil)))))))))))) (by kernel_rfl) ?_ ?_
   ·refine xn ?_
    repeat' (first | exact Le.n | refine Lc.mk ?_ ?_)
    all_goals intros
    all_goals exact ⟨(), aj, rfl⟩
   intro _
   refine xn1 ?_
   intros
   exact ⟨[], List.nil_sublist _, iN, iN, rfl, rfl, .inl ⟨rfl, rfl, by first | exact rfl | exact trivial⟩⟩
 ·have e1 : ciE v l = .errno 1 := by unfold ciE; rw [if_neg hv]
  have e2 : ciL v l = (Ln.no, Vl.no) := by unfold ciL; rw [e1]
  unfold ciQ
  rw [e1, e2]
  refine aH hC hGL (xn ?_)
  repeat' (first | exact Le.n | refine Lc.mk ?_ ?_)
  all_goals intros
  all_goals exact ⟨[], List.nil_sublist _, iN, iN, rfl, rfl, .inl ⟨rfl, rfl, by first | exact rfl | exact trivial⟩⟩
end
section
open Go Go.RowKit
def outB (c : UInt8) (s : List UInt8) : List UInt8 := s.filter (· != c)
theorem BP : ∀ {s : List UInt8} {c : UInt8}, Lib.indexByte s c = -1 → c ∉ s
 | [], c, _ => by simp
 | x :: t, c, h => by
  have hge := Lib.indexByte_ge t c
  unfold Lib.indexByte at h
  split at h
  ·omega
  ·rename_i hx
   split at h
   ·rename_i h2
    have := BP (beq_iff_eq.1 h2)
    simp only [List.mem_cons, not_or]
    exact ⟨fun e => hx (by simp [e]), this⟩
   ·omega
theorem xR : ∀ {s : List UInt8} {c : UInt8} {i : Nat}, Lib.indexByte s c = i → ∃ t, s = s.take i ++ c :: t ∧ s.drop (i + 1) = t ∧ c ∉ s.take i
 | [], c, i, h => by unfold Lib.indexByte at h; omega
 | x :: t, c, i, h => by
  have hge := Lib.indexByte_ge t c
  unfold Lib.indexByte at h
  split at h
  ·rename_i hx
   obtain rfl : i = 0 := by omega
   have : x = c := by simpa using hx
   subst this
   exact ⟨t, by simp, by simp, by simp⟩
  ·rename_i hx
   split at h
   ·omega
   ·rename_i h2
    have h2 : Lib.indexByte t c ≠ -1 := fun e => h2 (beq_iff_eq.2 e)
    obtain ⟨j, rfl⟩ : ∃ j, i = j + 1 := ⟨i - 1, by omega⟩
    have hj : Lib.indexByte t c = ((j : Nat) : Int) := by push_cast at h; omega
    obtain ⟨u, h1, h2, h3⟩ := xR (s := t) (c := c) (i := j) hj
    refine ⟨u, by rw [List.take_succ_cons, List.cons_append, ← h1], by rw [List.drop_succ_cons]; exact h2, ?_⟩
    rw [List.take_succ_cons, List.mem_cons, not_or]
    exact ⟨fun e => hx (by simp [e]), h3⟩
theorem Bf {s : List UInt8} {c : UInt8} (h : c ∉ s) : outB c s = s := by
 unfold outB
 rw [List.filter_eq_self]
 intro x hx
 simp only [bne_iff_ne, ne_eq]
 rintro rfl
 exact h hx
theorem xj (c : UInt8) : ∀ (f : Nat) (s : List UInt8), s.length < f → Lib.replaceK [c] [] (Lib.countFrom [c] f s) s = outB c s
 | 0, s, h => by omega
 | f + 1, s, h => by
  unfold Lib.countFrom
  have hge := Lib.indexByte_ge s c
  split
  ·rename_i h1
   have h1 := beq_iff_eq.1 h1
   rw [Lib.index_one] at h1
   rw [Lib.replaceK, Bf (BP h1)]
  ·rename_i h1
   rw [Lib.index_one] at h1 ⊢
   obtain ⟨i, hi⟩ : ∃ i : Nat, Lib.indexByte s c = i := ⟨(Lib.indexByte s c).toNat, by
    have : Lib.indexByte s c ≠ -1 := fun e => h1 (beq_iff_eq.2 e)
    omega⟩
   obtain ⟨t, h2, h3, h4⟩ := xR hi
   have hi2 : Lib.index s [c] = (i : Int) := by rw [Lib.index_one]; exact hi
   have hlen : t.length < f := by
    rw [← h3, List.length_drop]
    have := congrArg List.length h2
    simp only [List.length_append, List.length_cons, List.length_take] at this
    omega
   rw [hi, Nat.add_comm 1, Lib.replaceK_hit _ _ _ _ i hi2]
   simp only [Int.toNat_natCast, List.length_cons, List.length_nil, Nat.zero_add, List.append_nil]
   rw [h3, xj c f t hlen]
   conv => rhs; rw [h2]
   have e1 : outB c (s.take i ++ c :: t) = outB c (s.take i) ++ outB c t := by unfold outB; rw [List.filter_append, List.filter_cons]; simp
   rw [e1, Bf h4]
theorem sv (s : List UInt8) (c : UInt8) : Lib.replaceAll s [c] [] = outB c s := by
 unfold Lib.replaceAll Lib.replace Lib.replaceNum Lib.count
 rw [if_neg (by simp), if_pos (.inl (by decide))]
 exact xj c _ s (Nat.lt_succ_self _)
theorem strings_ReplaceAll {G : Glo} {m : Int} (hU : ab G (ce m)) (s : List UInt8) (c : UInt8) (hl : s.length ≤ 1000000) : FnIs Tryz.prog G 81 [.str s, .str [c], .str []] (.str (outB c s)) := by
 refine ci rfl Tryz.call81 ?_
 rintro R args ⟨x, u, e, hx, y, u', e', hy, z, u2, e2, hz, rfl⟩ w hG hs
 obtain rfl := az.1 hx
 obtain rfl := az.1 hy
 obtain rfl := az.1 hz
 subst e2
 subst e'
 obtain rfl := fW e
 refine (Tryz.strings_ReplaceAll ⟨s.toArray⟩ ⟨#[c]⟩ ⟨#[]⟩ m w (by rw [aY]; omega) (kC hU hG hs) (Nat.le_refl 1) (by rw [aY]; show s.length + _ * 0 ≤ _; omega)).mono ?_
 rintro e w' ⟨rfl, hb⟩
 exact ⟨by simp [AVal.conc, sv], hb⟩
end
section
open Go Go.RowKit
set_option maxHeartbeats 8000000
attribute [local irreducible] AWp AOps ax OrOk ab ae
def tstB (t : Stm) : Nat → Bool
 | 0 => witB t.y 0 9999
 | 1 => witB t.m 1 12
 | 2 => witB t.d 1 t.day
 | 3 => witB t.h 0 23
 | 4 => witB t.i 0 59
 | _ => witB t.s 0 59
theorem FE {t : Stm} (h : ∀ j, j < 6 → tstB t j = true) (z : zrB t.o = true) : t.rng = true := by
 have h0 : witB t.y 0 9999 = true := h 0 (by decide)
 have h1 : witB t.m 1 12 = true := h 1 (by decide)
 have h2 : witB t.d 1 t.day = true := h 2 (by decide)
 have h3 : witB t.h 0 23 = true := h 3 (by decide)
 have h4 : witB t.i 0 59 = true := h 4 (by decide)
 have h5 : witB t.s 0 59 = true := h 5 (by decide)
 unfold Stm.rng
 rw [h0, h1, h2, h3, h4, h5, z]
 rfl
theorem ll {t : Stm} (j : Nat) (h : tstB t j = false) : t.rng = false := by
 unfold Stm.rng
 match j, h with
 | 0, h => have h : witB t.y 0 9999 = false := h; simp [h]
 | 1, h => have h : witB t.m 1 12 = false := h; simp [h]
 | 2, h => have h : witB t.d 1 t.day = false := h; simp [h]
 | 3, h => have h : witB t.h 0 23 = false := h; simp [h]
 | 4, h => have h : witB t.i 0 59 = false := h; simp [h]
 | n + 5, h => have h : witB t.s 0 59 = false := h; simp [h]
theorem GN {t : Stm} (z : zrB t.o = false) : t.rng = false := by
 unfold Stm.rng
 rw [z]
 simp
theorem e_3 {t : Stm} (h : ¬ FrmP t.dn t.tn t.z t.h t.o) : t.e = 3 := by
 unfold Stm.e
 rw [if_neg (fun k => h ((jl t).1 k))]
theorem e_2 {t : Stm} (h : FrmP t.dn t.tn t.z t.h t.o) (k : t.rng = false) : t.e = 2 := by
 unfold Stm.e
 rw [if_pos ((jl t).2 h), k]
 rfl
theorem e_0 {t : Stm} (h : FrmP t.dn t.tn t.z t.h t.o) (k : t.rng = true) : t.e = 0 := by
 unfold Stm.e
 rw [if_pos ((jl t).2 h), k]
 rfl
theorem gu {t : Stm} {k : Nat} (h : ∀ j, j < k → tstB t j = true) (hk : tstB t k = true) : ∀ j, j < k + 1 → tstB t j = true := by
 intro j hj
 rcases Nat.lt_or_ge j k with g | g
 ·exact h j g
 ·rw [show j = k by omega]
  exact hk
theorem Gy {p q : Prop} [Decidable p] [Decidable q] : ((decide p && decide q) = true) ↔ p ∧ q := by simp
theorem Gz {p q : Prop} [Decidable p] [Decidable q] : ((decide p && decide q) = false) ↔ ¬ (p ∧ q) := by simp
theorem wT {n lo hi : Int} (h : n = -1 ∨ lo ≤ n ∧ n ≤ hi) : witB n lo hi = true := zS.2 h
theorem wF {n lo hi : Int} (h : ¬ (n = -1 ∨ lo ≤ n ∧ n ≤ hi)) : witB n lo hi = false := E9.2 h
attribute [local irreducible] whN
theorem oM {G : Glo} (hS : ab G shapesTy) (t : Stm) : FnIs Tryz.prog G 121 [t.A] (.int .i64 t.e) := by
 have h1 := pp hS t.y t.m t.d
 have h2 := pp hS t.h t.i t.s
 have h3 := A3 (G := G) t.y t.m
 have k1 := fun n lo hi (_ : (0 : Int) ≤ 0) => cY (G := G) n lo hi
 have h5 := jz (G := G) t.o
 have hE3 := e_3 (t := t)
 have hE2 := e_2 (t := t)
 have hE0 := e_0 (t := t)
 unfold FrmP Stm.dn Stm.tn at hE3 hE2 hE0
 have hGL : ab G [] := ad
 refine fn_a Tryz.func121 Tryz.call121 rfl rfl rfl rfl ?_
 intro C hC
 refine cut hC hGL [(1, .rop t.R 0), (2, .int .i64 0)] [] True ?_ fun _ => ?_
 ·exact xw0
 refine cut hC hGL [(1, .rop t.R 0), (3, .int .i64 (whN (tlB t.y) (tlB t.m) (tlB t.d))), (4, .int .i64 (whN (tlB t.h) (tlB t.i) (tlB t.s)))] [] True ?_ fun _ => ?_
 ·refine xn1 ?_
  refine dw_p mixed hC hGL false (fun (_ : Unit) => [(1, .rop t.R 0), (3, .int .i64 (whN (tlB t.y) (tlB t.m) (tlB t.d))), (4, .int .i64 (whN (tlB t.h) (tlB t.i) (tlB t.s)))]) (fun _ => []) (.take 0 (.take 1 (.take 2 (.take 3 (.take 4 (.take 5 (.take 8 (.take 9 (.take 10 (.take 11 (.take 12 (.take 13 (.br 6 (.br 7 (.br 14 (.br 15 (.take 16 (.take 17 (.done))) (.nil)) (.nil)) (.br 14 (.br 7 (.br 15 (.take 16 (.take 17 (.done))) (.nil)) (.nil)) (.nil))) (.br 14 (.br 6 (.br 7 (.br 15 (.take 16 (.take 17 (.done))) (.nil)) (.nil)) (.nil)) (.nil))))))))))))))) (by kernel_rfl) ?_ ?_
  ·refine xn ?_
   repeat' (first | exact Le.n | refine Lc.mk ?_ ?_)
   all_goals intros
   all_goals exact ⟨(), ⟨rfl, rfl, rfl, trivial⟩, rfl⟩
  ·intro _
   exact xn0
 clear h1 h2
 generalize whN (tlB t.y) (tlB t.m) (tlB t.d) = D at *
 generalize whN (tlB t.h) (tlB t.i) (tlB t.s) = T at *
 refine cut hC hGL [(1, .rop t.R 0), (3, .int .i64 D), (4, .int .i64 T)] [] (0 ≤ D ∧ 0 ≤ T ∧ ¬ (D = 0 ∧ T = 0)) ?_ fun p1 => ?_
 ·clear hE2 hE0
  refine xw ?_
  repeat' (first | exact Le.n | refine Lc.mk ?_ ?_)
  all_goals intros
  all_goals first | omega | (apply ar; refine congrArg (AVal.int .i64) ?_; rw [hE3 (fun k => by have := k.1; omega)])
 refine cut hC hGL [(1, .rop t.R 0), (3, .int .i64 D), (4, .int .i64 T)] [] (0 < D ∧ 0 < T → (D = 3 ∨ D = 5 ∨ D = 6) ∧ T ≤ 3) ?_ fun p2 => ?_
 ·clear hE2 hE0
  refine xw ?_
  repeat' (first | exact Le.n | refine Lc.mk ?_ ?_)
  all_goals intros
  all_goals first | omega | (apply ar; refine congrArg (AVal.int .i64) ?_; rw [hE3 (fun k => by have := k.1.2.2.2; omega)])
 refine cut hC hGL [(1, .rop t.R 0)] [] ((t.z = true → t.h ≠ -1) ∧ (t.z = false → t.o = 0)) ?_ fun p3 => ?_
 ·clear hE2 hE0 p1 p2
  refine xw ?_
  repeat' (first | exact Le.n | refine Lc.mk ?_ ?_)
  all_goals intros
  all_goals first
   | exact Bool.noConfusion ((show t.z = true by assumption).symm.trans (show t.z = false by assumption))
   | exact ⟨fun _ => by assumption, fun k => Bool.noConfusion ((show t.z = true by assumption).symm.trans k)⟩
   | exact ⟨fun k => Bool.noConfusion (k.symm.trans (show t.z = false by assumption)), fun _ => by assumption⟩
   | (apply ar; refine congrArg (AVal.int .i64) ?_; rw [hE3 (fun k => by have := k.2; rw [if_pos (by assumption)] at this; omega)])
   | (apply ar; refine congrArg (AVal.int .i64) ?_; rw [hE3 (fun k => by have := k.2; rw [if_neg (by rw [show t.z = false by assumption]; decide)] at this; omega)])
 have hF : (0 ≤ D ∧ 0 ≤ T ∧ ¬ (D = 0 ∧ T = 0) ∧ (0 < D ∧ 0 < T → (D = 3 ∨ D = 5 ∨ D = 6) ∧ T ≤ 3)) ∧ (if t.z = true then t.h ≠ -1 else t.o = 0) := by
  refine ⟨⟨p1.1, p1.2.1, p1.2.2, p2⟩, ?_⟩
  split
  ·exact p3.1 (by assumption)
  ·rename_i k
   exact p3.2 (by simpa using k)
 have key2 := hE2 hF
 have key0 := hE0 hF
 clear hE2 hE0 hE3 hF p1 p2 p3
 refine cut hC hGL [(1, .rop t.R 0), (5, .int .i64 31)] [] True ?_ fun _ => ?_
 ·exact xw0
 refine cuty hC hGL (fun q : Int => [(1, .rop t.R 0), (5, .int .i64 q)]) (fun _ => []) (fun q => q = t.day) ?_ fun q hq => ?_
 ·refine xw ?_
  repeat' (first | exact Le.n | refine Lc.mk ?_ ?_)
  all_goals intros
  all_goals first
   | exact cy _ (by unfold Stm.day; rw [if_neg (by assumption)])
   | exact cy _ (by unfold Stm.day; rw [if_pos (by assumption)])
 subst hq
 refine cut hC hGL [(1, .rop t.R 0)] [] (∀ j, j < 6 → tstB t j = true) ?_ fun hj => ?_
 ·refine xw1 ?_
  refine lp hC hGL (fun (k : Nat) => [(1, .rop t.R 0), (104, _), (105, .int .i64 6), (106, .int .i64 (k : Nat))]) (fun _ => []) (fun k => k ≤ 6 ∧ ∀ j, j < k → tstB t j = true) (fun k => 6 - k) 0 ?_ aj rfl ?_
  ·exact ⟨by omega, fun j hj => absurd hj (by omega)⟩
  rintro k ⟨hk, hj⟩
  rcases (show k = 0 ∨ k = 1 ∨ k = 2 ∨ k = 3 ∨ k = 4 ∨ k = 5 ∨ k = 6 by omega) with rfl | rfl | rfl | rfl | rfl | rfl | rfl
  all_goals
   refine xw ?_
   repeat' (first | exact Le.n | refine Lc.mk ?_ ?_)
   all_goals intros
   all_goals try simp only [Gy, Gz] at *
   all_goals first
    | exact hj _ (by assumption)
    | exact nxs 1 ⟨by decide, gu hj (wT (by omega))⟩ (by decide) aj aD
    | exact nxs 2 ⟨by decide, gu hj (wT (by omega))⟩ (by decide) aj aD
    | exact nxs 3 ⟨by decide, gu hj (wT (by omega))⟩ (by decide) aj aD
    | exact nxs 4 ⟨by decide, gu hj (wT (by omega))⟩ (by decide) aj aD
    | exact nxs 5 ⟨by decide, gu hj (wT (by omega))⟩ (by decide) aj aD
    | exact nxs 6 ⟨by decide, gu hj (wT (by omega))⟩ (by decide) aj aD
    | (apply ar; refine congrArg (AVal.int .i64) ?_; first
     | rw [key2 (ll 0 (wF (by omega)))]
     | rw [key2 (ll 1 (wF (by omega)))]
     | rw [key2 (ll 2 (wF (by omega)))]
     | rw [key2 (ll 3 (wF (by omega)))]
     | rw [key2 (ll 4 (wF (by omega)))]
     | rw [key2 (ll 5 (wF (by omega)))])
 refine aH hC hGL ?_
 refine xw ?_
 repeat' (first | exact Le.n | refine Lc.mk ?_ ?_)
 all_goals intros
 all_goals (apply ar; refine congrArg (AVal.int .i64) ?_; first | rw [key0 (FE hj (by assumption))] | rw [key2 (GN (by assumption))])
end
section
open Go Go.RowKit
def tolB (i k : Nat) : Bool := ([[false, false, false], [true, false, false], [true, true, false], [true, true, true], [false, true, false], [false, true, true], [false, false, true]].getD i []).getD k false
def digS (s : List UInt8) (a b : Nat) : Prop := ∀ j, a ≤ j → j < b → 48 ≤ aa s j ∧ aa s j ≤ 57
theorem GT {α : Type} {l : List α} (h : l.length = 4) : ∃ a b c d, l = [a, b, c, d] := by
 match l, h with
 | [a, b, c, d], _ => exact ⟨a, b, c, d, rfl⟩
theorem G1 {s : List UInt8} (hl : s.length = 4) (hd : digS s 0 4) : Lib.atoiAll s = .ok (eU s 0) := by
 obtain ⟨a, b, c, d, rfl⟩ := GT hl
 have ha : 48 ≤ a.toNat ∧ a.toNat ≤ 57 := hd 0 (by omega) (by omega)
 have hb : 48 ≤ b.toNat ∧ b.toNat ≤ 57 := hd 1 (by omega) (by omega)
 have hc : 48 ≤ c.toNat ∧ c.toNat ≤ 57 := hd 2 (by omega) (by omega)
 have hdd : 48 ≤ d.toNat ∧ d.toNat ≤ 57 := hd 3 (by omega) (by omega)
 have e : eU [a, b, c, d] 0 = 10 * (10 * (10 * ((a.toNat : Int) - 48) + ((b.toNat : Int) - 48)) + ((c.toNat : Int) - 48)) + ((d.toNat : Int) - 48) := rfl
 have p : Lib.parseUint10 0 [a, b, c, d] = .ok ((((0 * 10 + (a.toNat - 48)) * 10 + (b.toNat - 48)) * 10 + (c.toNat - 48)) * 10 + (d.toNat - 48)) := by
  rw [Lib.parseUint10, if_pos ha, if_neg (by omega), if_neg (by omega), Lib.parseUint10, if_pos hb, if_neg (by omega), if_neg (by omega), Lib.parseUint10, if_pos hc, if_neg (by omega), if_neg (by omega), Lib.parseUint10, if_pos hdd, if_neg (by omega), if_neg (by omega), Lib.parseUint10]
 unfold Lib.atoiAll
 dsimp only
 rw [if_neg (by omega)]
 unfold Lib.parseMag
 rw [if_neg (by simp), p]
 dsimp only
 rw [if_neg (by omega), if_neg (by omega), if_neg (by omega), e]
 congr 1
 omega
theorem zN {G : Glo} (s : List UInt8) (hl : s.length = 4) (hd : digS s 0 4) : FnIs Tryz.prog G 83 [.str s] (.tuple [.int .i64 (eU s 0), .raw .nilIface]) := by
 have ha := G1 hl hd
 refine e8 (.tuple #[.int .i64 (eU s 0), .nilIface]) (fun R => nk (ao.2 rfl) (an.2 rfl)) Tryz.call83 ?_
 intro R args hr w _ _
 obtain ⟨x, t, e', hx, rfl⟩ := hr
 obtain rfl := az.1 hx
 obtain rfl := fW e'
 refine (Tryz.strconv_Atoi_ok ⟨s.toArray⟩ (by rw [aY]; omega) _ (by simpa using ha) w).mono ?_
 rintro e w' ⟨rfl, hw⟩
 refine ⟨rfl, ?_⟩
 rcases hw with rfl | ⟨t, rfl⟩
 ·exact Below.refl _ _
 ·exact ⟨rfl, rfl, rfl, by rw [Lib.bytesWorld_size]; omega, fun k hk => Lib.bytesWorld_at_old _ _ _ _ hk⟩
abbrev bxW (b : Nat) (t : List UInt8) : HEnt := .cells b (some 9) [.str t]
theorem fE {G : Glo} {m : Int} (hM : ab G (ce m)) (i k : Nat) (hi : i ≤ 6) (hk : k < 3) : FnIs Tryz.prog G 120 [.str (aU i), .str (([97, 98, 99].take (k + 1)).drop k)] (.bool (tolB i k)) := by
 have := gv (G := G) hM (aU i) (([97, 98, 99].take (k + 1)).drop k)
 rcases (show k = 0 ∨ k = 1 ∨ k = 2 by omega) with rfl | rfl | rfl <;> rcases (show i = 0 ∨ i = 1 ∨ i = 2 ∨ i = 3 ∨ i = 4 ∨ i = 5 ∨ i = 6 by omega) with rfl | rfl | rfl | rfl | rfl | rfl | rfl <;> exact this (by decide)
def sY (i : Nat) (s : List UInt8) : Int := if i = 1 ∨ i = 2 ∨ i = 3 then eU s 0 else -1
def sM (i : Nat) (s : List UInt8) : Int := if i = 2 ∨ i = 3 then two2 s 4 else if i = 4 ∨ i = 5 then two2 s 0 else -1
def sD (i : Nat) (s : List UInt8) : Int := if i = 3 then two2 s 6 else if i = 5 then two2 s 2 else if i = 6 then two2 s 0 else -1
def sH (i : Nat) (s : List UInt8) : Int := if i = 1 ∨ i = 2 ∨ i = 3 then two2 s 0 else -1
def sI (i : Nat) (s : List UInt8) : Int := if i = 2 ∨ i = 3 then two2 s 2 else if i = 4 ∨ i = 5 then two2 s 0 else -1
def sS (i : Nat) (s : List UInt8) : Int := if i = 3 then two2 s 4 else if i = 5 then two2 s 2 else if i = 6 then two2 s 0 else -1
def dN (i : Nat) : Nat := [0, 4, 6, 8, 2, 4, 2].getD i 0
def cN (i : Nat) : Nat := [0, 2, 4, 6, 2, 4, 2].getD i 0
def stP (i j : Nat) (d c z : List UInt8) : Stm × Int :=
 if z ≠ [] ∧ (aS z).2 ≠ 0 then (Stm.no, (aS z).2)
 else if (⟨sY i d, sM i d, sD i d, sH j c, sI j c, sS j c, decide (z ≠ []), if z = [] then 0 else (aS z).1⟩ : Stm).e = 0 then (⟨sY i d, sM i d, sD i d, sH j c, sI j c, sS j c, decide (z ≠ []), if z = [] then 0 else (aS z).1⟩, 0)
 else (Stm.no, (⟨sY i d, sM i d, sD i d, sH j c, sI j c, sS j c, decide (z ≠ []), if z = [] then 0 else (aS z).1⟩ : Stm).e)
theorem cJ {s : List UInt8} {a b : Nat} : two2 (s.drop a) b = two2 s (a + b) := by
 unfold two2 digN
 rw [bu, bu, Nat.add_assoc]
attribute [local irreducible] AWp AOps aa ax OrOk ab ae
attribute [local irreducible] Lib.contains
theorem qh {G : Glo} (b : Nat) (t : List UInt8) (h4 : 4 ≤ t.length) (hl : t.length ≤ 1000000) (hd : digS t 0 4) : ae Tryz.prog G 119 [.raw (pW b), .int .i64 4] [bxW b t] (fun r H => r = .ret (.int .i64 (eU t 0)) ∧ H = [bxW b (t.drop 4)]) := by
 have k0 : FnIs Tryz.prog G 83 [.str (t.take 4)] (.tuple [.int .i64 (eU t 0), .raw .nilIface]) := by
  have := zN (G := G) (t.take 4) (by rw [List.length_take]; omega) (fun j h1 h2 => by rw [dw h2]; exact hd j h1 h2)
  have e : eU (t.take 4) 0 = eU t 0 := by unfold eU digN; rw [dw (by omega), dw (by omega), dw (by omega), dw (by omega)]
  rwa [e] at this
 have hGL : ab G [] := ad
 refine fR [(0, 0, pW b)] Tryz.func119 Tryz.call119 rfl rfl rfl rfl (by repeat (first | exact trivial | refine And.intro ⟨rfl, rfl⟩ ?_)) ?_
 intro C hC
 exact aH hC hGL xw0
theorem cX {G : Glo} (b : Nat) (t : List UInt8) (h4 : 2 ≤ t.length) (hl : t.length ≤ 1000000) (hd : digS t 0 2) : ae Tryz.prog G 119 [.raw (pW b), .int .i64 2] [bxW b t] (fun r H => r = .ret (.int .i64 (two2 t 0)) ∧ H = [bxW b (t.drop 2)]) := by
 have k0 : FnIs Tryz.prog G 83 [.str (t.take 2)] (.tuple [.int .i64 (two2 t 0), .raw .nilIface]) := by
  have := oy (G := G) (t.take 2) (by rw [List.length_take]; omega) (by rw [dw (by omega)]; exact hd 0 (by omega) (by omega)) (by rw [dw (by omega)]; exact hd 1 (by omega) (by omega))
  have e : 10 * digN (t.take 2) 0 + digN (t.take 2) 1 = two2 t 0 := by unfold two2 digN; rw [dw (by omega), dw (by omega)]
  rwa [e] at this
 have hGL : ab G [] := ad
 refine fR [(0, 0, pW b)] Tryz.func119 Tryz.call119 rfl rfl rfl rfl (by repeat (first | exact trivial | refine And.intro ⟨rfl, rfl⟩ ?_)) ?_
 intro C hC
 exact aH hC hGL xw0
end
section
open Go Go.RowKit
attribute [local irreducible] AWp AOps aa ax OrOk ab ae
attribute [local irreducible] Lib.contains aS dp
theorem bi {G : Glo} {m : Int} (hM : ab G (ce m)) (hS : ab G shapesTy) (i j : Nat) (hi : i ≤ 6) (hj : j ≤ 6) (d c z : List UInt8) (hd : d.length = dN i) (hdd : digS d 0 (dN i)) (hc : c.length = cN j) (hcc : digS c 0 (cN j)) (hz : z.length ≤ 1000000) :
  FnIs Tryz.prog G 80 [.str (aU i), .str (aU j), .str d, .str c, .str z] (.tuple [(stP i j d c z).1.A, .int .i64 (stP i j d c z).2]) := by
 have c0 := fE (G := G) hM i 0 hi (by decide)
 have c1 := fE (G := G) hM i 1 hi (by decide)
 have c2 := fE (G := G) hM i 2 hi (by decide)
 have e0 := fE (G := G) hM j 0 hj (by decide)
 have e1 := fE (G := G) hM j 1 hj (by decide)
 have e2 := fE (G := G) hM j 2 hj (by decide)
 have hR := fun u => oM (G := G) hS u
 have hZ := jA (G := G) z (by omega)
 have hGL : ab G [] := ad
 refine fn_a Tryz.func80 Tryz.call80 rfl rfl rfl rfl ?_
 intro C hC
 refine cuty hC hGL (fun x : Nat × Nat × Nat => [(0, .str (aU i)), (1, .str (aU j)), (4, .str z), (7, .own 0 (pW x.1)), (8, .own 1 (pW x.2.1)), (10, .own 2 (pW x.2.2))]) (fun x => [bxW x.1 d, bxW x.2.1 c, stC x.2.2 0 0 0 0 0 0 false 0]) (fun _ => True) ?_ fun x _ => ?_
 ·refine xb1 ?_
  intro b7 b8 b10
  exact cy (b7, b8, b10) trivial
 obtain ⟨b7, b8, b10⟩ := x
 dsimp only
 refine cuty hC hGL (fun b12 : Nat => [(0, .str (aU i)), (1, .str (aU j)), (4, .str z), (7, .own 0 (pW b7)), (8, .own 1 (pW b8)), (10, .own 2 (pW b10)), (12, .own 3 (pW b12))]) (fun b12 => [bxW b7 d, bxW b8 c, stC b10 0 0 0 0 0 0 false 0, stC b12 (-1) (-1) (-1) (-1) (-1) (-1) false 0]) (fun _ => True) ?_ fun b12 _ => ?_
 ·refine xn1 ?_
  intro b12
  exact cy b12 trivial
 refine cut hC hGL [(0, .str (aU i)), (1, .str (aU j)), (4, .str z), (7, .own 0 (pW b7)), (8, .own 1 (pW b8)), (10, .own 2 (pW b10)), (12, .own 3 (pW b12)), (13, .func (.func 119) [] [])] [bxW b7 d, bxW b8 c, stC b10 0 0 0 0 0 0 false 0, stC b12 (-1) (-1) (-1) (-1) (-1) (-1) false 0] True xn0 fun _ => ?_
 refine cuty hC hGL (fun _ : List UInt8 => [(1, .str (aU j)), (4, .str z), (8, .own 1 (pW b8)), (10, .own 2 (pW b10)), (12, .own 3 (pW b12)), (13, .func (.func 119) [] [])]) (fun x => [bxW b7 x, bxW b8 c, stC b10 0 0 0 0 0 0 false 0, stC b12 (sY i d) (sM i d) (sD i d) (-1) (-1) (-1) false 0]) (fun _ => True) ?_ fun d' _ => ?_
 ·refine xn1 ?_
  refine rds hC hGL 4 ?_
  rcases (show i = 0 ∨ i = 1 ∨ i = 2 ∨ i = 3 ∨ i = 4 ∨ i = 5 ∨ i = 6 by omega) with rfl | rfl | rfl | rfl | rfl | rfl | rfl
  ·have hd : d.length = 0 := hd
   have hdd : digS d 0 0 := hdd
   refine xn1 ?_
   intros
   exact cy (d) trivial
  ·have hd : d.length = 4 := hd
   have hdd : digS d 0 4 := hdd
   have f0 := qh (G := G) b7 d (by omega) (by omega) (fun j g1 g2 => hdd j g1 (by omega))
   refine xn1 ?_
   intros
   exact cy (d.drop 4) trivial
  ·have hd : d.length = 6 := hd
   have hdd : digS d 0 6 := hdd
   have f0 := qh (G := G) b7 d (by omega) (by omega) (fun j g1 g2 => hdd j g1 (by omega))
   have f1 := cX (G := G) b7 (d.drop 4) (by simp only [List.length_drop]; omega) (by simp only [List.length_drop]; omega) (fun j g1 g2 => by rw [bu]; exact hdd _ (by omega) (by omega))
   rw [show two2 (d.drop 4) 0 = two2 d 4 by rw [cJ]] at f1
   refine xn1 ?_
   intros
   exact cy ((d.drop 4).drop 2) trivial
  ·have hd : d.length = 8 := hd
   have hdd : digS d 0 8 := hdd
   have f0 := qh (G := G) b7 d (by omega) (by omega) (fun j g1 g2 => hdd j g1 (by omega))
   have f1 := cX (G := G) b7 (d.drop 4) (by simp only [List.length_drop]; omega) (by simp only [List.length_drop]; omega) (fun j g1 g2 => by rw [bu]; exact hdd _ (by omega) (by omega))
   rw [show two2 (d.drop 4) 0 = two2 d 4 by rw [cJ]] at f1
   have f2 := cX (G := G) b7 ((d.drop 4).drop 2) (by simp only [List.length_drop]; omega) (by simp only [List.length_drop]; omega) (fun j g1 g2 => by rw [bu, bu]; exact hdd _ (by omega) (by omega))
   rw [show two2 ((d.drop 4).drop 2) 0 = two2 d 6 by rw [cJ, cJ]] at f2
   refine xn1 ?_
   intros
   exact cy (((d.drop 4).drop 2).drop 2) trivial
  ·have hd : d.length = 2 := hd
   have hdd : digS d 0 2 := hdd
   have f0 := cX (G := G) b7 d (by omega) (by omega) (fun j g1 g2 => hdd j g1 (by omega))
   refine xn1 ?_
   intros
   exact cy (d.drop 2) trivial
  ·have hd : d.length = 4 := hd
   have hdd : digS d 0 4 := hdd
   have f0 := cX (G := G) b7 d (by omega) (by omega) (fun j g1 g2 => hdd j g1 (by omega))
   have f1 := cX (G := G) b7 (d.drop 2) (by simp only [List.length_drop]; omega) (by simp only [List.length_drop]; omega) (fun j g1 g2 => by rw [bu]; exact hdd _ (by omega) (by omega))
   rw [show two2 (d.drop 2) 0 = two2 d 2 by rw [cJ]] at f1
   refine xn1 ?_
   intros
   exact cy ((d.drop 2).drop 2) trivial
  ·have hd : d.length = 2 := hd
   have hdd : digS d 0 2 := hdd
   have f0 := cX (G := G) b7 d (by omega) (by omega) (fun j g1 g2 => hdd j g1 (by omega))
   refine xn1 ?_
   intros
   exact cy (d.drop 2) trivial
 refine cuty hC hGL (fun _ : List UInt8 => [(4, .str z), (10, .own 2 (pW b10)), (12, .own 3 (pW b12))]) (fun x => [bxW b7 d', bxW b8 x, stC b10 0 0 0 0 0 0 false 0, stC b12 (sY i d) (sM i d) (sD i d) (sH j c) (sI j c) (sS j c) false 0]) (fun _ => True) ?_ fun c' _ => ?_
 ·generalize sY i d = y0
  generalize sM i d = m0
  generalize sD i d = d0
  refine xn1 ?_
  refine rds hC hGL 4 ?_
  rcases (show j = 0 ∨ j = 1 ∨ j = 2 ∨ j = 3 ∨ j = 4 ∨ j = 5 ∨ j = 6 by omega) with rfl | rfl | rfl | rfl | rfl | rfl | rfl
  ·have hc : c.length = 0 := hc
   have hcc : digS c 0 0 := hcc
   refine xn1 ?_
   intros
   exact cy (c) trivial
  ·have hc : c.length = 2 := hc
   have hcc : digS c 0 2 := hcc
   have f0 := cX (G := G) b8 c (by omega) (by omega) (fun j g1 g2 => hcc j g1 (by omega))
   refine xn1 ?_
   intros
   exact cy (c.drop 2) trivial
  ·have hc : c.length = 4 := hc
   have hcc : digS c 0 4 := hcc
   have f0 := cX (G := G) b8 c (by omega) (by omega) (fun j g1 g2 => hcc j g1 (by omega))
   have f1 := cX (G := G) b8 (c.drop 2) (by simp only [List.length_drop]; omega) (by simp only [List.length_drop]; omega) (fun j g1 g2 => by rw [bu]; exact hcc _ (by omega) (by omega))
   rw [show two2 (c.drop 2) 0 = two2 c 2 by rw [cJ]] at f1
   refine xn1 ?_
   intros
   exact cy ((c.drop 2).drop 2) trivial
  ·have hc : c.length = 6 := hc
   have hcc : digS c 0 6 := hcc
   have f0 := cX (G := G) b8 c (by omega) (by omega) (fun j g1 g2 => hcc j g1 (by omega))
   have f1 := cX (G := G) b8 (c.drop 2) (by simp only [List.length_drop]; omega) (by simp only [List.length_drop]; omega) (fun j g1 g2 => by rw [bu]; exact hcc _ (by omega) (by omega))
   rw [show two2 (c.drop 2) 0 = two2 c 2 by rw [cJ]] at f1
   have f2 := cX (G := G) b8 ((c.drop 2).drop 2) (by simp only [List.length_drop]; omega) (by simp only [List.length_drop]; omega) (fun j g1 g2 => by rw [bu, bu]; exact hcc _ (by omega) (by omega))
   rw [show two2 ((c.drop 2).drop 2) 0 = two2 c 4 by rw [cJ, cJ]] at f2
   refine xn1 ?_
   intros
   exact cy (((c.drop 2).drop 2).drop 2) trivial
  ·have hc : c.length = 2 := hc
   have hcc : digS c 0 2 := hcc
   have f0 := cX (G := G) b8 c (by omega) (by omega) (fun j g1 g2 => hcc j g1 (by omega))
   refine xn1 ?_
   intros
   exact cy (c.drop 2) trivial
  ·have hc : c.length = 4 := hc
   have hcc : digS c 0 4 := hcc
   have f0 := cX (G := G) b8 c (by omega) (by omega) (fun j g1 g2 => hcc j g1 (by omega))
   have f1 := cX (G := G) b8 (c.drop 2) (by simp only [List.length_drop]; omega) (by simp only [List.length_drop]; omega) (fun j g1 g2 => by rw [bu]; exact hcc _ (by omega) (by omega))
   rw [show two2 (c.drop 2) 0 = two2 c 2 by rw [cJ]] at f1
   refine xn1 ?_
   intros
   exact cy ((c.drop 2).drop 2) trivial
  ·have hc : c.length = 2 := hc
   have hcc : digS c 0 2 := hcc
   have f0 := cX (G := G) b8 c (by omega) (by omega) (fun j g1 g2 => hcc j g1 (by omega))
   refine xn1 ?_
   intros
   exact cy (c.drop 2) trivial
 unfold stP
 generalize sY i d = y0
 generalize sM i d = m0
 generalize sD i d = d0
 generalize sH j c = h0
 generalize sI j c = i0
 generalize sS j c = s0
 by_cases hz0 : z = []
 ·subst hz0
  have hR0 : FnIs Tryz.prog G 121 [.agg [.int .i64 y0, .int .i64 m0, .int .i64 d0, .int .i64 h0, .int .i64 i0, .int .i64 s0, .bool false, .int .i64 0]] (.int .i64 (⟨y0, m0, d0, h0, i0, s0, false, 0⟩ : Stm).e) := hR ⟨y0, m0, d0, h0, i0, s0, false, 0⟩
  rw [if_neg (by simp)]
  simp only [if_true, show decide (([] : List UInt8) ≠ []) = false from rfl]
  generalize (⟨y0, m0, d0, h0, i0, s0, false, 0⟩ : Stm).e = e at *
  by_cases he : e = 0
  ·rw [if_pos he]
   exact aH hC hGL xw0
  ·rw [if_neg he]
   exact aH hC hGL xw0
 ·have hlz : z.length ≠ 0 := fun h => hz0 (List.eq_nil_of_length_eq_zero h)
  have hR0 : FnIs Tryz.prog G 121 [.agg [.int .i64 y0, .int .i64 m0, .int .i64 d0, .int .i64 h0, .int .i64 i0, .int .i64 s0, .bool true, .int .i64 (aS z).1]] (.int .i64 (⟨y0, m0, d0, h0, i0, s0, true, (aS z).1⟩ : Stm).e) := hR ⟨y0, m0, d0, h0, i0, s0, true, (aS z).1⟩
  simp only [if_neg hz0, decide_eq_true hz0]
  by_cases hv : (aS z).2 = 0
  ·rw [if_neg (fun h => h.2 hv)]
   generalize (⟨y0, m0, d0, h0, i0, s0, true, (aS z).1⟩ : Stm).e = e at *
   by_cases he : e = 0
   ·rw [if_pos he]
    exact aH hC hGL xw0
   ·rw [if_neg he]
    exact aH hC hGL xw0
  ·rw [if_pos ⟨hz0, hv⟩]
   exact aH hC hGL xw0
end
section
open Go Go.RowKit
theorem dgb {a : UInt8} (h : 48 ≤ a.toNat ∧ a.toNat ≤ 57) : (a != 45) = true := by
 rw [bne_iff_ne]
 rintro rfl
 exact absurd h (by decide)
theorem dsb {a : UInt8} (h : a.toNat = 45) : (a != 45) = false := by
 obtain rfl : a = 45 := UInt8.toNat_inj.1 h
 rfl
theorem dA {s u : List UInt8} {i : Nat} (h : shpS s = u) (hi : i < u.length) (h45 : aa u i = 45) : aa s i = 45 := (gU (by omega)).1 (((bS h).2 i hi).trans h45)
theorem yG {s : List UInt8} (h : shpS s = aC 0) : (outB 45 s).length = 0 ∧ digS (outB 45 s) 0 0 ∧ sY 0 (outB 45 s) = dY 0 s ∧ sM 0 (outB 45 s) = dM 0 s ∧ sD 0 (outB 45 s) = dD 0 s := by
 obtain rfl : s = [] := List.eq_nil_of_length_eq_zero (bS h).1
 exact ⟨rfl, fun j _ h => absurd h (Nat.not_lt_zero _), rfl, rfl, rfl⟩
theorem yF {s : List UInt8} (h : shpS s = aC 1) : (outB 45 s).length = 4 ∧ digS (outB 45 s) 0 4 ∧ sY 1 (outB 45 s) = dY 1 s ∧ sM 1 (outB 45 s) = dM 1 s ∧ sD 1 (outB 45 s) = dD 1 s := by
 have hl : s.length = 4 := (bS h).1
 have f0 := aK h (i := 0) (by decide) (by decide)
 have f1 := aK h (i := 1) (by decide) (by decide)
 have f2 := aK h (i := 2) (by decide) (by decide)
 have f3 := aK h (i := 3) (by decide) (by decide)
 match s, hl with
 | [a, b, c, d], _ =>
  have f0 : 48 ≤ a.toNat ∧ a.toNat ≤ 57 := f0
  have f1 : 48 ≤ b.toNat ∧ b.toNat ≤ 57 := f1
  have f2 : 48 ≤ c.toNat ∧ c.toNat ≤ 57 := f2
  have f3 : 48 ≤ d.toNat ∧ d.toNat ≤ 57 := f3
  have e : outB 45 [a, b, c, d] = [a, b, c, d] := by simp only [outB, List.filter, dgb f0, dgb f1, dgb f2, dgb f3]
  rw [e]
  refine ⟨rfl, fun j _ hj => ?_, rfl, rfl, rfl⟩
  rcases (show j = 0 ∨ j = 1 ∨ j = 2 ∨ j = 3 by omega) with rfl | rfl | rfl | rfl
  ·exact f0
  ·exact f1
  ·exact f2
  ·exact f3
theorem yE {s : List UInt8} (h : shpS s = aC 2) : (outB 45 s).length = 6 ∧ digS (outB 45 s) 0 6 ∧ sY 2 (outB 45 s) = dY 2 s ∧ sM 2 (outB 45 s) = dM 2 s ∧ sD 2 (outB 45 s) = dD 2 s := by
 have hl : s.length = 7 := (bS h).1
 have f0 := aK h (i := 0) (by decide) (by decide)
 have f1 := aK h (i := 1) (by decide) (by decide)
 have f2 := aK h (i := 2) (by decide) (by decide)
 have f3 := aK h (i := 3) (by decide) (by decide)
 have f4 := dA h (i := 4) (by decide) (by decide)
 have f5 := aK h (i := 5) (by decide) (by decide)
 have f6 := aK h (i := 6) (by decide) (by decide)
 match s, hl with
 | [a, b, c, d, e, f, g], _ =>
  have f0 : 48 ≤ a.toNat ∧ a.toNat ≤ 57 := f0
  have f1 : 48 ≤ b.toNat ∧ b.toNat ≤ 57 := f1
  have f2 : 48 ≤ c.toNat ∧ c.toNat ≤ 57 := f2
  have f3 : 48 ≤ d.toNat ∧ d.toNat ≤ 57 := f3
  have f4 : e.toNat = 45 := f4
  have f5 : 48 ≤ f.toNat ∧ f.toNat ≤ 57 := f5
  have f6 : 48 ≤ g.toNat ∧ g.toNat ≤ 57 := f6
  have e : outB 45 [a, b, c, d, e, f, g] = [a, b, c, d, f, g] := by simp only [outB, List.filter, dgb f0, dgb f1, dgb f2, dgb f3, dsb f4, dgb f5, dgb f6]
  rw [e]
  refine ⟨rfl, fun j _ hj => ?_, rfl, rfl, rfl⟩
  rcases (show j = 0 ∨ j = 1 ∨ j = 2 ∨ j = 3 ∨ j = 4 ∨ j = 5 by omega) with rfl | rfl | rfl | rfl | rfl | rfl
  ·exact f0
  ·exact f1
  ·exact f2
  ·exact f3
  ·exact f5
  ·exact f6
theorem yD {s : List UInt8} (h : shpS s = aC 3) : (outB 45 s).length = 8 ∧ digS (outB 45 s) 0 8 ∧ sY 3 (outB 45 s) = dY 3 s ∧ sM 3 (outB 45 s) = dM 3 s ∧ sD 3 (outB 45 s) = dD 3 s := by
 have hl : s.length = 8 := (bS h).1
 have f0 := aK h (i := 0) (by decide) (by decide)
 have f1 := aK h (i := 1) (by decide) (by decide)
 have f2 := aK h (i := 2) (by decide) (by decide)
 have f3 := aK h (i := 3) (by decide) (by decide)
 have f4 := aK h (i := 4) (by decide) (by decide)
 have f5 := aK h (i := 5) (by decide) (by decide)
 have f6 := aK h (i := 6) (by decide) (by decide)
 have f7 := aK h (i := 7) (by decide) (by decide)
 match s, hl with
 | [a, b, c, d, e, f, g, h], _ =>
  have f0 : 48 ≤ a.toNat ∧ a.toNat ≤ 57 := f0
  have f1 : 48 ≤ b.toNat ∧ b.toNat ≤ 57 := f1
  have f2 : 48 ≤ c.toNat ∧ c.toNat ≤ 57 := f2
  have f3 : 48 ≤ d.toNat ∧ d.toNat ≤ 57 := f3
  have f4 : 48 ≤ e.toNat ∧ e.toNat ≤ 57 := f4
  have f5 : 48 ≤ f.toNat ∧ f.toNat ≤ 57 := f5
  have f6 : 48 ≤ g.toNat ∧ g.toNat ≤ 57 := f6
  have f7 : 48 ≤ h.toNat ∧ h.toNat ≤ 57 := f7
  have e : outB 45 [a, b, c, d, e, f, g, h] = [a, b, c, d, e, f, g, h] := by simp only [outB, List.filter, dgb f0, dgb f1, dgb f2, dgb f3, dgb f4, dgb f5, dgb f6, dgb f7]
  rw [e]
  refine ⟨rfl, fun j _ hj => ?_, rfl, rfl, rfl⟩
  rcases (show j = 0 ∨ j = 1 ∨ j = 2 ∨ j = 3 ∨ j = 4 ∨ j = 5 ∨ j = 6 ∨ j = 7 by omega) with rfl | rfl | rfl | rfl | rfl | rfl | rfl | rfl
  ·exact f0
  ·exact f1
  ·exact f2
  ·exact f3
  ·exact f4
  ·exact f5
  ·exact f6
  ·exact f7
theorem yC {s : List UInt8} (h : shpS s = aC 4) : (outB 45 s).length = 2 ∧ digS (outB 45 s) 0 2 ∧ sY 4 (outB 45 s) = dY 4 s ∧ sM 4 (outB 45 s) = dM 4 s ∧ sD 4 (outB 45 s) = dD 4 s := by
 have hl : s.length = 4 := (bS h).1
 have f0 := dA h (i := 0) (by decide) (by decide)
 have f1 := dA h (i := 1) (by decide) (by decide)
 have f2 := aK h (i := 2) (by decide) (by decide)
 have f3 := aK h (i := 3) (by decide) (by decide)
 match s, hl with
 | [a, b, c, d], _ =>
  have f0 : a.toNat = 45 := f0
  have f1 : b.toNat = 45 := f1
  have f2 : 48 ≤ c.toNat ∧ c.toNat ≤ 57 := f2
  have f3 : 48 ≤ d.toNat ∧ d.toNat ≤ 57 := f3
  have e : outB 45 [a, b, c, d] = [c, d] := by simp only [outB, List.filter, dsb f0, dsb f1, dgb f2, dgb f3]
  rw [e]
  refine ⟨rfl, fun j _ hj => ?_, rfl, rfl, rfl⟩
  rcases (show j = 0 ∨ j = 1 by omega) with rfl | rfl
  ·exact f2
  ·exact f3
theorem yB {s : List UInt8} (h : shpS s = aC 5) : (outB 45 s).length = 4 ∧ digS (outB 45 s) 0 4 ∧ sY 5 (outB 45 s) = dY 5 s ∧ sM 5 (outB 45 s) = dM 5 s ∧ sD 5 (outB 45 s) = dD 5 s := by
 have hl : s.length = 6 := (bS h).1
 have f0 := dA h (i := 0) (by decide) (by decide)
 have f1 := dA h (i := 1) (by decide) (by decide)
 have f2 := aK h (i := 2) (by decide) (by decide)
 have f3 := aK h (i := 3) (by decide) (by decide)
 have f4 := aK h (i := 4) (by decide) (by decide)
 have f5 := aK h (i := 5) (by decide) (by decide)
 match s, hl with
 | [a, b, c, d, e, f], _ =>
  have f0 : a.toNat = 45 := f0
  have f1 : b.toNat = 45 := f1
  have f2 : 48 ≤ c.toNat ∧ c.toNat ≤ 57 := f2
  have f3 : 48 ≤ d.toNat ∧ d.toNat ≤ 57 := f3
  have f4 : 48 ≤ e.toNat ∧ e.toNat ≤ 57 := f4
  have f5 : 48 ≤ f.toNat ∧ f.toNat ≤ 57 := f5
  have e : outB 45 [a, b, c, d, e, f] = [c, d, e, f] := by simp only [outB, List.filter, dsb f0, dsb f1, dgb f2, dgb f3, dgb f4, dgb f5]
  rw [e]
  refine ⟨rfl, fun j _ hj => ?_, rfl, rfl, rfl⟩
  rcases (show j = 0 ∨ j = 1 ∨ j = 2 ∨ j = 3 by omega) with rfl | rfl | rfl | rfl
  ·exact f2
  ·exact f3
  ·exact f4
  ·exact f5
theorem yA {s : List UInt8} (h : shpS s = aC 6) : (outB 45 s).length = 2 ∧ digS (outB 45 s) 0 2 ∧ sY 6 (outB 45 s) = dY 6 s ∧ sM 6 (outB 45 s) = dM 6 s ∧ sD 6 (outB 45 s) = dD 6 s := by
 have hl : s.length = 5 := (bS h).1
 have f0 := dA h (i := 0) (by decide) (by decide)
 have f1 := dA h (i := 1) (by decide) (by decide)
 have f2 := dA h (i := 2) (by decide) (by decide)
 have f3 := aK h (i := 3) (by decide) (by decide)
 have f4 := aK h (i := 4) (by decide) (by decide)
 match s, hl with
 | [a, b, c, d, e], _ =>
  have f0 : a.toNat = 45 := f0
  have f1 : b.toNat = 45 := f1
  have f2 : c.toNat = 45 := f2
  have f3 : 48 ≤ d.toNat ∧ d.toNat ≤ 57 := f3
  have f4 : 48 ≤ e.toNat ∧ e.toNat ≤ 57 := f4
  have e : outB 45 [a, b, c, d, e] = [d, e] := by simp only [outB, List.filter, dsb f0, dsb f1, dsb f2, dgb f3, dgb f4]
  rw [e]
  refine ⟨rfl, fun j _ hj => ?_, rfl, rfl, rfl⟩
  rcases (show j = 0 ∨ j = 1 by omega) with rfl | rfl
  ·exact f3
  ·exact f4
theorem rR {s : List UInt8} {i : Nat} (hi : i ≤ 6) (h : shpS s = aC i) : (outB 45 s).length = dN i ∧ digS (outB 45 s) 0 (dN i) ∧ sY i (outB 45 s) = dY i s ∧ sM i (outB 45 s) = dM i s ∧ sD i (outB 45 s) = dD i s := by
 rcases (show i = 0 ∨ i = 1 ∨ i = 2 ∨ i = 3 ∨ i = 4 ∨ i = 5 ∨ i = 6 by omega) with rfl | rfl | rfl | rfl | rfl | rfl | rfl
 ·exact yG h
 ·exact yF h
 ·exact yE h
 ·exact yD h
 ·exact yC h
 ·exact yB h
 ·exact yA h
theorem Af {s : List UInt8} (h : shpS s = clkF 0) : (outB 45 s).length = 0 ∧ digS (outB 45 s) 0 0 ∧ sH 0 (outB 45 s) = cH 0 s ∧ sI 0 (outB 45 s) = cI 0 s ∧ sS 0 (outB 45 s) = cS 0 s := by
 obtain rfl : s = [] := List.eq_nil_of_length_eq_zero (bS h).1
 exact ⟨rfl, fun j _ h => absurd h (Nat.not_lt_zero _), rfl, rfl, rfl⟩
theorem Ae {s : List UInt8} (h : shpS s = clkF 1) : (outB 45 s).length = 2 ∧ digS (outB 45 s) 0 2 ∧ sH 1 (outB 45 s) = cH 1 s ∧ sI 1 (outB 45 s) = cI 1 s ∧ sS 1 (outB 45 s) = cS 1 s := by
 have hl : s.length = 2 := (bS h).1
 have f0 := aK h (i := 0) (by decide) (by decide)
 have f1 := aK h (i := 1) (by decide) (by decide)
 match s, hl with
 | [a, b], _ =>
  have f0 : 48 ≤ a.toNat ∧ a.toNat ≤ 57 := f0
  have f1 : 48 ≤ b.toNat ∧ b.toNat ≤ 57 := f1
  have e : outB 45 [a, b] = [a, b] := by simp only [outB, List.filter, dgb f0, dgb f1]
  rw [e]
  refine ⟨rfl, fun j _ hj => ?_, rfl, rfl, rfl⟩
  rcases (show j = 0 ∨ j = 1 by omega) with rfl | rfl
  ·exact f0
  ·exact f1
theorem Ad {s : List UInt8} (h : shpS s = clkF 2) : (outB 45 s).length = 4 ∧ digS (outB 45 s) 0 4 ∧ sH 2 (outB 45 s) = cH 2 s ∧ sI 2 (outB 45 s) = cI 2 s ∧ sS 2 (outB 45 s) = cS 2 s := by
 have hl : s.length = 4 := (bS h).1
 have f0 := aK h (i := 0) (by decide) (by decide)
 have f1 := aK h (i := 1) (by decide) (by decide)
 have f2 := aK h (i := 2) (by decide) (by decide)
 have f3 := aK h (i := 3) (by decide) (by decide)
 match s, hl with
 | [a, b, c, d], _ =>
  have f0 : 48 ≤ a.toNat ∧ a.toNat ≤ 57 := f0
  have f1 : 48 ≤ b.toNat ∧ b.toNat ≤ 57 := f1
  have f2 : 48 ≤ c.toNat ∧ c.toNat ≤ 57 := f2
  have f3 : 48 ≤ d.toNat ∧ d.toNat ≤ 57 := f3
  have e : outB 45 [a, b, c, d] = [a, b, c, d] := by simp only [outB, List.filter, dgb f0, dgb f1, dgb f2, dgb f3]
  rw [e]
  refine ⟨rfl, fun j _ hj => ?_, rfl, rfl, rfl⟩
  rcases (show j = 0 ∨ j = 1 ∨ j = 2 ∨ j = 3 by omega) with rfl | rfl | rfl | rfl
  ·exact f0
  ·exact f1
  ·exact f2
  ·exact f3
theorem Aa {s : List UInt8} (h : shpS s = clkF 3) : (outB 45 s).length = 6 ∧ digS (outB 45 s) 0 6 ∧ sH 3 (outB 45 s) = cH 3 s ∧ sI 3 (outB 45 s) = cI 3 s ∧ sS 3 (outB 45 s) = cS 3 s := by
 have hl : s.length = 6 := (bS h).1
 have f0 := aK h (i := 0) (by decide) (by decide)
 have f1 := aK h (i := 1) (by decide) (by decide)
 have f2 := aK h (i := 2) (by decide) (by decide)
 have f3 := aK h (i := 3) (by decide) (by decide)
 have f4 := aK h (i := 4) (by decide) (by decide)
 have f5 := aK h (i := 5) (by decide) (by decide)
 match s, hl with
 | [a, b, c, d, e, f], _ =>
  have f0 : 48 ≤ a.toNat ∧ a.toNat ≤ 57 := f0
  have f1 : 48 ≤ b.toNat ∧ b.toNat ≤ 57 := f1
  have f2 : 48 ≤ c.toNat ∧ c.toNat ≤ 57 := f2
  have f3 : 48 ≤ d.toNat ∧ d.toNat ≤ 57 := f3
  have f4 : 48 ≤ e.toNat ∧ e.toNat ≤ 57 := f4
  have f5 : 48 ≤ f.toNat ∧ f.toNat ≤ 57 := f5
  have e : outB 45 [a, b, c, d, e, f] = [a, b, c, d, e, f] := by simp only [outB, List.filter, dgb f0, dgb f1, dgb f2, dgb f3, dgb f4, dgb f5]
  rw [e]
  refine ⟨rfl, fun j _ hj => ?_, rfl, rfl, rfl⟩
  rcases (show j = 0 ∨ j = 1 ∨ j = 2 ∨ j = 3 ∨ j = 4 ∨ j = 5 by omega) with rfl | rfl | rfl | rfl | rfl | rfl
  ·exact f0
  ·exact f1
  ·exact f2
  ·exact f3
  ·exact f4
  ·exact f5
theorem z8 {s : List UInt8} (h : shpS s = clkF 4) : (outB 45 s).length = 2 ∧ digS (outB 45 s) 0 2 ∧ sH 4 (outB 45 s) = cH 4 s ∧ sI 4 (outB 45 s) = cI 4 s ∧ sS 4 (outB 45 s) = cS 4 s := by
 have hl : s.length = 3 := (bS h).1
 have f0 := dA h (i := 0) (by decide) (by decide)
 have f1 := aK h (i := 1) (by decide) (by decide)
 have f2 := aK h (i := 2) (by decide) (by decide)
 match s, hl with
 | [a, b, c], _ =>
  have f0 : a.toNat = 45 := f0
  have f1 : 48 ≤ b.toNat ∧ b.toNat ≤ 57 := f1
  have f2 : 48 ≤ c.toNat ∧ c.toNat ≤ 57 := f2
  have e : outB 45 [a, b, c] = [b, c] := by simp only [outB, List.filter, dsb f0, dgb f1, dgb f2]
  rw [e]
  refine ⟨rfl, fun j _ hj => ?_, rfl, rfl, rfl⟩
  rcases (show j = 0 ∨ j = 1 by omega) with rfl | rfl
  ·exact f1
  ·exact f2
theorem z7 {s : List UInt8} (h : shpS s = clkF 5) : (outB 45 s).length = 4 ∧ digS (outB 45 s) 0 4 ∧ sH 5 (outB 45 s) = cH 5 s ∧ sI 5 (outB 45 s) = cI 5 s ∧ sS 5 (outB 45 s) = cS 5 s := by
 have hl : s.length = 5 := (bS h).1
 have f0 := dA h (i := 0) (by decide) (by decide)
 have f1 := aK h (i := 1) (by decide) (by decide)
 have f2 := aK h (i := 2) (by decide) (by decide)
 have f3 := aK h (i := 3) (by decide) (by decide)
 have f4 := aK h (i := 4) (by decide) (by decide)
 match s, hl with
 | [a, b, c, d, e], _ =>
  have f0 : a.toNat = 45 := f0
  have f1 : 48 ≤ b.toNat ∧ b.toNat ≤ 57 := f1
  have f2 : 48 ≤ c.toNat ∧ c.toNat ≤ 57 := f2
  have f3 : 48 ≤ d.toNat ∧ d.toNat ≤ 57 := f3
  have f4 : 48 ≤ e.toNat ∧ e.toNat ≤ 57 := f4
  have e : outB 45 [a, b, c, d, e] = [b, c, d, e] := by simp only [outB, List.filter, dsb f0, dgb f1, dgb f2, dgb f3, dgb f4]
  rw [e]
  refine ⟨rfl, fun j _ hj => ?_, rfl, rfl, rfl⟩
  rcases (show j = 0 ∨ j = 1 ∨ j = 2 ∨ j = 3 by omega) with rfl | rfl | rfl | rfl
  ·exact f1
  ·exact f2
  ·exact f3
  ·exact f4
theorem z6 {s : List UInt8} (h : shpS s = clkF 6) : (outB 45 s).length = 2 ∧ digS (outB 45 s) 0 2 ∧ sH 6 (outB 45 s) = cH 6 s ∧ sI 6 (outB 45 s) = cI 6 s ∧ sS 6 (outB 45 s) = cS 6 s := by
 have hl : s.length = 4 := (bS h).1
 have f0 := dA h (i := 0) (by decide) (by decide)
 have f1 := dA h (i := 1) (by decide) (by decide)
 have f2 := aK h (i := 2) (by decide) (by decide)
 have f3 := aK h (i := 3) (by decide) (by decide)
 match s, hl with
 | [a, b, c, d], _ =>
  have f0 : a.toNat = 45 := f0
  have f1 : b.toNat = 45 := f1
  have f2 : 48 ≤ c.toNat ∧ c.toNat ≤ 57 := f2
  have f3 : 48 ≤ d.toNat ∧ d.toNat ≤ 57 := f3
  have e : outB 45 [a, b, c, d] = [c, d] := by simp only [outB, List.filter, dsb f0, dsb f1, dgb f2, dgb f3]
  rw [e]
  refine ⟨rfl, fun j _ hj => ?_, rfl, rfl, rfl⟩
  rcases (show j = 0 ∨ j = 1 by omega) with rfl | rfl
  ·exact f2
  ·exact f3
theorem de {s : List UInt8} {i : Nat} (hi : i ≤ 6) (h : shpS s = clkF i) : (outB 45 s).length = cN i ∧ digS (outB 45 s) 0 (cN i) ∧ sH i (outB 45 s) = cH i s ∧ sI i (outB 45 s) = cI i s ∧ sS i (outB 45 s) = cS i s := by
 rcases (show i = 0 ∨ i = 1 ∨ i = 2 ∨ i = 3 ∨ i = 4 ∨ i = 5 ∨ i = 6 by omega) with rfl | rfl | rfl | rfl | rfl | rfl | rfl
 ·exact Af h
 ·exact Ae h
 ·exact Ad h
 ·exact Aa h
 ·exact z8 h
 ·exact z7 h
 ·exact z6 h
theorem Ee (u : Stm) : finP u = if u.e = 0 then (u, .none) else (Stm.no, .errno u.e) := rfl
theorem EP {i j : Nat} (hi : i ≤ 6) (hj : j ≤ 6) {d c z : List UInt8} (hd : shpS d = aC i) (hc : shpS c = clkF j) :
  stP i j (outB 45 d) (outB 45 c) z = if z ≠ [] ∧ (aS z).2 ≠ 0 then (Stm.no, (aS z).2) else ((finP (whS i d j c z)).1, (finP (whS i d j c z)).2.e) := by
 obtain ⟨-, -, e1, e2, e3⟩ := rR hi hd
 obtain ⟨-, -, e4, e5, e6⟩ := de hj hc
 unfold stP
 rw [e1, e2, e3, e4, e5, e6]
 split
 ·rfl
 ·rw [Ee]
  have e : (⟨dY i d, dM i d, dD i d, cH j c, cI j c, cS j c, decide (z ≠ []), if z = [] then 0 else (aS z).1⟩ : Stm) = whS i d j c z := rfl
  rw [e]
  by_cases h : (whS i d j c z).e = 0
  ·rw [if_pos h, if_pos h]; rfl
  ·rw [if_neg h, if_neg h]; rfl
theorem vp {P u : List UInt8} {n : Nat} (hn : n < P.length) (h : aa P n ≠ aa u n) : P.isPrefixOf u = false := by
 rw [Bool.eq_false_iff]
 intro hp
 rw [List.isPrefixOf_iff_prefix] at hp
 obtain ⟨t, rfl⟩ := hp
 apply h
 unfold aa
 simp only [List.getD_eq_getElem?_getD]
 rw [List.getElem?_append_left hn]
theorem nw {P u : List UInt8} (hn : u.length < P.length) : P.isPrefixOf u = false := by
 rw [Bool.eq_false_iff]
 intro hp
 rw [List.isPrefixOf_iff_prefix] at hp
 have := hp.length_le
 omega
theorem cG {r : Int} : 0 ≤ idxB [90, 43, 45] r ↔ (r = 90 ∨ r = 43 ∨ r = 45) := by
 have := pM (a := 90) (b := 43) (c := 45) r
 rw [this]
 simp
end
end Go.Proofs.YtkelbglfhigmiaaGreatDoor
