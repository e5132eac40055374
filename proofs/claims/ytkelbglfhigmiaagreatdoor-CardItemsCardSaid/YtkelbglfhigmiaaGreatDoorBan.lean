/- Parts of the proof of cardItems_card: Wpj, Lao, Vrd, Cic, Trn, Eqa, Vre, Cid, Lai, Lu, Whi. -/
import Derived.Laws.StructEq
import Derived.Lib.ItoaNum
import Derived.Deep.Strs
import Derived.Shelf.Vars
import Derived.SizedLaws
import Derived.Test.YtkelbglfhigmiaaGreatDoorBam
import Derived.Test.YtkelbglfhigmiaaGreatDoorBai
import Derived.Test.YtkelbglfhigmiaaGreatDoorBaj
import Derived.Test.YtkelbglfhigmiaaGreatDoorBad
import Derived.Test.YtkelbglfhigmiaaGreatDoorBae
import Derived.Test.YtkelbglfhigmiaaGreatDoorBak
import Derived.Test.YtkelbglfhigmiaaGreatDoorBal
import Derived.Test.YtkelbglfhigmiaaGreatDoorBah
set_option linter.unusedVariables false
set_option linter.unusedSimpArgs false
set_option linter.unusedSectionVars false
namespace Go.Proofs.YtkelbglfhigmiaaGreatDoor
set_option maxRecDepth 20000
set_option maxHeartbeats 4000000
section
open Go Go.RowKit
theorem eY {d t : List UInt8} {k j n : Nat} (hk : k ≤ 6) (hd : shpS d = aC k) (h : IsSp t j n) : stP k j (outB 45 d) (outB 45 (t.take n)) (t.drop n) = ((whR d true t).1, (whR d true t).2.e) := by
 obtain ⟨e1, e2⟩ := qj h
 have e3 := ol hk hd
 have j1 := h.j1
 rw [EP hk h.j6 hd h.hs]
 have e : whR d true t = if t.drop n ≠ [] ∧ (aS (t.drop n)).2 ≠ 0 then (Stm.no, .errno (aS (t.drop n)).2) else finP (whS k d j (t.take n) (t.drop n)) := by
  unfold whR
  rw [e1, e2, e3, if_neg (show ¬ k = 7 by omega), if_neg (by decide), if_neg (show ¬ j = 0 by omega)]
 rw [e]
 split <;> rfl
theorem Fa {d t : List UInt8} {k : Nat} (hk : k ≤ 6) (hd : shpS d = aC k) : stP k 0 (outB 45 d) [] [] = ((whR d false t).1, (whR d false t).2.e) := by
 have e3 := ol hk hd
 have := EP (z := []) hk (Nat.zero_le 6) hd (show shpS [] = clkF 0 from rfl)
 rw [show outB 45 [] = [] from rfl] at this
 rw [this, EL (by omega), e3, if_neg (by simp)]
def NoSp (t : List UInt8) (m : Nat) : Prop := ∀ j, 1 ≤ j → j ≤ m → ¬ IsSp t j (clkF j).length
theorem FL {t : List UInt8} : NoSp t 0 := fun j h1 h2 => by omega
theorem a7 {t : List UInt8} {m : Nat} (h : NoSp t m) (k : ¬ IsSp t (m + 1) (clkF (m + 1)).length) : NoSp t (m + 1) := fun j h1 h2 => by
 rcases Nat.lt_or_ge m j with g | g
 ·rw [show j = m + 1 by omega]; exact k
 ·exact h j h1 g
theorem Bm {t : List UInt8} (h : NoSp t 6) : splJ t = 0 := Decidable.byContradiction fun k => by
 have g := qi k
 have e := g.len
 exact h _ g.j1 g.j6 (by rw [← e]; exact g)
def WInv (d t : List UInt8) (timed : Bool) (k : Nat) : Prop := k ≤ 7 ∧ ((∀ j, j < k → shpS d ≠ aC j) ∨ (whR d timed t = (Stm.no, .errno 3) ∧ ∃ j, j < k ∧ shpS d = aC j))
theorem m9 {t : List UInt8} {n : Nat} (hn : n < t.length) (h : aa t n = 90 ∨ aa t n = 43 ∨ aa t n = 45) : aa (shpS t) n ≠ 57 := by
 rw [eA hn]
 unfold cF
 rw [if_neg (by omega)]
 omega
theorem GQ : aa [57, 57, 57, 57] 2 = 57 := by decide
theorem GP : aa [57, 57, 57, 57, 57, 57] 4 = 57 := by decide
theorem GO : aa [45, 57, 57, 57, 57] 3 = 57 := by decide
attribute [local irreducible] AWp AOps aa ax OrOk ab ae
attribute [local irreducible] shpS outB stP whR aS
theorem oN {G : Glo} {m : Int} (hGL : ab G shapesTy) (hM : ab G (ce m)) (s : List UInt8) (hl : s.length ≤ 10000) : FnIs Tryz.prog G 47 [.str s] (.tuple [(whP s).1.A, .int .i64 (whP s).2.e]) := by
 have k1 := aL (G := G) s 84 (by decide) (by decide)
 have hn := yi (s := s) (c := 84)
 have hlen := tS s 84
 have hSh := fun x h => lt (G := G) x h
 have hcs := Tryz.call79
 have hA := fun x h => strings_ReplaceAll (G := G) hM x 45 h
 have hP := fun x y => vS (G := G) x y
 have hX := fun c h0 h1 => aL (G := G) [90, 43, 45] c h0 h1
 unfold whP
 refine fn_a Tryz.func47 Tryz.call47 rfl rfl rfl rfl ?_
 intro C hC
 refine cuty hC hGL (fun b2 : Nat => [(0, .str s), (2, .own 0 (pW b2))]) (fun b2 => [stC b2 0 0 0 0 0 0 false 0]) (fun _ => True) ?_ fun b2 _ => ?_
 ·refine xn1 ?_
  intro b2
  exact cy b2 trivial
 refine cut hC hGL [(0, .str s), (2, .own 0 (pW b2)), (4, .str s), (5, .str [])] [stC b2 0 0 0 0 0 0 false 0] True xn0 fun _ => ?_
 refine cut hC hGL [(0, .str s), (2, .own 0 (pW b2)), (4, .str s), (5, .str []), (6, .bool false)] [stC b2 0 0 0 0 0 0 false 0] True xn0 fun _ => ?_
 refine cut hC hGL [(2, .own 0 (pW b2)), (4, .str (cutB s 84).1), (5, .str (cutB s 84).2.1), (6, .bool (cutB s 84).2.2)] [stC b2 0 0 0 0 0 0 false 0] True ?_ fun _ => ?_
 ·rcases fO s 84 with ⟨h1, h2⟩ | ⟨m, h1, h2, h3, h4⟩
  ·have e : cutB s 84 = (s, [], false) := by unfold cutB; rw [h1, if_pos (by decide)]
   rw [h1] at k1
   rw [e]
   exact xw0
  ·have e : cutB s 84 = (s.take m, s.drop (m + 1), true) := by unfold cutB; rw [h2, if_neg (by omega), Int.toNat_natCast]
   rw [h2] at k1
   rw [e]
   exact xw0
 generalize (cutB s 84).1 = d at *
 generalize (cutB s 84).2.1 = t at *
 generalize (cutB s 84).2.2 = timed at *
 refine aH hC hGL (xn1 ?_)
 intros
 refine lp hC hGL (fun k : Nat => [(2, .own 0 (pW b2)), (4, .str d), (5, .str t), (6, .bool timed), (26, .list 3 7 aI), (27, .int .i64 7), (28, .int .i64 (k : Nat))]) (fun _ => [stC b2 0 0 0 0 0 0 false 0]) (WInv d t timed) (fun k => 7 - k) 0 ⟨by decide, .inl fun j h => absurd h (Nat.not_lt_zero _)⟩ aj rfl ?_
 rintro k ⟨hk7, hI⟩
 by_cases hk : ¬ k < 7
 ·have hr : whR d timed t = (Stm.no, .errno 3) := by
   rcases hI with h | ⟨h, _⟩
   ·exact EN (wf fun j hj => h j (by omega))
   ·exact h
  rw [hr]
  exact xn0
 have hk : k < 7 := Decidable.not_not.1 hk
 have hsh := hSh d (by omega)
 refine xn1 ?_
 intro b9
 intros
 refine a8 mixed hC hGL true (fun _ _ => False) (fun _ : Unit => [(2, .own 0 (pW b2)), (4, .str d), (5, .str t), (6, .bool timed), (26, .list 3 7 aI), (27, .int .i64 7), (28, .int .i64 (k : Nat)), (9, .own 1 (pW b9)), (36, .bool (!seqB (shpS d) (aC k)))]) (fun _ => [stC b2 0 0 0 0 0 0 false 0, .cells b9 (some 148) [.str (aU k), .str (aC k), .str (clkF k)]]) (.take 0 (.take 2 (.take 3 (.br 1 (.take 4 (.done)) (.nil))))) (by kernel_rfl) ?_ ?_ (fun _ _ h => h.elim)
 ·refine xn ?_
  repeat' (first | exact Le.n | refine Lc.mk ?_ ?_)
  all_goals intros
  all_goals exact ⟨(), aj, aD⟩
 intro _
 by_cases he : ¬ shpS d = aC k
 ·refine xn1 ?_
  intros
  refine nxs (k + 1) ⟨by omega, ?_⟩ (by omega) aj aD
  rcases hI with h | ⟨h, j, hj, h2⟩
  ·exact .inl (bK h he)
  ·exact .inr ⟨h, j, by omega, h2⟩
 have he : shpS d = aC k := Decidable.not_not.1 he
 have hJ : ∀ j, j < k → shpS d ≠ aC j := by
  rcases hI with h | ⟨h, j, hj, h2⟩
  ·exact h
  ·exact absurd (tO (by omega) (by omega) (h2.symm.trans he)) (by omega)
 obtain ⟨u1, u2, -⟩ := rR (by omega) he
 have hra := hA d (by omega)
 cases timed with
 | false =>
  have hst := bi (G := G) hM hGL k 0 (by omega) (by decide) (outB 45 d) [] [] u1 u2 rfl (fun j _ h => absurd h (Nat.not_lt_zero _)) (by simp)
  rw [Fa (t := t) (by omega) he] at hst
  generalize whR d false t = W at *
  obtain ⟨w, ew⟩ := W
  dsimp only at hst ⊢
  refine xn1 ?_
  intros
  refine eq (aM (i := 1) (k := 9) rfl rfl) ?_
  refine a8 mixed hC hGL false (fun _ _ => False) (fun _ : Unit => [(2, .own 0 (pW b2)), (3, .int .i64 ew.e)]) (fun _ => [stC b2 w.y w.m w.d w.h w.i w.s w.z w.o]) (.take 0 (.take 1 (.take 2 (.br 3 (.br 4 (.take 5 (.take 6 (.br 7 (.take 8 (.done)) (.nil)))) (.nil)) (.nil))))) (by kernel_rfl) ?_ ?_ (fun _ _ h => h.elim)
  ·refine xn ?_
   repeat' (first | exact Le.n | refine Lc.mk ?_ ?_)
   all_goals intros
   all_goals exact ⟨(), aj, aD⟩
  ·intro _
   exact xn0
 | true =>
  have hcont : NoSp t 6 → WInv d t true (k + 1) := fun h => ⟨by omega, .inr ⟨zW (by rw [ol (by omega) he]; omega) (Bm h), k, by omega, he⟩⟩
  refine xn1 ?_
  intros
  refine lp hC hGL (fun j : Nat => [(2, .own 0 (pW b2)), (4, .str d), (5, .str t), (6, .bool true), (26, .list 3 7 aI), (27, .int .i64 7), (28, .int .i64 (k : Nat)), (9, .own 1 (pW b9)), (47, .list 3 (7 - 1) (fun i => aI (1 + i))), (48, .int .i64 6), (49, .int .i64 (j : Nat))]) (fun _ => [stC b2 0 0 0 0 0 0 false 0, .cells b9 (some 148) [.str (aU k), .str (aC k), .str (clkF k)]]) (fun j => j ≤ 6 ∧ NoSp t j) (fun j => 6 - j) 0 ⟨by decide, FL⟩ aj rfl ?_
  rintro j ⟨hj6, hno⟩
  rcases (show j = 0 ∨ j = 1 ∨ j = 2 ∨ j = 3 ∨ j = 4 ∨ j = 5 ∨ j = 6 by omega) with rfl | rfl | rfl | rfl | rfl | rfl | rfl
  ·as_aux_lemma =>
    have hcl : (clkF 1).length = 2 := rfl
    have hcl2 : (clkF (1 + 0)).length = 2 := rfl
    refine xn1 ?_
    intro b11
    intros
    by_cases h1 : t.length < 2
    ·have hns : ¬ IsSp t 1 (clkF 1).length := fun h => by have := h.hn; omega
     refine a8 mixed hC hGL true (fun _ _ => False) (fun _ : Unit => [(2, .own 0 (pW b2)), (4, .str d), (5, .str t), (6, .bool true), (26, .list 3 7 aI), (27, .int .i64 7), (28, .int .i64 (k : Nat)), (9, .own 1 (pW b9)), (11, .own 2 (pW b11)), (12, .int .i64 (2 : Nat)), (47, .list 3 (7 - 1) (fun i => aI (1 + i))), (48, .int .i64 6), (49, .int .i64 (0 : Nat)), (68, .bool true)]) (fun _ => [stC b2 0 0 0 0 0 0 false 0, .cells b9 (some 148) [.str (aU k), .str (aC k), .str (clkF k)], .cells b11 (some 148) [.str (aU 1), .str (aC 1), .str (clkF 1)]]) (.take 0 (.take 1 (.take 2 (.take 3 (.take 4 (.take 5 (.take 6 (.take 7 (.take 9 (.take 10 (.br 8 (.take 11 (.take 12 (.done))) (.nil)))))))))))) (by kernel_rfl) ?_ ?_ (fun _ _ h => h.elim)
     ·refine xn ?_
      repeat' (first | exact Le.n | refine Lc.mk ?_ ?_)
      all_goals intros
      all_goals exact ⟨(), aj, aD⟩
     intro _
     refine xn1 ?_
     intros
     exact nxs 1 ⟨by decide, a7 hno hns⟩ (by decide) aj aD
    have hs2 := hSh (t.take 2) (by rw [List.length_take]; omega)
    by_cases h2 : ¬ shpS (t.take 2) = clkF 1
    ·have hns : ¬ IsSp t 1 (clkF 1).length := fun h => h2 h.hs
     refine a8 mixed hC hGL true (fun _ _ => False) (fun _ : Unit => [(2, .own 0 (pW b2)), (4, .str d), (5, .str t), (6, .bool true), (26, .list 3 7 aI), (27, .int .i64 7), (28, .int .i64 (k : Nat)), (9, .own 1 (pW b9)), (11, .own 2 (pW b11)), (12, .int .i64 (2 : Nat)), (47, .list 3 (7 - 1) (fun i => aI (1 + i))), (48, .int .i64 6), (49, .int .i64 (0 : Nat)), (68, .bool (!seqB (shpS (t.take 2)) (clkF 1)))]) (fun _ => [stC b2 0 0 0 0 0 0 false 0, .cells b9 (some 148) [.str (aU k), .str (aC k), .str (clkF k)], .cells b11 (some 148) [.str (aU 1), .str (aC 1), .str (clkF 1)]]) (.take 0 (.take 1 (.take 2 (.take 3 (.take 4 (.take 5 (.take 6 (.take 7 (.take 9 (.take 10 (.br 8 (.take 11 (.take 12 (.done))) (.nil)))))))))))) (by kernel_rfl) ?_ ?_ (fun _ _ h => h.elim)
     ·refine xn ?_
      repeat' (first | exact Le.n | refine Lc.mk ?_ ?_)
      all_goals intros
      all_goals exact ⟨(), aj, aD⟩
     intro _
     refine xn1 ?_
     intros
     exact nxs 1 ⟨by decide, a7 hno hns⟩ (by decide) aj aD
    have h2 : shpS (t.take 2) = clkF 1 := Decidable.not_not.1 h2
    refine a8 mixed hC hGL true (fun _ _ => False) (fun _ : Unit => [(2, .own 0 (pW b2)), (4, .str d), (5, .str t), (6, .bool true), (26, .list 3 7 aI), (27, .int .i64 7), (28, .int .i64 (k : Nat)), (9, .own 1 (pW b9)), (11, .own 2 (pW b11)), (12, .int .i64 (2 : Nat)), (47, .list 3 (7 - 1) (fun i => aI (1 + i))), (48, .int .i64 6), (49, .int .i64 (0 : Nat)), (68, .bool (!seqB (shpS (t.take 2)) (clkF 1)))]) (fun _ => [stC b2 0 0 0 0 0 0 false 0, .cells b9 (some 148) [.str (aU k), .str (aC k), .str (clkF k)], .cells b11 (some 148) [.str (aU 1), .str (aC 1), .str (clkF 1)]]) (.take 0 (.take 1 (.take 2 (.take 3 (.take 4 (.take 5 (.take 6 (.take 7 (.take 9 (.take 10 (.br 8 (.take 11 (.take 12 (.done))) (.nil)))))))))))) (by kernel_rfl) ?_ ?_ (fun _ _ h => h.elim)
    ·refine xn ?_
     repeat' (first | exact Le.n | refine Lc.mk ?_ ?_)
     all_goals intros
     all_goals exact ⟨(), aj, aD⟩
    intro _
    have hs3 := hSh t (by omega)
    have hp3 := hP (shpS t) [57, 57, 57, 57]
    have hls := kg t
    by_cases h3 : t.length = 2
    ·have hsp : IsSp t 1 2 := ⟨by decide, by decide, by omega, h2, .inl h3.symm⟩
     have hd0 : (t.drop 2).length = 0 := by rw [List.length_drop]; omega
     rw [nw (by rw [hls, h3]; decide)] at hp3
     have hra2 := hA (t.take 2) (by rw [List.length_take]; omega)
     obtain ⟨v1, v2, -⟩ := de (i := 1) (by decide) h2
     have hst := bi (G := G) hM hGL k 1 (by omega) (by decide) (outB 45 d) (outB 45 (t.take 2)) (t.drop 2) u1 u2 v1 v2 (by rw [List.length_drop]; omega)
     rw [eY (by omega) he hsp] at hst
     generalize whR d true t = W at *
     obtain ⟨w, ew⟩ := W
     dsimp only at hst ⊢
     refine xn1 ?_
     intros
     refine eq (aN (aM (i := 2) (k := 11) rfl rfl) (aM (i := 1) (k := 9) rfl rfl)) ?_
     refine a8 mixed hC hGL false (fun _ _ => False) (fun _ : Unit => [(2, .own 0 (pW b2)), (3, .int .i64 ew.e)]) (fun _ => [stC b2 w.y w.m w.d w.h w.i w.s w.z w.o]) (.take 0 (.take 1 (.take 2 (.take 3 (.take 4 (.take 6 (.take 7 (.take 8 (.take 10 (.br 5 (.br 9 (.br 11 (.take 12 (.take 13 (.br 14 (.take 15 (.done)) (.nil)))) (.nil)) (.nil)) (.nil))))))))))) (by kernel_rfl) ?_ ?_ (fun _ _ h => h.elim)
     ·refine xn ?_
      repeat' (first | exact Le.n | refine Lc.mk ?_ ?_)
      all_goals intros
      all_goals exact ⟨(), aj, aD⟩
     ·intro _
      exact xn0
    have hdn : (t.drop 2).length ≠ 0 := by rw [List.length_drop]; omega
    have hbz : aa (t.drop 2) 0 = aa t 2 := by rw [bu]
    have hb9 := aX (t.drop 2) 0
    have hx := hX (aa (t.drop 2) 0 : Int) (by omega) (by omega)
    by_cases h4 : aa t 2 = 90 ∨ aa t 2 = 43 ∨ aa t 2 = 45
    ·have hsp : IsSp t 1 2 := ⟨by decide, by decide, by omega, h2, .inr h4⟩
     have hix : 0 ≤ idxB [90, 43, 45] (aa (t.drop 2) 0 : Int) := cG.2 (by omega)
     rw [vp (n := 2) (by decide) (fun e => m9 (t := t) (n := 2) (by omega) h4 (e.symm.trans GQ))] at hp3
     generalize idxB [90, 43, 45] (aa (t.drop 2) 0 : Int) = ix at *
     have hra2 := hA (t.take 2) (by rw [List.length_take]; omega)
     obtain ⟨v1, v2, -⟩ := de (i := 1) (by decide) h2
     have hst := bi (G := G) hM hGL k 1 (by omega) (by decide) (outB 45 d) (outB 45 (t.take 2)) (t.drop 2) u1 u2 v1 v2 (by rw [List.length_drop]; omega)
     rw [eY (by omega) he hsp] at hst
     generalize whR d true t = W at *
     obtain ⟨w, ew⟩ := W
     dsimp only at hst ⊢
     refine xn1 ?_
     intros
     refine eq (aN (aM (i := 2) (k := 11) rfl rfl) (aM (i := 1) (k := 9) rfl rfl)) ?_
     refine a8 mixed hC hGL false (fun _ _ => False) (fun _ : Unit => [(2, .own 0 (pW b2)), (3, .int .i64 ew.e)]) (fun _ => [stC b2 w.y w.m w.d w.h w.i w.s w.z w.o]) (.take 0 (.take 1 (.take 2 (.take 3 (.take 4 (.take 6 (.take 7 (.take 8 (.take 10 (.br 5 (.br 9 (.br 11 (.take 12 (.take 13 (.br 14 (.take 15 (.done)) (.nil)))) (.nil)) (.nil)) (.nil))))))))))) (by kernel_rfl) ?_ ?_ (fun _ _ h => h.elim)
     ·refine xn ?_
      repeat' (first | exact Le.n | refine Lc.mk ?_ ?_)
      all_goals intros
      all_goals exact ⟨(), aj, aD⟩
     ·intro _
      exact xn0
    ·have hns : ¬ IsSp t 1 (clkF 1).length := fun h => by have := h.hz; rw [hcl] at this; omega
     have hix : ¬ 0 ≤ idxB [90, 43, 45] (aa (t.drop 2) 0 : Int) := fun h => by have := cG.1 h; omega
     generalize idxB [90, 43, 45] (aa (t.drop 2) 0 : Int) = ix at *
     refine xn1 ?_
     intros
     exact nxs 1 ⟨by decide, a7 hno hns⟩ (by decide) aj aD
  ·as_aux_lemma =>
    have hcl : (clkF 2).length = 4 := rfl
    have hcl2 : (clkF (1 + 1)).length = 4 := rfl
    refine xn1 ?_
    intro b11
    intros
    by_cases h1 : t.length < 4
    ·have hns : ¬ IsSp t 2 (clkF 2).length := fun h => by have := h.hn; omega
     refine a8 mixed hC hGL true (fun _ _ => False) (fun _ : Unit => [(2, .own 0 (pW b2)), (4, .str d), (5, .str t), (6, .bool true), (26, .list 3 7 aI), (27, .int .i64 7), (28, .int .i64 (k : Nat)), (9, .own 1 (pW b9)), (11, .own 2 (pW b11)), (12, .int .i64 (4 : Nat)), (47, .list 3 (7 - 1) (fun i => aI (1 + i))), (48, .int .i64 6), (49, .int .i64 (1 : Nat)), (68, .bool true)]) (fun _ => [stC b2 0 0 0 0 0 0 false 0, .cells b9 (some 148) [.str (aU k), .str (aC k), .str (clkF k)], .cells b11 (some 148) [.str (aU 2), .str (aC 2), .str (clkF 2)]]) (.take 0 (.take 1 (.take 2 (.take 3 (.take 4 (.take 5 (.take 6 (.take 7 (.take 9 (.take 10 (.br 8 (.take 11 (.take 12 (.done))) (.nil)))))))))))) (by kernel_rfl) ?_ ?_ (fun _ _ h => h.elim)
     ·refine xn ?_
      repeat' (first | exact Le.n | refine Lc.mk ?_ ?_)
      all_goals intros
      all_goals exact ⟨(), aj, aD⟩
     intro _
     refine xn1 ?_
     intros
     exact nxs 2 ⟨by decide, a7 hno hns⟩ (by decide) aj aD
    have hs2 := hSh (t.take 4) (by rw [List.length_take]; omega)
    by_cases h2 : ¬ shpS (t.take 4) = clkF 2
    ·have hns : ¬ IsSp t 2 (clkF 2).length := fun h => h2 h.hs
     refine a8 mixed hC hGL true (fun _ _ => False) (fun _ : Unit => [(2, .own 0 (pW b2)), (4, .str d), (5, .str t), (6, .bool true), (26, .list 3 7 aI), (27, .int .i64 7), (28, .int .i64 (k : Nat)), (9, .own 1 (pW b9)), (11, .own 2 (pW b11)), (12, .int .i64 (4 : Nat)), (47, .list 3 (7 - 1) (fun i => aI (1 + i))), (48, .int .i64 6), (49, .int .i64 (1 : Nat)), (68, .bool (!seqB (shpS (t.take 4)) (clkF 2)))]) (fun _ => [stC b2 0 0 0 0 0 0 false 0, .cells b9 (some 148) [.str (aU k), .str (aC k), .str (clkF k)], .cells b11 (some 148) [.str (aU 2), .str (aC 2), .str (clkF 2)]]) (.take 0 (.take 1 (.take 2 (.take 3 (.take 4 (.take 5 (.take 6 (.take 7 (.take 9 (.take 10 (.br 8 (.take 11 (.take 12 (.done))) (.nil)))))))))))) (by kernel_rfl) ?_ ?_ (fun _ _ h => h.elim)
     ·refine xn ?_
      repeat' (first | exact Le.n | refine Lc.mk ?_ ?_)
      all_goals intros
      all_goals exact ⟨(), aj, aD⟩
     intro _
     refine xn1 ?_
     intros
     exact nxs 2 ⟨by decide, a7 hno hns⟩ (by decide) aj aD
    have h2 : shpS (t.take 4) = clkF 2 := Decidable.not_not.1 h2
    refine a8 mixed hC hGL true (fun _ _ => False) (fun _ : Unit => [(2, .own 0 (pW b2)), (4, .str d), (5, .str t), (6, .bool true), (26, .list 3 7 aI), (27, .int .i64 7), (28, .int .i64 (k : Nat)), (9, .own 1 (pW b9)), (11, .own 2 (pW b11)), (12, .int .i64 (4 : Nat)), (47, .list 3 (7 - 1) (fun i => aI (1 + i))), (48, .int .i64 6), (49, .int .i64 (1 : Nat)), (68, .bool (!seqB (shpS (t.take 4)) (clkF 2)))]) (fun _ => [stC b2 0 0 0 0 0 0 false 0, .cells b9 (some 148) [.str (aU k), .str (aC k), .str (clkF k)], .cells b11 (some 148) [.str (aU 2), .str (aC 2), .str (clkF 2)]]) (.take 0 (.take 1 (.take 2 (.take 3 (.take 4 (.take 5 (.take 6 (.take 7 (.take 9 (.take 10 (.br 8 (.take 11 (.take 12 (.done))) (.nil)))))))))))) (by kernel_rfl) ?_ ?_ (fun _ _ h => h.elim)
    ·refine xn ?_
     repeat' (first | exact Le.n | refine Lc.mk ?_ ?_)
     all_goals intros
     all_goals exact ⟨(), aj, aD⟩
    intro _
    have hs3 := hSh t (by omega)
    have hp3 := hP (shpS t) [57, 57, 57, 57, 57, 57]
    have hls := kg t
    by_cases h3 : t.length = 4
    ·have hsp : IsSp t 2 4 := ⟨by decide, by decide, by omega, h2, .inl h3.symm⟩
     have hd0 : (t.drop 4).length = 0 := by rw [List.length_drop]; omega
     rw [nw (by rw [hls, h3]; decide)] at hp3
     have hra2 := hA (t.take 4) (by rw [List.length_take]; omega)
     obtain ⟨v1, v2, -⟩ := de (i := 2) (by decide) h2
     have hst := bi (G := G) hM hGL k 2 (by omega) (by decide) (outB 45 d) (outB 45 (t.take 4)) (t.drop 4) u1 u2 v1 v2 (by rw [List.length_drop]; omega)
     rw [eY (by omega) he hsp] at hst
     generalize whR d true t = W at *
     obtain ⟨w, ew⟩ := W
     dsimp only at hst ⊢
     refine xn1 ?_
     intros
     refine eq (aN (aM (i := 2) (k := 11) rfl rfl) (aM (i := 1) (k := 9) rfl rfl)) ?_
     refine a8 mixed hC hGL false (fun _ _ => False) (fun _ : Unit => [(2, .own 0 (pW b2)), (3, .int .i64 ew.e)]) (fun _ => [stC b2 w.y w.m w.d w.h w.i w.s w.z w.o]) (.take 0 (.take 1 (.take 2 (.take 3 (.take 4 (.take 6 (.take 7 (.take 8 (.take 10 (.br 5 (.br 9 (.br 11 (.take 12 (.take 13 (.br 14 (.take 15 (.done)) (.nil)))) (.nil)) (.nil)) (.nil))))))))))) (by kernel_rfl) ?_ ?_ (fun _ _ h => h.elim)
     ·refine xn ?_
      repeat' (first | exact Le.n | refine Lc.mk ?_ ?_)
      all_goals intros
      all_goals exact ⟨(), aj, aD⟩
     ·intro _
      exact xn0
    have hdn : (t.drop 4).length ≠ 0 := by rw [List.length_drop]; omega
    have hbz : aa (t.drop 4) 0 = aa t 4 := by rw [bu]
    have hb9 := aX (t.drop 4) 0
    have hx := hX (aa (t.drop 4) 0 : Int) (by omega) (by omega)
    by_cases h4 : aa t 4 = 90 ∨ aa t 4 = 43 ∨ aa t 4 = 45
    ·have hsp : IsSp t 2 4 := ⟨by decide, by decide, by omega, h2, .inr h4⟩
     have hix : 0 ≤ idxB [90, 43, 45] (aa (t.drop 4) 0 : Int) := cG.2 (by omega)
     rw [vp (n := 4) (by decide) (fun e => m9 (t := t) (n := 4) (by omega) h4 (e.symm.trans GP))] at hp3
     generalize idxB [90, 43, 45] (aa (t.drop 4) 0 : Int) = ix at *
     have hra2 := hA (t.take 4) (by rw [List.length_take]; omega)
     obtain ⟨v1, v2, -⟩ := de (i := 2) (by decide) h2
     have hst := bi (G := G) hM hGL k 2 (by omega) (by decide) (outB 45 d) (outB 45 (t.take 4)) (t.drop 4) u1 u2 v1 v2 (by rw [List.length_drop]; omega)
     rw [eY (by omega) he hsp] at hst
     generalize whR d true t = W at *
     obtain ⟨w, ew⟩ := W
     dsimp only at hst ⊢
     refine xn1 ?_
     intros
     refine eq (aN (aM (i := 2) (k := 11) rfl rfl) (aM (i := 1) (k := 9) rfl rfl)) ?_
     refine a8 mixed hC hGL false (fun _ _ => False) (fun _ : Unit => [(2, .own 0 (pW b2)), (3, .int .i64 ew.e)]) (fun _ => [stC b2 w.y w.m w.d w.h w.i w.s w.z w.o]) (.take 0 (.take 1 (.take 2 (.take 3 (.take 4 (.take 6 (.take 7 (.take 8 (.take 10 (.br 5 (.br 9 (.br 11 (.take 12 (.take 13 (.br 14 (.take 15 (.done)) (.nil)))) (.nil)) (.nil)) (.nil))))))))))) (by kernel_rfl) ?_ ?_ (fun _ _ h => h.elim)
     ·refine xn ?_
      repeat' (first | exact Le.n | refine Lc.mk ?_ ?_)
      all_goals intros
      all_goals exact ⟨(), aj, aD⟩
     ·intro _
      exact xn0
    ·have hns : ¬ IsSp t 2 (clkF 2).length := fun h => by have := h.hz; rw [hcl] at this; omega
     have hix : ¬ 0 ≤ idxB [90, 43, 45] (aa (t.drop 4) 0 : Int) := fun h => by have := cG.1 h; omega
     generalize idxB [90, 43, 45] (aa (t.drop 4) 0 : Int) = ix at *
     refine xn1 ?_
     intros
     exact nxs 2 ⟨by decide, a7 hno hns⟩ (by decide) aj aD
  ·as_aux_lemma =>
    have hcl : (clkF 3).length = 6 := rfl
    have hcl2 : (clkF (1 + 2)).length = 6 := rfl
    refine xn1 ?_
    intro b11
    intros
    by_cases h1 : t.length < 6
    ·have hns : ¬ IsSp t 3 (clkF 3).length := fun h => by have := h.hn; omega
     refine a8 mixed hC hGL true (fun _ _ => False) (fun _ : Unit => [(2, .own 0 (pW b2)), (4, .str d), (5, .str t), (6, .bool true), (26, .list 3 7 aI), (27, .int .i64 7), (28, .int .i64 (k : Nat)), (9, .own 1 (pW b9)), (11, .own 2 (pW b11)), (12, .int .i64 (6 : Nat)), (47, .list 3 (7 - 1) (fun i => aI (1 + i))), (48, .int .i64 6), (49, .int .i64 (2 : Nat)), (68, .bool true)]) (fun _ => [stC b2 0 0 0 0 0 0 false 0, .cells b9 (some 148) [.str (aU k), .str (aC k), .str (clkF k)], .cells b11 (some 148) [.str (aU 3), .str (aC 3), .str (clkF 3)]]) (.take 0 (.take 1 (.take 2 (.take 3 (.take 4 (.take 5 (.take 6 (.take 7 (.take 9 (.take 10 (.br 8 (.take 11 (.take 12 (.done))) (.nil)))))))))))) (by kernel_rfl) ?_ ?_ (fun _ _ h => h.elim)
     ·refine xn ?_
      repeat' (first | exact Le.n | refine Lc.mk ?_ ?_)
      all_goals intros
      all_goals exact ⟨(), aj, aD⟩
     intro _
     refine xn1 ?_
     intros
     exact nxs 3 ⟨by decide, a7 hno hns⟩ (by decide) aj aD
    have hs2 := hSh (t.take 6) (by rw [List.length_take]; omega)
    by_cases h2 : ¬ shpS (t.take 6) = clkF 3
    ·have hns : ¬ IsSp t 3 (clkF 3).length := fun h => h2 h.hs
     refine a8 mixed hC hGL true (fun _ _ => False) (fun _ : Unit => [(2, .own 0 (pW b2)), (4, .str d), (5, .str t), (6, .bool true), (26, .list 3 7 aI), (27, .int .i64 7), (28, .int .i64 (k : Nat)), (9, .own 1 (pW b9)), (11, .own 2 (pW b11)), (12, .int .i64 (6 : Nat)), (47, .list 3 (7 - 1) (fun i => aI (1 + i))), (48, .int .i64 6), (49, .int .i64 (2 : Nat)), (68, .bool (!seqB (shpS (t.take 6)) (clkF 3)))]) (fun _ => [stC b2 0 0 0 0 0 0 false 0, .cells b9 (some 148) [.str (aU k), .str (aC k), .str (clkF k)], .cells b11 (some 148) [.str (aU 3), .str (aC 3), .str (clkF 3)]]) (.take 0 (.take 1 (.take 2 (.take 3 (.take 4 (.take 5 (.take 6 (.take 7 (.take 9 (.take 10 (.br 8 (.take 11 (.take 12 (.done))) (.nil)))))))))))) (by kernel_rfl) ?_ ?_ (fun _ _ h => h.elim)
     ·refine xn ?_
      repeat' (first | exact Le.n | refine Lc.mk ?_ ?_)
      all_goals intros
      all_goals exact ⟨(), aj, aD⟩
     intro _
     refine xn1 ?_
     intros
     exact nxs 3 ⟨by decide, a7 hno hns⟩ (by decide) aj aD
    have h2 : shpS (t.take 6) = clkF 3 := Decidable.not_not.1 h2
    refine a8 mixed hC hGL true (fun _ _ => False) (fun _ : Unit => [(2, .own 0 (pW b2)), (4, .str d), (5, .str t), (6, .bool true), (26, .list 3 7 aI), (27, .int .i64 7), (28, .int .i64 (k : Nat)), (9, .own 1 (pW b9)), (11, .own 2 (pW b11)), (12, .int .i64 (6 : Nat)), (47, .list 3 (7 - 1) (fun i => aI (1 + i))), (48, .int .i64 6), (49, .int .i64 (2 : Nat)), (68, .bool (!seqB (shpS (t.take 6)) (clkF 3)))]) (fun _ => [stC b2 0 0 0 0 0 0 false 0, .cells b9 (some 148) [.str (aU k), .str (aC k), .str (clkF k)], .cells b11 (some 148) [.str (aU 3), .str (aC 3), .str (clkF 3)]]) (.take 0 (.take 1 (.take 2 (.take 3 (.take 4 (.take 5 (.take 6 (.take 7 (.take 9 (.take 10 (.br 8 (.take 11 (.take 12 (.done))) (.nil)))))))))))) (by kernel_rfl) ?_ ?_ (fun _ _ h => h.elim)
    ·refine xn ?_
     repeat' (first | exact Le.n | refine Lc.mk ?_ ?_)
     all_goals intros
     all_goals exact ⟨(), aj, aD⟩
    intro _
    by_cases h3 : t.length = 6
    ·have hsp : IsSp t 3 6 := ⟨by decide, by decide, by omega, h2, .inl h3.symm⟩
     have hd0 : (t.drop 6).length = 0 := by rw [List.length_drop]; omega
     have hra2 := hA (t.take 6) (by rw [List.length_take]; omega)
     obtain ⟨v1, v2, -⟩ := de (i := 3) (by decide) h2
     have hst := bi (G := G) hM hGL k 3 (by omega) (by decide) (outB 45 d) (outB 45 (t.take 6)) (t.drop 6) u1 u2 v1 v2 (by rw [List.length_drop]; omega)
     rw [eY (by omega) he hsp] at hst
     generalize whR d true t = W at *
     obtain ⟨w, ew⟩ := W
     dsimp only at hst ⊢
     refine xn1 ?_
     intros
     refine eq (aN (aM (i := 2) (k := 11) rfl rfl) (aM (i := 1) (k := 9) rfl rfl)) ?_
     refine a8 mixed hC hGL false (fun _ _ => False) (fun _ : Unit => [(2, .own 0 (pW b2)), (3, .int .i64 ew.e)]) (fun _ => [stC b2 w.y w.m w.d w.h w.i w.s w.z w.o]) (.take 0 (.take 1 (.take 2 (.take 3 (.take 4 (.take 6 (.take 7 (.take 8 (.take 10 (.br 5 (.br 9 (.br 11 (.take 12 (.take 13 (.br 14 (.take 15 (.done)) (.nil)))) (.nil)) (.nil)) (.nil))))))))))) (by kernel_rfl) ?_ ?_ (fun _ _ h => h.elim)
     ·refine xn ?_
      repeat' (first | exact Le.n | refine Lc.mk ?_ ?_)
      all_goals intros
      all_goals exact ⟨(), aj, aD⟩
     ·intro _
      exact xn0
    have hdn : (t.drop 6).length ≠ 0 := by rw [List.length_drop]; omega
    have hbz : aa (t.drop 6) 0 = aa t 6 := by rw [bu]
    have hb9 := aX (t.drop 6) 0
    have hx := hX (aa (t.drop 6) 0 : Int) (by omega) (by omega)
    by_cases h4 : aa t 6 = 90 ∨ aa t 6 = 43 ∨ aa t 6 = 45
    ·have hsp : IsSp t 3 6 := ⟨by decide, by decide, by omega, h2, .inr h4⟩
     have hix : 0 ≤ idxB [90, 43, 45] (aa (t.drop 6) 0 : Int) := cG.2 (by omega)
     generalize idxB [90, 43, 45] (aa (t.drop 6) 0 : Int) = ix at *
     have hra2 := hA (t.take 6) (by rw [List.length_take]; omega)
     obtain ⟨v1, v2, -⟩ := de (i := 3) (by decide) h2
     have hst := bi (G := G) hM hGL k 3 (by omega) (by decide) (outB 45 d) (outB 45 (t.take 6)) (t.drop 6) u1 u2 v1 v2 (by rw [List.length_drop]; omega)
     rw [eY (by omega) he hsp] at hst
     generalize whR d true t = W at *
     obtain ⟨w, ew⟩ := W
     dsimp only at hst ⊢
     refine xn1 ?_
     intros
     refine eq (aN (aM (i := 2) (k := 11) rfl rfl) (aM (i := 1) (k := 9) rfl rfl)) ?_
     refine a8 mixed hC hGL false (fun _ _ => False) (fun _ : Unit => [(2, .own 0 (pW b2)), (3, .int .i64 ew.e)]) (fun _ => [stC b2 w.y w.m w.d w.h w.i w.s w.z w.o]) (.take 0 (.take 1 (.take 2 (.take 3 (.take 4 (.take 6 (.take 7 (.take 8 (.take 10 (.br 5 (.br 9 (.br 11 (.take 12 (.take 13 (.br 14 (.take 15 (.done)) (.nil)))) (.nil)) (.nil)) (.nil))))))))))) (by kernel_rfl) ?_ ?_ (fun _ _ h => h.elim)
     ·refine xn ?_
      repeat' (first | exact Le.n | refine Lc.mk ?_ ?_)
      all_goals intros
      all_goals exact ⟨(), aj, aD⟩
     ·intro _
      exact xn0
    ·have hns : ¬ IsSp t 3 (clkF 3).length := fun h => by have := h.hz; rw [hcl] at this; omega
     have hix : ¬ 0 ≤ idxB [90, 43, 45] (aa (t.drop 6) 0 : Int) := fun h => by have := cG.1 h; omega
     generalize idxB [90, 43, 45] (aa (t.drop 6) 0 : Int) = ix at *
     refine xn1 ?_
     intros
     exact nxs 3 ⟨by decide, a7 hno hns⟩ (by decide) aj aD
  ·as_aux_lemma =>
    have hcl : (clkF 4).length = 3 := rfl
    have hcl2 : (clkF (1 + 3)).length = 3 := rfl
    refine xn1 ?_
    intro b11
    intros
    by_cases h1 : t.length < 3
    ·have hns : ¬ IsSp t 4 (clkF 4).length := fun h => by have := h.hn; omega
     refine a8 mixed hC hGL true (fun _ _ => False) (fun _ : Unit => [(2, .own 0 (pW b2)), (4, .str d), (5, .str t), (6, .bool true), (26, .list 3 7 aI), (27, .int .i64 7), (28, .int .i64 (k : Nat)), (9, .own 1 (pW b9)), (11, .own 2 (pW b11)), (12, .int .i64 (3 : Nat)), (47, .list 3 (7 - 1) (fun i => aI (1 + i))), (48, .int .i64 6), (49, .int .i64 (3 : Nat)), (68, .bool true)]) (fun _ => [stC b2 0 0 0 0 0 0 false 0, .cells b9 (some 148) [.str (aU k), .str (aC k), .str (clkF k)], .cells b11 (some 148) [.str (aU 4), .str (aC 4), .str (clkF 4)]]) (.take 0 (.take 1 (.take 2 (.take 3 (.take 4 (.take 5 (.take 6 (.take 7 (.take 9 (.take 10 (.br 8 (.take 11 (.take 12 (.done))) (.nil)))))))))))) (by kernel_rfl) ?_ ?_ (fun _ _ h => h.elim)
     ·refine xn ?_
      repeat' (first | exact Le.n | refine Lc.mk ?_ ?_)
      all_goals intros
      all_goals exact ⟨(), aj, aD⟩
     intro _
     refine xn1 ?_
     intros
     exact nxs 4 ⟨by decide, a7 hno hns⟩ (by decide) aj aD
    have hs2 := hSh (t.take 3) (by rw [List.length_take]; omega)
    by_cases h2 : ¬ shpS (t.take 3) = clkF 4
    ·have hns : ¬ IsSp t 4 (clkF 4).length := fun h => h2 h.hs
     refine a8 mixed hC hGL true (fun _ _ => False) (fun _ : Unit => [(2, .own 0 (pW b2)), (4, .str d), (5, .str t), (6, .bool true), (26, .list 3 7 aI), (27, .int .i64 7), (28, .int .i64 (k : Nat)), (9, .own 1 (pW b9)), (11, .own 2 (pW b11)), (12, .int .i64 (3 : Nat)), (47, .list 3 (7 - 1) (fun i => aI (1 + i))), (48, .int .i64 6), (49, .int .i64 (3 : Nat)), (68, .bool (!seqB (shpS (t.take 3)) (clkF 4)))]) (fun _ => [stC b2 0 0 0 0 0 0 false 0, .cells b9 (some 148) [.str (aU k), .str (aC k), .str (clkF k)], .cells b11 (some 148) [.str (aU 4), .str (aC 4), .str (clkF 4)]]) (.take 0 (.take 1 (.take 2 (.take 3 (.take 4 (.take 5 (.take 6 (.take 7 (.take 9 (.take 10 (.br 8 (.take 11 (.take 12 (.done))) (.nil)))))))))))) (by kernel_rfl) ?_ ?_ (fun _ _ h => h.elim)
     ·refine xn ?_
      repeat' (first | exact Le.n | refine Lc.mk ?_ ?_)
      all_goals intros
      all_goals exact ⟨(), aj, aD⟩
     intro _
     refine xn1 ?_
     intros
     exact nxs 4 ⟨by decide, a7 hno hns⟩ (by decide) aj aD
    have h2 : shpS (t.take 3) = clkF 4 := Decidable.not_not.1 h2
    refine a8 mixed hC hGL true (fun _ _ => False) (fun _ : Unit => [(2, .own 0 (pW b2)), (4, .str d), (5, .str t), (6, .bool true), (26, .list 3 7 aI), (27, .int .i64 7), (28, .int .i64 (k : Nat)), (9, .own 1 (pW b9)), (11, .own 2 (pW b11)), (12, .int .i64 (3 : Nat)), (47, .list 3 (7 - 1) (fun i => aI (1 + i))), (48, .int .i64 6), (49, .int .i64 (3 : Nat)), (68, .bool (!seqB (shpS (t.take 3)) (clkF 4)))]) (fun _ => [stC b2 0 0 0 0 0 0 false 0, .cells b9 (some 148) [.str (aU k), .str (aC k), .str (clkF k)], .cells b11 (some 148) [.str (aU 4), .str (aC 4), .str (clkF 4)]]) (.take 0 (.take 1 (.take 2 (.take 3 (.take 4 (.take 5 (.take 6 (.take 7 (.take 9 (.take 10 (.br 8 (.take 11 (.take 12 (.done))) (.nil)))))))))))) (by kernel_rfl) ?_ ?_ (fun _ _ h => h.elim)
    ·refine xn ?_
     repeat' (first | exact Le.n | refine Lc.mk ?_ ?_)
     all_goals intros
     all_goals exact ⟨(), aj, aD⟩
    intro _
    have hs3 := hSh t (by omega)
    have hp3 := hP (shpS t) [45, 57, 57, 57, 57]
    have hls := kg t
    by_cases h3 : t.length = 3
    ·have hsp : IsSp t 4 3 := ⟨by decide, by decide, by omega, h2, .inl h3.symm⟩
     have hd0 : (t.drop 3).length = 0 := by rw [List.length_drop]; omega
     rw [nw (by rw [hls, h3]; decide)] at hp3
     have hra2 := hA (t.take 3) (by rw [List.length_take]; omega)
     obtain ⟨v1, v2, -⟩ := de (i := 4) (by decide) h2
     have hst := bi (G := G) hM hGL k 4 (by omega) (by decide) (outB 45 d) (outB 45 (t.take 3)) (t.drop 3) u1 u2 v1 v2 (by rw [List.length_drop]; omega)
     rw [eY (by omega) he hsp] at hst
     generalize whR d true t = W at *
     obtain ⟨w, ew⟩ := W
     dsimp only at hst ⊢
     refine xn1 ?_
     intros
     refine eq (aN (aM (i := 2) (k := 11) rfl rfl) (aM (i := 1) (k := 9) rfl rfl)) ?_
     refine a8 mixed hC hGL false (fun _ _ => False) (fun _ : Unit => [(2, .own 0 (pW b2)), (3, .int .i64 ew.e)]) (fun _ => [stC b2 w.y w.m w.d w.h w.i w.s w.z w.o]) (.take 0 (.take 1 (.take 2 (.take 3 (.take 4 (.take 6 (.take 7 (.take 8 (.take 10 (.br 5 (.br 9 (.br 11 (.take 12 (.take 13 (.br 14 (.take 15 (.done)) (.nil)))) (.nil)) (.nil)) (.nil))))))))))) (by kernel_rfl) ?_ ?_ (fun _ _ h => h.elim)
     ·refine xn ?_
      repeat' (first | exact Le.n | refine Lc.mk ?_ ?_)
      all_goals intros
      all_goals exact ⟨(), aj, aD⟩
     ·intro _
      exact xn0
    have hdn : (t.drop 3).length ≠ 0 := by rw [List.length_drop]; omega
    have hbz : aa (t.drop 3) 0 = aa t 3 := by rw [bu]
    have hb9 := aX (t.drop 3) 0
    have hx := hX (aa (t.drop 3) 0 : Int) (by omega) (by omega)
    by_cases h4 : aa t 3 = 90 ∨ aa t 3 = 43 ∨ aa t 3 = 45
    ·have hsp : IsSp t 4 3 := ⟨by decide, by decide, by omega, h2, .inr h4⟩
     have hix : 0 ≤ idxB [90, 43, 45] (aa (t.drop 3) 0 : Int) := cG.2 (by omega)
     rw [vp (n := 3) (by decide) (fun e => m9 (t := t) (n := 3) (by omega) h4 (e.symm.trans GO))] at hp3
     generalize idxB [90, 43, 45] (aa (t.drop 3) 0 : Int) = ix at *
     have hra2 := hA (t.take 3) (by rw [List.length_take]; omega)
     obtain ⟨v1, v2, -⟩ := de (i := 4) (by decide) h2
     have hst := bi (G := G) hM hGL k 4 (by omega) (by decide) (outB 45 d) (outB 45 (t.take 3)) (t.drop 3) u1 u2 v1 v2 (by rw [List.length_drop]; omega)
     rw [eY (by omega) he hsp] at hst
     generalize whR d true t = W at *
     obtain ⟨w, ew⟩ := W
     dsimp only at hst ⊢
     refine xn1 ?_
     intros
     refine eq (aN (aM (i := 2) (k := 11) rfl rfl) (aM (i := 1) (k := 9) rfl rfl)) ?_
     refine a8 mixed hC hGL false (fun _ _ => False) (fun _ : Unit => [(2, .own 0 (pW b2)), (3, .int .i64 ew.e)]) (fun _ => [stC b2 w.y w.m w.d w.h w.i w.s w.z w.o]) (.take 0 (.take 1 (.take 2 (.take 3 (.take 4 (.take 6 (.take 7 (.take 8 (.take 10 (.br 5 (.br 9 (.br 11 (.take 12 (.take 13 (.br 14 (.take 15 (.done)) (.nil)))) (.nil)) (.nil)) (.nil))))))))))) (by kernel_rfl) ?_ ?_ (fun _ _ h => h.elim)
     ·refine xn ?_
      repeat' (first | exact Le.n | refine Lc.mk ?_ ?_)
      all_goals intros
      all_goals exact ⟨(), aj, aD⟩
     ·intro _
      exact xn0
    ·have hns : ¬ IsSp t 4 (clkF 4).length := fun h => by have := h.hz; rw [hcl] at this; omega
     have hix : ¬ 0 ≤ idxB [90, 43, 45] (aa (t.drop 3) 0 : Int) := fun h => by have := cG.1 h; omega
     generalize idxB [90, 43, 45] (aa (t.drop 3) 0 : Int) = ix at *
     refine xn1 ?_
     intros
     exact nxs 4 ⟨by decide, a7 hno hns⟩ (by decide) aj aD
  ·as_aux_lemma =>
    have hcl : (clkF 5).length = 5 := rfl
    have hcl2 : (clkF (1 + 4)).length = 5 := rfl
    refine xn1 ?_
    intro b11
    intros
    by_cases h1 : t.length < 5
    ·have hns : ¬ IsSp t 5 (clkF 5).length := fun h => by have := h.hn; omega
     refine a8 mixed hC hGL true (fun _ _ => False) (fun _ : Unit => [(2, .own 0 (pW b2)), (4, .str d), (5, .str t), (6, .bool true), (26, .list 3 7 aI), (27, .int .i64 7), (28, .int .i64 (k : Nat)), (9, .own 1 (pW b9)), (11, .own 2 (pW b11)), (12, .int .i64 (5 : Nat)), (47, .list 3 (7 - 1) (fun i => aI (1 + i))), (48, .int .i64 6), (49, .int .i64 (4 : Nat)), (68, .bool true)]) (fun _ => [stC b2 0 0 0 0 0 0 false 0, .cells b9 (some 148) [.str (aU k), .str (aC k), .str (clkF k)], .cells b11 (some 148) [.str (aU 5), .str (aC 5), .str (clkF 5)]]) (.take 0 (.take 1 (.take 2 (.take 3 (.take 4 (.take 5 (.take 6 (.take 7 (.take 9 (.take 10 (.br 8 (.take 11 (.take 12 (.done))) (.nil)))))))))))) (by kernel_rfl) ?_ ?_ (fun _ _ h => h.elim)
     ·refine xn ?_
      repeat' (first | exact Le.n | refine Lc.mk ?_ ?_)
      all_goals intros
      all_goals exact ⟨(), aj, aD⟩
     intro _
     refine xn1 ?_
     intros
     exact nxs 5 ⟨by decide, a7 hno hns⟩ (by decide) aj aD
    have hs2 := hSh (t.take 5) (by rw [List.length_take]; omega)
    by_cases h2 : ¬ shpS (t.take 5) = clkF 5
    ·have hns : ¬ IsSp t 5 (clkF 5).length := fun h => h2 h.hs
     refine a8 mixed hC hGL true (fun _ _ => False) (fun _ : Unit => [(2, .own 0 (pW b2)), (4, .str d), (5, .str t), (6, .bool true), (26, .list 3 7 aI), (27, .int .i64 7), (28, .int .i64 (k : Nat)), (9, .own 1 (pW b9)), (11, .own 2 (pW b11)), (12, .int .i64 (5 : Nat)), (47, .list 3 (7 - 1) (fun i => aI (1 + i))), (48, .int .i64 6), (49, .int .i64 (4 : Nat)), (68, .bool (!seqB (shpS (t.take 5)) (clkF 5)))]) (fun _ => [stC b2 0 0 0 0 0 0 false 0, .cells b9 (some 148) [.str (aU k), .str (aC k), .str (clkF k)], .cells b11 (some 148) [.str (aU 5), .str (aC 5), .str (clkF 5)]]) (.take 0 (.take 1 (.take 2 (.take 3 (.take 4 (.take 5 (.take 6 (.take 7 (.take 9 (.take 10 (.br 8 (.take 11 (.take 12 (.done))) (.nil)))))))))))) (by kernel_rfl) ?_ ?_ (fun _ _ h => h.elim)
     ·refine xn ?_
      repeat' (first | exact Le.n | refine Lc.mk ?_ ?_)
      all_goals intros
      all_goals exact ⟨(), aj, aD⟩
     intro _
     refine xn1 ?_
     intros
     exact nxs 5 ⟨by decide, a7 hno hns⟩ (by decide) aj aD
    have h2 : shpS (t.take 5) = clkF 5 := Decidable.not_not.1 h2
    refine a8 mixed hC hGL true (fun _ _ => False) (fun _ : Unit => [(2, .own 0 (pW b2)), (4, .str d), (5, .str t), (6, .bool true), (26, .list 3 7 aI), (27, .int .i64 7), (28, .int .i64 (k : Nat)), (9, .own 1 (pW b9)), (11, .own 2 (pW b11)), (12, .int .i64 (5 : Nat)), (47, .list 3 (7 - 1) (fun i => aI (1 + i))), (48, .int .i64 6), (49, .int .i64 (4 : Nat)), (68, .bool (!seqB (shpS (t.take 5)) (clkF 5)))]) (fun _ => [stC b2 0 0 0 0 0 0 false 0, .cells b9 (some 148) [.str (aU k), .str (aC k), .str (clkF k)], .cells b11 (some 148) [.str (aU 5), .str (aC 5), .str (clkF 5)]]) (.take 0 (.take 1 (.take 2 (.take 3 (.take 4 (.take 5 (.take 6 (.take 7 (.take 9 (.take 10 (.br 8 (.take 11 (.take 12 (.done))) (.nil)))))))))))) (by kernel_rfl) ?_ ?_ (fun _ _ h => h.elim)
    ·refine xn ?_
     repeat' (first | exact Le.n | refine Lc.mk ?_ ?_)
     all_goals intros
     all_goals exact ⟨(), aj, aD⟩
    intro _
    by_cases h3 : t.length = 5
    ·have hsp : IsSp t 5 5 := ⟨by decide, by decide, by omega, h2, .inl h3.symm⟩
     have hd0 : (t.drop 5).length = 0 := by rw [List.length_drop]; omega
     have hra2 := hA (t.take 5) (by rw [List.length_take]; omega)
     obtain ⟨v1, v2, -⟩ := de (i := 5) (by decide) h2
     have hst := bi (G := G) hM hGL k 5 (by omega) (by decide) (outB 45 d) (outB 45 (t.take 5)) (t.drop 5) u1 u2 v1 v2 (by rw [List.length_drop]; omega)
     rw [eY (by omega) he hsp] at hst
     generalize whR d true t = W at *
     obtain ⟨w, ew⟩ := W
     dsimp only at hst ⊢
     refine xn1 ?_
     intros
     refine eq (aN (aM (i := 2) (k := 11) rfl rfl) (aM (i := 1) (k := 9) rfl rfl)) ?_
     refine a8 mixed hC hGL false (fun _ _ => False) (fun _ : Unit => [(2, .own 0 (pW b2)), (3, .int .i64 ew.e)]) (fun _ => [stC b2 w.y w.m w.d w.h w.i w.s w.z w.o]) (.take 0 (.take 1 (.take 2 (.take 3 (.take 4 (.take 6 (.take 7 (.take 8 (.take 10 (.br 5 (.br 9 (.br 11 (.take 12 (.take 13 (.br 14 (.take 15 (.done)) (.nil)))) (.nil)) (.nil)) (.nil))))))))))) (by kernel_rfl) ?_ ?_ (fun _ _ h => h.elim)
     ·refine xn ?_
      repeat' (first | exact Le.n | refine Lc.mk ?_ ?_)
      all_goals intros
      all_goals exact ⟨(), aj, aD⟩
     ·intro _
      exact xn0
    have hdn : (t.drop 5).length ≠ 0 := by rw [List.length_drop]; omega
    have hbz : aa (t.drop 5) 0 = aa t 5 := by rw [bu]
    have hb9 := aX (t.drop 5) 0
    have hx := hX (aa (t.drop 5) 0 : Int) (by omega) (by omega)
    by_cases h4 : aa t 5 = 90 ∨ aa t 5 = 43 ∨ aa t 5 = 45
    ·have hsp : IsSp t 5 5 := ⟨by decide, by decide, by omega, h2, .inr h4⟩
     have hix : 0 ≤ idxB [90, 43, 45] (aa (t.drop 5) 0 : Int) := cG.2 (by omega)
     generalize idxB [90, 43, 45] (aa (t.drop 5) 0 : Int) = ix at *
     have hra2 := hA (t.take 5) (by rw [List.length_take]; omega)
     obtain ⟨v1, v2, -⟩ := de (i := 5) (by decide) h2
     have hst := bi (G := G) hM hGL k 5 (by omega) (by decide) (outB 45 d) (outB 45 (t.take 5)) (t.drop 5) u1 u2 v1 v2 (by rw [List.length_drop]; omega)
     rw [eY (by omega) he hsp] at hst
     generalize whR d true t = W at *
     obtain ⟨w, ew⟩ := W
     dsimp only at hst ⊢
     refine xn1 ?_
     intros
     refine eq (aN (aM (i := 2) (k := 11) rfl rfl) (aM (i := 1) (k := 9) rfl rfl)) ?_
     refine a8 mixed hC hGL false (fun _ _ => False) (fun _ : Unit => [(2, .own 0 (pW b2)), (3, .int .i64 ew.e)]) (fun _ => [stC b2 w.y w.m w.d w.h w.i w.s w.z w.o]) (.take 0 (.take 1 (.take 2 (.take 3 (.take 4 (.take 6 (.take 7 (.take 8 (.take 10 (.br 5 (.br 9 (.br 11 (.take 12 (.take 13 (.br 14 (.take 15 (.done)) (.nil)))) (.nil)) (.nil)) (.nil))))))))))) (by kernel_rfl) ?_ ?_ (fun _ _ h => h.elim)
     ·refine xn ?_
      repeat' (first | exact Le.n | refine Lc.mk ?_ ?_)
      all_goals intros
      all_goals exact ⟨(), aj, aD⟩
     ·intro _
      exact xn0
    ·have hns : ¬ IsSp t 5 (clkF 5).length := fun h => by have := h.hz; rw [hcl] at this; omega
     have hix : ¬ 0 ≤ idxB [90, 43, 45] (aa (t.drop 5) 0 : Int) := fun h => by have := cG.1 h; omega
     generalize idxB [90, 43, 45] (aa (t.drop 5) 0 : Int) = ix at *
     refine xn1 ?_
     intros
     exact nxs 5 ⟨by decide, a7 hno hns⟩ (by decide) aj aD
  ·as_aux_lemma =>
    have hcl : (clkF 6).length = 4 := rfl
    have hcl2 : (clkF (1 + 5)).length = 4 := rfl
    refine xn1 ?_
    intro b11
    intros
    by_cases h1 : t.length < 4
    ·have hns : ¬ IsSp t 6 (clkF 6).length := fun h => by have := h.hn; omega
     refine a8 mixed hC hGL true (fun _ _ => False) (fun _ : Unit => [(2, .own 0 (pW b2)), (4, .str d), (5, .str t), (6, .bool true), (26, .list 3 7 aI), (27, .int .i64 7), (28, .int .i64 (k : Nat)), (9, .own 1 (pW b9)), (11, .own 2 (pW b11)), (12, .int .i64 (4 : Nat)), (47, .list 3 (7 - 1) (fun i => aI (1 + i))), (48, .int .i64 6), (49, .int .i64 (5 : Nat)), (68, .bool true)]) (fun _ => [stC b2 0 0 0 0 0 0 false 0, .cells b9 (some 148) [.str (aU k), .str (aC k), .str (clkF k)], .cells b11 (some 148) [.str (aU 6), .str (aC 6), .str (clkF 6)]]) (.take 0 (.take 1 (.take 2 (.take 3 (.take 4 (.take 5 (.take 6 (.take 7 (.take 9 (.take 10 (.br 8 (.take 11 (.take 12 (.done))) (.nil)))))))))))) (by kernel_rfl) ?_ ?_ (fun _ _ h => h.elim)
     ·refine xn ?_
      repeat' (first | exact Le.n | refine Lc.mk ?_ ?_)
      all_goals intros
      all_goals exact ⟨(), aj, aD⟩
     intro _
     refine xn1 ?_
     intros
     exact nxs 6 ⟨by decide, a7 hno hns⟩ (by decide) aj aD
    have hs2 := hSh (t.take 4) (by rw [List.length_take]; omega)
    by_cases h2 : ¬ shpS (t.take 4) = clkF 6
    ·have hns : ¬ IsSp t 6 (clkF 6).length := fun h => h2 h.hs
     refine a8 mixed hC hGL true (fun _ _ => False) (fun _ : Unit => [(2, .own 0 (pW b2)), (4, .str d), (5, .str t), (6, .bool true), (26, .list 3 7 aI), (27, .int .i64 7), (28, .int .i64 (k : Nat)), (9, .own 1 (pW b9)), (11, .own 2 (pW b11)), (12, .int .i64 (4 : Nat)), (47, .list 3 (7 - 1) (fun i => aI (1 + i))), (48, .int .i64 6), (49, .int .i64 (5 : Nat)), (68, .bool (!seqB (shpS (t.take 4)) (clkF 6)))]) (fun _ => [stC b2 0 0 0 0 0 0 false 0, .cells b9 (some 148) [.str (aU k), .str (aC k), .str (clkF k)], .cells b11 (some 148) [.str (aU 6), .str (aC 6), .str (clkF 6)]]) (.take 0 (.take 1 (.take 2 (.take 3 (.take 4 (.take 5 (.take 6 (.take 7 (.take 9 (.take 10 (.br 8 (.take 11 (.take 12 (.done))) (.nil)))))))))))) (by kernel_rfl) ?_ ?_ (fun _ _ h => h.elim)
     ·refine xn ?_
      repeat' (first | exact Le.n | refine Lc.mk ?_ ?_)
      all_goals intros
      all_goals exact ⟨(), aj, aD⟩
     intro _
     refine xn1 ?_
     intros
     exact nxs 6 ⟨by decide, a7 hno hns⟩ (by decide) aj aD
    have h2 : shpS (t.take 4) = clkF 6 := Decidable.not_not.1 h2
    refine a8 mixed hC hGL true (fun _ _ => False) (fun _ : Unit => [(2, .own 0 (pW b2)), (4, .str d), (5, .str t), (6, .bool true), (26, .list 3 7 aI), (27, .int .i64 7), (28, .int .i64 (k : Nat)), (9, .own 1 (pW b9)), (11, .own 2 (pW b11)), (12, .int .i64 (4 : Nat)), (47, .list 3 (7 - 1) (fun i => aI (1 + i))), (48, .int .i64 6), (49, .int .i64 (5 : Nat)), (68, .bool (!seqB (shpS (t.take 4)) (clkF 6)))]) (fun _ => [stC b2 0 0 0 0 0 0 false 0, .cells b9 (some 148) [.str (aU k), .str (aC k), .str (clkF k)], .cells b11 (some 148) [.str (aU 6), .str (aC 6), .str (clkF 6)]]) (.take 0 (.take 1 (.take 2 (.take 3 (.take 4 (.take 5 (.take 6 (.take 7 (.take 9 (.take 10 (.br 8 (.take 11 (.take 12 (.done))) (.nil)))))))))))) (by kernel_rfl) ?_ ?_ (fun _ _ h => h.elim)
    ·refine xn ?_
     repeat' (first | exact Le.n | refine Lc.mk ?_ ?_)
     all_goals intros
     all_goals exact ⟨(), aj, aD⟩
    intro _
    by_cases h3 : t.length = 4
    ·have hsp : IsSp t 6 4 := ⟨by decide, by decide, by omega, h2, .inl h3.symm⟩
     have hd0 : (t.drop 4).length = 0 := by rw [List.length_drop]; omega
     have hra2 := hA (t.take 4) (by rw [List.length_take]; omega)
     obtain ⟨v1, v2, -⟩ := de (i := 6) (by decide) h2
     have hst := bi (G := G) hM hGL k 6 (by omega) (by decide) (outB 45 d) (outB 45 (t.take 4)) (t.drop 4) u1 u2 v1 v2 (by rw [List.length_drop]; omega)
     rw [eY (by omega) he hsp] at hst
     generalize whR d true t = W at *
     obtain ⟨w, ew⟩ := W
     dsimp only at hst ⊢
     refine xn1 ?_
     intros
     refine eq (aN (aM (i := 2) (k := 11) rfl rfl) (aM (i := 1) (k := 9) rfl rfl)) ?_
     refine a8 mixed hC hGL false (fun _ _ => False) (fun _ : Unit => [(2, .own 0 (pW b2)), (3, .int .i64 ew.e)]) (fun _ => [stC b2 w.y w.m w.d w.h w.i w.s w.z w.o]) (.take 0 (.take 1 (.take 2 (.take 3 (.take 4 (.take 6 (.take 7 (.take 8 (.take 10 (.br 5 (.br 9 (.br 11 (.take 12 (.take 13 (.br 14 (.take 15 (.done)) (.nil)))) (.nil)) (.nil)) (.nil))))))))))) (by kernel_rfl) ?_ ?_ (fun _ _ h => h.elim)
     ·refine xn ?_
      repeat' (first | exact Le.n | refine Lc.mk ?_ ?_)
      all_goals intros
      all_goals exact ⟨(), aj, aD⟩
     ·intro _
      exact xn0
    have hdn : (t.drop 4).length ≠ 0 := by rw [List.length_drop]; omega
    have hbz : aa (t.drop 4) 0 = aa t 4 := by rw [bu]
    have hb9 := aX (t.drop 4) 0
    have hx := hX (aa (t.drop 4) 0 : Int) (by omega) (by omega)
    by_cases h4 : aa t 4 = 90 ∨ aa t 4 = 43 ∨ aa t 4 = 45
    ·have hsp : IsSp t 6 4 := ⟨by decide, by decide, by omega, h2, .inr h4⟩
     have hix : 0 ≤ idxB [90, 43, 45] (aa (t.drop 4) 0 : Int) := cG.2 (by omega)
     generalize idxB [90, 43, 45] (aa (t.drop 4) 0 : Int) = ix at *
     have hra2 := hA (t.take 4) (by rw [List.length_take]; omega)
     obtain ⟨v1, v2, -⟩ := de (i := 6) (by decide) h2
     have hst := bi (G := G) hM hGL k 6 (by omega) (by decide) (outB 45 d) (outB 45 (t.take 4)) (t.drop 4) u1 u2 v1 v2 (by rw [List.length_drop]; omega)
     rw [eY (by omega) he hsp] at hst
     generalize whR d true t = W at *
     obtain ⟨w, ew⟩ := W
     dsimp only at hst ⊢
     refine xn1 ?_
     intros
     refine eq (aN (aM (i := 2) (k := 11) rfl rfl) (aM (i := 1) (k := 9) rfl rfl)) ?_
     refine a8 mixed hC hGL false (fun _ _ => False) (fun _ : Unit => [(2, .own 0 (pW b2)), (3, .int .i64 ew.e)]) (fun _ => [stC b2 w.y w.m w.d w.h w.i w.s w.z w.o]) (.take 0 (.take 1 (.take 2 (.take 3 (.take 4 (.take 6 (.take 7 (.take 8 (.take 10 (.br 5 (.br 9 (.br 11 (.take 12 (.take 13 (.br 14 (.take 15 (.done)) (.nil)))) (.nil)) (.nil)) (.nil))))))))))) (by kernel_rfl) ?_ ?_ (fun _ _ h => h.elim)
     ·refine xn ?_
      repeat' (first | exact Le.n | refine Lc.mk ?_ ?_)
      all_goals intros
      all_goals exact ⟨(), aj, aD⟩
     ·intro _
      exact xn0
    ·have hns : ¬ IsSp t 6 (clkF 6).length := fun h => by have := h.hz; rw [hcl] at this; omega
     have hix : ¬ 0 ≤ idxB [90, 43, 45] (aa (t.drop 4) 0 : Int) := fun h => by have := cG.1 h; omega
     generalize idxB [90, 43, 45] (aa (t.drop 4) 0 : Int) = ix at *
     refine xn1 ?_
     intros
     exact nxs 6 ⟨by decide, a7 hno hns⟩ (by decide) aj aD
  ·as_aux_lemma =>
    refine xn1 ?_
    intros
    exact nxs (k + 1) (hcont hno) (by omega) aj aD
end
section
open Go Go.RowKit
theorem BM {c : Nat} (h : c < 256) : isS (eI [(c : Int)]) = aG c := by
 have hb : aa (eI [(c : Int)]) 0 = c := by
  unfold eI aa
  simp
  omega
 rw [Bool.eq_iff_iff, isS]
 have hl : (eI [(c : Int)]).length = 1 := rfl
 rw [hl]
 simp only [Bool.and_eq_true, lP, hl, decide_eq_true_eq]
 constructor
 ·intro h; have := h.1 0 (by omega); rwa [hb] at this
 ·intro h; exact ⟨fun j hj => by rw [show j = 0 by omega, hb]; exact h, by omega, by omega⟩
theorem vF {c : Int} (h : aG c = true) (hc : c ≠ 45) : (48 ≤ c ∧ c ≤ 57) ↔ c ≤ 57 := by
 rw [pJ] at h; omega
theorem nR {b : Bool} {a : Nat} {x : List UInt8} {xs : List (List UInt8)} : dK b a (x :: xs) = if (dm b a x).isNone then dK false (a + x.length + 1) xs else dm b a x := by rw [dK]
theorem qM {x : List UInt8} (h : (45 : UInt8) ∉ x) {j : Nat} (hj : j < x.length) : aa x j ≠ 45 := by
 intro e
 rw [aW hj] at e
 exact h (by rw [← show x[j] = 45 from UInt8.toNat_inj.1 (by rw [e]; rfl)]; exact List.getElem_mem hj)
theorem ny {first : Bool} {a : Nat} {x : List UInt8} {i : Nat} (hi : i < x.length) (hb : lgB first (aa x i : Int) = false) (h0 : ∀ j, j < i → lgB first (aa x j : Int) = true) : dm first a x = .at 3 ((a : Int) + i) := by
 have hf : fstB (fun c => !lgB first c) x = i := gf hi (by rw [hb]; rfl) (fun j hj => by rw [h0 j hj]; rfl)
 unfold dm
 rw [hf, if_pos (by omega)]
theorem iE {first : Bool} {a : Nat} {x : List UInt8} (h0 : ∀ j, j < x.length → lgB first (aa x j : Int) = true) : dm first a x = if x.length = 0 then .at 7 a else if 8 < x.length then .at 4 a else .none := by
 have hf : fstB (fun c => !lgB first c) x = -1 := dO (fun j hj => by rw [h0 j hj]; rfl)
 unfold dm
 rw [hf, if_neg (by omega)]
theorem ld (c : UInt8) : ∀ s : List UInt8, (splS c s).length ≤ s.length + 1 ∧ ∀ p, p ∈ splS c s → p.length ≤ s.length
 | [] => ⟨Nat.le_refl _, fun p h => by simp [splS] at h; subst h; exact Nat.le_refl _⟩
 | x :: t => by
  obtain ⟨h1, h2⟩ := ld c t
  by_cases hx : x = c
  ·rw [splS, if_pos hx]
   refine ⟨by simp only [List.length_cons]; omega, fun p hp => ?_⟩
   rcases List.mem_cons.1 hp with rfl | hp
   ·simp
   ·have := h2 p hp; simp only [List.length_cons]; omega
  ·rw [splS, if_neg hx]
   cases h3 : splS c t with
   | nil => exact absurd h3 (ka c t)
   | cons q qs =>
    rw [h3] at h1 h2
    refine ⟨by simp only [List.length_cons] at *; omega, fun p hp => ?_⟩
    rcases List.mem_cons.1 hp with rfl | hp
    ·have := h2 q (by simp); simp only [List.length_cons]; omega
    ·have := h2 p (by simp [hp]); simp only [List.length_cons]; omega
attribute [local irreducible] AWp AOps aa ax OrOk ab ae
attribute [local irreducible] splS dK lgB isS aG dm
theorem oQ {G : Glo} {m : Int} (hM : ab G (ce m)) (s : List UInt8) (hl : s.length ≤ 3000) : FnIs Tryz.prog G 50 [.str s] (.agg [.int .i64 (ij s).e, .int .i64 (ij s).p]) := by
 have h1 := uN (G := G) hM s 45 (by omega)
 have hgd := fK (G := G)
 have hmem : ∀ k, k < (splS 45 s).length → (45 : UInt8) ∉ (splS 45 s).getD k [] := fun k hk => by
  rw [List.getD_eq_getElem?_getD, List.getElem?_eq_getElem hk]
  exact kb (List.getElem_mem hk)
 have hX : ij s = dK true 0 (splS 45 s) := rfl
 have hlen : ∀ p, p ∈ splS 45 s → p.length ≤ 3000 := fun p hp => Nat.le_trans ((ld 45 s).2 p hp) hl
 have hPl : (splS 45 s).length ≤ 3001 := by have := (ld 45 s).1; omega
 generalize splS 45 s = P at *
 have hGL : ab G [] := ad
 refine fn_x Tryz.func50 Tryz.call50 rfl rfl rfl rfl hGL ?_
 intro C hC
 refine xw1 ?_
 intros
 rename Nat => bl0
 refine lp hC hGL (fun (x : Nat × Nat) => [(2, .own 0 (.pointer (some ⟨bl0, 0, none⟩))), (3, .int .i64 x.2), (9, .list 1 P.length (aO P)), (10, .int .i64 P.length), (11, .int .i64 x.1)]) (fun _ => [.cells bl0 (some 35) [.int .i64 0, .int .i64 0]]) (fun x => x.1 ≤ P.length ∧ x.2 ≤ 4000 * x.1 ∧ ij s = dK (decide (x.1 = 0)) x.2 (P.drop x.1)) (fun x => P.length - x.1) (0, 0) ?_ aj rfl ?_
 ·exact ⟨Nat.zero_le _, Nat.zero_le _, hX⟩
 rintro ⟨k, a⟩ ⟨g1, g2, g3⟩
 dsimp only at g1 g2 g3 ⊢
 by_cases hk : k < P.length
 ·have hx : ∃ x, P.getD k [] = x ∧ P.drop k = x :: P.drop (k + 1) ∧ (45 : UInt8) ∉ x ∧ x.length ≤ 3000 := by
   refine ⟨P.getD k [], rfl, ?_, hmem k hk, ?_⟩
   ·rw [List.drop_eq_getElem_cons hk, List.getD_eq_getElem?_getD, List.getElem?_eq_getElem hk]; rfl
   ·rw [List.getD_eq_getElem?_getD, List.getElem?_eq_getElem hk]; exact hlen _ (List.getElem_mem hk)
  obtain ⟨x, hx, hd, hm, hxl⟩ := hx
  have hxe : aO P k = .str x := by unfold aO; rw [hx]
  rw [hd, nR] at g3
  have hkl : k ≤ 4000 * k := by omega
  repeat' (first | (conv => whnf); first | refine .w ?_ | refine .v ?_ | refine sc_c ?_ ?_ <;> (intro hb; try exact dd hb) | apply ah | apply aq | (apply sc_i <;> intro hb) | (apply bx_i; intro hbd) | (apply ak; first | exact hgd) | (apply ap (i := 0) rfl; first | exact hgd) | (apply ab_i; intro bl) | (apply as_i; intro va vk vc hva) | (apply av_i; intro v) | (apply ac_i; intro bl cap hcap) | apply bo_l | (apply nx_i <;> intro hnx) | exact rt_w | apply dw_q mixed hC hGL (by kernel_rfl) | (apply cq; assumption; (first | exact hgd); exact rfl))
  all_goals try conv => whnf
  rw [hx] at *
  rw [hxe] at *
  refine lp hC hGL (fun (i : Nat) => [(2, .own 0 (.pointer (some ⟨bl0, 0, none⟩))), (3, .int .i64 a), (4, .int .i64 k), (5, .str x), (9, .list 1 P.length (aO P)), (10, .int .i64 P.length), (11, .int .i64 k), (17, .own 1 (.slice (some ⟨bl, 0, none⟩) x.length cap)), (18, .int .i64 x.length), (19, .int .i64 i)]) (fun _ => [.cells bl0 (some 35) [.int .i64 0, .int .i64 0], .buf bl x cap]) (fun i => i ≤ x.length ∧ ∀ j, j < i → lgB (decide (k = 0)) (aa x j : Int) = true) (fun i => x.length - i) 0 ?_ aj rfl ?_
  ·exact ⟨Nat.zero_le _, by intro j hj; omega⟩
  rintro i ⟨hi, hb0⟩
  have hI : i < x.length → FnIs Tryz.prog G 33 [.str (eI [(aa x i : Int)])] (.bool (aG (aa x i))) := fun h => by
   have := A1 (G := G) (eI [(aa x i : Int)]) (by show 1 ≤ _; omega)
   rwa [BM (aX _ _)] at this
  have hW := cY (G := G) (aa x i : Int) 48 57
  refine xw ?_
  repeat' (first | exact Le.n | refine Lc.mk ?_ ?_)
  all_goals intros
  ·refine bF hC hGL (AK [_] rfl (by intro v hv; simp only [List.mem_cons, List.not_mem_nil, or_false] at hv; omega) rfl rfl rfl rfl rfl rfl) rfl rfl ?_
   repeat' (first | (conv => whnf); first | refine .w ?_ | refine .v ?_ | refine sc_c ?_ ?_ <;> (intro hb; try exact dd hb) | apply ah | apply aq | (apply sc_i <;> intro hb) | (apply bx_i; intro hbd) | (apply ak; first | exact hI (by omega) | exact hW) | (apply ap (i := 0) rfl; first | exact hI (by omega) | exact hW) | (apply ab_i; intro bl) | (apply as_i; intro va vk vc hva) | (apply av_i; intro v) | (apply ac_i; intro bl cap hcap) | apply bo_l | (apply nx_i <;> intro hnx) | exact rt_w | apply dw_q mixed hC hGL (by kernel_rfl) | (apply cq; assumption; (first | exact hI (by omega) | exact hW); exact rfl))
   all_goals try conv => whnf
   ·apply ar
    rw [Bool.and_eq_true, decide_eq_true_eq, decide_eq_true_eq] at hb
    rw [g3, ny (by omega) (xP.2 (.inr ⟨by simp; omega, by omega⟩)) hb0]
    rfl
   ·rw [Bool.and_eq_false_iff, decide_eq_false_iff_not, decide_eq_false_iff_not] at hb
    refine nxt (i + 1) ?_ ?_ aj rfl
    ·refine ⟨by omega, bK hb0 (xO.2 ⟨by assumption, fun _ => ?_⟩)⟩
     have := (vF (c := (aa x i : Int)) (by assumption) (by have := qM hm (j := i) (by omega); omega))
     omega
    ·omega
   ·refine nxt (i + 1) ?_ ?_ aj rfl
    ·exact ⟨by omega, bK hb0 (xO.2 ⟨by assumption, fun h => by simp at h; omega⟩)⟩
    ·omega
   ·apply ar
    rw [g3, ny (by omega) (xP.2 (.inl hb)) hb0]
    rfl
  ·apply ar
   have hp := iE (first := decide (k = 0)) (a := a) (x := x) (fun j hj => hb0 j (by omega))
   rw [if_pos (by omega)] at hp
   rw [g3, hp]
   rfl
  ·apply ar
   have hp := iE (first := decide (k = 0)) (a := a) (x := x) (fun j hj => hb0 j (by omega))
   rw [if_neg (by omega), if_pos (by omega)] at hp
   rw [g3, hp]
   rfl
  ·have hp := iE (first := decide (k = 0)) (a := a) (x := x) (fun j hj => hb0 j (by omega))
   rw [if_neg (by omega), if_neg (by omega)] at hp
   rw [hp, if_pos (show Err.none.isNone = true from rfl)] at g3
   refine nxs (k + 1, a + x.length + 1) ⟨by omega, by dsimp only; omega, ?_⟩ (by dsimp only; omega) ⟨rfl, ?_, rfl, rfl, rfl, trivial⟩ (by repeat (first | exact List.nil_sublist _ | apply List.Sublist.cons_cons | apply List.Sublist.cons))
   ·dsimp only
    rw [g3]
    simp
   ·exact congrArg (fun z => some (AVal.int .i64 z)) (by dsimp only; omega)
 ·refine xw1 ?_
  intros
  apply ar
  rw [g3, List.drop_eq_nil_of_le (by omega), dK]
  rfl
end
section
open Go Go.RowKit
theorem kM : ∀ (n : Nat) (s : List UInt8) (i : Nat), s.length ≤ n → (errT s i).e = 0 → errT s i = .none
 | _, [], _, _, _ => rfl
 | 0, c :: r, _, hn, _ => by simp at hn
 | n + 1, c :: r, i, hn, he => by
  have hn : r.length ≤ n := by simpa using hn
  by_cases hc : c = 92
  ·subst hc
   cases r with
   | nil => simp [errT, Err.e] at he
   | cons d r =>
    by_cases hd : okE d = true
    ·rw [iP hd] at he ⊢
     exact kM n r _ (by simp at hn; omega) he
    ·simp [errT, hd, Err.e] at he
  ·rw [iQ hc] at he ⊢
   exact kM n r _ hn he
theorem Di (s : List UInt8) (h : (uriE s).e = 0) : uriE s = .none := by
 unfold uriE at h ⊢
 (repeat' split at h) <;> first | (exfalso; revert h; simp [Err.e]; done) | (rename_i h1 h2 h3; rw [if_neg h1, if_neg h2, if_neg h3])
theorem tq : ∀ (l : List (List UInt8)) (b : Bool) (a : Nat), (dK b a l).e = 0 → dK b a l = .none
 | [], _, _, _ => rfl
 | x :: xs, b, a, h => by
  rw [nR] at h ⊢
  split at h
  ·rename_i k
   rw [if_pos k]
   exact tq xs _ _ h
  ·rename_i k
   exfalso
   revert h k
   unfold dm
   (repeat' split) <;> simp [Err.e, Err.isNone]
theorem EM (d : List UInt8) (b : Bool) (t : List UInt8) : (whR d b t).2.p = -1 ∧ ((whR d b t).2.e = 0 → (whR d b t).2 = .none) := by
 unfold whR finP
 (repeat' split) <;> (refine ⟨rfl, fun h => ?_⟩) <;> first | rfl | (exact absurd h (by assumption)) | (exact absurd h (by decide)) | (rename_i k; exact absurd h k.2)
theorem qa (s : List UInt8) : (dp s).p = -1 ∧ (dp s).e = (aS s).2 ∧ ((dp s).e = 0 → dp s = .none) := by
 unfold dp
 split
 ·rename_i h; exact ⟨rfl, h.symm, fun _ => rfl⟩
 ·rename_i h; exact ⟨rfl, rfl, fun k => absurd k h⟩
theorem GG (s : List UInt8) : (whP s).2.p = -1 := (EM _ _ _).1
theorem DW (l : List (List UInt8)) : AVal.list 1 l.length (aO l) = lstA l := rfl
theorem zY (s : List UInt8) (k : Int) : (vrG s k).2.e = 0 → (vrG s k).2 = .none := by
 unfold vrG
 (repeat' split)
 ·exact kM _ s 0 (Nat.le_refl _)
 ·exact kM _ s 0 (Nat.le_refl _)
 ·exact kM _ s 0 (Nat.le_refl _)
 ·exact Di s
 ·exact (EM _ _ _).2
 ·exact (qa s).2.2
 ·exact tq _ _ _
 ·exact fun _ => rfl
theorem GH (s : List UInt8) (k : Int) (h : 1 ≤ k ∧ k ≤ 8) : (vrG s k).1.t = k := by
 unfold vrG
 (repeat' split) <;> rfl
abbrev vlC (b : Nat) (v : Vl) (t : Int) (q : AVal) : HEnt := .cells b (some 30) [.int .i64 t, .str v.s, q, .int .i64 v.st.y, .int .i64 v.st.m, .int .i64 v.st.d, .int .i64 v.st.h, .int .i64 v.st.i, .int .i64 v.st.s, .bool v.st.z, .int .i64 v.st.o, .int .i64 v.n]
abbrev ftC (b : Nat) (e p : Int) : HEnt := .cells b (some 35) [.int .i64 e, .int .i64 p]
abbrev pAt (b : Nat) : Value := .pointer (some ⟨b, 0, none⟩)
def vrP (s : List UInt8) (k : Int) (r : ARes) (H : Heap) : Prop := ∃ q, r = .ret (.tuple [vlQ (vrV s k).1 q, .agg [.int .i64 (vrV s k).2.e, .int .i64 (vrV s k).2.p]]) ∧ H = [] ∧ LsT (vrV s k).1.L q
attribute [local irreducible] AWp AOps aa ax OrOk ab ae
attribute [local irreducible] hdC hdB badI unS lstS prtS errT uriE ij whP aS dp prtF lstA vrG
theorem np {G : Glo} {m : Int} (hU : ab G utfTy) (hM : ab G (ce m)) (hS : ab G shapesTy) (s : List UInt8) (k : Int) (hl : s.length ≤ 3000) : ae Tryz.prog G 14 [.str s, .int .i64 k] [] (vrP s k) := by
 have hH := y7 hU s false (by omega)
 have hW := cY (G := G) k 1 8
 have hB := fun e => nr (G := G) e
 have hG := fK (G := G)
 have b1 := hB 1
 have b3 := hB 3
 refine fn_a Tryz.func14 Tryz.call14 rfl rfl rfl rfl ?_
 intro C hC
 have hGL : ab G [] := ad
 refine cuty hC hGL (fun x : Nat × Nat => [(0, .str s), (1, .int .i64 k), (4, .own 0 (pAt x.1)), (5, .own 1 (pAt x.2))]) (fun x => [vlC x.1 Vl.no 0 vNil, ftC x.2 0 0]) (fun _ => True) ?_ ?_
 ·refine xb1 ?_
  intro b4 b5
  intros
  exact cy (b4, b5) trivial
 rintro ⟨b4, b5⟩ -
 dsimp only
 by_cases hk : k < 1 ∨ 9 ≤ k
 ·have e : vrV s k = (Vl.no, .errno 1) := by unfold vrV; rw [if_pos hk]
  have e2 : (decide (1 ≤ k) && decide (k ≤ 8)) = false := by rw [Bool.and_eq_false_iff, decide_eq_false_iff_not, decide_eq_false_iff_not]; omega
  rw [e2] at hW
  unfold vrP
  rw [e]
  refine aH hC hGL (xn1 ?_)
  intros
  refine dw_p mixed hC hGL false (fun (_ : Unit) => [(4, .own 0 (pAt b4)), (5, .own 1 (pAt b5))]) (fun _ => [vlC b4 Vl.no 0 vNil, ftC b5 1 (-1)]) (.br 0 (.br 1 (.br 2 (.br 3 (.done) (.nil)) (.nil)) (.nil)) (.br 1 (.br 0 (.br 2 (.br 3 (.done) (.nil)) (.nil)) (.nil)) (.nil))) (by kernel_rfl) ?_ ?_
  ·refine xn ?_
   repeat' (first | exact Le.n | refine Lc.mk ?_ ?_)
   all_goals intros
   all_goals exact ⟨(), aj, rfl⟩
  intro _
  refine xn1 ?_
  intros
  exact ⟨[], List.nil_sublist _, vNil, rfl, rfl, .inl ⟨rfl, rfl⟩⟩
 have e2 : (decide (1 ≤ k) && decide (k ≤ 8)) = true := by rw [Bool.and_eq_true, decide_eq_true_eq, decide_eq_true_eq]; omega
 rw [e2] at hW
 cases hh : hdB false s with
 | false =>
  have e : vrV s k = (Vl.no, .errno 3) := by unfold vrV; rw [if_neg hk, if_pos hh]
  unfold vrP
  rw [e]
  rw [hh] at hH
  refine aH hC hGL (xn1 ?_)
  intros
  refine dw_p mixed hC hGL false (fun (_ : Unit) => [(4, .own 0 (pAt b4)), (5, .own 1 (pAt b5))]) (fun _ => [vlC b4 Vl.no 0 vNil, ftC b5 3 (-1)]) (.br 0 (.br 1 (.br 2 (.br 3 (.done) (.nil)) (.nil)) (.nil)) (.br 1 (.br 0 (.br 2 (.br 3 (.done) (.nil)) (.nil)) (.nil)) (.nil))) (by kernel_rfl) ?_ ?_
  ·refine xn ?_
   repeat' (first | exact Le.n | refine Lc.mk ?_ ?_)
   all_goals intros
   all_goals exact ⟨(), aj, rfl⟩
  intro _
  refine xn1 ?_
  intros
  exact ⟨[], List.nil_sublist _, vNil, rfl, rfl, .inl ⟨rfl, rfl⟩⟩
 | true =>
  rw [hh] at hH
  have hv : vrV s k = (match (vrG s k).2 with | .none => vrG s k | e => (Vl.no, e)) := by unfold vrV; rw [if_neg hk, if_neg (by rw [hh]; decide)]; cases (vrG s k).2 <;> rfl
  have h1 := fo (G := G) s (by omega)
  have h2 := sE (G := G) s (by omega)
  have h3 := y6 (G := G) s (by omega)
  have h4 := qG (G := G) s (by omega)
  have h5 := oN (G := G) hS hM s (by omega)
  have h6 := jA (G := G) s (by omega)
  have h7 := oQ (G := G) hM s (by omega)
  refine cut hC hGL [(0, .str s), (1, .int .i64 k), (4, .own 0 (pAt b4)), (5, .own 1 (pAt b5))] [vlC b4 Vl.no 0 vNil, ftC b5 0 0] True xn0 fun _ => ?_
  refine cut hC hGL [(0, .str s), (1, .int .i64 k), (4, .own 0 (pAt b4)), (5, .own 1 (pAt b5))] [vlC b4 Vl.no 0 vNil, ftC b5 0 0] True xn0 fun _ => ?_
  refine cut hC hGL [(0, .str s), (1, .int .i64 k), (4, .own 0 (pAt b4)), (5, .own 1 (pAt b5))] [vlC b4 Vl.no 0 vNil, ftC b5 0 (-1)] True xn0 fun _ => ?_
  refine cuty hC hGL (fun x : Vl × AVal => [(0, .str s), (1, .int .i64 k), (4, .own 0 (pAt b4)), (5, .own 1 (pAt b5))]) (fun x => [vlC b4 x.1 0 x.2, ftC b5 (vrG s k).2.e (vrG s k).2.p]) (fun x => x.1.s = (vrG s k).1.s ∧ x.1.st = (vrG s k).1.st ∧ x.1.n = (vrG s k).1.n ∧ LsT (vrG s k).1.L x.2) ?_ ?_
  ·clear hv
   rcases (show k = 1 ∨ k = 2 ∨ k = 3 ∨ k = 4 ∨ k = 5 ∨ k = 6 ∨ k = 7 ∨ k = 8 by omega) with rfl | rfl | rfl | rfl | rfl | rfl | rfl | rfl
   all_goals simp only [vrG, if_pos, if_neg, Int.reduceEq, reduceIte]
   ·refine xn1 ?_
    intros
    exact cy (⟨0, unS s, [], Stm.no, 0⟩, vNil) ⟨rfl, rfl, rfl, .inl ⟨rfl, rfl⟩⟩
   ·refine xn1 ?_
    intros
    exact cy (Vl.no, .list 1 1 _) ⟨rfl, rfl, rfl, .inr (.inr ⟨lstS s, _, rfl, DW _, rfl⟩)⟩
   ·refine xn1 ?_
    intros
    exact cy (Vl.no, .list 1 _ _) ⟨rfl, rfl, rfl, .inr (.inl rfl)⟩
   ·refine xn1 ?_
    intros
    exact cy (⟨0, s, [], Stm.no, 0⟩, vNil) ⟨rfl, rfl, rfl, .inl ⟨rfl, rfl⟩⟩
   ·rw [GG]
    refine xn1 ?_
    intros
    exact cy (⟨0, [], [], (whP s).1, 0⟩, vNil) ⟨rfl, rfl, rfl, .inl ⟨rfl, rfl⟩⟩
   ·rw [(qa s).1, (qa s).2.1]
    refine xn1 ?_
    intros
    exact cy (⟨0, [], [], Stm.no, (aS s).1⟩, vNil) ⟨rfl, rfl, rfl, .inl ⟨rfl, rfl⟩⟩
   ·refine xn1 ?_
    intros
    exact cy (⟨0, s, [], Stm.no, 0⟩, vNil) ⟨rfl, rfl, rfl, .inl ⟨rfl, rfl⟩⟩
   ·refine xn1 ?_
    intros
    exact cy (⟨0, s, [], Stm.no, 0⟩, vNil) ⟨rfl, rfl, rfl, .inl ⟨rfl, rfl⟩⟩
  rintro ⟨x, q⟩ ⟨x1, x2, x3, x4⟩
  dsimp only at x1 x2 x3 x4 ⊢
  have h8 := oc (G := G) (vrG s k).2.e (vrG s k).2.p
  have h9 := zY s k
  have h10 := GH s k (by omega)
  unfold vrP
  rw [hv]
  by_cases he : (vrG s k).2.e = 0
  ·rw [h9 he]
   rw [h9 he] at h8
   rw [show eqB (Err.none).e 0 = true from eV.2 rfl] at h8
   simp only [Err.e, Err.p] at h8 ⊢
   have x5 := x4
   rcases x5 with ⟨rfl, _⟩ | rfl | ⟨l, g, rfl, _, _⟩
   all_goals
    refine aH hC hGL (xn1 ?_)
    intros
    refine dw_p mixed hC hGL false (fun (_ : { y : AVal // LsT (vrG s k).1.L y }) => [(4, .own 0 (pAt b4)), (5, .own 1 (pAt b5))]) (fun y => [vlC b4 x k y.1, ftC b5 0 (-1)]) (.br 0 (.br 1 (.br 2 (.br 3 (.done) (.nil)) (.nil)) (.br 2 (.br 1 (.br 3 (.done) (.nil)) (.nil)) (.nil))) (.br 1 (.br 0 (.br 2 (.br 3 (.done) (.nil)) (.nil)) (.nil)) (.nil))) (by kernel_rfl) ?_ ?_
    ·refine xn ?_
     repeat' (first | exact Le.n | refine Lc.mk ?_ ?_)
     all_goals intros
     all_goals exact ⟨⟨_, x4⟩, aj, rfl⟩
    rintro ⟨y, hy⟩
    refine xn1 ?_
    intros
    refine ⟨[], List.nil_sublist _, y, ?_, rfl, hy⟩
    simp only [vlQ, x1, x2, x3, h10, h9 he]
  ·have e3 : (match (vrG s k).2 with | .none => vrG s k | e => (Vl.no, e)) = (Vl.no, (vrG s k).2) := by
    cases hq : (vrG s k).2 with
    | none => rw [hq] at he; exact absurd rfl he
    | errno e => rfl
    | «at» e p => rfl
   rw [e3]
   rw [show eqB (vrG s k).2.e 0 = false from Bool.eq_false_iff.2 fun h => he (eV.1 h)] at h8
   refine aH hC hGL (xn1 ?_)
   intros
   refine dw_p mixed hC hGL false (fun (_ : Unit) => [(4, .own 0 (pAt b4)), (5, .own 1 (pAt b5))]) (fun _ => [vlC b4 Vl.no 0 vNil, ftC b5 (vrG s k).2.e (vrG s k).2.p]) (.br 0 (.br 1 (.br 2 (.br 3 (.done) (.nil)) (.nil)) (.br 2 (.br 1 (.br 3 (.done) (.nil)) (.nil)) (.nil))) (.br 1 (.br 0 (.br 2 (.br 3 (.done) (.nil)) (.nil)) (.nil)) (.nil))) (by kernel_rfl) ?_ ?_
   ·refine xn ?_
    repeat' (first | exact Le.n | refine Lc.mk ?_ ?_)
    all_goals intros
    all_goals exact ⟨(), aj, rfl⟩
   intro _
   refine xn1 ?_
   intros
   exact ⟨[], List.nil_sublist _, vNil, rfl, rfl, .inl ⟨rfl, rfl⟩⟩
theorem oO {G : Glo} {m : Int} (hU : ab G utfTy) (hM : ab G (ce m)) (hS : ab G shapesTy) (s : List UInt8) (k : Int) (hl : s.length ≤ 3000) : FnIs Tryz.prog G 14 [.str s, .int .i64 k] (.tuple [(vrV s k).1.R, .agg [.int .i64 (vrV s k).2.e, .int .i64 (vrV s k).2.p]]) := by
 refine dz (np hU hM hS s k hl) ?_
 rintro r H ⟨q, rfl, rfl, hL⟩
 exact my hL
end
section
open Go Go.RowKit
abbrev pnC (b : Nat) (L : Ln) : HEnt := .cells b (some 45) [.str L.g, .str L.n, .list 2 L.ps.length (prF L.ps), .str L.v]
theorem Fb (s : List UInt8) (k : Int) : (vrV s k).2.e = 0 → (vrV s k).2 = .none := by
 have h := zY s k
 unfold vrV
 split
 ·exact fun h => absurd h (by decide)
 ·split
  ·exact fun h => absurd h (by decide)
  ·split
   ·exact h
   ·exact h
theorem GS {c : Bool} {s : List UInt8} {e p : Int} (h : lpE c s = .at e p) : e ≠ 0 := by
 unfold lpE at h
 cases hl : bT c s with
 | ok l => rw [hl] at h; cases h
 | bad e' p' => rw [hl] at h; cases h; exact ti hl
attribute [local irreducible] AWp AOps aa ax OrOk ab ae
attribute [local irreducible] lpL lpE vrV gt bk prF prtF nV
theorem oR {G : Glo} {m : Int} (hU : ab G utfTy) (hM : ab G (ce m)) (hS : ab G shapesTy) (v : Int) (t : List UInt8) (l : LineS) (hl : l.t.length ≤ 1500) (ht : t.length ≤ 20100) (hb : bndL t l) : ae Tryz.prog G 4 [nO l, .int .i64 v] [] (ciQ v l (.agg [.int .i64 (ciE v l).e, .int .i64 (ciE v l).p])) := by
 have hB := nr (G := G) 1
 have h1 := oP (G := G) hU hM l.t (eqB v 4) (by omega)
 have hin := vC (eqB v 4) l.t
 have hpl := fun i g0 g1 => y5 (G := G) t l i g0 g1 ht hb
 have hGL : ab G [] := ad
 refine fn_a Tryz.func4 Tryz.call4 rfl rfl rfl rfl ?_
 intro C hC
 refine cuty hC hGL (fun x : Nat × Nat => [(1, .int .i64 v), (2, liP l), (4, .own 0 (iAt x.1)), (5, .own 1 (iAt x.2))]) (fun x => [itC x.1 Ln.no Vl.no iN iN, ftC x.2 0 0]) (fun _ => True) ?_ ?_
 ·refine xn1 ?_
  intro b b'
  intros
  exact cy (b, b') trivial
 rintro ⟨b4, b5⟩ _
 dsimp only
 by_cases hv : v = 3 ∨ v = 4
 ·refine cut hC hGL [(1, .int .i64 v), (2, liP l), (4, .own 0 (iAt b4)), (5, .own 1 (iAt b5))] [itC b4 Ln.no Vl.no iN iN, ftC b5 0 0] True ?_ fun _ => ?_
  ·rcases hv with rfl | rfl <;> exact xn0
  refine cuty hC hGL (fun x : Nat × Nat => [(1, .int .i64 v), (2, liP l), (4, .own 0 (iAt b4)), (5, .own 1 (iAt b5)), (6, .own 2 (iAt x.1)), (7, .own 3 (iAt x.2))]) (fun x => [itC b4 Ln.no Vl.no iN iN, ftC b5 0 0, pnC x.1 (lpL (eqB v 4) l.t), ftC x.2 (lpE (eqB v 4) l.t).e (lpE (eqB v 4) l.t).p]) (fun _ => True) ?_ ?_
  ·refine xn1 ?_
   intro b b'
   intros
   exact cy (b, b') trivial
  rintro ⟨b6, b7⟩ _
  dsimp only
  have hF := gS (G := G) (lpE (eqB v 4) l.t).e (lpE (eqB v 4) l.t).p
  rcases hq : lpE (eqB v 4) l.t with _ | e | ⟨e, p⟩
  ·have h2 := AY (G := G) v (lpL (eqB v 4) l.t).n (lpL (eqB v 4) l.t).ps (by omega) (by have := (qR (eqB v 4) l.t).1; omega) (fun k => (qI hin.2.2 k).1) (fun k => (qI hin.2.2 k).2)
   have h3 := oO (G := G) hU hM hS (lpL (eqB v 4) l.t).v (ciK v l.t) (by omega)
   have hvin := zX (lpL (eqB v 4) l.t).v (ciK v l.t)
   have hv0 := Fb (lpL (eqB v 4) l.t).v (ciK v l.t)
   have e3 : ciE v l = (match (ciV v l.t).2 with | .none => .none | x => .at x.e (bk l ((l.t.length : Int) - (lpL (eqB v 4) l.t).v.length + max 0 x.p) l.f.length)) := by unfold ciE; rw [if_pos hv, hq]; rfl
   have e4 : ciL v l = (match ciE v l with | .none => (lpL (eqB v 4) l.t, (ciV v l.t).1) | _ => (Ln.no, Vl.no)) := rfl
   have hF2 := gS (G := G) (ciV v l.t).2.e (ciV v l.t).2.p
   rw [hq] at hF
   rw [show eqB (Err.none).e 0 = true from eV.2 rfl] at hF
   change FnIs _ _ _ _ (.tuple [.int .i64 (ciK v l.t), _]) at h2
   change FnIs _ _ _ _ (.tuple [(ciV v l.t).1.R, .agg [.int .i64 (ciV v l.t).2.e, .int .i64 (ciV v l.t).2.p]]) at h3
   change (ciV v l.t).2.in _ at hvin
   change (ciV v l.t).2.e = 0 → (ciV v l.t).2 = .none at hv0
   unfold ciQ
   generalize lpL (eqB v 4) l.t = L at *
   generalize ciV v l.t = V at *
   obtain ⟨V, x⟩ := V
   dsimp only at *
   generalize ciK v l.t = k at *
   generalize (verE v).e = z at *
   simp only [Err.e, Err.p] at hF ⊢
   by_cases hx : x = .none
   ·subst hx
    rw [show eqB (Err.none).e 0 = true from eV.2 rfl] at hF2
    rw [e4, e3]
    simp only [Err.e, Err.p] at h3 hF2 ⊢
    refine aH hC hGL (xn1 ?_)
    intros
    rename Nat => b10
    refine eq (aN (aM (i := 4) (k := 10) rfl rfl) (aN (aM (i := 3) (k := 7) rfl rfl) (aM (i := 2) (k := 6) rfl rfl))) ?_
    refine dw_p mixed hC hGL false (fun _ : Unit => [(4, .own 0 (iAt b4)), (5, .own 1 (iAt b5))]) (fun _ => [itC b4 L V (.list 2 L.ps.length (prF L.ps)) (.list 1 V.L.length (prtF V.L)), ftC b5 0 (-1), iL, iL, iL]) (.take 0 (.take 1 (.take 2 (.take 3 (.take 4 (.take 5 (.take 6 (.take 7 (.take 8 (.br 9 (.br 10 (.done) (.nil)) (.nil))))))))))) (by kernel_rfl) ?_ ?_
    ·refine xn ?_
     repeat' (first | exact Le.n | refine Lc.mk ?_ ?_)
     all_goals intros
     all_goals exact ⟨(), aj, rfl⟩
    intro _
    refine xn1 ?_
    intros
    exact ⟨[], List.nil_sublist _, _, _, rfl, rfl, .inr ⟨rfl, rfl⟩⟩
   ·have hne : x.e ≠ 0 := fun h => hx (hv0 h)
    rw [show eqB x.e 0 = false from oe.2 hne] at hF2
    have hvp : 0 ≤ max 0 x.p ∧ max 0 x.p ≤ ((L.v.length + 1 : Nat) : Int) := by
     rcases x with _ | e | ⟨e, p⟩
     ·exact absurd rfl hx
     ·show 0 ≤ max 0 (-1) ∧ max 0 (-1) ≤ _; omega
     ·have : 0 ≤ p ∧ p ≤ ((L.v.length + 1 : Nat) : Int) := hvin
      show 0 ≤ max 0 p ∧ max 0 p ≤ _
      omega
    have hp := hpl ((l.t.length : Int) - L.v.length + max 0 x.p) (by omega) (by omega)
    have e5 : ciE v l = .at x.e (bk l ((l.t.length : Int) - L.v.length + max 0 x.p) l.f.length) := by
     rw [e3]
     rcases x with _ | e | ⟨e, p⟩
     ·exact absurd rfl hx
     ·rfl
     ·rfl
    rw [e4, e5]
    clear e3 e4 e5 hv0 hx hvin
    generalize x.e = e at *
    generalize x.p = p at *
    simp only [Err.e, Err.p]
    refine aH hC hGL (xn1 ?_)
    intros
    rename Nat => b10
    refine eq (aN (aM (i := 3) (k := 7) rfl rfl) (aM (i := 2) (k := 6) rfl rfl)) ?_
    refine dw_p mixed hC hGL false (fun _ : Unit => [(4, .own 0 (iAt b4)), (5, .own 1 (iAt b5))]) (fun _ => [itC b4 Ln.no Vl.no iN iN, ftC b5 e (bk l ((l.t.length : Int) - L.v.length + max 0 p) l.f.length), iL, iL, vlD b10 V]) (.take 0 (.take 1 (.take 2 (.take 3 (.take 4 (.take 5 (.take 6 (.take 7 (.take 8 (.take 9 (.take 10 (.take 11 (.take 12 (.take 13 (.take 14 (.br 15 (.take 16 (.br 17 (.br 18 (.done) (.nil)) (.nil))) (.nil))))))))))))))))) (by kernel_rfl) ?_ ?_
    ·refine xn ?_
     repeat' (first | exact Le.n | refine Lc.mk ?_ ?_)
     all_goals intros
     all_goals exact ⟨(), aj, rfl⟩
    intro _
    refine xn1 ?_
    intros
    exact ⟨[], List.nil_sublist _, iN, iN, rfl, rfl, .inl ⟨rfl, rfl, by first | exact rfl | exact trivial⟩⟩
  ·exact absurd hq (BG _ _ _)
  ·have e1 : ciE v l = .at e (bk l p l.f.length) := by unfold ciE; rw [if_pos hv, hq]; rfl
   have e2 : ciL v l = (Ln.no, Vl.no) := by unfold ciL; rw [e1]
   have hip : 0 ≤ p ∧ p ≤ (l.t.length : Int) := by
    have := BH (eqB v 4) l.t
    rw [hq] at this
    exact this
   have hne : e ≠ 0 := GS hq
   have hpl := hpl p hip.1 (by omega)
   unfold ciQ
   rw [e1, e2]
   rw [hq] at hF
   rw [show eqB (Err.at e p).e 0 = false from oe.2 hne] at hF
   generalize lpL (eqB v 4) l.t = L at *
   simp only [Err.e, Err.p] at hF ⊢
   refine aH hC hGL (xn1 ?_)
   intros
   refine eq (aM (i := 3) (k := 7) rfl rfl) ?_
   refine dw_p mixed hC hGL false (fun _ : Unit => [(4, .own 0 (iAt b4)), (5, .own 1 (iAt b5))]) (fun _ => [itC b4 Ln.no Vl.no iN iN, ftC b5 e (bk l p l.f.length), pnC b6 L, iL]) (.take 0 (.take 1 (.take 2 (.take 3 (.take 4 (.take 5 (.br 6 (.take 7 (.br 8 (.br 9 (.done) (.nil)) (.nil))) (.nil)))))))) (by kernel_rfl) ?_ ?_
   ·refine xn ?_
    repeat' (first | exact Le.n | refine Lc.mk ?_ ?_)
    all_goals intros
    all_goals intros
    all_goals exact ⟨(), aj, rfl⟩
   intro _
   refine xn1 ?_
   intros
   exact ⟨[], List.nil_sublist _, iN, iN, rfl, rfl, .inl ⟨rfl, rfl, by first | exact rfl | exact trivial⟩⟩
 ·have e1 : ciE v l = .errno 1 := by unfold ciE; rw [if_neg hv]
  have e2 : ciL v l = (Ln.no, Vl.no) := by unfold ciL; rw [e1]
  unfold ciQ
  rw [e1, e2]
  refine aH hC hGL (xn1 ?_)
  intros
  exact ⟨[], List.nil_sublist _, iN, iN, rfl, rfl, .inl ⟨rfl, rfl, by first | exact rfl | exact trivial⟩⟩
end
section
open Go Go.RowKit
theorem j5 : ∀ (n : Nat) (s : List UInt8), s.length ≤ n → (tokT s).length ≤ s.length
 | _, [], _ => Nat.le_refl _
 | 0, c :: r, hn => by simp at hn
 | n + 1, c :: r, hn => by
  have hn : r.length ≤ n := by simpa using hn
  by_cases hc : c = 92
  ·subst hc
   cases r with
   | nil => simp [tokT]
   | cons d r =>
    by_cases hd : okE d = true
    ·rw [io hd]
     have := j5 n r (by simp at hn; omega)
     simp only [List.length_cons]
     omega
    ·simp [tokT, hd]
  ·rw [ip hc]
   have := j5 n r hn
   simp only [List.length_cons]
   omega
theorem Dt (c : UInt8) : ∀ T : List Tk, (∀ T' ∈ (stT c T).1, T'.length ≤ T.length) ∧ (stT c T).2.length ≤ T.length ∧ (stT c T).1.length ≤ T.length := by
 refine dT ⟨fun _ h => by simp [stT] at h, Nat.le_refl _, Nat.le_refl _⟩ fun T t ih => ?_
 obtain ⟨h1, h2, h3⟩ := ih
 rw [eP, List.length_append, List.length_singleton]
 have h1' : ∀ T' ∈ (stT c T).1, T'.length ≤ T.length + 1 := fun T' h => Nat.le_succ_of_le (h1 T' h)
 cases t with
 | one b =>
  unfold fc
  by_cases hb : b = c
  ·simp only [hb, if_true, List.length_append, List.length_singleton, List.length_nil]
   refine ⟨fun T' h => ?_, by omega, by omega⟩
   rcases List.mem_append.1 h with h | h
   ·exact h1' T' h
   ·rw [List.mem_singleton.1 h]; omega
  ·simp only [hb, if_false, List.length_append, List.length_singleton]
   exact ⟨h1', by omega, by omega⟩
 | two d =>
  unfold fc
  simp only [List.length_append, List.length_singleton]
  exact ⟨h1', by omega, by omega⟩
theorem r7 (c : UInt8) (T : List Tk) : (splT c T).length ≤ T.length + 1 ∧ ∀ T' ∈ splT c T, T'.length ≤ T.length := by
 obtain ⟨h1, h2, h3⟩ := Dt c T
 refine ⟨by simp [splT]; exact h3, fun T' h => ?_⟩
 rcases List.mem_append.1 h with h | h
 ·exact h1 T' h
 ·rw [List.mem_singleton.1 h]; exact h2
theorem ta (T : List Tk) : (lstT T).length ≤ T.length + 1 := by
 unfold lstT
 rw [List.length_map]
 exact (r7 44 T).1
theorem BE (s : List UInt8) : (lstS s).length ≤ s.length + 1 := by
 unfold lstS
 split
 ·have h1 := ta (tokT s)
  have h2 := j5 s.length s (Nat.le_refl _)
  omega
 ·exact Nat.zero_le _
theorem A6 (s : List UInt8) : (prtS s).length ≤ s.length + 1 ∧ ∀ l ∈ prtS s, l.length ≤ s.length + 1 := by
 have h2 := j5 s.length s (Nat.le_refl _)
 obtain ⟨h3, h4⟩ := r7 59 (tokT s)
 unfold prtS
 split
 ·unfold prtT
  rw [List.length_map]
  refine ⟨by omega, fun l hl => ?_⟩
  obtain ⟨T', hT, rfl⟩ := List.mem_map.1 hl
  have h5 := ta T'
  have h6 := h4 T' hT
  omega
 ·exact ⟨Nat.zero_le _, fun l h => by cases h⟩
set_option maxHeartbeats 8000000
attribute [local irreducible] AWp AOps ax OrOk ab ae aa errT tokT unS lstS prtS escF escS
theorem uH {G : Glo} (l : List (List UInt8)) (hn : l.length ≤ 20000) : FnIs Tryz.prog G 24 [.list 1 l.length (aO l), .list 1 l.length (aO l)] (.bool true) := by
 have hGL : ab G [] := ad
 refine fn_x Tryz.func24 Tryz.call24 rfl rfl rfl rfl hGL ?_
 intro C hC
 refine xw1 ?_
 intros
 refine lp hC hGL (fun (k : Nat) => [(0, .list 1 l.length (aO l)), (1, .list 1 l.length (aO l)), (12, .int .i64 (l.length : Nat)), (13, .int .i64 (k : Nat))]) (fun _ => []) (fun k => k ≤ l.length) (fun k => l.length - k) 0 ?_ aj rfl ?_
 ·exact Nat.zero_le _
 intro k hk
 have hk : k ≤ l.length := hk
 refine xw1 ?_
 intros
 refine nxt (k + 1) ?_ ?_ aj rfl
 ·show k + 1 ≤ l.length; omega
 ·show l.length - (k + 1) < l.length - k; omega
theorem mq {G : Glo} (L : List (List (List UInt8))) (hn : L.length ≤ 20000) (hk : ∀ l ∈ L, l.length ≤ 20000) : FnIs Tryz.prog G 70 [.list 1 L.length (prtF L), .list 1 L.length (prtF L), .func (.func 24) [] []] (.bool true) := by
 have hGL : ab G [] := ad
 refine fn_x Tryz.func70 Tryz.call70 rfl rfl rfl rfl hGL ?_
 intro C hC
 refine xw1 ?_
 intros
 refine lp hC hGL (fun (k : Nat) => [(1, .list 1 L.length (prtF L)), (2, .func (.func 24) [] []), (15, .list 1 L.length (prtF L)), (16, .int .i64 (L.length : Nat)), (17, .int .i64 (k : Nat))]) (fun _ => []) (fun k => k ≤ L.length) (fun k => L.length - k) 0 ?_ aj rfl ?_
 ·exact Nat.zero_le _
 intro k hkl
 have hkl : k ≤ L.length := hkl
 by_cases hk2 : k < L.length
 ·have h1 := uH (G := G) (L.getD k []) (hk _ (by rw [List.getD_eq_getElem?_getD, List.getElem?_eq_getElem hk2]; exact List.getElem_mem hk2))
  have hcl := Tryz.call24
  refine xw1 ?_
  intros
  refine nxt (k + 1) ?_ ?_ aj rfl
  ·show k + 1 ≤ L.length; omega
  ·show L.length - (k + 1) < L.length - k; omega
 ·exact xw0
theorem uV {G : Glo} (L : List (List (List UInt8))) (hn : L.length ≤ 20000) (hk : ∀ l ∈ L, l.length ≤ 20000) : FnIs Tryz.prog G 25 [.list 1 L.length (prtF L), .list 1 L.length (prtF L)] (.bool true) := by
 have h1 := mq (G := G) L hn hk
 have hGL : ab G [] := ad
 refine fn_x Tryz.func25 Tryz.call25 rfl rfl rfl rfl hGL ?_
 intro C hC
 exact xw0
end
section
open Go
def andL : List Bool → Bool
 | [] => true
 | b :: l => b && andL l
def tG (P : Program) [Tab P] (cs ds : List AVal) : List Field → Option (List Bool)
 | [] => some []
 | f :: fs => match tab P f.type, cs[f.offset]?, ds[f.offset]?, tG P cs ds fs with
  | some x, some a, some b, some l => match x.desc, a, b with
   | .int _, .int k m, .int j q => match Nat.beq (kix k) (kix j) with
    | true => some (eqB m q :: l)
    | false => none
   | .string, .str s, .str t => some (seqB s t :: l)
   | .bool, .bool s, .bool t => some ((s == t) :: l)
   | _, _, _ => none
  | _, _, _, _ => none
theorem sP {P : Program} [Tab P] {xs : Array Value} {v : Value} {t : TypeId} {x : TI} {o : Nat} (ht : tab P t = some x) (hd : a6 x.desc = false) (hv : xs[o]? = some v) (w : World) : (part t xs o).run P w = .ok v w := by
 simp only [part, Sem.run_bind, bP ht, hd, Result.andThen_ok, Bool.false_eq_true, if_false, hv, Sem.run_pure]
theorem kN {P : Program} [Tab P] {R : Seal} {cs ds : List AVal} {xs ys : Array Value} (ha : RelL R cs xs.toList) (hb : RelL R ds ys.toList) (d : Nat) (w : World) :
  ∀ (fs : List Field) (l : List Bool), (fs.all fun f => f.name != "_") = true → tG P cs ds fs = some l → (Op.eqFields (d + 1) xs ys fs).run P w = .ok (andL l) w
 | [], l, _, h => by
  simp only [tG, Option.some.injEq] at h
  subst h
  rfl
 | f :: fs, l, hn, h => by
  simp only [List.all_cons, Bool.and_eq_true, bne_iff_ne, ne_eq] at hn
  simp only [tG] at h
  split at h
  ·rename_i x a b l' ht h1 h2 h3
   have ih := kN ha hb d w fs l' hn.2 h3
   obtain ⟨va, e1, r1⟩ := cn ha h1
   obtain ⟨vb, e2, r2⟩ := cn hb h2
   have e1 : xs[f.offset]? = some va := by simpa using e1
   have e2 : ys[f.offset]? = some vb := by simpa using e2
   have fin : ∀ r : Bool, a6 x.desc = false → (Op.equalIn (d + 1) f.type va vb).run P w = .ok r w → (Op.eqFields (d + 1) xs ys (f :: fs)).run P w = .ok (andL (r :: l')) w := by
    intro r hd hr
    simp only [Op.eqFields, ne_eq, hn.1, not_false_eq_true, if_true, Sem.run_bind, sP ht hd e1, sP ht hd e2, Result.andThen_ok, hr]
    cases r
    ·rfl
    ·exact ih
   split at h
   ·rename_i q1 k m j q hd
    split at h
    ·rename_i hk
     cases h
     obtain rfl := nT hk
     obtain rfl := ao.1 (bn r1 rfl)
     obtain rfl := ao.1 (bn r2 rfl)
     refine fin _ (by rw [hd]; rfl) ?_
     rw [run_equalIn_int w d f.type _ _ _ _ (by rw [aZ ht, hd])]
     unfold eqB
     rfl
    ·cases h
   ·rename_i s t hd
    cases h
    obtain rfl := az.1 (bn r1 rfl)
    obtain rfl := az.1 (bn r2 rfl)
    refine fin _ (by rw [hd]; rfl) ?_
    rw [run_equalIn_string w d f.type _ _ (by rw [aZ ht, hd])]
    rw [ByteArray.toList_eq, ByteArray.toList_eq]
    unfold seqB
    simp
   ·rename_i s t hd
    cases h
    obtain rfl := aE.1 (bn r1 rfl)
    obtain rfl := aE.1 (bn r2 rfl)
    exact fin _ (by rw [hd]; rfl) (run_equalIn_bool' w d f.type _ _ (by rw [aZ ht, hd]))
   ·cases h
  ·cases h
section
variable {P : Program} [Tab P] {C : Ctx} {env : Env} {H : Heap} {x y : Operand} {T ty : TypeId}
theorem C4 {R : Seal} {cs : List AVal} {v : Value} (h : Rel R (.agg cs) v) : ∃ vs, v = .agg vs ∧ RelL R cs vs.toList := by
 obtain ⟨h1, h2⟩ := h
 cases v <;> first | exact ⟨_, rfl, h1⟩ | (simp [AVal.isAgg, vAgg] at h2)
theorem AJ {cs ds : List AVal} {fs : Array Field} {l : List Bool} {xT : TI} (b : Bool) (hx : ai env x = some (.agg cs)) (hy : ai env y = some (.agg ds)) (h1 : tab P T = some xT) (h2 : xT.desc = .struct fs)
  (h3 : P.stoodInHeld T = false) (h4 : P.eqGuardType P.depth T = false) (h5 : (fs.toList.all fun f => f.name != "_") = true) (h6 : tG P cs ds fs.toList = some l) (hb : andL l = b) : RunV P C H env (.binOp .eql T x y ty) (.bool b) := by
 intro R ρ w hm hf dst t p af g
 refine ⟨_, ?_, aE.2 rfl⟩
 obtain ⟨xs, ex, rx⟩ := C4 (hf _ _ hx)
 obtain ⟨ys, ey, ry⟩ := C4 (hf _ _ hy)
 have hu : P.underlying T = some (.struct fs) := by rw [aZ h1, h2]
 have hfo : P.fieldsOf T = fs := by unfold Program.fieldsOf; rw [hu]
 have e1 : (Op.equalIn 10000 T (.agg xs) (.agg ys)).run P w = .ok b w := by
  rw [show (10000 : Nat) = 9999 + 1 from rfl, run_equalIn_agg w 9999 T xs ys (by rw [hfo]; exact hu) h3, hfo]
  subst hb
  exact kN rx ry 9998 w _ _ h5 h6
 simp only [execOp, ex, ey, Sem.run_bind, run_eql_struct, e1, run_eqGuard_agg w .eql T x y xs ys h4, Result.andThen_ok, Sem.run_pure]
end
end
section
open Go Go.RowKit
theorem Da (s : List UInt8) (k : Int) : (vrV s k).1.L.length ≤ s.length + 1 ∧ ∀ l ∈ (vrV s k).1.L, l.length ≤ s.length + 1 := by
 have h0 : (vrG s k).1.L.length ≤ s.length + 1 ∧ ∀ l ∈ (vrG s k).1.L, l.length ≤ s.length + 1 := by
  unfold vrG
  (repeat' split)
  all_goals first
   | exact ⟨Nat.zero_le _, fun l h => by cases h⟩
   | exact ⟨by show 1 ≤ _; omega, fun l h => by rw [List.mem_singleton.1 h]; exact BE s⟩
   | exact A6 s
 unfold vrV
 (repeat' split)
 all_goals first
  | exact h0
  | exact ⟨Nat.zero_le _, fun l h => by cases h⟩
theorem uM (t : Stm) : andL [eqB t.y t.y, eqB t.m t.m, eqB t.d t.d, eqB t.h t.h, eqB t.i t.i, eqB t.s t.s, t.z == t.z, eqB t.o t.o] = true := by
 have e : ∀ x : Int, eqB x x = true := fun x => eV.2 rfl
 simp only [andL, e, beq_self_eq_true, Bool.and_self]
attribute [local irreducible] AWp AOps aa ax OrOk ab ae
attribute [local irreducible] vrV
theorem uU {G : Glo} (v : Vl) (h1 : v.L.length ≤ 20000) (h2 : ∀ l ∈ v.L, l.length ≤ 20000) : FnIs Tryz.prog G 8 [v.R, v.R] (.bool true) := by
 have h := uV (G := G) v.L h1 h2
 have hc := Tryz.call25
 have hz := uM v.st
 have hGL : ab G [] := ad
 refine fn_x Tryz.func8 Tryz.call8 rfl rfl rfl rfl hGL ?_
 intro C hC
 refine xw ?_
 repeat' (first | exact Le.n | refine Lc.mk ?_ ?_)
 all_goals intros
 all_goals try (refine bF hC hGL (AJ true rfl rfl rfl rfl (by kernel_rfl) (by kernel_rfl) (by kernel_rfl) rfl hz) rfl rfl ?_; refine xw ?_)
 repeat' (first | exact Le.n | refine Lc.mk ?_ ?_)
 all_goals intros
 all_goals first
  | exact absurd rfl (by assumption)
  | (apply ar; rfl)
  | (apply ar; exact congrArg AVal.bool (eV.2 rfl))
end
section
open Go Go.RowKit
theorem zB {G : Glo} {m : Int} (hE : ab G errTy) (hU : ab G utfTy) (hM : ab G (ce m)) (hS : SpIs G) (v : Int) (t : List UInt8) (l : LineS) (hl : l.t.length ≤ 1500) (ht : t.length ≤ 20100) (hb : bndL t l) : FnIs Tryz.prog G 5 [nO l, .int .i64 v] (.tuple [itA (ciL v l).1 (ciL v l).2, (ciE v l).A]) :=
 dz (wo hE hU hM hS v t l hl ht hb) fun _ _ h => yl h
theorem qH {G : Glo} {m : Int} (hU : ab G utfTy) (hM : ab G (ce m)) (hS : ab G shapesTy) (v : Int) (t : List UInt8) (l : LineS) (hl : l.t.length ≤ 1500) (ht : t.length ≤ 20100) (hb : bndL t l) : FnIs Tryz.prog G 4 [nO l, .int .i64 v] (.tuple [itA (ciL v l).1 (ciL v l).2, .agg [.int .i64 (ciE v l).e, .int .i64 (ciE v l).p]]) :=
 dz (oR hU hM hS v t l hl ht hb) fun _ _ h => yl h
theorem Ep (v : Int) (l : LineS) (hl : l.t.length ≤ 1500) : (ciL v l).1.ps.length ≤ 20 ∧ (∀ q ∈ (ciL v l).1.ps, q.vs.length ≤ 20000) ∧ (ciL v l).2.L.length ≤ 20000 ∧ ∀ x ∈ (ciL v l).2.L, x.length ≤ 20000 := by
 have h1 := qR (eqB v 4) l.t
 have h2 := vC (eqB v 4) l.t
 have h3 := Da (lpL (eqB v 4) l.t).v (ciK v l.t)
 have h4 : (ciV v l.t).1.L.length ≤ 20000 ∧ ∀ x ∈ (ciV v l.t).1.L, x.length ≤ 20000 := ⟨by have := h3.1; show (vrV _ _).1.L.length ≤ _; omega, fun x hx => by have := h3.2 x hx; omega⟩
 unfold ciL
 split
 ·exact ⟨h1.1, fun q hq => by have := h1.2 q hq; omega, h4.1, h4.2⟩
 ·exact ⟨Nat.zero_le _, (fun q hq => by cases hq), Nat.zero_le _, (fun q hq => by cases hq)⟩
def ga (s : List UInt8) : LineS := ⟨s, 7, [0, (s.length : Int) / 2]⟩
theorem xQ {G : Glo} {f : FuncId} {s : List UInt8} {v : Int} {r : AVal} (h : FnIs Tryz.prog G f [nO (ga s), .int .i64 v] r) : FnIs Tryz.prog G f [.agg [.str s, .int .i64 7, .list 1 2 (aV [(0, .int .i64 0), (1, .int .i64 ((s.length : Int) / 2))])], .int .i64 v] r := by
 refine yb h ?_
 rintro R vs ⟨u, us, rfl, hu, k⟩
 refine ⟨u, us, rfl, ef (p := 2) (a' := .list 1 2 (nV [0, (s.length : Int) / 2])) (Seal.le_refl R) hu rfl (fun v => nL fun i hi => ?_), k⟩
 rcases (show i = 0 ∨ i = 1 by omega) with rfl | rfl <;> rfl
attribute [local irreducible] AWp AOps aa ax OrOk ab ae
attribute [local irreducible] prF prtF
theorem oT {G : Glo} {m : Int} (hE : ab G errTy) (hU : ab G utfTy) (hM : ab G (ce m)) (hS : SpIs G) (hH : ab G shapesTy) (s : List UInt8) (v : Int) (hl : s.length ≤ 9223372036854775807) : FnIs Tryz.prog G 3 [.str s, .int .i64 v] (.bool true) := by
 have h6 := y8 (G := G) hE (ciE v (ga s))
 have hc1 := Tryz.call6
 have hc2 := Tryz.call7
 have hc3 := Tryz.call8
 by_cases hs : s.length ≤ 1200
 ·have hb : bndL (List.replicate 20000 0) (ga s) := by
   refine ⟨?_, ?_, ?_⟩
   ·rw [List.length_replicate]; show 7 ≤ 20000; decide
   ·show s.length ≤ 1500; omega
   ·rw [List.length_replicate]; show 2 ≤ 20000; decide
  have hx : (ga s).t.length ≤ 1500 := by show s.length ≤ 1500; omega
  have h1 := qH (G := G) hU hM hH v (List.replicate 20000 0) (ga s) hx (by rw [List.length_replicate]; decide) hb
  have h2 := zB (G := G) hE hU hM hS v (List.replicate 20000 0) (ga s) hx (by rw [List.length_replicate]; decide) hb
  have hq := Ep v (ga s) hx
  have h3 := yN (G := G) ⟨(ciL v (ga s)).1.g, (ciL v (ga s)).1.n, (ciL v (ga s)).1.ps, []⟩ hq.1 hq.2.1
  have h4 := uU (G := G) (ciL v (ga s)).2 hq.2.2.1 hq.2.2.2
  generalize (ciL v (ga s)).1 = L at *
  generalize (ciL v (ga s)).2 = V at *
  rcases hq : ciE v (ga s) with _ | e | ⟨e, p⟩
  all_goals
   rw [hq] at h6 h1 h2
   simp only [Err.A, Err.e, Err.p, errA, itA] at h6 h1 h2
   have h1 := xQ h1
   have h2 := xQ h2
   have hGL : ab G [] := ad
   refine fn_x Tryz.func3 Tryz.call3 rfl rfl rfl rfl hGL ?_
   intro C hC
   exact xw0
 ·have hGL : ab G [] := ad
  refine fn_x Tryz.func3 Tryz.call3 rfl rfl rfl rfl hGL ?_
  intro C hC
  exact xw0
end
section
open Go
theorem wi {α β : Type} (k : Nat) (E : α → List β) (hE : ∀ z, (E z).length = k) : ∀ (zs : List α) (cs : List β), cs.length = zs.length * k →
  (∀ i z, zs[i]? = some z → (cs.drop (i * k)).take k = E z) → cs = zs.flatMap E
 | [], cs, hl, _ => by
  simp only [List.length_nil, Nat.zero_mul] at hl
  simp [List.eq_nil_of_length_eq_zero hl]
 | z :: zs, cs, hl, h => by
  have h0 := h 0 z rfl
  simp only [Nat.zero_mul, List.drop_zero] at h0
  have hr := wi k E hE zs (cs.drop k) (by rw [List.length_drop, hl, List.length_cons, Nat.succ_mul]; omega) (fun i y hy => by
   have := h (i + 1) y hy
   rw [List.drop_drop]
   rw [Nat.succ_mul, Nat.add_comm] at this
   exact this)
  rw [List.flatMap_cons, ← h0, ← hr, List.take_append_drop]
theorem lr {R : Seal} : ∀ (l : List (IntKind × Int)), RelL R (l.map fun x => .int x.1 x.2) (l.map fun x => .int x.1 x.2)
 | [] => rfl
 | _ :: l => ⟨_, _, rfl, rfl, lr l⟩
section
variable {P : Program} {H : Type} {enc : TypeId × Value → H} {w : World} {base : Nat} {spare : Nat → Bool} {held : Bool}
theorem pb {t e n fuel : Nat} {k : IntKind} {cs : List Value} {ps : List MemPlace} {zs : List Nat} (ht : P.underlying t = some (.array n e)) (he : P.underlying e = some (.int k)) (hc : P.cellsOf e = 1) (hct : P.cellsOf t = n)
  (h : DataW.trod enc P w base spare held fuel t cs = some (.agg (zs.map fun x : Nat => .lit (.int k (x : Int))), ps)) (hz : zs.length = n) : cs = zs.flatMap fun x : Nat => [Value.int k (x : Int)] := by
 obtain ⟨xs, m, _, ex, hl, hxl, hel⟩ := DataW.trod_array ht h
 have e3 : (xs.map (·.1)) = zs.map fun x : Nat => .lit (.int k x) := (DataW.agg.inj (Prod.mk.inj ex).1).symm
 refine wi 1 _ (fun _ => rfl) zs cs (by omega) (fun i z hi => ?_)
 have hin : i < zs.length := (List.getElem?_eq_some_iff.1 hi).1
 have hE := hel i (by omega)
 rw [hc, List.getElem?_eq_getElem (by omega)] at hE
 obtain ⟨y, e1, e2, _⟩ := DataW.trod_int he hE
 have e4 : (xs.map (·.1))[i]? = (zs.map fun x : Nat => (DataW.lit (.int k x) : DataW H))[i]? := by rw [e3]
 rw [List.getElem?_map, List.getElem?_map, List.getElem?_eq_getElem (by omega : i < xs.length), hi, e2] at e4
 simp only [Option.map_some, Option.some.injEq, DataW.lit.injEq, Lit.int.injEq, true_and] at e4
 rw [e1, e4]
end
theorem kF {P : Program} {W : World} {laid : List (String × DataW Unit)} (hL : laidMetH P laid W) {n : String} {d : DataW Unit} (hm : (n, d) ∈ laid) (hn : d.handleName?.isNone = true) {g : Nat} {t : TypeId} (hg : P.globalNamed n = some g) (ht : (P.globals[g]?).map (·.type) = some t) :
  ∃ cs e fz fuel p, W.heap[g]? = some (.cells cs e fz) ∧ DataW.trod (fun _ => ()) P W 0 (fun _ => true) false fuel t cs.toList = some (d, p) := by
 have h1 := (laidMetH_iff.1 hL).1
 obtain ⟨ps, h, _⟩ := h1
 have key : ∀ (l : List (String × DataW Unit)) (ps : List MemPlace), DataW.LaidVars P W l ps → (n, d) ∈ l → ∃ cs e fz fuel p, W.heap[g]? = some (.cells cs e fz) ∧ DataW.trod (fun _ => ()) P W 0 (fun _ => true) false fuel t cs.toList = some (d, p) := by
  intro l
  induction l with
  | nil => intro ps _ hm; cases hm
  | cons a r ih =>
   obtain ⟨m, b⟩ := a
   rintro ps ⟨g', t', cs, fuel, p, q, e1, e2, e3, e4, e5, _⟩ hm
   rcases List.mem_cons.1 hm with hm | hm
   ·cases hm
    obtain rfl := Option.some.inj (hg.symm.trans e1)
    obtain rfl := Option.some.inj (ht.symm.trans e2)
    obtain ⟨e, fz, hh⟩ := mV hg e3
    exact ⟨cs, e, fz, fuel, p, hh, e4⟩
   ·exact ih q e5 hm
 exact key _ ps h (List.mem_filter.2 ⟨hm, hn⟩)
theorem gR {H : Type} {enc : TypeId × Value → H} {a : Assume} {C : Checked} {os : Os} {f : FuncId} {fn : Func} {s : ChangeSpec} {conds : List PathCond} {apart fresh handsOn again : Bool} {X : World → Array Value → Prop}
  (hX : ∀ (w w' : World) (args : Array Value), w.heap = w'.heap → X w args → X w' args)
  (own : ownKnob C.prog.godebug = none) (started : os.Started) (noInit : C.prog.inits.idxOf? f = none) (hfn : C.prog.funcs[f]? = some fn)
  (witness : ∃ (w : World) (tape : Tape) (i : Input), w.os = os ∧ (w.forCall tape i).Shaped C.prog ∧ i.vars = [] ∧ Input.okWide C.prog (w.forCall tape i) .any w.heap.size f i ∧
   ((s.pre enc C.prog fn conds apart (w.forCall tape i).memory i.args ∧ X (w.forCall tape i).memory i.args) ∧ sizedMet enc C.prog fn (OpenSpec.ofChange s) apart (w.forCall tape i).memory i.args) ∧ a.holds C.prog (lone (Frame.enter C.prog f i.args .normal) [] (w.forCall tape i)))
  (contract : ∀ (W : World) (base : Nat) (args : Array Value) (ds gs : List (DataW H)) (before : List MemPlace),
   (∀ (j : Nat) t v, fn.params[j]? = some t → args[j]? = some v → Value.okWide C.prog W .any base t v) →
   DataW.Whole enc C.prog fn.params.toList s.vars apart W args.toList ds gs before →
   conds.all (PathCond.test C.prog ⟨fn.params.toList, ds, s.plain.varTypes C.prog, gs⟩) = true →
   X W args → W.ShapedOpen C.prog →
   Calls C.prog f args W fun e W' => ∃ v, e = .returned v ∧ s.post enc C.prog fn apart fresh handsOn again W args v W') :
  ReturnsInHanded a C os f .any (fun w args => (s.pre enc C.prog fn conds apart w args ∧ X w args) ∧ sizedMet enc C.prog fn (OpenSpec.ofChange s) apart w args) (s.post enc C.prog fn apart fresh handsOn again) := by
 refine returnsInHanded_of_calls own started noInit witness ?_
 intro w tape i _ hsh _ hok hpre _
 obtain ⟨_, _, _, fn', hfn', _, _, _, _, hval⟩ := hok
 have e : fn' = fn := Option.some.inj (hfn'.symm.trans hfn)
 subst e
 obtain ⟨⟨⟨ds, gs, before, hw, hc⟩, hx⟩, _⟩ := hpre
 have hw' := DataW.Whole.of_heap (w' := w.forCall tape i) (by rfl) hw
 refine (contract (w.forCall tape i) w.heap.size i.args ds gs before hval hw' hc (hX _ _ _ (by rfl) hx) hsh).mono fun e W' ⟨v, he, hp⟩ => ?_
 subst he
 exact ChangeSpec.post_blind hp
theorem Br {W : World} (h : W.ShapedOpen Tryz.prog) : ∃ m, W.cell? ⟨3, 0, none⟩ = some (.int .i64 m) :=
 cell_of_shapedOpen_int (t := 3) (zero := #[.int .i64 0]) h (of_decide_eq_true (by kernel_rfl)) (by kernel_rfl) rfl (by kernel_rfl) (by kernel_rfl) Tryz.underlying3
theorem vz {W : World} {k : Nat} (hk : 3 < k) {m : Int} (h : W.cell? ⟨3, 0, none⟩ = some (.int .i64 m)) : bN (bE W k) 3 0 [.int .i64 m] := by
 unfold World.cell? at h
 split at h
 ·rename_i C e fz hW
  refine dX hk hW ?_
  have h : C[0]? = some (.int .i64 m) := h
  have h0 := (Array.getElem?_eq_some_iff.1 h)
  obtain ⟨hlt, h1⟩ := h0
  have e1 : C.toList.take 1 = [.int .i64 m] := by
   have hl : 0 < C.toList.length := by simpa using hlt
   have := List.take_succ_eq_append_getElem (l := C.toList) (i := 0) hl
   simp at this
   rw [show (1 : Nat) = 0 + 1 from rfl, List.take_succ_eq_append_getElem hl]
   simp [h1]
  show RelL _ _ (C.toList.take 1)
  rw [e1]
  exact ⟨_, _, rfl, rfl, rfl⟩
 ·cases h
def BW (A B : Glo) : Glo := ⟨fun R => A.p R ∧ B.p R, fun R R' h k => ⟨A.mono R R' h k.1, B.mono R R' h k.2⟩⟩
theorem kH {A B : Glo} {L : List (Nat × List AVal)} (h : ab A L) : ab (BW A B) L := fun g cs hg R hR => h g cs hg R hR.1
theorem kT {W : World} {g : Nat} {o : Obj} (h : W.heap[g]? = some o) : g < W.heap.size := (Array.getElem?_eq_some_iff.1 h).1
theorem qS {W : World} {laid : List (String × DataW Unit)} (hL : laidMetH Tryz.prog laid W) {n : String} {d : DataW Unit} (hm : (n, d) ∈ laid) (hn : d.handleName?.isNone = true) {g : Nat} {t : TypeId} (hg : Tryz.prog.globalNamed n = some g) (ht : (Tryz.prog.globals[g]?).map (·.type) = some t) : g < W.heap.size := by
 obtain ⟨_, _, _, _, _, hW, _⟩ := kF hL hm hn hg ht
 exact kT hW
end
section
open Go
section
variable {P : Program} {H : Type} {enc : TypeId × Value → H} {w : World} {base : Nat} {spare : Nat → Bool} {held : Bool}
theorem uD {t e n fuel u : Nat} {k : IntKind} {f0 f1 : Field} {cs : List Value} {ps : List MemPlace} {zs : List (Nat × Nat)} (ht : P.underlying t = some (.array n e)) (he : P.underlying e = some (.struct #[f0, f1])) (hc : P.cellsOf e = 2) (hct : P.cellsOf t = n * 2)
  (hf0 : f0.type = u) (hf1 : f1.type = u) (ho0 : f0.offset = 0) (ho1 : f1.offset = 1) (hu : P.underlying u = some (.int k)) (hcu : P.cellsOf u = 1)
  (h : DataW.trod enc P w base spare held fuel t cs = some (.agg (zs.map fun x : Nat × Nat => .agg [.lit (.int k (x.1 : Int)), .lit (.int k (x.2 : Int))]), ps)) (hz : zs.length = n) : cs = zs.flatMap fun x : Nat × Nat => [Value.int k (x.1 : Int), Value.int k (x.2 : Int)] := by
 obtain ⟨xs, m, _, ex, hl, hxl, hel⟩ := DataW.trod_array ht h
 have e3 : (xs.map (·.1)) = zs.map fun x : Nat × Nat => .agg [.lit (.int k x.1), .lit (.int k x.2)] := (DataW.agg.inj (Prod.mk.inj ex).1).symm
 refine wi 2 _ (fun _ => rfl) zs cs (by omega) (fun i z hi => ?_)
 have hin : i < zs.length := (List.getElem?_eq_some_iff.1 hi).1
 have hE := hel i (by omega)
 rw [hc, List.getElem?_eq_getElem (by omega)] at hE
 generalize hcc : (cs.drop (i * 2)).take 2 = c at hE
 obtain ⟨y0, y1, m', e2, hl2, h0, h1⟩ := Go.ChangeShapes.trod_struct2 he hE
 rw [hf0, ho0, hcu] at h0
 rw [hf1, ho1, hcu] at h1
 obtain ⟨a0, c0, d0, _⟩ := DataW.trod_int hu h0
 obtain ⟨a1, c1, d1, _⟩ := DataW.trod_int hu h1
 have e4 : (xs.map (·.1))[i]? = (zs.map fun x : Nat × Nat => (DataW.agg [.lit (.int k x.1), .lit (.int k x.2)] : DataW H))[i]? := by rw [e3]
 rw [List.getElem?_map, List.getElem?_map, List.getElem?_eq_getElem (by omega : i < xs.length), hi, e2, d0, d1] at e4
 simp only [Option.map_some, Option.some.injEq, DataW.agg.injEq, List.cons.injEq, DataW.lit.injEq, Lit.int.injEq, true_and, and_true] at e4
 rw [hc] at hl2
 match c, hl2 with
 | [x0, x1], _ =>
  simp only [List.drop_zero, List.take_succ_cons, List.take_zero, List.cons.injEq, and_true, List.drop_succ_cons] at c0 c1
  rw [c0, c1, e4.1, e4.2]
end
theorem vY {W : World} {k : Nat} (hk : 5 < k) {laid : List (String × DataW Unit)} (hL : laidMetH Tryz.prog laid W) (hm : ("unicode/utf8.first", Rows.laid_unicode_utf8_first) ∈ laid) : bN (bE W k) 5 0 firstTab := by
 obtain ⟨C, e, fz, fuel, p, hW, hd⟩ := kF hL hm (by kernel_rfl) (g := 5) (t := 199) (by kernel_rfl) (by kernel_rfl)
 refine dX hk hW ?_
 have hc := pb (n := 256) (zs := Go.Pinned.utf8FirstZ) Tryz.underlying199 Tryz.underlying5 (by kernel_rfl) (by kernel_rfl) hd (by kernel_rfl)
 have e1 : firstTab = (Go.Pinned.utf8FirstZ.map fun x : Nat => (IntKind.u8, (x : Int))).map fun x => .int x.1 x.2 := by simp [firstTab]
 have e2 : C.toList.take firstTab.length = (Go.Pinned.utf8FirstZ.map fun x : Nat => (IntKind.u8, (x : Int))).map fun x => .int x.1 x.2 := by
  have : C.toList = Go.Pinned.utf8FirstZ.map fun x : Nat => Value.int .u8 (x : Int) := by
   rw [hc]; generalize Go.Pinned.utf8FirstZ = l; induction l <;> simp_all
  rw [this, List.take_of_length_le (by simp [firstTab])]
  simp
 rw [e2, e1]
 exact lr _
def yr : List (Nat × Nat) := [(128, 191), (160, 191), (128, 159), (144, 191), (128, 143), (0, 0), (0, 0), (0, 0), (0, 0), (0, 0), (0, 0), (0, 0), (0, 0), (0, 0), (0, 0), (0, 0)]
theorem um {W : World} {k : Nat} (hk : 6 < k) {laid : List (String × DataW Unit)} (hL : laidMetH Tryz.prog laid W) (hm : ("unicode/utf8.acceptRanges", Rows.laid_unicode_utf8_acceptRanges) ∈ laid) : bN (bE W k) 6 0 acceptTab := by
 obtain ⟨C, e, fz, fuel, p, hW, hd⟩ := kF hL hm (by kernel_rfl) (g := 6) (t := 252) (by kernel_rfl) (by kernel_rfl)
 refine dX hk hW ?_
 rw [uD (n := 16) (zs := yr) Tryz.underlying252 Tryz.underlying251 (by kernel_rfl) (by kernel_rfl) rfl rfl rfl rfl Tryz.underlying5 (by kernel_rfl) hd (by kernel_rfl)]
 exact lr ((yr.flatMap fun x : Nat × Nat => [x.1, x.2]).map fun x : Nat => (IntKind.u8, (x : Int)))
end
section
open Go Go.ChangeShapes Go.WideShapes
theorem oq {W : World} {a : Addr} {v : Value} (h : W.cell? a = some v) : ∃ b o C e fz, a = ⟨b, o, none⟩ ∧ W.heap[b]? = some (.cells C e fz) := by
 obtain ⟨b, o, sp⟩ := a
 unfold World.cell? at h
 dsimp only at h
 cases hW : W.heap[b]? with
 | none => rw [hW] at h; cases h
 | some ob =>
  cases ob with
  | cells C e fz =>
   rw [hW] at h
   cases sp with
   | some s => simp at h
   | none => exact ⟨b, o, C, e, fz, rfl, hW⟩
  | _ => rw [hW] at h; cases h
theorem ul (b o i : Nat) : (⟨b, o, none⟩ : Addr).add i = ⟨b, o + i, none⟩ := by
 unfold Addr.add
 split
 ·rename_i h; rw [h]; rfl
 ·rfl
theorem Es {W : World} {b o : Nat} {C : Array Value} {e : TypeId} {fz : Nat × Nat} (hW : W.heap[b]? = some (.cells C e fz)) : W.cell? ⟨b, o, none⟩ = C.toList[o]? := by
 unfold World.cell?
 simp [hW]
theorem wm {W : World} {base b o n : Nat} {C : Array Value} {e : TypeId} {fz : Nat × Nat} (hW : W.heap[b]? = some (.cells C e fz)) {cs : List Value} (h : W.cells? base ⟨b, o, none⟩ n = some cs) : (C.toList.drop o).take n = cs := by
 obtain ⟨_, hl, hi⟩ := World.cells?_some h
 have hx : ∀ i, i < n → C.toList[o + i]? = cs[i]? := fun i k => by
  have := hi i k
  rwa [ul, Es hW] at this
 apply List.ext_getElem?
 intro i
 by_cases k : i < n
 ·rw [List.getElem?_take_of_lt k, List.getElem?_drop, hx i k]
 ·rw [List.getElem?_eq_none (by rw [List.length_take]; omega), List.getElem?_eq_none (by omega)]
theorem sx {R : Seal} {x y z : List UInt8} {cs : List Value} {s0 s1 s2 : ByteArray} (h : cs = [.string s0, .string s1, .string s2]) (h0 : s0.data.toList = x) (h1 : s1.data.toList = y) (h2 : s2.data.toList = z) : RelC R (.agg [.str x, .str y, .str z]) cs := by
 subst h h0 h1 h2
 exact ⟨_, _, rfl, by rw [RelC, qe], _, _, rfl, by rw [RelC, qe], _, _, rfl, by rw [RelC, qe], rfl⟩
theorem Ak {α : Type} {l : List α} (h : l.length = 3) : ∃ a b c, l = [a, b, c] := by
 match l, h with
 | [a, b, c], _ => exact ⟨a, b, c, rfl⟩
def na {H : Type} (i : Nat) : DataW H := .agg [.lit (.string (aU i)), .lit (.string (aC i)), .lit (.string (clkF i))]
theorem r9 {W : World} {laid : List (String × DataW Unit)} (hL : laidMetH Tryz.prog laid W) (hm : ("visitingcard/visitingcardref.shapes", Rows.laid_visitingcard_visitingcardref_shapes) ∈ laid) : bN (bE W W.heap.size) 0 0 [.list 3 7 aI] := by
 obtain ⟨C0, e0, fz0, fuel, p, hW0, hd⟩ := kF hL hm (by kernel_rfl) (g := 0) (t := 147) (by kernel_rfl) (by kernel_rfl)
 rcases Go.Deep.open_slice Tryz.underlying147 hd with ⟨_, hx⟩ | ⟨a, len, cap, m, n, D, Pl, hv, _, hl, _, hm2, hx, hi⟩
 ·cases hx
 have e1 : (List.range 7).map (fun i => (na i : DataW Unit)) = (List.range len).map D := by
  have := (DataW.slice.inj (Prod.mk.inj hx).1).1
  rw [← this]
  rfl
 have hlen : len = 7 := by
  have := congrArg List.length e1
  simpa using this.symm
 subst hlen
 have hD : ∀ i, i < 7 → D i = na i := fun i k => by
  have h1 : ((List.range 7).map D)[i]? = some (D i) := by simp [k]
  have h2 : ((List.range 7).map (fun i => (na i : DataW Unit)))[i]? = some (na i) := by simp [k]
  rw [e1, h1] at h2
  exact Option.some.inj h2
 have hm7 : 7 ≤ m := by rw [hm2]; split <;> omega
 have hc3 : Tryz.prog.cellsOf 148 = 3 := by kernel_rfl
 have hc1 : Tryz.prog.cellsOf 9 = 1 := by kernel_rfl
 rw [hc3] at hi
 obtain ⟨c0, hc0, _⟩ := hi 0 (by omega)
 have hcell : ∃ v, W.cell? a = some v := by
  obtain ⟨_, h1, h2⟩ := World.cells?_some hc0
  have h3 := h2 0 (by decide)
  rw [Nat.zero_mul, show (a.add 0).add 0 = a from rfl, List.getElem?_eq_getElem (by omega)] at h3
  exact ⟨_, h3⟩
 obtain ⟨v, hv0⟩ := hcell
 obtain ⟨b, o, C, e, fz, rfl, hWb⟩ := oq hv0
 refine dX (kT hW0) hW0 ?_
 rw [hv]
 refine ⟨_, _, rfl, ⟨some ⟨b, o, none⟩, cap, rfl, hl, .inr ⟨b, o, C, e, fz, rfl, ?_, fun i k => ?_⟩⟩, rfl⟩
 ·unfold bE
  rw [if_pos (kT hWb)]
  exact hWb
 ·obtain ⟨cs, h1, h2⟩ := hi i (by omega)
  rw [ul] at h1
  have h3 := wm hWb h1
  rw [h3]
  rw [hD i k] at h2
  obtain ⟨y0, y1, y2, n2, hy, hcl, g0, g1, g2⟩ := Go.Deep.trod_struct3 Tryz.underlying148 h2
  rw [hc3] at hcl
  obtain ⟨s0, q0, r0, _⟩ := DataW.trod_string Tryz.underlying9 g0
  obtain ⟨s1, q1, r1, _⟩ := DataW.trod_string Tryz.underlying9 g1
  obtain ⟨s2, q2, r2, _⟩ := DataW.trod_string Tryz.underlying9 g2
  have hy1 := (Prod.mk.inj hy).1
  rw [r0, r1, r2] at hy1
  unfold na at hy1
  simp only [DataW.agg.injEq, List.cons.injEq, DataW.lit.injEq, Lit.string.injEq, and_true] at hy1
  refine sx (s0 := s0) (s1 := s1) (s2 := s2) ?_ hy1.1.symm hy1.2.1.symm hy1.2.2.symm
  obtain ⟨u0, u1, u2, rfl⟩ := Ak hcl
  have q0 : ([u0, u1, u2].drop 0).take (Tryz.prog.cellsOf 9) = [.string s0] := q0
  have q1 : ([u0, u1, u2].drop 1).take (Tryz.prog.cellsOf 9) = [.string s1] := q1
  have q2 : ([u0, u1, u2].drop 2).take (Tryz.prog.cellsOf 9) = [.string s2] := q2
  rw [hc1] at q0 q1 q2
  simp at q0 q1 q2
  rw [q0, q1, q2]
theorem Er {W : World} {g : Nat} {v : Value} (h : W.cell? ⟨g, 0, none⟩ = some v) : g < W.heap.size := by
 obtain ⟨b, o, C, e, fz, ha, hW⟩ := oq h
 cases ha
 exact kT hW
end
end Go.Proofs.YtkelbglfhigmiaaGreatDoor
