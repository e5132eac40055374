/- Parts of the proof of whenParses_card: Wpj, Eqa, Wpk, Lai, Lu, Whi. -/
import Derived.Laws.StructEq
import Derived.Lib.ItoaNum
import Derived.Deep.Strs
import Derived.Shelf.Vars
import Derived.SizedLaws
import Derived.Test.YtjedjiffaopmkaaGreatDoorBag
import Derived.Test.YtjedjiffaopmkaaGreatDoorBad
import Derived.Test.YtjedjiffaopmkaaGreatDoorBae
import Derived.Test.YtjedjiffaopmkaaGreatDoorBaf
set_option linter.unusedVariables false
set_option linter.unusedSimpArgs false
namespace Go.Proofs.YtjedjiffaopmkaaGreatDoor
open Go Go.RowKit
theorem whR_sp {d t : List UInt8} {k j n : Nat} (hk : k ≤ 6) (hd : shpS d = dateF k) (h : IsSp t j n) : stP k j (outB 45 d) (outB 45 (t.take n)) (t.drop n) = ((whR d true t).1, (whR d true t).2.e) := by
  obtain ⟨e1, e2⟩ := splJ_of h
  have e3 := dIx_of hk hd
  have j1 := h.j1
  rw [stP_w hk h.j6 hd h.hs]
  have e : whR d true t = if t.drop n ≠ [] ∧ (zoneV (t.drop n)).2 ≠ 0 then (Stm.no, .errno (zoneV (t.drop n)).2) else finP (whS k d j (t.take n) (t.drop n)) := by
    unfold whR
    rw [e1, e2, e3, if_neg (show ¬ k = 7 by omega), if_neg (by decide), if_neg (show ¬ j = 0 by omega)]
  rw [e]
  split <;> rfl
theorem whR_un {d t : List UInt8} {k : Nat} (hk : k ≤ 6) (hd : shpS d = dateF k) : stP k 0 (outB 45 d) [] [] = ((whR d false t).1, (whR d false t).2.e) := by
  have e3 := dIx_of hk hd
  have := stP_w (z := []) hk (Nat.zero_le 6) hd (show shpS [] = clkF 0 from rfl)
  rw [show outB 45 [] = [] from rfl] at this
  rw [this, whR_u (by omega), e3, if_neg (by simp)]
/-- None of the first so many forms of a time is this text's. -/
def NoSp (t : List UInt8) (m : Nat) : Prop := ∀ j, 1 ≤ j → j ≤ m → ¬ IsSp t j (clkF j).length
theorem noSp_0 {t : List UInt8} : NoSp t 0 := fun j h1 h2 => by omega
theorem noSp_next {t : List UInt8} {m : Nat} (h : NoSp t m) (k : ¬ IsSp t (m + 1) (clkF (m + 1)).length) : NoSp t (m + 1) := fun j h1 h2 => by
  rcases Nat.lt_or_ge m j with g | g
  · rw [show j = m + 1 by omega]; exact k
  · exact h j h1 g
theorem noSp_all {t : List UInt8} (h : NoSp t 6) : splJ t = 0 := Decidable.byContradiction fun k => by
  have g := splJ_sp k
  have e := g.len
  exact h _ g.j1 g.j6 (by rw [← e]; exact g)
def WInv (d t : List UInt8) (timed : Bool) (k : Nat) : Prop := k ≤ 7 ∧ ((∀ j, j < k → shpS d ≠ dateF j) ∨ (whR d timed t = (Stm.no, .errno 3) ∧ ∃ j, j < k ∧ shpS d = dateF j))
theorem shp_nine {t : List UInt8} {n : Nat} (hn : n < t.length) (h : byteAt t n = 90 ∨ byteAt t n = 43 ∨ byteAt t n = 45) : byteAt (shpS t) n ≠ 57 := by
  rw [shp_at hn]
  unfold nineN
  rw [if_neg (by omega)]
  omega
theorem p57_0 : byteAt [57, 57, 57, 57] 2 = 57 := by decide
theorem p57_1 : byteAt [57, 57, 57, 57, 57, 57] 4 = 57 := by decide
theorem p57_3 : byteAt [45, 57, 57, 57, 57] 3 = 57 := by decide
set_option maxRecDepth 20000
set_option maxHeartbeats 4000000
set_option linter.unusedSimpArgs false
set_option linter.unusedVariables false
attribute [local irreducible] AWp AOps byteAt SrcOK OrOk GloAll FnSpec
attribute [local irreducible] shpS outB stP whR zoneV
theorem ref_WhenParse {G : Glo} {m : Int} (hGL : GloAll G shapesTy) (hM : GloAll G (maxTy m)) (s : List UInt8) (hl : s.length ≤ 10000) : FnIs Tryz.prog G 4 [.str s] (.tuple [(whP s).1.A, .int .i64 (whP s).2.e]) := by
  have k1 := strings_IndexByte (G := G) s 84 (by decide) (by decide)
  have hn := cutB_no (s := s) (c := 84)
  have hlen := cutB_len s 84
  have hSh := fun x h => ref_shape (G := G) x h
  have hcs := Tryz.call8
  have hA := fun x h => strings_ReplaceAll (G := G) hM x 45 h
  have hP := fun x y => has_prefix (G := G) x y
  have hX := fun c h0 h1 => strings_IndexByte (G := G) [90, 43, 45] c h0 h1
  unfold whP
  refine fn_a Tryz.func4 Tryz.call4 rfl rfl rfl rfl ?_
  intro C hC
  refine cuty hC hGL (fun b2 : Nat => [(0, .str s), (2, .own 0 (pS b2))]) (fun b2 => [stC b2 0 0 0 0 0 0 false 0]) (fun _ => True) ?_ fun b2 _ => ?_
  · refine xn1 ?_
    intro b2
    exact cy b2 trivial
  refine cut hC hGL [(0, .str s), (2, .own 0 (pS b2)), (4, .str s), (5, .str [])] [stC b2 0 0 0 0 0 0 false 0] True xn0 fun _ => ?_
  refine cut hC hGL [(0, .str s), (2, .own 0 (pS b2)), (4, .str s), (5, .str []), (6, .bool false)] [stC b2 0 0 0 0 0 0 false 0] True xn0 fun _ => ?_
  refine cut hC hGL [(2, .own 0 (pS b2)), (4, .str (cutB s 84).1), (5, .str (cutB s 84).2.1), (6, .bool (cutB s 84).2.2)] [stC b2 0 0 0 0 0 0 false 0] True ?_ fun _ => ?_
  · rcases idxB_cases s 84 with ⟨h1, h2⟩ | ⟨m, h1, h2, h3, h4⟩
    · have e : cutB s 84 = (s, [], false) := by unfold cutB; rw [h1, if_pos (by decide)]
      rw [h1] at k1
      rw [e]
      exact xw0
    · have e : cutB s 84 = (s.take m, s.drop (m + 1), true) := by unfold cutB; rw [h2, if_neg (by omega), Int.toNat_natCast]
      rw [h2] at k1
      rw [e]
      exact xw0
  generalize (cutB s 84).1 = d at *
  generalize (cutB s 84).2.1 = t at *
  generalize (cutB s 84).2.2 = timed at *
  refine aw_code hC hGL (xn1 ?_)
  intros
  refine lp hC hGL (fun k : Nat => [(2, .own 0 (pS b2)), (4, .str d), (5, .str t), (6, .bool timed), (26, .list 3 7 shapesF), (27, .int .i64 7), (28, .int .i64 (k : Nat))]) (fun _ => [stC b2 0 0 0 0 0 0 false 0]) (WInv d t timed) (fun k => 7 - k) 0 ⟨by decide, .inl fun j h => absurd h (Nat.not_lt_zero _)⟩ env_w rfl ?_
  rintro k ⟨hk7, hI⟩
  by_cases hk : ¬ k < 7
  · have hr : whR d timed t = (Stm.no, .errno 3) := by
      rcases hI with h | ⟨h, _⟩
      · exact whR_7 (dIx_no fun j hj => h j (by omega))
      · exact h
    rw [hr]
    exact xn0
  have hk : k < 7 := Decidable.not_not.1 hk
  have hsh := hSh d (by omega)
  refine xn1 ?_
  intro b9
  intros
  refine dw_pp mixed hC hGL true (fun _ _ => False) (fun _ : Unit => [(2, .own 0 (pS b2)), (4, .str d), (5, .str t), (6, .bool timed), (26, .list 3 7 shapesF), (27, .int .i64 7), (28, .int .i64 (k : Nat)), (9, .own 1 (pS b9)), (36, .bool (!seqB (shpS d) (dateF k)))]) (fun _ => [stC b2 0 0 0 0 0 0 false 0, .cells b9 (some 35) [.str (toldF k), .str (dateF k), .str (clkF k)]]) (.take 0 (.take 2 (.take 3 (.br 1 (.take 4 (.done)) (.nil))))) (by kernel_rfl) ?_ ?_ (fun _ _ h => h.elim)
  · refine xn ?_
    repeat' (first | exact Le.n | refine Lc.mk ?_ ?_)
    all_goals intros
    all_goals exact ⟨(), env_w, sub_w⟩
  intro _
  by_cases he : ¬ shpS d = dateF k
  · refine xn1 ?_
    intros
    refine nxs (k + 1) ⟨by omega, ?_⟩ (by omega) env_w sub_w
    rcases hI with h | ⟨h, j, hj, h2⟩
    · exact .inl (below_succ h he)
    · exact .inr ⟨h, j, by omega, h2⟩
  have he : shpS d = dateF k := Decidable.not_not.1 he
  have hJ : ∀ j, j < k → shpS d ≠ dateF j := by
    rcases hI with h | ⟨h, j, hj, h2⟩
    · exact h
    · exact absurd (date_inj (by omega) (by omega) (h2.symm.trans he)) (by omega)
  obtain ⟨u1, u2, -⟩ := und_date (by omega) he
  have hra := hA d (by omega)
  cases timed with
  | false =>
    have hst := ref_stamped (G := G) hM hGL k 0 (by omega) (by decide) (outB 45 d) [] [] u1 u2 rfl (fun j _ h => absurd h (Nat.not_lt_zero _)) (by simp)
    rw [whR_un (t := t) (by omega) he] at hst
    generalize whR d false t = W at *
    obtain ⟨w, ew⟩ := W
    dsimp only at hst ⊢
    refine xn1 ?_
    intros
    refine dw_to (to_sealc (i := 1) (k := 9) rfl rfl) ?_
    refine dw_pp mixed hC hGL false (fun _ _ => False) (fun _ : Unit => [(2, .own 0 (pS b2)), (3, .int .i64 ew.e)]) (fun _ => [stC b2 w.y w.m w.d w.h w.i w.s w.z w.o]) (.take 0 (.take 1 (.take 2 (.br 3 (.br 4 (.take 5 (.take 6 (.br 7 (.take 8 (.done)) (.nil)))) (.nil)) (.nil))))) (by kernel_rfl) ?_ ?_ (fun _ _ h => h.elim)
    · refine xn ?_
      repeat' (first | exact Le.n | refine Lc.mk ?_ ?_)
      all_goals intros
      all_goals exact ⟨(), env_w, sub_w⟩
    · intro _
      exact xn0
  | true =>
    have hcont : NoSp t 6 → WInv d t true (k + 1) := fun h => ⟨by omega, .inr ⟨whR_0 (by rw [dIx_of (by omega) he]; omega) (noSp_all h), k, by omega, he⟩⟩
    refine xn1 ?_
    intros
    refine lp hC hGL (fun j : Nat => [(2, .own 0 (pS b2)), (4, .str d), (5, .str t), (6, .bool true), (26, .list 3 7 shapesF), (27, .int .i64 7), (28, .int .i64 (k : Nat)), (9, .own 1 (pS b9)), (47, .list 3 (7 - 1) (fun i => shapesF (1 + i))), (48, .int .i64 6), (49, .int .i64 (j : Nat))]) (fun _ => [stC b2 0 0 0 0 0 0 false 0, .cells b9 (some 35) [.str (toldF k), .str (dateF k), .str (clkF k)]]) (fun j => j ≤ 6 ∧ NoSp t j) (fun j => 6 - j) 0 ⟨by decide, noSp_0⟩ env_w rfl ?_
    rintro j ⟨hj6, hno⟩
    rcases (show j = 0 ∨ j = 1 ∨ j = 2 ∨ j = 3 ∨ j = 4 ∨ j = 5 ∨ j = 6 by omega) with rfl | rfl | rfl | rfl | rfl | rfl | rfl
    · as_aux_lemma =>
        have hcl : (clkF 1).length = 2 := rfl
        have hcl2 : (clkF (1 + 0)).length = 2 := rfl
        refine xn1 ?_
        intro b11
        intros
        by_cases h1 : t.length < 2
        · have hns : ¬ IsSp t 1 (clkF 1).length := fun h => by have := h.hn; omega
          refine dw_pp mixed hC hGL true (fun _ _ => False) (fun _ : Unit => [(2, .own 0 (pS b2)), (4, .str d), (5, .str t), (6, .bool true), (26, .list 3 7 shapesF), (27, .int .i64 7), (28, .int .i64 (k : Nat)), (9, .own 1 (pS b9)), (11, .own 2 (pS b11)), (12, .int .i64 (2 : Nat)), (47, .list 3 (7 - 1) (fun i => shapesF (1 + i))), (48, .int .i64 6), (49, .int .i64 (0 : Nat)), (68, .bool true)]) (fun _ => [stC b2 0 0 0 0 0 0 false 0, .cells b9 (some 35) [.str (toldF k), .str (dateF k), .str (clkF k)], .cells b11 (some 35) [.str (toldF 1), .str (dateF 1), .str (clkF 1)]]) (.take 0 (.take 1 (.take 2 (.take 3 (.take 4 (.take 5 (.take 6 (.take 7 (.take 9 (.take 10 (.br 8 (.take 11 (.take 12 (.done))) (.nil)))))))))))) (by kernel_rfl) ?_ ?_ (fun _ _ h => h.elim)
          · refine xn ?_
            repeat' (first | exact Le.n | refine Lc.mk ?_ ?_)
            all_goals intros
            all_goals exact ⟨(), env_w, sub_w⟩
          intro _
          refine xn1 ?_
          intros
          exact nxs 1 ⟨by decide, noSp_next hno hns⟩ (by decide) env_w sub_w
        have hs2 := hSh (t.take 2) (by rw [List.length_take]; omega)
        by_cases h2 : ¬ shpS (t.take 2) = clkF 1
        · have hns : ¬ IsSp t 1 (clkF 1).length := fun h => h2 h.hs
          refine dw_pp mixed hC hGL true (fun _ _ => False) (fun _ : Unit => [(2, .own 0 (pS b2)), (4, .str d), (5, .str t), (6, .bool true), (26, .list 3 7 shapesF), (27, .int .i64 7), (28, .int .i64 (k : Nat)), (9, .own 1 (pS b9)), (11, .own 2 (pS b11)), (12, .int .i64 (2 : Nat)), (47, .list 3 (7 - 1) (fun i => shapesF (1 + i))), (48, .int .i64 6), (49, .int .i64 (0 : Nat)), (68, .bool (!seqB (shpS (t.take 2)) (clkF 1)))]) (fun _ => [stC b2 0 0 0 0 0 0 false 0, .cells b9 (some 35) [.str (toldF k), .str (dateF k), .str (clkF k)], .cells b11 (some 35) [.str (toldF 1), .str (dateF 1), .str (clkF 1)]]) (.take 0 (.take 1 (.take 2 (.take 3 (.take 4 (.take 5 (.take 6 (.take 7 (.take 9 (.take 10 (.br 8 (.take 11 (.take 12 (.done))) (.nil)))))))))))) (by kernel_rfl) ?_ ?_ (fun _ _ h => h.elim)
          · refine xn ?_
            repeat' (first | exact Le.n | refine Lc.mk ?_ ?_)
            all_goals intros
            all_goals exact ⟨(), env_w, sub_w⟩
          intro _
          refine xn1 ?_
          intros
          exact nxs 1 ⟨by decide, noSp_next hno hns⟩ (by decide) env_w sub_w
        have h2 : shpS (t.take 2) = clkF 1 := Decidable.not_not.1 h2
        refine dw_pp mixed hC hGL true (fun _ _ => False) (fun _ : Unit => [(2, .own 0 (pS b2)), (4, .str d), (5, .str t), (6, .bool true), (26, .list 3 7 shapesF), (27, .int .i64 7), (28, .int .i64 (k : Nat)), (9, .own 1 (pS b9)), (11, .own 2 (pS b11)), (12, .int .i64 (2 : Nat)), (47, .list 3 (7 - 1) (fun i => shapesF (1 + i))), (48, .int .i64 6), (49, .int .i64 (0 : Nat)), (68, .bool (!seqB (shpS (t.take 2)) (clkF 1)))]) (fun _ => [stC b2 0 0 0 0 0 0 false 0, .cells b9 (some 35) [.str (toldF k), .str (dateF k), .str (clkF k)], .cells b11 (some 35) [.str (toldF 1), .str (dateF 1), .str (clkF 1)]]) (.take 0 (.take 1 (.take 2 (.take 3 (.take 4 (.take 5 (.take 6 (.take 7 (.take 9 (.take 10 (.br 8 (.take 11 (.take 12 (.done))) (.nil)))))))))))) (by kernel_rfl) ?_ ?_ (fun _ _ h => h.elim)
        · refine xn ?_
          repeat' (first | exact Le.n | refine Lc.mk ?_ ?_)
          all_goals intros
          all_goals exact ⟨(), env_w, sub_w⟩
        intro _
        have hs3 := hSh t (by omega)
        have hp3 := hP (shpS t) [57, 57, 57, 57]
        have hls := shp_len t
        by_cases h3 : t.length = 2
        · have hsp : IsSp t 1 2 := ⟨by decide, by decide, by omega, h2, .inl h3.symm⟩
          have hd0 : (t.drop 2).length = 0 := by rw [List.length_drop]; omega
          rw [pre_long (by rw [hls, h3]; decide)] at hp3
          have hra2 := hA (t.take 2) (by rw [List.length_take]; omega)
          obtain ⟨v1, v2, -⟩ := und_clk (i := 1) (by decide) h2
          have hst := ref_stamped (G := G) hM hGL k 1 (by omega) (by decide) (outB 45 d) (outB 45 (t.take 2)) (t.drop 2) u1 u2 v1 v2 (by rw [List.length_drop]; omega)
          rw [whR_sp (by omega) he hsp] at hst
          generalize whR d true t = W at *
          obtain ⟨w, ew⟩ := W
          dsimp only at hst ⊢
          refine xn1 ?_
          intros
          refine dw_to (to_trans (to_sealc (i := 2) (k := 11) rfl rfl) (to_sealc (i := 1) (k := 9) rfl rfl)) ?_
          refine dw_pp mixed hC hGL false (fun _ _ => False) (fun _ : Unit => [(2, .own 0 (pS b2)), (3, .int .i64 ew.e)]) (fun _ => [stC b2 w.y w.m w.d w.h w.i w.s w.z w.o]) (.take 0 (.take 1 (.take 2 (.take 3 (.take 4 (.take 6 (.take 7 (.take 8 (.take 10 (.br 5 (.br 9 (.br 11 (.take 12 (.take 13 (.br 14 (.take 15 (.done)) (.nil)))) (.nil)) (.nil)) (.nil))))))))))) (by kernel_rfl) ?_ ?_ (fun _ _ h => h.elim)
          · refine xn ?_
            repeat' (first | exact Le.n | refine Lc.mk ?_ ?_)
            all_goals intros
            all_goals exact ⟨(), env_w, sub_w⟩
          · intro _
            exact xn0
        have hdn : (t.drop 2).length ≠ 0 := by rw [List.length_drop]; omega
        have hbz : byteAt (t.drop 2) 0 = byteAt t 2 := by rw [drop_at]
        have hb9 := byteAt_lt (t.drop 2) 0
        have hx := hX (byteAt (t.drop 2) 0 : Int) (by omega) (by omega)
        by_cases h4 : byteAt t 2 = 90 ∨ byteAt t 2 = 43 ∨ byteAt t 2 = 45
        · have hsp : IsSp t 1 2 := ⟨by decide, by decide, by omega, h2, .inr h4⟩
          have hix : 0 ≤ idxB [90, 43, 45] (byteAt (t.drop 2) 0 : Int) := idx_zone.2 (by omega)
          rw [pre_no (n := 2) (by decide) (fun e => shp_nine (t := t) (n := 2) (by omega) h4 (e.symm.trans p57_0))] at hp3
          generalize idxB [90, 43, 45] (byteAt (t.drop 2) 0 : Int) = ix at *
          have hra2 := hA (t.take 2) (by rw [List.length_take]; omega)
          obtain ⟨v1, v2, -⟩ := und_clk (i := 1) (by decide) h2
          have hst := ref_stamped (G := G) hM hGL k 1 (by omega) (by decide) (outB 45 d) (outB 45 (t.take 2)) (t.drop 2) u1 u2 v1 v2 (by rw [List.length_drop]; omega)
          rw [whR_sp (by omega) he hsp] at hst
          generalize whR d true t = W at *
          obtain ⟨w, ew⟩ := W
          dsimp only at hst ⊢
          refine xn1 ?_
          intros
          refine dw_to (to_trans (to_sealc (i := 2) (k := 11) rfl rfl) (to_sealc (i := 1) (k := 9) rfl rfl)) ?_
          refine dw_pp mixed hC hGL false (fun _ _ => False) (fun _ : Unit => [(2, .own 0 (pS b2)), (3, .int .i64 ew.e)]) (fun _ => [stC b2 w.y w.m w.d w.h w.i w.s w.z w.o]) (.take 0 (.take 1 (.take 2 (.take 3 (.take 4 (.take 6 (.take 7 (.take 8 (.take 10 (.br 5 (.br 9 (.br 11 (.take 12 (.take 13 (.br 14 (.take 15 (.done)) (.nil)))) (.nil)) (.nil)) (.nil))))))))))) (by kernel_rfl) ?_ ?_ (fun _ _ h => h.elim)
          · refine xn ?_
            repeat' (first | exact Le.n | refine Lc.mk ?_ ?_)
            all_goals intros
            all_goals exact ⟨(), env_w, sub_w⟩
          · intro _
            exact xn0
        · have hns : ¬ IsSp t 1 (clkF 1).length := fun h => by have := h.hz; rw [hcl] at this; omega
          have hix : ¬ 0 ≤ idxB [90, 43, 45] (byteAt (t.drop 2) 0 : Int) := fun h => by have := idx_zone.1 h; omega
          generalize idxB [90, 43, 45] (byteAt (t.drop 2) 0 : Int) = ix at *
          refine xn1 ?_
          intros
          exact nxs 1 ⟨by decide, noSp_next hno hns⟩ (by decide) env_w sub_w
    · as_aux_lemma =>
        have hcl : (clkF 2).length = 4 := rfl
        have hcl2 : (clkF (1 + 1)).length = 4 := rfl
        refine xn1 ?_
        intro b11
        intros
        by_cases h1 : t.length < 4
        · have hns : ¬ IsSp t 2 (clkF 2).length := fun h => by have := h.hn; omega
          refine dw_pp mixed hC hGL true (fun _ _ => False) (fun _ : Unit => [(2, .own 0 (pS b2)), (4, .str d), (5, .str t), (6, .bool true), (26, .list 3 7 shapesF), (27, .int .i64 7), (28, .int .i64 (k : Nat)), (9, .own 1 (pS b9)), (11, .own 2 (pS b11)), (12, .int .i64 (4 : Nat)), (47, .list 3 (7 - 1) (fun i => shapesF (1 + i))), (48, .int .i64 6), (49, .int .i64 (1 : Nat)), (68, .bool true)]) (fun _ => [stC b2 0 0 0 0 0 0 false 0, .cells b9 (some 35) [.str (toldF k), .str (dateF k), .str (clkF k)], .cells b11 (some 35) [.str (toldF 2), .str (dateF 2), .str (clkF 2)]]) (.take 0 (.take 1 (.take 2 (.take 3 (.take 4 (.take 5 (.take 6 (.take 7 (.take 9 (.take 10 (.br 8 (.take 11 (.take 12 (.done))) (.nil)))))))))))) (by kernel_rfl) ?_ ?_ (fun _ _ h => h.elim)
          · refine xn ?_
            repeat' (first | exact Le.n | refine Lc.mk ?_ ?_)
            all_goals intros
            all_goals exact ⟨(), env_w, sub_w⟩
          intro _
          refine xn1 ?_
          intros
          exact nxs 2 ⟨by decide, noSp_next hno hns⟩ (by decide) env_w sub_w
        have hs2 := hSh (t.take 4) (by rw [List.length_take]; omega)
        by_cases h2 : ¬ shpS (t.take 4) = clkF 2
        · have hns : ¬ IsSp t 2 (clkF 2).length := fun h => h2 h.hs
          refine dw_pp mixed hC hGL true (fun _ _ => False) (fun _ : Unit => [(2, .own 0 (pS b2)), (4, .str d), (5, .str t), (6, .bool true), (26, .list 3 7 shapesF), (27, .int .i64 7), (28, .int .i64 (k : Nat)), (9, .own 1 (pS b9)), (11, .own 2 (pS b11)), (12, .int .i64 (4 : Nat)), (47, .list 3 (7 - 1) (fun i => shapesF (1 + i))), (48, .int .i64 6), (49, .int .i64 (1 : Nat)), (68, .bool (!seqB (shpS (t.take 4)) (clkF 2)))]) (fun _ => [stC b2 0 0 0 0 0 0 false 0, .cells b9 (some 35) [.str (toldF k), .str (dateF k), .str (clkF k)], .cells b11 (some 35) [.str (toldF 2), .str (dateF 2), .str (clkF 2)]]) (.take 0 (.take 1 (.take 2 (.take 3 (.take 4 (.take 5 (.take 6 (.take 7 (.take 9 (.take 10 (.br 8 (.take 11 (.take 12 (.done))) (.nil)))))))))))) (by kernel_rfl) ?_ ?_ (fun _ _ h => h.elim)
          · refine xn ?_
            repeat' (first | exact Le.n | refine Lc.mk ?_ ?_)
            all_goals intros
            all_goals exact ⟨(), env_w, sub_w⟩
          intro _
          refine xn1 ?_
          intros
          exact nxs 2 ⟨by decide, noSp_next hno hns⟩ (by decide) env_w sub_w
        have h2 : shpS (t.take 4) = clkF 2 := Decidable.not_not.1 h2
        refine dw_pp mixed hC hGL true (fun _ _ => False) (fun _ : Unit => [(2, .own 0 (pS b2)), (4, .str d), (5, .str t), (6, .bool true), (26, .list 3 7 shapesF), (27, .int .i64 7), (28, .int .i64 (k : Nat)), (9, .own 1 (pS b9)), (11, .own 2 (pS b11)), (12, .int .i64 (4 : Nat)), (47, .list 3 (7 - 1) (fun i => shapesF (1 + i))), (48, .int .i64 6), (49, .int .i64 (1 : Nat)), (68, .bool (!seqB (shpS (t.take 4)) (clkF 2)))]) (fun _ => [stC b2 0 0 0 0 0 0 false 0, .cells b9 (some 35) [.str (toldF k), .str (dateF k), .str (clkF k)], .cells b11 (some 35) [.str (toldF 2), .str (dateF 2), .str (clkF 2)]]) (.take 0 (.take 1 (.take 2 (.take 3 (.take 4 (.take 5 (.take 6 (.take 7 (.take 9 (.take 10 (.br 8 (.take 11 (.take 12 (.done))) (.nil)))))))))))) (by kernel_rfl) ?_ ?_ (fun _ _ h => h.elim)
        · refine xn ?_
          repeat' (first | exact Le.n | refine Lc.mk ?_ ?_)
          all_goals intros
          all_goals exact ⟨(), env_w, sub_w⟩
        intro _
        have hs3 := hSh t (by omega)
        have hp3 := hP (shpS t) [57, 57, 57, 57, 57, 57]
        have hls := shp_len t
        by_cases h3 : t.length = 4
        · have hsp : IsSp t 2 4 := ⟨by decide, by decide, by omega, h2, .inl h3.symm⟩
          have hd0 : (t.drop 4).length = 0 := by rw [List.length_drop]; omega
          rw [pre_long (by rw [hls, h3]; decide)] at hp3
          have hra2 := hA (t.take 4) (by rw [List.length_take]; omega)
          obtain ⟨v1, v2, -⟩ := und_clk (i := 2) (by decide) h2
          have hst := ref_stamped (G := G) hM hGL k 2 (by omega) (by decide) (outB 45 d) (outB 45 (t.take 4)) (t.drop 4) u1 u2 v1 v2 (by rw [List.length_drop]; omega)
          rw [whR_sp (by omega) he hsp] at hst
          generalize whR d true t = W at *
          obtain ⟨w, ew⟩ := W
          dsimp only at hst ⊢
          refine xn1 ?_
          intros
          refine dw_to (to_trans (to_sealc (i := 2) (k := 11) rfl rfl) (to_sealc (i := 1) (k := 9) rfl rfl)) ?_
          refine dw_pp mixed hC hGL false (fun _ _ => False) (fun _ : Unit => [(2, .own 0 (pS b2)), (3, .int .i64 ew.e)]) (fun _ => [stC b2 w.y w.m w.d w.h w.i w.s w.z w.o]) (.take 0 (.take 1 (.take 2 (.take 3 (.take 4 (.take 6 (.take 7 (.take 8 (.take 10 (.br 5 (.br 9 (.br 11 (.take 12 (.take 13 (.br 14 (.take 15 (.done)) (.nil)))) (.nil)) (.nil)) (.nil))))))))))) (by kernel_rfl) ?_ ?_ (fun _ _ h => h.elim)
          · refine xn ?_
            repeat' (first | exact Le.n | refine Lc.mk ?_ ?_)
            all_goals intros
            all_goals exact ⟨(), env_w, sub_w⟩
          · intro _
            exact xn0
        have hdn : (t.drop 4).length ≠ 0 := by rw [List.length_drop]; omega
        have hbz : byteAt (t.drop 4) 0 = byteAt t 4 := by rw [drop_at]
        have hb9 := byteAt_lt (t.drop 4) 0
        have hx := hX (byteAt (t.drop 4) 0 : Int) (by omega) (by omega)
        by_cases h4 : byteAt t 4 = 90 ∨ byteAt t 4 = 43 ∨ byteAt t 4 = 45
        · have hsp : IsSp t 2 4 := ⟨by decide, by decide, by omega, h2, .inr h4⟩
          have hix : 0 ≤ idxB [90, 43, 45] (byteAt (t.drop 4) 0 : Int) := idx_zone.2 (by omega)
          rw [pre_no (n := 4) (by decide) (fun e => shp_nine (t := t) (n := 4) (by omega) h4 (e.symm.trans p57_1))] at hp3
          generalize idxB [90, 43, 45] (byteAt (t.drop 4) 0 : Int) = ix at *
          have hra2 := hA (t.take 4) (by rw [List.length_take]; omega)
          obtain ⟨v1, v2, -⟩ := und_clk (i := 2) (by decide) h2
          have hst := ref_stamped (G := G) hM hGL k 2 (by omega) (by decide) (outB 45 d) (outB 45 (t.take 4)) (t.drop 4) u1 u2 v1 v2 (by rw [List.length_drop]; omega)
          rw [whR_sp (by omega) he hsp] at hst
          generalize whR d true t = W at *
          obtain ⟨w, ew⟩ := W
          dsimp only at hst ⊢
          refine xn1 ?_
          intros
          refine dw_to (to_trans (to_sealc (i := 2) (k := 11) rfl rfl) (to_sealc (i := 1) (k := 9) rfl rfl)) ?_
          refine dw_pp mixed hC hGL false (fun _ _ => False) (fun _ : Unit => [(2, .own 0 (pS b2)), (3, .int .i64 ew.e)]) (fun _ => [stC b2 w.y w.m w.d w.h w.i w.s w.z w.o]) (.take 0 (.take 1 (.take 2 (.take 3 (.take 4 (.take 6 (.take 7 (.take 8 (.take 10 (.br 5 (.br 9 (.br 11 (.take 12 (.take 13 (.br 14 (.take 15 (.done)) (.nil)))) (.nil)) (.nil)) (.nil))))))))))) (by kernel_rfl) ?_ ?_ (fun _ _ h => h.elim)
          · refine xn ?_
            repeat' (first | exact Le.n | refine Lc.mk ?_ ?_)
            all_goals intros
            all_goals exact ⟨(), env_w, sub_w⟩
          · intro _
            exact xn0
        · have hns : ¬ IsSp t 2 (clkF 2).length := fun h => by have := h.hz; rw [hcl] at this; omega
          have hix : ¬ 0 ≤ idxB [90, 43, 45] (byteAt (t.drop 4) 0 : Int) := fun h => by have := idx_zone.1 h; omega
          generalize idxB [90, 43, 45] (byteAt (t.drop 4) 0 : Int) = ix at *
          refine xn1 ?_
          intros
          exact nxs 2 ⟨by decide, noSp_next hno hns⟩ (by decide) env_w sub_w
    · as_aux_lemma =>
        have hcl : (clkF 3).length = 6 := rfl
        have hcl2 : (clkF (1 + 2)).length = 6 := rfl
        refine xn1 ?_
        intro b11
        intros
        by_cases h1 : t.length < 6
        · have hns : ¬ IsSp t 3 (clkF 3).length := fun h => by have := h.hn; omega
          refine dw_pp mixed hC hGL true (fun _ _ => False) (fun _ : Unit => [(2, .own 0 (pS b2)), (4, .str d), (5, .str t), (6, .bool true), (26, .list 3 7 shapesF), (27, .int .i64 7), (28, .int .i64 (k : Nat)), (9, .own 1 (pS b9)), (11, .own 2 (pS b11)), (12, .int .i64 (6 : Nat)), (47, .list 3 (7 - 1) (fun i => shapesF (1 + i))), (48, .int .i64 6), (49, .int .i64 (2 : Nat)), (68, .bool true)]) (fun _ => [stC b2 0 0 0 0 0 0 false 0, .cells b9 (some 35) [.str (toldF k), .str (dateF k), .str (clkF k)], .cells b11 (some 35) [.str (toldF 3), .str (dateF 3), .str (clkF 3)]]) (.take 0 (.take 1 (.take 2 (.take 3 (.take 4 (.take 5 (.take 6 (.take 7 (.take 9 (.take 10 (.br 8 (.take 11 (.take 12 (.done))) (.nil)))))))))))) (by kernel_rfl) ?_ ?_ (fun _ _ h => h.elim)
          · refine xn ?_
            repeat' (first | exact Le.n | refine Lc.mk ?_ ?_)
            all_goals intros
            all_goals exact ⟨(), env_w, sub_w⟩
          intro _
          refine xn1 ?_
          intros
          exact nxs 3 ⟨by decide, noSp_next hno hns⟩ (by decide) env_w sub_w
        have hs2 := hSh (t.take 6) (by rw [List.length_take]; omega)
        by_cases h2 : ¬ shpS (t.take 6) = clkF 3
        · have hns : ¬ IsSp t 3 (clkF 3).length := fun h => h2 h.hs
          refine dw_pp mixed hC hGL true (fun _ _ => False) (fun _ : Unit => [(2, .own 0 (pS b2)), (4, .str d), (5, .str t), (6, .bool true), (26, .list 3 7 shapesF), (27, .int .i64 7), (28, .int .i64 (k : Nat)), (9, .own 1 (pS b9)), (11, .own 2 (pS b11)), (12, .int .i64 (6 : Nat)), (47, .list 3 (7 - 1) (fun i => shapesF (1 + i))), (48, .int .i64 6), (49, .int .i64 (2 : Nat)), (68, .bool (!seqB (shpS (t.take 6)) (clkF 3)))]) (fun _ => [stC b2 0 0 0 0 0 0 false 0, .cells b9 (some 35) [.str (toldF k), .str (dateF k), .str (clkF k)], .cells b11 (some 35) [.str (toldF 3), .str (dateF 3), .str (clkF 3)]]) (.take 0 (.take 1 (.take 2 (.take 3 (.take 4 (.take 5 (.take 6 (.take 7 (.take 9 (.take 10 (.br 8 (.take 11 (.take 12 (.done))) (.nil)))))))))))) (by kernel_rfl) ?_ ?_ (fun _ _ h => h.elim)
          · refine xn ?_
            repeat' (first | exact Le.n | refine Lc.mk ?_ ?_)
            all_goals intros
            all_goals exact ⟨(), env_w, sub_w⟩
          intro _
          refine xn1 ?_
          intros
          exact nxs 3 ⟨by decide, noSp_next hno hns⟩ (by decide) env_w sub_w
        have h2 : shpS (t.take 6) = clkF 3 := Decidable.not_not.1 h2
        refine dw_pp mixed hC hGL true (fun _ _ => False) (fun _ : Unit => [(2, .own 0 (pS b2)), (4, .str d), (5, .str t), (6, .bool true), (26, .list 3 7 shapesF), (27, .int .i64 7), (28, .int .i64 (k : Nat)), (9, .own 1 (pS b9)), (11, .own 2 (pS b11)), (12, .int .i64 (6 : Nat)), (47, .list 3 (7 - 1) (fun i => shapesF (1 + i))), (48, .int .i64 6), (49, .int .i64 (2 : Nat)), (68, .bool (!seqB (shpS (t.take 6)) (clkF 3)))]) (fun _ => [stC b2 0 0 0 0 0 0 false 0, .cells b9 (some 35) [.str (toldF k), .str (dateF k), .str (clkF k)], .cells b11 (some 35) [.str (toldF 3), .str (dateF 3), .str (clkF 3)]]) (.take 0 (.take 1 (.take 2 (.take 3 (.take 4 (.take 5 (.take 6 (.take 7 (.take 9 (.take 10 (.br 8 (.take 11 (.take 12 (.done))) (.nil)))))))))))) (by kernel_rfl) ?_ ?_ (fun _ _ h => h.elim)
        · refine xn ?_
          repeat' (first | exact Le.n | refine Lc.mk ?_ ?_)
          all_goals intros
          all_goals exact ⟨(), env_w, sub_w⟩
        intro _
        by_cases h3 : t.length = 6
        · have hsp : IsSp t 3 6 := ⟨by decide, by decide, by omega, h2, .inl h3.symm⟩
          have hd0 : (t.drop 6).length = 0 := by rw [List.length_drop]; omega
          have hra2 := hA (t.take 6) (by rw [List.length_take]; omega)
          obtain ⟨v1, v2, -⟩ := und_clk (i := 3) (by decide) h2
          have hst := ref_stamped (G := G) hM hGL k 3 (by omega) (by decide) (outB 45 d) (outB 45 (t.take 6)) (t.drop 6) u1 u2 v1 v2 (by rw [List.length_drop]; omega)
          rw [whR_sp (by omega) he hsp] at hst
          generalize whR d true t = W at *
          obtain ⟨w, ew⟩ := W
          dsimp only at hst ⊢
          refine xn1 ?_
          intros
          refine dw_to (to_trans (to_sealc (i := 2) (k := 11) rfl rfl) (to_sealc (i := 1) (k := 9) rfl rfl)) ?_
          refine dw_pp mixed hC hGL false (fun _ _ => False) (fun _ : Unit => [(2, .own 0 (pS b2)), (3, .int .i64 ew.e)]) (fun _ => [stC b2 w.y w.m w.d w.h w.i w.s w.z w.o]) (.take 0 (.take 1 (.take 2 (.take 3 (.take 4 (.take 6 (.take 7 (.take 8 (.take 10 (.br 5 (.br 9 (.br 11 (.take 12 (.take 13 (.br 14 (.take 15 (.done)) (.nil)))) (.nil)) (.nil)) (.nil))))))))))) (by kernel_rfl) ?_ ?_ (fun _ _ h => h.elim)
          · refine xn ?_
            repeat' (first | exact Le.n | refine Lc.mk ?_ ?_)
            all_goals intros
            all_goals exact ⟨(), env_w, sub_w⟩
          · intro _
            exact xn0
        have hdn : (t.drop 6).length ≠ 0 := by rw [List.length_drop]; omega
        have hbz : byteAt (t.drop 6) 0 = byteAt t 6 := by rw [drop_at]
        have hb9 := byteAt_lt (t.drop 6) 0
        have hx := hX (byteAt (t.drop 6) 0 : Int) (by omega) (by omega)
        by_cases h4 : byteAt t 6 = 90 ∨ byteAt t 6 = 43 ∨ byteAt t 6 = 45
        · have hsp : IsSp t 3 6 := ⟨by decide, by decide, by omega, h2, .inr h4⟩
          have hix : 0 ≤ idxB [90, 43, 45] (byteAt (t.drop 6) 0 : Int) := idx_zone.2 (by omega)
          generalize idxB [90, 43, 45] (byteAt (t.drop 6) 0 : Int) = ix at *
          have hra2 := hA (t.take 6) (by rw [List.length_take]; omega)
          obtain ⟨v1, v2, -⟩ := und_clk (i := 3) (by decide) h2
          have hst := ref_stamped (G := G) hM hGL k 3 (by omega) (by decide) (outB 45 d) (outB 45 (t.take 6)) (t.drop 6) u1 u2 v1 v2 (by rw [List.length_drop]; omega)
          rw [whR_sp (by omega) he hsp] at hst
          generalize whR d true t = W at *
          obtain ⟨w, ew⟩ := W
          dsimp only at hst ⊢
          refine xn1 ?_
          intros
          refine dw_to (to_trans (to_sealc (i := 2) (k := 11) rfl rfl) (to_sealc (i := 1) (k := 9) rfl rfl)) ?_
          refine dw_pp mixed hC hGL false (fun _ _ => False) (fun _ : Unit => [(2, .own 0 (pS b2)), (3, .int .i64 ew.e)]) (fun _ => [stC b2 w.y w.m w.d w.h w.i w.s w.z w.o]) (.take 0 (.take 1 (.take 2 (.take 3 (.take 4 (.take 6 (.take 7 (.take 8 (.take 10 (.br 5 (.br 9 (.br 11 (.take 12 (.take 13 (.br 14 (.take 15 (.done)) (.nil)))) (.nil)) (.nil)) (.nil))))))))))) (by kernel_rfl) ?_ ?_ (fun _ _ h => h.elim)
          · refine xn ?_
            repeat' (first | exact Le.n | refine Lc.mk ?_ ?_)
            all_goals intros
            all_goals exact ⟨(), env_w, sub_w⟩
          · intro _
            exact xn0
        · have hns : ¬ IsSp t 3 (clkF 3).length := fun h => by have := h.hz; rw [hcl] at this; omega
          have hix : ¬ 0 ≤ idxB [90, 43, 45] (byteAt (t.drop 6) 0 : Int) := fun h => by have := idx_zone.1 h; omega
          generalize idxB [90, 43, 45] (byteAt (t.drop 6) 0 : Int) = ix at *
          refine xn1 ?_
          intros
          exact nxs 3 ⟨by decide, noSp_next hno hns⟩ (by decide) env_w sub_w
    · as_aux_lemma =>
        have hcl : (clkF 4).length = 3 := rfl
        have hcl2 : (clkF (1 + 3)).length = 3 := rfl
        refine xn1 ?_
        intro b11
        intros
        by_cases h1 : t.length < 3
        · have hns : ¬ IsSp t 4 (clkF 4).length := fun h => by have := h.hn; omega
          refine dw_pp mixed hC hGL true (fun _ _ => False) (fun _ : Unit => [(2, .own 0 (pS b2)), (4, .str d), (5, .str t), (6, .bool true), (26, .list 3 7 shapesF), (27, .int .i64 7), (28, .int .i64 (k : Nat)), (9, .own 1 (pS b9)), (11, .own 2 (pS b11)), (12, .int .i64 (3 : Nat)), (47, .list 3 (7 - 1) (fun i => shapesF (1 + i))), (48, .int .i64 6), (49, .int .i64 (3 : Nat)), (68, .bool true)]) (fun _ => [stC b2 0 0 0 0 0 0 false 0, .cells b9 (some 35) [.str (toldF k), .str (dateF k), .str (clkF k)], .cells b11 (some 35) [.str (toldF 4), .str (dateF 4), .str (clkF 4)]]) (.take 0 (.take 1 (.take 2 (.take 3 (.take 4 (.take 5 (.take 6 (.take 7 (.take 9 (.take 10 (.br 8 (.take 11 (.take 12 (.done))) (.nil)))))))))))) (by kernel_rfl) ?_ ?_ (fun _ _ h => h.elim)
          · refine xn ?_
            repeat' (first | exact Le.n | refine Lc.mk ?_ ?_)
            all_goals intros
            all_goals exact ⟨(), env_w, sub_w⟩
          intro _
          refine xn1 ?_
          intros
          exact nxs 4 ⟨by decide, noSp_next hno hns⟩ (by decide) env_w sub_w
        have hs2 := hSh (t.take 3) (by rw [List.length_take]; omega)
        by_cases h2 : ¬ shpS (t.take 3) = clkF 4
        · have hns : ¬ IsSp t 4 (clkF 4).length := fun h => h2 h.hs
          refine dw_pp mixed hC hGL true (fun _ _ => False) (fun _ : Unit => [(2, .own 0 (pS b2)), (4, .str d), (5, .str t), (6, .bool true), (26, .list 3 7 shapesF), (27, .int .i64 7), (28, .int .i64 (k : Nat)), (9, .own 1 (pS b9)), (11, .own 2 (pS b11)), (12, .int .i64 (3 : Nat)), (47, .list 3 (7 - 1) (fun i => shapesF (1 + i))), (48, .int .i64 6), (49, .int .i64 (3 : Nat)), (68, .bool (!seqB (shpS (t.take 3)) (clkF 4)))]) (fun _ => [stC b2 0 0 0 0 0 0 false 0, .cells b9 (some 35) [.str (toldF k), .str (dateF k), .str (clkF k)], .cells b11 (some 35) [.str (toldF 4), .str (dateF 4), .str (clkF 4)]]) (.take 0 (.take 1 (.take 2 (.take 3 (.take 4 (.take 5 (.take 6 (.take 7 (.take 9 (.take 10 (.br 8 (.take 11 (.take 12 (.done))) (.nil)))))))))))) (by kernel_rfl) ?_ ?_ (fun _ _ h => h.elim)
          · refine xn ?_
            repeat' (first | exact Le.n | refine Lc.mk ?_ ?_)
            all_goals intros
            all_goals exact ⟨(), env_w, sub_w⟩
          intro _
          refine xn1 ?_
          intros
          exact nxs 4 ⟨by decide, noSp_next hno hns⟩ (by decide) env_w sub_w
        have h2 : shpS (t.take 3) = clkF 4 := Decidable.not_not.1 h2
        refine dw_pp mixed hC hGL true (fun _ _ => False) (fun _ : Unit => [(2, .own 0 (pS b2)), (4, .str d), (5, .str t), (6, .bool true), (26, .list 3 7 shapesF), (27, .int .i64 7), (28, .int .i64 (k : Nat)), (9, .own 1 (pS b9)), (11, .own 2 (pS b11)), (12, .int .i64 (3 : Nat)), (47, .list 3 (7 - 1) (fun i => shapesF (1 + i))), (48, .int .i64 6), (49, .int .i64 (3 : Nat)), (68, .bool (!seqB (shpS (t.take 3)) (clkF 4)))]) (fun _ => [stC b2 0 0 0 0 0 0 false 0, .cells b9 (some 35) [.str (toldF k), .str (dateF k), .str (clkF k)], .cells b11 (some 35) [.str (toldF 4), .str (dateF 4), .str (clkF 4)]]) (.take 0 (.take 1 (.take 2 (.take 3 (.take 4 (.take 5 (.take 6 (.take 7 (.take 9 (.take 10 (.br 8 (.take 11 (.take 12 (.done))) (.nil)))))))))))) (by kernel_rfl) ?_ ?_ (fun _ _ h => h.elim)
        · refine xn ?_
          repeat' (first | exact Le.n | refine Lc.mk ?_ ?_)
          all_goals intros
          all_goals exact ⟨(), env_w, sub_w⟩
        intro _
        have hs3 := hSh t (by omega)
        have hp3 := hP (shpS t) [45, 57, 57, 57, 57]
        have hls := shp_len t
        by_cases h3 : t.length = 3
        · have hsp : IsSp t 4 3 := ⟨by decide, by decide, by omega, h2, .inl h3.symm⟩
          have hd0 : (t.drop 3).length = 0 := by rw [List.length_drop]; omega
          rw [pre_long (by rw [hls, h3]; decide)] at hp3
          have hra2 := hA (t.take 3) (by rw [List.length_take]; omega)
          obtain ⟨v1, v2, -⟩ := und_clk (i := 4) (by decide) h2
          have hst := ref_stamped (G := G) hM hGL k 4 (by omega) (by decide) (outB 45 d) (outB 45 (t.take 3)) (t.drop 3) u1 u2 v1 v2 (by rw [List.length_drop]; omega)
          rw [whR_sp (by omega) he hsp] at hst
          generalize whR d true t = W at *
          obtain ⟨w, ew⟩ := W
          dsimp only at hst ⊢
          refine xn1 ?_
          intros
          refine dw_to (to_trans (to_sealc (i := 2) (k := 11) rfl rfl) (to_sealc (i := 1) (k := 9) rfl rfl)) ?_
          refine dw_pp mixed hC hGL false (fun _ _ => False) (fun _ : Unit => [(2, .own 0 (pS b2)), (3, .int .i64 ew.e)]) (fun _ => [stC b2 w.y w.m w.d w.h w.i w.s w.z w.o]) (.take 0 (.take 1 (.take 2 (.take 3 (.take 4 (.take 6 (.take 7 (.take 8 (.take 10 (.br 5 (.br 9 (.br 11 (.take 12 (.take 13 (.br 14 (.take 15 (.done)) (.nil)))) (.nil)) (.nil)) (.nil))))))))))) (by kernel_rfl) ?_ ?_ (fun _ _ h => h.elim)
          · refine xn ?_
            repeat' (first | exact Le.n | refine Lc.mk ?_ ?_)
            all_goals intros
            all_goals exact ⟨(), env_w, sub_w⟩
          · intro _
            exact xn0
        have hdn : (t.drop 3).length ≠ 0 := by rw [List.length_drop]; omega
        have hbz : byteAt (t.drop 3) 0 = byteAt t 3 := by rw [drop_at]
        have hb9 := byteAt_lt (t.drop 3) 0
        have hx := hX (byteAt (t.drop 3) 0 : Int) (by omega) (by omega)
        by_cases h4 : byteAt t 3 = 90 ∨ byteAt t 3 = 43 ∨ byteAt t 3 = 45
        · have hsp : IsSp t 4 3 := ⟨by decide, by decide, by omega, h2, .inr h4⟩
          have hix : 0 ≤ idxB [90, 43, 45] (byteAt (t.drop 3) 0 : Int) := idx_zone.2 (by omega)
          rw [pre_no (n := 3) (by decide) (fun e => shp_nine (t := t) (n := 3) (by omega) h4 (e.symm.trans p57_3))] at hp3
          generalize idxB [90, 43, 45] (byteAt (t.drop 3) 0 : Int) = ix at *
          have hra2 := hA (t.take 3) (by rw [List.length_take]; omega)
          obtain ⟨v1, v2, -⟩ := und_clk (i := 4) (by decide) h2
          have hst := ref_stamped (G := G) hM hGL k 4 (by omega) (by decide) (outB 45 d) (outB 45 (t.take 3)) (t.drop 3) u1 u2 v1 v2 (by rw [List.length_drop]; omega)
          rw [whR_sp (by omega) he hsp] at hst
          generalize whR d true t = W at *
          obtain ⟨w, ew⟩ := W
          dsimp only at hst ⊢
          refine xn1 ?_
          intros
          refine dw_to (to_trans (to_sealc (i := 2) (k := 11) rfl rfl) (to_sealc (i := 1) (k := 9) rfl rfl)) ?_
          refine dw_pp mixed hC hGL false (fun _ _ => False) (fun _ : Unit => [(2, .own 0 (pS b2)), (3, .int .i64 ew.e)]) (fun _ => [stC b2 w.y w.m w.d w.h w.i w.s w.z w.o]) (.take 0 (.take 1 (.take 2 (.take 3 (.take 4 (.take 6 (.take 7 (.take 8 (.take 10 (.br 5 (.br 9 (.br 11 (.take 12 (.take 13 (.br 14 (.take 15 (.done)) (.nil)))) (.nil)) (.nil)) (.nil))))))))))) (by kernel_rfl) ?_ ?_ (fun _ _ h => h.elim)
          · refine xn ?_
            repeat' (first | exact Le.n | refine Lc.mk ?_ ?_)
            all_goals intros
            all_goals exact ⟨(), env_w, sub_w⟩
          · intro _
            exact xn0
        · have hns : ¬ IsSp t 4 (clkF 4).length := fun h => by have := h.hz; rw [hcl] at this; omega
          have hix : ¬ 0 ≤ idxB [90, 43, 45] (byteAt (t.drop 3) 0 : Int) := fun h => by have := idx_zone.1 h; omega
          generalize idxB [90, 43, 45] (byteAt (t.drop 3) 0 : Int) = ix at *
          refine xn1 ?_
          intros
          exact nxs 4 ⟨by decide, noSp_next hno hns⟩ (by decide) env_w sub_w
    · as_aux_lemma =>
        have hcl : (clkF 5).length = 5 := rfl
        have hcl2 : (clkF (1 + 4)).length = 5 := rfl
        refine xn1 ?_
        intro b11
        intros
        by_cases h1 : t.length < 5
        · have hns : ¬ IsSp t 5 (clkF 5).length := fun h => by have := h.hn; omega
          refine dw_pp mixed hC hGL true (fun _ _ => False) (fun _ : Unit => [(2, .own 0 (pS b2)), (4, .str d), (5, .str t), (6, .bool true), (26, .list 3 7 shapesF), (27, .int .i64 7), (28, .int .i64 (k : Nat)), (9, .own 1 (pS b9)), (11, .own 2 (pS b11)), (12, .int .i64 (5 : Nat)), (47, .list 3 (7 - 1) (fun i => shapesF (1 + i))), (48, .int .i64 6), (49, .int .i64 (4 : Nat)), (68, .bool true)]) (fun _ => [stC b2 0 0 0 0 0 0 false 0, .cells b9 (some 35) [.str (toldF k), .str (dateF k), .str (clkF k)], .cells b11 (some 35) [.str (toldF 5), .str (dateF 5), .str (clkF 5)]]) (.take 0 (.take 1 (.take 2 (.take 3 (.take 4 (.take 5 (.take 6 (.take 7 (.take 9 (.take 10 (.br 8 (.take 11 (.take 12 (.done))) (.nil)))))))))))) (by kernel_rfl) ?_ ?_ (fun _ _ h => h.elim)
          · refine xn ?_
            repeat' (first | exact Le.n | refine Lc.mk ?_ ?_)
            all_goals intros
            all_goals exact ⟨(), env_w, sub_w⟩
          intro _
          refine xn1 ?_
          intros
          exact nxs 5 ⟨by decide, noSp_next hno hns⟩ (by decide) env_w sub_w
        have hs2 := hSh (t.take 5) (by rw [List.length_take]; omega)
        by_cases h2 : ¬ shpS (t.take 5) = clkF 5
        · have hns : ¬ IsSp t 5 (clkF 5).length := fun h => h2 h.hs
          refine dw_pp mixed hC hGL true (fun _ _ => False) (fun _ : Unit => [(2, .own 0 (pS b2)), (4, .str d), (5, .str t), (6, .bool true), (26, .list 3 7 shapesF), (27, .int .i64 7), (28, .int .i64 (k : Nat)), (9, .own 1 (pS b9)), (11, .own 2 (pS b11)), (12, .int .i64 (5 : Nat)), (47, .list 3 (7 - 1) (fun i => shapesF (1 + i))), (48, .int .i64 6), (49, .int .i64 (4 : Nat)), (68, .bool (!seqB (shpS (t.take 5)) (clkF 5)))]) (fun _ => [stC b2 0 0 0 0 0 0 false 0, .cells b9 (some 35) [.str (toldF k), .str (dateF k), .str (clkF k)], .cells b11 (some 35) [.str (toldF 5), .str (dateF 5), .str (clkF 5)]]) (.take 0 (.take 1 (.take 2 (.take 3 (.take 4 (.take 5 (.take 6 (.take 7 (.take 9 (.take 10 (.br 8 (.take 11 (.take 12 (.done))) (.nil)))))))))))) (by kernel_rfl) ?_ ?_ (fun _ _ h => h.elim)
          · refine xn ?_
            repeat' (first | exact Le.n | refine Lc.mk ?_ ?_)
            all_goals intros
            all_goals exact ⟨(), env_w, sub_w⟩
          intro _
          refine xn1 ?_
          intros
          exact nxs 5 ⟨by decide, noSp_next hno hns⟩ (by decide) env_w sub_w
        have h2 : shpS (t.take 5) = clkF 5 := Decidable.not_not.1 h2
        refine dw_pp mixed hC hGL true (fun _ _ => False) (fun _ : Unit => [(2, .own 0 (pS b2)), (4, .str d), (5, .str t), (6, .bool true), (26, .list 3 7 shapesF), (27, .int .i64 7), (28, .int .i64 (k : Nat)), (9, .own 1 (pS b9)), (11, .own 2 (pS b11)), (12, .int .i64 (5 : Nat)), (47, .list 3 (7 - 1) (fun i => shapesF (1 + i))), (48, .int .i64 6), (49, .int .i64 (4 : Nat)), (68, .bool (!seqB (shpS (t.take 5)) (clkF 5)))]) (fun _ => [stC b2 0 0 0 0 0 0 false 0, .cells b9 (some 35) [.str (toldF k), .str (dateF k), .str (clkF k)], .cells b11 (some 35) [.str (toldF 5), .str (dateF 5), .str (clkF 5)]]) (.take 0 (.take 1 (.take 2 (.take 3 (.take 4 (.take 5 (.take 6 (.take 7 (.take 9 (.take 10 (.br 8 (.take 11 (.take 12 (.done))) (.nil)))))))))))) (by kernel_rfl) ?_ ?_ (fun _ _ h => h.elim)
        · refine xn ?_
          repeat' (first | exact Le.n | refine Lc.mk ?_ ?_)
          all_goals intros
          all_goals exact ⟨(), env_w, sub_w⟩
        intro _
        by_cases h3 : t.length = 5
        · have hsp : IsSp t 5 5 := ⟨by decide, by decide, by omega, h2, .inl h3.symm⟩
          have hd0 : (t.drop 5).length = 0 := by rw [List.length_drop]; omega
          have hra2 := hA (t.take 5) (by rw [List.length_take]; omega)
          obtain ⟨v1, v2, -⟩ := und_clk (i := 5) (by decide) h2
          have hst := ref_stamped (G := G) hM hGL k 5 (by omega) (by decide) (outB 45 d) (outB 45 (t.take 5)) (t.drop 5) u1 u2 v1 v2 (by rw [List.length_drop]; omega)
          rw [whR_sp (by omega) he hsp] at hst
          generalize whR d true t = W at *
          obtain ⟨w, ew⟩ := W
          dsimp only at hst ⊢
          refine xn1 ?_
          intros
          refine dw_to (to_trans (to_sealc (i := 2) (k := 11) rfl rfl) (to_sealc (i := 1) (k := 9) rfl rfl)) ?_
          refine dw_pp mixed hC hGL false (fun _ _ => False) (fun _ : Unit => [(2, .own 0 (pS b2)), (3, .int .i64 ew.e)]) (fun _ => [stC b2 w.y w.m w.d w.h w.i w.s w.z w.o]) (.take 0 (.take 1 (.take 2 (.take 3 (.take 4 (.take 6 (.take 7 (.take 8 (.take 10 (.br 5 (.br 9 (.br 11 (.take 12 (.take 13 (.br 14 (.take 15 (.done)) (.nil)))) (.nil)) (.nil)) (.nil))))))))))) (by kernel_rfl) ?_ ?_ (fun _ _ h => h.elim)
          · refine xn ?_
            repeat' (first | exact Le.n | refine Lc.mk ?_ ?_)
            all_goals intros
            all_goals exact ⟨(), env_w, sub_w⟩
          · intro _
            exact xn0
        have hdn : (t.drop 5).length ≠ 0 := by rw [List.length_drop]; omega
        have hbz : byteAt (t.drop 5) 0 = byteAt t 5 := by rw [drop_at]
        have hb9 := byteAt_lt (t.drop 5) 0
        have hx := hX (byteAt (t.drop 5) 0 : Int) (by omega) (by omega)
        by_cases h4 : byteAt t 5 = 90 ∨ byteAt t 5 = 43 ∨ byteAt t 5 = 45
        · have hsp : IsSp t 5 5 := ⟨by decide, by decide, by omega, h2, .inr h4⟩
          have hix : 0 ≤ idxB [90, 43, 45] (byteAt (t.drop 5) 0 : Int) := idx_zone.2 (by omega)
          generalize idxB [90, 43, 45] (byteAt (t.drop 5) 0 : Int) = ix at *
          have hra2 := hA (t.take 5) (by rw [List.length_take]; omega)
          obtain ⟨v1, v2, -⟩ := und_clk (i := 5) (by decide) h2
          have hst := ref_stamped (G := G) hM hGL k 5 (by omega) (by decide) (outB 45 d) (outB 45 (t.take 5)) (t.drop 5) u1 u2 v1 v2 (by rw [List.length_drop]; omega)
          rw [whR_sp (by omega) he hsp] at hst
          generalize whR d true t = W at *
          obtain ⟨w, ew⟩ := W
          dsimp only at hst ⊢
          refine xn1 ?_
          intros
          refine dw_to (to_trans (to_sealc (i := 2) (k := 11) rfl rfl) (to_sealc (i := 1) (k := 9) rfl rfl)) ?_
          refine dw_pp mixed hC hGL false (fun _ _ => False) (fun _ : Unit => [(2, .own 0 (pS b2)), (3, .int .i64 ew.e)]) (fun _ => [stC b2 w.y w.m w.d w.h w.i w.s w.z w.o]) (.take 0 (.take 1 (.take 2 (.take 3 (.take 4 (.take 6 (.take 7 (.take 8 (.take 10 (.br 5 (.br 9 (.br 11 (.take 12 (.take 13 (.br 14 (.take 15 (.done)) (.nil)))) (.nil)) (.nil)) (.nil))))))))))) (by kernel_rfl) ?_ ?_ (fun _ _ h => h.elim)
          · refine xn ?_
            repeat' (first | exact Le.n | refine Lc.mk ?_ ?_)
            all_goals intros
            all_goals exact ⟨(), env_w, sub_w⟩
          · intro _
            exact xn0
        · have hns : ¬ IsSp t 5 (clkF 5).length := fun h => by have := h.hz; rw [hcl] at this; omega
          have hix : ¬ 0 ≤ idxB [90, 43, 45] (byteAt (t.drop 5) 0 : Int) := fun h => by have := idx_zone.1 h; omega
          generalize idxB [90, 43, 45] (byteAt (t.drop 5) 0 : Int) = ix at *
          refine xn1 ?_
          intros
          exact nxs 5 ⟨by decide, noSp_next hno hns⟩ (by decide) env_w sub_w
    · as_aux_lemma =>
        have hcl : (clkF 6).length = 4 := rfl
        have hcl2 : (clkF (1 + 5)).length = 4 := rfl
        refine xn1 ?_
        intro b11
        intros
        by_cases h1 : t.length < 4
        · have hns : ¬ IsSp t 6 (clkF 6).length := fun h => by have := h.hn; omega
          refine dw_pp mixed hC hGL true (fun _ _ => False) (fun _ : Unit => [(2, .own 0 (pS b2)), (4, .str d), (5, .str t), (6, .bool true), (26, .list 3 7 shapesF), (27, .int .i64 7), (28, .int .i64 (k : Nat)), (9, .own 1 (pS b9)), (11, .own 2 (pS b11)), (12, .int .i64 (4 : Nat)), (47, .list 3 (7 - 1) (fun i => shapesF (1 + i))), (48, .int .i64 6), (49, .int .i64 (5 : Nat)), (68, .bool true)]) (fun _ => [stC b2 0 0 0 0 0 0 false 0, .cells b9 (some 35) [.str (toldF k), .str (dateF k), .str (clkF k)], .cells b11 (some 35) [.str (toldF 6), .str (dateF 6), .str (clkF 6)]]) (.take 0 (.take 1 (.take 2 (.take 3 (.take 4 (.take 5 (.take 6 (.take 7 (.take 9 (.take 10 (.br 8 (.take 11 (.take 12 (.done))) (.nil)))))))))))) (by kernel_rfl) ?_ ?_ (fun _ _ h => h.elim)
          · refine xn ?_
            repeat' (first | exact Le.n | refine Lc.mk ?_ ?_)
            all_goals intros
            all_goals exact ⟨(), env_w, sub_w⟩
          intro _
          refine xn1 ?_
          intros
          exact nxs 6 ⟨by decide, noSp_next hno hns⟩ (by decide) env_w sub_w
        have hs2 := hSh (t.take 4) (by rw [List.length_take]; omega)
        by_cases h2 : ¬ shpS (t.take 4) = clkF 6
        · have hns : ¬ IsSp t 6 (clkF 6).length := fun h => h2 h.hs
          refine dw_pp mixed hC hGL true (fun _ _ => False) (fun _ : Unit => [(2, .own 0 (pS b2)), (4, .str d), (5, .str t), (6, .bool true), (26, .list 3 7 shapesF), (27, .int .i64 7), (28, .int .i64 (k : Nat)), (9, .own 1 (pS b9)), (11, .own 2 (pS b11)), (12, .int .i64 (4 : Nat)), (47, .list 3 (7 - 1) (fun i => shapesF (1 + i))), (48, .int .i64 6), (49, .int .i64 (5 : Nat)), (68, .bool (!seqB (shpS (t.take 4)) (clkF 6)))]) (fun _ => [stC b2 0 0 0 0 0 0 false 0, .cells b9 (some 35) [.str (toldF k), .str (dateF k), .str (clkF k)], .cells b11 (some 35) [.str (toldF 6), .str (dateF 6), .str (clkF 6)]]) (.take 0 (.take 1 (.take 2 (.take 3 (.take 4 (.take 5 (.take 6 (.take 7 (.take 9 (.take 10 (.br 8 (.take 11 (.take 12 (.done))) (.nil)))))))))))) (by kernel_rfl) ?_ ?_ (fun _ _ h => h.elim)
          · refine xn ?_
            repeat' (first | exact Le.n | refine Lc.mk ?_ ?_)
            all_goals intros
            all_goals exact ⟨(), env_w, sub_w⟩
          intro _
          refine xn1 ?_
          intros
          exact nxs 6 ⟨by decide, noSp_next hno hns⟩ (by decide) env_w sub_w
        have h2 : shpS (t.take 4) = clkF 6 := Decidable.not_not.1 h2
        refine dw_pp mixed hC hGL true (fun _ _ => False) (fun _ : Unit => [(2, .own 0 (pS b2)), (4, .str d), (5, .str t), (6, .bool true), (26, .list 3 7 shapesF), (27, .int .i64 7), (28, .int .i64 (k : Nat)), (9, .own 1 (pS b9)), (11, .own 2 (pS b11)), (12, .int .i64 (4 : Nat)), (47, .list 3 (7 - 1) (fun i => shapesF (1 + i))), (48, .int .i64 6), (49, .int .i64 (5 : Nat)), (68, .bool (!seqB (shpS (t.take 4)) (clkF 6)))]) (fun _ => [stC b2 0 0 0 0 0 0 false 0, .cells b9 (some 35) [.str (toldF k), .str (dateF k), .str (clkF k)], .cells b11 (some 35) [.str (toldF 6), .str (dateF 6), .str (clkF 6)]]) (.take 0 (.take 1 (.take 2 (.take 3 (.take 4 (.take 5 (.take 6 (.take 7 (.take 9 (.take 10 (.br 8 (.take 11 (.take 12 (.done))) (.nil)))))))))))) (by kernel_rfl) ?_ ?_ (fun _ _ h => h.elim)
        · refine xn ?_
          repeat' (first | exact Le.n | refine Lc.mk ?_ ?_)
          all_goals intros
          all_goals exact ⟨(), env_w, sub_w⟩
        intro _
        by_cases h3 : t.length = 4
        · have hsp : IsSp t 6 4 := ⟨by decide, by decide, by omega, h2, .inl h3.symm⟩
          have hd0 : (t.drop 4).length = 0 := by rw [List.length_drop]; omega
          have hra2 := hA (t.take 4) (by rw [List.length_take]; omega)
          obtain ⟨v1, v2, -⟩ := und_clk (i := 6) (by decide) h2
          have hst := ref_stamped (G := G) hM hGL k 6 (by omega) (by decide) (outB 45 d) (outB 45 (t.take 4)) (t.drop 4) u1 u2 v1 v2 (by rw [List.length_drop]; omega)
          rw [whR_sp (by omega) he hsp] at hst
          generalize whR d true t = W at *
          obtain ⟨w, ew⟩ := W
          dsimp only at hst ⊢
          refine xn1 ?_
          intros
          refine dw_to (to_trans (to_sealc (i := 2) (k := 11) rfl rfl) (to_sealc (i := 1) (k := 9) rfl rfl)) ?_
          refine dw_pp mixed hC hGL false (fun _ _ => False) (fun _ : Unit => [(2, .own 0 (pS b2)), (3, .int .i64 ew.e)]) (fun _ => [stC b2 w.y w.m w.d w.h w.i w.s w.z w.o]) (.take 0 (.take 1 (.take 2 (.take 3 (.take 4 (.take 6 (.take 7 (.take 8 (.take 10 (.br 5 (.br 9 (.br 11 (.take 12 (.take 13 (.br 14 (.take 15 (.done)) (.nil)))) (.nil)) (.nil)) (.nil))))))))))) (by kernel_rfl) ?_ ?_ (fun _ _ h => h.elim)
          · refine xn ?_
            repeat' (first | exact Le.n | refine Lc.mk ?_ ?_)
            all_goals intros
            all_goals exact ⟨(), env_w, sub_w⟩
          · intro _
            exact xn0
        have hdn : (t.drop 4).length ≠ 0 := by rw [List.length_drop]; omega
        have hbz : byteAt (t.drop 4) 0 = byteAt t 4 := by rw [drop_at]
        have hb9 := byteAt_lt (t.drop 4) 0
        have hx := hX (byteAt (t.drop 4) 0 : Int) (by omega) (by omega)
        by_cases h4 : byteAt t 4 = 90 ∨ byteAt t 4 = 43 ∨ byteAt t 4 = 45
        · have hsp : IsSp t 6 4 := ⟨by decide, by decide, by omega, h2, .inr h4⟩
          have hix : 0 ≤ idxB [90, 43, 45] (byteAt (t.drop 4) 0 : Int) := idx_zone.2 (by omega)
          generalize idxB [90, 43, 45] (byteAt (t.drop 4) 0 : Int) = ix at *
          have hra2 := hA (t.take 4) (by rw [List.length_take]; omega)
          obtain ⟨v1, v2, -⟩ := und_clk (i := 6) (by decide) h2
          have hst := ref_stamped (G := G) hM hGL k 6 (by omega) (by decide) (outB 45 d) (outB 45 (t.take 4)) (t.drop 4) u1 u2 v1 v2 (by rw [List.length_drop]; omega)
          rw [whR_sp (by omega) he hsp] at hst
          generalize whR d true t = W at *
          obtain ⟨w, ew⟩ := W
          dsimp only at hst ⊢
          refine xn1 ?_
          intros
          refine dw_to (to_trans (to_sealc (i := 2) (k := 11) rfl rfl) (to_sealc (i := 1) (k := 9) rfl rfl)) ?_
          refine dw_pp mixed hC hGL false (fun _ _ => False) (fun _ : Unit => [(2, .own 0 (pS b2)), (3, .int .i64 ew.e)]) (fun _ => [stC b2 w.y w.m w.d w.h w.i w.s w.z w.o]) (.take 0 (.take 1 (.take 2 (.take 3 (.take 4 (.take 6 (.take 7 (.take 8 (.take 10 (.br 5 (.br 9 (.br 11 (.take 12 (.take 13 (.br 14 (.take 15 (.done)) (.nil)))) (.nil)) (.nil)) (.nil))))))))))) (by kernel_rfl) ?_ ?_ (fun _ _ h => h.elim)
          · refine xn ?_
            repeat' (first | exact Le.n | refine Lc.mk ?_ ?_)
            all_goals intros
            all_goals exact ⟨(), env_w, sub_w⟩
          · intro _
            exact xn0
        · have hns : ¬ IsSp t 6 (clkF 6).length := fun h => by have := h.hz; rw [hcl] at this; omega
          have hix : ¬ 0 ≤ idxB [90, 43, 45] (byteAt (t.drop 4) 0 : Int) := fun h => by have := idx_zone.1 h; omega
          generalize idxB [90, 43, 45] (byteAt (t.drop 4) 0 : Int) = ix at *
          refine xn1 ?_
          intros
          exact nxs 6 ⟨by decide, noSp_next hno hns⟩ (by decide) env_w sub_w
    · as_aux_lemma =>
        refine xn1 ?_
        intros
        exact nxs (k + 1) (hcont hno) (by omega) env_w sub_w
end Go.Proofs.YtjedjiffaopmkaaGreatDoor
namespace Go.Proofs.YtjedjiffaopmkaaGreatDoor
open Go
set_option linter.unusedSimpArgs false
def andL : List Bool → Bool
  | [] => true
  | b :: l => b && andL l
def fldEq (P : Program) [Tab P] (cs ds : List AVal) : List Field → Option (List Bool)
  | [] => some []
  | f :: fs => match tab P f.type, cs[f.offset]?, ds[f.offset]?, fldEq P cs ds fs with
    | some x, some a, some b, some l => match x.desc, a, b with
      | .int _, .int k m, .int j q => match Nat.beq (kix k) (kix j) with
        | true => some (eqB m q :: l)
        | false => none
      | .string, .str s, .str t => some (seqB s t :: l)
      | .bool, .bool s, .bool t => some ((s == t) :: l)
      | _, _, _ => none
    | _, _, _, _ => none
theorem part_one {P : Program} [Tab P] {xs : Array Value} {v : Value} {t : TypeId} {x : TI} {o : Nat} (ht : tab P t = some x) (hd : descAgg x.desc = false) (hv : xs[o]? = some v) (w : World) : (part t xs o).run P w = .ok v w := by
  simp only [part, Sem.run_bind, tab_run_agg ht, hd, Result.andThen_ok, Bool.false_eq_true, if_false, hv, Sem.run_pure]
theorem eqFields_run {P : Program} [Tab P] {R : Seal} {cs ds : List AVal} {xs ys : Array Value} (ha : RelL R cs xs.toList) (hb : RelL R ds ys.toList) (d : Nat) (w : World) :
    ∀ (fs : List Field) (l : List Bool), (fs.all fun f => f.name != "_") = true → fldEq P cs ds fs = some l → (Op.eqFields (d + 1) xs ys fs).run P w = .ok (andL l) w
  | [], l, _, h => by
    simp only [fldEq, Option.some.injEq] at h
    subst h
    rfl
  | f :: fs, l, hn, h => by
    simp only [List.all_cons, Bool.and_eq_true, bne_iff_ne, ne_eq] at hn
    simp only [fldEq] at h
    split at h
    · rename_i x a b l' ht h1 h2 h3
      have ih := eqFields_run ha hb d w fs l' hn.2 h3
      obtain ⟨va, e1, r1⟩ := relL_get ha h1
      obtain ⟨vb, e2, r2⟩ := relL_get hb h2
      have e1 : xs[f.offset]? = some va := by simpa using e1
      have e2 : ys[f.offset]? = some vb := by simpa using e2
      have fin : ∀ r : Bool, descAgg x.desc = false → (Op.equalIn (d + 1) f.type va vb).run P w = .ok r w → (Op.eqFields (d + 1) xs ys (f :: fs)).run P w = .ok (andL (r :: l')) w := by
        intro r hd hr
        simp only [Op.eqFields, ne_eq, hn.1, not_false_eq_true, if_true, Sem.run_bind, part_one ht hd e1, part_one ht hd e2, Result.andThen_ok, hr]
        cases r
        · rfl
        · exact ih
      split at h
      · rename_i q1 k m j q hd
        split at h
        · rename_i hk
          cases h
          obtain rfl := kix_eq hk
          obtain rfl := rel_int.1 (relC_rel r1 rfl)
          obtain rfl := rel_int.1 (relC_rel r2 rfl)
          refine fin _ (by rw [hd]; rfl) ?_
          rw [run_equalIn_int w d f.type _ _ _ _ (by rw [tab_und ht, hd])]
          unfold eqB
          rfl
        · cases h
      · rename_i s t hd
        cases h
        obtain rfl := rel_str.1 (relC_rel r1 rfl)
        obtain rfl := rel_str.1 (relC_rel r2 rfl)
        refine fin _ (by rw [hd]; rfl) ?_
        rw [run_equalIn_string w d f.type _ _ (by rw [tab_und ht, hd])]
        rw [ByteArray.toList_eq, ByteArray.toList_eq]
        unfold seqB
        simp
      · rename_i s t hd
        cases h
        obtain rfl := rel_bool.1 (relC_rel r1 rfl)
        obtain rfl := rel_bool.1 (relC_rel r2 rfl)
        exact fin _ (by rw [hd]; rfl) (run_equalIn_bool' w d f.type _ _ (by rw [tab_und ht, hd]))
      · cases h
    · cases h
section
variable {P : Program} [Tab P] {C : Ctx} {env : Env} {H : Heap} {x y : Operand} {T ty : TypeId}
theorem agg_of {R : Seal} {cs : List AVal} {v : Value} (h : Rel R (.agg cs) v) : ∃ vs, v = .agg vs ∧ RelL R cs vs.toList := by
  obtain ⟨h1, h2⟩ := h
  cases v <;> first | exact ⟨_, rfl, h1⟩ | (simp [AVal.isAgg, vAgg] at h2)
theorem rv_eqagg {cs ds : List AVal} {fs : Array Field} {l : List Bool} {xT : TI} (b : Bool) (hx : evalA env x = some (.agg cs)) (hy : evalA env y = some (.agg ds)) (h1 : tab P T = some xT) (h2 : xT.desc = .struct fs)
    (h3 : P.stoodInHeld T = false) (h4 : P.eqGuardType P.depth T = false) (h5 : (fs.toList.all fun f => f.name != "_") = true) (h6 : fldEq P cs ds fs.toList = some l) (hb : andL l = b) : RunV P C H env (.binOp .eql T x y ty) (.bool b) := by
  intro R ρ w hm hf dst t p af g
  refine ⟨_, ?_, rel_bool.2 rfl⟩
  obtain ⟨xs, ex, rx⟩ := agg_of (hf _ _ hx)
  obtain ⟨ys, ey, ry⟩ := agg_of (hf _ _ hy)
  have hu : P.underlying T = some (.struct fs) := by rw [tab_und h1, h2]
  have hfo : P.fieldsOf T = fs := by unfold Program.fieldsOf; rw [hu]
  have e1 : (Op.equalIn 10000 T (.agg xs) (.agg ys)).run P w = .ok b w := by
    rw [show (10000 : Nat) = 9999 + 1 from rfl, run_equalIn_agg w 9999 T xs ys (by rw [hfo]; exact hu) h3, hfo]
    subst hb
    exact eqFields_run rx ry 9998 w _ _ h5 h6
  simp only [execOp, ex, ey, Sem.run_bind, run_eql_struct, e1, run_eqGuard_agg w .eql T x y xs ys h4, Result.andThen_ok, Sem.run_pure]
end
end Go.Proofs.YtjedjiffaopmkaaGreatDoor
namespace Go.Proofs.YtjedjiffaopmkaaGreatDoor
open Go Go.RowKit
set_option maxRecDepth 20000
set_option maxHeartbeats 4000000
set_option linter.unusedSimpArgs false
set_option linter.unusedVariables false
attribute [local irreducible] AWp AOps byteAt SrcOK OrOk GloAll FnSpec
theorem whR_notat (d : List UInt8) (b : Bool) (t : List UInt8) (e p : Int) : (whR d b t).2 ≠ .at e p := by
  unfold whR finP
  (repeat' split) <;> (intro h; cases h)
theorem whP_p (s : List UInt8) : (whP s).2.p = -1 := by
  rcases hq : (whP s).2 with _ | e | ⟨e, p⟩
  · rfl
  · rfl
  · exact absurd hq (whR_notat _ _ _ e p)
theorem stm_same (t : Stm) : andL [eqB t.y t.y, eqB t.m t.m, eqB t.d t.d, eqB t.h t.h, eqB t.i t.i, eqB t.s t.s, t.z == t.z, eqB t.o t.o] = true := by
  have e : ∀ x : Int, eqB x x = true := fun x => eqB_t.2 rfl
  simp only [andL, e, beq_self_eq_true, Bool.and_self]
theorem law_WhenParses {G : Glo} {m : Int} (hE : GloAll G errTy) (hU : GloAll G utfTy) (hM : GloAll G (maxTy m)) (hS : GloAll G shapesTy) (s : List UInt8) (hl : s.length ≤ 9223372036854775807) : FnIs Tryz.prog G 3 [.str s] (.bool true) := by
  have h6 := bare_ok (G := G) hE (whP s).2 (whP_p s)
  have hc1 := Tryz.call6
  by_cases hs : s.length ≤ 60
  · have h1 := ref_WhenParse (G := G) hS hM s (by omega)
    have h2 := when_Parse (G := G) hU hM s (by omega)
    rcases hq : (whP s).2 with _ | e | ⟨e, p⟩
    case «at» => exact absurd hq (whR_notat _ _ _ e p)
    all_goals
      rw [hq] at h6 h1 h2
      simp only [Err.A, Err.e, errA] at h6 h1 h2
      generalize (whP s).1 = t at h1 h2
      have hz := stm_same t
      have hGL : GloAll G [] := gloAll_nil
      refine fn_x Tryz.func3 Tryz.call3 rfl rfl rfl rfl hGL ?_
      intro C hC
      refine xw ?_
      repeat' (first | exact Le.n | refine Lc.mk ?_ ?_)
      all_goals intros
      all_goals try (refine op1_run hC hGL (rv_eqagg true rfl rfl rfl rfl (by kernel_rfl) (by kernel_rfl) (by kernel_rfl) rfl hz) rfl rfl ?_; refine xw ?_)
      repeat' (first | exact Le.n | refine Lc.mk ?_ ?_)
      all_goals intros
      all_goals first
        | exact absurd rfl (by assumption)
        | (apply rt_is; rfl)
  · have hGL : GloAll G [] := gloAll_nil
    refine fn_x Tryz.func3 Tryz.call3 rfl rfl rfl rfl hGL ?_
    intro C hC
    exact xw0
end Go.Proofs.YtjedjiffaopmkaaGreatDoor
namespace Go.Proofs.YtjedjiffaopmkaaGreatDoor
open Go
theorem chunks {α β : Type} (k : Nat) (E : α → List β) (hE : ∀ z, (E z).length = k) : ∀ (zs : List α) (cs : List β), cs.length = zs.length * k →
    (∀ i z, zs[i]? = some z → (cs.drop (i * k)).take k = E z) → cs = zs.flatMap E
  | [], cs, hl, _ => by
    simp only [List.length_nil, Nat.zero_mul] at hl
    simp [List.eq_nil_of_length_eq_zero hl]
  | z :: zs, cs, hl, h => by
    have h0 := h 0 z rfl
    simp only [Nat.zero_mul, List.drop_zero] at h0
    have hr := chunks k E hE zs (cs.drop k) (by rw [List.length_drop, hl, List.length_cons, Nat.succ_mul]; omega) (fun i y hy => by
      have := h (i + 1) y hy
      rw [List.drop_drop]
      rw [Nat.succ_mul, Nat.add_comm] at this
      exact this)
    rw [List.flatMap_cons, ← h0, ← hr, List.take_append_drop]
theorem relL_ints {R : Seal} : ∀ (l : List (IntKind × Int)), RelL R (l.map fun x => .int x.1 x.2) (l.map fun x => .int x.1 x.2)
  | [] => rfl
  | _ :: l => ⟨_, _, rfl, rfl, relL_ints l⟩
section
variable {P : Program} {H : Type} {enc : TypeId × Value → H} {w : World} {base : Nat} {spare : Nat → Bool} {held : Bool}
theorem trod_ints {t e n fuel : Nat} {k : IntKind} {cs : List Value} {ps : List MemPlace} {zs : List Nat} (ht : P.underlying t = some (.array n e)) (he : P.underlying e = some (.int k)) (hc : P.cellsOf e = 1) (hct : P.cellsOf t = n)
    (h : DataW.trod enc P w base spare held fuel t cs = some (.agg (zs.map fun x : Nat => .lit (.int k (x : Int))), ps)) (hz : zs.length = n) : cs = zs.flatMap fun x : Nat => [Value.int k (x : Int)] := by
  obtain ⟨xs, m, _, ex, hl, hxl, hel⟩ := DataW.trod_array ht h
  have e3 : (xs.map (·.1)) = zs.map fun x : Nat => .lit (.int k x) := (DataW.agg.inj (Prod.mk.inj ex).1).symm
  refine chunks 1 _ (fun _ => rfl) zs cs (by omega) (fun i z hi => ?_)
  have hin : i < zs.length := (List.getElem?_eq_some_iff.1 hi).1
  have hE := hel i (by omega)
  rw [hc, List.getElem?_eq_getElem (by omega)] at hE
  obtain ⟨y, e1, e2, _⟩ := DataW.trod_int he hE
  have e4 : (xs.map (·.1))[i]? = (zs.map fun x : Nat => (DataW.lit (.int k x) : DataW H))[i]? := by rw [e3]
  rw [List.getElem?_map, List.getElem?_map, List.getElem?_eq_getElem (by omega : i < xs.length), hi, e2] at e4
  simp only [Option.map_some, Option.some.injEq, DataW.lit.injEq, Lit.int.injEq, true_and] at e4
  rw [e1, e4]
end
/-- One laid variable. -/
theorem laid_at {P : Program} {W : World} {laid : List (String × DataW Unit)} (hL : laidMetH P laid W) {n : String} {d : DataW Unit} (hm : (n, d) ∈ laid) (hn : d.handleName?.isNone = true) {g : Nat} {t : TypeId} (hg : P.globalNamed n = some g) (ht : (P.globals[g]?).map (·.type) = some t) :
    ∃ cs e fz fuel p, W.heap[g]? = some (.cells cs e fz) ∧ DataW.trod (fun _ => ()) P W 0 (fun _ => true) false fuel t cs.toList = some (d, p) := by
  have h1 := (laidMetH_iff.1 hL).1
  obtain ⟨ps, h, _⟩ := h1
  have key : ∀ (l : List (String × DataW Unit)) (ps : List MemPlace), DataW.LaidVars P W l ps → (n, d) ∈ l → ∃ cs e fz fuel p, W.heap[g]? = some (.cells cs e fz) ∧ DataW.trod (fun _ => ()) P W 0 (fun _ => true) false fuel t cs.toList = some (d, p) := by
    intro l
    induction l with
    | nil => intro ps _ hm; cases hm
    | cons a r ih =>
      obtain ⟨m, b⟩ := a
      rintro ps ⟨g', t', cs, fuel, p, q, e1, e2, e3, e4, e5, _⟩ hm
      rcases List.mem_cons.1 hm with hm | hm
      · cases hm
        obtain rfl := Option.some.inj (hg.symm.trans e1)
        obtain rfl := Option.some.inj (ht.symm.trans e2)
        obtain ⟨e, fz, hh⟩ := var_heap hg e3
        exact ⟨cs, e, fz, fuel, p, hh, e4⟩
      · exact ih q e5 hm
  exact key _ ps h (List.mem_filter.2 ⟨hm, hn⟩)
/-- The wrap of a row with a listed table, the world's shape kept. -/
theorem returnsInHanded_shaped {H : Type} {enc : TypeId × Value → H} {a : Assume} {C : Checked} {os : Os} {f : FuncId} {fn : Func} {s : ChangeSpec} {conds : List PathCond} {apart fresh handsOn again : Bool} {X : World → Array Value → Prop}
    (hX : ∀ (w w' : World) (args : Array Value), w.heap = w'.heap → X w args → X w' args)
    (own : ownKnob C.prog.godebug = none) (started : os.Started) (noInit : C.prog.inits.idxOf? f = none) (hfn : C.prog.funcs[f]? = some fn)
    (witness : ∃ (w : World) (tape : Tape) (i : Input), w.os = os ∧ (w.forCall tape i).Shaped C.prog ∧ i.vars = [] ∧ Input.okWide C.prog (w.forCall tape i) .any w.heap.size f i ∧
      ((s.pre enc C.prog fn conds apart (w.forCall tape i).memory i.args ∧ X (w.forCall tape i).memory i.args) ∧ sizedMet enc C.prog fn (OpenSpec.ofChange s) apart (w.forCall tape i).memory i.args) ∧ a.holds C.prog (lone (Frame.enter C.prog f i.args .normal) [] (w.forCall tape i)))
    (contract : ∀ (W : World) (base : Nat) (args : Array Value) (ds gs : List (DataW H)) (before : List MemPlace),
      (∀ (j : Nat) t v, fn.params[j]? = some t → args[j]? = some v → Value.okWide C.prog W .any base t v) →
      DataW.Whole enc C.prog fn.params.toList s.vars apart W args.toList ds gs before →
      conds.all (PathCond.test C.prog ⟨fn.params.toList, ds, s.plain.varTypes C.prog, gs⟩) = true →
      X W args → W.ShapedOpen C.prog →
      Calls C.prog f args W fun e W' => ∃ v, e = .returned v ∧ s.post enc C.prog fn apart fresh handsOn again W args v W') :
    ReturnsInHanded a C os f .any (fun w args => (s.pre enc C.prog fn conds apart w args ∧ X w args) ∧ sizedMet enc C.prog fn (OpenSpec.ofChange s) apart w args) (s.post enc C.prog fn apart fresh handsOn again) := by
  refine returnsInHanded_of_calls own started noInit witness ?_
  intro w tape i _ hsh _ hok hpre _
  obtain ⟨_, _, _, fn', hfn', _, _, _, _, hval⟩ := hok
  have e : fn' = fn := Option.some.inj (hfn'.symm.trans hfn)
  subst e
  obtain ⟨⟨⟨ds, gs, before, hw, hc⟩, hx⟩, _⟩ := hpre
  have hw' := DataW.Whole.of_heap (w' := w.forCall tape i) (by rfl) hw
  refine (contract (w.forCall tape i) w.heap.size i.args ds gs before hval hw' hc (hX _ _ _ (by rfl) hx) hsh).mono fun e W' ⟨v, he, hp⟩ => ?_
  subst he
  exact ChangeSpec.post_blind hp
/-- The bound of package bytealg is some number. -/
theorem max_some {W : World} (h : W.ShapedOpen Tryz.prog) : ∃ m, W.cell? ⟨1, 0, none⟩ = some (.int .i64 m) :=
  cell_of_shapedOpen_int (t := 3) (zero := #[.int .i64 0]) h (of_decide_eq_true (by kernel_rfl)) (by kernel_rfl) rfl (by kernel_rfl) (by kernel_rfl) Tryz.underlying3
theorem max_sealed {W : World} {k : Nat} (hk : 1 < k) {m : Int} (h : W.cell? ⟨1, 0, none⟩ = some (.int .i64 m)) : SealedAt (sealBelow W k) 1 0 [.int .i64 m] := by
  unfold World.cell? at h
  split at h
  · rename_i C e fz hW
    refine sealed_below hk hW ?_
    have h : C[0]? = some (.int .i64 m) := h
    have h0 := (Array.getElem?_eq_some_iff.1 h)
    obtain ⟨hlt, h1⟩ := h0
    have e1 : C.toList.take 1 = [.int .i64 m] := by
      have hl : 0 < C.toList.length := by simpa using hlt
      have := List.take_succ_eq_append_getElem (l := C.toList) (i := 0) hl
      simp at this
      rw [show (1 : Nat) = 0 + 1 from rfl, List.take_succ_eq_append_getElem hl]
      simp [h1]
    show RelL _ _ (C.toList.take 1)
    rw [e1]
    exact ⟨_, _, rfl, rfl, rfl⟩
  · cases h
theorem block_lt {W : World} {g : Nat} {o : Obj} (h : W.heap[g]? = some o) : g < W.heap.size := (Array.getElem?_eq_some_iff.1 h).1
theorem laid_lt {W : World} {laid : List (String × DataW Unit)} (hL : laidMetH Tryz.prog laid W) {n : String} {d : DataW Unit} (hm : (n, d) ∈ laid) (hn : d.handleName?.isNone = true) {g : Nat} {t : TypeId} (hg : Tryz.prog.globalNamed n = some g) (ht : (Tryz.prog.globals[g]?).map (·.type) = some t) : g < W.heap.size := by
  obtain ⟨_, _, _, _, _, hW, _⟩ := laid_at hL hm hn hg ht
  exact block_lt hW
end Go.Proofs.YtjedjiffaopmkaaGreatDoor
namespace Go.Proofs.YtjedjiffaopmkaaGreatDoor
open Go
section
variable {P : Program} {H : Type} {enc : TypeId × Value → H} {w : World} {base : Nat} {spare : Nat → Bool} {held : Bool}
theorem trod_pairs {t e n fuel u : Nat} {k : IntKind} {f0 f1 : Field} {cs : List Value} {ps : List MemPlace} {zs : List (Nat × Nat)} (ht : P.underlying t = some (.array n e)) (he : P.underlying e = some (.struct #[f0, f1])) (hc : P.cellsOf e = 2) (hct : P.cellsOf t = n * 2)
    (hf0 : f0.type = u) (hf1 : f1.type = u) (ho0 : f0.offset = 0) (ho1 : f1.offset = 1) (hu : P.underlying u = some (.int k)) (hcu : P.cellsOf u = 1)
    (h : DataW.trod enc P w base spare held fuel t cs = some (.agg (zs.map fun x : Nat × Nat => .agg [.lit (.int k (x.1 : Int)), .lit (.int k (x.2 : Int))]), ps)) (hz : zs.length = n) : cs = zs.flatMap fun x : Nat × Nat => [Value.int k (x.1 : Int), Value.int k (x.2 : Int)] := by
  obtain ⟨xs, m, _, ex, hl, hxl, hel⟩ := DataW.trod_array ht h
  have e3 : (xs.map (·.1)) = zs.map fun x : Nat × Nat => .agg [.lit (.int k x.1), .lit (.int k x.2)] := (DataW.agg.inj (Prod.mk.inj ex).1).symm
  refine chunks 2 _ (fun _ => rfl) zs cs (by omega) (fun i z hi => ?_)
  have hin : i < zs.length := (List.getElem?_eq_some_iff.1 hi).1
  have hE := hel i (by omega)
  rw [hc, List.getElem?_eq_getElem (by omega)] at hE
  generalize hcc : (cs.drop (i * 2)).take 2 = c at hE
  obtain ⟨y0, y1, m', e2, hl2, h0, h1⟩ := Go.ChangeShapes.trod_struct2 he hE
  rw [hf0, ho0, hcu] at h0
  rw [hf1, ho1, hcu] at h1
  obtain ⟨a0, c0, d0, _⟩ := DataW.trod_int hu h0
  obtain ⟨a1, c1, d1, _⟩ := DataW.trod_int hu h1
  have e4 : (xs.map (·.1))[i]? = (zs.map fun x : Nat × Nat => (DataW.agg [.lit (.int k x.1), .lit (.int k x.2)] : DataW H))[i]? := by rw [e3]
  rw [List.getElem?_map, List.getElem?_map, List.getElem?_eq_getElem (by omega : i < xs.length), hi, e2, d0, d1] at e4
  simp only [Option.map_some, Option.some.injEq, DataW.agg.injEq, List.cons.injEq, DataW.lit.injEq, Lit.int.injEq, true_and, and_true] at e4
  rw [hc] at hl2
  match c, hl2 with
  | [x0, x1], _ =>
    simp only [List.drop_zero, List.take_succ_cons, List.take_zero, List.cons.injEq, and_true, List.drop_succ_cons] at c0 c1
    rw [c0, c1, e4.1, e4.2]
end
theorem first_laid {W : World} {k : Nat} (hk : 5 < k) {laid : List (String × DataW Unit)} (hL : laidMetH Tryz.prog laid W) (hm : ("unicode/utf8.first", Rows.laid_unicode_utf8_first) ∈ laid) : SealedAt (sealBelow W k) 5 0 firstTab := by
  obtain ⟨C, e, fz, fuel, p, hW, hd⟩ := laid_at hL hm (by kernel_rfl) (g := 5) (t := 137) (by kernel_rfl) (by kernel_rfl)
  refine sealed_below hk hW ?_
  have hc := trod_ints (n := 256) (zs := Go.Pinned.utf8FirstZ) Tryz.underlying137 Tryz.underlying5 (by kernel_rfl) (by kernel_rfl) hd (by kernel_rfl)
  have e1 : firstTab = (Go.Pinned.utf8FirstZ.map fun x : Nat => (IntKind.u8, (x : Int))).map fun x => .int x.1 x.2 := by simp [firstTab]
  have e2 : C.toList.take firstTab.length = (Go.Pinned.utf8FirstZ.map fun x : Nat => (IntKind.u8, (x : Int))).map fun x => .int x.1 x.2 := by
    have : C.toList = Go.Pinned.utf8FirstZ.map fun x : Nat => Value.int .u8 (x : Int) := by
      rw [hc]; generalize Go.Pinned.utf8FirstZ = l; induction l <;> simp_all
    rw [this, List.take_of_length_le (by simp [firstTab])]
    simp
  rw [e2, e1]
  exact relL_ints _
def acceptZ : List (Nat × Nat) := [(128, 191), (160, 191), (128, 159), (144, 191), (128, 143), (0, 0), (0, 0), (0, 0), (0, 0), (0, 0), (0, 0), (0, 0), (0, 0), (0, 0), (0, 0), (0, 0)]
theorem accept_laid {W : World} {k : Nat} (hk : 6 < k) {laid : List (String × DataW Unit)} (hL : laidMetH Tryz.prog laid W) (hm : ("unicode/utf8.acceptRanges", Rows.laid_unicode_utf8_acceptRanges) ∈ laid) : SealedAt (sealBelow W k) 6 0 acceptTab := by
  obtain ⟨C, e, fz, fuel, p, hW, hd⟩ := laid_at hL hm (by kernel_rfl) (g := 6) (t := 140) (by kernel_rfl) (by kernel_rfl)
  refine sealed_below hk hW ?_
  rw [trod_pairs (n := 16) (zs := acceptZ) Tryz.underlying140 Tryz.underlying139 (by kernel_rfl) (by kernel_rfl) rfl rfl rfl rfl Tryz.underlying5 (by kernel_rfl) hd (by kernel_rfl)]
  exact relL_ints ((acceptZ.flatMap fun x : Nat × Nat => [x.1, x.2]).map fun x : Nat => (IntKind.u8, (x : Int)))
end Go.Proofs.YtjedjiffaopmkaaGreatDoor
namespace Go.Proofs.YtjedjiffaopmkaaGreatDoor
open Go Go.ChangeShapes Go.WideShapes
theorem cell_block {W : World} {a : Addr} {v : Value} (h : W.cell? a = some v) : ∃ b o C e fz, a = ⟨b, o, none⟩ ∧ W.heap[b]? = some (.cells C e fz) := by
  obtain ⟨b, o, sp⟩ := a
  unfold World.cell? at h
  dsimp only at h
  cases hW : W.heap[b]? with
  | none => rw [hW] at h; cases h
  | some ob =>
    cases ob with
    | cells C e fz =>
      rw [hW] at h
      cases sp with
      | some s => simp at h
      | none => exact ⟨b, o, C, e, fz, rfl, hW⟩
    | _ => rw [hW] at h; cases h
theorem add_none (b o i : Nat) : (⟨b, o, none⟩ : Addr).add i = ⟨b, o + i, none⟩ := by
  unfold Addr.add
  split
  · rename_i h; rw [h]; rfl
  · rfl
theorem cell_at {W : World} {b o : Nat} {C : Array Value} {e : TypeId} {fz : Nat × Nat} (hW : W.heap[b]? = some (.cells C e fz)) : W.cell? ⟨b, o, none⟩ = C.toList[o]? := by
  unfold World.cell?
  simp [hW]
/-- Cells read one after the other are a part of their block. -/
theorem cells_take {W : World} {base b o n : Nat} {C : Array Value} {e : TypeId} {fz : Nat × Nat} (hW : W.heap[b]? = some (.cells C e fz)) {cs : List Value} (h : W.cells? base ⟨b, o, none⟩ n = some cs) : (C.toList.drop o).take n = cs := by
  obtain ⟨_, hl, hi⟩ := World.cells?_some h
  have hx : ∀ i, i < n → C.toList[o + i]? = cs[i]? := fun i k => by
    have := hi i k
    rwa [add_none, cell_at hW] at this
  apply List.ext_getElem?
  intro i
  by_cases k : i < n
  · rw [List.getElem?_take_of_lt k, List.getElem?_drop, hx i k]
  · rw [List.getElem?_eq_none (by rw [List.length_take]; omega), List.getElem?_eq_none (by omega)]
theorem rel_struct3 {R : Seal} {x y z : List UInt8} {cs : List Value} {s0 s1 s2 : ByteArray} (h : cs = [.string s0, .string s1, .string s2]) (h0 : s0.data.toList = x) (h1 : s1.data.toList = y) (h2 : s2.data.toList = z) : RelC R (.agg [.str x, .str y, .str z]) cs := by
  subst h h0 h1 h2
  exact ⟨_, _, rfl, by rw [RelC, str_mk], _, _, rfl, by rw [RelC, str_mk], _, _, rfl, by rw [RelC, str_mk], rfl⟩
theorem three_of {α : Type} {l : List α} (h : l.length = 3) : ∃ a b c, l = [a, b, c] := by
  match l, h with
  | [a, b, c], _ => exact ⟨a, b, c, rfl⟩
def shapeD {H : Type} (i : Nat) : DataW H := .agg [.lit (.string (toldF i)), .lit (.string (dateF i)), .lit (.string (clkF i))]
theorem shapes_laid {W : World} {laid : List (String × DataW Unit)} (hL : laidMetH Tryz.prog laid W) (hm : ("visitingcard/visitingcardref.shapes", Rows.laid_visitingcard_visitingcardref_shapes) ∈ laid) : SealedAt (sealBelow W W.heap.size) 0 0 [.list 3 7 shapesF] := by
  obtain ⟨C0, e0, fz0, fuel, p, hW0, hd⟩ := laid_at hL hm (by kernel_rfl) (g := 0) (t := 34) (by kernel_rfl) (by kernel_rfl)
  rcases Go.Deep.open_slice Tryz.underlying34 hd with ⟨_, hx⟩ | ⟨a, len, cap, m, n, D, Pl, hv, _, hl, _, hm2, hx, hi⟩
  · cases hx
  have e1 : (List.range 7).map (fun i => (shapeD i : DataW Unit)) = (List.range len).map D := by
    have := (DataW.slice.inj (Prod.mk.inj hx).1).1
    rw [← this]
    rfl
  have hlen : len = 7 := by
    have := congrArg List.length e1
    simpa using this.symm
  subst hlen
  have hD : ∀ i, i < 7 → D i = shapeD i := fun i k => by
    have h1 : ((List.range 7).map D)[i]? = some (D i) := by simp [k]
    have h2 : ((List.range 7).map (fun i => (shapeD i : DataW Unit)))[i]? = some (shapeD i) := by simp [k]
    rw [e1, h1] at h2
    exact Option.some.inj h2
  have hm7 : 7 ≤ m := by rw [hm2]; split <;> omega
  have hc3 : Tryz.prog.cellsOf 35 = 3 := by kernel_rfl
  have hc1 : Tryz.prog.cellsOf 9 = 1 := by kernel_rfl
  rw [hc3] at hi
  obtain ⟨c0, hc0, _⟩ := hi 0 (by omega)
  have hcell : ∃ v, W.cell? a = some v := by
    obtain ⟨_, h1, h2⟩ := World.cells?_some hc0
    have h3 := h2 0 (by decide)
    rw [Nat.zero_mul, show (a.add 0).add 0 = a from rfl, List.getElem?_eq_getElem (by omega)] at h3
    exact ⟨_, h3⟩
  obtain ⟨v, hv0⟩ := hcell
  obtain ⟨b, o, C, e, fz, rfl, hWb⟩ := cell_block hv0
  refine sealed_below (block_lt hW0) hW0 ?_
  rw [hv]
  refine ⟨_, _, rfl, ⟨some ⟨b, o, none⟩, cap, rfl, hl, .inr ⟨b, o, C, e, fz, rfl, ?_, fun i k => ?_⟩⟩, rfl⟩
  · unfold sealBelow
    rw [if_pos (block_lt hWb)]
    exact hWb
  · obtain ⟨cs, h1, h2⟩ := hi i (by omega)
    rw [add_none] at h1
    have h3 := cells_take hWb h1
    rw [h3]
    rw [hD i k] at h2
    obtain ⟨y0, y1, y2, n2, hy, hcl, g0, g1, g2⟩ := Go.Deep.trod_struct3 Tryz.underlying35 h2
    rw [hc3] at hcl
    obtain ⟨s0, q0, r0, _⟩ := DataW.trod_string Tryz.underlying9 g0
    obtain ⟨s1, q1, r1, _⟩ := DataW.trod_string Tryz.underlying9 g1
    obtain ⟨s2, q2, r2, _⟩ := DataW.trod_string Tryz.underlying9 g2
    have hy1 := (Prod.mk.inj hy).1
    rw [r0, r1, r2] at hy1
    unfold shapeD at hy1
    simp only [DataW.agg.injEq, List.cons.injEq, DataW.lit.injEq, Lit.string.injEq, and_true] at hy1
    refine rel_struct3 (s0 := s0) (s1 := s1) (s2 := s2) ?_ hy1.1.symm hy1.2.1.symm hy1.2.2.symm
    obtain ⟨u0, u1, u2, rfl⟩ := three_of hcl
    have q0 : ([u0, u1, u2].drop 0).take (Tryz.prog.cellsOf 9) = [.string s0] := q0
    have q1 : ([u0, u1, u2].drop 1).take (Tryz.prog.cellsOf 9) = [.string s1] := q1
    have q2 : ([u0, u1, u2].drop 2).take (Tryz.prog.cellsOf 9) = [.string s2] := q2
    rw [hc1] at q0 q1 q2
    simp at q0 q1 q2
    rw [q0, q1, q2]
theorem cell_lt {W : World} {g : Nat} {v : Value} (h : W.cell? ⟨g, 0, none⟩ = some v) : g < W.heap.size := by
  obtain ⟨b, o, C, e, fz, ha, hW⟩ := cell_block h
  cases ha
  exact block_lt hW
end Go.Proofs.YtjedjiffaopmkaaGreatDoor
