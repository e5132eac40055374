/- Parts of the proof of whenParses_card: Wpe, Wpf, Und, Whe, Wpg, Wph, Idt, Wpi, Crl. -/
import Derived.Lib.Replace
import Derived.Lib.IndexBytes
import Derived.Test.YtjedjiffaopmkaaGreatDoorBaf
import Derived.Test.YtjedjiffaopmkaaGreatDoorBae
set_option linter.unusedVariables false
set_option linter.unusedSimpArgs false
namespace Go.Proofs.YtjedjiffaopmkaaGreatDoor
open Go Go.RowKit
/-- Where a form's numbers begin. -/
def dL (k i : Nat) : Int := ([[-1, -1, -1], [0, -1, -1], [0, 5, -1], [0, 4, 6], [-1, 2, -1], [-1, 2, 4], [-1, -1, 3]].getD k [0, 0, 0]).getD i 0
def dV (k : Nat) (s : List UInt8) (i : Nat) : Int := if i = 0 then dY k s else if i = 1 then dM k s else dD k s
def dW (i : Nat) : Int := if i = 0 then 4 else 2
def cL (k i : Nat) : Int := ([[0, 0, 0], [0, -1, -1], [0, 2, -1], [0, 2, 4], [-1, 1, -1], [-1, 1, 3], [-1, -1, 2]].getD k [0, 0, 0]).getD i 0
def cV (k : Nat) (s : List UInt8) (i : Nat) : Int := if i = 0 then cH k s else if i = 1 then cI k s else cS k s
/-- The form of a time, 7: none. -/
def cIx (d : List UInt8) : Nat := if shpS d = clkF 1 then 1 else if shpS d = clkF 2 then 2 else if shpS d = clkF 3 then 3 else if shpS d = clkF 4 then 4 else if shpS d = clkF 5 then 5 else if shpS d = clkF 6 then 6 else 7
theorem cIx_of {d : List UInt8} {k : Nat} (h1 : 1 ≤ k) (hk : k ≤ 6) (h : shpS d = clkF k) : cIx d = k := by
  unfold cIx
  (repeat' split)
  all_goals first
    | (rename_i e; exact (clk_inj h1 hk (by decide) (by decide) (h.symm.trans e)).symm)
    | (exfalso
       rcases (show k = 1 ∨ k = 2 ∨ k = 3 ∨ k = 4 ∨ k = 5 ∨ k = 6 by omega) with rfl | rfl | rfl | rfl | rfl | rfl <;> contradiction)
theorem cIx_no {d : List UInt8} (h : ∀ k, 1 ≤ k → k ≤ 6 → shpS d ≠ clkF k) : cIx d = 7 := by
  unfold cIx
  rw [if_neg (h 1 (by decide) (by decide)), if_neg (h 2 (by decide) (by decide)), if_neg (h 3 (by decide) (by decide)), if_neg (h 4 (by decide) (by decide)), if_neg (h 5 (by decide) (by decide)), if_neg (h 6 (by decide) (by decide))]
theorem cIx_cases (d : List UInt8) : (cIx d = 7 ∧ ∀ k, 1 ≤ k → k ≤ 6 → shpS d ≠ clkF k) ∨ ∃ k, 1 ≤ k ∧ k ≤ 6 ∧ cIx d = k ∧ shpS d = clkF k := by
  by_cases h : ∃ k, 1 ≤ k ∧ k ≤ 6 ∧ shpS d = clkF k
  · obtain ⟨k, h1, h2, h3⟩ := h
    exact .inr ⟨k, h1, h2, cIx_of h1 h2 h3, h3⟩
  · have h : ∀ k, 1 ≤ k → k ≤ 6 → shpS d ≠ clkF k := fun k h1 h2 h3 => h ⟨k, h1, h2, h3⟩
    exact .inl ⟨cIx_no h, h⟩
theorem dIx_cases (d : List UInt8) : (dIx d = 7 ∧ ∀ k, k ≤ 6 → shpS d ≠ dateF k) ∨ ∃ k, k ≤ 6 ∧ dIx d = k ∧ shpS d = dateF k := by
  by_cases h : ∃ k, k ≤ 6 ∧ shpS d = dateF k
  · obtain ⟨k, h2, h3⟩ := h
    exact .inr ⟨k, h2, dIx_of h2 h3, h3⟩
  · have h : ∀ k, k ≤ 6 → shpS d ≠ dateF k := fun k h2 h3 => h ⟨k, h2, h3⟩
    exact .inl ⟨dIx_no h, h⟩
theorem two2_cut {s : List UInt8} {a b : Nat} (h : b = a + 2) : two2 ((s.take b).drop a) 0 = two2 s a := by
  subst h
  unfold two2 digN
  rw [cut_at (by omega), cut_at (by omega)]
  simp only [Nat.add_zero, Nat.zero_add]
theorem four4_cut {s : List UInt8} {a b : Nat} (h : b = a + 4) : four4 ((s.take b).drop a) 0 = four4 s a := by
  subst h
  unfold four4 digN
  rw [cut_at (by omega), cut_at (by omega), cut_at (by omega), cut_at (by omega)]
  simp only [Nat.add_zero, Nat.zero_add]
theorem num_two {G : Glo} {s u : List UInt8} (h : shpS s = u) (a b : Nat) (hb : b = a + 2) (hl : b ≤ u.length) (h0 : byteAt u a = 57) (h1 : byteAt u (a + 1) = 57) : FnIs Tryz.prog G 31 [.str ((s.take b).drop a)] (.tuple [.int .i64 (two2 s a), .bool true]) := by
  have hsl := (shp_pt h).1
  have := when_number_two (G := G) ((s.take b).drop a) (by rw [List.length_drop, List.length_take]; omega) (by rw [cut_at (by omega)]; exact dig_at h (by omega) h0) (by rw [cut_at (by omega)]; exact dig_at h (by omega) h1)
  rwa [two2_cut hb] at this
theorem num_four {G : Glo} {s u : List UInt8} (h : shpS s = u) (a b : Nat) (hb : b = a + 4) (hl : b ≤ u.length) (h0 : byteAt u a = 57) (h1 : byteAt u (a + 1) = 57) (h2 : byteAt u (a + 2) = 57) (h3 : byteAt u (a + 3) = 57) : FnIs Tryz.prog G 31 [.str ((s.take b).drop a)] (.tuple [.int .i64 (four4 s a), .bool true]) := by
  have hsl := (shp_pt h).1
  have := when_number_four (G := G) ((s.take b).drop a) (by rw [List.length_drop, List.length_take]; omega) (by rw [cut_at (by omega)]; exact dig_at h (by omega) h0) (by rw [cut_at (by omega)]; exact dig_at h (by omega) h1) (by rw [cut_at (by omega)]; exact dig_at h (by omega) h2) (by rw [cut_at (by omega)]; exact dig_at h (by omega) h3)
  rwa [four4_cut hb] at this
/-- What a form tells of a number. -/
def NumOf (G : Glo) (s : List UInt8) (l w v : Int) : Prop := (l < 0 ∧ v = -1) ∨ (0 ≤ l ∧ 0 ≤ l + w ∧ l ≤ l + w ∧ l + w ≤ s.length ∧ FnIs Tryz.prog G 31 [.str ((s.take (l + w).toNat).drop l.toNat)] (.tuple [.int .i64 v, .bool true]))
theorem date_num {G : Glo} {s : List UInt8} {k : Nat} (hk : k ≤ 6) (h : shpS s = dateF k) : ∀ i, i < 3 → NumOf G s (dL k i) (dW i) (dV k s i) := by
  have hl := (shp_pt h).1
  intro i hi
  rcases (show k = 0 ∨ k = 1 ∨ k = 2 ∨ k = 3 ∨ k = 4 ∨ k = 5 ∨ k = 6 by omega) with rfl | rfl | rfl | rfl | rfl | rfl | rfl <;> rcases (show i = 0 ∨ i = 1 ∨ i = 2 by omega) with rfl | rfl | rfl
  all_goals first
    | exact .inl ⟨by decide, rfl⟩
    | exact .inr ⟨by decide, by decide, by decide, by rw [hl]; decide, num_four h _ _ (by decide) (by decide) (by decide) (by decide) (by decide) (by decide)⟩
    | exact .inr ⟨by decide, by decide, by decide, by rw [hl]; decide, num_two h _ _ (by decide) (by decide) (by decide) (by decide)⟩
theorem clock_num {G : Glo} {s : List UInt8} {k : Nat} (h1 : 1 ≤ k) (hk : k ≤ 6) (h : shpS s = clkF k) : ∀ i, i < 3 → NumOf G s (cL k i) 2 (cV k s i) := by
  have hl := (shp_pt h).1
  intro i hi
  rcases (show k = 1 ∨ k = 2 ∨ k = 3 ∨ k = 4 ∨ k = 5 ∨ k = 6 by omega) with rfl | rfl | rfl | rfl | rfl | rfl <;> rcases (show i = 0 ∨ i = 1 ∨ i = 2 by omega) with rfl | rfl | rfl
  all_goals first
    | exact .inl ⟨by decide, rfl⟩
    | exact .inr ⟨by decide, by decide, by decide, by rw [hl]; decide, num_two h _ _ (by decide) (by decide) (by decide) (by decide)⟩
theorem map_lit {s u : List UInt8} (hu : ∀ c ∈ u, c.toNat < 128) (h : Lib.mapD nineI s = u) : shpS s = u := (map_shape hu).1 h
theorem date_lo : ∀ k, k ≤ 6 → ∀ c ∈ dateF k, c.toNat < 128 := by
  intro k hk
  rcases (show k = 0 ∨ k = 1 ∨ k = 2 ∨ k = 3 ∨ k = 4 ∨ k = 5 ∨ k = 6 by omega) with rfl | rfl | rfl | rfl | rfl | rfl | rfl <;> decide
theorem clk_lo : ∀ k, k ≤ 6 → ∀ c ∈ clkF k, c.toNat < 128 := by
  intro k hk
  rcases (show k = 0 ∨ k = 1 ∨ k = 2 ∨ k = 3 ∨ k = 4 ∨ k = 5 ∨ k = 6 by omega) with rfl | rfl | rfl | rfl | rfl | rfl | rfl <;> decide
theorem dIx_map {s : List UInt8} (k : Nat) (hk : k ≤ 6) (h : Lib.mapD nineI s = dateF k) : k = dIx s := (dIx_of hk (map_lit (date_lo k hk) h)).symm
theorem cIx_map {s : List UInt8} (k : Nat) (h1 : 1 ≤ k) (hk : k ≤ 6) (h : Lib.mapD nineI s = clkF k) : k = cIx s := (cIx_of h1 hk (map_lit (clk_lo k hk) h)).symm
theorem dIx_map0 {s : List UInt8} (h : (Lib.mapD nineI s).length = 0) : 0 = dIx s := dIx_map 0 (by decide) (List.eq_nil_of_length_eq_zero h)
theorem dIx_miss {s : List UInt8} (g0 : (Lib.mapD nineI s).length ≠ 0) (h1 : Lib.mapD nineI s ≠ dateF 1) (h2 : Lib.mapD nineI s ≠ dateF 2) (h3 : Lib.mapD nineI s ≠ dateF 3) (h4 : Lib.mapD nineI s ≠ dateF 4) (h5 : Lib.mapD nineI s ≠ dateF 5) (h6 : Lib.mapD nineI s ≠ dateF 6) : 7 = dIx s := by
  have h0 : Lib.mapD nineI s ≠ dateF 0 := fun h => g0 (by rw [h]; rfl)
  refine (dIx_no fun k hk h => ?_).symm
  have h := (map_shape (date_lo k hk)).2 h
  rcases (show k = 0 ∨ k = 1 ∨ k = 2 ∨ k = 3 ∨ k = 4 ∨ k = 5 ∨ k = 6 by omega) with rfl | rfl | rfl | rfl | rfl | rfl | rfl <;> contradiction
theorem cIx_miss {s : List UInt8} (h1 : Lib.mapD nineI s ≠ clkF 1) (h2 : Lib.mapD nineI s ≠ clkF 2) (h3 : Lib.mapD nineI s ≠ clkF 3) (h4 : Lib.mapD nineI s ≠ clkF 4) (h5 : Lib.mapD nineI s ≠ clkF 5) (h6 : Lib.mapD nineI s ≠ clkF 6) : 7 = cIx s := by
  refine (cIx_no fun k g1 hk h => ?_).symm
  have h := (map_shape (clk_lo k hk)).2 h
  rcases (show k = 1 ∨ k = 2 ∨ k = 3 ∨ k = 4 ∨ k = 5 ∨ k = 6 by omega) with rfl | rfl | rfl | rfl | rfl | rfl <;> contradiction
abbrev pS (b : Nat) : Value := .pointer (some ⟨b, 0, none⟩)
abbrev pF (b o : Nat) : AVal := .own 0 (.pointer (some ⟨b, o, none⟩))
abbrev stC (b : Nat) (y m d h i s : Int) (z : Bool) (o : Int) : HEnt := .cells b (some 23) [.int .i64 y, .int .i64 m, .int .i64 d, .int .i64 h, .int .i64 i, .int .i64 s, .bool z, .int .i64 o]
/-- How far the numbers are read. -/
def got (v : Int) (i r : Nat) : Int := if i < r then v else -1
set_option maxRecDepth 20000
set_option maxHeartbeats 4000000
set_option linter.unusedSimpArgs false
set_option linter.unusedVariables false
attribute [local irreducible] AWp AOps byteAt SrcOK OrOk GloAll FnSpec
attribute [local irreducible] shpS nineI dIx cIx
theorem got_0 (v : Int) (i : Nat) : got v i 0 = -1 := by unfold got; rw [if_neg (by omega)]
theorem when_date {G : Glo} (hU : GloAll G utfTy) (b : Nat) (s : List UInt8) (hl : s.length ≤ 1000000) (h i c : Int) (z : Bool) (o : Int) : FnSpec Tryz.prog G 13 [.str s, .raw (pS b)] [stC b (-1) (-1) (-1) h i c z o]
    (fun r H => r = .ret (.bool (decide (dIx s ≠ 7))) ∧ H = [stC b (dY (dIx s) s) (dM (dIx s) s) (dD (dIx s) s) h i c z o]) := by
  have k0 := when_shape (G := G) hU s hl
  have hGL : GloAll G [] := gloAll_nil
  refine fn_own [(1, 0, pS b)] Tryz.func13 Tryz.call13 rfl rfl rfl rfl (by repeat (first | exact trivial | refine And.intro ⟨rfl, rfl⟩ ?_)) ?_
  intro C hC
  refine cut hC hGL [(0, .str s), (1, .own 0 (pS b))] [stC b (-1) (-1) (-1) h i c z o] True xw0 fun _ => ?_
  refine cuty hC hGL (X := Nat) (fun bm => [(0, .str s), (1, .own 0 (pS b)), (5, .own 1 (.map (some bm)))]) (fun bm => [stC b (-1) (-1) (-1) h i c z o, .mp bm [(.str [], .agg [.int .i64 (-1), .int .i64 (-1), .int .i64 (-1)]), (.str [57, 57, 57, 57], .agg [.int .i64 0, .int .i64 (-1), .int .i64 (-1)]), (.str [57, 57, 57, 57, 45, 57, 57], .agg [.int .i64 0, .int .i64 5, .int .i64 (-1)]), (.str [57, 57, 57, 57, 57, 57, 57, 57], .agg [.int .i64 0, .int .i64 4, .int .i64 6]), (.str [45, 45, 57, 57], .agg [.int .i64 (-1), .int .i64 2, .int .i64 (-1)]), (.str [45, 45, 57, 57, 57, 57], .agg [.int .i64 (-1), .int .i64 2, .int .i64 4]), (.str [45, 45, 45, 57, 57], .agg [.int .i64 (-1), .int .i64 (-1), .int .i64 3])]]) (fun _ => True) ?_ fun bm _ => ?_
  · refine xw1 ?_
    intro bm
    intros
    exact cy bm trivial
  refine cuty hC hGL (X := Nat × Nat) (fun x => [(0, .str s), (1, .own 0 (pS b)), (6, .own 2 (pS x.2)), (7, .bool (decide (x.1 ≠ 7)))]) (fun x => [stC b (-1) (-1) (-1) h i c z o, .mp bm [(.str [], .agg [.int .i64 (-1), .int .i64 (-1), .int .i64 (-1)]), (.str [57, 57, 57, 57], .agg [.int .i64 0, .int .i64 (-1), .int .i64 (-1)]), (.str [57, 57, 57, 57, 45, 57, 57], .agg [.int .i64 0, .int .i64 5, .int .i64 (-1)]), (.str [57, 57, 57, 57, 57, 57, 57, 57], .agg [.int .i64 0, .int .i64 4, .int .i64 6]), (.str [45, 45, 57, 57], .agg [.int .i64 (-1), .int .i64 2, .int .i64 (-1)]), (.str [45, 45, 57, 57, 57, 57], .agg [.int .i64 (-1), .int .i64 2, .int .i64 4]), (.str [45, 45, 45, 57, 57], .agg [.int .i64 (-1), .int .i64 (-1), .int .i64 3])], .cells x.2 (some 61) [.int .i64 (dL x.1 0), .int .i64 (dL x.1 1), .int .i64 (dL x.1 2)]]) (fun x => x.1 = dIx s) ?_ fun x hx => ?_
  · refine xw ?_
    repeat' (first | exact Le.n | refine Lc.mk ?_ ?_)
    all_goals intros
    all_goals first
      | exact cy (0, _) (dIx_map0 (by assumption))
      | exact cy (1, _) (dIx_map 1 (by decide) (by assumption))
      | exact cy (2, _) (dIx_map 2 (by decide) (by assumption))
      | exact cy (3, _) (dIx_map 3 (by decide) (by assumption))
      | exact cy (4, _) (dIx_map 4 (by decide) (by assumption))
      | exact cy (5, _) (dIx_map 5 (by decide) (by assumption))
      | exact cy (6, _) (dIx_map 6 (by decide) (by assumption))
      | exact cy (7, _) (dIx_miss (by assumption) (by assumption) (by assumption) (by assumption) (by assumption) (by assumption) (by assumption))
  obtain ⟨k, b6⟩ := x
  obtain rfl : k = dIx s := hx
  dsimp only
  rcases dIx_cases s with ⟨h7, -⟩ | ⟨k, hk, hk2, hk3⟩
  · rw [h7]
    exact aw_code hC hGL xw0
  have n0 := date_num (G := G) hk hk3 0 (by decide)
  have n1 := date_num (G := G) hk hk3 1 (by decide)
  have n2 := date_num (G := G) hk hk3 2 (by decide)
  rw [hk2]
  have e7 : decide (k ≠ 7) = true := decide_eq_true (by omega)
  rw [e7]
  rw [show dY k s = dV k s 0 from rfl]
  rw [show dM k s = dV k s 1 from rfl]
  rw [show dD k s = dV k s 2 from rfl]
  generalize dL k 0 = l0 at *
  generalize dL k 1 = l1 at *
  generalize dL k 2 = l2 at *
  generalize dV k s 0 = v0 at *
  generalize dV k s 1 = v1 at *
  generalize dV k s 2 = v2 at *
  rw [show dW 0 = 4 from rfl] at n0
  rw [show dW 1 = 2 from rfl] at n1
  rw [show dW 2 = 2 from rfl] at n2
  refine aw_code hC hGL (xn1 ?_)
  intros
  refine dw_pp mixed hC hGL false (fun _ _ => False) (fun (_ : Unit) => [(0, .str s), (6, .own 2 (pS b6)), (37, .list 1 3 (partElem [(0, pF b 0), (1, pF b 1), (2, pF b 2)])), (38, .int .i64 3), (39, .int .i64 0)]) (fun _ => [stC b (-1) (-1) (-1) h i c z o, .mp bm [(.str [], .agg [.int .i64 (-1), .int .i64 (-1), .int .i64 (-1)]), (.str [57, 57, 57, 57], .agg [.int .i64 0, .int .i64 (-1), .int .i64 (-1)]), (.str [57, 57, 57, 57, 45, 57, 57], .agg [.int .i64 0, .int .i64 5, .int .i64 (-1)]), (.str [57, 57, 57, 57, 57, 57, 57, 57], .agg [.int .i64 0, .int .i64 4, .int .i64 6]), (.str [45, 45, 57, 57], .agg [.int .i64 (-1), .int .i64 2, .int .i64 (-1)]), (.str [45, 45, 57, 57, 57, 57], .agg [.int .i64 (-1), .int .i64 2, .int .i64 4]), (.str [45, 45, 45, 57, 57], .agg [.int .i64 (-1), .int .i64 (-1), .int .i64 3])], .cells b6 (some 61) [.int .i64 l0, .int .i64 l1, .int .i64 l2]]) (.take 0 (.take 1 (.take 2 (.take 3 (.take 4 (.take 5 (.take 6 (.take 7 (.take 8 (.take 11 (.br 9 (.take 10 (.done)) (.nil)))))))))))) (by kernel_rfl) ?_ ?_ (fun _ _ h => h.elim)
  · refine xn ?_
    repeat' (first | exact Le.n | refine Lc.mk ?_ ?_)
    all_goals intros
    all_goals (exact ⟨(), env_w, sub_w⟩)
  intro _
  refine xn1 ?_
  refine lp_to (to_trans (to_sealc (i := 2) (k := 6) rfl rfl) (to_sub (e' := [(0, .str s), (6, .rop [.int .i64 l0, .int .i64 l1, .int .i64 l2] 0), (37, .list 1 3 (partElem [(0, pF b 0), (1, pF b 1), (2, pF b 2)])), (38, .int .i64 3), (39, .int .i64 0)]) (h' := [stC b (-1) (-1) (-1) h i c z o]) env_w (List.Sublist.cons_cons _ (List.nil_sublist _)))) ?_
  refine lp hC hGL (fun r : Nat => [(0, .str s), (6, .rop [.int .i64 l0, .int .i64 l1, .int .i64 l2] 0), (37, .list 1 3 (partElem [(0, pF b 0), (1, pF b 1), (2, pF b 2)])), (38, .int .i64 3), (39, .int .i64 (r : Nat))]) (fun r => [stC b (got v0 0 r) (got v1 1 r) (got v2 2 r) h i c z o]) (fun r => r ≤ 3) (fun r => 3 - r) 0 (by decide) env_w (by simp only [got_0]) ?_
  intro r hr
  rcases (show r = 0 ∨ r = 1 ∨ r = 2 ∨ r = 3 by omega) with rfl | rfl | rfl | rfl
  · rcases n0 with ⟨g1, g2⟩ | ⟨g1, g2, g3, g4, g5⟩
    · refine xw1 ?_
      intros
      refine nxt 1 (by decide) (by decide) env_w ?_
      simp [got, g2]
    · refine xn1 ?_
      intros
      refine dw_pp mixed hC hGL false (fun _ _ => False) (fun (_ : Unit) => [(0, .str s), (6, .rop [.int .i64 l0, .int .i64 l1, .int .i64 l2] 0), (37, .list 1 3 (partElem [(0, pF b 0), (1, pF b 1), (2, pF b 2)])), (38, .int .i64 3), (39, .int .i64 (0 : Nat)), (8, .int .i64 (0 : Nat))]) (fun _ => [stC b (got v0 0 1) (got v1 1 1) (got v2 2 1) h i c z o]) (.take 0 (.take 1 (.take 2 (.take 3 (.take 4 (.take 5 (.take 6 (.take 7 (.take 12 (.take 13 (.br 8 (.br 9 (.br 10 (.take 11 (.br 14 (.take 15 (.take 16 (.br 17 (.take 18 (.take 19 (.take 20 (.take 21 (.br 22 (.done) (.nil)))))) (.nil)))) (.nil))) (.nil)) (.br 10 (.br 9 (.take 11 (.br 14 (.take 15 (.take 16 (.br 17 (.take 18 (.take 19 (.take 20 (.take 21 (.br 22 (.done) (.nil)))))) (.nil)))) (.nil))) (.nil)) (.nil))) (.nil)))))))))))) (by kernel_rfl) ?_ ?_ (fun _ _ h => h.elim)
      · refine xn ?_
        repeat' (first | exact Le.n | refine Lc.mk ?_ ?_)
        all_goals intros
        all_goals (exact ⟨(), env_w, sub_w⟩)
      · intro _
        refine xw1 ?_
        intros
        exact nxt 1 (by decide) (by decide) env_w rfl
  · rcases n1 with ⟨g1, g2⟩ | ⟨g1, g2, g3, g4, g5⟩
    · refine xw1 ?_
      intros
      refine nxt 2 (by decide) (by decide) env_w ?_
      simp [got, g2]
    · refine xn1 ?_
      intros
      refine dw_pp mixed hC hGL false (fun _ _ => False) (fun (_ : Unit) => [(0, .str s), (6, .rop [.int .i64 l0, .int .i64 l1, .int .i64 l2] 0), (37, .list 1 3 (partElem [(0, pF b 0), (1, pF b 1), (2, pF b 2)])), (38, .int .i64 3), (39, .int .i64 (1 : Nat)), (8, .int .i64 (1 : Nat))]) (fun _ => [stC b (got v0 0 2) (got v1 1 2) (got v2 2 2) h i c z o]) (.take 0 (.take 1 (.take 2 (.take 3 (.take 4 (.take 5 (.take 6 (.take 7 (.take 12 (.take 13 (.br 8 (.br 9 (.br 10 (.take 11 (.br 14 (.take 15 (.take 16 (.br 17 (.take 18 (.take 19 (.take 20 (.take 21 (.br 22 (.done) (.nil)))))) (.nil)))) (.nil))) (.nil)) (.br 10 (.br 9 (.take 11 (.br 14 (.take 15 (.take 16 (.br 17 (.take 18 (.take 19 (.take 20 (.take 21 (.br 22 (.done) (.nil)))))) (.nil)))) (.nil))) (.nil)) (.nil))) (.nil)))))))))))) (by kernel_rfl) ?_ ?_ (fun _ _ h => h.elim)
      · refine xn ?_
        repeat' (first | exact Le.n | refine Lc.mk ?_ ?_)
        all_goals intros
        all_goals (exact ⟨(), env_w, sub_w⟩)
      · intro _
        refine xw1 ?_
        intros
        exact nxt 2 (by decide) (by decide) env_w rfl
  · rcases n2 with ⟨g1, g2⟩ | ⟨g1, g2, g3, g4, g5⟩
    · refine xw1 ?_
      intros
      refine nxt 3 (by decide) (by decide) env_w ?_
      simp [got, g2]
    · refine xn1 ?_
      intros
      refine dw_pp mixed hC hGL false (fun _ _ => False) (fun (_ : Unit) => [(0, .str s), (6, .rop [.int .i64 l0, .int .i64 l1, .int .i64 l2] 0), (37, .list 1 3 (partElem [(0, pF b 0), (1, pF b 1), (2, pF b 2)])), (38, .int .i64 3), (39, .int .i64 (2 : Nat)), (8, .int .i64 (2 : Nat))]) (fun _ => [stC b (got v0 0 3) (got v1 1 3) (got v2 2 3) h i c z o]) (.take 0 (.take 1 (.take 2 (.take 3 (.take 4 (.take 5 (.take 6 (.take 7 (.take 12 (.take 13 (.br 8 (.br 9 (.br 10 (.take 11 (.br 14 (.take 15 (.take 16 (.br 17 (.take 18 (.take 19 (.take 20 (.take 21 (.br 22 (.done) (.nil)))))) (.nil)))) (.nil))) (.nil)) (.br 10 (.br 9 (.take 11 (.br 14 (.take 15 (.take 16 (.br 17 (.take 18 (.take 19 (.take 20 (.take 21 (.br 22 (.done) (.nil)))))) (.nil)))) (.nil))) (.nil)) (.nil))) (.nil)))))))))))) (by kernel_rfl) ?_ ?_ (fun _ _ h => h.elim)
      · refine xn ?_
        repeat' (first | exact Le.n | refine Lc.mk ?_ ?_)
        all_goals intros
        all_goals (exact ⟨(), env_w, sub_w⟩)
      · intro _
        refine xw1 ?_
        intros
        exact nxt 3 (by decide) (by decide) env_w rfl
  · exact xw0
theorem when_clock {G : Glo} (hU : GloAll G utfTy) (b : Nat) (s : List UInt8) (hl : s.length ≤ 1000000) (y m d : Int) (z : Bool) (o : Int) : FnSpec Tryz.prog G 16 [.str s, .raw (pS b)] [stC b y m d (-1) (-1) (-1) z o]
    (fun r H => r = .ret (.bool (decide (cIx s ≠ 7))) ∧ H = [stC b y m d (cH (cIx s) s) (cI (cIx s) s) (cS (cIx s) s) z o]) := by
  have k0 := when_shape (G := G) hU s hl
  have hGL : GloAll G [] := gloAll_nil
  refine fn_own [(1, 0, pS b)] Tryz.func16 Tryz.call16 rfl rfl rfl rfl (by repeat (first | exact trivial | refine And.intro ⟨rfl, rfl⟩ ?_)) ?_
  intro C hC
  refine cut hC hGL [(0, .str s), (1, .own 0 (pS b))] [stC b y m d (-1) (-1) (-1) z o] True xw0 fun _ => ?_
  refine cuty hC hGL (X := Nat) (fun bm => [(0, .str s), (1, .own 0 (pS b)), (5, .own 1 (.map (some bm)))]) (fun bm => [stC b y m d (-1) (-1) (-1) z o, .mp bm [(.str [57, 57], .agg [.int .i64 0, .int .i64 (-1), .int .i64 (-1)]), (.str [57, 57, 57, 57], .agg [.int .i64 0, .int .i64 2, .int .i64 (-1)]), (.str [57, 57, 57, 57, 57, 57], .agg [.int .i64 0, .int .i64 2, .int .i64 4]), (.str [45, 57, 57], .agg [.int .i64 (-1), .int .i64 1, .int .i64 (-1)]), (.str [45, 57, 57, 57, 57], .agg [.int .i64 (-1), .int .i64 1, .int .i64 3]), (.str [45, 45, 57, 57], .agg [.int .i64 (-1), .int .i64 (-1), .int .i64 2])]]) (fun _ => True) ?_ fun bm _ => ?_
  · refine xw1 ?_
    intro bm
    intros
    exact cy bm trivial
  refine cuty hC hGL (X := Nat × Nat) (fun x => [(0, .str s), (1, .own 0 (pS b)), (6, .own 2 (pS x.2)), (7, .bool (decide (x.1 ≠ 7)))]) (fun x => [stC b y m d (-1) (-1) (-1) z o, .mp bm [(.str [57, 57], .agg [.int .i64 0, .int .i64 (-1), .int .i64 (-1)]), (.str [57, 57, 57, 57], .agg [.int .i64 0, .int .i64 2, .int .i64 (-1)]), (.str [57, 57, 57, 57, 57, 57], .agg [.int .i64 0, .int .i64 2, .int .i64 4]), (.str [45, 57, 57], .agg [.int .i64 (-1), .int .i64 1, .int .i64 (-1)]), (.str [45, 57, 57, 57, 57], .agg [.int .i64 (-1), .int .i64 1, .int .i64 3]), (.str [45, 45, 57, 57], .agg [.int .i64 (-1), .int .i64 (-1), .int .i64 2])], .cells x.2 (some 61) [.int .i64 (cL x.1 0), .int .i64 (cL x.1 1), .int .i64 (cL x.1 2)]]) (fun x => x.1 = cIx s) ?_ fun x hx => ?_
  · refine xw ?_
    repeat' (first | exact Le.n | refine Lc.mk ?_ ?_)
    all_goals intros
    all_goals first
      | exact cy (1, _) (cIx_map 1 (by decide) (by decide) (by assumption))
      | exact cy (2, _) (cIx_map 2 (by decide) (by decide) (by assumption))
      | exact cy (3, _) (cIx_map 3 (by decide) (by decide) (by assumption))
      | exact cy (4, _) (cIx_map 4 (by decide) (by decide) (by assumption))
      | exact cy (5, _) (cIx_map 5 (by decide) (by decide) (by assumption))
      | exact cy (6, _) (cIx_map 6 (by decide) (by decide) (by assumption))
      | exact cy (7, _) (cIx_miss (by assumption) (by assumption) (by assumption) (by assumption) (by assumption) (by assumption))
  obtain ⟨k, b6⟩ := x
  obtain rfl : k = cIx s := hx
  dsimp only
  rcases cIx_cases s with ⟨h7, -⟩ | ⟨k, hk1, hk, hk2, hk3⟩
  · rw [h7]
    exact aw_code hC hGL xw0
  have n0 := clock_num (G := G) hk1 hk hk3 0 (by decide)
  have n1 := clock_num (G := G) hk1 hk hk3 1 (by decide)
  have n2 := clock_num (G := G) hk1 hk hk3 2 (by decide)
  rw [hk2]
  have e7 : decide (k ≠ 7) = true := decide_eq_true (by omega)
  rw [e7]
  rw [show cH k s = cV k s 0 from rfl]
  rw [show cI k s = cV k s 1 from rfl]
  rw [show cS k s = cV k s 2 from rfl]
  generalize cL k 0 = l0 at *
  generalize cL k 1 = l1 at *
  generalize cL k 2 = l2 at *
  generalize cV k s 0 = v0 at *
  generalize cV k s 1 = v1 at *
  generalize cV k s 2 = v2 at *
  refine aw_code hC hGL (xn1 ?_)
  intros
  refine dw_pp mixed hC hGL false (fun _ _ => False) (fun (_ : Unit) => [(0, .str s), (6, .own 2 (pS b6)), (36, .list 1 3 (partElem [(0, pF b 3), (1, pF b 4), (2, pF b 5)])), (37, .int .i64 3), (38, .int .i64 0)]) (fun _ => [stC b y m d (-1) (-1) (-1) z o, .mp bm [(.str [57, 57], .agg [.int .i64 0, .int .i64 (-1), .int .i64 (-1)]), (.str [57, 57, 57, 57], .agg [.int .i64 0, .int .i64 2, .int .i64 (-1)]), (.str [57, 57, 57, 57, 57, 57], .agg [.int .i64 0, .int .i64 2, .int .i64 4]), (.str [45, 57, 57], .agg [.int .i64 (-1), .int .i64 1, .int .i64 (-1)]), (.str [45, 57, 57, 57, 57], .agg [.int .i64 (-1), .int .i64 1, .int .i64 3]), (.str [45, 45, 57, 57], .agg [.int .i64 (-1), .int .i64 (-1), .int .i64 2])], .cells b6 (some 61) [.int .i64 l0, .int .i64 l1, .int .i64 l2]]) (.take 0 (.take 1 (.take 2 (.take 3 (.take 4 (.take 5 (.take 6 (.take 7 (.take 8 (.take 11 (.br 9 (.take 10 (.done)) (.nil)))))))))))) (by kernel_rfl) ?_ ?_ (fun _ _ h => h.elim)
  · refine xn ?_
    repeat' (first | exact Le.n | refine Lc.mk ?_ ?_)
    all_goals intros
    all_goals (exact ⟨(), env_w, sub_w⟩)
  intro _
  refine xn1 ?_
  refine lp_to (to_trans (to_sealc (i := 2) (k := 6) rfl rfl) (to_sub (e' := [(0, .str s), (6, .rop [.int .i64 l0, .int .i64 l1, .int .i64 l2] 0), (36, .list 1 3 (partElem [(0, pF b 3), (1, pF b 4), (2, pF b 5)])), (37, .int .i64 3), (38, .int .i64 0)]) (h' := [stC b y m d (-1) (-1) (-1) z o]) env_w (List.Sublist.cons_cons _ (List.nil_sublist _)))) ?_
  refine lp hC hGL (fun r : Nat => [(0, .str s), (6, .rop [.int .i64 l0, .int .i64 l1, .int .i64 l2] 0), (36, .list 1 3 (partElem [(0, pF b 3), (1, pF b 4), (2, pF b 5)])), (37, .int .i64 3), (38, .int .i64 (r : Nat))]) (fun r => [stC b y m d (got v0 0 r) (got v1 1 r) (got v2 2 r) z o]) (fun r => r ≤ 3) (fun r => 3 - r) 0 (by decide) env_w (by simp only [got_0]) ?_
  intro r hr
  rcases (show r = 0 ∨ r = 1 ∨ r = 2 ∨ r = 3 by omega) with rfl | rfl | rfl | rfl
  · rcases n0 with ⟨g1, g2⟩ | ⟨g1, g2, g3, g4, g5⟩
    · refine xw1 ?_
      intros
      refine nxt 1 (by decide) (by decide) env_w ?_
      simp [got, g2]
    · refine xn1 ?_
      intros
      refine dw_pp mixed hC hGL false (fun _ _ => False) (fun (_ : Unit) => [(0, .str s), (6, .rop [.int .i64 l0, .int .i64 l1, .int .i64 l2] 0), (36, .list 1 3 (partElem [(0, pF b 3), (1, pF b 4), (2, pF b 5)])), (37, .int .i64 3), (38, .int .i64 (0 : Nat)), (8, .int .i64 (0 : Nat))]) (fun _ => [stC b y m d (got v0 0 1) (got v1 1 1) (got v2 2 1) z o]) (.take 0 (.take 1 (.take 2 (.take 3 (.take 4 (.take 5 (.take 6 (.take 7 (.take 8 (.take 9 (.br 10 (.take 11 (.take 12 (.take 13 (.take 14 (.br 15 (.done) (.nil)))))) (.nil)))))))))))) (by kernel_rfl) ?_ ?_ (fun _ _ h => h.elim)
      · refine xn ?_
        repeat' (first | exact Le.n | refine Lc.mk ?_ ?_)
        all_goals intros
        all_goals (exact ⟨(), env_w, sub_w⟩)
      · intro _
        refine xw1 ?_
        intros
        exact nxt 1 (by decide) (by decide) env_w rfl
  · rcases n1 with ⟨g1, g2⟩ | ⟨g1, g2, g3, g4, g5⟩
    · refine xw1 ?_
      intros
      refine nxt 2 (by decide) (by decide) env_w ?_
      simp [got, g2]
    · refine xn1 ?_
      intros
      refine dw_pp mixed hC hGL false (fun _ _ => False) (fun (_ : Unit) => [(0, .str s), (6, .rop [.int .i64 l0, .int .i64 l1, .int .i64 l2] 0), (36, .list 1 3 (partElem [(0, pF b 3), (1, pF b 4), (2, pF b 5)])), (37, .int .i64 3), (38, .int .i64 (1 : Nat)), (8, .int .i64 (1 : Nat))]) (fun _ => [stC b y m d (got v0 0 2) (got v1 1 2) (got v2 2 2) z o]) (.take 0 (.take 1 (.take 2 (.take 3 (.take 4 (.take 5 (.take 6 (.take 7 (.take 8 (.take 9 (.br 10 (.take 11 (.take 12 (.take 13 (.take 14 (.br 15 (.done) (.nil)))))) (.nil)))))))))))) (by kernel_rfl) ?_ ?_ (fun _ _ h => h.elim)
      · refine xn ?_
        repeat' (first | exact Le.n | refine Lc.mk ?_ ?_)
        all_goals intros
        all_goals (exact ⟨(), env_w, sub_w⟩)
      · intro _
        refine xw1 ?_
        intros
        exact nxt 2 (by decide) (by decide) env_w rfl
  · rcases n2 with ⟨g1, g2⟩ | ⟨g1, g2, g3, g4, g5⟩
    · refine xw1 ?_
      intros
      refine nxt 3 (by decide) (by decide) env_w ?_
      simp [got, g2]
    · refine xn1 ?_
      intros
      refine dw_pp mixed hC hGL false (fun _ _ => False) (fun (_ : Unit) => [(0, .str s), (6, .rop [.int .i64 l0, .int .i64 l1, .int .i64 l2] 0), (36, .list 1 3 (partElem [(0, pF b 3), (1, pF b 4), (2, pF b 5)])), (37, .int .i64 3), (38, .int .i64 (2 : Nat)), (8, .int .i64 (2 : Nat))]) (fun _ => [stC b y m d (got v0 0 3) (got v1 1 3) (got v2 2 3) z o]) (.take 0 (.take 1 (.take 2 (.take 3 (.take 4 (.take 5 (.take 6 (.take 7 (.take 8 (.take 9 (.br 10 (.take 11 (.take 12 (.take 13 (.take 14 (.br 15 (.done) (.nil)))))) (.nil)))))))))))) (by kernel_rfl) ?_ ?_ (fun _ _ h => h.elim)
      · refine xn ?_
        repeat' (first | exact Le.n | refine Lc.mk ?_ ?_)
        all_goals intros
        all_goals (exact ⟨(), env_w, sub_w⟩)
      · intro _
        refine xw1 ?_
        intros
        exact nxt 3 (by decide) (by decide) env_w rfl
  · exact xw0
end Go.Proofs.YtjedjiffaopmkaaGreatDoor
namespace Go.Proofs.YtjedjiffaopmkaaGreatDoor
open Go Go.RowKit
theorem E_cases (t : Stm) : (t.E = .none ∧ t.e = 0) ∨ ∃ x, x ≠ 0 ∧ t.E = .errno x ∧ t.e = x := by
  unfold Stm.E Stm.e
  (repeat' split)
  · exact .inl ⟨rfl, rfl⟩
  · exact .inr ⟨2, by decide, rfl, rfl⟩
  · exact .inr ⟨3, by decide, rfl, rfl⟩
theorem fin_0 {t : Stm} (h : t.e = 0) : finP t = (t, .none) := by unfold finP; rw [if_pos h]
theorem fin_x {t : Stm} {x : Int} (h : t.e = x) (hx : x ≠ 0) : finP t = (Stm.no, .errno x) := by unfold finP; rw [if_neg (by rw [h]; exact hx), h]
theorem cutB_no {s : List UInt8} {c : Int} (h : (cutB s c).2.2 = false) : (cutB s c).2.1 = [] := by
  unfold cutB at *
  split
  · rfl
  · rename_i h1
    rw [if_neg h1] at h
    cases h
theorem cutB_len (s : List UInt8) (c : Int) : (cutB s c).1.length ≤ s.length ∧ (cutB s c).2.1.length ≤ s.length := by
  unfold cutB
  split
  · simp
  · simp only [List.length_take, List.length_drop]; omega
theorem whR_7 {d t : List UInt8} {b : Bool} (h : dIx d = 7) : whR d b t = (Stm.no, .errno 3) := by unfold whR; rw [if_pos h]
theorem whR_u {d t : List UInt8} (h : dIx d ≠ 7) : whR d false t = finP (whS (dIx d) d 0 [] []) := by unfold whR; rw [if_neg h, if_pos rfl]
theorem whR_0 {d t : List UInt8} (h : dIx d ≠ 7) (h0 : splJ t = 0) : whR d true t = (Stm.no, .errno 3) := by unfold whR; rw [if_neg h, if_neg (by decide), if_pos h0]
theorem splJ_nil : splJ [] = 0 := by
  refine Decidable.byContradiction fun h => ?_
  have g := splJ_sp h
  have h1 := g.hn
  have h2 := (clk_len g.j1 g.j6).1
  rw [← g.len] at h2
  simp at h1
  omega
theorem whR_bad {d t : List UInt8} {k : Nat} (h : dIx d ≠ 7) (hk : KAt t k) (hc : cIx (t.take k) = 7) : whR d true t = (Stm.no, .errno 3) := by
  have hn : ∀ j, 1 ≤ j → j ≤ 6 → shpS (t.take k) ≠ clkF j := fun j h1 h6 e => by
    rw [cIx_of h1 h6 e] at hc
    omega
  rcases spl_none hk hn with h0 | ⟨h0, h1, h2⟩
  · exact whR_0 h h0
  · unfold whR
    rw [if_neg h, if_neg (by decide), if_neg h0, if_pos ⟨fun e => by have := congrArg List.length e; rw [List.length_drop, List.length_nil] at this; omega, by rw [h2]; decide⟩, h2]
theorem whR_z {d t : List UInt8} {k j : Nat} (h : dIx d ≠ 7) (hk : KAt t k) (h1 : 1 ≤ j) (h6 : j ≤ 6) (hs : shpS (t.take k) = clkF j) (hl : k < t.length) (hz : (zoneV (t.drop k)).2 ≠ 0) : whR d true t = (Stm.no, .errno (zoneV (t.drop k)).2) := by
  obtain ⟨e1, e2⟩ := spl_some hk h1 h6 hs
  unfold whR
  rw [if_neg h, if_neg (by decide), if_neg (by omega), e2, if_pos ⟨fun e => by have := congrArg List.length e; rw [List.length_drop, List.length_nil] at this; omega, hz⟩]
theorem whR_ok {d t : List UInt8} {k j : Nat} (h : dIx d ≠ 7) (hk : KAt t k) (h1 : 1 ≤ j) (h6 : j ≤ 6) (hs : shpS (t.take k) = clkF j) (hz : k < t.length → (zoneV (t.drop k)).2 = 0) : whR d true t = finP (whS (dIx d) d j (t.take k) (t.drop k)) := by
  obtain ⟨e1, e2⟩ := spl_some hk h1 h6 hs
  unfold whR
  rw [if_neg h, if_neg (by decide), if_neg (by omega), e1, e2, if_neg]
  rintro ⟨g1, g2⟩
  rcases Nat.lt_or_ge k t.length with g | g
  · exact g2 (hz g)
  · exact g1 (List.drop_eq_nil_of_le g)
theorem whS_zone {i j : Nat} {d c z : List UInt8} (h : z ≠ []) : whS i d j c z = ⟨dY i d, dM i d, dD i d, cH j c, cI j c, cS j c, true, (zoneV z).1⟩ := by
  unfold whS
  rw [if_neg h, decide_eq_true h]
theorem whS_none {i j : Nat} {d c : List UInt8} : whS i d j c [] = ⟨dY i d, dM i d, dD i d, cH j c, cI j c, cS j c, false, 0⟩ := rfl
theorem zone_cases (z : List UInt8) : (zoneX z = .none ∧ (zoneV z).2 = 0) ∨ ∃ e, e ≠ 0 ∧ zoneX z = .errno e ∧ (zoneV z).2 = e := by
  unfold zoneX
  by_cases h : (zoneV z).2 = 0
  · rw [if_pos h]; exact .inl ⟨rfl, h⟩
  · rw [if_neg h]; exact .inr ⟨_, h, rfl, rfl⟩
/-- Where the program takes the zone to begin. -/
def zAt (t : List UInt8) : Int := if 0 ≤ Lib.indexAny t [90, 43] then Lib.indexAny t [90, 43] else if 2 ≤ lastI t 45 t.length then lastI t 45 t.length else t.length
theorem indexAny_cases (t : List UInt8) : (Lib.indexAny t [90, 43] = -1 ∧ ∀ j, j < t.length → byteAt t j ≠ 90 ∧ byteAt t j ≠ 43) ∨ ∃ m, m < t.length ∧ Lib.indexAny t [90, 43] = (m : Int) ∧ (byteAt t m = 90 ∨ byteAt t m = 43) ∧ ∀ j, j < m → byteAt t j ≠ 90 ∧ byteAt t j ≠ 43 := by
  have key : ∀ j (hj : j < t.length), ([90, 43] : List UInt8).contains t[j] = true ↔ (byteAt t j = 90 ∨ byteAt t j = 43) := by
    intro j hj
    rw [byteAt_getElem hj, List.contains_iff_mem]
    simp only [List.mem_cons, List.not_mem_nil, or_false]
    constructor
    · rintro (h | h) <;> rw [h]
      · exact .inl rfl
      · exact .inr rfl
    · rintro (h | h)
      · exact .inl (UInt8.toNat_inj.1 h)
      · exact .inr (UInt8.toNat_inj.1 h)
  by_cases h : ∃ m, m < t.length ∧ (byteAt t m = 90 ∨ byteAt t m = 43) ∧ ∀ j, j < m → byteAt t j ≠ 90 ∧ byteAt t j ≠ 43
  · obtain ⟨m, h1, h2, h3⟩ := h
    refine .inr ⟨m, h1, ?_, h2, h3⟩
    refine Lib.indexAny_hit (fun j x hj hx => ?_) (List.getElem?_eq_getElem h1) ((key m h1).2 h2)
    obtain ⟨hj', rfl⟩ := List.getElem?_eq_some_iff.1 hx
    rw [Bool.eq_false_iff]
    intro hc
    have := (key j hj').1 hc
    have := h3 j hj
    omega
  · have hn : ∀ n, n ≤ t.length → ∀ j, j < n → byteAt t j ≠ 90 ∧ byteAt t j ≠ 43 := by
      intro n
      induction n with
      | zero => intro _ j hj; omega
      | succ n ih =>
        intro hl j hj
        rcases Nat.lt_or_ge j n with g | g
        · exact ih (by omega) j g
        · refine Decidable.byContradiction fun hc => h ⟨n, by omega, ?_, ih (by omega)⟩
          rw [show j = n by omega] at hc
          omega
    refine .inl ⟨Lib.indexAny_none fun j x hj hx => ?_, hn _ (Nat.le_refl _)⟩
    obtain ⟨hj', rfl⟩ := List.getElem?_eq_some_iff.1 hx
    rw [Bool.eq_false_iff]
    intro hc
    have := (key j hj').1 hc
    have := hn _ (Nat.le_refl _) j hj'
    omega
theorem zAt_k (t : List UInt8) : ∃ k : Nat, zAt t = k ∧ KAt t k := by
  unfold zAt KAt
  rcases indexAny_cases t with ⟨h1, h2⟩ | ⟨m, h1, h2, h3, h4⟩
  · rw [h1, if_neg (by decide)]
    rcases lastI_cases t 45 t.length with ⟨g1, g2⟩ | ⟨m, g1, g2, g3, g4⟩
    · rw [g1, if_neg (by decide)]
      exact ⟨_, rfl, .inr ⟨h2, .inr ⟨rfl, fun j _ hj => by have := g2 j hj; omega⟩⟩⟩
    · rw [g2]
      split
      · exact ⟨m, rfl, .inr ⟨h2, .inl ⟨g1, by omega, by omega, fun j k1 k2 => by have := g4 j k1 k2; omega⟩⟩⟩
      · exact ⟨_, rfl, .inr ⟨h2, .inr ⟨rfl, fun j k1 k2 => by have := g4 j (by omega) k2; omega⟩⟩⟩
  · rw [h2, if_pos (by omega)]
    exact ⟨m, rfl, .inl ⟨h1, h3, h4⟩⟩
set_option maxRecDepth 20000
set_option maxHeartbeats 4000000
set_option linter.unusedSimpArgs false
set_option linter.unusedVariables false
attribute [local irreducible] AWp AOps byteAt SrcOK OrOk GloAll FnSpec
attribute [local irreducible] shpS nineI dIx cIx whR whS finP cutB zoneV zoneX lastI KAt
attribute [local irreducible] Lib.indexAny
theorem when_Parse {G : Glo} {m : Int} (hU : GloAll G utfTy) (hM : GloAll G (maxTy m)) (s : List UInt8) (hl : s.length ≤ 10000) : FnIs Tryz.prog G 5 [.str s] (.tuple [(whP s).1.A, (whP s).2.A]) := by
  have k1 : FnIs Tryz.prog G 12 [.str s, .str [84]] (.tuple [.str (cutB s 84).1, .str (cutB s 84).2.1, .bool (cutB s 84).2.2]) := strings_Cut_one s 84 (by omega)
  have hn := cutB_no (s := s) (c := 84)
  have hlen := cutB_len s 84
  unfold whP
  generalize (cutB s 84).1 = d at *
  generalize (cutB s 84).2.1 = t at *
  generalize (cutB s 84).2.2 = timed at *
  have hD := fun b => when_date (G := G) hU b d (by omega) (-1) (-1) (-1) false 0
  have hR := fun u => when_Right (G := G) hM u
  have k2 := indexAny_two (G := G) (a := 90) (b := 43) (by decide) (by decide) t (by omega)
  have k3 := strings_LastIndexByte (G := G) t 45 (by decide) (by decide) (by omega)
  have hZ := fun x h => zone_Parse (G := G) x h
  have hC4 := fun b x h => when_clock (G := G) hU b x h (dY (dIx d) d) (dM (dIx d) d) (dD (dIx d) d) false 0
  have hGL : GloAll G [] := gloAll_nil
  refine fn_a Tryz.func5 Tryz.call5 rfl rfl rfl rfl ?_
  intro C hC
  refine cuty hC hGL (fun b2 : Nat => [(0, .str s), (2, .own 0 (pS b2))]) (fun b2 => [stC b2 0 0 0 0 0 0 false 0]) (fun _ => True) ?_ fun b2 _ => ?_
  · refine xw1 ?_
    intro b2
    exact cy b2 trivial
  refine cuty hC hGL (fun b4 : Nat => [(0, .str s), (2, .own 0 (pS b2)), (4, .own 1 (pS b4))]) (fun b4 => [stC b2 0 0 0 0 0 0 false 0, stC b4 (-1) (-1) (-1) (-1) (-1) (-1) false 0]) (fun _ => True) ?_ fun b4 _ => ?_
  · refine xw1 ?_
    intro b4
    exact cy b4 trivial
  refine cut hC hGL [(2, .own 0 (pS b2)), (4, .own 1 (pS b4)), (5, .str d), (6, .str t), (7, .bool timed)] [stC b2 0 0 0 0 0 0 false 0, stC b4 (-1) (-1) (-1) (-1) (-1) (-1) false 0] True xw0 fun _ => ?_
  refine cut hC hGL [(2, .own 0 (pS b2)), (4, .own 1 (pS b4)), (6, .str t), (7, .bool timed)] [stC b2 0 0 0 0 0 0 false 0, stC b4 (dY (dIx d) d) (dM (dIx d) d) (dD (dIx d) d) (-1) (-1) (-1) false 0] (dIx d ≠ 7 ∧ (timed = true → t ≠ [])) ?_ fun hd => ?_
  · refine xw1 ?_
    refine cx_do (i := 1) rfl (hD b4) ?_
    by_cases h7 : dIx d = 7
    · rw [whR_7 h7, h7]
      exact xw0
    · rw [show decide (dIx d ≠ 7) = true from decide_eq_true h7]
      cases timed with
      | false =>
        obtain rfl := hn rfl
        refine xw ?_
        repeat' (first | exact Le.n | refine Lc.mk ?_ ?_)
        all_goals intros
        all_goals first
          | (exfalso; rename_i wb; rw [seqB_t.2 rfl] at wb; cases wb; done)
          | exact ⟨h7, fun h => by cases h⟩
          | skip
      | true =>
        refine xw ?_
        repeat' (first | exact Le.n | refine Lc.mk ?_ ?_)
        all_goals intros
        all_goals first
          | (rename_i wb
             have e : t = [] := seqB_t.1 (by simpa using wb)
             subst e
             rw [whR_0 h7 splJ_nil]
             exact rt_w)
          | (rename_i wb
             exact ⟨h7, fun _ => seqB_f.1 (by simpa using wb)⟩)
          | skip
  obtain ⟨h7, ht⟩ := hd
  refine cuty hC hGL (fun _ : Stm => [(2, .own 0 (pS b2)), (4, .own 1 (pS b4))]) (fun u => [stC b2 0 0 0 0 0 0 false 0, stC b4 u.y u.m u.d u.h u.i u.s u.z u.o]) (fun u => whR d timed t = finP u) ?_ fun u hu => ?_
  · cases timed with
    | false =>
      refine xw1 ?_
      intros
      exact cy (whS (dIx d) d 0 [] []) (whR_u h7) env_w (by unfold whS; rfl)
    | true =>
      obtain ⟨k, hk, hI⟩ : ∃ k : Nat, KAt t k ∧ ((Lib.indexAny t [90, 43] = (k : Int)) ∨ (Lib.indexAny t [90, 43] = -1 ∧ lastI t 45 t.length = (k : Int) ∧ 2 ≤ k) ∨ (Lib.indexAny t [90, 43] = -1 ∧ lastI t 45 t.length < 2 ∧ k = t.length)) := by
        obtain ⟨k, h1, h2⟩ := zAt_k t
        refine ⟨k, h2, ?_⟩
        have g1 := Lib.indexAny_ge [90, 43] t
        unfold zAt at h1
        split at h1
        · exact .inl h1
        · split at h1
          · exact .inr (.inl ⟨by omega, h1, by omega⟩)
          · exact .inr (.inr ⟨by omega, by omega, by omega⟩)
      have hkl := kAt_le hk
      have hc := And.intro trivial (hC4 b4 (t.take k) (by rw [List.length_take]; omega))
      have hz := hZ (t.drop k) (by rw [List.length_drop]; omega)
      generalize Lib.indexAny t [90, 43] = ia at *
      generalize lastI t 45 t.length = ib at *
      have key : ∀ j, cIx (t.take k) = j → 1 ≤ j ∧ j ≤ 6 ∧ shpS (t.take k) = clkF j ∨ j = 7 := by
        rintro j rfl
        rcases cIx_cases (t.take k) with ⟨h, _⟩ | ⟨j, h1, h2, h3, h4⟩
        · exact .inr h
        · rw [h3]; exact .inl ⟨h1, h2, h4⟩
      generalize hj : cIx (t.take k) = j at *
      have hzc := zone_cases (t.drop k)
      have hdr : k < t.length → t.drop k ≠ [] := fun h e => by
        have := congrArg List.length e
        rw [List.length_drop, List.length_nil] at this
        omega
      rcases hI with rfl | ⟨rfl, rfl, hI⟩ | ⟨rfl, hI, hI2⟩
      all_goals (
        refine xw1 ?_
        intros
        try (have hI3 : (t.length : Int) = (k : Int) := by omega))
      all_goals (
        try (rw [← hI2])
        refine cx_do (i := 1) rfl hc.2 ?_
        rcases key j rfl with ⟨j1, j6, js⟩ | rfl)
      all_goals first
        | (rw [whR_bad h7 hk hj]
           exact xw0)
        | skip
      all_goals (
        rw [show decide (j ≠ 7) = true from decide_eq_true (by omega)]
        by_cases hkt : k < t.length
        · first
          | (exfalso; omega)
          | (have hdr := hdr hkt
             rcases hzc with ⟨z1, z2⟩ | ⟨e, e0, z1, z2⟩
             · rw [z1] at hz
               refine xw1 ?_
               intros
               exact cy ⟨dY (dIx d) d, dM (dIx d) d, dD (dIx d) d, cH j (t.take k), cI j (t.take k), cS j (t.take k), true, (zoneV (t.drop k)).1⟩ (by rw [whR_ok h7 hk j1 j6 js (fun _ => z2), whS_zone hdr])
             · rw [z1] at hz
               rw [whR_z h7 hk j1 j6 js hkt (by rw [z2]; exact e0), z2]
               exact xw0)
        · have hd0 : t.drop k = [] := List.drop_eq_nil_of_le (by omega)
          refine xw1 ?_
          intros
          exact cy ⟨dY (dIx d) d, dM (dIx d) d, dD (dIx d) d, cH j (t.take k), cI j (t.take k), cS j (t.take k), false, 0⟩ (by rw [whR_ok h7 hk j1 j6 js (fun h => absurd h hkt), hd0, whS_none]))
  have hu1 : whR d timed t = finP u := hu
  have hR1 : FnIs Tryz.prog G 18 [.agg [.int .i64 u.y, .int .i64 u.m, .int .i64 u.d, .int .i64 u.h, .int .i64 u.i, .int .i64 u.s, .bool u.z, .int .i64 u.o]] u.E.A := hR u
  rw [hu1]
  rcases E_cases u with ⟨e1, e2⟩ | ⟨x, x0, e1, e2⟩
  · rw [e1] at hR1
    rw [fin_0 e2]
    exact aw_code hC hGL xw0
  · rw [e1] at hR1
    rw [fin_x e2 x0]
    exact aw_code hC hGL xw0
end Go.Proofs.YtjedjiffaopmkaaGreatDoor
namespace Go.Proofs.YtjedjiffaopmkaaGreatDoor
open Go Go.RowKit
def outB (c : UInt8) (s : List UInt8) : List UInt8 := s.filter (· != c)
theorem idx_no : ∀ {s : List UInt8} {c : UInt8}, Lib.indexByte s c = -1 → c ∉ s
  | [], c, _ => by simp
  | x :: t, c, h => by
    have hge := Lib.indexByte_ge t c
    unfold Lib.indexByte at h
    split at h
    · omega
    · rename_i hx
      split at h
      · rename_i h2
        have := idx_no (beq_iff_eq.1 h2)
        simp only [List.mem_cons, not_or]
        exact ⟨fun e => hx (by simp [e]), this⟩
      · omega
theorem idx_yes : ∀ {s : List UInt8} {c : UInt8} {i : Nat}, Lib.indexByte s c = i → ∃ t, s = s.take i ++ c :: t ∧ s.drop (i + 1) = t ∧ c ∉ s.take i
  | [], c, i, h => by unfold Lib.indexByte at h; omega
  | x :: t, c, i, h => by
    have hge := Lib.indexByte_ge t c
    unfold Lib.indexByte at h
    split at h
    · rename_i hx
      obtain rfl : i = 0 := by omega
      have : x = c := by simpa using hx
      subst this
      exact ⟨t, by simp, by simp, by simp⟩
    · rename_i hx
      split at h
      · omega
      · rename_i h2
        have h2 : Lib.indexByte t c ≠ -1 := fun e => h2 (beq_iff_eq.2 e)
        obtain ⟨j, rfl⟩ : ∃ j, i = j + 1 := ⟨i - 1, by omega⟩
        have hj : Lib.indexByte t c = ((j : Nat) : Int) := by push_cast at h; omega
        obtain ⟨u, h1, h2, h3⟩ := idx_yes (s := t) (c := c) (i := j) hj
        refine ⟨u, by rw [List.take_succ_cons, List.cons_append, ← h1], by rw [List.drop_succ_cons]; exact h2, ?_⟩
        rw [List.take_succ_cons, List.mem_cons, not_or]
        exact ⟨fun e => hx (by simp [e]), h3⟩
theorem out_no {s : List UInt8} {c : UInt8} (h : c ∉ s) : outB c s = s := by
  unfold outB
  rw [List.filter_eq_self]
  intro x hx
  simp only [bne_iff_ne, ne_eq]
  rintro rfl
  exact h hx
theorem rep_out (c : UInt8) : ∀ (f : Nat) (s : List UInt8), s.length < f → Lib.replaceK [c] [] (Lib.countFrom [c] f s) s = outB c s
  | 0, s, h => by omega
  | f + 1, s, h => by
    unfold Lib.countFrom
    have hge := Lib.indexByte_ge s c
    split
    · rename_i h1
      have h1 := beq_iff_eq.1 h1
      rw [Lib.index_one] at h1
      rw [Lib.replaceK, out_no (idx_no h1)]
    · rename_i h1
      rw [Lib.index_one] at h1 ⊢
      obtain ⟨i, hi⟩ : ∃ i : Nat, Lib.indexByte s c = i := ⟨(Lib.indexByte s c).toNat, by
        have : Lib.indexByte s c ≠ -1 := fun e => h1 (beq_iff_eq.2 e)
        omega⟩
      obtain ⟨t, h2, h3, h4⟩ := idx_yes hi
      have hi2 : Lib.index s [c] = (i : Int) := by rw [Lib.index_one]; exact hi
      have hlen : t.length < f := by
        rw [← h3, List.length_drop]
        have := congrArg List.length h2
        simp only [List.length_append, List.length_cons, List.length_take] at this
        omega
      rw [hi, Nat.add_comm 1, Lib.replaceK_hit _ _ _ _ i hi2]
      simp only [Int.toNat_natCast, List.length_cons, List.length_nil, Nat.zero_add, List.append_nil]
      rw [h3, rep_out c f t hlen]
      conv => rhs; rw [h2]
      have e1 : outB c (s.take i ++ c :: t) = outB c (s.take i) ++ outB c t := by unfold outB; rw [List.filter_append, List.filter_cons]; simp
      rw [e1, out_no h4]
theorem replace_out (s : List UInt8) (c : UInt8) : Lib.replaceAll s [c] [] = outB c s := by
  unfold Lib.replaceAll Lib.replace Lib.replaceNum Lib.count
  rw [if_neg (by simp), if_pos (.inl (by decide))]
  exact rep_out c _ s (Nat.lt_succ_self _)
theorem strings_ReplaceAll {G : Glo} {m : Int} (hU : GloAll G (maxTy m)) (s : List UInt8) (c : UInt8) (hl : s.length ≤ 1000000) : FnIs Tryz.prog G 10 [.str s, .str [c], .str []] (.str (outB c s)) := by
  refine fnis_of_calls rfl Tryz.call10 ?_
  rintro R args ⟨x, u, e, hx, y, u', e', hy, z, u2, e2, hz, rfl⟩ w hG hs
  obtain rfl := rel_str.1 hx
  obtain rfl := rel_str.1 hy
  obtain rfl := rel_str.1 hz
  subst e2
  subst e'
  obtain rfl := arr_of e
  refine (Tryz.strings_ReplaceAll ⟨s.toArray⟩ ⟨#[c]⟩ ⟨#[]⟩ m w (by rw [str_size]; omega) (max_cell hU hG hs) (Nat.le_refl 1) (by rw [str_size]; show s.length + _ * 0 ≤ _; omega)).mono ?_
  rintro e w' ⟨rfl, hb⟩
  exact ⟨by simp [AVal.conc, replace_out], hb⟩
end Go.Proofs.YtjedjiffaopmkaaGreatDoor
namespace Go.Proofs.YtjedjiffaopmkaaGreatDoor
open Go Go.RowKit
set_option maxRecDepth 20000
set_option maxHeartbeats 8000000
set_option linter.unusedSimpArgs false
set_option linter.unusedVariables false
attribute [local irreducible] AWp AOps SrcOK OrOk GloAll FnSpec
/-- The tests of the numbers, one by one. -/
def tstB (t : Stm) : Nat → Bool
  | 0 => witB t.y 0 9999
  | 1 => witB t.m 1 12
  | 2 => witB t.d 1 t.day
  | 3 => witB t.h 0 23
  | 4 => witB t.i 0 59
  | _ => witB t.s 0 59
theorem rng_of {t : Stm} (h : ∀ j, j < 6 → tstB t j = true) (z : zrB t.o = true) : t.rng = true := by
  have h0 : witB t.y 0 9999 = true := h 0 (by decide)
  have h1 : witB t.m 1 12 = true := h 1 (by decide)
  have h2 : witB t.d 1 t.day = true := h 2 (by decide)
  have h3 : witB t.h 0 23 = true := h 3 (by decide)
  have h4 : witB t.i 0 59 = true := h 4 (by decide)
  have h5 : witB t.s 0 59 = true := h 5 (by decide)
  unfold Stm.rng
  rw [h0, h1, h2, h3, h4, h5, z]
  rfl
theorem rng_no {t : Stm} (j : Nat) (h : tstB t j = false) : t.rng = false := by
  unfold Stm.rng
  match j, h with
  | 0, h => have h : witB t.y 0 9999 = false := h; simp [h]
  | 1, h => have h : witB t.m 1 12 = false := h; simp [h]
  | 2, h => have h : witB t.d 1 t.day = false := h; simp [h]
  | 3, h => have h : witB t.h 0 23 = false := h; simp [h]
  | 4, h => have h : witB t.i 0 59 = false := h; simp [h]
  | n + 5, h => have h : witB t.s 0 59 = false := h; simp [h]
theorem rng_z {t : Stm} (z : zrB t.o = false) : t.rng = false := by
  unfold Stm.rng
  rw [z]
  simp
theorem e_3 {t : Stm} (h : ¬ FrmP t.dn t.tn t.z t.h t.o) : t.e = 3 := by
  unfold Stm.e
  rw [if_neg (fun k => h ((frm_iff t).1 k))]
theorem e_2 {t : Stm} (h : FrmP t.dn t.tn t.z t.h t.o) (k : t.rng = false) : t.e = 2 := by
  unfold Stm.e
  rw [if_pos ((frm_iff t).2 h), k]
  rfl
theorem e_0 {t : Stm} (h : FrmP t.dn t.tn t.z t.h t.o) (k : t.rng = true) : t.e = 0 := by
  unfold Stm.e
  rw [if_pos ((frm_iff t).2 h), k]
  rfl
theorem tst_succ {t : Stm} {k : Nat} (h : ∀ j, j < k → tstB t j = true) (hk : tstB t k = true) : ∀ j, j < k + 1 → tstB t j = true := by
  intro j hj
  rcases Nat.lt_or_ge j k with g | g
  · exact h j g
  · rw [show j = k by omega]
    exact hk
theorem and_tt {p q : Prop} [Decidable p] [Decidable q] : ((decide p && decide q) = true) ↔ p ∧ q := by simp
theorem and_ff {p q : Prop} [Decidable p] [Decidable q] : ((decide p && decide q) = false) ↔ ¬ (p ∧ q) := by simp
theorem wT {n lo hi : Int} (h : n = -1 ∨ lo ≤ n ∧ n ≤ hi) : witB n lo hi = true := witB_t.2 h
theorem wF {n lo hi : Int} (h : ¬ (n = -1 ∨ lo ≤ n ∧ n ≤ hi)) : witB n lo hi = false := witB_f.2 h
attribute [local irreducible] whN
theorem ref_WhenRight {G : Glo} (hS : GloAll G shapesTy) (t : Stm) : FnIs Tryz.prog G 26 [t.A] (.int .i64 t.e) := by
  have h1 := ref_which hS t.y t.m t.d
  have h2 := ref_which hS t.h t.i t.s
  have h3 := ref_Days (G := G) t.y t.m
  have k1 := fun n lo hi (_ : (0 : Int) ≤ 0) => ref_within (G := G) n lo hi
  have h5 := ref_ZoneRight (G := G) t.o
  have hE3 := e_3 (t := t)
  have hE2 := e_2 (t := t)
  have hE0 := e_0 (t := t)
  unfold FrmP Stm.dn Stm.tn at hE3 hE2 hE0
  have hGL : GloAll G [] := gloAll_nil
  refine fn_a Tryz.func26 Tryz.call26 rfl rfl rfl rfl ?_
  intro C hC
  refine cut hC hGL [(1, .rop t.R 0), (2, .int .i64 0)] [] True ?_ fun _ => ?_
  · exact xw0
  refine cut hC hGL [(1, .rop t.R 0), (3, .int .i64 (whN (tlB t.y) (tlB t.m) (tlB t.d))), (4, .int .i64 (whN (tlB t.h) (tlB t.i) (tlB t.s)))] [] True ?_ fun _ => ?_
  · refine xn1 ?_
    refine dw_p mixed hC hGL false (fun (_ : Unit) => [(1, .rop t.R 0), (3, .int .i64 (whN (tlB t.y) (tlB t.m) (tlB t.d))), (4, .int .i64 (whN (tlB t.h) (tlB t.i) (tlB t.s)))]) (fun _ => []) (.take 0 (.take 1 (.take 2 (.take 3 (.take 4 (.take 5 (.take 8 (.take 9 (.take 10 (.take 11 (.take 12 (.take 13 (.br 6 (.br 7 (.br 14 (.br 15 (.take 16 (.take 17 (.done))) (.nil)) (.nil)) (.br 14 (.br 7 (.br 15 (.take 16 (.take 17 (.done))) (.nil)) (.nil)) (.nil))) (.br 14 (.br 6 (.br 7 (.br 15 (.take 16 (.take 17 (.done))) (.nil)) (.nil)) (.nil)) (.nil))))))))))))))) (by kernel_rfl) ?_ ?_
    · refine xn ?_
      repeat' (first | exact Le.n | refine Lc.mk ?_ ?_)
      all_goals intros
      all_goals exact ⟨(), ⟨rfl, rfl, rfl, trivial⟩, rfl⟩
    · intro _
      exact xn0
  clear h1 h2
  generalize whN (tlB t.y) (tlB t.m) (tlB t.d) = D at *
  generalize whN (tlB t.h) (tlB t.i) (tlB t.s) = T at *
  refine cut hC hGL [(1, .rop t.R 0), (3, .int .i64 D), (4, .int .i64 T)] [] (0 ≤ D ∧ 0 ≤ T ∧ ¬ (D = 0 ∧ T = 0)) ?_ fun p1 => ?_
  · clear hE2 hE0
    refine xw ?_
    repeat' (first | exact Le.n | refine Lc.mk ?_ ?_)
    all_goals intros
    all_goals first | omega | (apply rt_is; refine congrArg (AVal.int .i64) ?_; rw [hE3 (fun k => by have := k.1; omega)])
  refine cut hC hGL [(1, .rop t.R 0), (3, .int .i64 D), (4, .int .i64 T)] [] (0 < D ∧ 0 < T → (D = 3 ∨ D = 5 ∨ D = 6) ∧ T ≤ 3) ?_ fun p2 => ?_
  · clear hE2 hE0
    refine xw ?_
    repeat' (first | exact Le.n | refine Lc.mk ?_ ?_)
    all_goals intros
    all_goals first | omega | (apply rt_is; refine congrArg (AVal.int .i64) ?_; rw [hE3 (fun k => by have := k.1.2.2.2; omega)])
  refine cut hC hGL [(1, .rop t.R 0)] [] ((t.z = true → t.h ≠ -1) ∧ (t.z = false → t.o = 0)) ?_ fun p3 => ?_
  · clear hE2 hE0 p1 p2
    refine xw ?_
    repeat' (first | exact Le.n | refine Lc.mk ?_ ?_)
    all_goals intros
    all_goals first
      | exact Bool.noConfusion ((show t.z = true by assumption).symm.trans (show t.z = false by assumption))
      | exact ⟨fun _ => by assumption, fun k => Bool.noConfusion ((show t.z = true by assumption).symm.trans k)⟩
      | exact ⟨fun k => Bool.noConfusion (k.symm.trans (show t.z = false by assumption)), fun _ => by assumption⟩
      | (apply rt_is; refine congrArg (AVal.int .i64) ?_; rw [hE3 (fun k => by have := k.2; rw [if_pos (by assumption)] at this; omega)])
      | (apply rt_is; refine congrArg (AVal.int .i64) ?_; rw [hE3 (fun k => by have := k.2; rw [if_neg (by rw [show t.z = false by assumption]; decide)] at this; omega)])
  have hF : (0 ≤ D ∧ 0 ≤ T ∧ ¬ (D = 0 ∧ T = 0) ∧ (0 < D ∧ 0 < T → (D = 3 ∨ D = 5 ∨ D = 6) ∧ T ≤ 3)) ∧ (if t.z = true then t.h ≠ -1 else t.o = 0) := by
    refine ⟨⟨p1.1, p1.2.1, p1.2.2, p2⟩, ?_⟩
    split
    · exact p3.1 (by assumption)
    · rename_i k
      exact p3.2 (by simpa using k)
  have key2 := hE2 hF
  have key0 := hE0 hF
  clear hE2 hE0 hE3 hF p1 p2 p3
  refine cut hC hGL [(1, .rop t.R 0), (5, .int .i64 31)] [] True ?_ fun _ => ?_
  · exact xw0
  refine cuty hC hGL (fun q : Int => [(1, .rop t.R 0), (5, .int .i64 q)]) (fun _ => []) (fun q => q = t.day) ?_ fun q hq => ?_
  · refine xw ?_
    repeat' (first | exact Le.n | refine Lc.mk ?_ ?_)
    all_goals intros
    all_goals first
      | exact cy _ (by unfold Stm.day; rw [if_neg (by assumption)])
      | exact cy _ (by unfold Stm.day; rw [if_pos (by assumption)])
  subst hq
  refine cut hC hGL [(1, .rop t.R 0)] [] (∀ j, j < 6 → tstB t j = true) ?_ fun hj => ?_
  · refine xw1 ?_
    refine lp hC hGL (fun (k : Nat) => [(1, .rop t.R 0), (104, _), (105, .int .i64 6), (106, .int .i64 (k : Nat))]) (fun _ => []) (fun k => k ≤ 6 ∧ ∀ j, j < k → tstB t j = true) (fun k => 6 - k) 0 ?_ env_w rfl ?_
    · exact ⟨by omega, fun j hj => absurd hj (by omega)⟩
    rintro k ⟨hk, hj⟩
    rcases (show k = 0 ∨ k = 1 ∨ k = 2 ∨ k = 3 ∨ k = 4 ∨ k = 5 ∨ k = 6 by omega) with rfl | rfl | rfl | rfl | rfl | rfl | rfl
    all_goals
      refine xw ?_
      repeat' (first | exact Le.n | refine Lc.mk ?_ ?_)
      all_goals intros
      all_goals try simp only [and_tt, and_ff] at *
      all_goals first
        | exact hj _ (by assumption)
        | exact nxs 1 ⟨by decide, tst_succ hj (wT (by omega))⟩ (by decide) env_w sub_w
        | exact nxs 2 ⟨by decide, tst_succ hj (wT (by omega))⟩ (by decide) env_w sub_w
        | exact nxs 3 ⟨by decide, tst_succ hj (wT (by omega))⟩ (by decide) env_w sub_w
        | exact nxs 4 ⟨by decide, tst_succ hj (wT (by omega))⟩ (by decide) env_w sub_w
        | exact nxs 5 ⟨by decide, tst_succ hj (wT (by omega))⟩ (by decide) env_w sub_w
        | exact nxs 6 ⟨by decide, tst_succ hj (wT (by omega))⟩ (by decide) env_w sub_w
        | (apply rt_is; refine congrArg (AVal.int .i64) ?_; first
          | rw [key2 (rng_no 0 (wF (by omega)))]
          | rw [key2 (rng_no 1 (wF (by omega)))]
          | rw [key2 (rng_no 2 (wF (by omega)))]
          | rw [key2 (rng_no 3 (wF (by omega)))]
          | rw [key2 (rng_no 4 (wF (by omega)))]
          | rw [key2 (rng_no 5 (wF (by omega)))])
  refine aw_code hC hGL ?_
  refine xw ?_
  repeat' (first | exact Le.n | refine Lc.mk ?_ ?_)
  all_goals intros
  all_goals (apply rt_is; refine congrArg (AVal.int .i64) ?_; first | rw [key0 (rng_of hj (by assumption))] | rw [key2 (rng_z (by assumption))])
end Go.Proofs.YtjedjiffaopmkaaGreatDoor
namespace Go.Proofs.YtjedjiffaopmkaaGreatDoor
open Go Go.RowKit
def tolB (i k : Nat) : Bool := ([[false, false, false], [true, false, false], [true, true, false], [true, true, true], [false, true, false], [false, true, true], [false, false, true]].getD i []).getD k false
def digS (s : List UInt8) (a b : Nat) : Prop := ∀ j, a ≤ j → j < b → 48 ≤ byteAt s j ∧ byteAt s j ≤ 57
theorem list4 {α : Type} {l : List α} (h : l.length = 4) : ∃ a b c d, l = [a, b, c, d] := by
  match l, h with
  | [a, b, c, d], _ => exact ⟨a, b, c, d, rfl⟩
theorem atoi4 {s : List UInt8} (hl : s.length = 4) (hd : digS s 0 4) : Lib.atoiAll s = .ok (four4 s 0) := by
  obtain ⟨a, b, c, d, rfl⟩ := list4 hl
  have ha : 48 ≤ a.toNat ∧ a.toNat ≤ 57 := hd 0 (by omega) (by omega)
  have hb : 48 ≤ b.toNat ∧ b.toNat ≤ 57 := hd 1 (by omega) (by omega)
  have hc : 48 ≤ c.toNat ∧ c.toNat ≤ 57 := hd 2 (by omega) (by omega)
  have hdd : 48 ≤ d.toNat ∧ d.toNat ≤ 57 := hd 3 (by omega) (by omega)
  have e : four4 [a, b, c, d] 0 = 10 * (10 * (10 * ((a.toNat : Int) - 48) + ((b.toNat : Int) - 48)) + ((c.toNat : Int) - 48)) + ((d.toNat : Int) - 48) := rfl
  have p : Lib.parseUint10 0 [a, b, c, d] = .ok ((((0 * 10 + (a.toNat - 48)) * 10 + (b.toNat - 48)) * 10 + (c.toNat - 48)) * 10 + (d.toNat - 48)) := by
    rw [Lib.parseUint10, if_pos ha, if_neg (by omega), if_neg (by omega), Lib.parseUint10, if_pos hb, if_neg (by omega), if_neg (by omega), Lib.parseUint10, if_pos hc, if_neg (by omega), if_neg (by omega), Lib.parseUint10, if_pos hdd, if_neg (by omega), if_neg (by omega), Lib.parseUint10]
  unfold Lib.atoiAll
  dsimp only
  rw [if_neg (by omega)]
  unfold Lib.parseMag
  rw [if_neg (by simp), p]
  dsimp only
  rw [if_neg (by omega), if_neg (by omega), if_neg (by omega), e]
  congr 1
  omega
theorem atoi_four {G : Glo} (s : List UInt8) (hl : s.length = 4) (hd : digS s 0 4) : FnIs Tryz.prog G 23 [.str s] (.tuple [.int .i64 (four4 s 0), .raw .nilIface]) := by
  have ha := atoi4 hl hd
  refine fnis_of_calls_v (.tuple #[.int .i64 (four4 s 0), .nilIface]) (fun R => rel_tup2 (rel_int.2 rfl) (rel_raw.2 rfl)) Tryz.call23 ?_
  intro R args hr w _ _
  obtain ⟨x, t, e', hx, rfl⟩ := hr
  obtain rfl := rel_str.1 hx
  obtain rfl := arr_of e'
  refine (Tryz.strconv_Atoi_ok ⟨s.toArray⟩ (by rw [str_size]; omega) _ (by simpa using ha) w).mono ?_
  rintro e w' ⟨rfl, hw⟩
  refine ⟨rfl, ?_⟩
  rcases hw with rfl | ⟨t, rfl⟩
  · exact Below.refl _ _
  · exact ⟨rfl, rfl, rfl, by rw [Lib.bytesWorld_size]; omega, fun k hk => Lib.bytesWorld_at_old _ _ _ _ hk⟩
abbrev bxS (b : Nat) (t : List UInt8) : HEnt := .cells b (some 9) [.str t]
theorem cont_told {G : Glo} {m : Int} (hM : GloAll G (maxTy m)) (i k : Nat) (hi : i ≤ 6) (hk : k < 3) : FnIs Tryz.prog G 24 [.str (toldF i), .str (([97, 98, 99].take (k + 1)).drop k)] (.bool (tolB i k)) := by
  have := strings_contains (G := G) hM (toldF i) (([97, 98, 99].take (k + 1)).drop k)
  rcases (show k = 0 ∨ k = 1 ∨ k = 2 by omega) with rfl | rfl | rfl <;> rcases (show i = 0 ∨ i = 1 ∨ i = 2 ∨ i = 3 ∨ i = 4 ∨ i = 5 ∨ i = 6 by omega) with rfl | rfl | rfl | rfl | rfl | rfl | rfl <;> exact this (by decide)
def sY (i : Nat) (s : List UInt8) : Int := if i = 1 ∨ i = 2 ∨ i = 3 then four4 s 0 else -1
def sM (i : Nat) (s : List UInt8) : Int := if i = 2 ∨ i = 3 then two2 s 4 else if i = 4 ∨ i = 5 then two2 s 0 else -1
def sD (i : Nat) (s : List UInt8) : Int := if i = 3 then two2 s 6 else if i = 5 then two2 s 2 else if i = 6 then two2 s 0 else -1
def sH (i : Nat) (s : List UInt8) : Int := if i = 1 ∨ i = 2 ∨ i = 3 then two2 s 0 else -1
def sI (i : Nat) (s : List UInt8) : Int := if i = 2 ∨ i = 3 then two2 s 2 else if i = 4 ∨ i = 5 then two2 s 0 else -1
def sS (i : Nat) (s : List UInt8) : Int := if i = 3 then two2 s 4 else if i = 5 then two2 s 2 else if i = 6 then two2 s 0 else -1
/-- How many digits a form has. -/
def dN (i : Nat) : Nat := [0, 4, 6, 8, 2, 4, 2].getD i 0
def cN (i : Nat) : Nat := [0, 2, 4, 6, 2, 4, 2].getD i 0
def stP (i j : Nat) (d c z : List UInt8) : Stm × Int :=
  if z ≠ [] ∧ (zoneV z).2 ≠ 0 then (Stm.no, (zoneV z).2)
  else if (⟨sY i d, sM i d, sD i d, sH j c, sI j c, sS j c, decide (z ≠ []), if z = [] then 0 else (zoneV z).1⟩ : Stm).e = 0 then (⟨sY i d, sM i d, sD i d, sH j c, sI j c, sS j c, decide (z ≠ []), if z = [] then 0 else (zoneV z).1⟩, 0)
  else (Stm.no, (⟨sY i d, sM i d, sD i d, sH j c, sI j c, sS j c, decide (z ≠ []), if z = [] then 0 else (zoneV z).1⟩ : Stm).e)
theorem two2_drop {s : List UInt8} {a b : Nat} : two2 (s.drop a) b = two2 s (a + b) := by
  unfold two2 digN
  rw [drop_at, drop_at, Nat.add_assoc]
set_option maxRecDepth 20000
set_option maxHeartbeats 4000000
set_option linter.unusedSimpArgs false
set_option linter.unusedVariables false
attribute [local irreducible] AWp AOps byteAt SrcOK OrOk GloAll FnSpec
attribute [local irreducible] Lib.contains
theorem st_four {G : Glo} (b : Nat) (t : List UInt8) (h4 : 4 ≤ t.length) (hl : t.length ≤ 1000000) (hd : digS t 0 4) : FnSpec Tryz.prog G 22 [.raw (pS b), .int .i64 4] [bxS b t] (fun r H => r = .ret (.int .i64 (four4 t 0)) ∧ H = [bxS b (t.drop 4)]) := by
  have k0 : FnIs Tryz.prog G 23 [.str (t.take 4)] (.tuple [.int .i64 (four4 t 0), .raw .nilIface]) := by
    have := atoi_four (G := G) (t.take 4) (by rw [List.length_take]; omega) (fun j h1 h2 => by rw [take_at h2]; exact hd j h1 h2)
    have e : four4 (t.take 4) 0 = four4 t 0 := by unfold four4 digN; rw [take_at (by omega), take_at (by omega), take_at (by omega), take_at (by omega)]
    rwa [e] at this
  have hGL : GloAll G [] := gloAll_nil
  refine fn_own [(0, 0, pS b)] Tryz.func22 Tryz.call22 rfl rfl rfl rfl (by repeat (first | exact trivial | refine And.intro ⟨rfl, rfl⟩ ?_)) ?_
  intro C hC
  exact aw_code hC hGL xw0
theorem st_two {G : Glo} (b : Nat) (t : List UInt8) (h4 : 2 ≤ t.length) (hl : t.length ≤ 1000000) (hd : digS t 0 2) : FnSpec Tryz.prog G 22 [.raw (pS b), .int .i64 2] [bxS b t] (fun r H => r = .ret (.int .i64 (two2 t 0)) ∧ H = [bxS b (t.drop 2)]) := by
  have k0 : FnIs Tryz.prog G 23 [.str (t.take 2)] (.tuple [.int .i64 (two2 t 0), .raw .nilIface]) := by
    have := atoi_two (G := G) (t.take 2) (by rw [List.length_take]; omega) (by rw [take_at (by omega)]; exact hd 0 (by omega) (by omega)) (by rw [take_at (by omega)]; exact hd 1 (by omega) (by omega))
    have e : 10 * digN (t.take 2) 0 + digN (t.take 2) 1 = two2 t 0 := by unfold two2 digN; rw [take_at (by omega), take_at (by omega)]
    rwa [e] at this
  have hGL : GloAll G [] := gloAll_nil
  refine fn_own [(0, 0, pS b)] Tryz.func22 Tryz.call22 rfl rfl rfl rfl (by repeat (first | exact trivial | refine And.intro ⟨rfl, rfl⟩ ?_)) ?_
  intro C hC
  exact aw_code hC hGL xw0
end Go.Proofs.YtjedjiffaopmkaaGreatDoor
namespace Go.Proofs.YtjedjiffaopmkaaGreatDoor
open Go Go.RowKit
set_option maxRecDepth 20000
set_option maxHeartbeats 4000000
set_option linter.unusedSimpArgs false
set_option linter.unusedVariables false
attribute [local irreducible] AWp AOps byteAt SrcOK OrOk GloAll FnSpec
attribute [local irreducible] Lib.contains zoneV zoneX
theorem ref_stamped {G : Glo} {m : Int} (hM : GloAll G (maxTy m)) (hS : GloAll G shapesTy) (i j : Nat) (hi : i ≤ 6) (hj : j ≤ 6) (d c z : List UInt8) (hd : d.length = dN i) (hdd : digS d 0 (dN i)) (hc : c.length = cN j) (hcc : digS c 0 (cN j)) (hz : z.length ≤ 1000000) :
    FnIs Tryz.prog G 9 [.str (toldF i), .str (toldF j), .str d, .str c, .str z] (.tuple [(stP i j d c z).1.A, .int .i64 (stP i j d c z).2]) := by
  have c0 := cont_told (G := G) hM i 0 hi (by decide)
  have c1 := cont_told (G := G) hM i 1 hi (by decide)
  have c2 := cont_told (G := G) hM i 2 hi (by decide)
  have e0 := cont_told (G := G) hM j 0 hj (by decide)
  have e1 := cont_told (G := G) hM j 1 hj (by decide)
  have e2 := cont_told (G := G) hM j 2 hj (by decide)
  have hR := fun u => ref_WhenRight (G := G) hS u
  have hZ := ref_ZoneParse (G := G) z (by omega)
  have hGL : GloAll G [] := gloAll_nil
  refine fn_a Tryz.func9 Tryz.call9 rfl rfl rfl rfl ?_
  intro C hC
  refine cuty hC hGL (fun x : Nat × Nat × Nat => [(0, .str (toldF i)), (1, .str (toldF j)), (4, .str z), (7, .own 0 (pS x.1)), (8, .own 1 (pS x.2.1)), (10, .own 2 (pS x.2.2))]) (fun x => [bxS x.1 d, bxS x.2.1 c, stC x.2.2 0 0 0 0 0 0 false 0]) (fun _ => True) ?_ fun x _ => ?_
  · refine xb1 ?_
    intro b7 b8 b10
    exact cy (b7, b8, b10) trivial
  obtain ⟨b7, b8, b10⟩ := x
  dsimp only
  refine cuty hC hGL (fun b12 : Nat => [(0, .str (toldF i)), (1, .str (toldF j)), (4, .str z), (7, .own 0 (pS b7)), (8, .own 1 (pS b8)), (10, .own 2 (pS b10)), (12, .own 3 (pS b12))]) (fun b12 => [bxS b7 d, bxS b8 c, stC b10 0 0 0 0 0 0 false 0, stC b12 (-1) (-1) (-1) (-1) (-1) (-1) false 0]) (fun _ => True) ?_ fun b12 _ => ?_
  · refine xn1 ?_
    intro b12
    exact cy b12 trivial
  refine cut hC hGL [(0, .str (toldF i)), (1, .str (toldF j)), (4, .str z), (7, .own 0 (pS b7)), (8, .own 1 (pS b8)), (10, .own 2 (pS b10)), (12, .own 3 (pS b12)), (13, .func (.func 22) [] [])] [bxS b7 d, bxS b8 c, stC b10 0 0 0 0 0 0 false 0, stC b12 (-1) (-1) (-1) (-1) (-1) (-1) false 0] True xn0 fun _ => ?_
  refine cuty hC hGL (fun _ : List UInt8 => [(1, .str (toldF j)), (4, .str z), (8, .own 1 (pS b8)), (10, .own 2 (pS b10)), (12, .own 3 (pS b12)), (13, .func (.func 22) [] [])]) (fun x => [bxS b7 x, bxS b8 c, stC b10 0 0 0 0 0 0 false 0, stC b12 (sY i d) (sM i d) (sD i d) (-1) (-1) (-1) false 0]) (fun _ => True) ?_ fun d' _ => ?_
  · refine xn1 ?_
    refine rds hC hGL 4 ?_
    rcases (show i = 0 ∨ i = 1 ∨ i = 2 ∨ i = 3 ∨ i = 4 ∨ i = 5 ∨ i = 6 by omega) with rfl | rfl | rfl | rfl | rfl | rfl | rfl
    · have hd : d.length = 0 := hd
      have hdd : digS d 0 0 := hdd
      refine xn1 ?_
      intros
      exact cy (d) trivial
    · have hd : d.length = 4 := hd
      have hdd : digS d 0 4 := hdd
      have f0 := st_four (G := G) b7 d (by omega) (by omega) (fun j g1 g2 => hdd j g1 (by omega))
      refine xn1 ?_
      intros
      exact cy (d.drop 4) trivial
    · have hd : d.length = 6 := hd
      have hdd : digS d 0 6 := hdd
      have f0 := st_four (G := G) b7 d (by omega) (by omega) (fun j g1 g2 => hdd j g1 (by omega))
      have f1 := st_two (G := G) b7 (d.drop 4) (by simp only [List.length_drop]; omega) (by simp only [List.length_drop]; omega) (fun j g1 g2 => by rw [drop_at]; exact hdd _ (by omega) (by omega))
      rw [show two2 (d.drop 4) 0 = two2 d 4 by rw [two2_drop]] at f1
      refine xn1 ?_
      intros
      exact cy ((d.drop 4).drop 2) trivial
    · have hd : d.length = 8 := hd
      have hdd : digS d 0 8 := hdd
      have f0 := st_four (G := G) b7 d (by omega) (by omega) (fun j g1 g2 => hdd j g1 (by omega))
      have f1 := st_two (G := G) b7 (d.drop 4) (by simp only [List.length_drop]; omega) (by simp only [List.length_drop]; omega) (fun j g1 g2 => by rw [drop_at]; exact hdd _ (by omega) (by omega))
      rw [show two2 (d.drop 4) 0 = two2 d 4 by rw [two2_drop]] at f1
      have f2 := st_two (G := G) b7 ((d.drop 4).drop 2) (by simp only [List.length_drop]; omega) (by simp only [List.length_drop]; omega) (fun j g1 g2 => by rw [drop_at, drop_at]; exact hdd _ (by omega) (by omega))
      rw [show two2 ((d.drop 4).drop 2) 0 = two2 d 6 by rw [two2_drop, two2_drop]] at f2
      refine xn1 ?_
      intros
      exact cy (((d.drop 4).drop 2).drop 2) trivial
    · have hd : d.length = 2 := hd
      have hdd : digS d 0 2 := hdd
      have f0 := st_two (G := G) b7 d (by omega) (by omega) (fun j g1 g2 => hdd j g1 (by omega))
      refine xn1 ?_
      intros
      exact cy (d.drop 2) trivial
    · have hd : d.length = 4 := hd
      have hdd : digS d 0 4 := hdd
      have f0 := st_two (G := G) b7 d (by omega) (by omega) (fun j g1 g2 => hdd j g1 (by omega))
      have f1 := st_two (G := G) b7 (d.drop 2) (by simp only [List.length_drop]; omega) (by simp only [List.length_drop]; omega) (fun j g1 g2 => by rw [drop_at]; exact hdd _ (by omega) (by omega))
      rw [show two2 (d.drop 2) 0 = two2 d 2 by rw [two2_drop]] at f1
      refine xn1 ?_
      intros
      exact cy ((d.drop 2).drop 2) trivial
    · have hd : d.length = 2 := hd
      have hdd : digS d 0 2 := hdd
      have f0 := st_two (G := G) b7 d (by omega) (by omega) (fun j g1 g2 => hdd j g1 (by omega))
      refine xn1 ?_
      intros
      exact cy (d.drop 2) trivial
  refine cuty hC hGL (fun _ : List UInt8 => [(4, .str z), (10, .own 2 (pS b10)), (12, .own 3 (pS b12))]) (fun x => [bxS b7 d', bxS b8 x, stC b10 0 0 0 0 0 0 false 0, stC b12 (sY i d) (sM i d) (sD i d) (sH j c) (sI j c) (sS j c) false 0]) (fun _ => True) ?_ fun c' _ => ?_
  · generalize sY i d = y0
    generalize sM i d = m0
    generalize sD i d = d0
    refine xn1 ?_
    refine rds hC hGL 4 ?_
    rcases (show j = 0 ∨ j = 1 ∨ j = 2 ∨ j = 3 ∨ j = 4 ∨ j = 5 ∨ j = 6 by omega) with rfl | rfl | rfl | rfl | rfl | rfl | rfl
    · have hc : c.length = 0 := hc
      have hcc : digS c 0 0 := hcc
      refine xn1 ?_
      intros
      exact cy (c) trivial
    · have hc : c.length = 2 := hc
      have hcc : digS c 0 2 := hcc
      have f0 := st_two (G := G) b8 c (by omega) (by omega) (fun j g1 g2 => hcc j g1 (by omega))
      refine xn1 ?_
      intros
      exact cy (c.drop 2) trivial
    · have hc : c.length = 4 := hc
      have hcc : digS c 0 4 := hcc
      have f0 := st_two (G := G) b8 c (by omega) (by omega) (fun j g1 g2 => hcc j g1 (by omega))
      have f1 := st_two (G := G) b8 (c.drop 2) (by simp only [List.length_drop]; omega) (by simp only [List.length_drop]; omega) (fun j g1 g2 => by rw [drop_at]; exact hcc _ (by omega) (by omega))
      rw [show two2 (c.drop 2) 0 = two2 c 2 by rw [two2_drop]] at f1
      refine xn1 ?_
      intros
      exact cy ((c.drop 2).drop 2) trivial
    · have hc : c.length = 6 := hc
      have hcc : digS c 0 6 := hcc
      have f0 := st_two (G := G) b8 c (by omega) (by omega) (fun j g1 g2 => hcc j g1 (by omega))
      have f1 := st_two (G := G) b8 (c.drop 2) (by simp only [List.length_drop]; omega) (by simp only [List.length_drop]; omega) (fun j g1 g2 => by rw [drop_at]; exact hcc _ (by omega) (by omega))
      rw [show two2 (c.drop 2) 0 = two2 c 2 by rw [two2_drop]] at f1
      have f2 := st_two (G := G) b8 ((c.drop 2).drop 2) (by simp only [List.length_drop]; omega) (by simp only [List.length_drop]; omega) (fun j g1 g2 => by rw [drop_at, drop_at]; exact hcc _ (by omega) (by omega))
      rw [show two2 ((c.drop 2).drop 2) 0 = two2 c 4 by rw [two2_drop, two2_drop]] at f2
      refine xn1 ?_
      intros
      exact cy (((c.drop 2).drop 2).drop 2) trivial
    · have hc : c.length = 2 := hc
      have hcc : digS c 0 2 := hcc
      have f0 := st_two (G := G) b8 c (by omega) (by omega) (fun j g1 g2 => hcc j g1 (by omega))
      refine xn1 ?_
      intros
      exact cy (c.drop 2) trivial
    · have hc : c.length = 4 := hc
      have hcc : digS c 0 4 := hcc
      have f0 := st_two (G := G) b8 c (by omega) (by omega) (fun j g1 g2 => hcc j g1 (by omega))
      have f1 := st_two (G := G) b8 (c.drop 2) (by simp only [List.length_drop]; omega) (by simp only [List.length_drop]; omega) (fun j g1 g2 => by rw [drop_at]; exact hcc _ (by omega) (by omega))
      rw [show two2 (c.drop 2) 0 = two2 c 2 by rw [two2_drop]] at f1
      refine xn1 ?_
      intros
      exact cy ((c.drop 2).drop 2) trivial
    · have hc : c.length = 2 := hc
      have hcc : digS c 0 2 := hcc
      have f0 := st_two (G := G) b8 c (by omega) (by omega) (fun j g1 g2 => hcc j g1 (by omega))
      refine xn1 ?_
      intros
      exact cy (c.drop 2) trivial
  unfold stP
  generalize sY i d = y0
  generalize sM i d = m0
  generalize sD i d = d0
  generalize sH j c = h0
  generalize sI j c = i0
  generalize sS j c = s0
  by_cases hz0 : z = []
  · subst hz0
    have hR0 : FnIs Tryz.prog G 26 [.agg [.int .i64 y0, .int .i64 m0, .int .i64 d0, .int .i64 h0, .int .i64 i0, .int .i64 s0, .bool false, .int .i64 0]] (.int .i64 (⟨y0, m0, d0, h0, i0, s0, false, 0⟩ : Stm).e) := hR ⟨y0, m0, d0, h0, i0, s0, false, 0⟩
    rw [if_neg (by simp)]
    simp only [if_true, show decide (([] : List UInt8) ≠ []) = false from rfl]
    generalize (⟨y0, m0, d0, h0, i0, s0, false, 0⟩ : Stm).e = e at *
    by_cases he : e = 0
    · rw [if_pos he]
      exact aw_code hC hGL xw0
    · rw [if_neg he]
      exact aw_code hC hGL xw0
  · have hlz : z.length ≠ 0 := fun h => hz0 (List.eq_nil_of_length_eq_zero h)
    have hR0 : FnIs Tryz.prog G 26 [.agg [.int .i64 y0, .int .i64 m0, .int .i64 d0, .int .i64 h0, .int .i64 i0, .int .i64 s0, .bool true, .int .i64 (zoneV z).1]] (.int .i64 (⟨y0, m0, d0, h0, i0, s0, true, (zoneV z).1⟩ : Stm).e) := hR ⟨y0, m0, d0, h0, i0, s0, true, (zoneV z).1⟩
    simp only [if_neg hz0, decide_eq_true hz0]
    by_cases hv : (zoneV z).2 = 0
    · rw [if_neg (fun h => h.2 hv)]
      generalize (⟨y0, m0, d0, h0, i0, s0, true, (zoneV z).1⟩ : Stm).e = e at *
      by_cases he : e = 0
      · rw [if_pos he]
        exact aw_code hC hGL xw0
      · rw [if_neg he]
        exact aw_code hC hGL xw0
    · rw [if_pos ⟨hz0, hv⟩]
      exact aw_code hC hGL xw0
end Go.Proofs.YtjedjiffaopmkaaGreatDoor
namespace Go.Proofs.YtjedjiffaopmkaaGreatDoor
open Go
theorem idx_three {a b c : UInt8} (r : Int) : (0 ≤ idxB [a, b, c] r ↔ ∃ x ∈ [a, b, c], r = x.toNat) := by
  unfold idxB
  simp only [idxF, List.mem_cons, List.not_mem_nil, or_false, exists_eq_or_imp, exists_eq_left]
  split
  · omega
  · split
    · omega
    · split <;> omega
end Go.Proofs.YtjedjiffaopmkaaGreatDoor
namespace Go.Proofs.YtjedjiffaopmkaaGreatDoor
open Go Go.RowKit
theorem dgb {a : UInt8} (h : 48 ≤ a.toNat ∧ a.toNat ≤ 57) : (a != 45) = true := by
  rw [bne_iff_ne]
  rintro rfl
  exact absurd h (by decide)
theorem dsb {a : UInt8} (h : a.toNat = 45) : (a != 45) = false := by
  obtain rfl : a = 45 := UInt8.toNat_inj.1 h
  rfl
theorem dash_at {s u : List UInt8} {i : Nat} (h : shpS s = u) (hi : i < u.length) (h45 : byteAt u i = 45) : byteAt s i = 45 := (nine_id (by omega)).1 (((shp_pt h).2 i hi).trans h45)
theorem und_date0 {s : List UInt8} (h : shpS s = dateF 0) : (outB 45 s).length = 0 ∧ digS (outB 45 s) 0 0 ∧ sY 0 (outB 45 s) = dY 0 s ∧ sM 0 (outB 45 s) = dM 0 s ∧ sD 0 (outB 45 s) = dD 0 s := by
  obtain rfl : s = [] := List.eq_nil_of_length_eq_zero (shp_pt h).1
  exact ⟨rfl, fun j _ h => absurd h (Nat.not_lt_zero _), rfl, rfl, rfl⟩
theorem und_date1 {s : List UInt8} (h : shpS s = dateF 1) : (outB 45 s).length = 4 ∧ digS (outB 45 s) 0 4 ∧ sY 1 (outB 45 s) = dY 1 s ∧ sM 1 (outB 45 s) = dM 1 s ∧ sD 1 (outB 45 s) = dD 1 s := by
  have hl : s.length = 4 := (shp_pt h).1
  have f0 := dig_at h (i := 0) (by decide) (by decide)
  have f1 := dig_at h (i := 1) (by decide) (by decide)
  have f2 := dig_at h (i := 2) (by decide) (by decide)
  have f3 := dig_at h (i := 3) (by decide) (by decide)
  match s, hl with
  | [a, b, c, d], _ =>
    have f0 : 48 ≤ a.toNat ∧ a.toNat ≤ 57 := f0
    have f1 : 48 ≤ b.toNat ∧ b.toNat ≤ 57 := f1
    have f2 : 48 ≤ c.toNat ∧ c.toNat ≤ 57 := f2
    have f3 : 48 ≤ d.toNat ∧ d.toNat ≤ 57 := f3
    have e : outB 45 [a, b, c, d] = [a, b, c, d] := by simp only [outB, List.filter, dgb f0, dgb f1, dgb f2, dgb f3]
    rw [e]
    refine ⟨rfl, fun j _ hj => ?_, rfl, rfl, rfl⟩
    rcases (show j = 0 ∨ j = 1 ∨ j = 2 ∨ j = 3 by omega) with rfl | rfl | rfl | rfl
    · exact f0
    · exact f1
    · exact f2
    · exact f3
theorem und_date2 {s : List UInt8} (h : shpS s = dateF 2) : (outB 45 s).length = 6 ∧ digS (outB 45 s) 0 6 ∧ sY 2 (outB 45 s) = dY 2 s ∧ sM 2 (outB 45 s) = dM 2 s ∧ sD 2 (outB 45 s) = dD 2 s := by
  have hl : s.length = 7 := (shp_pt h).1
  have f0 := dig_at h (i := 0) (by decide) (by decide)
  have f1 := dig_at h (i := 1) (by decide) (by decide)
  have f2 := dig_at h (i := 2) (by decide) (by decide)
  have f3 := dig_at h (i := 3) (by decide) (by decide)
  have f4 := dash_at h (i := 4) (by decide) (by decide)
  have f5 := dig_at h (i := 5) (by decide) (by decide)
  have f6 := dig_at h (i := 6) (by decide) (by decide)
  match s, hl with
  | [a, b, c, d, e, f, g], _ =>
    have f0 : 48 ≤ a.toNat ∧ a.toNat ≤ 57 := f0
    have f1 : 48 ≤ b.toNat ∧ b.toNat ≤ 57 := f1
    have f2 : 48 ≤ c.toNat ∧ c.toNat ≤ 57 := f2
    have f3 : 48 ≤ d.toNat ∧ d.toNat ≤ 57 := f3
    have f4 : e.toNat = 45 := f4
    have f5 : 48 ≤ f.toNat ∧ f.toNat ≤ 57 := f5
    have f6 : 48 ≤ g.toNat ∧ g.toNat ≤ 57 := f6
    have e : outB 45 [a, b, c, d, e, f, g] = [a, b, c, d, f, g] := by simp only [outB, List.filter, dgb f0, dgb f1, dgb f2, dgb f3, dsb f4, dgb f5, dgb f6]
    rw [e]
    refine ⟨rfl, fun j _ hj => ?_, rfl, rfl, rfl⟩
    rcases (show j = 0 ∨ j = 1 ∨ j = 2 ∨ j = 3 ∨ j = 4 ∨ j = 5 by omega) with rfl | rfl | rfl | rfl | rfl | rfl
    · exact f0
    · exact f1
    · exact f2
    · exact f3
    · exact f5
    · exact f6
theorem und_date3 {s : List UInt8} (h : shpS s = dateF 3) : (outB 45 s).length = 8 ∧ digS (outB 45 s) 0 8 ∧ sY 3 (outB 45 s) = dY 3 s ∧ sM 3 (outB 45 s) = dM 3 s ∧ sD 3 (outB 45 s) = dD 3 s := by
  have hl : s.length = 8 := (shp_pt h).1
  have f0 := dig_at h (i := 0) (by decide) (by decide)
  have f1 := dig_at h (i := 1) (by decide) (by decide)
  have f2 := dig_at h (i := 2) (by decide) (by decide)
  have f3 := dig_at h (i := 3) (by decide) (by decide)
  have f4 := dig_at h (i := 4) (by decide) (by decide)
  have f5 := dig_at h (i := 5) (by decide) (by decide)
  have f6 := dig_at h (i := 6) (by decide) (by decide)
  have f7 := dig_at h (i := 7) (by decide) (by decide)
  match s, hl with
  | [a, b, c, d, e, f, g, h], _ =>
    have f0 : 48 ≤ a.toNat ∧ a.toNat ≤ 57 := f0
    have f1 : 48 ≤ b.toNat ∧ b.toNat ≤ 57 := f1
    have f2 : 48 ≤ c.toNat ∧ c.toNat ≤ 57 := f2
    have f3 : 48 ≤ d.toNat ∧ d.toNat ≤ 57 := f3
    have f4 : 48 ≤ e.toNat ∧ e.toNat ≤ 57 := f4
    have f5 : 48 ≤ f.toNat ∧ f.toNat ≤ 57 := f5
    have f6 : 48 ≤ g.toNat ∧ g.toNat ≤ 57 := f6
    have f7 : 48 ≤ h.toNat ∧ h.toNat ≤ 57 := f7
    have e : outB 45 [a, b, c, d, e, f, g, h] = [a, b, c, d, e, f, g, h] := by simp only [outB, List.filter, dgb f0, dgb f1, dgb f2, dgb f3, dgb f4, dgb f5, dgb f6, dgb f7]
    rw [e]
    refine ⟨rfl, fun j _ hj => ?_, rfl, rfl, rfl⟩
    rcases (show j = 0 ∨ j = 1 ∨ j = 2 ∨ j = 3 ∨ j = 4 ∨ j = 5 ∨ j = 6 ∨ j = 7 by omega) with rfl | rfl | rfl | rfl | rfl | rfl | rfl | rfl
    · exact f0
    · exact f1
    · exact f2
    · exact f3
    · exact f4
    · exact f5
    · exact f6
    · exact f7
theorem und_date4 {s : List UInt8} (h : shpS s = dateF 4) : (outB 45 s).length = 2 ∧ digS (outB 45 s) 0 2 ∧ sY 4 (outB 45 s) = dY 4 s ∧ sM 4 (outB 45 s) = dM 4 s ∧ sD 4 (outB 45 s) = dD 4 s := by
  have hl : s.length = 4 := (shp_pt h).1
  have f0 := dash_at h (i := 0) (by decide) (by decide)
  have f1 := dash_at h (i := 1) (by decide) (by decide)
  have f2 := dig_at h (i := 2) (by decide) (by decide)
  have f3 := dig_at h (i := 3) (by decide) (by decide)
  match s, hl with
  | [a, b, c, d], _ =>
    have f0 : a.toNat = 45 := f0
    have f1 : b.toNat = 45 := f1
    have f2 : 48 ≤ c.toNat ∧ c.toNat ≤ 57 := f2
    have f3 : 48 ≤ d.toNat ∧ d.toNat ≤ 57 := f3
    have e : outB 45 [a, b, c, d] = [c, d] := by simp only [outB, List.filter, dsb f0, dsb f1, dgb f2, dgb f3]
    rw [e]
    refine ⟨rfl, fun j _ hj => ?_, rfl, rfl, rfl⟩
    rcases (show j = 0 ∨ j = 1 by omega) with rfl | rfl
    · exact f2
    · exact f3
theorem und_date5 {s : List UInt8} (h : shpS s = dateF 5) : (outB 45 s).length = 4 ∧ digS (outB 45 s) 0 4 ∧ sY 5 (outB 45 s) = dY 5 s ∧ sM 5 (outB 45 s) = dM 5 s ∧ sD 5 (outB 45 s) = dD 5 s := by
  have hl : s.length = 6 := (shp_pt h).1
  have f0 := dash_at h (i := 0) (by decide) (by decide)
  have f1 := dash_at h (i := 1) (by decide) (by decide)
  have f2 := dig_at h (i := 2) (by decide) (by decide)
  have f3 := dig_at h (i := 3) (by decide) (by decide)
  have f4 := dig_at h (i := 4) (by decide) (by decide)
  have f5 := dig_at h (i := 5) (by decide) (by decide)
  match s, hl with
  | [a, b, c, d, e, f], _ =>
    have f0 : a.toNat = 45 := f0
    have f1 : b.toNat = 45 := f1
    have f2 : 48 ≤ c.toNat ∧ c.toNat ≤ 57 := f2
    have f3 : 48 ≤ d.toNat ∧ d.toNat ≤ 57 := f3
    have f4 : 48 ≤ e.toNat ∧ e.toNat ≤ 57 := f4
    have f5 : 48 ≤ f.toNat ∧ f.toNat ≤ 57 := f5
    have e : outB 45 [a, b, c, d, e, f] = [c, d, e, f] := by simp only [outB, List.filter, dsb f0, dsb f1, dgb f2, dgb f3, dgb f4, dgb f5]
    rw [e]
    refine ⟨rfl, fun j _ hj => ?_, rfl, rfl, rfl⟩
    rcases (show j = 0 ∨ j = 1 ∨ j = 2 ∨ j = 3 by omega) with rfl | rfl | rfl | rfl
    · exact f2
    · exact f3
    · exact f4
    · exact f5
theorem und_date6 {s : List UInt8} (h : shpS s = dateF 6) : (outB 45 s).length = 2 ∧ digS (outB 45 s) 0 2 ∧ sY 6 (outB 45 s) = dY 6 s ∧ sM 6 (outB 45 s) = dM 6 s ∧ sD 6 (outB 45 s) = dD 6 s := by
  have hl : s.length = 5 := (shp_pt h).1
  have f0 := dash_at h (i := 0) (by decide) (by decide)
  have f1 := dash_at h (i := 1) (by decide) (by decide)
  have f2 := dash_at h (i := 2) (by decide) (by decide)
  have f3 := dig_at h (i := 3) (by decide) (by decide)
  have f4 := dig_at h (i := 4) (by decide) (by decide)
  match s, hl with
  | [a, b, c, d, e], _ =>
    have f0 : a.toNat = 45 := f0
    have f1 : b.toNat = 45 := f1
    have f2 : c.toNat = 45 := f2
    have f3 : 48 ≤ d.toNat ∧ d.toNat ≤ 57 := f3
    have f4 : 48 ≤ e.toNat ∧ e.toNat ≤ 57 := f4
    have e : outB 45 [a, b, c, d, e] = [d, e] := by simp only [outB, List.filter, dsb f0, dsb f1, dsb f2, dgb f3, dgb f4]
    rw [e]
    refine ⟨rfl, fun j _ hj => ?_, rfl, rfl, rfl⟩
    rcases (show j = 0 ∨ j = 1 by omega) with rfl | rfl
    · exact f3
    · exact f4
theorem und_date {s : List UInt8} {i : Nat} (hi : i ≤ 6) (h : shpS s = dateF i) : (outB 45 s).length = dN i ∧ digS (outB 45 s) 0 (dN i) ∧ sY i (outB 45 s) = dY i s ∧ sM i (outB 45 s) = dM i s ∧ sD i (outB 45 s) = dD i s := by
  rcases (show i = 0 ∨ i = 1 ∨ i = 2 ∨ i = 3 ∨ i = 4 ∨ i = 5 ∨ i = 6 by omega) with rfl | rfl | rfl | rfl | rfl | rfl | rfl
  · exact und_date0 h
  · exact und_date1 h
  · exact und_date2 h
  · exact und_date3 h
  · exact und_date4 h
  · exact und_date5 h
  · exact und_date6 h
theorem und_clk0 {s : List UInt8} (h : shpS s = clkF 0) : (outB 45 s).length = 0 ∧ digS (outB 45 s) 0 0 ∧ sH 0 (outB 45 s) = cH 0 s ∧ sI 0 (outB 45 s) = cI 0 s ∧ sS 0 (outB 45 s) = cS 0 s := by
  obtain rfl : s = [] := List.eq_nil_of_length_eq_zero (shp_pt h).1
  exact ⟨rfl, fun j _ h => absurd h (Nat.not_lt_zero _), rfl, rfl, rfl⟩
theorem und_clk1 {s : List UInt8} (h : shpS s = clkF 1) : (outB 45 s).length = 2 ∧ digS (outB 45 s) 0 2 ∧ sH 1 (outB 45 s) = cH 1 s ∧ sI 1 (outB 45 s) = cI 1 s ∧ sS 1 (outB 45 s) = cS 1 s := by
  have hl : s.length = 2 := (shp_pt h).1
  have f0 := dig_at h (i := 0) (by decide) (by decide)
  have f1 := dig_at h (i := 1) (by decide) (by decide)
  match s, hl with
  | [a, b], _ =>
    have f0 : 48 ≤ a.toNat ∧ a.toNat ≤ 57 := f0
    have f1 : 48 ≤ b.toNat ∧ b.toNat ≤ 57 := f1
    have e : outB 45 [a, b] = [a, b] := by simp only [outB, List.filter, dgb f0, dgb f1]
    rw [e]
    refine ⟨rfl, fun j _ hj => ?_, rfl, rfl, rfl⟩
    rcases (show j = 0 ∨ j = 1 by omega) with rfl | rfl
    · exact f0
    · exact f1
theorem und_clk2 {s : List UInt8} (h : shpS s = clkF 2) : (outB 45 s).length = 4 ∧ digS (outB 45 s) 0 4 ∧ sH 2 (outB 45 s) = cH 2 s ∧ sI 2 (outB 45 s) = cI 2 s ∧ sS 2 (outB 45 s) = cS 2 s := by
  have hl : s.length = 4 := (shp_pt h).1
  have f0 := dig_at h (i := 0) (by decide) (by decide)
  have f1 := dig_at h (i := 1) (by decide) (by decide)
  have f2 := dig_at h (i := 2) (by decide) (by decide)
  have f3 := dig_at h (i := 3) (by decide) (by decide)
  match s, hl with
  | [a, b, c, d], _ =>
    have f0 : 48 ≤ a.toNat ∧ a.toNat ≤ 57 := f0
    have f1 : 48 ≤ b.toNat ∧ b.toNat ≤ 57 := f1
    have f2 : 48 ≤ c.toNat ∧ c.toNat ≤ 57 := f2
    have f3 : 48 ≤ d.toNat ∧ d.toNat ≤ 57 := f3
    have e : outB 45 [a, b, c, d] = [a, b, c, d] := by simp only [outB, List.filter, dgb f0, dgb f1, dgb f2, dgb f3]
    rw [e]
    refine ⟨rfl, fun j _ hj => ?_, rfl, rfl, rfl⟩
    rcases (show j = 0 ∨ j = 1 ∨ j = 2 ∨ j = 3 by omega) with rfl | rfl | rfl | rfl
    · exact f0
    · exact f1
    · exact f2
    · exact f3
theorem und_clk3 {s : List UInt8} (h : shpS s = clkF 3) : (outB 45 s).length = 6 ∧ digS (outB 45 s) 0 6 ∧ sH 3 (outB 45 s) = cH 3 s ∧ sI 3 (outB 45 s) = cI 3 s ∧ sS 3 (outB 45 s) = cS 3 s := by
  have hl : s.length = 6 := (shp_pt h).1
  have f0 := dig_at h (i := 0) (by decide) (by decide)
  have f1 := dig_at h (i := 1) (by decide) (by decide)
  have f2 := dig_at h (i := 2) (by decide) (by decide)
  have f3 := dig_at h (i := 3) (by decide) (by decide)
  have f4 := dig_at h (i := 4) (by decide) (by decide)
  have f5 := dig_at h (i := 5) (by decide) (by decide)
  match s, hl with
  | [a, b, c, d, e, f], _ =>
    have f0 : 48 ≤ a.toNat ∧ a.toNat ≤ 57 := f0
    have f1 : 48 ≤ b.toNat ∧ b.toNat ≤ 57 := f1
    have f2 : 48 ≤ c.toNat ∧ c.toNat ≤ 57 := f2
    have f3 : 48 ≤ d.toNat ∧ d.toNat ≤ 57 := f3
    have f4 : 48 ≤ e.toNat ∧ e.toNat ≤ 57 := f4
    have f5 : 48 ≤ f.toNat ∧ f.toNat ≤ 57 := f5
    have e : outB 45 [a, b, c, d, e, f] = [a, b, c, d, e, f] := by simp only [outB, List.filter, dgb f0, dgb f1, dgb f2, dgb f3, dgb f4, dgb f5]
    rw [e]
    refine ⟨rfl, fun j _ hj => ?_, rfl, rfl, rfl⟩
    rcases (show j = 0 ∨ j = 1 ∨ j = 2 ∨ j = 3 ∨ j = 4 ∨ j = 5 by omega) with rfl | rfl | rfl | rfl | rfl | rfl
    · exact f0
    · exact f1
    · exact f2
    · exact f3
    · exact f4
    · exact f5
theorem und_clk4 {s : List UInt8} (h : shpS s = clkF 4) : (outB 45 s).length = 2 ∧ digS (outB 45 s) 0 2 ∧ sH 4 (outB 45 s) = cH 4 s ∧ sI 4 (outB 45 s) = cI 4 s ∧ sS 4 (outB 45 s) = cS 4 s := by
  have hl : s.length = 3 := (shp_pt h).1
  have f0 := dash_at h (i := 0) (by decide) (by decide)
  have f1 := dig_at h (i := 1) (by decide) (by decide)
  have f2 := dig_at h (i := 2) (by decide) (by decide)
  match s, hl with
  | [a, b, c], _ =>
    have f0 : a.toNat = 45 := f0
    have f1 : 48 ≤ b.toNat ∧ b.toNat ≤ 57 := f1
    have f2 : 48 ≤ c.toNat ∧ c.toNat ≤ 57 := f2
    have e : outB 45 [a, b, c] = [b, c] := by simp only [outB, List.filter, dsb f0, dgb f1, dgb f2]
    rw [e]
    refine ⟨rfl, fun j _ hj => ?_, rfl, rfl, rfl⟩
    rcases (show j = 0 ∨ j = 1 by omega) with rfl | rfl
    · exact f1
    · exact f2
theorem und_clk5 {s : List UInt8} (h : shpS s = clkF 5) : (outB 45 s).length = 4 ∧ digS (outB 45 s) 0 4 ∧ sH 5 (outB 45 s) = cH 5 s ∧ sI 5 (outB 45 s) = cI 5 s ∧ sS 5 (outB 45 s) = cS 5 s := by
  have hl : s.length = 5 := (shp_pt h).1
  have f0 := dash_at h (i := 0) (by decide) (by decide)
  have f1 := dig_at h (i := 1) (by decide) (by decide)
  have f2 := dig_at h (i := 2) (by decide) (by decide)
  have f3 := dig_at h (i := 3) (by decide) (by decide)
  have f4 := dig_at h (i := 4) (by decide) (by decide)
  match s, hl with
  | [a, b, c, d, e], _ =>
    have f0 : a.toNat = 45 := f0
    have f1 : 48 ≤ b.toNat ∧ b.toNat ≤ 57 := f1
    have f2 : 48 ≤ c.toNat ∧ c.toNat ≤ 57 := f2
    have f3 : 48 ≤ d.toNat ∧ d.toNat ≤ 57 := f3
    have f4 : 48 ≤ e.toNat ∧ e.toNat ≤ 57 := f4
    have e : outB 45 [a, b, c, d, e] = [b, c, d, e] := by simp only [outB, List.filter, dsb f0, dgb f1, dgb f2, dgb f3, dgb f4]
    rw [e]
    refine ⟨rfl, fun j _ hj => ?_, rfl, rfl, rfl⟩
    rcases (show j = 0 ∨ j = 1 ∨ j = 2 ∨ j = 3 by omega) with rfl | rfl | rfl | rfl
    · exact f1
    · exact f2
    · exact f3
    · exact f4
theorem und_clk6 {s : List UInt8} (h : shpS s = clkF 6) : (outB 45 s).length = 2 ∧ digS (outB 45 s) 0 2 ∧ sH 6 (outB 45 s) = cH 6 s ∧ sI 6 (outB 45 s) = cI 6 s ∧ sS 6 (outB 45 s) = cS 6 s := by
  have hl : s.length = 4 := (shp_pt h).1
  have f0 := dash_at h (i := 0) (by decide) (by decide)
  have f1 := dash_at h (i := 1) (by decide) (by decide)
  have f2 := dig_at h (i := 2) (by decide) (by decide)
  have f3 := dig_at h (i := 3) (by decide) (by decide)
  match s, hl with
  | [a, b, c, d], _ =>
    have f0 : a.toNat = 45 := f0
    have f1 : b.toNat = 45 := f1
    have f2 : 48 ≤ c.toNat ∧ c.toNat ≤ 57 := f2
    have f3 : 48 ≤ d.toNat ∧ d.toNat ≤ 57 := f3
    have e : outB 45 [a, b, c, d] = [c, d] := by simp only [outB, List.filter, dsb f0, dsb f1, dgb f2, dgb f3]
    rw [e]
    refine ⟨rfl, fun j _ hj => ?_, rfl, rfl, rfl⟩
    rcases (show j = 0 ∨ j = 1 by omega) with rfl | rfl
    · exact f2
    · exact f3
theorem und_clk {s : List UInt8} {i : Nat} (hi : i ≤ 6) (h : shpS s = clkF i) : (outB 45 s).length = cN i ∧ digS (outB 45 s) 0 (cN i) ∧ sH i (outB 45 s) = cH i s ∧ sI i (outB 45 s) = cI i s ∧ sS i (outB 45 s) = cS i s := by
  rcases (show i = 0 ∨ i = 1 ∨ i = 2 ∨ i = 3 ∨ i = 4 ∨ i = 5 ∨ i = 6 by omega) with rfl | rfl | rfl | rfl | rfl | rfl | rfl
  · exact und_clk0 h
  · exact und_clk1 h
  · exact und_clk2 h
  · exact und_clk3 h
  · exact und_clk4 h
  · exact und_clk5 h
  · exact und_clk6 h
theorem finP_st (u : Stm) : finP u = if u.e = 0 then (u, .none) else (Stm.no, .errno u.e) := rfl
/-- What stamped answers is what the plain law says. -/
theorem stP_w {i j : Nat} (hi : i ≤ 6) (hj : j ≤ 6) {d c z : List UInt8} (hd : shpS d = dateF i) (hc : shpS c = clkF j) :
    stP i j (outB 45 d) (outB 45 c) z = if z ≠ [] ∧ (zoneV z).2 ≠ 0 then (Stm.no, (zoneV z).2) else ((finP (whS i d j c z)).1, (finP (whS i d j c z)).2.e) := by
  obtain ⟨-, -, e1, e2, e3⟩ := und_date hi hd
  obtain ⟨-, -, e4, e5, e6⟩ := und_clk hj hc
  unfold stP
  rw [e1, e2, e3, e4, e5, e6]
  split
  · rfl
  · rw [finP_st]
    have e : (⟨dY i d, dM i d, dD i d, cH j c, cI j c, cS j c, decide (z ≠ []), if z = [] then 0 else (zoneV z).1⟩ : Stm) = whS i d j c z := rfl
    rw [e]
    by_cases h : (whS i d j c z).e = 0
    · rw [if_pos h, if_pos h]; rfl
    · rw [if_neg h, if_neg h]; rfl
theorem pre_no {P u : List UInt8} {n : Nat} (hn : n < P.length) (h : byteAt P n ≠ byteAt u n) : P.isPrefixOf u = false := by
  rw [Bool.eq_false_iff]
  intro hp
  rw [List.isPrefixOf_iff_prefix] at hp
  obtain ⟨t, rfl⟩ := hp
  apply h
  unfold byteAt
  simp only [List.getD_eq_getElem?_getD]
  rw [List.getElem?_append_left hn]
theorem pre_long {P u : List UInt8} (hn : u.length < P.length) : P.isPrefixOf u = false := by
  rw [Bool.eq_false_iff]
  intro hp
  rw [List.isPrefixOf_iff_prefix] at hp
  have := hp.length_le
  omega
theorem idx_zone {r : Int} : 0 ≤ idxB [90, 43, 45] r ↔ (r = 90 ∨ r = 43 ∨ r = 45) := by
  have := idx_three (a := 90) (b := 43) (c := 45) r
  rw [this]
  simp
end Go.Proofs.YtjedjiffaopmkaaGreatDoor
namespace Go.Proofs.YtjedjiffaopmkaaGreatDoor
open Go Go.RowKit
set_option maxRecDepth 20000
set_option maxHeartbeats 4000000
set_option linter.unusedSimpArgs false
set_option linter.unusedVariables false
attribute [local irreducible] AWp AOps byteAt SrcOK OrOk GloAll FnSpec
theorem has_prefix {G : Glo} (s p : List UInt8) : FnIs Tryz.prog G 11 [.str s, .str p] (.bool (p.isPrefixOf s)) := by
  refine fnis_of_calls rfl Tryz.call11 ?_
  rintro R args ⟨x, t, e, hx, y, t', e', hy, rfl⟩ w hG hs
  obtain rfl := rel_str.1 hx
  obtain rfl := rel_str.1 hy
  subst e'
  obtain rfl := arr_of e
  refine (Tryz.strings_HasPrefix ⟨s.toArray⟩ ⟨p.toArray⟩ w).mono ?_
  rintro e w' ⟨rfl, rfl⟩
  exact ⟨by simp [Lib.hasPrefix, AVal.conc], Below.refl _ _⟩
end Go.Proofs.YtjedjiffaopmkaaGreatDoor
