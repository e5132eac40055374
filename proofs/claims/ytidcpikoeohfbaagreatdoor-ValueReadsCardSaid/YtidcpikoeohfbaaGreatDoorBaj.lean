/- Parts of the proof of valueReads_card: Dfx, Vrc, Und, Whe, Wpg, Wph, Idt, Wpi, Wpj, Lao. -/
import Derived.Lib.Replace
import Derived.Lib.IndexBytes
import Derived.Test.YtidcpikoeohfbaaGreatDoorBai
import Derived.Test.YtidcpikoeohfbaaGreatDoorBag
import Derived.Test.YtidcpikoeohfbaaGreatDoorBae
import Derived.Test.YtidcpikoeohfbaaGreatDoorBaf
set_option linter.unusedVariables false
set_option linter.unusedSimpArgs false
namespace Go.Proofs.YtidcpikoeohfbaaGreatDoor
open Go Go.RowKit
theorem tuple_one {R R' : Seal} {a a' b : AVal} {x : Value} (hle : R.le R') (h : Rel R (.tuple [a, b]) x) (ht : ∀ v, Rel R a v → Rel R' a' v) : Rel R' (.tuple [a', b]) x := by
  obtain ⟨⟨ws, e, u, t, e1, hu, u2, t2, e2, hu2, rfl⟩, h2⟩ := h
  have k := ht u ⟨hu.1, hu.2⟩
  have k2 := rel_mono hle (show Rel R b u2 from ⟨hu2.1, hu2.2⟩)
  exact ⟨⟨ws, e, _, _, e1, ⟨k.1, k.2⟩, _, _, e2, ⟨k2.1, k2.2⟩, rfl⟩, h2⟩
theorem agg_told {R R' : Seal} {cs : List AVal} {p : Nat} {a a' : AVal} {v : Value} (hle : R.le R') (h : Rel R (.agg cs) v) (hp : cs[p]? = some a) (ht : ∀ v, RelC R' a [v] → RelC R' a' [v]) : Rel R' (.agg (cs.set p a')) v :=
  ⟨relL_set ht (relL_mono hle _ _ h.1) hp, h.2⟩
section
variable {P : Program} [Tab P] {C : Ctx} {n : Nat} {env : Env} {H : Heap} {Q : List Deferred → AExit → Env → Heap → Prop} {G : Glo} {GL : List (Nat × List AVal)}
end
end Go.Proofs.YtidcpikoeohfbaaGreatDoor
namespace Go.Proofs.YtidcpikoeohfbaaGreatDoor
open Go Go.RowKit
/-- A value, with its lists as they are read. -/
def Vl.R (v : Vl) : AVal := vlQ v (.list 1 v.L.length (prtF v.L))
theorem list_other {R : Seal} {sz n : Nat} {f g : Nat → AVal} {u : Value} (h : ∀ i, i < n → f i = g i) : RelC R (.list sz n f) [u] → RelC R (.list sz n g) [u] := by
  rintro ⟨a, cap, e, hle, y⟩
  refine ⟨a, cap, e, hle, ?_⟩
  rcases y with y | ⟨b, o, C, el, fz, ha, hR, hi⟩
  · exact .inl y
  · exact .inr ⟨b, o, C, el, fz, ha, hR, fun i hn => by rw [← h i hn]; exact hi i hn⟩
/-- Of what kind the lists in a value may be, as the code holds them. -/
def LsT (L : List (List (List UInt8))) (q : AVal) : Prop := (q = vNil ∧ L = []) ∨ q = .list 1 L.length (prtF L) ∨ ∃ l g, q = .list 1 1 g ∧ g 0 = lstA l ∧ L = [l]
theorem vl_told {v : Vl} {q B : AVal} (h : LsT v.L q) : ResTo (.ret (.tuple [vlQ v q, B])) [] (.tuple [v.R, B]) := by
  rintro C R w e' hm ⟨x, rfl, hx⟩
  refine ⟨R, hm, x, rfl, tuple_one (Seal.le_refl R) hx fun u hu => ?_⟩
  rcases h with ⟨rfl, hL⟩ | rfl | ⟨l, g, rfl, hg, hL⟩
  · have e : v.R = vlQ v (.list 1 0 (prtF [])) := by unfold Vl.R; rw [hL]; rfl
    rw [e]
    exact agg_told (p := 2) (a' := .list 1 0 (prtF [])) (Seal.le_refl R) hu rfl (fun v => nil_list)
  · exact hu
  · have e : v.R = vlQ v (.list 1 1 (prtF [l])) := by unfold Vl.R; rw [hL]; rfl
    rw [e]
    refine agg_told (p := 2) (a' := .list 1 1 (prtF [l])) (Seal.le_refl R) hu rfl (fun v => list_other fun i hi => ?_)
    obtain rfl : i = 0 := by omega
    rw [hg]; rfl
theorem value_Read {G : Glo} {m : Int} (hU : GloAll G utfTy) (hM : GloAll G (maxTy m)) (s : List UInt8) (k : Int) (hl : s.length ≤ 3000) : FnIs Tryz.prog G 5 [.str s, .int .i64 k] (.tuple [(vrV s k).1.R, (vrV s k).2.A]) := by
  refine fn_told (value_Read0 hU hM s k hl) ?_
  rintro r H (⟨q, rfl, rfl, ⟨rfl, hL⟩ | ⟨rfl, hL⟩⟩ | ⟨g, rfl, hg, hL, he, rfl⟩)
  · exact vl_told (.inl ⟨rfl, hL⟩)
  · exact vl_told (.inr (.inl (by rw [hL])))
  · rw [he]
    exact vl_told (.inr (.inr ⟨lstS s, g, rfl, hg, hL⟩))
end Go.Proofs.YtidcpikoeohfbaaGreatDoor
namespace Go.Proofs.YtidcpikoeohfbaaGreatDoor
open Go Go.RowKit
def outB (c : UInt8) (s : List UInt8) : List UInt8 := s.filter (· != c)
theorem idx_no : ∀ {s : List UInt8} {c : UInt8}, Lib.indexByte s c = -1 → c ∉ s
  | [], c, _ => by simp
  | x :: t, c, h => by
    have hge := Lib.indexByte_ge t c
    unfold Lib.indexByte at h
    split at h
    · omega
    · rename_i hx
      split at h
      · rename_i h2
        have := idx_no (beq_iff_eq.1 h2)
        simp only [List.mem_cons, not_or]
        exact ⟨fun e => hx (by simp [e]), this⟩
      · omega
theorem idx_yes : ∀ {s : List UInt8} {c : UInt8} {i : Nat}, Lib.indexByte s c = i → ∃ t, s = s.take i ++ c :: t ∧ s.drop (i + 1) = t ∧ c ∉ s.take i
  | [], c, i, h => by unfold Lib.indexByte at h; omega
  | x :: t, c, i, h => by
    have hge := Lib.indexByte_ge t c
    unfold Lib.indexByte at h
    split at h
    · rename_i hx
      obtain rfl : i = 0 := by omega
      have : x = c := by simpa using hx
      subst this
      exact ⟨t, by simp, by simp, by simp⟩
    · rename_i hx
      split at h
      · omega
      · rename_i h2
        have h2 : Lib.indexByte t c ≠ -1 := fun e => h2 (beq_iff_eq.2 e)
        obtain ⟨j, rfl⟩ : ∃ j, i = j + 1 := ⟨i - 1, by omega⟩
        have hj : Lib.indexByte t c = ((j : Nat) : Int) := by push_cast at h; omega
        obtain ⟨u, h1, h2, h3⟩ := idx_yes (s := t) (c := c) (i := j) hj
        refine ⟨u, by rw [List.take_succ_cons, List.cons_append, ← h1], by rw [List.drop_succ_cons]; exact h2, ?_⟩
        rw [List.take_succ_cons, List.mem_cons, not_or]
        exact ⟨fun e => hx (by simp [e]), h3⟩
theorem out_no {s : List UInt8} {c : UInt8} (h : c ∉ s) : outB c s = s := by
  unfold outB
  rw [List.filter_eq_self]
  intro x hx
  simp only [bne_iff_ne, ne_eq]
  rintro rfl
  exact h hx
theorem rep_out (c : UInt8) : ∀ (f : Nat) (s : List UInt8), s.length < f → Lib.replaceK [c] [] (Lib.countFrom [c] f s) s = outB c s
  | 0, s, h => by omega
  | f + 1, s, h => by
    unfold Lib.countFrom
    have hge := Lib.indexByte_ge s c
    split
    · rename_i h1
      have h1 := beq_iff_eq.1 h1
      rw [Lib.index_one] at h1
      rw [Lib.replaceK, out_no (idx_no h1)]
    · rename_i h1
      rw [Lib.index_one] at h1 ⊢
      obtain ⟨i, hi⟩ : ∃ i : Nat, Lib.indexByte s c = i := ⟨(Lib.indexByte s c).toNat, by
        have : Lib.indexByte s c ≠ -1 := fun e => h1 (beq_iff_eq.2 e)
        omega⟩
      obtain ⟨t, h2, h3, h4⟩ := idx_yes hi
      have hi2 : Lib.index s [c] = (i : Int) := by rw [Lib.index_one]; exact hi
      have hlen : t.length < f := by
        rw [← h3, List.length_drop]
        have := congrArg List.length h2
        simp only [List.length_append, List.length_cons, List.length_take] at this
        omega
      rw [hi, Nat.add_comm 1, Lib.replaceK_hit _ _ _ _ i hi2]
      simp only [Int.toNat_natCast, List.length_cons, List.length_nil, Nat.zero_add, List.append_nil]
      rw [h3, rep_out c f t hlen]
      conv => rhs; rw [h2]
      have e1 : outB c (s.take i ++ c :: t) = outB c (s.take i) ++ outB c t := by unfold outB; rw [List.filter_append, List.filter_cons]; simp
      rw [e1, out_no h4]
theorem replace_out (s : List UInt8) (c : UInt8) : Lib.replaceAll s [c] [] = outB c s := by
  unfold Lib.replaceAll Lib.replace Lib.replaceNum Lib.count
  rw [if_neg (by simp), if_pos (.inl (by decide))]
  exact rep_out c _ s (Nat.lt_succ_self _)
theorem strings_ReplaceAll {G : Glo} {m : Int} (hU : GloAll G (maxTy m)) (s : List UInt8) (c : UInt8) (hl : s.length ≤ 1000000) : FnIs Tryz.prog G 38 [.str s, .str [c], .str []] (.str (outB c s)) := by
  refine fnis_of_calls rfl Tryz.call38 ?_
  rintro R args ⟨x, u, e, hx, y, u', e', hy, z, u2, e2, hz, rfl⟩ w hG hs
  obtain rfl := rel_str.1 hx
  obtain rfl := rel_str.1 hy
  obtain rfl := rel_str.1 hz
  subst e2
  subst e'
  obtain rfl := arr_of e
  refine (Tryz.strings_ReplaceAll ⟨s.toArray⟩ ⟨#[c]⟩ ⟨#[]⟩ m w (by rw [str_size]; omega) (max_cell hU hG hs) (Nat.le_refl 1) (by rw [str_size]; show s.length + _ * 0 ≤ _; omega)).mono ?_
  rintro e w' ⟨rfl, hb⟩
  exact ⟨by simp [AVal.conc, replace_out], hb⟩
end Go.Proofs.YtidcpikoeohfbaaGreatDoor
namespace Go.Proofs.YtidcpikoeohfbaaGreatDoor
open Go Go.RowKit
set_option maxRecDepth 20000
set_option maxHeartbeats 8000000
set_option linter.unusedSimpArgs false
set_option linter.unusedVariables false
attribute [local irreducible] AWp AOps SrcOK OrOk GloAll FnSpec
/-- The tests of the numbers, one by one. -/
def tstB (t : Stm) : Nat → Bool
  | 0 => witB t.y 0 9999
  | 1 => witB t.m 1 12
  | 2 => witB t.d 1 t.day
  | 3 => witB t.h 0 23
  | 4 => witB t.i 0 59
  | _ => witB t.s 0 59
theorem rng_of {t : Stm} (h : ∀ j, j < 6 → tstB t j = true) (z : zrB t.o = true) : t.rng = true := by
  have h0 : witB t.y 0 9999 = true := h 0 (by decide)
  have h1 : witB t.m 1 12 = true := h 1 (by decide)
  have h2 : witB t.d 1 t.day = true := h 2 (by decide)
  have h3 : witB t.h 0 23 = true := h 3 (by decide)
  have h4 : witB t.i 0 59 = true := h 4 (by decide)
  have h5 : witB t.s 0 59 = true := h 5 (by decide)
  unfold Stm.rng
  rw [h0, h1, h2, h3, h4, h5, z]
  rfl
theorem rng_no {t : Stm} (j : Nat) (h : tstB t j = false) : t.rng = false := by
  unfold Stm.rng
  match j, h with
  | 0, h => have h : witB t.y 0 9999 = false := h; simp [h]
  | 1, h => have h : witB t.m 1 12 = false := h; simp [h]
  | 2, h => have h : witB t.d 1 t.day = false := h; simp [h]
  | 3, h => have h : witB t.h 0 23 = false := h; simp [h]
  | 4, h => have h : witB t.i 0 59 = false := h; simp [h]
  | n + 5, h => have h : witB t.s 0 59 = false := h; simp [h]
theorem rng_z {t : Stm} (z : zrB t.o = false) : t.rng = false := by
  unfold Stm.rng
  rw [z]
  simp
theorem e_3 {t : Stm} (h : ¬ FrmP t.dn t.tn t.z t.h t.o) : t.e = 3 := by
  unfold Stm.e
  rw [if_neg (fun k => h ((frm_iff t).1 k))]
theorem e_2 {t : Stm} (h : FrmP t.dn t.tn t.z t.h t.o) (k : t.rng = false) : t.e = 2 := by
  unfold Stm.e
  rw [if_pos ((frm_iff t).2 h), k]
  rfl
theorem e_0 {t : Stm} (h : FrmP t.dn t.tn t.z t.h t.o) (k : t.rng = true) : t.e = 0 := by
  unfold Stm.e
  rw [if_pos ((frm_iff t).2 h), k]
  rfl
theorem tst_succ {t : Stm} {k : Nat} (h : ∀ j, j < k → tstB t j = true) (hk : tstB t k = true) : ∀ j, j < k + 1 → tstB t j = true := by
  intro j hj
  rcases Nat.lt_or_ge j k with g | g
  · exact h j g
  · rw [show j = k by omega]
    exact hk
theorem and_tt {p q : Prop} [Decidable p] [Decidable q] : ((decide p && decide q) = true) ↔ p ∧ q := by simp
theorem and_ff {p q : Prop} [Decidable p] [Decidable q] : ((decide p && decide q) = false) ↔ ¬ (p ∧ q) := by simp
theorem wT {n lo hi : Int} (h : n = -1 ∨ lo ≤ n ∧ n ≤ hi) : witB n lo hi = true := witB_t.2 h
theorem wF {n lo hi : Int} (h : ¬ (n = -1 ∨ lo ≤ n ∧ n ≤ hi)) : witB n lo hi = false := witB_f.2 h
attribute [local irreducible] whN
theorem ref_WhenRight {G : Glo} (hS : GloAll G shapesTy) (t : Stm) : FnIs Tryz.prog G 64 [t.A] (.int .i64 t.e) := by
  have h1 := ref_which hS t.y t.m t.d
  have h2 := ref_which hS t.h t.i t.s
  have h3 := ref_Days (G := G) t.y t.m
  have k1 := fun n lo hi (_ : (0 : Int) ≤ 0) => ref_within (G := G) n lo hi
  have h5 := ref_ZoneRight (G := G) t.o
  have hE3 := e_3 (t := t)
  have hE2 := e_2 (t := t)
  have hE0 := e_0 (t := t)
  unfold FrmP Stm.dn Stm.tn at hE3 hE2 hE0
  have hGL : GloAll G [] := gloAll_nil
  refine fn_a Tryz.func64 Tryz.call64 rfl rfl rfl rfl ?_
  intro C hC
  refine cut hC hGL [(1, .rop t.R 0), (2, .int .i64 0)] [] True ?_ fun _ => ?_
  · exact xw0
  refine cut hC hGL [(1, .rop t.R 0), (3, .int .i64 (whN (tlB t.y) (tlB t.m) (tlB t.d))), (4, .int .i64 (whN (tlB t.h) (tlB t.i) (tlB t.s)))] [] True ?_ fun _ => ?_
  · refine xn1 ?_
    refine dw_p mixed hC hGL false (fun (_ : Unit) => [(1, .rop t.R 0), (3, .int .i64 (whN (tlB t.y) (tlB t.m) (tlB t.d))), (4, .int .i64 (whN (tlB t.h) (tlB t.i) (tlB t.s)))]) (fun _ => []) (.take 0 (.take 1 (.take 2 (.take 3 (.take 4 (.take 5 (.take 8 (.take 9 (.take 10 (.take 11 (.take 12 (.take 13 (.br 6 (.br 7 (.br 14 (.br 15 (.take 16 (.take 17 (.done))) (.nil)) (.nil)) (.br 14 (.br 7 (.br 15 (.take 16 (.take 17 (.done))) (.nil)) (.nil)) (.nil))) (.br 14 (.br 6 (.br 7 (.br 15 (.take 16 (.take 17 (.done))) (.nil)) (.nil)) (.nil)) (.nil))))))))))))))) (by kernel_rfl) ?_ ?_
    · refine xn ?_
      repeat' (first | exact Le.n | refine Lc.mk ?_ ?_)
      all_goals intros
      all_goals exact ⟨(), ⟨rfl, rfl, rfl, trivial⟩, rfl⟩
    · intro _
      exact xn0
  clear h1 h2
  generalize whN (tlB t.y) (tlB t.m) (tlB t.d) = D at *
  generalize whN (tlB t.h) (tlB t.i) (tlB t.s) = T at *
  refine cut hC hGL [(1, .rop t.R 0), (3, .int .i64 D), (4, .int .i64 T)] [] (0 ≤ D ∧ 0 ≤ T ∧ ¬ (D = 0 ∧ T = 0)) ?_ fun p1 => ?_
  · clear hE2 hE0
    refine xw ?_
    repeat' (first | exact Le.n | refine Lc.mk ?_ ?_)
    all_goals intros
    all_goals first | omega | (apply rt_is; refine congrArg (AVal.int .i64) ?_; rw [hE3 (fun k => by have := k.1; omega)])
  refine cut hC hGL [(1, .rop t.R 0), (3, .int .i64 D), (4, .int .i64 T)] [] (0 < D ∧ 0 < T → (D = 3 ∨ D = 5 ∨ D = 6) ∧ T ≤ 3) ?_ fun p2 => ?_
  · clear hE2 hE0
    refine xw ?_
    repeat' (first | exact Le.n | refine Lc.mk ?_ ?_)
    all_goals intros
    all_goals first | omega | (apply rt_is; refine congrArg (AVal.int .i64) ?_; rw [hE3 (fun k => by have := k.1.2.2.2; omega)])
  refine cut hC hGL [(1, .rop t.R 0)] [] ((t.z = true → t.h ≠ -1) ∧ (t.z = false → t.o = 0)) ?_ fun p3 => ?_
  · clear hE2 hE0 p1 p2
    refine xw ?_
    repeat' (first | exact Le.n | refine Lc.mk ?_ ?_)
    all_goals intros
    all_goals first
      | exact Bool.noConfusion ((show t.z = true by assumption).symm.trans (show t.z = false by assumption))
      | exact ⟨fun _ => by assumption, fun k => Bool.noConfusion ((show t.z = true by assumption).symm.trans k)⟩
      | exact ⟨fun k => Bool.noConfusion (k.symm.trans (show t.z = false by assumption)), fun _ => by assumption⟩
      | (apply rt_is; refine congrArg (AVal.int .i64) ?_; rw [hE3 (fun k => by have := k.2; rw [if_pos (by assumption)] at this; omega)])
      | (apply rt_is; refine congrArg (AVal.int .i64) ?_; rw [hE3 (fun k => by have := k.2; rw [if_neg (by rw [show t.z = false by assumption]; decide)] at this; omega)])
  have hF : (0 ≤ D ∧ 0 ≤ T ∧ ¬ (D = 0 ∧ T = 0) ∧ (0 < D ∧ 0 < T → (D = 3 ∨ D = 5 ∨ D = 6) ∧ T ≤ 3)) ∧ (if t.z = true then t.h ≠ -1 else t.o = 0) := by
    refine ⟨⟨p1.1, p1.2.1, p1.2.2, p2⟩, ?_⟩
    split
    · exact p3.1 (by assumption)
    · rename_i k
      exact p3.2 (by simpa using k)
  have key2 := hE2 hF
  have key0 := hE0 hF
  clear hE2 hE0 hE3 hF p1 p2 p3
  refine cut hC hGL [(1, .rop t.R 0), (5, .int .i64 31)] [] True ?_ fun _ => ?_
  · exact xw0
  refine cuty hC hGL (fun q : Int => [(1, .rop t.R 0), (5, .int .i64 q)]) (fun _ => []) (fun q => q = t.day) ?_ fun q hq => ?_
  · refine xw ?_
    repeat' (first | exact Le.n | refine Lc.mk ?_ ?_)
    all_goals intros
    all_goals first
      | exact cy _ (by unfold Stm.day; rw [if_neg (by assumption)])
      | exact cy _ (by unfold Stm.day; rw [if_pos (by assumption)])
  subst hq
  refine cut hC hGL [(1, .rop t.R 0)] [] (∀ j, j < 6 → tstB t j = true) ?_ fun hj => ?_
  · refine xw1 ?_
    refine lp hC hGL (fun (k : Nat) => [(1, .rop t.R 0), (104, _), (105, .int .i64 6), (106, .int .i64 (k : Nat))]) (fun _ => []) (fun k => k ≤ 6 ∧ ∀ j, j < k → tstB t j = true) (fun k => 6 - k) 0 ?_ env_w rfl ?_
    · exact ⟨by omega, fun j hj => absurd hj (by omega)⟩
    rintro k ⟨hk, hj⟩
    rcases (show k = 0 ∨ k = 1 ∨ k = 2 ∨ k = 3 ∨ k = 4 ∨ k = 5 ∨ k = 6 by omega) with rfl | rfl | rfl | rfl | rfl | rfl | rfl
    all_goals
      refine xw ?_
      repeat' (first | exact Le.n | refine Lc.mk ?_ ?_)
      all_goals intros
      all_goals try simp only [and_tt, and_ff] at *
      all_goals first
        | exact hj _ (by assumption)
        | exact nxs 1 ⟨by decide, tst_succ hj (wT (by omega))⟩ (by decide) env_w sub_w
        | exact nxs 2 ⟨by decide, tst_succ hj (wT (by omega))⟩ (by decide) env_w sub_w
        | exact nxs 3 ⟨by decide, tst_succ hj (wT (by omega))⟩ (by decide) env_w sub_w
        | exact nxs 4 ⟨by decide, tst_succ hj (wT (by omega))⟩ (by decide) env_w sub_w
        | exact nxs 5 ⟨by decide, tst_succ hj (wT (by omega))⟩ (by decide) env_w sub_w
        | exact nxs 6 ⟨by decide, tst_succ hj (wT (by omega))⟩ (by decide) env_w sub_w
        | (apply rt_is; refine congrArg (AVal.int .i64) ?_; first
          | rw [key2 (rng_no 0 (wF (by omega)))]
          | rw [key2 (rng_no 1 (wF (by omega)))]
          | rw [key2 (rng_no 2 (wF (by omega)))]
          | rw [key2 (rng_no 3 (wF (by omega)))]
          | rw [key2 (rng_no 4 (wF (by omega)))]
          | rw [key2 (rng_no 5 (wF (by omega)))])
  refine aw_code hC hGL ?_
  refine xw ?_
  repeat' (first | exact Le.n | refine Lc.mk ?_ ?_)
  all_goals intros
  all_goals (apply rt_is; refine congrArg (AVal.int .i64) ?_; first | rw [key0 (rng_of hj (by assumption))] | rw [key2 (rng_z (by assumption))])
end Go.Proofs.YtidcpikoeohfbaaGreatDoor
namespace Go.Proofs.YtidcpikoeohfbaaGreatDoor
open Go Go.RowKit
def tolB (i k : Nat) : Bool := ([[false, false, false], [true, false, false], [true, true, false], [true, true, true], [false, true, false], [false, true, true], [false, false, true]].getD i []).getD k false
def digS (s : List UInt8) (a b : Nat) : Prop := ∀ j, a ≤ j → j < b → 48 ≤ byteAt s j ∧ byteAt s j ≤ 57
theorem list4 {α : Type} {l : List α} (h : l.length = 4) : ∃ a b c d, l = [a, b, c, d] := by
  match l, h with
  | [a, b, c, d], _ => exact ⟨a, b, c, d, rfl⟩
theorem atoi4 {s : List UInt8} (hl : s.length = 4) (hd : digS s 0 4) : Lib.atoiAll s = .ok (four4 s 0) := by
  obtain ⟨a, b, c, d, rfl⟩ := list4 hl
  have ha : 48 ≤ a.toNat ∧ a.toNat ≤ 57 := hd 0 (by omega) (by omega)
  have hb : 48 ≤ b.toNat ∧ b.toNat ≤ 57 := hd 1 (by omega) (by omega)
  have hc : 48 ≤ c.toNat ∧ c.toNat ≤ 57 := hd 2 (by omega) (by omega)
  have hdd : 48 ≤ d.toNat ∧ d.toNat ≤ 57 := hd 3 (by omega) (by omega)
  have e : four4 [a, b, c, d] 0 = 10 * (10 * (10 * ((a.toNat : Int) - 48) + ((b.toNat : Int) - 48)) + ((c.toNat : Int) - 48)) + ((d.toNat : Int) - 48) := rfl
  have p : Lib.parseUint10 0 [a, b, c, d] = .ok ((((0 * 10 + (a.toNat - 48)) * 10 + (b.toNat - 48)) * 10 + (c.toNat - 48)) * 10 + (d.toNat - 48)) := by
    rw [Lib.parseUint10, if_pos ha, if_neg (by omega), if_neg (by omega), Lib.parseUint10, if_pos hb, if_neg (by omega), if_neg (by omega), Lib.parseUint10, if_pos hc, if_neg (by omega), if_neg (by omega), Lib.parseUint10, if_pos hdd, if_neg (by omega), if_neg (by omega), Lib.parseUint10]
  unfold Lib.atoiAll
  dsimp only
  rw [if_neg (by omega)]
  unfold Lib.parseMag
  rw [if_neg (by simp), p]
  dsimp only
  rw [if_neg (by omega), if_neg (by omega), if_neg (by omega), e]
  congr 1
  omega
theorem atoi_four {G : Glo} (s : List UInt8) (hl : s.length = 4) (hd : digS s 0 4) : FnIs Tryz.prog G 40 [.str s] (.tuple [.int .i64 (four4 s 0), .raw .nilIface]) := by
  have ha := atoi4 hl hd
  refine fnis_of_calls_v (.tuple #[.int .i64 (four4 s 0), .nilIface]) (fun R => rel_tup2 (rel_int.2 rfl) (rel_raw.2 rfl)) Tryz.call40 ?_
  intro R args hr w _ _
  obtain ⟨x, t, e', hx, rfl⟩ := hr
  obtain rfl := rel_str.1 hx
  obtain rfl := arr_of e'
  refine (Tryz.strconv_Atoi_ok ⟨s.toArray⟩ (by rw [str_size]; omega) _ (by simpa using ha) w).mono ?_
  rintro e w' ⟨rfl, hw⟩
  refine ⟨rfl, ?_⟩
  rcases hw with rfl | ⟨t, rfl⟩
  · exact Below.refl _ _
  · exact ⟨rfl, rfl, rfl, by rw [Lib.bytesWorld_size]; omega, fun k hk => Lib.bytesWorld_at_old _ _ _ _ hk⟩
abbrev bxS (b : Nat) (t : List UInt8) : HEnt := .cells b (some 9) [.str t]
theorem cont_told {G : Glo} {m : Int} (hM : GloAll G (maxTy m)) (i k : Nat) (hi : i ≤ 6) (hk : k < 3) : FnIs Tryz.prog G 63 [.str (toldF i), .str (([97, 98, 99].take (k + 1)).drop k)] (.bool (tolB i k)) := by
  have := strings_contains (G := G) hM (toldF i) (([97, 98, 99].take (k + 1)).drop k)
  rcases (show k = 0 ∨ k = 1 ∨ k = 2 by omega) with rfl | rfl | rfl <;> rcases (show i = 0 ∨ i = 1 ∨ i = 2 ∨ i = 3 ∨ i = 4 ∨ i = 5 ∨ i = 6 by omega) with rfl | rfl | rfl | rfl | rfl | rfl | rfl <;> exact this (by decide)
def sY (i : Nat) (s : List UInt8) : Int := if i = 1 ∨ i = 2 ∨ i = 3 then four4 s 0 else -1
def sM (i : Nat) (s : List UInt8) : Int := if i = 2 ∨ i = 3 then two2 s 4 else if i = 4 ∨ i = 5 then two2 s 0 else -1
def sD (i : Nat) (s : List UInt8) : Int := if i = 3 then two2 s 6 else if i = 5 then two2 s 2 else if i = 6 then two2 s 0 else -1
def sH (i : Nat) (s : List UInt8) : Int := if i = 1 ∨ i = 2 ∨ i = 3 then two2 s 0 else -1
def sI (i : Nat) (s : List UInt8) : Int := if i = 2 ∨ i = 3 then two2 s 2 else if i = 4 ∨ i = 5 then two2 s 0 else -1
def sS (i : Nat) (s : List UInt8) : Int := if i = 3 then two2 s 4 else if i = 5 then two2 s 2 else if i = 6 then two2 s 0 else -1
/-- How many digits a form has. -/
def dN (i : Nat) : Nat := [0, 4, 6, 8, 2, 4, 2].getD i 0
def cN (i : Nat) : Nat := [0, 2, 4, 6, 2, 4, 2].getD i 0
def stP (i j : Nat) (d c z : List UInt8) : Stm × Int :=
  if z ≠ [] ∧ (zoneV z).2 ≠ 0 then (Stm.no, (zoneV z).2)
  else if (⟨sY i d, sM i d, sD i d, sH j c, sI j c, sS j c, decide (z ≠ []), if z = [] then 0 else (zoneV z).1⟩ : Stm).e = 0 then (⟨sY i d, sM i d, sD i d, sH j c, sI j c, sS j c, decide (z ≠ []), if z = [] then 0 else (zoneV z).1⟩, 0)
  else (Stm.no, (⟨sY i d, sM i d, sD i d, sH j c, sI j c, sS j c, decide (z ≠ []), if z = [] then 0 else (zoneV z).1⟩ : Stm).e)
theorem two2_drop {s : List UInt8} {a b : Nat} : two2 (s.drop a) b = two2 s (a + b) := by
  unfold two2 digN
  rw [drop_at, drop_at, Nat.add_assoc]
set_option maxRecDepth 20000
set_option maxHeartbeats 4000000
set_option linter.unusedSimpArgs false
set_option linter.unusedVariables false
attribute [local irreducible] AWp AOps byteAt SrcOK OrOk GloAll FnSpec
attribute [local irreducible] Lib.contains
theorem st_four {G : Glo} (b : Nat) (t : List UInt8) (h4 : 4 ≤ t.length) (hl : t.length ≤ 1000000) (hd : digS t 0 4) : FnSpec Tryz.prog G 62 [.raw (pS b), .int .i64 4] [bxS b t] (fun r H => r = .ret (.int .i64 (four4 t 0)) ∧ H = [bxS b (t.drop 4)]) := by
  have k0 : FnIs Tryz.prog G 40 [.str (t.take 4)] (.tuple [.int .i64 (four4 t 0), .raw .nilIface]) := by
    have := atoi_four (G := G) (t.take 4) (by rw [List.length_take]; omega) (fun j h1 h2 => by rw [take_at h2]; exact hd j h1 h2)
    have e : four4 (t.take 4) 0 = four4 t 0 := by unfold four4 digN; rw [take_at (by omega), take_at (by omega), take_at (by omega), take_at (by omega)]
    rwa [e] at this
  have hGL : GloAll G [] := gloAll_nil
  refine fn_own [(0, 0, pS b)] Tryz.func62 Tryz.call62 rfl rfl rfl rfl (by repeat (first | exact trivial | refine And.intro ⟨rfl, rfl⟩ ?_)) ?_
  intro C hC
  exact aw_code hC hGL xw0
theorem st_two {G : Glo} (b : Nat) (t : List UInt8) (h4 : 2 ≤ t.length) (hl : t.length ≤ 1000000) (hd : digS t 0 2) : FnSpec Tryz.prog G 62 [.raw (pS b), .int .i64 2] [bxS b t] (fun r H => r = .ret (.int .i64 (two2 t 0)) ∧ H = [bxS b (t.drop 2)]) := by
  have k0 : FnIs Tryz.prog G 40 [.str (t.take 2)] (.tuple [.int .i64 (two2 t 0), .raw .nilIface]) := by
    have := atoi_two (G := G) (t.take 2) (by rw [List.length_take]; omega) (by rw [take_at (by omega)]; exact hd 0 (by omega) (by omega)) (by rw [take_at (by omega)]; exact hd 1 (by omega) (by omega))
    have e : 10 * digN (t.take 2) 0 + digN (t.take 2) 1 = two2 t 0 := by unfold two2 digN; rw [take_at (by omega), take_at (by omega)]
    rwa [e] at this
  have hGL : GloAll G [] := gloAll_nil
  refine fn_own [(0, 0, pS b)] Tryz.func62 Tryz.call62 rfl rfl rfl rfl (by repeat (first | exact trivial | refine And.intro ⟨rfl, rfl⟩ ?_)) ?_
  intro C hC
  exact aw_code hC hGL xw0
end Go.Proofs.YtidcpikoeohfbaaGreatDoor
namespace Go.Proofs.YtidcpikoeohfbaaGreatDoor
open Go Go.RowKit
set_option maxRecDepth 20000
set_option maxHeartbeats 4000000
set_option linter.unusedSimpArgs false
set_option linter.unusedVariables false
attribute [local irreducible] AWp AOps byteAt SrcOK OrOk GloAll FnSpec
attribute [local irreducible] Lib.contains zoneV zoneX
theorem ref_stamped {G : Glo} {m : Int} (hM : GloAll G (maxTy m)) (hS : GloAll G shapesTy) (i j : Nat) (hi : i ≤ 6) (hj : j ≤ 6) (d c z : List UInt8) (hd : d.length = dN i) (hdd : digS d 0 (dN i)) (hc : c.length = cN j) (hcc : digS c 0 (cN j)) (hz : z.length ≤ 1000000) :
    FnIs Tryz.prog G 37 [.str (toldF i), .str (toldF j), .str d, .str c, .str z] (.tuple [(stP i j d c z).1.A, .int .i64 (stP i j d c z).2]) := by
  have c0 := cont_told (G := G) hM i 0 hi (by decide)
  have c1 := cont_told (G := G) hM i 1 hi (by decide)
  have c2 := cont_told (G := G) hM i 2 hi (by decide)
  have e0 := cont_told (G := G) hM j 0 hj (by decide)
  have e1 := cont_told (G := G) hM j 1 hj (by decide)
  have e2 := cont_told (G := G) hM j 2 hj (by decide)
  have hR := fun u => ref_WhenRight (G := G) hS u
  have hZ := ref_ZoneParse (G := G) z (by omega)
  have hGL : GloAll G [] := gloAll_nil
  refine fn_a Tryz.func37 Tryz.call37 rfl rfl rfl rfl ?_
  intro C hC
  refine cuty hC hGL (fun x : Nat × Nat × Nat => [(0, .str (toldF i)), (1, .str (toldF j)), (4, .str z), (7, .own 0 (pS x.1)), (8, .own 1 (pS x.2.1)), (10, .own 2 (pS x.2.2))]) (fun x => [bxS x.1 d, bxS x.2.1 c, stC x.2.2 0 0 0 0 0 0 false 0]) (fun _ => True) ?_ fun x _ => ?_
  · refine xb1 ?_
    intro b7 b8 b10
    exact cy (b7, b8, b10) trivial
  obtain ⟨b7, b8, b10⟩ := x
  dsimp only
  refine cuty hC hGL (fun b12 : Nat => [(0, .str (toldF i)), (1, .str (toldF j)), (4, .str z), (7, .own 0 (pS b7)), (8, .own 1 (pS b8)), (10, .own 2 (pS b10)), (12, .own 3 (pS b12))]) (fun b12 => [bxS b7 d, bxS b8 c, stC b10 0 0 0 0 0 0 false 0, stC b12 (-1) (-1) (-1) (-1) (-1) (-1) false 0]) (fun _ => True) ?_ fun b12 _ => ?_
  · refine xn1 ?_
    intro b12
    exact cy b12 trivial
  refine cut hC hGL [(0, .str (toldF i)), (1, .str (toldF j)), (4, .str z), (7, .own 0 (pS b7)), (8, .own 1 (pS b8)), (10, .own 2 (pS b10)), (12, .own 3 (pS b12)), (13, .func (.func 62) [] [])] [bxS b7 d, bxS b8 c, stC b10 0 0 0 0 0 0 false 0, stC b12 (-1) (-1) (-1) (-1) (-1) (-1) false 0] True xn0 fun _ => ?_
  refine cuty hC hGL (fun _ : List UInt8 => [(1, .str (toldF j)), (4, .str z), (8, .own 1 (pS b8)), (10, .own 2 (pS b10)), (12, .own 3 (pS b12)), (13, .func (.func 62) [] [])]) (fun x => [bxS b7 x, bxS b8 c, stC b10 0 0 0 0 0 0 false 0, stC b12 (sY i d) (sM i d) (sD i d) (-1) (-1) (-1) false 0]) (fun _ => True) ?_ fun d' _ => ?_
  · refine xn1 ?_
    refine rds hC hGL 4 ?_
    rcases (show i = 0 ∨ i = 1 ∨ i = 2 ∨ i = 3 ∨ i = 4 ∨ i = 5 ∨ i = 6 by omega) with rfl | rfl | rfl | rfl | rfl | rfl | rfl
    · have hd : d.length = 0 := hd
      have hdd : digS d 0 0 := hdd
      refine xn1 ?_
      intros
      exact cy (d) trivial
    · have hd : d.length = 4 := hd
      have hdd : digS d 0 4 := hdd
      have f0 := st_four (G := G) b7 d (by omega) (by omega) (fun j g1 g2 => hdd j g1 (by omega))
      refine xn1 ?_
      intros
      exact cy (d.drop 4) trivial
    · have hd : d.length = 6 := hd
      have hdd : digS d 0 6 := hdd
      have f0 := st_four (G := G) b7 d (by omega) (by omega) (fun j g1 g2 => hdd j g1 (by omega))
      have f1 := st_two (G := G) b7 (d.drop 4) (by simp only [List.length_drop]; omega) (by simp only [List.length_drop]; omega) (fun j g1 g2 => by rw [drop_at]; exact hdd _ (by omega) (by omega))
      rw [show two2 (d.drop 4) 0 = two2 d 4 by rw [two2_drop]] at f1
      refine xn1 ?_
      intros
      exact cy ((d.drop 4).drop 2) trivial
    · have hd : d.length = 8 := hd
      have hdd : digS d 0 8 := hdd
      have f0 := st_four (G := G) b7 d (by omega) (by omega) (fun j g1 g2 => hdd j g1 (by omega))
      have f1 := st_two (G := G) b7 (d.drop 4) (by simp only [List.length_drop]; omega) (by simp only [List.length_drop]; omega) (fun j g1 g2 => by rw [drop_at]; exact hdd _ (by omega) (by omega))
      rw [show two2 (d.drop 4) 0 = two2 d 4 by rw [two2_drop]] at f1
      have f2 := st_two (G := G) b7 ((d.drop 4).drop 2) (by simp only [List.length_drop]; omega) (by simp only [List.length_drop]; omega) (fun j g1 g2 => by rw [drop_at, drop_at]; exact hdd _ (by omega) (by omega))
      rw [show two2 ((d.drop 4).drop 2) 0 = two2 d 6 by rw [two2_drop, two2_drop]] at f2
      refine xn1 ?_
      intros
      exact cy (((d.drop 4).drop 2).drop 2) trivial
    · have hd : d.length = 2 := hd
      have hdd : digS d 0 2 := hdd
      have f0 := st_two (G := G) b7 d (by omega) (by omega) (fun j g1 g2 => hdd j g1 (by omega))
      refine xn1 ?_
      intros
      exact cy (d.drop 2) trivial
    · have hd : d.length = 4 := hd
      have hdd : digS d 0 4 := hdd
      have f0 := st_two (G := G) b7 d (by omega) (by omega) (fun j g1 g2 => hdd j g1 (by omega))
      have f1 := st_two (G := G) b7 (d.drop 2) (by simp only [List.length_drop]; omega) (by simp only [List.length_drop]; omega) (fun j g1 g2 => by rw [drop_at]; exact hdd _ (by omega) (by omega))
      rw [show two2 (d.drop 2) 0 = two2 d 2 by rw [two2_drop]] at f1
      refine xn1 ?_
      intros
      exact cy ((d.drop 2).drop 2) trivial
    · have hd : d.length = 2 := hd
      have hdd : digS d 0 2 := hdd
      have f0 := st_two (G := G) b7 d (by omega) (by omega) (fun j g1 g2 => hdd j g1 (by omega))
      refine xn1 ?_
      intros
      exact cy (d.drop 2) trivial
  refine cuty hC hGL (fun _ : List UInt8 => [(4, .str z), (10, .own 2 (pS b10)), (12, .own 3 (pS b12))]) (fun x => [bxS b7 d', bxS b8 x, stC b10 0 0 0 0 0 0 false 0, stC b12 (sY i d) (sM i d) (sD i d) (sH j c) (sI j c) (sS j c) false 0]) (fun _ => True) ?_ fun c' _ => ?_
  · generalize sY i d = y0
    generalize sM i d = m0
    generalize sD i d = d0
    refine xn1 ?_
    refine rds hC hGL 4 ?_
    rcases (show j = 0 ∨ j = 1 ∨ j = 2 ∨ j = 3 ∨ j = 4 ∨ j = 5 ∨ j = 6 by omega) with rfl | rfl | rfl | rfl | rfl | rfl | rfl
    · have hc : c.length = 0 := hc
      have hcc : digS c 0 0 := hcc
      refine xn1 ?_
      intros
      exact cy (c) trivial
    · have hc : c.length = 2 := hc
      have hcc : digS c 0 2 := hcc
      have f0 := st_two (G := G) b8 c (by omega) (by omega) (fun j g1 g2 => hcc j g1 (by omega))
      refine xn1 ?_
      intros
      exact cy (c.drop 2) trivial
    · have hc : c.length = 4 := hc
      have hcc : digS c 0 4 := hcc
      have f0 := st_two (G := G) b8 c (by omega) (by omega) (fun j g1 g2 => hcc j g1 (by omega))
      have f1 := st_two (G := G) b8 (c.drop 2) (by simp only [List.length_drop]; omega) (by simp only [List.length_drop]; omega) (fun j g1 g2 => by rw [drop_at]; exact hcc _ (by omega) (by omega))
      rw [show two2 (c.drop 2) 0 = two2 c 2 by rw [two2_drop]] at f1
      refine xn1 ?_
      intros
      exact cy ((c.drop 2).drop 2) trivial
    · have hc : c.length = 6 := hc
      have hcc : digS c 0 6 := hcc
      have f0 := st_two (G := G) b8 c (by omega) (by omega) (fun j g1 g2 => hcc j g1 (by omega))
      have f1 := st_two (G := G) b8 (c.drop 2) (by simp only [List.length_drop]; omega) (by simp only [List.length_drop]; omega) (fun j g1 g2 => by rw [drop_at]; exact hcc _ (by omega) (by omega))
      rw [show two2 (c.drop 2) 0 = two2 c 2 by rw [two2_drop]] at f1
      have f2 := st_two (G := G) b8 ((c.drop 2).drop 2) (by simp only [List.length_drop]; omega) (by simp only [List.length_drop]; omega) (fun j g1 g2 => by rw [drop_at, drop_at]; exact hcc _ (by omega) (by omega))
      rw [show two2 ((c.drop 2).drop 2) 0 = two2 c 4 by rw [two2_drop, two2_drop]] at f2
      refine xn1 ?_
      intros
      exact cy (((c.drop 2).drop 2).drop 2) trivial
    · have hc : c.length = 2 := hc
      have hcc : digS c 0 2 := hcc
      have f0 := st_two (G := G) b8 c (by omega) (by omega) (fun j g1 g2 => hcc j g1 (by omega))
      refine xn1 ?_
      intros
      exact cy (c.drop 2) trivial
    · have hc : c.length = 4 := hc
      have hcc : digS c 0 4 := hcc
      have f0 := st_two (G := G) b8 c (by omega) (by omega) (fun j g1 g2 => hcc j g1 (by omega))
      have f1 := st_two (G := G) b8 (c.drop 2) (by simp only [List.length_drop]; omega) (by simp only [List.length_drop]; omega) (fun j g1 g2 => by rw [drop_at]; exact hcc _ (by omega) (by omega))
      rw [show two2 (c.drop 2) 0 = two2 c 2 by rw [two2_drop]] at f1
      refine xn1 ?_
      intros
      exact cy ((c.drop 2).drop 2) trivial
    · have hc : c.length = 2 := hc
      have hcc : digS c 0 2 := hcc
      have f0 := st_two (G := G) b8 c (by omega) (by omega) (fun j g1 g2 => hcc j g1 (by omega))
      refine xn1 ?_
      intros
      exact cy (c.drop 2) trivial
  unfold stP
  generalize sY i d = y0
  generalize sM i d = m0
  generalize sD i d = d0
  generalize sH j c = h0
  generalize sI j c = i0
  generalize sS j c = s0
  by_cases hz0 : z = []
  · subst hz0
    have hR0 : FnIs Tryz.prog G 64 [.agg [.int .i64 y0, .int .i64 m0, .int .i64 d0, .int .i64 h0, .int .i64 i0, .int .i64 s0, .bool false, .int .i64 0]] (.int .i64 (⟨y0, m0, d0, h0, i0, s0, false, 0⟩ : Stm).e) := hR ⟨y0, m0, d0, h0, i0, s0, false, 0⟩
    rw [if_neg (by simp)]
    simp only [if_true, show decide (([] : List UInt8) ≠ []) = false from rfl]
    generalize (⟨y0, m0, d0, h0, i0, s0, false, 0⟩ : Stm).e = e at *
    by_cases he : e = 0
    · rw [if_pos he]
      exact aw_code hC hGL xw0
    · rw [if_neg he]
      exact aw_code hC hGL xw0
  · have hlz : z.length ≠ 0 := fun h => hz0 (List.eq_nil_of_length_eq_zero h)
    have hR0 : FnIs Tryz.prog G 64 [.agg [.int .i64 y0, .int .i64 m0, .int .i64 d0, .int .i64 h0, .int .i64 i0, .int .i64 s0, .bool true, .int .i64 (zoneV z).1]] (.int .i64 (⟨y0, m0, d0, h0, i0, s0, true, (zoneV z).1⟩ : Stm).e) := hR ⟨y0, m0, d0, h0, i0, s0, true, (zoneV z).1⟩
    simp only [if_neg hz0, decide_eq_true hz0]
    by_cases hv : (zoneV z).2 = 0
    · rw [if_neg (fun h => h.2 hv)]
      generalize (⟨y0, m0, d0, h0, i0, s0, true, (zoneV z).1⟩ : Stm).e = e at *
      by_cases he : e = 0
      · rw [if_pos he]
        exact aw_code hC hGL xw0
      · rw [if_neg he]
        exact aw_code hC hGL xw0
    · rw [if_pos ⟨hz0, hv⟩]
      exact aw_code hC hGL xw0
end Go.Proofs.YtidcpikoeohfbaaGreatDoor
namespace Go.Proofs.YtidcpikoeohfbaaGreatDoor
open Go
theorem idx_three {a b c : UInt8} (r : Int) : (0 ≤ idxB [a, b, c] r ↔ ∃ x ∈ [a, b, c], r = x.toNat) := by
  unfold idxB
  simp only [idxF, List.mem_cons, List.not_mem_nil, or_false, exists_eq_or_imp, exists_eq_left]
  split
  · omega
  · split
    · omega
    · split <;> omega
end Go.Proofs.YtidcpikoeohfbaaGreatDoor
namespace Go.Proofs.YtidcpikoeohfbaaGreatDoor
open Go Go.RowKit
theorem dgb {a : UInt8} (h : 48 ≤ a.toNat ∧ a.toNat ≤ 57) : (a != 45) = true := by
  rw [bne_iff_ne]
  rintro rfl
  exact absurd h (by decide)
theorem dsb {a : UInt8} (h : a.toNat = 45) : (a != 45) = false := by
  obtain rfl : a = 45 := UInt8.toNat_inj.1 h
  rfl
theorem dash_at {s u : List UInt8} {i : Nat} (h : shpS s = u) (hi : i < u.length) (h45 : byteAt u i = 45) : byteAt s i = 45 := (nine_id (by omega)).1 (((shp_pt h).2 i hi).trans h45)
theorem und_date0 {s : List UInt8} (h : shpS s = dateF 0) : (outB 45 s).length = 0 ∧ digS (outB 45 s) 0 0 ∧ sY 0 (outB 45 s) = dY 0 s ∧ sM 0 (outB 45 s) = dM 0 s ∧ sD 0 (outB 45 s) = dD 0 s := by
  obtain rfl : s = [] := List.eq_nil_of_length_eq_zero (shp_pt h).1
  exact ⟨rfl, fun j _ h => absurd h (Nat.not_lt_zero _), rfl, rfl, rfl⟩
theorem und_date1 {s : List UInt8} (h : shpS s = dateF 1) : (outB 45 s).length = 4 ∧ digS (outB 45 s) 0 4 ∧ sY 1 (outB 45 s) = dY 1 s ∧ sM 1 (outB 45 s) = dM 1 s ∧ sD 1 (outB 45 s) = dD 1 s := by
  have hl : s.length = 4 := (shp_pt h).1
  have f0 := dig_at h (i := 0) (by decide) (by decide)
  have f1 := dig_at h (i := 1) (by decide) (by decide)
  have f2 := dig_at h (i := 2) (by decide) (by decide)
  have f3 := dig_at h (i := 3) (by decide) (by decide)
  match s, hl with
  | [a, b, c, d], _ =>
    have f0 : 48 ≤ a.toNat ∧ a.toNat ≤ 57 := f0
    have f1 : 48 ≤ b.toNat ∧ b.toNat ≤ 57 := f1
    have f2 : 48 ≤ c.toNat ∧ c.toNat ≤ 57 := f2
    have f3 : 48 ≤ d.toNat ∧ d.toNat ≤ 57 := f3
    have e : outB 45 [a, b, c, d] = [a, b, c, d] := by simp only [outB, List.filter, dgb f0, dgb f1, dgb f2, dgb f3]
    rw [e]
    refine ⟨rfl, fun j _ hj => ?_, rfl, rfl, rfl⟩
    rcases (show j = 0 ∨ j = 1 ∨ j = 2 ∨ j = 3 by omega) with rfl | rfl | rfl | rfl
    · exact f0
    · exact f1
    · exact f2
    · exact f3
theorem und_date2 {s : List UInt8} (h : shpS s = dateF 2) : (outB 45 s).length = 6 ∧ digS (outB 45 s) 0 6 ∧ sY 2 (outB 45 s) = dY 2 s ∧ sM 2 (outB 45 s) = dM 2 s ∧ sD 2 (outB 45 s) = dD 2 s := by
  have hl : s.length = 7 := (shp_pt h).1
  have f0 := dig_at h (i := 0) (by decide) (by decide)
  have f1 := dig_at h (i := 1) (by decide) (by decide)
  have f2 := dig_at h (i := 2) (by decide) (by decide)
  have f3 := dig_at h (i := 3) (by decide) (by decide)
  have f4 := dash_at h (i := 4) (by decide) (by decide)
  have f5 := dig_at h (i := 5) (by decide) (by decide)
  have f6 := dig_at h (i := 6) (by decide) (by decide)
  match s, hl with
  | [a, b, c, d, e, f, g], _ =>
    have f0 : 48 ≤ a.toNat ∧ a.toNat ≤ 57 := f0
    have f1 : 48 ≤ b.toNat ∧ b.toNat ≤ 57 := f1
    have f2 : 48 ≤ c.toNat ∧ c.toNat ≤ 57 := f2
    have f3 : 48 ≤ d.toNat ∧ d.toNat ≤ 57 := f3
    have f4 : e.toNat = 45 := f4
    have f5 : 48 ≤ f.toNat ∧ f.toNat ≤ 57 := f5
    have f6 : 48 ≤ g.toNat ∧ g.toNat ≤ 57 := f6
    have e : outB 45 [a, b, c, d, e, f, g] = [a, b, c, d, f, g] := by simp only [outB, List.filter, dgb f0, dgb f1, dgb f2, dgb f3, dsb f4, dgb f5, dgb f6]
    rw [e]
    refine ⟨rfl, fun j _ hj => ?_, rfl, rfl, rfl⟩
    rcases (show j = 0 ∨ j = 1 ∨ j = 2 ∨ j = 3 ∨ j = 4 ∨ j = 5 by omega) with rfl | rfl | rfl | rfl | rfl | rfl
    · exact f0
    · exact f1
    · exact f2
    · exact f3
    · exact f5
    · exact f6
theorem und_date3 {s : List UInt8} (h : shpS s = dateF 3) : (outB 45 s).length = 8 ∧ digS (outB 45 s) 0 8 ∧ sY 3 (outB 45 s) = dY 3 s ∧ sM 3 (outB 45 s) = dM 3 s ∧ sD 3 (outB 45 s) = dD 3 s := by
  have hl : s.length = 8 := (shp_pt h).1
  have f0 := dig_at h (i := 0) (by decide) (by decide)
  have f1 := dig_at h (i := 1) (by decide) (by decide)
  have f2 := dig_at h (i := 2) (by decide) (by decide)
  have f3 := dig_at h (i := 3) (by decide) (by decide)
  have f4 := dig_at h (i := 4) (by decide) (by decide)
  have f5 := dig_at h (i := 5) (by decide) (by decide)
  have f6 := dig_at h (i := 6) (by decide) (by decide)
  have f7 := dig_at h (i := 7) (by decide) (by decide)
  match s, hl with
  | [a, b, c, d, e, f, g, h], _ =>
    have f0 : 48 ≤ a.toNat ∧ a.toNat ≤ 57 := f0
    have f1 : 48 ≤ b.toNat ∧ b.toNat ≤ 57 := f1
    have f2 : 48 ≤ c.toNat ∧ c.toNat ≤ 57 := f2
    have f3 : 48 ≤ d.toNat ∧ d.toNat ≤ 57 := f3
    have f4 : 48 ≤ e.toNat ∧ e.toNat ≤ 57 := f4
    have f5 : 48 ≤ f.toNat ∧ f.toNat ≤ 57 := f5
    have f6 : 48 ≤ g.toNat ∧ g.toNat ≤ 57 := f6
    have f7 : 48 ≤ h.toNat ∧ h.toNat ≤ 57 := f7
    have e : outB 45 [a, b, c, d, e, f, g, h] = [a, b, c, d, e, f, g, h] := by simp only [outB, List.filter, dgb f0, dgb f1, dgb f2, dgb f3, dgb f4, dgb f5, dgb f6, dgb f7]
    rw [e]
    refine ⟨rfl, fun j _ hj => ?_, rfl, rfl, rfl⟩
    rcases (show j = 0 ∨ j = 1 ∨ j = 2 ∨ j = 3 ∨ j = 4 ∨ j = 5 ∨ j = 6 ∨ j = 7 by omega) with rfl | rfl | rfl | rfl | rfl | rfl | rfl | rfl
    · exact f0
    · exact f1
    · exact f2
    · exact f3
    · exact f4
    · exact f5
    · exact f6
    · exact f7
theorem und_date4 {s : List UInt8} (h : shpS s = dateF 4) : (outB 45 s).length = 2 ∧ digS (outB 45 s) 0 2 ∧ sY 4 (outB 45 s) = dY 4 s ∧ sM 4 (outB 45 s) = dM 4 s ∧ sD 4 (outB 45 s) = dD 4 s := by
  have hl : s.length = 4 := (shp_pt h).1
  have f0 := dash_at h (i := 0) (by decide) (by decide)
  have f1 := dash_at h (i := 1) (by decide) (by decide)
  have f2 := dig_at h (i := 2) (by decide) (by decide)
  have f3 := dig_at h (i := 3) (by decide) (by decide)
  match s, hl with
  | [a, b, c, d], _ =>
    have f0 : a.toNat = 45 := f0
    have f1 : b.toNat = 45 := f1
    have f2 : 48 ≤ c.toNat ∧ c.toNat ≤ 57 := f2
    have f3 : 48 ≤ d.toNat ∧ d.toNat ≤ 57 := f3
    have e : outB 45 [a, b, c, d] = [c, d] := by simp only [outB, List.filter, dsb f0, dsb f1, dgb f2, dgb f3]
    rw [e]
    refine ⟨rfl, fun j _ hj => ?_, rfl, rfl, rfl⟩
    rcases (show j = 0 ∨ j = 1 by omega) with rfl | rfl
    · exact f2
    · exact f3
theorem und_date5 {s : List UInt8} (h : shpS s = dateF 5) : (outB 45 s).length = 4 ∧ digS (outB 45 s) 0 4 ∧ sY 5 (outB 45 s) = dY 5 s ∧ sM 5 (outB 45 s) = dM 5 s ∧ sD 5 (outB 45 s) = dD 5 s := by
  have hl : s.length = 6 := (shp_pt h).1
  have f0 := dash_at h (i := 0) (by decide) (by decide)
  have f1 := dash_at h (i := 1) (by decide) (by decide)
  have f2 := dig_at h (i := 2) (by decide) (by decide)
  have f3 := dig_at h (i := 3) (by decide) (by decide)
  have f4 := dig_at h (i := 4) (by decide) (by decide)
  have f5 := dig_at h (i := 5) (by decide) (by decide)
  match s, hl with
  | [a, b, c, d, e, f], _ =>
    have f0 : a.toNat = 45 := f0
    have f1 : b.toNat = 45 := f1
    have f2 : 48 ≤ c.toNat ∧ c.toNat ≤ 57 := f2
    have f3 : 48 ≤ d.toNat ∧ d.toNat ≤ 57 := f3
    have f4 : 48 ≤ e.toNat ∧ e.toNat ≤ 57 := f4
    have f5 : 48 ≤ f.toNat ∧ f.toNat ≤ 57 := f5
    have e : outB 45 [a, b, c, d, e, f] = [c, d, e, f] := by simp only [outB, List.filter, dsb f0, dsb f1, dgb f2, dgb f3, dgb f4, dgb f5]
    rw [e]
    refine ⟨rfl, fun j _ hj => ?_, rfl, rfl, rfl⟩
    rcases (show j = 0 ∨ j = 1 ∨ j = 2 ∨ j = 3 by omega) with rfl | rfl | rfl | rfl
    · exact f2
    · exact f3
    · exact f4
    · exact f5
theorem und_date6 {s : List UInt8} (h : shpS s = dateF 6) : (outB 45 s).length = 2 ∧ digS (outB 45 s) 0 2 ∧ sY 6 (outB 45 s) = dY 6 s ∧ sM 6 (outB 45 s) = dM 6 s ∧ sD 6 (outB 45 s) = dD 6 s := by
  have hl : s.length = 5 := (shp_pt h).1
  have f0 := dash_at h (i := 0) (by decide) (by decide)
  have f1 := dash_at h (i := 1) (by decide) (by decide)
  have f2 := dash_at h (i := 2) (by decide) (by decide)
  have f3 := dig_at h (i := 3) (by decide) (by decide)
  have f4 := dig_at h (i := 4) (by decide) (by decide)
  match s, hl with
  | [a, b, c, d, e], _ =>
    have f0 : a.toNat = 45 := f0
    have f1 : b.toNat = 45 := f1
    have f2 : c.toNat = 45 := f2
    have f3 : 48 ≤ d.toNat ∧ d.toNat ≤ 57 := f3
    have f4 : 48 ≤ e.toNat ∧ e.toNat ≤ 57 := f4
    have e : outB 45 [a, b, c, d, e] = [d, e] := by simp only [outB, List.filter, dsb f0, dsb f1, dsb f2, dgb f3, dgb f4]
    rw [e]
    refine ⟨rfl, fun j _ hj => ?_, rfl, rfl, rfl⟩
    rcases (show j = 0 ∨ j = 1 by omega) with rfl | rfl
    · exact f3
    · exact f4
theorem und_date {s : List UInt8} {i : Nat} (hi : i ≤ 6) (h : shpS s = dateF i) : (outB 45 s).length = dN i ∧ digS (outB 45 s) 0 (dN i) ∧ sY i (outB 45 s) = dY i s ∧ sM i (outB 45 s) = dM i s ∧ sD i (outB 45 s) = dD i s := by
  rcases (show i = 0 ∨ i = 1 ∨ i = 2 ∨ i = 3 ∨ i = 4 ∨ i = 5 ∨ i = 6 by omega) with rfl | rfl | rfl | rfl | rfl | rfl | rfl
  · exact und_date0 h
  · exact und_date1 h
  · exact und_date2 h
  · exact und_date3 h
  · exact und_date4 h
  · exact und_date5 h
  · exact und_date6 h
theorem und_clk0 {s : List UInt8} (h : shpS s = clkF 0) : (outB 45 s).length = 0 ∧ digS (outB 45 s) 0 0 ∧ sH 0 (outB 45 s) = cH 0 s ∧ sI 0 (outB 45 s) = cI 0 s ∧ sS 0 (outB 45 s) = cS 0 s := by
  obtain rfl : s = [] := List.eq_nil_of_length_eq_zero (shp_pt h).1
  exact ⟨rfl, fun j _ h => absurd h (Nat.not_lt_zero _), rfl, rfl, rfl⟩
theorem und_clk1 {s : List UInt8} (h : shpS s = clkF 1) : (outB 45 s).length = 2 ∧ digS (outB 45 s) 0 2 ∧ sH 1 (outB 45 s) = cH 1 s ∧ sI 1 (outB 45 s) = cI 1 s ∧ sS 1 (outB 45 s) = cS 1 s := by
  have hl : s.length = 2 := (shp_pt h).1
  have f0 := dig_at h (i := 0) (by decide) (by decide)
  have f1 := dig_at h (i := 1) (by decide) (by decide)
  match s, hl with
  | [a, b], _ =>
    have f0 : 48 ≤ a.toNat ∧ a.toNat ≤ 57 := f0
    have f1 : 48 ≤ b.toNat ∧ b.toNat ≤ 57 := f1
    have e : outB 45 [a, b] = [a, b] := by simp only [outB, List.filter, dgb f0, dgb f1]
    rw [e]
    refine ⟨rfl, fun j _ hj => ?_, rfl, rfl, rfl⟩
    rcases (show j = 0 ∨ j = 1 by omega) with rfl | rfl
    · exact f0
    · exact f1
theorem und_clk2 {s : List UInt8} (h : shpS s = clkF 2) : (outB 45 s).length = 4 ∧ digS (outB 45 s) 0 4 ∧ sH 2 (outB 45 s) = cH 2 s ∧ sI 2 (outB 45 s) = cI 2 s ∧ sS 2 (outB 45 s) = cS 2 s := by
  have hl : s.length = 4 := (shp_pt h).1
  have f0 := dig_at h (i := 0) (by decide) (by decide)
  have f1 := dig_at h (i := 1) (by decide) (by decide)
  have f2 := dig_at h (i := 2) (by decide) (by decide)
  have f3 := dig_at h (i := 3) (by decide) (by decide)
  match s, hl with
  | [a, b, c, d], _ =>
    have f0 : 48 ≤ a.toNat ∧ a.toNat ≤ 57 := f0
    have f1 : 48 ≤ b.toNat ∧ b.toNat ≤ 57 := f1
    have f2 : 48 ≤ c.toNat ∧ c.toNat ≤ 57 := f2
    have f3 : 48 ≤ d.toNat ∧ d.toNat ≤ 57 := f3
    have e : outB 45 [a, b, c, d] = [a, b, c, d] := by simp only [outB, List.filter, dgb f0, dgb f1, dgb f2, dgb f3]
    rw [e]
    refine ⟨rfl, fun j _ hj => ?_, rfl, rfl, rfl⟩
    rcases (show j = 0 ∨ j = 1 ∨ j = 2 ∨ j = 3 by omega) with rfl | rfl | rfl | rfl
    · exact f0
    · exact f1
    · exact f2
    · exact f3
theorem und_clk3 {s : List UInt8} (h : shpS s = clkF 3) : (outB 45 s).length = 6 ∧ digS (outB 45 s) 0 6 ∧ sH 3 (outB 45 s) = cH 3 s ∧ sI 3 (outB 45 s) = cI 3 s ∧ sS 3 (outB 45 s) = cS 3 s := by
  have hl : s.length = 6 := (shp_pt h).1
  have f0 := dig_at h (i := 0) (by decide) (by decide)
  have f1 := dig_at h (i := 1) (by decide) (by decide)
  have f2 := dig_at h (i := 2) (by decide) (by decide)
  have f3 := dig_at h (i := 3) (by decide) (by decide)
  have f4 := dig_at h (i := 4) (by decide) (by decide)
  have f5 := dig_at h (i := 5) (by decide) (by decide)
  match s, hl with
  | [a, b, c, d, e, f], _ =>
    have f0 : 48 ≤ a.toNat ∧ a.toNat ≤ 57 := f0
    have f1 : 48 ≤ b.toNat ∧ b.toNat ≤ 57 := f1
    have f2 : 48 ≤ c.toNat ∧ c.toNat ≤ 57 := f2
    have f3 : 48 ≤ d.toNat ∧ d.toNat ≤ 57 := f3
    have f4 : 48 ≤ e.toNat ∧ e.toNat ≤ 57 := f4
    have f5 : 48 ≤ f.toNat ∧ f.toNat ≤ 57 := f5
    have e : outB 45 [a, b, c, d, e, f] = [a, b, c, d, e, f] := by simp only [outB, List.filter, dgb f0, dgb f1, dgb f2, dgb f3, dgb f4, dgb f5]
    rw [e]
    refine ⟨rfl, fun j _ hj => ?_, rfl, rfl, rfl⟩
    rcases (show j = 0 ∨ j = 1 ∨ j = 2 ∨ j = 3 ∨ j = 4 ∨ j = 5 by omega) with rfl | rfl | rfl | rfl | rfl | rfl
    · exact f0
    · exact f1
    · exact f2
    · exact f3
    · exact f4
    · exact f5
theorem und_clk4 {s : List UInt8} (h : shpS s = clkF 4) : (outB 45 s).length = 2 ∧ digS (outB 45 s) 0 2 ∧ sH 4 (outB 45 s) = cH 4 s ∧ sI 4 (outB 45 s) = cI 4 s ∧ sS 4 (outB 45 s) = cS 4 s := by
  have hl : s.length = 3 := (shp_pt h).1
  have f0 := dash_at h (i := 0) (by decide) (by decide)
  have f1 := dig_at h (i := 1) (by decide) (by decide)
  have f2 := dig_at h (i := 2) (by decide) (by decide)
  match s, hl with
  | [a, b, c], _ =>
    have f0 : a.toNat = 45 := f0
    have f1 : 48 ≤ b.toNat ∧ b.toNat ≤ 57 := f1
    have f2 : 48 ≤ c.toNat ∧ c.toNat ≤ 57 := f2
    have e : outB 45 [a, b, c] = [b, c] := by simp only [outB, List.filter, dsb f0, dgb f1, dgb f2]
    rw [e]
    refine ⟨rfl, fun j _ hj => ?_, rfl, rfl, rfl⟩
    rcases (show j = 0 ∨ j = 1 by omega) with rfl | rfl
    · exact f1
    · exact f2
theorem und_clk5 {s : List UInt8} (h : shpS s = clkF 5) : (outB 45 s).length = 4 ∧ digS (outB 45 s) 0 4 ∧ sH 5 (outB 45 s) = cH 5 s ∧ sI 5 (outB 45 s) = cI 5 s ∧ sS 5 (outB 45 s) = cS 5 s := by
  have hl : s.length = 5 := (shp_pt h).1
  have f0 := dash_at h (i := 0) (by decide) (by decide)
  have f1 := dig_at h (i := 1) (by decide) (by decide)
  have f2 := dig_at h (i := 2) (by decide) (by decide)
  have f3 := dig_at h (i := 3) (by decide) (by decide)
  have f4 := dig_at h (i := 4) (by decide) (by decide)
  match s, hl with
  | [a, b, c, d, e], _ =>
    have f0 : a.toNat = 45 := f0
    have f1 : 48 ≤ b.toNat ∧ b.toNat ≤ 57 := f1
    have f2 : 48 ≤ c.toNat ∧ c.toNat ≤ 57 := f2
    have f3 : 48 ≤ d.toNat ∧ d.toNat ≤ 57 := f3
    have f4 : 48 ≤ e.toNat ∧ e.toNat ≤ 57 := f4
    have e : outB 45 [a, b, c, d, e] = [b, c, d, e] := by simp only [outB, List.filter, dsb f0, dgb f1, dgb f2, dgb f3, dgb f4]
    rw [e]
    refine ⟨rfl, fun j _ hj => ?_, rfl, rfl, rfl⟩
    rcases (show j = 0 ∨ j = 1 ∨ j = 2 ∨ j = 3 by omega) with rfl | rfl | rfl | rfl
    · exact f1
    · exact f2
    · exact f3
    · exact f4
theorem und_clk6 {s : List UInt8} (h : shpS s = clkF 6) : (outB 45 s).length = 2 ∧ digS (outB 45 s) 0 2 ∧ sH 6 (outB 45 s) = cH 6 s ∧ sI 6 (outB 45 s) = cI 6 s ∧ sS 6 (outB 45 s) = cS 6 s := by
  have hl : s.length = 4 := (shp_pt h).1
  have f0 := dash_at h (i := 0) (by decide) (by decide)
  have f1 := dash_at h (i := 1) (by decide) (by decide)
  have f2 := dig_at h (i := 2) (by decide) (by decide)
  have f3 := dig_at h (i := 3) (by decide) (by decide)
  match s, hl with
  | [a, b, c, d], _ =>
    have f0 : a.toNat = 45 := f0
    have f1 : b.toNat = 45 := f1
    have f2 : 48 ≤ c.toNat ∧ c.toNat ≤ 57 := f2
    have f3 : 48 ≤ d.toNat ∧ d.toNat ≤ 57 := f3
    have e : outB 45 [a, b, c, d] = [c, d] := by simp only [outB, List.filter, dsb f0, dsb f1, dgb f2, dgb f3]
    rw [e]
    refine ⟨rfl, fun j _ hj => ?_, rfl, rfl, rfl⟩
    rcases (show j = 0 ∨ j = 1 by omega) with rfl | rfl
    · exact f2
    · exact f3
theorem und_clk {s : List UInt8} {i : Nat} (hi : i ≤ 6) (h : shpS s = clkF i) : (outB 45 s).length = cN i ∧ digS (outB 45 s) 0 (cN i) ∧ sH i (outB 45 s) = cH i s ∧ sI i (outB 45 s) = cI i s ∧ sS i (outB 45 s) = cS i s := by
  rcases (show i = 0 ∨ i = 1 ∨ i = 2 ∨ i = 3 ∨ i = 4 ∨ i = 5 ∨ i = 6 by omega) with rfl | rfl | rfl | rfl | rfl | rfl | rfl
  · exact und_clk0 h
  · exact und_clk1 h
  · exact und_clk2 h
  · exact und_clk3 h
  · exact und_clk4 h
  · exact und_clk5 h
  · exact und_clk6 h
theorem finP_st (u : Stm) : finP u = if u.e = 0 then (u, .none) else (Stm.no, .errno u.e) := rfl
/-- What stamped answers is what the plain law says. -/
theorem stP_w {i j : Nat} (hi : i ≤ 6) (hj : j ≤ 6) {d c z : List UInt8} (hd : shpS d = dateF i) (hc : shpS c = clkF j) :
    stP i j (outB 45 d) (outB 45 c) z = if z ≠ [] ∧ (zoneV z).2 ≠ 0 then (Stm.no, (zoneV z).2) else ((finP (whS i d j c z)).1, (finP (whS i d j c z)).2.e) := by
  obtain ⟨-, -, e1, e2, e3⟩ := und_date hi hd
  obtain ⟨-, -, e4, e5, e6⟩ := und_clk hj hc
  unfold stP
  rw [e1, e2, e3, e4, e5, e6]
  split
  · rfl
  · rw [finP_st]
    have e : (⟨dY i d, dM i d, dD i d, cH j c, cI j c, cS j c, decide (z ≠ []), if z = [] then 0 else (zoneV z).1⟩ : Stm) = whS i d j c z := rfl
    rw [e]
    by_cases h : (whS i d j c z).e = 0
    · rw [if_pos h, if_pos h]; rfl
    · rw [if_neg h, if_neg h]; rfl
theorem pre_no {P u : List UInt8} {n : Nat} (hn : n < P.length) (h : byteAt P n ≠ byteAt u n) : P.isPrefixOf u = false := by
  rw [Bool.eq_false_iff]
  intro hp
  rw [List.isPrefixOf_iff_prefix] at hp
  obtain ⟨t, rfl⟩ := hp
  apply h
  unfold byteAt
  simp only [List.getD_eq_getElem?_getD]
  rw [List.getElem?_append_left hn]
theorem pre_long {P u : List UInt8} (hn : u.length < P.length) : P.isPrefixOf u = false := by
  rw [Bool.eq_false_iff]
  intro hp
  rw [List.isPrefixOf_iff_prefix] at hp
  have := hp.length_le
  omega
theorem idx_zone {r : Int} : 0 ≤ idxB [90, 43, 45] r ↔ (r = 90 ∨ r = 43 ∨ r = 45) := by
  have := idx_three (a := 90) (b := 43) (c := 45) r
  rw [this]
  simp
end Go.Proofs.YtidcpikoeohfbaaGreatDoor
namespace Go.Proofs.YtidcpikoeohfbaaGreatDoor
open Go Go.RowKit
theorem whR_sp {d t : List UInt8} {k j n : Nat} (hk : k ≤ 6) (hd : shpS d = dateF k) (h : IsSp t j n) : stP k j (outB 45 d) (outB 45 (t.take n)) (t.drop n) = ((whR d true t).1, (whR d true t).2.e) := by
  obtain ⟨e1, e2⟩ := splJ_of h
  have e3 := dIx_of hk hd
  have j1 := h.j1
  rw [stP_w hk h.j6 hd h.hs]
  have e : whR d true t = if t.drop n ≠ [] ∧ (zoneV (t.drop n)).2 ≠ 0 then (Stm.no, .errno (zoneV (t.drop n)).2) else finP (whS k d j (t.take n) (t.drop n)) := by
    unfold whR
    rw [e1, e2, e3, if_neg (show ¬ k = 7 by omega), if_neg (by decide), if_neg (show ¬ j = 0 by omega)]
  rw [e]
  split <;> rfl
theorem whR_un {d t : List UInt8} {k : Nat} (hk : k ≤ 6) (hd : shpS d = dateF k) : stP k 0 (outB 45 d) [] [] = ((whR d false t).1, (whR d false t).2.e) := by
  have e3 := dIx_of hk hd
  have := stP_w (z := []) hk (Nat.zero_le 6) hd (show shpS [] = clkF 0 from rfl)
  rw [show outB 45 [] = [] from rfl] at this
  rw [this, whR_u (by omega), e3, if_neg (by simp)]
/-- None of the first so many forms of a time is this text's. -/
def NoSp (t : List UInt8) (m : Nat) : Prop := ∀ j, 1 ≤ j → j ≤ m → ¬ IsSp t j (clkF j).length
theorem noSp_0 {t : List UInt8} : NoSp t 0 := fun j h1 h2 => by omega
theorem noSp_next {t : List UInt8} {m : Nat} (h : NoSp t m) (k : ¬ IsSp t (m + 1) (clkF (m + 1)).length) : NoSp t (m + 1) := fun j h1 h2 => by
  rcases Nat.lt_or_ge m j with g | g
  · rw [show j = m + 1 by omega]; exact k
  · exact h j h1 g
theorem noSp_all {t : List UInt8} (h : NoSp t 6) : splJ t = 0 := Decidable.byContradiction fun k => by
  have g := splJ_sp k
  have e := g.len
  exact h _ g.j1 g.j6 (by rw [← e]; exact g)
def WInv (d t : List UInt8) (timed : Bool) (k : Nat) : Prop := k ≤ 7 ∧ ((∀ j, j < k → shpS d ≠ dateF j) ∨ (whR d timed t = (Stm.no, .errno 3) ∧ ∃ j, j < k ∧ shpS d = dateF j))
theorem shp_nine {t : List UInt8} {n : Nat} (hn : n < t.length) (h : byteAt t n = 90 ∨ byteAt t n = 43 ∨ byteAt t n = 45) : byteAt (shpS t) n ≠ 57 := by
  rw [shp_at hn]
  unfold nineN
  rw [if_neg (by omega)]
  omega
theorem p57_0 : byteAt [57, 57, 57, 57] 2 = 57 := by decide
theorem p57_1 : byteAt [57, 57, 57, 57, 57, 57] 4 = 57 := by decide
theorem p57_3 : byteAt [45, 57, 57, 57, 57] 3 = 57 := by decide
set_option maxRecDepth 20000
set_option maxHeartbeats 4000000
set_option linter.unusedSimpArgs false
set_option linter.unusedVariables false
attribute [local irreducible] AWp AOps byteAt SrcOK OrOk GloAll FnSpec
attribute [local irreducible] shpS outB stP whR zoneV
theorem ref_WhenParse {G : Glo} {m : Int} (hGL : GloAll G shapesTy) (hM : GloAll G (maxTy m)) (s : List UInt8) (hl : s.length ≤ 10000) : FnIs Tryz.prog G 15 [.str s] (.tuple [(whP s).1.A, .int .i64 (whP s).2.e]) := by
  have k1 := strings_IndexByte (G := G) s 84 (by decide) (by decide)
  have hn := cutB_no (s := s) (c := 84)
  have hlen := cutB_len s 84
  have hSh := fun x h => ref_shape (G := G) x h
  have hcs := Tryz.call36
  have hA := fun x h => strings_ReplaceAll (G := G) hM x 45 h
  have hP := fun x y => has_prefix (G := G) x y
  have hX := fun c h0 h1 => strings_IndexByte (G := G) [90, 43, 45] c h0 h1
  unfold whP
  refine fn_a Tryz.func15 Tryz.call15 rfl rfl rfl rfl ?_
  intro C hC
  refine cuty hC hGL (fun b2 : Nat => [(0, .str s), (2, .own 0 (pS b2))]) (fun b2 => [stC b2 0 0 0 0 0 0 false 0]) (fun _ => True) ?_ fun b2 _ => ?_
  · refine xn1 ?_
    intro b2
    exact cy b2 trivial
  refine cut hC hGL [(0, .str s), (2, .own 0 (pS b2)), (4, .str s), (5, .str [])] [stC b2 0 0 0 0 0 0 false 0] True xn0 fun _ => ?_
  refine cut hC hGL [(0, .str s), (2, .own 0 (pS b2)), (4, .str s), (5, .str []), (6, .bool false)] [stC b2 0 0 0 0 0 0 false 0] True xn0 fun _ => ?_
  refine cut hC hGL [(2, .own 0 (pS b2)), (4, .str (cutB s 84).1), (5, .str (cutB s 84).2.1), (6, .bool (cutB s 84).2.2)] [stC b2 0 0 0 0 0 0 false 0] True ?_ fun _ => ?_
  · rcases idxB_cases s 84 with ⟨h1, h2⟩ | ⟨m, h1, h2, h3, h4⟩
    · have e : cutB s 84 = (s, [], false) := by unfold cutB; rw [h1, if_pos (by decide)]
      rw [h1] at k1
      rw [e]
      exact xw0
    · have e : cutB s 84 = (s.take m, s.drop (m + 1), true) := by unfold cutB; rw [h2, if_neg (by omega), Int.toNat_natCast]
      rw [h2] at k1
      rw [e]
      exact xw0
  generalize (cutB s 84).1 = d at *
  generalize (cutB s 84).2.1 = t at *
  generalize (cutB s 84).2.2 = timed at *
  refine aw_code hC hGL (xn1 ?_)
  intros
  refine lp hC hGL (fun k : Nat => [(2, .own 0 (pS b2)), (4, .str d), (5, .str t), (6, .bool timed), (26, .list 3 7 shapesF), (27, .int .i64 7), (28, .int .i64 (k : Nat))]) (fun _ => [stC b2 0 0 0 0 0 0 false 0]) (WInv d t timed) (fun k => 7 - k) 0 ⟨by decide, .inl fun j h => absurd h (Nat.not_lt_zero _)⟩ env_w rfl ?_
  rintro k ⟨hk7, hI⟩
  by_cases hk : ¬ k < 7
  · have hr : whR d timed t = (Stm.no, .errno 3) := by
      rcases hI with h | ⟨h, _⟩
      · exact whR_7 (dIx_no fun j hj => h j (by omega))
      · exact h
    rw [hr]
    exact xn0
  have hk : k < 7 := Decidable.not_not.1 hk
  have hsh := hSh d (by omega)
  refine xn1 ?_
  intro b9
  intros
  refine dw_pp mixed hC hGL true (fun _ _ => False) (fun _ : Unit => [(2, .own 0 (pS b2)), (4, .str d), (5, .str t), (6, .bool timed), (26, .list 3 7 shapesF), (27, .int .i64 7), (28, .int .i64 (k : Nat)), (9, .own 1 (pS b9)), (36, .bool (!seqB (shpS d) (dateF k)))]) (fun _ => [stC b2 0 0 0 0 0 0 false 0, .cells b9 (some 76) [.str (toldF k), .str (dateF k), .str (clkF k)]]) (.take 0 (.take 2 (.take 3 (.br 1 (.take 4 (.done)) (.nil))))) (by kernel_rfl) ?_ ?_ (fun _ _ h => h.elim)
  · refine xn ?_
    repeat' (first | exact Le.n | refine Lc.mk ?_ ?_)
    all_goals intros
    all_goals exact ⟨(), env_w, sub_w⟩
  intro _
  by_cases he : ¬ shpS d = dateF k
  · refine xn1 ?_
    intros
    refine nxs (k + 1) ⟨by omega, ?_⟩ (by omega) env_w sub_w
    rcases hI with h | ⟨h, j, hj, h2⟩
    · exact .inl (below_succ h he)
    · exact .inr ⟨h, j, by omega, h2⟩
  have he : shpS d = dateF k := Decidable.not_not.1 he
  have hJ : ∀ j, j < k → shpS d ≠ dateF j := by
    rcases hI with h | ⟨h, j, hj, h2⟩
    · exact h
    · exact absurd (date_inj (by omega) (by omega) (h2.symm.trans he)) (by omega)
  obtain ⟨u1, u2, -⟩ := und_date (by omega) he
  have hra := hA d (by omega)
  cases timed with
  | false =>
    have hst := ref_stamped (G := G) hM hGL k 0 (by omega) (by decide) (outB 45 d) [] [] u1 u2 rfl (fun j _ h => absurd h (Nat.not_lt_zero _)) (by simp)
    rw [whR_un (t := t) (by omega) he] at hst
    generalize whR d false t = W at *
    obtain ⟨w, ew⟩ := W
    dsimp only at hst ⊢
    refine xn1 ?_
    intros
    refine dw_to (to_sealc (i := 1) (k := 9) rfl rfl) ?_
    refine dw_pp mixed hC hGL false (fun _ _ => False) (fun _ : Unit => [(2, .own 0 (pS b2)), (3, .int .i64 ew.e)]) (fun _ => [stC b2 w.y w.m w.d w.h w.i w.s w.z w.o]) (.take 0 (.take 1 (.take 2 (.br 3 (.br 4 (.take 5 (.take 6 (.br 7 (.take 8 (.done)) (.nil)))) (.nil)) (.nil))))) (by kernel_rfl) ?_ ?_ (fun _ _ h => h.elim)
    · refine xn ?_
      repeat' (first | exact Le.n | refine Lc.mk ?_ ?_)
      all_goals intros
      all_goals exact ⟨(), env_w, sub_w⟩
    · intro _
      exact xn0
  | true =>
    have hcont : NoSp t 6 → WInv d t true (k + 1) := fun h => ⟨by omega, .inr ⟨whR_0 (by rw [dIx_of (by omega) he]; omega) (noSp_all h), k, by omega, he⟩⟩
    refine xn1 ?_
    intros
    refine lp hC hGL (fun j : Nat => [(2, .own 0 (pS b2)), (4, .str d), (5, .str t), (6, .bool true), (26, .list 3 7 shapesF), (27, .int .i64 7), (28, .int .i64 (k : Nat)), (9, .own 1 (pS b9)), (47, .list 3 (7 - 1) (fun i => shapesF (1 + i))), (48, .int .i64 6), (49, .int .i64 (j : Nat))]) (fun _ => [stC b2 0 0 0 0 0 0 false 0, .cells b9 (some 76) [.str (toldF k), .str (dateF k), .str (clkF k)]]) (fun j => j ≤ 6 ∧ NoSp t j) (fun j => 6 - j) 0 ⟨by decide, noSp_0⟩ env_w rfl ?_
    rintro j ⟨hj6, hno⟩
    rcases (show j = 0 ∨ j = 1 ∨ j = 2 ∨ j = 3 ∨ j = 4 ∨ j = 5 ∨ j = 6 by omega) with rfl | rfl | rfl | rfl | rfl | rfl | rfl
    · as_aux_lemma =>
        have hcl : (clkF 1).length = 2 := rfl
        have hcl2 : (clkF (1 + 0)).length = 2 := rfl
        refine xn1 ?_
        intro b11
        intros
        by_cases h1 : t.length < 2
        · have hns : ¬ IsSp t 1 (clkF 1).length := fun h => by have := h.hn; omega
          refine dw_pp mixed hC hGL true (fun _ _ => False) (fun _ : Unit => [(2, .own 0 (pS b2)), (4, .str d), (5, .str t), (6, .bool true), (26, .list 3 7 shapesF), (27, .int .i64 7), (28, .int .i64 (k : Nat)), (9, .own 1 (pS b9)), (11, .own 2 (pS b11)), (12, .int .i64 (2 : Nat)), (47, .list 3 (7 - 1) (fun i => shapesF (1 + i))), (48, .int .i64 6), (49, .int .i64 (0 : Nat)), (68, .bool true)]) (fun _ => [stC b2 0 0 0 0 0 0 false 0, .cells b9 (some 76) [.str (toldF k), .str (dateF k), .str (clkF k)], .cells b11 (some 76) [.str (toldF 1), .str (dateF 1), .str (clkF 1)]]) (.take 0 (.take 1 (.take 2 (.take 3 (.take 4 (.take 5 (.take 6 (.take 7 (.take 9 (.take 10 (.br 8 (.take 11 (.take 12 (.done))) (.nil)))))))))))) (by kernel_rfl) ?_ ?_ (fun _ _ h => h.elim)
          · refine xn ?_
            repeat' (first | exact Le.n | refine Lc.mk ?_ ?_)
            all_goals intros
            all_goals exact ⟨(), env_w, sub_w⟩
          intro _
          refine xn1 ?_
          intros
          exact nxs 1 ⟨by decide, noSp_next hno hns⟩ (by decide) env_w sub_w
        have hs2 := hSh (t.take 2) (by rw [List.length_take]; omega)
        by_cases h2 : ¬ shpS (t.take 2) = clkF 1
        · have hns : ¬ IsSp t 1 (clkF 1).length := fun h => h2 h.hs
          refine dw_pp mixed hC hGL true (fun _ _ => False) (fun _ : Unit => [(2, .own 0 (pS b2)), (4, .str d), (5, .str t), (6, .bool true), (26, .list 3 7 shapesF), (27, .int .i64 7), (28, .int .i64 (k : Nat)), (9, .own 1 (pS b9)), (11, .own 2 (pS b11)), (12, .int .i64 (2 : Nat)), (47, .list 3 (7 - 1) (fun i => shapesF (1 + i))), (48, .int .i64 6), (49, .int .i64 (0 : Nat)), (68, .bool (!seqB (shpS (t.take 2)) (clkF 1)))]) (fun _ => [stC b2 0 0 0 0 0 0 false 0, .cells b9 (some 76) [.str (toldF k), .str (dateF k), .str (clkF k)], .cells b11 (some 76) [.str (toldF 1), .str (dateF 1), .str (clkF 1)]]) (.take 0 (.take 1 (.take 2 (.take 3 (.take 4 (.take 5 (.take 6 (.take 7 (.take 9 (.take 10 (.br 8 (.take 11 (.take 12 (.done))) (.nil)))))))))))) (by kernel_rfl) ?_ ?_ (fun _ _ h => h.elim)
          · refine xn ?_
            repeat' (first | exact Le.n | refine Lc.mk ?_ ?_)
            all_goals intros
            all_goals exact ⟨(), env_w, sub_w⟩
          intro _
          refine xn1 ?_
          intros
          exact nxs 1 ⟨by decide, noSp_next hno hns⟩ (by decide) env_w sub_w
        have h2 : shpS (t.take 2) = clkF 1 := Decidable.not_not.1 h2
        refine dw_pp mixed hC hGL true (fun _ _ => False) (fun _ : Unit => [(2, .own 0 (pS b2)), (4, .str d), (5, .str t), (6, .bool true), (26, .list 3 7 shapesF), (27, .int .i64 7), (28, .int .i64 (k : Nat)), (9, .own 1 (pS b9)), (11, .own 2 (pS b11)), (12, .int .i64 (2 : Nat)), (47, .list 3 (7 - 1) (fun i => shapesF (1 + i))), (48, .int .i64 6), (49, .int .i64 (0 : Nat)), (68, .bool (!seqB (shpS (t.take 2)) (clkF 1)))]) (fun _ => [stC b2 0 0 0 0 0 0 false 0, .cells b9 (some 76) [.str (toldF k), .str (dateF k), .str (clkF k)], .cells b11 (some 76) [.str (toldF 1), .str (dateF 1), .str (clkF 1)]]) (.take 0 (.take 1 (.take 2 (.take 3 (.take 4 (.take 5 (.take 6 (.take 7 (.take 9 (.take 10 (.br 8 (.take 11 (.take 12 (.done))) (.nil)))))))))))) (by kernel_rfl) ?_ ?_ (fun _ _ h => h.elim)
        · refine xn ?_
          repeat' (first | exact Le.n | refine Lc.mk ?_ ?_)
          all_goals intros
          all_goals exact ⟨(), env_w, sub_w⟩
        intro _
        have hs3 := hSh t (by omega)
        have hp3 := hP (shpS t) [57, 57, 57, 57]
        have hls := shp_len t
        by_cases h3 : t.length = 2
        · have hsp : IsSp t 1 2 := ⟨by decide, by decide, by omega, h2, .inl h3.symm⟩
          have hd0 : (t.drop 2).length = 0 := by rw [List.length_drop]; omega
          rw [pre_long (by rw [hls, h3]; decide)] at hp3
          have hra2 := hA (t.take 2) (by rw [List.length_take]; omega)
          obtain ⟨v1, v2, -⟩ := und_clk (i := 1) (by decide) h2
          have hst := ref_stamped (G := G) hM hGL k 1 (by omega) (by decide) (outB 45 d) (outB 45 (t.take 2)) (t.drop 2) u1 u2 v1 v2 (by rw [List.length_drop]; omega)
          rw [whR_sp (by omega) he hsp] at hst
          generalize whR d true t = W at *
          obtain ⟨w, ew⟩ := W
          dsimp only at hst ⊢
          refine xn1 ?_
          intros
          refine dw_to (to_trans (to_sealc (i := 2) (k := 11) rfl rfl) (to_sealc (i := 1) (k := 9) rfl rfl)) ?_
          refine dw_pp mixed hC hGL false (fun _ _ => False) (fun _ : Unit => [(2, .own 0 (pS b2)), (3, .int .i64 ew.e)]) (fun _ => [stC b2 w.y w.m w.d w.h w.i w.s w.z w.o]) (.take 0 (.take 1 (.take 2 (.take 3 (.take 4 (.take 6 (.take 7 (.take 8 (.take 10 (.br 5 (.br 9 (.br 11 (.take 12 (.take 13 (.br 14 (.take 15 (.done)) (.nil)))) (.nil)) (.nil)) (.nil))))))))))) (by kernel_rfl) ?_ ?_ (fun _ _ h => h.elim)
          · refine xn ?_
            repeat' (first | exact Le.n | refine Lc.mk ?_ ?_)
            all_goals intros
            all_goals exact ⟨(), env_w, sub_w⟩
          · intro _
            exact xn0
        have hdn : (t.drop 2).length ≠ 0 := by rw [List.length_drop]; omega
        have hbz : byteAt (t.drop 2) 0 = byteAt t 2 := by rw [drop_at]
        have hb9 := byteAt_lt (t.drop 2) 0
        have hx := hX (byteAt (t.drop 2) 0 : Int) (by omega) (by omega)
        by_cases h4 : byteAt t 2 = 90 ∨ byteAt t 2 = 43 ∨ byteAt t 2 = 45
        · have hsp : IsSp t 1 2 := ⟨by decide, by decide, by omega, h2, .inr h4⟩
          have hix : 0 ≤ idxB [90, 43, 45] (byteAt (t.drop 2) 0 : Int) := idx_zone.2 (by omega)
          rw [pre_no (n := 2) (by decide) (fun e => shp_nine (t := t) (n := 2) (by omega) h4 (e.symm.trans p57_0))] at hp3
          generalize idxB [90, 43, 45] (byteAt (t.drop 2) 0 : Int) = ix at *
          have hra2 := hA (t.take 2) (by rw [List.length_take]; omega)
          obtain ⟨v1, v2, -⟩ := und_clk (i := 1) (by decide) h2
          have hst := ref_stamped (G := G) hM hGL k 1 (by omega) (by decide) (outB 45 d) (outB 45 (t.take 2)) (t.drop 2) u1 u2 v1 v2 (by rw [List.length_drop]; omega)
          rw [whR_sp (by omega) he hsp] at hst
          generalize whR d true t = W at *
          obtain ⟨w, ew⟩ := W
          dsimp only at hst ⊢
          refine xn1 ?_
          intros
          refine dw_to (to_trans (to_sealc (i := 2) (k := 11) rfl rfl) (to_sealc (i := 1) (k := 9) rfl rfl)) ?_
          refine dw_pp mixed hC hGL false (fun _ _ => False) (fun _ : Unit => [(2, .own 0 (pS b2)), (3, .int .i64 ew.e)]) (fun _ => [stC b2 w.y w.m w.d w.h w.i w.s w.z w.o]) (.take 0 (.take 1 (.take 2 (.take 3 (.take 4 (.take 6 (.take 7 (.take 8 (.take 10 (.br 5 (.br 9 (.br 11 (.take 12 (.take 13 (.br 14 (.take 15 (.done)) (.nil)))) (.nil)) (.nil)) (.nil))))))))))) (by kernel_rfl) ?_ ?_ (fun _ _ h => h.elim)
          · refine xn ?_
            repeat' (first | exact Le.n | refine Lc.mk ?_ ?_)
            all_goals intros
            all_goals exact ⟨(), env_w, sub_w⟩
          · intro _
            exact xn0
        · have hns : ¬ IsSp t 1 (clkF 1).length := fun h => by have := h.hz; rw [hcl] at this; omega
          have hix : ¬ 0 ≤ idxB [90, 43, 45] (byteAt (t.drop 2) 0 : Int) := fun h => by have := idx_zone.1 h; omega
          generalize idxB [90, 43, 45] (byteAt (t.drop 2) 0 : Int) = ix at *
          refine xn1 ?_
          intros
          exact nxs 1 ⟨by decide, noSp_next hno hns⟩ (by decide) env_w sub_w
    · as_aux_lemma =>
        have hcl : (clkF 2).length = 4 := rfl
        have hcl2 : (clkF (1 + 1)).length = 4 := rfl
        refine xn1 ?_
        intro b11
        intros
        by_cases h1 : t.length < 4
        · have hns : ¬ IsSp t 2 (clkF 2).length := fun h => by have := h.hn; omega
          refine dw_pp mixed hC hGL true (fun _ _ => False) (fun _ : Unit => [(2, .own 0 (pS b2)), (4, .str d), (5, .str t), (6, .bool true), (26, .list 3 7 shapesF), (27, .int .i64 7), (28, .int .i64 (k : Nat)), (9, .own 1 (pS b9)), (11, .own 2 (pS b11)), (12, .int .i64 (4 : Nat)), (47, .list 3 (7 - 1) (fun i => shapesF (1 + i))), (48, .int .i64 6), (49, .int .i64 (1 : Nat)), (68, .bool true)]) (fun _ => [stC b2 0 0 0 0 0 0 false 0, .cells b9 (some 76) [.str (toldF k), .str (dateF k), .str (clkF k)], .cells b11 (some 76) [.str (toldF 2), .str (dateF 2), .str (clkF 2)]]) (.take 0 (.take 1 (.take 2 (.take 3 (.take 4 (.take 5 (.take 6 (.take 7 (.take 9 (.take 10 (.br 8 (.take 11 (.take 12 (.done))) (.nil)))))))))))) (by kernel_rfl) ?_ ?_ (fun _ _ h => h.elim)
          · refine xn ?_
            repeat' (first | exact Le.n | refine Lc.mk ?_ ?_)
            all_goals intros
            all_goals exact ⟨(), env_w, sub_w⟩
          intro _
          refine xn1 ?_
          intros
          exact nxs 2 ⟨by decide, noSp_next hno hns⟩ (by decide) env_w sub_w
        have hs2 := hSh (t.take 4) (by rw [List.length_take]; omega)
        by_cases h2 : ¬ shpS (t.take 4) = clkF 2
        · have hns : ¬ IsSp t 2 (clkF 2).length := fun h => h2 h.hs
          refine dw_pp mixed hC hGL true (fun _ _ => False) (fun _ : Unit => [(2, .own 0 (pS b2)), (4, .str d), (5, .str t), (6, .bool true), (26, .list 3 7 shapesF), (27, .int .i64 7), (28, .int .i64 (k : Nat)), (9, .own 1 (pS b9)), (11, .own 2 (pS b11)), (12, .int .i64 (4 : Nat)), (47, .list 3 (7 - 1) (fun i => shapesF (1 + i))), (48, .int .i64 6), (49, .int .i64 (1 : Nat)), (68, .bool (!seqB (shpS (t.take 4)) (clkF 2)))]) (fun _ => [stC b2 0 0 0 0 0 0 false 0, .cells b9 (some 76) [.str (toldF k), .str (dateF k), .str (clkF k)], .cells b11 (some 76) [.str (toldF 2), .str (dateF 2), .str (clkF 2)]]) (.take 0 (.take 1 (.take 2 (.take 3 (.take 4 (.take 5 (.take 6 (.take 7 (.take 9 (.take 10 (.br 8 (.take 11 (.take 12 (.done))) (.nil)))))))))))) (by kernel_rfl) ?_ ?_ (fun _ _ h => h.elim)
          · refine xn ?_
            repeat' (first | exact Le.n | refine Lc.mk ?_ ?_)
            all_goals intros
            all_goals exact ⟨(), env_w, sub_w⟩
          intro _
          refine xn1 ?_
          intros
          exact nxs 2 ⟨by decide, noSp_next hno hns⟩ (by decide) env_w sub_w
        have h2 : shpS (t.take 4) = clkF 2 := Decidable.not_not.1 h2
        refine dw_pp mixed hC hGL true (fun _ _ => False) (fun _ : Unit => [(2, .own 0 (pS b2)), (4, .str d), (5, .str t), (6, .bool true), (26, .list 3 7 shapesF), (27, .int .i64 7), (28, .int .i64 (k : Nat)), (9, .own 1 (pS b9)), (11, .own 2 (pS b11)), (12, .int .i64 (4 : Nat)), (47, .list 3 (7 - 1) (fun i => shapesF (1 + i))), (48, .int .i64 6), (49, .int .i64 (1 : Nat)), (68, .bool (!seqB (shpS (t.take 4)) (clkF 2)))]) (fun _ => [stC b2 0 0 0 0 0 0 false 0, .cells b9 (some 76) [.str (toldF k), .str (dateF k), .str (clkF k)], .cells b11 (some 76) [.str (toldF 2), .str (dateF 2), .str (clkF 2)]]) (.take 0 (.take 1 (.take 2 (.take 3 (.take 4 (.take 5 (.take 6 (.take 7 (.take 9 (.take 10 (.br 8 (.take 11 (.take 12 (.done))) (.nil)))))))))))) (by kernel_rfl) ?_ ?_ (fun _ _ h => h.elim)
        · refine xn ?_
          repeat' (first | exact Le.n | refine Lc.mk ?_ ?_)
          all_goals intros
          all_goals exact ⟨(), env_w, sub_w⟩
        intro _
        have hs3 := hSh t (by omega)
        have hp3 := hP (shpS t) [57, 57, 57, 57, 57, 57]
        have hls := shp_len t
        by_cases h3 : t.length = 4
        · have hsp : IsSp t 2 4 := ⟨by decide, by decide, by omega, h2, .inl h3.symm⟩
          have hd0 : (t.drop 4).length = 0 := by rw [List.length_drop]; omega
          rw [pre_long (by rw [hls, h3]; decide)] at hp3
          have hra2 := hA (t.take 4) (by rw [List.length_take]; omega)
          obtain ⟨v1, v2, -⟩ := und_clk (i := 2) (by decide) h2
          have hst := ref_stamped (G := G) hM hGL k 2 (by omega) (by decide) (outB 45 d) (outB 45 (t.take 4)) (t.drop 4) u1 u2 v1 v2 (by rw [List.length_drop]; omega)
          rw [whR_sp (by omega) he hsp] at hst
          generalize whR d true t = W at *
          obtain ⟨w, ew⟩ := W
          dsimp only at hst ⊢
          refine xn1 ?_
          intros
          refine dw_to (to_trans (to_sealc (i := 2) (k := 11) rfl rfl) (to_sealc (i := 1) (k := 9) rfl rfl)) ?_
          refine dw_pp mixed hC hGL false (fun _ _ => False) (fun _ : Unit => [(2, .own 0 (pS b2)), (3, .int .i64 ew.e)]) (fun _ => [stC b2 w.y w.m w.d w.h w.i w.s w.z w.o]) (.take 0 (.take 1 (.take 2 (.take 3 (.take 4 (.take 6 (.take 7 (.take 8 (.take 10 (.br 5 (.br 9 (.br 11 (.take 12 (.take 13 (.br 14 (.take 15 (.done)) (.nil)))) (.nil)) (.nil)) (.nil))))))))))) (by kernel_rfl) ?_ ?_ (fun _ _ h => h.elim)
          · refine xn ?_
            repeat' (first | exact Le.n | refine Lc.mk ?_ ?_)
            all_goals intros
            all_goals exact ⟨(), env_w, sub_w⟩
          · intro _
            exact xn0
        have hdn : (t.drop 4).length ≠ 0 := by rw [List.length_drop]; omega
        have hbz : byteAt (t.drop 4) 0 = byteAt t 4 := by rw [drop_at]
        have hb9 := byteAt_lt (t.drop 4) 0
        have hx := hX (byteAt (t.drop 4) 0 : Int) (by omega) (by omega)
        by_cases h4 : byteAt t 4 = 90 ∨ byteAt t 4 = 43 ∨ byteAt t 4 = 45
        · have hsp : IsSp t 2 4 := ⟨by decide, by decide, by omega, h2, .inr h4⟩
          have hix : 0 ≤ idxB [90, 43, 45] (byteAt (t.drop 4) 0 : Int) := idx_zone.2 (by omega)
          rw [pre_no (n := 4) (by decide) (fun e => shp_nine (t := t) (n := 4) (by omega) h4 (e.symm.trans p57_1))] at hp3
          generalize idxB [90, 43, 45] (byteAt (t.drop 4) 0 : Int) = ix at *
          have hra2 := hA (t.take 4) (by rw [List.length_take]; omega)
          obtain ⟨v1, v2, -⟩ := und_clk (i := 2) (by decide) h2
          have hst := ref_stamped (G := G) hM hGL k 2 (by omega) (by decide) (outB 45 d) (outB 45 (t.take 4)) (t.drop 4) u1 u2 v1 v2 (by rw [List.length_drop]; omega)
          rw [whR_sp (by omega) he hsp] at hst
          generalize whR d true t = W at *
          obtain ⟨w, ew⟩ := W
          dsimp only at hst ⊢
          refine xn1 ?_
          intros
          refine dw_to (to_trans (to_sealc (i := 2) (k := 11) rfl rfl) (to_sealc (i := 1) (k := 9) rfl rfl)) ?_
          refine dw_pp mixed hC hGL false (fun _ _ => False) (fun _ : Unit => [(2, .own 0 (pS b2)), (3, .int .i64 ew.e)]) (fun _ => [stC b2 w.y w.m w.d w.h w.i w.s w.z w.o]) (.take 0 (.take 1 (.take 2 (.take 3 (.take 4 (.take 6 (.take 7 (.take 8 (.take 10 (.br 5 (.br 9 (.br 11 (.take 12 (.take 13 (.br 14 (.take 15 (.done)) (.nil)))) (.nil)) (.nil)) (.nil))))))))))) (by kernel_rfl) ?_ ?_ (fun _ _ h => h.elim)
          · refine xn ?_
            repeat' (first | exact Le.n | refine Lc.mk ?_ ?_)
            all_goals intros
            all_goals exact ⟨(), env_w, sub_w⟩
          · intro _
            exact xn0
        · have hns : ¬ IsSp t 2 (clkF 2).length := fun h => by have := h.hz; rw [hcl] at this; omega
          have hix : ¬ 0 ≤ idxB [90, 43, 45] (byteAt (t.drop 4) 0 : Int) := fun h => by have := idx_zone.1 h; omega
          generalize idxB [90, 43, 45] (byteAt (t.drop 4) 0 : Int) = ix at *
          refine xn1 ?_
          intros
          exact nxs 2 ⟨by decide, noSp_next hno hns⟩ (by decide) env_w sub_w
    · as_aux_lemma =>
        have hcl : (clkF 3).length = 6 := rfl
        have hcl2 : (clkF (1 + 2)).length = 6 := rfl
        refine xn1 ?_
        intro b11
        intros
        by_cases h1 : t.length < 6
        · have hns : ¬ IsSp t 3 (clkF 3).length := fun h => by have := h.hn; omega
          refine dw_pp mixed hC hGL true (fun _ _ => False) (fun _ : Unit => [(2, .own 0 (pS b2)), (4, .str d), (5, .str t), (6, .bool true), (26, .list 3 7 shapesF), (27, .int .i64 7), (28, .int .i64 (k : Nat)), (9, .own 1 (pS b9)), (11, .own 2 (pS b11)), (12, .int .i64 (6 : Nat)), (47, .list 3 (7 - 1) (fun i => shapesF (1 + i))), (48, .int .i64 6), (49, .int .i64 (2 : Nat)), (68, .bool true)]) (fun _ => [stC b2 0 0 0 0 0 0 false 0, .cells b9 (some 76) [.str (toldF k), .str (dateF k), .str (clkF k)], .cells b11 (some 76) [.str (toldF 3), .str (dateF 3), .str (clkF 3)]]) (.take 0 (.take 1 (.take 2 (.take 3 (.take 4 (.take 5 (.take 6 (.take 7 (.take 9 (.take 10 (.br 8 (.take 11 (.take 12 (.done))) (.nil)))))))))))) (by kernel_rfl) ?_ ?_ (fun _ _ h => h.elim)
          · refine xn ?_
            repeat' (first | exact Le.n | refine Lc.mk ?_ ?_)
            all_goals intros
            all_goals exact ⟨(), env_w, sub_w⟩
          intro _
          refine xn1 ?_
          intros
          exact nxs 3 ⟨by decide, noSp_next hno hns⟩ (by decide) env_w sub_w
        have hs2 := hSh (t.take 6) (by rw [List.length_take]; omega)
        by_cases h2 : ¬ shpS (t.take 6) = clkF 3
        · have hns : ¬ IsSp t 3 (clkF 3).length := fun h => h2 h.hs
          refine dw_pp mixed hC hGL true (fun _ _ => False) (fun _ : Unit => [(2, .own 0 (pS b2)), (4, .str d), (5, .str t), (6, .bool true), (26, .list 3 7 shapesF), (27, .int .i64 7), (28, .int .i64 (k : Nat)), (9, .own 1 (pS b9)), (11, .own 2 (pS b11)), (12, .int .i64 (6 : Nat)), (47, .list 3 (7 - 1) (fun i => shapesF (1 + i))), (48, .int .i64 6), (49, .int .i64 (2 : Nat)), (68, .bool (!seqB (shpS (t.take 6)) (clkF 3)))]) (fun _ => [stC b2 0 0 0 0 0 0 false 0, .cells b9 (some 76) [.str (toldF k), .str (dateF k), .str (clkF k)], .cells b11 (some 76) [.str (toldF 3), .str (dateF 3), .str (clkF 3)]]) (.take 0 (.take 1 (.take 2 (.take 3 (.take 4 (.take 5 (.take 6 (.take 7 (.take 9 (.take 10 (.br 8 (.take 11 (.take 12 (.done))) (.nil)))))))))))) (by kernel_rfl) ?_ ?_ (fun _ _ h => h.elim)
          · refine xn ?_
            repeat' (first | exact Le.n | refine Lc.mk ?_ ?_)
            all_goals intros
            all_goals exact ⟨(), env_w, sub_w⟩
          intro _
          refine xn1 ?_
          intros
          exact nxs 3 ⟨by decide, noSp_next hno hns⟩ (by decide) env_w sub_w
        have h2 : shpS (t.take 6) = clkF 3 := Decidable.not_not.1 h2
        refine dw_pp mixed hC hGL true (fun _ _ => False) (fun _ : Unit => [(2, .own 0 (pS b2)), (4, .str d), (5, .str t), (6, .bool true), (26, .list 3 7 shapesF), (27, .int .i64 7), (28, .int .i64 (k : Nat)), (9, .own 1 (pS b9)), (11, .own 2 (pS b11)), (12, .int .i64 (6 : Nat)), (47, .list 3 (7 - 1) (fun i => shapesF (1 + i))), (48, .int .i64 6), (49, .int .i64 (2 : Nat)), (68, .bool (!seqB (shpS (t.take 6)) (clkF 3)))]) (fun _ => [stC b2 0 0 0 0 0 0 false 0, .cells b9 (some 76) [.str (toldF k), .str (dateF k), .str (clkF k)], .cells b11 (some 76) [.str (toldF 3), .str (dateF 3), .str (clkF 3)]]) (.take 0 (.take 1 (.take 2 (.take 3 (.take 4 (.take 5 (.take 6 (.take 7 (.take 9 (.take 10 (.br 8 (.take 11 (.take 12 (.done))) (.nil)))))))))))) (by kernel_rfl) ?_ ?_ (fun _ _ h => h.elim)
        · refine xn ?_
          repeat' (first | exact Le.n | refine Lc.mk ?_ ?_)
          all_goals intros
          all_goals exact ⟨(), env_w, sub_w⟩
        intro _
        by_cases h3 : t.length = 6
        · have hsp : IsSp t 3 6 := ⟨by decide, by decide, by omega, h2, .inl h3.symm⟩
          have hd0 : (t.drop 6).length = 0 := by rw [List.length_drop]; omega
          have hra2 := hA (t.take 6) (by rw [List.length_take]; omega)
          obtain ⟨v1, v2, -⟩ := und_clk (i := 3) (by decide) h2
          have hst := ref_stamped (G := G) hM hGL k 3 (by omega) (by decide) (outB 45 d) (outB 45 (t.take 6)) (t.drop 6) u1 u2 v1 v2 (by rw [List.length_drop]; omega)
          rw [whR_sp (by omega) he hsp] at hst
          generalize whR d true t = W at *
          obtain ⟨w, ew⟩ := W
          dsimp only at hst ⊢
          refine xn1 ?_
          intros
          refine dw_to (to_trans (to_sealc (i := 2) (k := 11) rfl rfl) (to_sealc (i := 1) (k := 9) rfl rfl)) ?_
          refine dw_pp mixed hC hGL false (fun _ _ => False) (fun _ : Unit => [(2, .own 0 (pS b2)), (3, .int .i64 ew.e)]) (fun _ => [stC b2 w.y w.m w.d w.h w.i w.s w.z w.o]) (.take 0 (.take 1 (.take 2 (.take 3 (.take 4 (.take 6 (.take 7 (.take 8 (.take 10 (.br 5 (.br 9 (.br 11 (.take 12 (.take 13 (.br 14 (.take 15 (.done)) (.nil)))) (.nil)) (.nil)) (.nil))))))))))) (by kernel_rfl) ?_ ?_ (fun _ _ h => h.elim)
          · refine xn ?_
            repeat' (first | exact Le.n | refine Lc.mk ?_ ?_)
            all_goals intros
            all_goals exact ⟨(), env_w, sub_w⟩
          · intro _
            exact xn0
        have hdn : (t.drop 6).length ≠ 0 := by rw [List.length_drop]; omega
        have hbz : byteAt (t.drop 6) 0 = byteAt t 6 := by rw [drop_at]
        have hb9 := byteAt_lt (t.drop 6) 0
        have hx := hX (byteAt (t.drop 6) 0 : Int) (by omega) (by omega)
        by_cases h4 : byteAt t 6 = 90 ∨ byteAt t 6 = 43 ∨ byteAt t 6 = 45
        · have hsp : IsSp t 3 6 := ⟨by decide, by decide, by omega, h2, .inr h4⟩
          have hix : 0 ≤ idxB [90, 43, 45] (byteAt (t.drop 6) 0 : Int) := idx_zone.2 (by omega)
          generalize idxB [90, 43, 45] (byteAt (t.drop 6) 0 : Int) = ix at *
          have hra2 := hA (t.take 6) (by rw [List.length_take]; omega)
          obtain ⟨v1, v2, -⟩ := und_clk (i := 3) (by decide) h2
          have hst := ref_stamped (G := G) hM hGL k 3 (by omega) (by decide) (outB 45 d) (outB 45 (t.take 6)) (t.drop 6) u1 u2 v1 v2 (by rw [List.length_drop]; omega)
          rw [whR_sp (by omega) he hsp] at hst
          generalize whR d true t = W at *
          obtain ⟨w, ew⟩ := W
          dsimp only at hst ⊢
          refine xn1 ?_
          intros
          refine dw_to (to_trans (to_sealc (i := 2) (k := 11) rfl rfl) (to_sealc (i := 1) (k := 9) rfl rfl)) ?_
          refine dw_pp mixed hC hGL false (fun _ _ => False) (fun _ : Unit => [(2, .own 0 (pS b2)), (3, .int .i64 ew.e)]) (fun _ => [stC b2 w.y w.m w.d w.h w.i w.s w.z w.o]) (.take 0 (.take 1 (.take 2 (.take 3 (.take 4 (.take 6 (.take 7 (.take 8 (.take 10 (.br 5 (.br 9 (.br 11 (.take 12 (.take 13 (.br 14 (.take 15 (.done)) (.nil)))) (.nil)) (.nil)) (.nil))))))))))) (by kernel_rfl) ?_ ?_ (fun _ _ h => h.elim)
          · refine xn ?_
            repeat' (first | exact Le.n | refine Lc.mk ?_ ?_)
            all_goals intros
            all_goals exact ⟨(), env_w, sub_w⟩
          · intro _
            exact xn0
        · have hns : ¬ IsSp t 3 (clkF 3).length := fun h => by have := h.hz; rw [hcl] at this; omega
          have hix : ¬ 0 ≤ idxB [90, 43, 45] (byteAt (t.drop 6) 0 : Int) := fun h => by have := idx_zone.1 h; omega
          generalize idxB [90, 43, 45] (byteAt (t.drop 6) 0 : Int) = ix at *
          refine xn1 ?_
          intros
          exact nxs 3 ⟨by decide, noSp_next hno hns⟩ (by decide) env_w sub_w
    · as_aux_lemma =>
        have hcl : (clkF 4).length = 3 := rfl
        have hcl2 : (clkF (1 + 3)).length = 3 := rfl
        refine xn1 ?_
        intro b11
        intros
        by_cases h1 : t.length < 3
        · have hns : ¬ IsSp t 4 (clkF 4).length := fun h => by have := h.hn; omega
          refine dw_pp mixed hC hGL true (fun _ _ => False) (fun _ : Unit => [(2, .own 0 (pS b2)), (4, .str d), (5, .str t), (6, .bool true), (26, .list 3 7 shapesF), (27, .int .i64 7), (28, .int .i64 (k : Nat)), (9, .own 1 (pS b9)), (11, .own 2 (pS b11)), (12, .int .i64 (3 : Nat)), (47, .list 3 (7 - 1) (fun i => shapesF (1 + i))), (48, .int .i64 6), (49, .int .i64 (3 : Nat)), (68, .bool true)]) (fun _ => [stC b2 0 0 0 0 0 0 false 0, .cells b9 (some 76) [.str (toldF k), .str (dateF k), .str (clkF k)], .cells b11 (some 76) [.str (toldF 4), .str (dateF 4), .str (clkF 4)]]) (.take 0 (.take 1 (.take 2 (.take 3 (.take 4 (.take 5 (.take 6 (.take 7 (.take 9 (.take 10 (.br 8 (.take 11 (.take 12 (.done))) (.nil)))))))))))) (by kernel_rfl) ?_ ?_ (fun _ _ h => h.elim)
          · refine xn ?_
            repeat' (first | exact Le.n | refine Lc.mk ?_ ?_)
            all_goals intros
            all_goals exact ⟨(), env_w, sub_w⟩
          intro _
          refine xn1 ?_
          intros
          exact nxs 4 ⟨by decide, noSp_next hno hns⟩ (by decide) env_w sub_w
        have hs2 := hSh (t.take 3) (by rw [List.length_take]; omega)
        by_cases h2 : ¬ shpS (t.take 3) = clkF 4
        · have hns : ¬ IsSp t 4 (clkF 4).length := fun h => h2 h.hs
          refine dw_pp mixed hC hGL true (fun _ _ => False) (fun _ : Unit => [(2, .own 0 (pS b2)), (4, .str d), (5, .str t), (6, .bool true), (26, .list 3 7 shapesF), (27, .int .i64 7), (28, .int .i64 (k : Nat)), (9, .own 1 (pS b9)), (11, .own 2 (pS b11)), (12, .int .i64 (3 : Nat)), (47, .list 3 (7 - 1) (fun i => shapesF (1 + i))), (48, .int .i64 6), (49, .int .i64 (3 : Nat)), (68, .bool (!seqB (shpS (t.take 3)) (clkF 4)))]) (fun _ => [stC b2 0 0 0 0 0 0 false 0, .cells b9 (some 76) [.str (toldF k), .str (dateF k), .str (clkF k)], .cells b11 (some 76) [.str (toldF 4), .str (dateF 4), .str (clkF 4)]]) (.take 0 (.take 1 (.take 2 (.take 3 (.take 4 (.take 5 (.take 6 (.take 7 (.take 9 (.take 10 (.br 8 (.take 11 (.take 12 (.done))) (.nil)))))))))))) (by kernel_rfl) ?_ ?_ (fun _ _ h => h.elim)
          · refine xn ?_
            repeat' (first | exact Le.n | refine Lc.mk ?_ ?_)
            all_goals intros
            all_goals exact ⟨(), env_w, sub_w⟩
          intro _
          refine xn1 ?_
          intros
          exact nxs 4 ⟨by decide, noSp_next hno hns⟩ (by decide) env_w sub_w
        have h2 : shpS (t.take 3) = clkF 4 := Decidable.not_not.1 h2
        refine dw_pp mixed hC hGL true (fun _ _ => False) (fun _ : Unit => [(2, .own 0 (pS b2)), (4, .str d), (5, .str t), (6, .bool true), (26, .list 3 7 shapesF), (27, .int .i64 7), (28, .int .i64 (k : Nat)), (9, .own 1 (pS b9)), (11, .own 2 (pS b11)), (12, .int .i64 (3 : Nat)), (47, .list 3 (7 - 1) (fun i => shapesF (1 + i))), (48, .int .i64 6), (49, .int .i64 (3 : Nat)), (68, .bool (!seqB (shpS (t.take 3)) (clkF 4)))]) (fun _ => [stC b2 0 0 0 0 0 0 false 0, .cells b9 (some 76) [.str (toldF k), .str (dateF k), .str (clkF k)], .cells b11 (some 76) [.str (toldF 4), .str (dateF 4), .str (clkF 4)]]) (.take 0 (.take 1 (.take 2 (.take 3 (.take 4 (.take 5 (.take 6 (.take 7 (.take 9 (.take 10 (.br 8 (.take 11 (.take 12 (.done))) (.nil)))))))))))) (by kernel_rfl) ?_ ?_ (fun _ _ h => h.elim)
        · refine xn ?_
          repeat' (first | exact Le.n | refine Lc.mk ?_ ?_)
          all_goals intros
          all_goals exact ⟨(), env_w, sub_w⟩
        intro _
        have hs3 := hSh t (by omega)
        have hp3 := hP (shpS t) [45, 57, 57, 57, 57]
        have hls := shp_len t
        by_cases h3 : t.length = 3
        · have hsp : IsSp t 4 3 := ⟨by decide, by decide, by omega, h2, .inl h3.symm⟩
          have hd0 : (t.drop 3).length = 0 := by rw [List.length_drop]; omega
          rw [pre_long (by rw [hls, h3]; decide)] at hp3
          have hra2 := hA (t.take 3) (by rw [List.length_take]; omega)
          obtain ⟨v1, v2, -⟩ := und_clk (i := 4) (by decide) h2
          have hst := ref_stamped (G := G) hM hGL k 4 (by omega) (by decide) (outB 45 d) (outB 45 (t.take 3)) (t.drop 3) u1 u2 v1 v2 (by rw [List.length_drop]; omega)
          rw [whR_sp (by omega) he hsp] at hst
          generalize whR d true t = W at *
          obtain ⟨w, ew⟩ := W
          dsimp only at hst ⊢
          refine xn1 ?_
          intros
          refine dw_to (to_trans (to_sealc (i := 2) (k := 11) rfl rfl) (to_sealc (i := 1) (k := 9) rfl rfl)) ?_
          refine dw_pp mixed hC hGL false (fun _ _ => False) (fun _ : Unit => [(2, .own 0 (pS b2)), (3, .int .i64 ew.e)]) (fun _ => [stC b2 w.y w.m w.d w.h w.i w.s w.z w.o]) (.take 0 (.take 1 (.take 2 (.take 3 (.take 4 (.take 6 (.take 7 (.take 8 (.take 10 (.br 5 (.br 9 (.br 11 (.take 12 (.take 13 (.br 14 (.take 15 (.done)) (.nil)))) (.nil)) (.nil)) (.nil))))))))))) (by kernel_rfl) ?_ ?_ (fun _ _ h => h.elim)
          · refine xn ?_
            repeat' (first | exact Le.n | refine Lc.mk ?_ ?_)
            all_goals intros
            all_goals exact ⟨(), env_w, sub_w⟩
          · intro _
            exact xn0
        have hdn : (t.drop 3).length ≠ 0 := by rw [List.length_drop]; omega
        have hbz : byteAt (t.drop 3) 0 = byteAt t 3 := by rw [drop_at]
        have hb9 := byteAt_lt (t.drop 3) 0
        have hx := hX (byteAt (t.drop 3) 0 : Int) (by omega) (by omega)
        by_cases h4 : byteAt t 3 = 90 ∨ byteAt t 3 = 43 ∨ byteAt t 3 = 45
        · have hsp : IsSp t 4 3 := ⟨by decide, by decide, by omega, h2, .inr h4⟩
          have hix : 0 ≤ idxB [90, 43, 45] (byteAt (t.drop 3) 0 : Int) := idx_zone.2 (by omega)
          rw [pre_no (n := 3) (by decide) (fun e => shp_nine (t := t) (n := 3) (by omega) h4 (e.symm.trans p57_3))] at hp3
          generalize idxB [90, 43, 45] (byteAt (t.drop 3) 0 : Int) = ix at *
          have hra2 := hA (t.take 3) (by rw [List.length_take]; omega)
          obtain ⟨v1, v2, -⟩ := und_clk (i := 4) (by decide) h2
          have hst := ref_stamped (G := G) hM hGL k 4 (by omega) (by decide) (outB 45 d) (outB 45 (t.take 3)) (t.drop 3) u1 u2 v1 v2 (by rw [List.length_drop]; omega)
          rw [whR_sp (by omega) he hsp] at hst
          generalize whR d true t = W at *
          obtain ⟨w, ew⟩ := W
          dsimp only at hst ⊢
          refine xn1 ?_
          intros
          refine dw_to (to_trans (to_sealc (i := 2) (k := 11) rfl rfl) (to_sealc (i := 1) (k := 9) rfl rfl)) ?_
          refine dw_pp mixed hC hGL false (fun _ _ => False) (fun _ : Unit => [(2, .own 0 (pS b2)), (3, .int .i64 ew.e)]) (fun _ => [stC b2 w.y w.m w.d w.h w.i w.s w.z w.o]) (.take 0 (.take 1 (.take 2 (.take 3 (.take 4 (.take 6 (.take 7 (.take 8 (.take 10 (.br 5 (.br 9 (.br 11 (.take 12 (.take 13 (.br 14 (.take 15 (.done)) (.nil)))) (.nil)) (.nil)) (.nil))))))))))) (by kernel_rfl) ?_ ?_ (fun _ _ h => h.elim)
          · refine xn ?_
            repeat' (first | exact Le.n | refine Lc.mk ?_ ?_)
            all_goals intros
            all_goals exact ⟨(), env_w, sub_w⟩
          · intro _
            exact xn0
        · have hns : ¬ IsSp t 4 (clkF 4).length := fun h => by have := h.hz; rw [hcl] at this; omega
          have hix : ¬ 0 ≤ idxB [90, 43, 45] (byteAt (t.drop 3) 0 : Int) := fun h => by have := idx_zone.1 h; omega
          generalize idxB [90, 43, 45] (byteAt (t.drop 3) 0 : Int) = ix at *
          refine xn1 ?_
          intros
          exact nxs 4 ⟨by decide, noSp_next hno hns⟩ (by decide) env_w sub_w
    · as_aux_lemma =>
        have hcl : (clkF 5).length = 5 := rfl
        have hcl2 : (clkF (1 + 4)).length = 5 := rfl
        refine xn1 ?_
        intro b11
        intros
        by_cases h1 : t.length < 5
        · have hns : ¬ IsSp t 5 (clkF 5).length := fun h => by have := h.hn; omega
          refine dw_pp mixed hC hGL true (fun _ _ => False) (fun _ : Unit => [(2, .own 0 (pS b2)), (4, .str d), (5, .str t), (6, .bool true), (26, .list 3 7 shapesF), (27, .int .i64 7), (28, .int .i64 (k : Nat)), (9, .own 1 (pS b9)), (11, .own 2 (pS b11)), (12, .int .i64 (5 : Nat)), (47, .list 3 (7 - 1) (fun i => shapesF (1 + i))), (48, .int .i64 6), (49, .int .i64 (4 : Nat)), (68, .bool true)]) (fun _ => [stC b2 0 0 0 0 0 0 false 0, .cells b9 (some 76) [.str (toldF k), .str (dateF k), .str (clkF k)], .cells b11 (some 76) [.str (toldF 5), .str (dateF 5), .str (clkF 5)]]) (.take 0 (.take 1 (.take 2 (.take 3 (.take 4 (.take 5 (.take 6 (.take 7 (.take 9 (.take 10 (.br 8 (.take 11 (.take 12 (.done))) (.nil)))))))))))) (by kernel_rfl) ?_ ?_ (fun _ _ h => h.elim)
          · refine xn ?_
            repeat' (first | exact Le.n | refine Lc.mk ?_ ?_)
            all_goals intros
            all_goals exact ⟨(), env_w, sub_w⟩
          intro _
          refine xn1 ?_
          intros
          exact nxs 5 ⟨by decide, noSp_next hno hns⟩ (by decide) env_w sub_w
        have hs2 := hSh (t.take 5) (by rw [List.length_take]; omega)
        by_cases h2 : ¬ shpS (t.take 5) = clkF 5
        · have hns : ¬ IsSp t 5 (clkF 5).length := fun h => h2 h.hs
          refine dw_pp mixed hC hGL true (fun _ _ => False) (fun _ : Unit => [(2, .own 0 (pS b2)), (4, .str d), (5, .str t), (6, .bool true), (26, .list 3 7 shapesF), (27, .int .i64 7), (28, .int .i64 (k : Nat)), (9, .own 1 (pS b9)), (11, .own 2 (pS b11)), (12, .int .i64 (5 : Nat)), (47, .list 3 (7 - 1) (fun i => shapesF (1 + i))), (48, .int .i64 6), (49, .int .i64 (4 : Nat)), (68, .bool (!seqB (shpS (t.take 5)) (clkF 5)))]) (fun _ => [stC b2 0 0 0 0 0 0 false 0, .cells b9 (some 76) [.str (toldF k), .str (dateF k), .str (clkF k)], .cells b11 (some 76) [.str (toldF 5), .str (dateF 5), .str (clkF 5)]]) (.take 0 (.take 1 (.take 2 (.take 3 (.take 4 (.take 5 (.take 6 (.take 7 (.take 9 (.take 10 (.br 8 (.take 11 (.take 12 (.done))) (.nil)))))))))))) (by kernel_rfl) ?_ ?_ (fun _ _ h => h.elim)
          · refine xn ?_
            repeat' (first | exact Le.n | refine Lc.mk ?_ ?_)
            all_goals intros
            all_goals exact ⟨(), env_w, sub_w⟩
          intro _
          refine xn1 ?_
          intros
          exact nxs 5 ⟨by decide, noSp_next hno hns⟩ (by decide) env_w sub_w
        have h2 : shpS (t.take 5) = clkF 5 := Decidable.not_not.1 h2
        refine dw_pp mixed hC hGL true (fun _ _ => False) (fun _ : Unit => [(2, .own 0 (pS b2)), (4, .str d), (5, .str t), (6, .bool true), (26, .list 3 7 shapesF), (27, .int .i64 7), (28, .int .i64 (k : Nat)), (9, .own 1 (pS b9)), (11, .own 2 (pS b11)), (12, .int .i64 (5 : Nat)), (47, .list 3 (7 - 1) (fun i => shapesF (1 + i))), (48, .int .i64 6), (49, .int .i64 (4 : Nat)), (68, .bool (!seqB (shpS (t.take 5)) (clkF 5)))]) (fun _ => [stC b2 0 0 0 0 0 0 false 0, .cells b9 (some 76) [.str (toldF k), .str (dateF k), .str (clkF k)], .cells b11 (some 76) [.str (toldF 5), .str (dateF 5), .str (clkF 5)]]) (.take 0 (.take 1 (.take 2 (.take 3 (.take 4 (.take 5 (.take 6 (.take 7 (.take 9 (.take 10 (.br 8 (.take 11 (.take 12 (.done))) (.nil)))))))))))) (by kernel_rfl) ?_ ?_ (fun _ _ h => h.elim)
        · refine xn ?_
          repeat' (first | exact Le.n | refine Lc.mk ?_ ?_)
          all_goals intros
          all_goals exact ⟨(), env_w, sub_w⟩
        intro _
        by_cases h3 : t.length = 5
        · have hsp : IsSp t 5 5 := ⟨by decide, by decide, by omega, h2, .inl h3.symm⟩
          have hd0 : (t.drop 5).length = 0 := by rw [List.length_drop]; omega
          have hra2 := hA (t.take 5) (by rw [List.length_take]; omega)
          obtain ⟨v1, v2, -⟩ := und_clk (i := 5) (by decide) h2
          have hst := ref_stamped (G := G) hM hGL k 5 (by omega) (by decide) (outB 45 d) (outB 45 (t.take 5)) (t.drop 5) u1 u2 v1 v2 (by rw [List.length_drop]; omega)
          rw [whR_sp (by omega) he hsp] at hst
          generalize whR d true t = W at *
          obtain ⟨w, ew⟩ := W
          dsimp only at hst ⊢
          refine xn1 ?_
          intros
          refine dw_to (to_trans (to_sealc (i := 2) (k := 11) rfl rfl) (to_sealc (i := 1) (k := 9) rfl rfl)) ?_
          refine dw_pp mixed hC hGL false (fun _ _ => False) (fun _ : Unit => [(2, .own 0 (pS b2)), (3, .int .i64 ew.e)]) (fun _ => [stC b2 w.y w.m w.d w.h w.i w.s w.z w.o]) (.take 0 (.take 1 (.take 2 (.take 3 (.take 4 (.take 6 (.take 7 (.take 8 (.take 10 (.br 5 (.br 9 (.br 11 (.take 12 (.take 13 (.br 14 (.take 15 (.done)) (.nil)))) (.nil)) (.nil)) (.nil))))))))))) (by kernel_rfl) ?_ ?_ (fun _ _ h => h.elim)
          · refine xn ?_
            repeat' (first | exact Le.n | refine Lc.mk ?_ ?_)
            all_goals intros
            all_goals exact ⟨(), env_w, sub_w⟩
          · intro _
            exact xn0
        have hdn : (t.drop 5).length ≠ 0 := by rw [List.length_drop]; omega
        have hbz : byteAt (t.drop 5) 0 = byteAt t 5 := by rw [drop_at]
        have hb9 := byteAt_lt (t.drop 5) 0
        have hx := hX (byteAt (t.drop 5) 0 : Int) (by omega) (by omega)
        by_cases h4 : byteAt t 5 = 90 ∨ byteAt t 5 = 43 ∨ byteAt t 5 = 45
        · have hsp : IsSp t 5 5 := ⟨by decide, by decide, by omega, h2, .inr h4⟩
          have hix : 0 ≤ idxB [90, 43, 45] (byteAt (t.drop 5) 0 : Int) := idx_zone.2 (by omega)
          generalize idxB [90, 43, 45] (byteAt (t.drop 5) 0 : Int) = ix at *
          have hra2 := hA (t.take 5) (by rw [List.length_take]; omega)
          obtain ⟨v1, v2, -⟩ := und_clk (i := 5) (by decide) h2
          have hst := ref_stamped (G := G) hM hGL k 5 (by omega) (by decide) (outB 45 d) (outB 45 (t.take 5)) (t.drop 5) u1 u2 v1 v2 (by rw [List.length_drop]; omega)
          rw [whR_sp (by omega) he hsp] at hst
          generalize whR d true t = W at *
          obtain ⟨w, ew⟩ := W
          dsimp only at hst ⊢
          refine xn1 ?_
          intros
          refine dw_to (to_trans (to_sealc (i := 2) (k := 11) rfl rfl) (to_sealc (i := 1) (k := 9) rfl rfl)) ?_
          refine dw_pp mixed hC hGL false (fun _ _ => False) (fun _ : Unit => [(2, .own 0 (pS b2)), (3, .int .i64 ew.e)]) (fun _ => [stC b2 w.y w.m w.d w.h w.i w.s w.z w.o]) (.take 0 (.take 1 (.take 2 (.take 3 (.take 4 (.take 6 (.take 7 (.take 8 (.take 10 (.br 5 (.br 9 (.br 11 (.take 12 (.take 13 (.br 14 (.take 15 (.done)) (.nil)))) (.nil)) (.nil)) (.nil))))))))))) (by kernel_rfl) ?_ ?_ (fun _ _ h => h.elim)
          · refine xn ?_
            repeat' (first | exact Le.n | refine Lc.mk ?_ ?_)
            all_goals intros
            all_goals exact ⟨(), env_w, sub_w⟩
          · intro _
            exact xn0
        · have hns : ¬ IsSp t 5 (clkF 5).length := fun h => by have := h.hz; rw [hcl] at this; omega
          have hix : ¬ 0 ≤ idxB [90, 43, 45] (byteAt (t.drop 5) 0 : Int) := fun h => by have := idx_zone.1 h; omega
          generalize idxB [90, 43, 45] (byteAt (t.drop 5) 0 : Int) = ix at *
          refine xn1 ?_
          intros
          exact nxs 5 ⟨by decide, noSp_next hno hns⟩ (by decide) env_w sub_w
    · as_aux_lemma =>
        have hcl : (clkF 6).length = 4 := rfl
        have hcl2 : (clkF (1 + 5)).length = 4 := rfl
        refine xn1 ?_
        intro b11
        intros
        by_cases h1 : t.length < 4
        · have hns : ¬ IsSp t 6 (clkF 6).length := fun h => by have := h.hn; omega
          refine dw_pp mixed hC hGL true (fun _ _ => False) (fun _ : Unit => [(2, .own 0 (pS b2)), (4, .str d), (5, .str t), (6, .bool true), (26, .list 3 7 shapesF), (27, .int .i64 7), (28, .int .i64 (k : Nat)), (9, .own 1 (pS b9)), (11, .own 2 (pS b11)), (12, .int .i64 (4 : Nat)), (47, .list 3 (7 - 1) (fun i => shapesF (1 + i))), (48, .int .i64 6), (49, .int .i64 (5 : Nat)), (68, .bool true)]) (fun _ => [stC b2 0 0 0 0 0 0 false 0, .cells b9 (some 76) [.str (toldF k), .str (dateF k), .str (clkF k)], .cells b11 (some 76) [.str (toldF 6), .str (dateF 6), .str (clkF 6)]]) (.take 0 (.take 1 (.take 2 (.take 3 (.take 4 (.take 5 (.take 6 (.take 7 (.take 9 (.take 10 (.br 8 (.take 11 (.take 12 (.done))) (.nil)))))))))))) (by kernel_rfl) ?_ ?_ (fun _ _ h => h.elim)
          · refine xn ?_
            repeat' (first | exact Le.n | refine Lc.mk ?_ ?_)
            all_goals intros
            all_goals exact ⟨(), env_w, sub_w⟩
          intro _
          refine xn1 ?_
          intros
          exact nxs 6 ⟨by decide, noSp_next hno hns⟩ (by decide) env_w sub_w
        have hs2 := hSh (t.take 4) (by rw [List.length_take]; omega)
        by_cases h2 : ¬ shpS (t.take 4) = clkF 6
        · have hns : ¬ IsSp t 6 (clkF 6).length := fun h => h2 h.hs
          refine dw_pp mixed hC hGL true (fun _ _ => False) (fun _ : Unit => [(2, .own 0 (pS b2)), (4, .str d), (5, .str t), (6, .bool true), (26, .list 3 7 shapesF), (27, .int .i64 7), (28, .int .i64 (k : Nat)), (9, .own 1 (pS b9)), (11, .own 2 (pS b11)), (12, .int .i64 (4 : Nat)), (47, .list 3 (7 - 1) (fun i => shapesF (1 + i))), (48, .int .i64 6), (49, .int .i64 (5 : Nat)), (68, .bool (!seqB (shpS (t.take 4)) (clkF 6)))]) (fun _ => [stC b2 0 0 0 0 0 0 false 0, .cells b9 (some 76) [.str (toldF k), .str (dateF k), .str (clkF k)], .cells b11 (some 76) [.str (toldF 6), .str (dateF 6), .str (clkF 6)]]) (.take 0 (.take 1 (.take 2 (.take 3 (.take 4 (.take 5 (.take 6 (.take 7 (.take 9 (.take 10 (.br 8 (.take 11 (.take 12 (.done))) (.nil)))))))))))) (by kernel_rfl) ?_ ?_ (fun _ _ h => h.elim)
          · refine xn ?_
            repeat' (first | exact Le.n | refine Lc.mk ?_ ?_)
            all_goals intros
            all_goals exact ⟨(), env_w, sub_w⟩
          intro _
          refine xn1 ?_
          intros
          exact nxs 6 ⟨by decide, noSp_next hno hns⟩ (by decide) env_w sub_w
        have h2 : shpS (t.take 4) = clkF 6 := Decidable.not_not.1 h2
        refine dw_pp mixed hC hGL true (fun _ _ => False) (fun _ : Unit => [(2, .own 0 (pS b2)), (4, .str d), (5, .str t), (6, .bool true), (26, .list 3 7 shapesF), (27, .int .i64 7), (28, .int .i64 (k : Nat)), (9, .own 1 (pS b9)), (11, .own 2 (pS b11)), (12, .int .i64 (4 : Nat)), (47, .list 3 (7 - 1) (fun i => shapesF (1 + i))), (48, .int .i64 6), (49, .int .i64 (5 : Nat)), (68, .bool (!seqB (shpS (t.take 4)) (clkF 6)))]) (fun _ => [stC b2 0 0 0 0 0 0 false 0, .cells b9 (some 76) [.str (toldF k), .str (dateF k), .str (clkF k)], .cells b11 (some 76) [.str (toldF 6), .str (dateF 6), .str (clkF 6)]]) (.take 0 (.take 1 (.take 2 (.take 3 (.take 4 (.take 5 (.take 6 (.take 7 (.take 9 (.take 10 (.br 8 (.take 11 (.take 12 (.done))) (.nil)))))))))))) (by kernel_rfl) ?_ ?_ (fun _ _ h => h.elim)
        · refine xn ?_
          repeat' (first | exact Le.n | refine Lc.mk ?_ ?_)
          all_goals intros
          all_goals exact ⟨(), env_w, sub_w⟩
        intro _
        by_cases h3 : t.length = 4
        · have hsp : IsSp t 6 4 := ⟨by decide, by decide, by omega, h2, .inl h3.symm⟩
          have hd0 : (t.drop 4).length = 0 := by rw [List.length_drop]; omega
          have hra2 := hA (t.take 4) (by rw [List.length_take]; omega)
          obtain ⟨v1, v2, -⟩ := und_clk (i := 6) (by decide) h2
          have hst := ref_stamped (G := G) hM hGL k 6 (by omega) (by decide) (outB 45 d) (outB 45 (t.take 4)) (t.drop 4) u1 u2 v1 v2 (by rw [List.length_drop]; omega)
          rw [whR_sp (by omega) he hsp] at hst
          generalize whR d true t = W at *
          obtain ⟨w, ew⟩ := W
          dsimp only at hst ⊢
          refine xn1 ?_
          intros
          refine dw_to (to_trans (to_sealc (i := 2) (k := 11) rfl rfl) (to_sealc (i := 1) (k := 9) rfl rfl)) ?_
          refine dw_pp mixed hC hGL false (fun _ _ => False) (fun _ : Unit => [(2, .own 0 (pS b2)), (3, .int .i64 ew.e)]) (fun _ => [stC b2 w.y w.m w.d w.h w.i w.s w.z w.o]) (.take 0 (.take 1 (.take 2 (.take 3 (.take 4 (.take 6 (.take 7 (.take 8 (.take 10 (.br 5 (.br 9 (.br 11 (.take 12 (.take 13 (.br 14 (.take 15 (.done)) (.nil)))) (.nil)) (.nil)) (.nil))))))))))) (by kernel_rfl) ?_ ?_ (fun _ _ h => h.elim)
          · refine xn ?_
            repeat' (first | exact Le.n | refine Lc.mk ?_ ?_)
            all_goals intros
            all_goals exact ⟨(), env_w, sub_w⟩
          · intro _
            exact xn0
        have hdn : (t.drop 4).length ≠ 0 := by rw [List.length_drop]; omega
        have hbz : byteAt (t.drop 4) 0 = byteAt t 4 := by rw [drop_at]
        have hb9 := byteAt_lt (t.drop 4) 0
        have hx := hX (byteAt (t.drop 4) 0 : Int) (by omega) (by omega)
        by_cases h4 : byteAt t 4 = 90 ∨ byteAt t 4 = 43 ∨ byteAt t 4 = 45
        · have hsp : IsSp t 6 4 := ⟨by decide, by decide, by omega, h2, .inr h4⟩
          have hix : 0 ≤ idxB [90, 43, 45] (byteAt (t.drop 4) 0 : Int) := idx_zone.2 (by omega)
          generalize idxB [90, 43, 45] (byteAt (t.drop 4) 0 : Int) = ix at *
          have hra2 := hA (t.take 4) (by rw [List.length_take]; omega)
          obtain ⟨v1, v2, -⟩ := und_clk (i := 6) (by decide) h2
          have hst := ref_stamped (G := G) hM hGL k 6 (by omega) (by decide) (outB 45 d) (outB 45 (t.take 4)) (t.drop 4) u1 u2 v1 v2 (by rw [List.length_drop]; omega)
          rw [whR_sp (by omega) he hsp] at hst
          generalize whR d true t = W at *
          obtain ⟨w, ew⟩ := W
          dsimp only at hst ⊢
          refine xn1 ?_
          intros
          refine dw_to (to_trans (to_sealc (i := 2) (k := 11) rfl rfl) (to_sealc (i := 1) (k := 9) rfl rfl)) ?_
          refine dw_pp mixed hC hGL false (fun _ _ => False) (fun _ : Unit => [(2, .own 0 (pS b2)), (3, .int .i64 ew.e)]) (fun _ => [stC b2 w.y w.m w.d w.h w.i w.s w.z w.o]) (.take 0 (.take 1 (.take 2 (.take 3 (.take 4 (.take 6 (.take 7 (.take 8 (.take 10 (.br 5 (.br 9 (.br 11 (.take 12 (.take 13 (.br 14 (.take 15 (.done)) (.nil)))) (.nil)) (.nil)) (.nil))))))))))) (by kernel_rfl) ?_ ?_ (fun _ _ h => h.elim)
          · refine xn ?_
            repeat' (first | exact Le.n | refine Lc.mk ?_ ?_)
            all_goals intros
            all_goals exact ⟨(), env_w, sub_w⟩
          · intro _
            exact xn0
        · have hns : ¬ IsSp t 6 (clkF 6).length := fun h => by have := h.hz; rw [hcl] at this; omega
          have hix : ¬ 0 ≤ idxB [90, 43, 45] (byteAt (t.drop 4) 0 : Int) := fun h => by have := idx_zone.1 h; omega
          generalize idxB [90, 43, 45] (byteAt (t.drop 4) 0 : Int) = ix at *
          refine xn1 ?_
          intros
          exact nxs 6 ⟨by decide, noSp_next hno hns⟩ (by decide) env_w sub_w
    · as_aux_lemma =>
        refine xn1 ?_
        intros
        exact nxs (k + 1) (hcont hno) (by omega) env_w sub_w
end Go.Proofs.YtidcpikoeohfbaaGreatDoor
namespace Go.Proofs.YtidcpikoeohfbaaGreatDoor
open Go Go.RowKit
theorem isS_byte {c : Nat} (h : c < 256) : isS (bytesI [(c : Int)]) = letterB c := by
  have hb : byteAt (bytesI [(c : Int)]) 0 = c := by
    unfold bytesI byteAt
    simp
    omega
  rw [Bool.eq_iff_iff, isS]
  have hl : (bytesI [(c : Int)]).length = 1 := rfl
  rw [hl]
  simp only [Bool.and_eq_true, allB_t, hl, decide_eq_true_eq]
  constructor
  · intro h; have := h.1 0 (by omega); rwa [hb] at this
  · intro h; exact ⟨fun j hj => by rw [show j = 0 by omega, hb]; exact h, by omega, by omega⟩
theorem letter_dig {c : Int} (h : letterB c = true) (hc : c ≠ 45) : (48 ≤ c ∧ c ≤ 57) ↔ c ≤ 57 := by
  rw [letterB_t] at h; omega
theorem langE_cons {b : Bool} {a : Nat} {x : List UInt8} {xs : List (List UInt8)} : langE b a (x :: xs) = if (pieceX b a x).isNone then langE false (a + x.length + 1) xs else pieceX b a x := by rw [langE]
theorem not_mem_byte {x : List UInt8} (h : (45 : UInt8) ∉ x) {j : Nat} (hj : j < x.length) : byteAt x j ≠ 45 := by
  intro e
  rw [byteAt_getElem hj] at e
  exact h (by rw [← show x[j] = 45 from UInt8.toNat_inj.1 (by rw [e]; rfl)]; exact List.getElem_mem hj)
theorem pieceX_bad {first : Bool} {a : Nat} {x : List UInt8} {i : Nat} (hi : i < x.length) (hb : lgB first (byteAt x i : Int) = false) (h0 : ∀ j, j < i → lgB first (byteAt x j : Int) = true) : pieceX first a x = .at 3 ((a : Int) + i) := by
  have hf : fstB (fun c => !lgB first c) x = i := fstB_at hi (by rw [hb]; rfl) (fun j hj => by rw [h0 j hj]; rfl)
  unfold pieceX
  rw [hf, if_pos (by omega)]
theorem pieceX_good {first : Bool} {a : Nat} {x : List UInt8} (h0 : ∀ j, j < x.length → lgB first (byteAt x j : Int) = true) : pieceX first a x = if x.length = 0 then .at 7 a else if 8 < x.length then .at 4 a else .none := by
  have hf : fstB (fun c => !lgB first c) x = -1 := fstB_none (fun j hj => by rw [h0 j hj]; rfl)
  unfold pieceX
  rw [hf, if_neg (by omega)]
theorem splS_lens (c : UInt8) : ∀ s : List UInt8, (splS c s).length ≤ s.length + 1 ∧ ∀ p, p ∈ splS c s → p.length ≤ s.length
  | [] => ⟨Nat.le_refl _, fun p h => by simp [splS] at h; subst h; exact Nat.le_refl _⟩
  | x :: t => by
    obtain ⟨h1, h2⟩ := splS_lens c t
    by_cases hx : x = c
    · rw [splS, if_pos hx]
      refine ⟨by simp only [List.length_cons]; omega, fun p hp => ?_⟩
      rcases List.mem_cons.1 hp with rfl | hp
      · simp
      · have := h2 p hp; simp only [List.length_cons]; omega
    · rw [splS, if_neg hx]
      cases h3 : splS c t with
      | nil => exact absurd h3 (splS_ne c t)
      | cons q qs =>
        rw [h3] at h1 h2
        refine ⟨by simp only [List.length_cons] at *; omega, fun p hp => ?_⟩
        rcases List.mem_cons.1 hp with rfl | hp
        · have := h2 q (by simp); simp only [List.length_cons]; omega
        · have := h2 p (by simp [hp]); simp only [List.length_cons]; omega
set_option maxRecDepth 20000
set_option maxHeartbeats 4000000
set_option linter.unusedSimpArgs false
set_option linter.unusedVariables false
attribute [local irreducible] AWp AOps byteAt SrcOK OrOk GloAll FnSpec
attribute [local irreducible] splS langE lgB isS letterB pieceX
theorem ref_LangRight {G : Glo} {m : Int} (hM : GloAll G (maxTy m)) (s : List UInt8) (hl : s.length ≤ 3000) : FnIs Tryz.prog G 18 [.str s] (.agg [.int .i64 (langX s).e, .int .i64 (langX s).p]) := by
  have h1 := split_list (G := G) hM s 45 (by omega)
  have hgd := ref_Good (G := G)
  have hmem : ∀ k, k < (splS 45 s).length → (45 : UInt8) ∉ (splS 45 s).getD k [] := fun k hk => by
    rw [List.getD_eq_getElem?_getD, List.getElem?_eq_getElem hk]
    exact splS_mem (List.getElem_mem hk)
  have hX : langX s = langE true 0 (splS 45 s) := rfl
  have hlen : ∀ p, p ∈ splS 45 s → p.length ≤ 3000 := fun p hp => Nat.le_trans ((splS_lens 45 s).2 p hp) hl
  have hPl : (splS 45 s).length ≤ 3001 := by have := (splS_lens 45 s).1; omega
  generalize splS 45 s = P at *
  have hGL : GloAll G [] := gloAll_nil
  refine fn_x Tryz.func18 Tryz.call18 rfl rfl rfl rfl hGL ?_
  intro C hC
  repeat' (first
    | (conv => whnf); first
      | refine .w ?_ | refine .v ?_ | apply sc_true | apply sc_false
      | (first | apply sc_lt | apply sc_nlt | apply sc_eq | apply sc_neq | apply sc_nil | apply sc_nnil | apply sc_seq | apply sc_nseq) <;> (intro hb; try exact dd hb)
      | apply sc_not | apply sc_or | (apply sc_i <;> intro hb)
      | (apply bx_i; intro hbd) | (apply gt_i; assumption; exact rfl)
      | (apply cx_is; first | exact h1) | (apply cx_do (i := 0) rfl; first | exact h1)
      | (apply ab_i; intro bl) | (apply as_i; intro va vk vc hva) | (apply av_i; intro v) | (apply ac_i; intro bl cap hcap)
      | apply bo_l | (apply nx_i <;> intro hnx) | (apply Ia.hit; assumption) | (apply Ia.miss; assumption)
      | (apply rt_is; exact rfl) | exact rt_w | (apply iv; assumption)
      | apply dw_q mixed hC hGL (by kernel_rfl) | (apply cq; assumption; (first | exact h1); exact rfl))
  all_goals (try conv => whnf)
  rename Nat => bl0
  refine lp hC hGL (fun (x : Nat × Nat) => [(2, .own 0 (.pointer (some ⟨bl0, 0, none⟩))), (3, .int .i64 x.2), (9, .list 1 P.length (strsF P)), (10, .int .i64 P.length), (11, .int .i64 x.1)]) (fun _ => [.cells bl0 (some 29) [.int .i64 0, .int .i64 0]]) (fun x => x.1 ≤ P.length ∧ x.2 ≤ 4000 * x.1 ∧ langX s = langE (decide (x.1 = 0)) x.2 (P.drop x.1)) (fun x => P.length - x.1) (0, 0) ?_ env_w rfl ?_
  · exact ⟨Nat.zero_le _, Nat.zero_le _, hX⟩
  rintro ⟨k, a⟩ ⟨g1, g2, g3⟩
  dsimp only at g1 g2 g3 ⊢
  by_cases hk : k < P.length
  · have hx : ∃ x, P.getD k [] = x ∧ P.drop k = x :: P.drop (k + 1) ∧ (45 : UInt8) ∉ x ∧ x.length ≤ 3000 := by
      refine ⟨P.getD k [], rfl, ?_, hmem k hk, ?_⟩
      · rw [List.drop_eq_getElem_cons hk, List.getD_eq_getElem?_getD, List.getElem?_eq_getElem hk]; rfl
      · rw [List.getD_eq_getElem?_getD, List.getElem?_eq_getElem hk]; exact hlen _ (List.getElem_mem hk)
    obtain ⟨x, hx, hd, hm, hxl⟩ := hx
    have hxe : strsF P k = .str x := by unfold strsF; rw [hx]
    rw [hd, langE_cons] at g3
    have hkl : k ≤ 4000 * k := by omega
    repeat' (first
      | (conv => whnf); first
        | refine .w ?_ | refine .v ?_ | apply sc_true | apply sc_false
        | (first | apply sc_lt | apply sc_nlt | apply sc_eq | apply sc_neq | apply sc_nil | apply sc_nnil | apply sc_seq | apply sc_nseq) <;> (intro hb; try exact dd hb)
        | apply sc_not | apply sc_or | (apply sc_i <;> intro hb)
        | (apply bx_i; intro hbd) | (apply gt_i; assumption; exact rfl)
        | (apply cx_is; first | exact hgd) | (apply cx_do (i := 0) rfl; first | exact hgd)
        | (apply ab_i; intro bl) | (apply as_i; intro va vk vc hva) | (apply av_i; intro v) | (apply ac_i; intro bl cap hcap)
        | apply bo_l | (apply nx_i <;> intro hnx) | (apply Ia.hit; assumption) | (apply Ia.miss; assumption)
        | (apply rt_is; exact rfl) | exact rt_w | (apply iv; assumption)
        | apply dw_q mixed hC hGL (by kernel_rfl) | (apply cq; assumption; (first | exact hgd); exact rfl))
    all_goals (try conv => whnf)
    rw [hx] at *
    rw [hxe] at *
    refine lp hC hGL (fun (i : Nat) => [(2, .own 0 (.pointer (some ⟨bl0, 0, none⟩))), (3, .int .i64 a), (4, .int .i64 k), (5, .str x), (9, .list 1 P.length (strsF P)), (10, .int .i64 P.length), (11, .int .i64 k), (17, .own 1 (.slice (some ⟨bl, 0, none⟩) x.length cap)), (18, .int .i64 x.length), (19, .int .i64 i)]) (fun _ => [.cells bl0 (some 29) [.int .i64 0, .int .i64 0], .buf bl x cap]) (fun i => i ≤ x.length ∧ ∀ j, j < i → lgB (decide (k = 0)) (byteAt x j : Int) = true) (fun i => x.length - i) 0 ?_ env_w rfl ?_
    · exact ⟨Nat.zero_le _, by intro j hj; omega⟩
    rintro i ⟨hi, hb0⟩
    have hI : i < x.length → FnIs Tryz.prog G 46 [.str (bytesI [(byteAt x i : Int)])] (.bool (letterB (byteAt x i))) := fun h => by
      have := ref_Is (G := G) (bytesI [(byteAt x i : Int)]) (by show 1 ≤ _; omega)
      rwa [isS_byte (byteAt_lt _ _)] at this
    have hW := ref_within (G := G) (byteAt x i : Int) 48 57
    repeat' (first
      | (conv => whnf); first
        | refine .w ?_ | refine .v ?_ | apply sc_true | apply sc_false
        | (first | apply sc_lt | apply sc_nlt | apply sc_eq | apply sc_neq | apply sc_nil | apply sc_nnil | apply sc_seq | apply sc_nseq) <;> (intro hb; try exact dd hb)
        | apply sc_not | apply sc_or | (apply sc_i <;> intro hb)
        | (apply bx_i; intro hbd) | (apply gt_i; assumption; exact rfl)
        | (apply cx_is; first | exact hgd) | (apply cx_do (i := 0) rfl; first | exact hgd)
        | (apply ab_i; intro bl) | (apply as_i; intro va vk vc hva) | (apply av_i; intro v) | (apply ac_i; intro bl cap hcap)
        | apply bo_l | (apply nx_i <;> intro hnx) | (apply Ia.hit; assumption) | (apply Ia.miss; assumption)
        | (apply rt_is; exact rfl) | exact rt_w | (apply iv; assumption)
        | apply dw_q mixed hC hGL (by kernel_rfl) | (apply cq; assumption; (first | exact hgd); exact rfl))
    all_goals (try conv => whnf)
    · refine op1_run hC hGL (rv_bytes [_] rfl (by intro v hv; simp only [List.mem_cons, List.not_mem_nil, or_false] at hv; omega) rfl rfl rfl rfl rfl rfl) rfl rfl ?_
      repeat' (first
        | (conv => whnf); first
          | refine .w ?_ | refine .v ?_ | apply sc_true | apply sc_false
          | (first | apply sc_lt | apply sc_nlt | apply sc_eq | apply sc_neq | apply sc_nil | apply sc_nnil | apply sc_seq | apply sc_nseq) <;> (intro hb; try exact dd hb)
          | apply sc_not | apply sc_or | (apply sc_i <;> intro hb)
          | (apply bx_i; intro hbd) | (apply gt_i; assumption; exact rfl)
          | (apply cx_is; first | exact hI (by omega) | exact hW) | (apply cx_do (i := 0) rfl; first | exact hI (by omega) | exact hW)
          | (apply ab_i; intro bl) | (apply as_i; intro va vk vc hva) | (apply av_i; intro v) | (apply ac_i; intro bl cap hcap)
          | apply bo_l | (apply nx_i <;> intro hnx) | (apply Ia.hit; assumption) | (apply Ia.miss; assumption)
          | (apply rt_is; exact rfl) | exact rt_w | (apply iv; assumption)
          | apply dw_q mixed hC hGL (by kernel_rfl) | (apply cq; assumption; (first | exact hI (by omega) | exact hW); exact rfl))
      all_goals (try conv => whnf)
      · apply rt_is
        rw [Bool.and_eq_true, decide_eq_true_eq, decide_eq_true_eq] at hb
        rw [g3, pieceX_bad (by omega) (lgB_f.2 (.inr ⟨by simp; omega, by omega⟩)) hb0]
        rfl
      · rw [Bool.and_eq_false_iff, decide_eq_false_iff_not, decide_eq_false_iff_not] at hb
        refine nxt (i + 1) ?_ ?_ env_w rfl
        · refine ⟨by omega, below_succ hb0 (lgB_t.2 ⟨by assumption, fun _ => ?_⟩)⟩
          have := (letter_dig (c := (byteAt x i : Int)) (by assumption) (by have := not_mem_byte hm (j := i) (by omega); omega))
          omega
        · omega
      · refine nxt (i + 1) ?_ ?_ env_w rfl
        · exact ⟨by omega, below_succ hb0 (lgB_t.2 ⟨by assumption, fun h => by simp at h; omega⟩)⟩
        · omega
      · apply rt_is
        rw [g3, pieceX_bad (by omega) (lgB_f.2 (.inl hb)) hb0]
        rfl
    · apply rt_is
      have hp := pieceX_good (first := decide (k = 0)) (a := a) (x := x) (fun j hj => hb0 j (by omega))
      rw [if_pos (by omega)] at hp
      rw [g3, hp]
      rfl
    · apply rt_is
      have hp := pieceX_good (first := decide (k = 0)) (a := a) (x := x) (fun j hj => hb0 j (by omega))
      rw [if_neg (by omega), if_pos (by omega)] at hp
      rw [g3, hp]
      rfl
    · have hp := pieceX_good (first := decide (k = 0)) (a := a) (x := x) (fun j hj => hb0 j (by omega))
      rw [if_neg (by omega), if_neg (by omega)] at hp
      rw [hp, if_pos (show Err.none.isNone = true from rfl)] at g3
      refine nxs (k + 1, a + x.length + 1) ⟨by omega, by dsimp only; omega, ?_⟩ (by dsimp only; omega) ⟨rfl, ?_, rfl, rfl, rfl, trivial⟩ (by repeat (first | exact List.nil_sublist _ | apply List.Sublist.cons_cons | apply List.Sublist.cons))
      · dsimp only
        rw [g3]
        simp
      · exact congrArg (fun z => some (AVal.int .i64 z)) (by dsimp only; omega)
  · repeat' (first
      | (conv => whnf); first
        | refine .w ?_ | refine .v ?_ | apply sc_true | apply sc_false
        | (first | apply sc_lt | apply sc_nlt | apply sc_eq | apply sc_neq | apply sc_nil | apply sc_nnil | apply sc_seq | apply sc_nseq) <;> (intro hb; try exact dd hb)
        | apply sc_not | apply sc_or | (apply sc_i <;> intro hb)
        | (apply bx_i; intro hbd) | (apply gt_i; assumption; exact rfl)
        | (apply cx_is; first | exact hgd) | (apply cx_do (i := 0) rfl; first | exact hgd)
        | (apply ab_i; intro bl) | (apply as_i; intro va vk vc hva) | (apply av_i; intro v) | (apply ac_i; intro bl cap hcap)
        | apply bo_l | (apply nx_i <;> intro hnx) | (apply Ia.hit; assumption) | (apply Ia.miss; assumption)
        | (apply rt_is; exact rfl) | exact rt_w | (apply iv; assumption)
        | apply dw_q mixed hC hGL (by kernel_rfl) | (apply cq; assumption; (first | exact hgd); exact rfl))
    all_goals (try conv => whnf)
    apply rt_is
    rw [g3, List.drop_eq_nil_of_le (by omega), langE]
    rfl
end Go.Proofs.YtidcpikoeohfbaaGreatDoor
