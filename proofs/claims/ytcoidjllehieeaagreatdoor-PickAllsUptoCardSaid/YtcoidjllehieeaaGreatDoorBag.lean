/- Parts of the proof of pickAlls_card: Stf, Stg, Cpy, Clr, Pkb, Pkc, Pkd, Pke, Pkf, Pkg, Pkh, Wid, Vld, Vlg, Big, Pki, End, Han. -/
import Derived.Laws.MakeOwn
import Derived.Laws.IdiomCopy
import Derived.Lib.SliceRun
import GoSem.PinnedTables
import Derived.Laws.StructEq
import Derived.Test.YtcoidjllehieeaaGreatDoorRows
import Derived.ProofKit
import Derived.LaidMore
import Derived.Lay
import Derived.Stop.Joined
import Derived.LaidSub
import Derived.LaidHandle
import Derived.OpenShut
import Derived.Test.YtcoidjllehieeaaGreatDoorBaf
import Derived.Test.YtcoidjllehieeaaGreatDoorBad
import Derived.Test.YtcoidjllehieeaaGreatDoorBae
set_option linter.unusedVariables false
set_option linter.unusedSimpArgs false
namespace Go.Proofs.YtcoidjllehieeaaGreatDoor
open Go Go.RowKit
set_option maxRecDepth 20000
set_option maxHeartbeats 4000000
set_option linter.unusedSimpArgs false
set_option linter.unusedVariables false
attribute [local irreducible] AWp AOps byteAt SrcOK OrOk GloAll FnSpec
attribute [local irreducible] natsC swp srt
section
variable {G : Glo} (f : Nat) (cc : List AVal) (w : Nat → Int) (K : Nat) (hf : CmpIs G f cc w K) (eT : Option TypeId) (b m cap : Nat)
include hf
theorem sym_more (k : Nat) (ih : SymIs G f cc w K eT b m cap k) (hml : m ≤ 1000000) (A c e : Nat) (U V P Q : List Nat) (hk : U.length + V.length ≤ k + 1) (hU0 : 2 ≤ U.length) (hV0 : 2 ≤ V.length) (hm : m = (P ++ (U ++ (V ++ Q))).length) (hU : U.Pairwise (lexL w)) (hV : V.Pairwise (lexL w)) (hl : Low U V) (hUK : ∀ x ∈ U, x < K) (hVK : ∀ x ∈ V, x < K) (hA : A = P.length) (hc : c = A + U.length) (he : e = c + V.length) :
    FnSpec Tryz.prog G 51 [.raw (vlN b m cap), .int .i64 (A : Int), .int .i64 (c : Int), .int .i64 (e : Int), .func (.func f) [] [.rop cc 0]] [rwN eT b m cap (P ++ (U ++ (V ++ Q)))] (fun r H => r = .ret (.tuple []) ∧ H = [rwN eT b m cap (P ++ (srt w (U ++ V) ++ Q))]) := by
  have hw := fun y => hf.2 y
  have hm2 : m = P.length + U.length + V.length + Q.length := by rw [hm]; simp only [List.length_append]; omega
  obtain ⟨M, hM⟩ : ∃ M, M = (A + e) / 2 := ⟨_, rfl⟩
  obtain ⟨s0, r0, hs0⟩ : ∃ s0 r0 : Nat, (M < c ∧ s0 = M - V.length ∧ r0 = M) ∨ (c ≤ M ∧ s0 = A ∧ r0 = c) := by
    rcases Nat.lt_or_ge M c with h | h
    · exact ⟨_, _, .inl ⟨h, rfl, rfl⟩⟩
    · exact ⟨_, _, .inr ⟨h, rfl, rfl⟩⟩
  have hr : A ≤ s0 ∧ s0 ≤ r0 ∧ r0 ≤ c ∧ r0 ≤ M ∧ M ≤ s0 + V.length := by omega
  have hMl : A + 2 ≤ M ∧ M + 2 ≤ e := by omega
  have hGL : GloAll G [] := gloAll_nil
  refine fn_own [(0, 0, vlN b m cap)] Tryz.func51 Tryz.call51 rfl rfl rfl rfl (by repeat (first | exact trivial | refine And.intro ⟨rfl, rfl⟩ ?_)) ?_
  intro C hC
  obtain ⟨L, hL⟩ : ∃ l, l = P ++ (U ++ (V ++ Q)) := ⟨_, rfl⟩
  rw [← hL] at hm ⊢
  refine cut hC hGL [(0, .own 0 (vlN b m cap)), (1, .int .i64 (A : Int)), (2, .int .i64 (c : Int)), (3, .int .i64 (e : Int)), (4, .func (.func f) [] [.rop cc 0])] [rwN eT b m cap L] True ?_ fun _ => ?_
  · exact xn0
  refine cut hC hGL [(0, .own 0 (vlN b m cap)), (1, .int .i64 (A : Int)), (2, .int .i64 (c : Int)), (3, .int .i64 (e : Int)), (4, .func (.func f) [] [.rop cc 0])] [rwN eT b m cap L] True ?_ fun _ => ?_
  · exact xn0
  refine cuty hC hGL (fun _ : Unit => [(0, .own 0 (vlN b m cap)), (1, .int .i64 (A : Int)), (2, .int .i64 (c : Int)), (3, .int .i64 (e : Int)), (4, .func (.func f) [] [.rop cc 0]), (18, .int .i64 (M : Int))]) (fun _ => [rwN eT b m cap L]) (fun _ => True) ?_ fun _ _ => ?_
  · refine xn1 ?_
    exact cy () trivial ⟨rfl, rfl, rfl, rfl, rfl, iN (by omega), trivial⟩ rfl
  refine cut hC hGL [(0, .own 0 (vlN b m cap)), (1, .int .i64 (A : Int)), (2, .int .i64 (c : Int)), (3, .int .i64 (e : Int)), (4, .func (.func f) [] [.rop cc 0]), (18, .int .i64 (M : Int)), (19, .int .i64 ((M + c : Nat) : Int))] [rwN eT b m cap L] True ?_ fun _ => ?_
  · exact xn0
  refine cut hC hGL [(0, .own 0 (vlN b m cap)), (1, .int .i64 (A : Int)), (2, .int .i64 (c : Int)), (3, .int .i64 (e : Int)), (4, .func (.func f) [] [.rop cc 0]), (18, .int .i64 (M : Int)), (19, .int .i64 ((M + c : Nat) : Int))] [rwN eT b m cap L] True ?_ fun _ => ?_
  · exact xn0
  refine cuty hC hGL (fun _ : Unit => [(0, .own 0 (vlN b m cap)), (1, .int .i64 (A : Int)), (2, .int .i64 (c : Int)), (3, .int .i64 (e : Int)), (4, .func (.func f) [] [.rop cc 0]), (18, .int .i64 (M : Int)), (19, .int .i64 ((M + c : Nat) : Int)), (20, .int .i64 (s0 : Int)), (21, .int .i64 (r0 : Int))]) (fun _ => [rwN eT b m cap L]) (fun _ => True) ?_ fun _ _ => ?_
  · refine xn ?_
    repeat' (first | exact Le.n | refine Lc.mk ?_ ?_)
    all_goals intros
    · exact cy () trivial ⟨rfl, rfl, rfl, rfl, rfl, rfl, rfl, iN (by omega), iN (by omega), trivial⟩ rfl
    · exact cy () trivial ⟨rfl, rfl, rfl, rfl, rfl, rfl, rfl, iN (by omega), iN (by omega), trivial⟩ rfl
  refine cuty hC hGL (fun _ : Unit => [(0, .own 0 (vlN b m cap)), (1, .int .i64 (A : Int)), (2, .int .i64 (c : Int)), (3, .int .i64 (e : Int)), (4, .func (.func f) [] [.rop cc 0]), (18, .int .i64 (M : Int)), (19, .int .i64 ((M + c : Nat) : Int)), (20, .int .i64 (s0 : Int)), (21, .int .i64 (r0 : Int)), (22, .int .i64 ((M + c - 1 : Nat) : Int))]) (fun _ => [rwN eT b m cap L]) (fun _ => True) ?_ fun _ _ => ?_
  · refine xn1 ?_
    exact cy () trivial ⟨rfl, rfl, rfl, rfl, rfl, rfl, rfl, rfl, rfl, iN (by omega), trivial⟩ rfl
  refine cuty hC hGL (fun st : Nat => [(0, .own 0 (vlN b m cap)), (1, .int .i64 (A : Int)), (2, .int .i64 (c : Int)), (3, .int .i64 (e : Int)), (4, .func (.func f) [] [.rop cc 0]), (18, .int .i64 (M : Int)), (19, .int .i64 ((M + c : Nat) : Int)), (20, .int .i64 (st : Int))]) (fun _ => [rwN eT b m cap L]) (fun st => s0 ≤ st ∧ st ≤ r0 ∧ (∀ j, s0 ≤ j → j < st → w (U.getD (j - A) 0) ≤ w (V.getD (M - 1 - j) 0)) ∧ (∀ j, st ≤ j → j < r0 → w (V.getD (M - 1 - j) 0) < w (U.getD (j - A) 0))) ?_ ?_
  · refine xn1 ?_
    intros
    refine lp hC hGL (fun z : Nat × Nat => [(0, .own 0 (vlN b m cap)), (1, .int .i64 (A : Int)), (2, .int .i64 (c : Int)), (3, .int .i64 (e : Int)), (4, .func (.func f) [] [.rop cc 0]), (18, .int .i64 (M : Int)), (19, .int .i64 ((M + c : Nat) : Int)), (20, .int .i64 (z.1 : Int)), (21, .int .i64 (z.2 : Int)), (22, .int .i64 ((M + c - 1 : Nat) : Int))]) (fun _ => [rwN eT b m cap L]) (fun z => s0 ≤ z.1 ∧ z.1 ≤ z.2 ∧ z.2 ≤ r0 ∧ (∀ j, s0 ≤ j → j < z.1 → w (U.getD (j - A) 0) ≤ w (V.getD (M - 1 - j) 0)) ∧ (∀ j, z.2 ≤ j → j < r0 → w (V.getD (M - 1 - j) 0) < w (U.getD (j - A) 0))) (fun z => z.2 - z.1) (s0, r0) ⟨Nat.le_refl _, hr.2.1, Nat.le_refl _, fun j h1 h2 => by dsimp only at h2; omega, fun j h1 h2 => by dsimp only at h1; omega⟩ env_w rfl ?_
    rintro ⟨p, q⟩ ⟨h1, h2, h3, h4, h5⟩
    dsimp only at h1 h2 h3 h4 h5 ⊢
    by_cases hpq : p < q
    · obtain ⟨h, hh⟩ : ∃ h, h = (p + q) / 2 := ⟨_, rfl⟩
      have hlen : L.length = m := hm.symm
      have hi1 : h - A < U.length := by omega
      have hi2 : M - 1 - h < V.length := by omega
      have e1 : L.getD h 0 = U.getD (h - A) 0 := by rw [hL, getD_right (j := h - A) (by omega), getD_left hi1]
      have e2 : L.getD (M + c - 1 - h) 0 = V.getD (M - 1 - h) 0 := by rw [hL, getD_right (j := M + c - 1 - h - A) (by omega), getD_right (j := M - 1 - h) (by omega), getD_left hi2]
      have g1 : (natsC L)[(p + q) / 2]? = some (.int .i64 (U.getD (h - A) 0 : Nat)) := by
        rw [← hh, ← e1]; exact natsC_get (by omega)
      have hx : (((M + c - 1 : Nat) : Int) - ((p : Int) + (q : Int)) / 2).toNat = M + c - 1 - h := by omega
      have g2 : (natsC L)[(((M + c - 1 : Nat) : Int) - ((p : Int) + (q : Int)) / 2).toNat]? = some (.int .i64 (V.getD (M - 1 - h) 0 : Nat)) := by
        rw [hx, ← e2]; exact natsC_get (by omega)
      have hcm := hf.1 (V.getD (M - 1 - h) 0) (U.getD (h - A) 0) (hVK _ (getD_mem hi2)) (hUK _ (getD_mem hi1))
      have hsp : RowAt (vlN b m cap) b m ∧ (p + q) / 2 < m * 1 := ⟨⟨_, rfl⟩, by omega⟩
      have hsp2 : RowAt (vlN b m cap) b m ∧ (((M + c - 1 : Nat) : Int) - ((p : Int) + (q : Int)) / 2).toNat < m * 1 := ⟨⟨_, rfl⟩, by omega⟩
      have hw1 := hw (U.getD (h - A) 0)
      have hw2 := hw (V.getD (M - 1 - h) 0)
      refine xn1 ?_
      intros
      refine dw_p mixed hC hGL false (fun _ : Unit => [(0, .own 0 (vlN b m cap)), (1, .int .i64 (A : Int)), (2, .int .i64 (c : Int)), (3, .int .i64 (e : Int)), (4, .func (.func f) [] [.rop cc 0]), (18, .int .i64 (M : Int)), (19, .int .i64 ((M + c : Nat) : Int)), (20, .int .i64 (p : Int)), (21, .int .i64 (q : Int)), (22, .int .i64 ((M + c - 1 : Nat) : Int)), (23, .int .i64 (h : Int)), (171, .bool (!ltB (w (V.getD (M - 1 - h) 0) - w (U.getD (h - A) 0)) 0))]) (fun _ => [rwN eT b m cap L]) (.take 0 (.take 1 (.take 2 (.take 3 (.take 4 (.take 5 (.take 7 (.take 8 (.take 9 (.br 6 (.br 10 (.br 11 (.take 12 (.take 13 (.done))) (.nil)) (.nil)) (.br 10 (.br 6 (.br 11 (.take 12 (.take 13 (.done))) (.nil)) (.nil)) (.nil)))))))))))) (by kernel_rfl) ?_ ?_
      · refine xn ?_
        repeat' (first | exact Le.n | refine Lc.mk ?_ ?_)
        all_goals intros
        all_goals exact ⟨(), ⟨rfl, rfl, rfl, rfl, rfl, rfl, rfl, rfl, rfl, rfl, iN (by omega), rfl, trivial⟩, rfl⟩
      intro _
      refine xn ?_
      repeat' (first | exact Le.n | refine Lc.mk ?_ ?_)
      all_goals intros
      · refine nxt (h + 1, q) ⟨?_, ?_, h3, ?_, h5⟩ ?_ env_w rfl
        any_goals (dsimp only; omega)
        intro j hj hh
        dsimp only at hh
        have := pw_le hU (i := j - A) (j := h - A) (by omega) (by omega)
        have := pw_le hV (i := M - 1 - h) (j := M - 1 - j) (by omega) (by omega)
        omega
      · refine nxt (p, h) ⟨h1, ?_, ?_, h4, ?_⟩ ?_ env_w rfl
        any_goals (dsimp only; omega)
        intro j hj hh
        dsimp only at hj hh
        have := pw_le hU (i := h - A) (j := j - A) (by omega) (by omega)
        have := pw_le hV (i := M - 1 - j) (j := M - 1 - h) (by omega) (by omega)
        omega
    · obtain rfl : p = q := by omega
      refine xn1 ?_
      intros
      exact cy p ⟨h1, h3, h4, h5⟩
  rintro st ⟨h1, h2, h3, h4⟩
  obtain ⟨s, hs⟩ : ∃ s, s = st - A := ⟨_, rfl⟩
  obtain ⟨d, hd⟩ : ∃ d, d = M - st := ⟨_, rfl⟩
  have hsl : s ≤ U.length ∧ d ≤ V.length ∧ st = A + s ∧ M = A + s + d := by omega
  have hsp := sym_at (w := w) s d hU hV hl hsl.1 hsl.2.1 (fun g1 g2 => by
    have := h3 (st - 1) (by omega) (by omega)
    rwa [show st - 1 - A = s - 1 by omega, show M - 1 - (st - 1) = d by omega] at this) (fun g1 g2 => by
    have := h4 st (by omega) (by omega)
    rwa [show st - A = s by omega, show M - 1 - st = d - 1 by omega] at this)
  have hu' := hU
  have hv' := hV
  rw [← List.take_append_drop s U, List.pairwise_append] at hu'
  rw [← List.take_append_drop d V, List.pairwise_append] at hv'
  have l1 : Low (U.take s) (V.take d) := fun a ha b hb => hl a (List.mem_of_mem_take ha) b (List.mem_of_mem_take hb)
  have l2 : Low (U.drop s) (V.drop d) := fun a ha b hb => hl a (List.mem_of_mem_drop ha) b (List.mem_of_mem_drop hb)
  have z1 : (U.take s).length = s := by rw [List.length_take]; omega
  have z2 : (V.take d).length = d := by rw [List.length_take]; omega
  have z3 : (U.drop s).length = U.length - s := List.length_drop
  have z4 : (V.drop d).length = V.length - d := List.length_drop
  have z5 : (srt w (U.take s ++ V.take d)).length = s + d := by rw [srt_length, List.length_append, z1, z2]
  have y1 : U.take s ++ U.drop s = U := List.take_append_drop s U
  have y2 : V.take d ++ V.drop d = V := List.take_append_drop d V
  have kU1 : ∀ x ∈ U.take s, x < K := fun x hx => hUK x (List.mem_of_mem_take hx)
  have kU2 : ∀ x ∈ U.drop s, x < K := fun x hx => hUK x (List.mem_of_mem_drop hx)
  have kV1 : ∀ x ∈ V.take d, x < K := fun x hx => hVK x (List.mem_of_mem_take hx)
  have kV2 : ∀ x ∈ V.drop d, x < K := fun x hx => hVK x (List.mem_of_mem_drop hx)
  rw [hsp]
  clear hsp h3 h4 hU hV hs0 hr hl hUK hVK
  generalize U.take s = U1 at *
  generalize U.drop s = U2 at *
  generalize V.take d = V1 at *
  generalize V.drop d = V2 at *
  obtain ⟨hu1, hu2, -⟩ := hu'
  obtain ⟨hv1, hv2, -⟩ := hv'
  subst y1 y2
  simp only [List.length_append] at hk hU0 hV0 hm2 hc he hsl z3 z4
  obtain ⟨L1, hL1⟩ : ∃ l, l = P ++ (U1 ++ (V1 ++ (U2 ++ (V2 ++ Q)))) := ⟨_, rfl⟩
  obtain ⟨L2, hL2⟩ : ∃ l, l = P ++ (srt w (U1 ++ V1) ++ (U2 ++ (V2 ++ Q))) := ⟨_, rfl⟩
  refine cuty hC hGL (fun _ : Unit => [(0, .own 0 (vlN b m cap)), (1, .int .i64 (A : Int)), (2, .int .i64 (c : Int)), (3, .int .i64 (e : Int)), (4, .func (.func f) [] [.rop cc 0]), (18, .int .i64 (M : Int)), (20, .int .i64 (st : Int)), (24, .int .i64 ((c + d : Nat) : Int))]) (fun _ => [rwN eT b m cap L]) (fun _ => True) ?_ fun _ _ => ?_
  · refine xn1 ?_
    exact cy () trivial ⟨rfl, rfl, rfl, rfl, rfl, rfl, rfl, iN (by omega), trivial⟩ rfl
  refine cuty hC hGL (fun _ : Unit => [(0, .own 0 (vlN b m cap)), (1, .int .i64 (A : Int)), (2, .int .i64 (c : Int)), (3, .int .i64 (e : Int)), (4, .func (.func f) [] [.rop cc 0]), (18, .int .i64 (M : Int)), (20, .int .i64 (st : Int)), (24, .int .i64 ((c + d : Nat) : Int))]) (fun _ => [rwN eT b m cap L1]) (fun _ => True) ?_ fun _ _ => ?_
  · by_cases g : st < c ∧ 0 < d
    · have hrt := rotate_cmp (G := G) f cc eT b m cap (st : Int) (c : Int) ((c + d : Nat) : Int) (P ++ U1) U2 V1 (V2 ++ Q) (by simp only [List.length_append]; omega) (by rw [List.length_append]; omega) (by omega) (by omega) (by omega) (by omega) hml
      rw [List.append_assoc, List.append_assoc, ← hL1, show P ++ (U1 ++ (U2 ++ (V1 ++ (V2 ++ Q)))) = L by rw [hL]; simp only [List.append_assoc]] at hrt
      refine xn1 ?_
      intros
      exact cy () trivial env_w rfl
    · have e1 : L = L1 := by
        rw [hL, hL1]
        by_cases g2 : st < c
        · obtain rfl := List.eq_nil_of_length_eq_zero (show V1.length = 0 by omega)
          simp only [List.append_assoc, List.nil_append, List.append_nil]
        · obtain rfl := List.eq_nil_of_length_eq_zero (show U2.length = 0 by omega)
          simp only [List.append_assoc, List.nil_append, List.append_nil]
      rw [e1]
      refine xn ?_
      repeat' (first | exact Le.n | refine Lc.mk ?_ ?_)
      all_goals intros
      all_goals exact cy () trivial env_w rfl
  refine cuty hC hGL (fun _ : Unit => [(0, .own 0 (vlN b m cap)), (1, .int .i64 (A : Int)), (2, .int .i64 (c : Int)), (3, .int .i64 (e : Int)), (4, .func (.func f) [] [.rop cc 0]), (18, .int .i64 (M : Int)), (20, .int .i64 (st : Int)), (24, .int .i64 ((c + d : Nat) : Int))]) (fun _ => [rwN eT b m cap L2]) (fun _ => True) ?_ fun _ _ => ?_
  · by_cases g : 0 < s ∧ 0 < d
    · have hi := ih (A : Int) (st : Int) (M : Int) L1 L2 P U1 V1 (U2 ++ (V2 ++ Q)) (by omega) (by omega) (by omega) hL1 hL2 (by rw [hL1]; simp only [List.length_append]; omega) hu1 hv1 l1 kU1 kV1 (by omega) (by omega) (by omega)
      refine xn1 ?_
      intros
      exact cy () trivial env_w rfl
    · have e1 : L1 = L2 := by
        rw [hL1, hL2]
        by_cases g2 : 0 < s
        · obtain rfl := List.eq_nil_of_length_eq_zero (show V1.length = 0 by omega)
          rw [List.append_nil, srt_self hu1, List.nil_append]
        · obtain rfl := List.eq_nil_of_length_eq_zero (show U1.length = 0 by omega)
          simp only [List.nil_append]; rw [srt_self hv1]
      rw [e1]
      refine xn ?_
      repeat' (first | exact Le.n | refine Lc.mk ?_ ?_)
      all_goals intros
      all_goals exact cy () trivial env_w rfl
  refine aw_code hC hGL ?_
  by_cases g : st < c ∧ d < V1.length + V2.length
  · have hi := ih (M : Int) ((c + d : Nat) : Int) (e : Int) L2 (P ++ (srt w (U1 ++ V1) ++ srt w (U2 ++ V2) ++ Q)) (P ++ srt w (U1 ++ V1)) U2 V2 Q (by omega) (by omega) (by omega) (by rw [hL2, List.append_assoc]) (by simp only [List.append_assoc]) (by rw [hL2]; simp only [List.length_append, z5]; omega) hu2 hv2 l2 kU2 kV2 (by rw [List.length_append, z5]; omega) (by omega) (by omega)
    exact xn0
  · have e1 : L2 = P ++ (srt w (U1 ++ V1) ++ srt w (U2 ++ V2) ++ Q) := by
      rw [hL2]
      by_cases g2 : st < c
      · obtain rfl := List.eq_nil_of_length_eq_zero (show V2.length = 0 by omega)
        rw [List.append_nil, srt_self hu2, List.nil_append, List.append_assoc]
      · obtain rfl := List.eq_nil_of_length_eq_zero (show U2.length = 0 by omega)
        simp only [List.nil_append]; rw [srt_self hv2, List.append_assoc]
    rw [e1]
    exact xn0
end
end Go.Proofs.YtcoidjllehieeaaGreatDoor
namespace Go.Proofs.YtcoidjllehieeaaGreatDoor
open Go Go.RowKit
theorem bS_step {w : Nat → Int} {L : List Nat} {s k : Nat} (hs : 0 < s) (h : s ≤ L.length) (hk : L.length ≤ k) : bS w s k L = srt w (L.take s) ++ bS w s k (L.drop s) := by
  rcases Nat.lt_or_eq_of_le h with h | rfl
  · exact bS_two hs h hk
  · rw [bS_short (Nat.le_refl _), List.take_length, List.drop_length, bS_short (Nat.zero_le _), srt_self List.Pairwise.nil, List.append_nil]
theorem lt_nodup {L : List Nat} (h : L.Pairwise (· < ·)) : L.Nodup := by
  rw [List.nodup_iff_pairwise_ne]
  exact h.imp Nat.ne_of_lt
/-- Two rows out of a row that goes up, each in order. -/
theorem two_rows {w : Nat → Int} {L : List Nat} (s e : Nat) (h : L.Pairwise (· < ·)) : Low (srt w (L.take s)) (srt w ((L.drop s).take e)) ∧ (srt w (L.take s)).Pairwise (lexL w) ∧ (srt w ((L.drop s).take e)).Pairwise (lexL w) ∧ srt w (srt w (L.take s) ++ srt w ((L.drop s).take e)) = srt w (L.take (s + e)) := by
  have h1 := h
  rw [← List.take_append_drop s L, List.pairwise_append] at h1
  refine ⟨fun a ha b hb => h1.2.2 a (srt_mem.1 ha) b (List.mem_of_mem_take (srt_mem.1 hb)), srt_strict (lt_nodup h1.1), srt_strict (lt_nodup (h1.2.1.sublist (List.take_sublist _ _))), ?_⟩
  rw [List.take_add]
  exact srt_of_perm (srt_perm.append srt_perm)
set_option maxRecDepth 20000
set_option maxHeartbeats 4000000
set_option linter.unusedSimpArgs false
set_option linter.unusedVariables false
attribute [local irreducible] AWp AOps byteAt SrcOK OrOk GloAll FnSpec
attribute [local irreducible] natsC swp srt bS
section
variable {G : Glo} (f : Nat) (cc : List AVal) (w : Nat → Int) (K : Nat) (hf : CmpIs G f cc w K) (eT : Option TypeId) (b m cap : Nat)
include hf
theorem sym_is (hml : m ≤ 1000000) : ∀ k, SymIs G f cc w K eT b m cap k
  | 0 => fun a c e L L' P U V Q hk hU0 hV0 => by omega
  | k + 1 => by
    intro a c e L L' P U V Q hk hU0 hV0 hL hL' hm hU hV hl hUK hVK ha hc he
    obtain rfl := hL
    obtain rfl := hL'
    obtain rfl := ha
    obtain rfl : c = ((P.length + U.length : Nat) : Int) := by omega
    obtain rfl : e = ((P.length + U.length + V.length : Nat) : Int) := by omega
    by_cases h1 : U.length = 1
    · obtain ⟨x, rfl⟩ := List.length_eq_one_iff.1 h1
      exact sym_left1 f cc w K hf eT b m cap hml x V P Q hV0 hm hV hl (hUK x (List.mem_singleton.2 rfl)) hVK
    · by_cases h2 : V.length = 1
      · obtain ⟨y, rfl⟩ := List.length_eq_one_iff.1 h2
        exact sym_right1 f cc w K hf eT b m cap hml y U P Q (by omega) hm hU hl (hVK y (List.mem_singleton.2 rfl)) hUK
      · exact sym_more f cc w K hf eT b m cap k (sym_is hml k) hml P.length (P.length + U.length) (P.length + U.length + V.length) U V P Q hk (by omega) (by omega) hm hU hV hl hUK hVK rfl rfl rfl
theorem stable_cmp (hml : m ≤ 1000000) (L : List Nat) (hm : m = L.length) (hS : L.Pairwise (· < ·)) (hK : ∀ x ∈ L, x < K) :
    FnSpec Tryz.prog G 32 [.raw (vlN b m cap), .int .i64 (m : Int), .func (.func f) [] [.rop cc 0]] [rwN eT b m cap L] (fun r H => r = .ret (.tuple []) ∧ H = [rwN eT b m cap (srt w L)]) := by
  have hSd : ∀ a, (L.drop a).Pairwise (· < ·) := fun a => hS.sublist (List.drop_sublist _ _)
  have hKd : ∀ a, ∀ x ∈ L.drop a, x < K := fun a x hx => hK x (List.mem_of_mem_drop hx)
  have hsym := sym_is f cc w K hf eT b m cap hml
  have hGL : GloAll G [] := gloAll_nil
  refine fn_own [(0, 0, vlN b m cap)] Tryz.func32 Tryz.call32 rfl rfl rfl rfl (by repeat (first | exact trivial | refine And.intro ⟨rfl, rfl⟩ ?_)) ?_
  intro C hC
  refine cuty hC hGL (fun _ : Unit => [(0, .own 0 (vlN b m cap)), (1, .int .i64 (m : Int)), (2, .func (.func f) [] [.rop cc 0]), (6, .int .i64 20)]) (fun _ => [rwN eT b m cap L]) (fun _ => True) ?_ fun _ _ => ?_
  · refine xn1 ?_
    exact cy () trivial env_w rfl
  refine cuty hC hGL (fun _ : Unit => [(0, .own 0 (vlN b m cap)), (1, .int .i64 (m : Int)), (2, .func (.func f) [] [.rop cc 0]), (6, .int .i64 20), (7, .int .i64 0), (8, .int .i64 20)]) (fun _ => [rwN eT b m cap L]) (fun _ => True) ?_ fun _ _ => ?_
  · refine xn1 ?_
    exact cy () trivial env_w rfl
  refine cuty hC hGL (fun z : Nat × List Nat => [(0, .own 0 (vlN b m cap)), (1, .int .i64 (m : Int)), (2, .func (.func f) [] [.rop cc 0]), (6, .int .i64 20), (7, .int .i64 (z.1 : Int))]) (fun z => [rwN eT b m cap (z.2 ++ L.drop z.1)]) (fun z => z.2.length = z.1 ∧ z.1 ≤ m ∧ m < z.1 + 20 ∧ bS w 20 m L = z.2 ++ bS w 20 m (L.drop z.1)) ?_ ?_
  · refine xn1 ?_
    intros
    refine lp hC hGL (fun z : Nat × List Nat => [(0, .own 0 (vlN b m cap)), (1, .int .i64 (m : Int)), (2, .func (.func f) [] [.rop cc 0]), (6, .int .i64 20), (7, .int .i64 (z.1 : Int)), (8, .int .i64 ((z.1 + 20 : Nat) : Int))]) (fun z => [rwN eT b m cap (z.2 ++ L.drop z.1)]) (fun z => z.2.length = z.1 ∧ z.1 ≤ m ∧ bS w 20 m L = z.2 ++ bS w 20 m (L.drop z.1)) (fun z => m - z.1) (0, []) ⟨rfl, Nat.zero_le _, rfl⟩ env_w rfl ?_
    rintro ⟨a, D⟩ ⟨h1, h2, h3⟩
    dsimp only at h1 h2 h3 ⊢
    by_cases h4 : a + 20 ≤ m
    · have hT : (L.drop a).length = m - a := by rw [List.length_drop, hm]
      have hta : ((L.drop a).take 20).length = 20 := by rw [List.length_take]; omega
      have e2 := bS_step (w := w) (L := L.drop a) (s := 20) (k := m) (by decide) (by omega) (by omega)
      rw [List.drop_drop] at e2
      refine xn1 ?_
      intros
      refine cx_do (i := 0) rfl (insertion_sort f cc w K hf eT b m cap _ _ _ ((D ++ srt w ((L.drop a).take 20)) ++ L.drop (a + 20)) D ((L.drop a).take 20) (L.drop (a + 20)) ?_ (List.append_assoc ..) ?_ ((hSd a).sublist (List.take_sublist _ _)) (fun x hx => hKd a x (List.mem_of_mem_take hx)) ?_ ?_ hml) ?_
      · rw [← List.drop_drop, List.take_append_drop]
      · rw [List.length_append, h1, hT]; omega
      · omega
      · rw [hta]; omega
      refine xn1 ?_
      intros
      refine nxt (a + 20, D ++ srt w ((L.drop a).take 20)) ⟨?_, ?_, ?_⟩ ?_ ⟨rfl, rfl, rfl, rfl, iN (by omega), iN (by omega), trivial⟩ rfl
      · dsimp only; rw [List.length_append, srt_length, h1, hta]
      · dsimp only; omega
      · dsimp only; rw [h3, e2, List.append_assoc]
      · dsimp only; omega
    · refine xn1 ?_
      intros
      exact cy (a, D) ⟨h1, h2, by dsimp only; omega, h3⟩
  rintro ⟨a, D⟩ ⟨h1, h2, h3, h4⟩
  dsimp only at h1 h2 h3 h4 ⊢
  refine cuty hC hGL (fun _ : Unit => [(0, .own 0 (vlN b m cap)), (1, .int .i64 (m : Int)), (2, .func (.func f) [] [.rop cc 0]), (6, .int .i64 20)]) (fun _ => [rwN eT b m cap (bS w 20 m L)]) (fun _ => True) ?_ fun _ _ => ?_
  · have hT : (L.drop a).length = m - a := by rw [List.length_drop, hm]
    refine xn1 ?_
    intros
    refine cx_do (i := 0) rfl (insertion_sort f cc w K hf eT b m cap _ _ _ (bS w 20 m L) D (L.drop a) [] (by rw [List.append_nil]) (by rw [h4, bS_short (by omega), List.append_nil]) ?_ (hSd a) (hKd a) ?_ ?_ hml) ?_
    · rw [List.length_append, h1, hT]; omega
    · omega
    · rw [hT]; omega
    refine xn1 ?_
    exact cy () trivial env_w rfl
  clear h1 h2 h3 h4
  refine aw_code hC hGL (xn1 ?_)
  refine lp hC hGL (fun s : Nat => [(0, .own 0 (vlN b m cap)), (1, .int .i64 (m : Int)), (2, .func (.func f) [] [.rop cc 0]), (6, .int .i64 (s : Int))]) (fun s => [rwN eT b m cap (bS w s m L)]) (fun s => 0 < s ∧ s ≤ 2 * m + 20) (fun s => 2 * m + 20 - s) 20 ⟨by decide, by omega⟩ env_w rfl ?_
  rintro s ⟨h1, h2⟩
  by_cases hsm : s < m
  · refine xn1 ?_
    intros
    refine lp hC hGL (fun z : Nat × List Nat => [(0, .own 0 (vlN b m cap)), (1, .int .i64 (m : Int)), (2, .func (.func f) [] [.rop cc 0]), (6, .int .i64 (s : Int)), (7, .int .i64 (z.1 : Int)), (8, .int .i64 ((z.1 + 2 * s : Nat) : Int))]) (fun z => [rwN eT b m cap (z.2 ++ bS w s m (L.drop z.1))]) (fun z => z.2.length = z.1 ∧ z.1 ≤ m ∧ bS w (2 * s) m L = z.2 ++ bS w (2 * s) m (L.drop z.1)) (fun z => m - z.1) (0, []) ⟨rfl, Nat.zero_le _, rfl⟩ ⟨rfl, rfl, rfl, rfl, rfl, iN (by omega), trivial⟩ rfl ?_
    rintro ⟨a, D⟩ ⟨h3, h4, h5⟩
    dsimp only at h3 h4 h5 ⊢
    have hT : (L.drop a).length = m - a := by rw [List.length_drop, hm]
    by_cases h6 : a + 2 * s ≤ m
    · have e1 := bS_step (w := w) (L := L.drop a) (s := s) (k := m) h1 (by omega) (by omega)
      have e2 := bS_step (w := w) (L := (L.drop a).drop s) (s := s) (k := m) h1 (by rw [List.length_drop]; omega) (by rw [List.length_drop]; omega)
      have e3 := bS_step (w := w) (L := L.drop a) (s := 2 * s) (k := m) (by omega) (by omega) (by omega)
      obtain ⟨g1, g2, g3, g4⟩ := two_rows (w := w) (L := L.drop a) s s (hSd a)
      have z1 : (srt w ((L.drop a).take s)).length = s := by rw [srt_length, List.length_take]; omega
      have z2 : (srt w (((L.drop a).drop s).take s)).length = s := by rw [srt_length, List.length_take, List.length_drop]; omega
      rw [List.drop_drop, List.drop_drop, show a + s + s = a + 2 * s by omega] at e2
      rw [List.drop_drop] at e3
      rw [List.drop_drop] at g1 g3 g4 z2
      rw [show s + s = 2 * s by omega] at g4
      rw [List.drop_drop] at e1
      have hi := hsym (s + s) (a : Int) ((a : Int) + (s : Int)) ((a + 2 * s : Nat) : Int) (D ++ bS w s m (L.drop a)) ((D ++ srt w ((L.drop a).take (2 * s))) ++ bS w s m (L.drop (a + 2 * s))) D (srt w ((L.drop a).take s)) (srt w ((L.drop (a + s)).take s)) (bS w s m (L.drop (a + 2 * s))) (by omega) (by omega) (by omega) (by rw [e1, e2]) (by rw [g4, List.append_assoc]) (by rw [List.length_append, bS_length, h3, hT]; omega) g2 g3 g1 (fun x hx => hKd a x (List.mem_of_mem_take (srt_mem.1 hx))) (fun x hx => hKd (a + s) x (List.mem_of_mem_take (srt_mem.1 hx))) (by omega) (by omega) (by omega)
      refine xn1 ?_
      intros
      refine nxt (a + 2 * s, D ++ srt w ((L.drop a).take (2 * s))) ⟨?_, ?_, ?_⟩ ?_ ⟨rfl, rfl, rfl, rfl, iN (by omega), iN (by omega), trivial⟩ rfl
      · dsimp only; rw [List.length_append, srt_length, List.length_take, h3]; omega
      · dsimp only; omega
      · dsimp only; rw [h5, e3, List.append_assoc]
      · dsimp only; omega
    · have e3 : bS w (2 * s) m (L.drop a) = srt w (L.drop a) := bS_short (by omega)
      by_cases h7 : a + s < m
      · have e1 := bS_step (w := w) (L := L.drop a) (s := s) (k := m) h1 (by omega) (by omega)
        have e2 : bS w s m ((L.drop a).drop s) = srt w ((L.drop a).drop s) := bS_short (by rw [List.length_drop]; omega)
        obtain ⟨g1, g2, g3, g4⟩ := two_rows (w := w) (L := L.drop a) s s (hSd a)
        have z0 : ((L.drop a).drop s).length = m - a - s := by rw [List.length_drop]; omega
        rw [List.take_of_length_le (show ((L.drop a).drop s).length ≤ s by omega)] at g1 g3 g4
        rw [List.take_of_length_le (show (L.drop a).length ≤ s + s by omega)] at g4
        have z1 : (srt w ((L.drop a).take s)).length = s := by rw [srt_length, List.length_take]; omega
        have z2 : (srt w ((L.drop a).drop s)).length = m - a - s := by rw [srt_length]; omega
        have hi := hsym (m - a) (a : Int) ((a : Int) + (s : Int)) (m : Int) (D ++ bS w s m (L.drop a)) (bS w (2 * s) m L) D (srt w ((L.drop a).take s)) (srt w ((L.drop a).drop s)) [] (by omega) (by omega) (by omega) (by rw [e1, e2, List.append_nil]) (by rw [g4, List.append_nil, h5, e3]) (by rw [List.length_append, bS_length, h3, hT]; omega) g2 g3 g1 (fun x hx => hKd a x (List.mem_of_mem_take (srt_mem.1 hx))) (fun x hx => hKd a x (List.mem_of_mem_drop (srt_mem.1 hx))) (by omega) (by omega) (by omega)
        refine xn1 ?_
        intros
        exact nxt (2 * s) ⟨by omega, by omega⟩ (by omega) ⟨rfl, rfl, rfl, iN (by omega), trivial⟩ rfl
      · have e1 : bS w s m (L.drop a) = srt w (L.drop a) := bS_short (by omega)
        rw [e1, ← e3, ← h5]
        refine xn1 ?_
        intros
        exact nxt (2 * s) ⟨by omega, by omega⟩ (by omega) ⟨rfl, rfl, rfl, iN (by omega), trivial⟩ rfl
  · rw [bS_short (by omega)]
    exact xn0
end
end Go.Proofs.YtcoidjllehieeaaGreatDoor
namespace Go.Proofs.YtcoidjllehieeaaGreatDoor
open Go Go.RowKit
set_option linter.unusedSectionVars false
section
variable {P : Program} [Tab P] {C : Ctx} {n : Nat} {env : Env} {H : Heap} {Q : AExit → Env → Heap → Prop} {ops : Array Oper} {rest : List Oper} {G : Glo} {GL : List (Nat × List AVal)}
variable {d : Nat} {t : TypeId} {p : String} {af : Array Edge} {g : Option (Nat × Bool)} {b : Bool}
variable {x y : Operand} {T T2 e : TypeId} {xT xe : TI}
/-- dst[o:]. -/
theorem op1_sliceB {i bl l c o : Nat} {k0 : IntKind} (hC : C.G = G) (hGL : GloAll G GL) (hx : evalA env x = some (.own i (.slice (some ⟨bl, 0, none⟩) l c))) (hy : evalA env y = some (.int k0 (o : Int))) (ho : o ≤ l) (hoc : o < c) (ht : tab P T = some xT) (hd : xT.desc = .slice e) (he : tab P e = some xe) (hs : xe.size = 1)
    (hg : guardA ops env g = some (b, b)) (hdn : Nat.ble (d + 1) n = true)
    (k : opsX P C n G GL ops Q rest ((d, .own i (.slice (some ⟨bl, o, none⟩) (l - o) (c - o))) :: env) H) :
    Op1 P C n ops ({ dst := some d, op := .slice T x (some y) none none, type := t, pos := p, after := af, guard := g } :: rest) env H Q := by
  refine ⟨ao_val hg rfl hdn (av := .own i (.slice (some ⟨bl, o, none⟩) (l - o) (c - o))) (H' := H) (fun R ρ w hm hf => ?_) (opsX_ok hC hGL _ _ _ k)⟩
  have hel : P.elem T = e := by simp [Program.elem, tab_und ht, hd]
  have hr := run_slice_l (P := P) w T (some ⟨bl, 0, none⟩) l c (by rw [tab_und ht, hd, hel]) k0 (o : Int) (by omega) (by omega)
  have hsz := tab_run_size he w
  refine ⟨.slice (some ⟨bl, o, none⟩) (l - o) (c - o), w, R, ?_, Seal.le_refl R, rel_own.2 ⟨rfl, rfl⟩, hm⟩
  simp only [execOp, (rel_own.1 (hf _ _ hx)).1, Option.map_some, Option.map_none, rel_int.1 (hf _ _ hy), Sem.run_bind, run_sliceAt_slice w T _ _ _ _ (show P.underlying T = some (.slice (P.elem T)) by rw [tab_und ht, hd, hel]), hr, hel, hsz, Result.andThen_ok, Sem.run_pure]
  simp only [sliced, Int.toNat_natCast]
  rw [if_neg (by omega)]
  simp [hs, Addr.add]
  by_cases h0 : o = 0
  · simp [h0]
  · simp [h0]
end
end Go.Proofs.YtcoidjllehieeaaGreatDoor
namespace Go.Proofs.YtcoidjllehieeaaGreatDoor
open Go Go.RowKit
set_option linter.unusedSectionVars false
set_option linter.unusedVariables false
section
variable {P : Program} [Tab P] {C : Ctx} {n : Nat} {env : Env} {H : Heap} {Q : AExit → Env → Heap → Prop} {ops : Array Oper} {rest : List Oper} {G : Glo} {GL : List (Nat × List AVal)}
variable {eT : Option TypeId} {d : Nat} {t e : TypeId} {p : String} {af : Array Edge} {g : Option (Nat × Bool)} {b : Bool} {x y : Operand} {T : TypeId} {xT xe : TI}
/-- An operation whose value nobody takes. -/
theorem ao_valnone {o : Oper} {H' : Heap} {b : Bool} (hg : guardA ops env o.guard = some (b, b)) (hd : o.dst = none)
    (hx : ∀ R ρ w, MS C R H w → Evals R env ρ → ∃ v w' R', (execOp ρ o).run P w = .ok (.value v) w' ∧ R.le R' ∧ MS C R' H' w')
    (h : AOps P C n ops rest env H' Q) : AOps P C n ops (o :: rest) env H Q := by
  intro R a w hm hf
  refine wpList_step fun K hK => ?_
  rw [wanted_of hf hg, if_pos (by simp)]
  obtain ⟨v, w', R', hr, hR, hm'⟩ := hx R a.eval w hm (fun x av h => hf.eval h)
  rw [Oper.wp, hr, Oper.upon_value, hd]
  exact hK _ _ (h R' _ w' hm' (hf.mono hR))
/-- clear of an own row's end. -/
theorem ow_clear {j0 i bl o n0 c0 : Nat} {v : Value} {cs : List AVal} {z : Value} {za : AVal} (hg : guardA ops env g = some (b, b)) (hx : evalA env x = some (.own j0 (.slice (some ⟨bl, o, none⟩) (n0 - o) c0))) (hi : H[i]? = some (.row v eT 1 n0 cs)) (hr : RowAt v bl n0) (h0 : o < n0)
    (h1 : tab P T = some xT) (h2 : xT.desc = .slice e) (h3 : tab P e = some xe) (h4 : xe.zero = some z) (hz : z.cells = #[z]) (hz1 : vAgg z = false) (hz2 : ∀ a, z ≠ .tuple a) (hza : ∀ R, RelC R za [z])
    (h : AOps P C n ops rest env (H.set i (.row v eT 1 n0 (cs.take o ++ List.replicate (n0 - o) za))) Q) :
    AOps P C n ops ({ dst := none, op := .call { callee := .builtin .clear, args := #[x], argTypes := #[T] }, type := t, pos := p, after := af, guard := g } :: rest) env H Q := by
  refine ao_valnone hg rfl (fun R ρ w hm hf => ?_) h
  obtain ⟨hlen, cap, Cs, el, fz, rfl, hb, hsz, hnc, hl, hfz⟩ := row_cells hm hi hr (by omega)
  rw [Nat.mul_one] at hlen hl hsz
  have hzl : (Builtin.zeroCells z.cells (n0 - o)).toList = List.replicate (n0 - o) z := by
    rw [hz]
    simp [Builtin.zeroCells]
    apply List.ext_getElem
    · simp
    · intro i h1 h2
      simp [Nat.mod_one]
  obtain ⟨w', hr', ho⟩ := storeCells_run (P := P) (List.replicate (n0 - o) z) o 0 Cs w hb (by rw [List.length_replicate]; omega) hfz.1 (fun v hv => by rw [List.eq_of_mem_replicate hv]; exact ⟨hz1, hz2⟩)
  refine ⟨.tuple #[], w', R, ?_, Seal.le_refl R, hm.write hi rfl ho rfl ?_⟩
  · obtain ⟨k, hk⟩ : ∃ k, n0 - o = k + 1 := ⟨n0 - o - 1, by omega⟩
    have hxv := (rel_own.1 (hf _ _ hx)).1
    have hd := tab_run_und h1 w
    simp only [execOp, resolve, Sem.run_bind, Sem.run_pure, Result.andThen_ok, invoke, builtin, List.map_toArray, List.map_cons, List.map_nil, hxv, Builtin.clear_]
    rw [hk] at hzl hr' ⊢
    simp [hd, h2, tab_run_zero h3 h4, hzl, hr']
  · refine ⟨by simp only [List.length_append, List.length_take, List.length_replicate]; omega, .inr ⟨bl, cap, _, _, _, rfl, ho.at_, ?_, hnc, ?_, ?_⟩⟩
    · simp only [Nat.add_zero, List.size_toArray, List.length_append, List.length_take, List.length_drop, List.length_replicate, Array.length_toList]
      omega
    · have e1 : (Cs.toList.take (o + 0) ++ List.replicate (n0 - o) z ++ Cs.toList.drop (o + 0 + (List.replicate (n0 - o) z).length)).take (n0 * 1) = (Cs.toList.take n0).take o ++ List.replicate (n0 - o) z := by
        have hl1 : (Cs.toList.take o).length = o := by rw [List.length_take, Array.length_toList]; omega
        rw [Nat.add_zero, Nat.mul_one, List.take_append, List.length_append, hl1, List.length_replicate, show n0 - (o + (n0 - o)) = 0 by omega, List.take_zero, List.append_nil, List.take_of_length_le (by rw [List.length_append, hl1, List.length_replicate]; omega), List.take_take, Nat.min_eq_left (by omega)]
      simp only []
      rw [e1]
      refine relL_append (relL_take o hl) ?_
      have : ∀ k, RelL R (List.replicate k za) (List.replicate k z) := fun k => by
        induction k with
        | zero => exact rfl
        | succ k ih => exact ⟨_, _, rfl, hza R, ih⟩
      exact this _
    · simp only [Nat.add_zero, List.size_toArray, List.length_append, List.length_take, List.length_drop, List.length_replicate, Array.length_toList]
      have : min o Cs.size + (n0 - o) + (Cs.size - (o + (n0 - o))) = Cs.size := by omega
      rw [this]; exact hfz
theorem op1_clear {j0 i bl o n0 c0 : Nat} {v : Value} {cs : List AVal} {z : Value} {za : AVal} (hC : C.G = G) (hGL : GloAll G GL) (hg : guardA ops env g = some (b, b)) (hx : evalA env x = some (.own j0 (.slice (some ⟨bl, o, none⟩) (n0 - o) c0))) (hi : H[i]? = some (.row v eT 1 n0 cs)) (hr : RowAt v bl n0) (h0 : o < n0)
    (h1 : tab P T = some xT) (h2 : xT.desc = .slice e) (h3 : tab P e = some xe) (h4 : xe.zero = some z) (hz : z.cells = #[z]) (hz1 : vAgg z = false) (hz2 : ∀ a, z ≠ .tuple a) (hza : ∀ R, RelC R za [z])
    (k : opsX P C n G GL ops Q rest env (H.set i (.row v eT 1 n0 (cs.take o ++ List.replicate (n0 - o) za)))) :
    Op1 P C n ops ({ dst := none, op := .call { callee := .builtin .clear, args := #[x], argTypes := #[T] }, type := t, pos := p, after := af, guard := g } :: rest) env H Q :=
  ⟨ow_clear hg hx hi hr h0 h1 h2 h3 h4 hz hz1 hz2 hza (opsX_ok hC hGL _ _ _ k)⟩
/-- s[:o]. -/
theorem op1_sliceH {i bl l c o : Nat} {k0 : IntKind} (hC : C.G = G) (hGL : GloAll G GL) (hx : evalA env x = some (.own i (.slice (some ⟨bl, 0, none⟩) l c))) (hy : evalA env y = some (.int k0 (o : Int))) (hoc : o ≤ c) (h0 : 0 < c) (ht : tab P T = some xT) (hd : xT.desc = .slice e) (he : tab P e = some xe)
    (hg : guardA ops env g = some (b, b)) (hdn : Nat.ble (d + 1) n = true)
    (k : opsX P C n G GL ops Q rest ((d, .own i (.slice (some ⟨bl, 0, none⟩) o c)) :: env) H) :
    Op1 P C n ops ({ dst := some d, op := .slice T x none (some y) none, type := t, pos := p, after := af, guard := g } :: rest) env H Q := by
  refine ⟨ao_val hg rfl hdn (av := .own i (.slice (some ⟨bl, 0, none⟩) o c)) (H' := H) (fun R ρ w hm hf => ?_) (opsX_ok hC hGL _ _ _ k)⟩
  have hel : P.elem T = e := by simp [Program.elem, tab_und ht, hd]
  have hr := run_slice_h (P := P) w T (some ⟨bl, 0, none⟩) l c (by rw [tab_und ht, hd, hel]) k0 (o : Int) (by omega) (by omega)
  have hsz := tab_run_size he w
  refine ⟨.slice (some ⟨bl, 0, none⟩) o c, w, R, ?_, Seal.le_refl R, rel_own.2 ⟨rfl, rfl⟩, hm⟩
  simp only [execOp, (rel_own.1 (hf _ _ hx)).1, Option.map_some, Option.map_none, rel_int.1 (hf _ _ hy), Sem.run_bind, run_sliceAt_slice w T _ _ _ _ (show P.underlying T = some (.slice (P.elem T)) by rw [tab_und ht, hd, hel]), hr, hel, hsz, Result.andThen_ok, Sem.run_pure]
  simp only [sliced, Int.toNat_natCast]
  simp [Addr.add]
end
/-- A row told shorter. -/
theorem to_short {C : Ctx} {n : Nat} {e : Env} {h : Heap} {i bl k m c : Nat} {eT : Option TypeId} {cs : List AVal} (hi : h[i]? = some (.row (.slice (some ⟨bl, 0, none⟩) m c) eT 1 m cs)) (hk : k ≤ m) (hm0 : 0 < m) : To C n e h e (h.set i (.row (.slice (some ⟨bl, 0, none⟩) k c) eT 1 k (cs.take k))) := fun R a w hm hf => by
  refine ⟨R, Seal.le_refl R, hm.setEnt hi rfl ?_, hf⟩
  obtain ⟨hlen, hx⟩ := hm.heap.holds _ (List.mem_of_getElem? hi)
  rw [Nat.mul_one] at hlen
  refine ⟨by rw [List.length_take]; omega, .inr ?_⟩
  rcases hx with ⟨h1, _⟩ | ⟨b', cap, Cs, el, fz, h1, hb, hs, hn, hl, hf'⟩
  · cases h1
  · cases h1
    refine ⟨_, _, Cs, el, fz, rfl, hb, hs, by omega, ?_, hf'⟩
    rw [Nat.mul_one] at hl ⊢
    have := relL_take k hl
    rwa [List.take_take, Nat.min_eq_left hk] at this
end Go.Proofs.YtcoidjllehieeaaGreatDoor
namespace Go.Proofs.YtcoidjllehieeaaGreatDoor
open Go Go.RowKit
def natsF (L : List Nat) (i : Nat) : AVal := .int .i64 (L.getD i 0 : Nat)
theorem natsF_ok (L : List Nat) : ∀ i, i < L.length → (natsF L i).cells = ((natsC L).drop (i * 1)).take 1 ∧ (natsF L i).plain = true := by
  intro i hi
  refine ⟨?_, rfl⟩
  have h := natsC_get hi
  have hl : i < (natsC L).length := by rw [natsC_len]; exact hi
  rw [Nat.mul_one, List.drop_eq_getElem_cons hl, List.take_succ_cons, List.take_zero]
  rw [List.getElem?_eq_getElem hl] at h
  rw [Option.some.inj h]
  rfl
/-- The items of which something holds, by their numbers, of the first so many. -/
def selT (f : Itm → Bool) (l : List Itm) (k : Nat) : List Nat := (List.range k).filter fun i => f (l.getD i Itm.z)
def selB (f : Itm → Bool) (l : List Itm) : List Nat := selT f l l.length
theorem selT_succ (f : Itm → Bool) (l : List Itm) (k : Nat) : selT f l (k + 1) = selT f l k ++ if f (l.getD k Itm.z) then [k] else [] := by
  unfold selT
  rw [List.range_succ, List.filter_append]
  congr 1
  cases h : f (l.getD k Itm.z) with
  | true => simp only [List.filter_cons, List.filter_nil, h]
  | false => simp only [List.filter_cons, List.filter_nil, h]
theorem selT_len (f : Itm → Bool) (l : List Itm) (k : Nat) : (selT f l k).length ≤ k := by
  have := List.length_filter_le (fun i => f (l.getD i Itm.z)) (List.range k)
  rwa [List.length_range] at this
theorem selT_up (f : Itm → Bool) (l : List Itm) (k : Nat) : (selT f l k).Pairwise (· < ·) := List.Pairwise.filter _ List.pairwise_lt_range
theorem selT_mem {f : Itm → Bool} {l : List Itm} {k i : Nat} : i ∈ selT f l k ↔ i < k ∧ f (l.getD i Itm.z) = true := by
  unfold selT
  rw [List.mem_filter, List.mem_range]
/-- An item of a name, of a group. -/
def pnB (s : List UInt8) (x : Itm) : Bool := seqB (turnS 97 122 (-32) x.1.n) (turnS 97 122 (-32) s)
def pgB (s : List UInt8) (x : Itm) : Bool := seqB (turnS 97 122 (-32) x.1.g) (turnS 97 122 (-32) s)
theorem natsC_nil : natsC [] = [] := rfl
theorem natsC_push (L : List Nat) (k : Nat) : natsC L ++ rowCells 1 (partElem [(0, .int .i64 (k : Int))]) = natsC (L ++ [k]) := by
  rw [show rowCells 1 (partElem [(0, .int .i64 (k : Int))]) = [AVal.int .i64 (k : Int)] from rfl]
  simp [natsC]
abbrev rwO (va : Option Addr) (vk vc : Nat) (L : List Nat) : HEnt := .row (.slice va vk vc) none 1 L.length (natsC L)
/-- A row's value: nil as long as nothing is in it. -/
def NilV (L : List Nat) (va : Option Addr) (vk vc : Nat) : Prop := L = [] → va = none ∧ vk = 0 ∧ vc = 0
/-- An own row of numbers is handed back. -/
def RowQ (L : List Nat) (r : ARes) (H : Heap) : Prop := ∃ va vk vc, RowV L.length va vk ∧ NilV L va vk vc ∧ r = .ret (.own 0 (.slice va vk vc)) ∧ H = [rwO va vk vc L]
theorem rowQ_seal {P : Program} [Tab P] {G : Glo} {f : FuncId} {avs : List AVal} {L : List Nat} (h : FnSpec P G f avs [] (RowQ L)) : FnIs P G f avs (.list 1 L.length (natsF L)) :=
  fn_seal (eT := none) (fun a => a) mk_id (natsF L) (natsF_ok L) (h.mono fun _ _ ⟨va, vk, vc, _, _, h1, h2⟩ => ⟨0, _, h1, h2⟩)
theorem gl_at {l : List Itm} (ho : ∀ x ∈ l, Itm.OK 2500 x) {k : Nat} (hk : k < l.length) : (l.getD k Itm.z).1.g.length ≤ 2500 ∧ (l.getD k Itm.z).1.n.length ≤ 2500 := by
  have h := itm_at ho hk
  exact ⟨h.p.g, h.p.n⟩
set_option maxRecDepth 20000
set_option maxHeartbeats 4000000
set_option linter.unusedSimpArgs false
set_option linter.unusedVariables false
attribute [local irreducible] AWp AOps byteAt SrcOK OrOk GloAll FnSpec
attribute [local irreducible] natsC turnS worthP
theorem pick_Group0 {G : Glo} (c : Crd) (s : List UInt8) (hf : c.fine) (hs : s.length ≤ 1000000) : FnSpec Tryz.prog G 11 [c.A, .str s] [] (RowQ (selB (pgB s) c.l)) := by
  obtain ⟨v, l⟩ := c
  obtain ⟨h70, ho⟩ := hf
  dsimp only at h70 ho
  have hGL : GloAll G [] := gloAll_nil
  refine fn_x Tryz.func11 Tryz.call11 rfl rfl rfl rfl hGL ?_
  intro C hC
  refine xw1 ?_
  intros
  refine lp_row 5 1 rfl ?_
  refine lp hC hGL (fun z : Nat × Option Addr × Nat × Nat => [(1, .str s), (5, .own 0 (.slice z.2.1 z.2.2.1 z.2.2.2)), (9, .list 15 l.length (itsF l)), (10, .int .i64 (l.length : Int)), (11, .int .i64 (z.1 : Int))]) (fun z => [rwO z.2.1 z.2.2.1 z.2.2.2 (selT (pgB s) l z.1)]) (fun z => z.1 ≤ l.length ∧ RowV (selT (pgB s) l z.1).length z.2.1 z.2.2.1 ∧ NilV (selT (pgB s) l z.1) z.2.1 z.2.2.1 z.2.2.2) (fun z => l.length - z.1) (0, none, 0, 0) ⟨Nat.zero_le _, fun h => absurd h (Nat.lt_irrefl _), fun _ => ⟨rfl, rfl, rfl⟩⟩ env_w (congrArg (fun z => [HEnt.row (.slice none 0 0) none 1 0 z]) natsC_nil.symm) ?_
  rintro ⟨k, va, vk, vc⟩ ⟨h1, h2, h3⟩
  dsimp only at h1 h2 h3 ⊢
  by_cases hk : k < l.length
  · have hlen := selT_len (pgB s) l k
    have hgl := gl_at ho hk
    have hS := name_Same (G := G) (l.getD k Itm.z).1.g s (by omega) (by omega)
    have hsu := selT_succ (pgB s) l k
    change FnIs _ _ _ _ (.bool (pgB s (l.getD k Itm.z))) at hS
    cases hg : pgB s (l.getD k Itm.z) with
    | true =>
      rw [hg] at hS hsu
      rw [if_pos rfl] at hsu
      refine xw1 ?_
      intro _ va2 vk2 vc2 hva2
      intros
      have e2 : (selT (pgB s) l k).length + 1 = (selT (pgB s) l (k + 1)).length := by rw [hsu, List.length_append]; rfl
      refine nxs (k + 1, va2, vk2, vc2) ⟨hk, e2 ▸ hva2, fun h => ?_⟩ (by dsimp only; omega) env_w ?_
      · dsimp only at h; rw [h] at e2; cases e2
      · rw [e2, natsC_push, ← hsu]
        exact sub_w
    | false =>
      rw [hg] at hS hsu
      rw [if_neg (by decide), List.append_nil] at hsu
      refine xw1 ?_
      intros
      refine nxs (k + 1, va, vk, vc) ⟨hk, by rw [hsu]; exact h2, by rw [hsu]; exact h3⟩ (by dsimp only; omega) env_w ?_
      rw [hsu]
      exact sub_w
  · refine xw1 ?_
    intros
    have e : selB (pgB s) l = selT (pgB s) l k := by unfold selB; rw [show k = l.length by omega]
    exact ⟨_, List.Sublist.refl _, va, vk, vc, by rw [e]; exact h2, by rw [e]; exact h3, rfl, by rw [e]⟩
theorem ref_Group0 {G : Glo} (c : Crd) (s : List UInt8) (hf : c.fine) (hs : s.length ≤ 1000000) : FnSpec Tryz.prog G 12 [c.A, .str s] [] (RowQ (selB (pgB s) c.l)) := by
  obtain ⟨v, l⟩ := c
  obtain ⟨h70, ho⟩ := hf
  dsimp only at h70 ho
  have hGL : GloAll G [] := gloAll_nil
  refine fn_x Tryz.func12 Tryz.call12 rfl rfl rfl rfl hGL ?_
  intro C hC
  refine xw1 ?_
  intros
  refine lp_row 5 1 rfl ?_
  refine lp hC hGL (fun z : Nat × Option Addr × Nat × Nat => [(1, .str s), (5, .own 0 (.slice z.2.1 z.2.2.1 z.2.2.2)), (9, .list 15 l.length (itsF l)), (10, .int .i64 (l.length : Int)), (11, .int .i64 (z.1 : Int))]) (fun z => [rwO z.2.1 z.2.2.1 z.2.2.2 (selT (pgB s) l z.1)]) (fun z => z.1 ≤ l.length ∧ RowV (selT (pgB s) l z.1).length z.2.1 z.2.2.1 ∧ NilV (selT (pgB s) l z.1) z.2.1 z.2.2.1 z.2.2.2) (fun z => l.length - z.1) (0, none, 0, 0) ⟨Nat.zero_le _, fun h => absurd h (Nat.lt_irrefl _), fun _ => ⟨rfl, rfl, rfl⟩⟩ env_w (congrArg (fun z => [HEnt.row (.slice none 0 0) none 1 0 z]) natsC_nil.symm) ?_
  rintro ⟨k, va, vk, vc⟩ ⟨h1, h2, h3⟩
  dsimp only at h1 h2 h3 ⊢
  by_cases hk : k < l.length
  · have hlen := selT_len (pgB s) l k
    have hgl := gl_at ho hk
    have hS := ref_same (G := G) (l.getD k Itm.z).1.g s (by omega) (by omega)
    rw [fold_seq] at hS
    have hsu := selT_succ (pgB s) l k
    change FnIs _ _ _ _ (.bool (pgB s (l.getD k Itm.z))) at hS
    cases hg : pgB s (l.getD k Itm.z) with
    | true =>
      rw [hg] at hS hsu
      rw [if_pos rfl] at hsu
      refine xw1 ?_
      intro _ va2 vk2 vc2 hva2
      intros
      have e2 : (selT (pgB s) l k).length + 1 = (selT (pgB s) l (k + 1)).length := by rw [hsu, List.length_append]; rfl
      refine nxs (k + 1, va2, vk2, vc2) ⟨hk, e2 ▸ hva2, fun h => ?_⟩ (by dsimp only; omega) env_w ?_
      · dsimp only at h; rw [h] at e2; cases e2
      · rw [e2, natsC_push, ← hsu]
        exact sub_w
    | false =>
      rw [hg] at hS hsu
      rw [if_neg (by decide), List.append_nil] at hsu
      refine xw1 ?_
      intros
      refine nxs (k + 1, va, vk, vc) ⟨hk, by rw [hsu]; exact h2, by rw [hsu]; exact h3⟩ (by dsimp only; omega) env_w ?_
      rw [hsu]
      exact sub_w
  · refine xw1 ?_
    intros
    have e : selB (pgB s) l = selT (pgB s) l k := by unfold selB; rw [show k = l.length by omega]
    exact ⟨_, List.Sublist.refl _, va, vk, vc, by rw [e]; exact h2, by rw [e]; exact h3, rfl, by rw [e]⟩
end Go.Proofs.YtcoidjllehieeaaGreatDoor
namespace Go.Proofs.YtcoidjllehieeaaGreatDoor
open Go Go.RowKit
abbrev wI (l : List Itm) (i : Nat) : Int := worthP (l.getD i Itm.z).1.ps
/-- The items of a name, those that are worth more ahead. -/
def allN (l : List Itm) (s : List UInt8) : List Nat := srt (wI l) (selB (pnB s) l)
theorem allN_mem {l : List Itm} {s : List UInt8} {i : Nat} (h : i ∈ allN l s) : i < l.length := (selT_mem.1 (srt_mem.1 h)).1
theorem allN_len (l : List Itm) (s : List UInt8) : (allN l s).length ≤ l.length := by
  unfold allN
  rw [srt_length]
  exact selT_len _ _ _
set_option maxRecDepth 20000
set_option maxHeartbeats 4000000
set_option linter.unusedSimpArgs false
set_option linter.unusedVariables false
attribute [local irreducible] AWp AOps byteAt SrcOK OrOk GloAll FnSpec
attribute [local irreducible] natsC turnS worthP srt
theorem insertion_nil {G : Glo} (f : Nat) (cc : List AVal) : FnIs Tryz.prog G 50 [.raw (.slice none 0 0), .int .i64 0, .int .i64 0, .func (.func f) [] [.rop cc 0]] (.tuple []) := by
  have hGL : GloAll G [] := gloAll_nil
  refine fn_x Tryz.func50 Tryz.call50 rfl rfl rfl rfl hGL ?_
  intro C hC
  refine xw1 ?_
  intros
  refine rds hC hGL 1 ?_
  exact xw0
theorem stable_nil {G : Glo} (f : Nat) (cc : List AVal) : FnIs Tryz.prog G 32 [.raw (.slice none 0 0), .int .i64 0, .func (.func f) [] [.rop cc 0]] (.tuple []) := by
  have hI := insertion_nil (G := G) f cc
  have hGL : GloAll G [] := gloAll_nil
  refine fn_x Tryz.func32 Tryz.call32 rfl rfl rfl rfl hGL ?_
  intro C hC
  refine xw1 ?_
  intros
  refine rds hC hGL 1 ?_
  refine xw1 ?_
  intros
  refine rds hC hGL 1 ?_
  exact xw0
theorem sort_nil {G : Glo} (f : Nat) (cc : List AVal) : FnIs Tryz.prog G 18 [.raw (.slice none 0 0), .func (.func f) [] [.rop cc 0]] (.tuple []) := by
  have hI := stable_nil (G := G) f cc
  have hGL : GloAll G [] := gloAll_nil
  refine fn_x Tryz.func18 Tryz.call18 rfl rfl rfl rfl hGL ?_
  intro C hC
  exact xw0
theorem sort_stable {G : Glo} (f : Nat) (cc : List AVal) (w : Nat → Int) (K : Nat) (hf : CmpIs G f cc w K) (b m cap : Nat) (hml : m ≤ 1000000) (L : List Nat) (hm : m = L.length) (hS : L.Pairwise (· < ·)) (hK : ∀ x ∈ L, x < K) :
    FnSpec Tryz.prog G 18 [.raw (vlN b m cap), .func (.func f) [] [.rop cc 0]] [rwN none b m cap L] (fun r H => r = .ret (.tuple []) ∧ H = [rwN none b m cap (srt w L)]) := by
  have hI := stable_cmp f cc w K hf none b m cap hml L hm hS hK
  have hGL : GloAll G [] := gloAll_nil
  refine fn_own [(0, 0, vlN b m cap)] Tryz.func18 Tryz.call18 rfl rfl rfl rfl (by repeat (first | exact trivial | refine And.intro ⟨rfl, rfl⟩ ?_)) ?_
  intro C hC
  refine aw_code hC hGL ?_
  exact xw0
theorem pick_cmp {G : Glo} {m : Int} (hE : ErrsG G) (hP : PowIs G) (hM : GloAll G (maxTy m)) (c : Crd) (hf : c.fine) : CmpIs G 19 [.int .i64 c.v, .list 15 c.l.length (itsF c.l)] (wI c.l) c.l.length := by
  obtain ⟨v, l⟩ := c
  obtain ⟨h70, ho⟩ := hf
  dsimp only at h70 ho ⊢
  refine ⟨fun x y hx hy => ?_, fun x => by have := worthP_bnd (l.getD x Itm.z).1.ps; show -1000 ≤ worthP _ ∧ worthP _ ≤ 1000; omega⟩
  have h1 := pick_worth hE hP hM (l.getD x Itm.z) (itm_at ho hx)
  have h2 := pick_worth hE hP hM (l.getD y Itm.z) (itm_at ho hy)
  have b1 := worthP_bnd (l.getD x Itm.z).1.ps
  have b2 := worthP_bnd (l.getD y Itm.z).1.ps
  have hcl := Tryz.call20
  unfold itR at h1 h2
  have hGL : GloAll G [] := gloAll_nil
  refine fn_x Tryz.func19 Tryz.call19 rfl rfl rfl rfl hGL ?_
  intro C hC
  exact xw0
theorem pick_All0 {G : Glo} {m : Int} (hE : ErrsG G) (hP : PowIs G) (hM : GloAll G (maxTy m)) (c : Crd) (s : List UInt8) (hf : c.fine) (hs : s.length ≤ 1000000) : FnSpec Tryz.prog G 7 [c.A, .str s] [] (RowQ (allN c.l s)) := by
  have hcm := pick_cmp hE hP hM c hf
  obtain ⟨v, l⟩ := c
  obtain ⟨h70, ho⟩ := hf
  dsimp only at h70 ho hcm
  have hGL : GloAll G [] := gloAll_nil
  refine fn_x Tryz.func7 Tryz.call7 rfl rfl rfl rfl hGL ?_
  intro C hC
  refine xw1 ?_
  intros
  refine lp_row 5 1 rfl ?_
  refine lp hC hGL (fun z : Nat × Option Addr × Nat × Nat => [(1, .str s), (2, .rop [.int .i64 v, .list 15 l.length (itsF l)] 0), (5, .own 0 (.slice z.2.1 z.2.2.1 z.2.2.2)), (9, .list 15 l.length (itsF l)), (10, .int .i64 (l.length : Int)), (11, .int .i64 (z.1 : Int))]) (fun z => [rwO z.2.1 z.2.2.1 z.2.2.2 (selT (pnB s) l z.1)]) (fun z => z.1 ≤ l.length ∧ RowV (selT (pnB s) l z.1).length z.2.1 z.2.2.1 ∧ NilV (selT (pnB s) l z.1) z.2.1 z.2.2.1 z.2.2.2) (fun z => l.length - z.1) (0, none, 0, 0) ⟨Nat.zero_le _, fun h => absurd h (Nat.lt_irrefl _), fun _ => ⟨rfl, rfl, rfl⟩⟩ env_w (congrArg (fun z => [HEnt.row (.slice none 0 0) none 1 0 z]) natsC_nil.symm) ?_
  rintro ⟨k, va, vk, vc⟩ ⟨h1, h2, h3⟩
  dsimp only at h1 h2 h3 ⊢
  by_cases hk : k < l.length
  · have hlen := selT_len (pnB s) l k
    have hgl := gl_at ho hk
    have hS := name_Same (G := G) (l.getD k Itm.z).1.n s (by omega) (by omega)
    have hsu := selT_succ (pnB s) l k
    change FnIs _ _ _ _ (.bool (pnB s (l.getD k Itm.z))) at hS
    cases hg : pnB s (l.getD k Itm.z) with
    | true =>
      rw [hg] at hS hsu
      rw [if_pos rfl] at hsu
      refine xw1 ?_
      intro _ va2 vk2 vc2 hva2
      intros
      have e2 : (selT (pnB s) l k).length + 1 = (selT (pnB s) l (k + 1)).length := by rw [hsu, List.length_append]; rfl
      refine nxs (k + 1, va2, vk2, vc2) ⟨hk, e2 ▸ hva2, fun h => ?_⟩ (by dsimp only; omega) env_w ?_
      · dsimp only at h; rw [h] at e2; cases e2
      · rw [e2, natsC_push, ← hsu]
        exact sub_w
    | false =>
      rw [hg] at hS hsu
      rw [if_neg (by decide), List.append_nil] at hsu
      refine xw1 ?_
      intros
      refine nxs (k + 1, va, vk, vc) ⟨hk, by rw [hsu]; exact h2, by rw [hsu]; exact h3⟩ (by dsimp only; omega) env_w ?_
      rw [hsu]
      exact sub_w
  · obtain rfl : k = l.length := by omega
    have hup := selT_up (pnB s) l l.length
    have hmem : ∀ x ∈ selT (pnB s) l l.length, x < l.length := fun x hx => (selT_mem.1 hx).1
    have hlen := selT_len (pnB s) l l.length
    have hall : allN l s = srt (wI l) (selT (pnB s) l l.length) := rfl
    rw [hall]
    generalize selT (pnB s) l l.length = L at *
    by_cases hn : L = []
    · subst hn
      obtain ⟨rfl, rfl, rfl⟩ := h3 rfl
      have hI := sort_nil (G := G) 19 [.int .i64 v, .list 15 l.length (itsF l)]
      rw [srt_self List.Pairwise.nil]
      refine xw1 ?_
      intros
      exact ⟨_, List.Sublist.refl _, _, _, _, h2, h3, rfl, rfl⟩
    · have hpos : 0 < L.length := List.length_pos_iff.2 hn
      obtain ⟨b, rfl, rfl⟩ := h2 hpos
      have hI := sort_stable 19 [.int .i64 v, .list 15 l.length (itsF l)] (wI l) l.length hcm b L.length vc (by omega) L rfl hup hmem
      refine xw1 ?_
      intros
      refine ⟨_, List.Sublist.refl _, _, _, _, fun _ => ⟨_, rfl, ?_⟩, fun h => ?_, rfl, ?_⟩
      · rw [srt_length]
      · have := congrArg List.length h
        rw [srt_length] at this
        exact absurd this (by simp only [List.length_nil]; omega)
      · exact congrArg (fun k => [HEnt.row (.slice (some ⟨b, 0, none⟩) L.length vc) none 1 k (natsC (srt (wI l) L))]) srt_length.symm
theorem pick_All {G : Glo} {m : Int} (hE : ErrsG G) (hP : PowIs G) (hM : GloAll G (maxTy m)) (c : Crd) (s : List UInt8) (hf : c.fine) (hs : s.length ≤ 1000000) : FnIs Tryz.prog G 7 [c.A, .str s] (.list 1 (allN c.l s).length (natsF (allN c.l s))) := rowQ_seal (pick_All0 hE hP hM c s hf hs)
theorem pick_Best {G : Glo} {m : Int} (hE : ErrsG G) (hP : PowIs G) (hM : GloAll G (maxTy m)) (c : Crd) (s : List UInt8) (hf : c.fine) (hs : s.length ≤ 1000000) : FnIs Tryz.prog G 8 [c.A, .str s] (.int .i64 (if (allN c.l s).length = 0 then -1 else ((allN c.l s).getD 0 0 : Nat))) := by
  have hA := pick_All hE hP hM c s hf hs
  generalize allN c.l s = L at *
  unfold Crd.A at hA ⊢
  by_cases h0 : L.length = 0
  · rw [if_pos h0]
    have hGL : GloAll G [] := gloAll_nil
    refine fn_x Tryz.func8 Tryz.call8 rfl rfl rfl rfl hGL ?_
    intro C hC
    exact xw0
  · rw [if_neg h0]
    have hGL : GloAll G [] := gloAll_nil
    refine fn_x Tryz.func8 Tryz.call8 rfl rfl rfl rfl hGL ?_
    intro C hC
    exact xw0
end Go.Proofs.YtcoidjllehieeaaGreatDoor
namespace Go.Proofs.YtcoidjllehieeaaGreatDoor
open Go Go.RowKit
/-- Worth by worth, the first so many. -/
def refT (l : List Itm) (s : List UInt8) (n : Nat) : List Nat := (List.range n).flatMap fun j => (selB (pnB s) l).filter fun i => decide (wI l i = ((j + 1 : Nat) : Int))
def refK (l : List Itm) (s : List UInt8) (n k : Nat) : List Nat := (selT (pnB s) l k).filter fun i => decide (wI l i = (n : Int))
theorem refT_succ (l : List Itm) (s : List UInt8) (n : Nat) : refT l s (n + 1) = refT l s n ++ refK l s (n + 1) l.length := by
  unfold refT refK selB
  rw [List.range_succ, List.flatMap_append, List.flatMap_singleton]
theorem refK_succ (l : List Itm) (s : List UInt8) (n k : Nat) : refK l s n (k + 1) = refK l s n k ++ if pnB s (l.getD k Itm.z) && decide (wI l k = (n : Int)) then [k] else [] := by
  unfold refK
  rw [selT_succ, List.filter_append]
  congr 1
  cases pnB s (l.getD k Itm.z) with
  | false => simp
  | true =>
    simp only [if_true, Bool.true_and, List.filter_cons, List.filter_nil]
theorem refT_mem {l : List Itm} {s : List UInt8} {n i : Nat} : i ∈ refT l s n ↔ i ∈ selB (pnB s) l ∧ 1 ≤ wI l i ∧ wI l i ≤ n := by
  have hb := worthP_bnd (l.getD i Itm.z).1.ps
  unfold refT
  rw [List.mem_flatMap]
  constructor
  · rintro ⟨j, hj, hi⟩
    rw [List.mem_filter, decide_eq_true_eq] at hi
    rw [List.mem_range] at hj
    exact ⟨hi.1, by omega, by omega⟩
  · rintro ⟨h1, h2, h3⟩
    refine ⟨(wI l i).toNat - 1, List.mem_range.2 (by omega), List.mem_filter.2 ⟨h1, decide_eq_true ?_⟩⟩
    omega
theorem refT_pw (l : List Itm) (s : List UInt8) : ∀ n, (refT l s n).Pairwise (lexL (wI l))
  | 0 => List.Pairwise.nil
  | n + 1 => by
    rw [refT_succ, List.pairwise_append]
    refine ⟨refT_pw l s n, ?_, fun a ha b hb => ?_⟩
    · have := (selT_up (pnB s) l l.length).filter (fun i => decide (wI l i = ((n + 1 : Nat) : Int)))
      refine List.Pairwise.imp_of_mem (fun {a b} ha hb hab => ?_) this
      unfold refK at ha hb
      rw [List.mem_filter, decide_eq_true_eq] at ha hb
      exact .inr ⟨by omega, hab⟩
    · have h1 := (refT_mem.1 ha).2.2
      unfold refK at hb
      rw [List.mem_filter, decide_eq_true_eq] at hb
      exact .inl (by omega)
theorem refT_all (l : List Itm) (s : List UInt8) : refT l s 101 = allN l s := by
  unfold allN
  refine (srt_eq ?_ (refT_pw l s 101)).symm
  have hn1 : (refT l s 101).Nodup := by
    rw [List.nodup_iff_pairwise_ne]
    refine (refT_pw l s 101).imp fun {a b} h e => ?_
    subst e
    unfold lexL at h
    omega
  have hn2 := lt_nodup (selT_up (pnB s) l l.length)
  refine (List.perm_ext_iff_of_nodup hn1 hn2).2 fun a => ?_
  have hb : 1 ≤ wI l a ∧ wI l a ≤ 101 := worthP_bnd (l.getD a Itm.z).1.ps
  exact refT_mem.trans ⟨fun h => h.1, fun h => ⟨h, hb.1, hb.2⟩⟩
set_option maxRecDepth 20000
set_option maxHeartbeats 4000000
set_option linter.unusedSimpArgs false
set_option linter.unusedVariables false
attribute [local irreducible] AWp AOps byteAt SrcOK OrOk GloAll FnSpec
attribute [local irreducible] natsC turnS worthP srt
theorem ref_All0 {G : Glo} {m : Int} (hE : ErrsG G) (hP : PowIs G) (hM : GloAll G (maxTy m)) (c : Crd) (s : List UInt8) (hf : c.fine) (hs : s.length ≤ 1000000) : FnSpec Tryz.prog G 5 [c.A, .str s] [] (fun r H => ∃ va vk vc, r = .ret (.own 0 (.slice va vk vc)) ∧ H = [rwO va vk vc (allN c.l s)]) := by
  obtain ⟨v, l⟩ := c
  obtain ⟨h70, ho⟩ := hf
  dsimp only at h70 ho ⊢
  rw [← refT_all]
  have hGL : GloAll G [] := gloAll_nil
  refine fn_x Tryz.func5 Tryz.call5 rfl rfl rfl rfl hGL ?_
  intro C hC
  refine xw1 ?_
  intros
  refine lp_row 5 1 rfl ?_
  refine lp hC hGL (fun z : Nat × Option Addr × Nat × Nat => [(1, .str s), (2, .rop [.int .i64 v, .list 15 l.length (itsF l)] 0), (5, .own 0 (.slice z.2.1 z.2.2.1 z.2.2.2)), (6, .int .i64 ((z.1 + 1 : Nat) : Int))]) (fun z => [rwO z.2.1 z.2.2.1 z.2.2.2 (refT l s z.1)]) (fun z => z.1 ≤ 101 ∧ (refT l s z.1).length ≤ z.1 * 70) (fun z => 101 - z.1) (0, none, 0, 0) ⟨Nat.zero_le _, Nat.zero_le _⟩ env_w (congrArg (fun z => [HEnt.row (.slice none 0 0) none 1 0 z]) natsC_nil.symm) ?_
  rintro ⟨n, va, vk, vc⟩ ⟨h1, h2⟩
  dsimp only at h1 h2 ⊢
  by_cases hn : n < 101
  · refine xw1 ?_
    intros
    refine lp hC hGL (fun z : Nat × Option Addr × Nat × Nat => [(1, .str s), (2, .rop [.int .i64 v, .list 15 l.length (itsF l)] 0), (5, .own 0 (.slice z.2.1 z.2.2.1 z.2.2.2)), (6, .int .i64 ((n + 1 : Nat) : Int)), (14, .list 15 l.length (itsF l)), (15, .int .i64 (l.length : Int)), (16, .int .i64 (z.1 : Int))]) (fun z => [rwO z.2.1 z.2.2.1 z.2.2.2 (refT l s n ++ refK l s (n + 1) z.1)]) (fun z => z.1 ≤ l.length) (fun z => l.length - z.1) (0, va, vk, vc) (Nat.zero_le _) env_w ?_ ?_
    · show [rwO va vk vc (refT l s n)] = [rwO va vk vc (refT l s n ++ [])]
      rw [List.append_nil]
    rintro ⟨k, va, vk, vc⟩ hk1
    dsimp only at hk1 ⊢
    by_cases hk : k < l.length
    · have hgl := gl_at ho hk
      have hS := ref_same (G := G) (l.getD k Itm.z).1.n s (by omega) (by omega)
      rw [fold_seq] at hS
      have hW := ref_worth hE hP hM (l.getD k Itm.z) (itm_at ho hk)
      have hsu := refK_succ l s (n + 1) k
      have hkl : (refK l s (n + 1) k).length ≤ k := Nat.le_trans (List.length_filter_le _ _) (selT_len _ _ _)
      change FnIs _ _ _ _ (.bool (pnB s (l.getD k Itm.z))) at hS
      unfold itR at hW
      obtain ⟨L0, hL0⟩ : ∃ x, x = refT l s n ++ refK l s (n + 1) k := ⟨_, rfl⟩
      have hl0 : L0.length ≤ 8000 := by rw [hL0, List.length_append]; omega
      rw [← hL0]
      cases hg : pnB s (l.getD k Itm.z) with
      | true =>
        rw [hg] at hS hsu
        by_cases hw : wI l k = ((n + 1 : Nat) : Int)
        · rw [decide_eq_true hw, Bool.true_and, if_pos rfl] at hsu
          have e5 : refT l s n ++ refK l s (n + 1) (k + 1) = L0 ++ [k] := by rw [hsu, hL0, List.append_assoc]
          refine xw1 ?_
          intro _ va2 vk2 vc2 _
          intros
          refine nxs (k + 1, va2, vk2, vc2) hk (by dsimp only; omega) env_w ?_
          dsimp only
          rw [e5, natsC_push, show L0.length + 1 = (L0 ++ [k]).length by rw [List.length_append]; rfl]
          exact sub_w
        · rw [decide_eq_false hw, Bool.and_false, if_neg (by decide), List.append_nil] at hsu
          refine xw1 ?_
          intros
          refine nxs (k + 1, va, vk, vc) hk (by dsimp only; omega) env_w ?_
          dsimp only
          rw [hsu, ← hL0]
          exact sub_w
      | false =>
        rw [hg] at hS hsu
        rw [Bool.false_and, if_neg (by decide), List.append_nil] at hsu
        refine xw1 ?_
        intros
        refine nxs (k + 1, va, vk, vc) hk (by dsimp only; omega) env_w ?_
        dsimp only
        rw [hsu, ← hL0]
        exact sub_w
    · obtain rfl : k = l.length := by omega
      rw [← refT_succ]
      have hkl : (refK l s (n + 1) l.length).length ≤ l.length := Nat.le_trans (List.length_filter_le _ _) (selT_len _ _ _)
      refine xw1 ?_
      intros
      refine nxs (n + 1, va, vk, vc) ⟨hn, ?_⟩ (by dsimp only; omega) env_w sub_w
      dsimp only
      rw [refT_succ, List.length_append]
      omega
  · obtain rfl : n = 101 := by omega
    refine xw1 ?_
    intros
    exact ⟨_, List.Sublist.refl _, va, vk, vc, rfl, rfl⟩
theorem ref_All {G : Glo} {m : Int} (hE : ErrsG G) (hP : PowIs G) (hM : GloAll G (maxTy m)) (c : Crd) (s : List UInt8) (hf : c.fine) (hs : s.length ≤ 1000000) : FnIs Tryz.prog G 5 [c.A, .str s] (.list 1 (allN c.l s).length (natsF (allN c.l s))) :=
  fn_seal (eT := none) (fun a => a) mk_id (natsF _) (natsF_ok _) ((ref_All0 hE hP hM c s hf hs).mono fun _ _ ⟨va, vk, vc, h1, h2⟩ => ⟨0, _, h1, h2⟩)
end Go.Proofs.YtcoidjllehieeaaGreatDoor
namespace Go.Proofs.YtcoidjllehieeaaGreatDoor
open Go Go.RowKit
def fixF {α : Type} (p : α → Bool) : List α → Nat → Int
  | [], _ => -1
  | x :: l, i => if p x then (i : Int) else fixF p l (i + 1)
theorem fixF_at {α : Type} {p : α → Bool} (z : α) : ∀ {l : List α} {k : Nat} (i : Nat), k < l.length → (∀ j, j < k → p (l.getD j z) = false) → p (l.getD k z) = true → fixF p l i = ((i + k : Nat) : Int)
  | [], _, _, h, _, _ => absurd h (Nat.not_lt_zero _)
  | x :: l, 0, i, _, _, h => by
    have h : p x = true := h
    simp only [fixF, if_pos h, Nat.add_zero]
  | x :: l, k + 1, i, hk, h0, h => by
    have h1 : p x = false := h0 0 (Nat.succ_pos k)
    have ih := fixF_at z (l := l) (k := k) (i + 1) (by simpa using hk) (fun j hj => by simpa using h0 (j + 1) (by omega)) (by simpa using h)
    simp only [fixF, h1, Bool.false_eq_true, if_false, ih]
    omega
theorem fixF_no {α : Type} {p : α → Bool} (z : α) : ∀ {l : List α} (i : Nat), (∀ j, j < l.length → p (l.getD j z) = false) → fixF p l i = -1
  | [], _, _ => rfl
  | x :: l, i, h0 => by
    have h1 : p x = false := h0 0 (by simp)
    have ih := fixF_no z (l := l) (i + 1) (fun j hj => by simpa using h0 (j + 1) (by simpa using hj))
    simp only [fixF, h1, Bool.false_eq_true, if_false, ih]
theorem fixF_any {α : Type} (p : α → Bool) : ∀ (l : List α) (i : Nat), l.any p = !ltB (fixF p l i) 0
  | [], i => by rw [ltB_t.2 (show fixF p [] i < 0 by unfold fixF; decide)]; rfl
  | x :: l, i => by
    cases h : p x with
    | true => rw [ltB_f.2 (show 0 ≤ fixF p (x :: l) i by simp only [fixF, h, if_true]; omega)]; simp [h]
    | false =>
      rw [List.any_cons, h, Bool.false_or, fixF_any p l (i + 1)]
      simp only [fixF, h, Bool.false_eq_true, if_false]
/-- A parameter that tells a type; an item that has one. -/
def typQ (s : List UInt8) (q : Pr) : Bool := seqB (turnS 97 122 (-32) q.n) nTYP && q.vs.any fun v => seqB (turnS 97 122 (-32) v) (turnS 97 122 (-32) s)
def typB (s : List UInt8) (x : Itm) : Bool := x.1.ps.any (typQ s)
def typN (l : List Itm) (s kind : List UInt8) : List Nat := (allN l s).filter fun i => typB kind (l.getD i Itm.z)
theorem up_typ : turnS 97 122 (-32) nTYP = nTYP := by decide
/-- The parts of an item, bounded. -/
theorem itm_bnd {x : Itm} (h : Itm.OK 2500 x) : x.1.ps.length ≤ 2500 ∧ ∀ k, (x.1.ps.getD k Pr.z).n.length ≤ 2500 ∧ (x.1.ps.getD k Pr.z).vs.length ≤ 2500 ∧ ∀ j, ((x.1.ps.getD k Pr.z).vs.getD j []).length ≤ 2500 := by
  refine ⟨h.p.ps, fun k => ?_⟩
  obtain ⟨h1, h2, h3⟩ := h.p.q k
  refine ⟨h1, h2, fun j => ?_⟩
  have := lens_at (l := (x.p.ps.getD k Pr.z).vs) (k := j)
  exact Nat.le_trans this h3
set_option maxRecDepth 20000
set_option maxHeartbeats 4000000
set_option linter.unusedSimpArgs false
set_option linter.unusedVariables false
attribute [local irreducible] AWp AOps byteAt SrcOK OrOk GloAll FnSpec
attribute [local irreducible] natsC turnS worthP srt fixF
theorem index_strs {G : Glo} (f : Nat) (cap : List AVal) (p : (List UInt8) → Bool) (l : List (List UInt8)) (hl : l.length ≤ 1000000) (hp : ∀ k, k < l.length → FnIs Tryz.prog G f [.str (l.getD k []), .rop cap 0] (.bool (p (l.getD k [])))) : FnIs Tryz.prog G 37 [.list 1 l.length (strsF l), .func (.func f) [] [.rop cap 0]] (.int .i64 (fixF p l 0)) := by
  have hGL : GloAll G [] := gloAll_nil
  refine fn_x Tryz.func37 Tryz.call37 rfl rfl rfl rfl hGL ?_
  intro C hC
  refine xw1 ?_
  intros
  refine lp hC hGL (fun k : Nat => [(0, .list 1 l.length (strsF l)), (1, .func (.func f) [] [.rop cap 0]), (7, .int .i64 (l.length : Int)), (8, .int .i64 (k : Int))]) (fun _ => []) (fun k => k ≤ l.length ∧ ∀ j, j < k → p (l.getD j []) = false) (fun k => l.length - k) 0 ⟨Nat.zero_le _, fun j h => absurd h (Nat.not_lt_zero _)⟩ env_w rfl ?_
  rintro k ⟨h1, h2⟩
  by_cases hk : k < l.length
  · have hq := hp k hk
    cases hb : p (l.getD k []) with
    | true =>
      rw [hb] at hq
      rw [fixF_at [] 0 hk h2 hb, Nat.zero_add]
      exact xw0
    | false =>
      rw [hb] at hq
      refine xw1 ?_
      intros
      exact nxt (k + 1) ⟨hk, below_next h2 hb⟩ (by omega) env_w rfl
  · rw [fixF_no [] 0 fun j hj => h2 j (by omega)]
    exact xw0
theorem index_strsC {G : Glo} (f : Nat) (cap : List AVal) (p : (List UInt8) → Bool) (l : List (List UInt8)) (hl : l.length ≤ 1000000) (hp : ∀ k, k < l.length → FnIs Tryz.prog G f [.str (l.getD k []), .rop cap 0] (.bool (p (l.getD k [])))) : FnIs Tryz.prog G 25 [.list 1 l.length (strsF l), .func (.func f) [] [.rop cap 0]] (.bool (l.any p)) := by
  have hI := index_strs (G := G) f cap p l hl hp
  rw [fixF_any p l 0]
  have hGL : GloAll G [] := gloAll_nil
  refine fn_x Tryz.func25 Tryz.call25 rfl rfl rfl rfl hGL ?_
  intro C hC
  exact xw0
theorem index_prs {G : Glo} (f : Nat) (cap : List AVal) (p : Pr → Bool) (l : List Pr) (hl : l.length ≤ 1000000) (hp : ∀ k, k < l.length → FnIs Tryz.prog G f [prA (l.getD k Pr.z), .rop cap 0] (.bool (p (l.getD k Pr.z)))) : FnIs Tryz.prog G 36 [.list 2 l.length (prF l), .func (.func f) [] [.rop cap 0]] (.int .i64 (fixF p l 0)) := by
  have hGL : GloAll G [] := gloAll_nil
  refine fn_x Tryz.func36 Tryz.call36 rfl rfl rfl rfl hGL ?_
  intro C hC
  refine xw1 ?_
  intros
  refine lp hC hGL (fun k : Nat => [(0, .list 2 l.length (prF l)), (1, .func (.func f) [] [.rop cap 0]), (7, .int .i64 (l.length : Int)), (8, .int .i64 (k : Int))]) (fun _ => []) (fun k => k ≤ l.length ∧ ∀ j, j < k → p (l.getD j Pr.z) = false) (fun k => l.length - k) 0 ⟨Nat.zero_le _, fun j h => absurd h (Nat.not_lt_zero _)⟩ env_w rfl ?_
  rintro k ⟨h1, h2⟩
  by_cases hk : k < l.length
  · have hq := hp k hk
    cases hb : p (l.getD k Pr.z) with
    | true =>
      rw [hb] at hq
      rw [fixF_at Pr.z 0 hk h2 hb, Nat.zero_add]
      exact xw0
    | false =>
      rw [hb] at hq
      refine xw1 ?_
      intros
      exact nxt (k + 1) ⟨hk, below_next h2 hb⟩ (by omega) env_w rfl
  · rw [fixF_no Pr.z 0 fun j hj => h2 j (by omega)]
    exact xw0
theorem index_prsC {G : Glo} (f : Nat) (cap : List AVal) (p : Pr → Bool) (l : List Pr) (hl : l.length ≤ 1000000) (hp : ∀ k, k < l.length → FnIs Tryz.prog G f [prA (l.getD k Pr.z), .rop cap 0] (.bool (p (l.getD k Pr.z)))) : FnIs Tryz.prog G 23 [.list 2 l.length (prF l), .func (.func f) [] [.rop cap 0]] (.bool (l.any p)) := by
  have hI := index_prs (G := G) f cap p l hl hp
  rw [fixF_any p l 0]
  have hGL : GloAll G [] := gloAll_nil
  refine fn_x Tryz.func23 Tryz.call23 rfl rfl rfl rfl hGL ?_
  intro C hC
  exact xw0
theorem typed_three {G : Glo} (s v : List UInt8) (hs : s.length ≤ 1000000) (hv : v.length ≤ 1000000) : FnIs Tryz.prog G 26 [.str v, .rop [.str s] 0] (.bool (seqB (turnS 97 122 (-32) v) (turnS 97 122 (-32) s))) := by
  have hS := name_Same (G := G) v s (by omega) (by omega)
  have hGL : GloAll G [] := gloAll_nil
  refine fn_x Tryz.func26 Tryz.call26 rfl rfl rfl rfl hGL ?_
  intro C hC
  exact xw0
theorem typed_two {G : Glo} (s : List UInt8) (q : Pr) (hs : s.length ≤ 1000000) (h1 : q.n.length ≤ 2500) (h2 : q.vs.length ≤ 2500) (h3 : ∀ j, (q.vs.getD j []).length ≤ 2500) : FnIs Tryz.prog G 24 [prA q, .rop [.str s] 0] (.bool (typQ s q)) := by
  have hS := name_Same (G := G) q.n nTYP (by omega) (by decide)
  rw [up_typ] at hS
  have hC3 := index_strsC (G := G) 26 [.str s] (fun v => seqB (turnS 97 122 (-32) v) (turnS 97 122 (-32) s)) q.vs (by omega) (fun k _ => typed_three s (q.vs.getD k []) hs (by have := h3 k; omega))
  unfold typQ
  have hGL : GloAll G [] := gloAll_nil
  cases hb : seqB (turnS 97 122 (-32) q.n) nTYP with
  | true =>
    rw [hb] at hS
    refine fn_x Tryz.func24 Tryz.call24 rfl rfl rfl rfl hGL ?_
    intro C hC
    exact xw0
  | false =>
    rw [hb] at hS
    refine fn_x Tryz.func24 Tryz.call24 rfl rfl rfl rfl hGL ?_
    intro C hC
    exact xw0
theorem typed_one {G : Glo} (c : Crd) (s : List UInt8) (hf : c.fine) (hs : s.length ≤ 1000000) (k : Nat) (hk : k < c.l.length) : FnIs Tryz.prog G 22 [.int .i64 (k : Int), .rop [.int .i64 c.v, .list 15 c.l.length (itsF c.l)] 0, .rop [.str s] 0] (.bool (!typB s (c.l.getD k Itm.z))) := by
  obtain ⟨v, l⟩ := c
  obtain ⟨h70, ho⟩ := hf
  dsimp only at h70 ho hk ⊢
  obtain ⟨b1, b2⟩ := itm_bnd (itm_at ho hk)
  have hI := index_prsC (G := G) 24 [.str s] (typQ s) (l.getD k Itm.z).1.ps (by omega) (fun j _ => typed_two s _ hs (b2 j).1 (b2 j).2.1 (b2 j).2.2)
  have hGL : GloAll G [] := gloAll_nil
  change FnIs _ _ _ _ (.bool (typB s (l.getD k Itm.z))) at hI
  refine fn_x Tryz.func22 Tryz.call22 rfl rfl rfl rfl hGL ?_
  intro C hC
  exact xw0
end Go.Proofs.YtcoidjllehieeaaGreatDoor
namespace Go.Proofs.YtcoidjllehieeaaGreatDoor
open Go Go.RowKit
/-- What a filter keeps of the first so many. -/
def flt (p : Nat → Bool) (L : List Nat) : List Nat := L.filter fun x => !p x
theorem flt_succ {p : Nat → Bool} {L : List Nat} {j : Nat} (h : j < L.length) : flt p (L.take (j + 1)) = flt p (L.take j) ++ if p (L.getD j 0) then [] else [L.getD j 0] := by
  unfold flt
  rw [List.take_succ_eq_append_getElem h, List.filter_append, getD_at h]
  congr 1
  cases hb : p L[j] <;> simp only [List.filter_cons, List.filter_nil, hb] <;> rfl
theorem flt_none {p : Nat → Bool} {L : List Nat} (h : ∀ j, j < L.length → p (L.getD j 0) = false) : flt p L = L := by
  unfold flt
  rw [List.filter_eq_self]
  intro x hx
  obtain ⟨i, hi, rfl⟩ := List.getElem_of_mem hx
  have := h i hi
  rw [getD_at hi] at this
  rw [this]; rfl
theorem fixF_cases {α : Type} (p : α → Bool) (z : α) (l : List α) : (fixF p l 0 = -1 ∧ ∀ j, j < l.length → p (l.getD j z) = false) ∨ ∃ k, k < l.length ∧ fixF p l 0 = (k : Int) ∧ p (l.getD k z) = true ∧ ∀ j, j < k → p (l.getD j z) = false := by
  by_cases h : ∃ k, k < l.length ∧ p (l.getD k z) = true
  · have : ∀ n, (∃ k, k < n ∧ k < l.length ∧ p (l.getD k z) = true) → ∃ k, k < l.length ∧ p (l.getD k z) = true ∧ ∀ j, j < k → p (l.getD j z) = false := by
      intro n
      induction n with
      | zero => rintro ⟨k, hk, _⟩; omega
      | succ n ih =>
        rintro ⟨k, hk, hl, hp⟩
        by_cases h2 : ∃ k, k < n ∧ k < l.length ∧ p (l.getD k z) = true
        · exact ih h2
        · refine ⟨k, hl, hp, fun j hj => ?_⟩
          cases hb : p (l.getD j z) with
          | false => rfl
          | true => exact absurd ⟨j, by omega, by omega, hb⟩ h2
    obtain ⟨k, hk, hp⟩ := h
    obtain ⟨k, h1, h2, h3⟩ := this (k + 1) ⟨k, by omega, hk, hp⟩
    refine .inr ⟨k, h1, ?_, h2, h3⟩
    rw [fixF_at z 0 h1 h3 h2, Nat.zero_add]
  · have h0 : ∀ j, j < l.length → p (l.getD j z) = false := fun j hj => by
      cases hb : p (l.getD j z) with
      | false => rfl
      | true => exact absurd ⟨j, hj, hb⟩ h
    exact .inl ⟨fixF_no z 0 h0, h0⟩
theorem natsC_app (L M : List Nat) : natsC (L ++ M) = natsC L ++ natsC M := by simp [natsC]
/-- An own row of numbers, whatever its value. -/
def RowW (L : List Nat) (r : ARes) (H : Heap) : Prop := ∃ va vk vc, r = .ret (.own 0 (.slice va vk vc)) ∧ H = [rwO va vk vc L]
theorem rowW_seal {P : Program} [Tab P] {G : Glo} {f : FuncId} {avs : List AVal} {L : List Nat} (h : FnSpec P G f avs [] (RowW L)) : FnIs P G f avs (.list 1 L.length (natsF L)) :=
  fn_seal (eT := none) (fun a => a) mk_id (natsF L) (natsF_ok L) (h.mono fun _ _ ⟨va, vk, vc, h1, h2⟩ => ⟨0, _, h1, h2⟩)
set_option maxRecDepth 20000
set_option maxHeartbeats 4000000
set_option linter.unusedSimpArgs false
set_option linter.unusedVariables false
attribute [local irreducible] AWp AOps byteAt SrcOK OrOk GloAll FnSpec
attribute [local irreducible] natsC turnS worthP srt fixF flt
section
variable {G : Glo} (f : Nat) (c1 c2 : List AVal) (p : Nat → Bool) (b m cap : Nat) (L : List Nat)
theorem index_own (hm : m = L.length) (hl : L.length ≤ 1000000) (hp : ∀ x ∈ L, FnIs Tryz.prog G f [.int .i64 (x : Int), .rop c1 0, .rop c2 0] (.bool (p x))) : FnSpec Tryz.prog G 35 [.raw (vlN b m cap), .func (.func f) [] [.rop c1 0, .rop c2 0]] [rwN none b m cap L] (fun r H => r = .ret (.int .i64 (fixF p L 0)) ∧ H = [rwN none b m cap L]) := by
  have hGL : GloAll G [] := gloAll_nil
  refine fn_own [(0, 0, vlN b m cap)] Tryz.func35 Tryz.call35 rfl rfl rfl rfl (by repeat (first | exact trivial | refine And.intro ⟨rfl, rfl⟩ ?_)) ?_
  intro C hC
  refine aw_code hC hGL (xw1 ?_)
  intros
  refine lp hC hGL (fun k : Nat => [(0, .own 0 (vlN b m cap)), (1, .func (.func f) [] [.rop c1 0, .rop c2 0]), (7, .int .i64 (m : Int)), (8, .int .i64 (k : Int))]) (fun _ => [rwN none b m cap L]) (fun k => k ≤ m ∧ ∀ j, j < k → p (L.getD j 0) = false) (fun k => m - k) 0 ⟨Nat.zero_le _, fun j h => absurd h (Nat.not_lt_zero _)⟩ env_w rfl ?_
  rintro k ⟨h1, h2⟩
  by_cases hk : k < m
  · have hq := hp _ (getD_mem (L := L) (i := k) (by omega))
    have g1 := natsC_get (L := L) (i := k) (by omega)
    cases hb : p (L.getD k 0) with
    | true =>
      rw [hb] at hq
      rw [fixF_at 0 0 (by omega) h2 hb, Nat.zero_add]
      exact xw0
    | false =>
      rw [hb] at hq
      refine xw1 ?_
      intros
      exact nxt (k + 1) ⟨hk, below_next h2 hb⟩ (by omega) env_w rfl
  · rw [fixF_no 0 0 fun j hj => h2 j (by omega)]
    exact xw0
theorem delete_own (hm : m = L.length) (hl : L.length ≤ 1000000) (h0 : 0 < m) (hcap : m ≤ cap) (hp : ∀ x ∈ L, FnIs Tryz.prog G f [.int .i64 (x : Int), .rop c1 0, .rop c2 0] (.bool (p x))) : FnSpec Tryz.prog G 21 [.raw (vlN b m cap), .func (.func f) [] [.rop c1 0, .rop c2 0]] [rwN none b m cap L] (RowW (flt p L)) := by
  have hI := index_own f c1 c2 p b m cap L hm hl hp
  have hGL : GloAll G [] := gloAll_nil
  refine fn_own [(0, 0, vlN b m cap)] Tryz.func21 Tryz.call21 rfl rfl rfl rfl (by repeat (first | exact trivial | refine And.intro ⟨rfl, rfl⟩ ?_)) ?_
  intro C hC
  refine cut hC hGL [(0, .own 0 (vlN b m cap)), (1, .func (.func f) [] [.rop c1 0, .rop c2 0])] [rwN none b m cap L] True ?_ fun _ => ?_
  · exact xw0
  refine cut hC hGL [(0, .own 0 (vlN b m cap)), (1, .func (.func f) [] [.rop c1 0, .rop c2 0]), (5, .int .i64 (fixF p L 0))] [rwN none b m cap L] True ?_ fun _ => ?_
  · exact xw0
  rcases fixF_cases p 0 L with ⟨e, hn⟩ | ⟨k, hk, e, hy, hn⟩
  · rw [e, flt_none hn]
    refine aw_code hC hGL (xw1 ?_)
    intros
    refine ⟨_, List.Sublist.refl _, _, _, _, rfl, ?_⟩
    rw [hm]
  · rw [e]
    refine cut hC hGL [(0, .own 0 (vlN b m cap)), (1, .func (.func f) [] [.rop c1 0, .rop c2 0]), (5, .int .i64 (k : Int))] [rwN none b m cap L] True ?_ fun _ => ?_
    · exact xw0
    have hfl : ∀ j, (flt p (L.take j)).length ≤ j := fun j => by
      unfold flt
      have := List.length_filter_le (fun x => !p x) (L.take j)
      rw [List.length_take] at this
      omega
    have hk1 : flt p (L.take (k + 1)) = L.take k := by
      rw [flt_succ hk, hy, if_pos rfl, List.append_nil, flt_none]
      intro j hj
      rw [List.length_take] at hj
      rw [getD_at (by rw [List.length_take]; omega), List.getElem_take, ← getD_at (by omega)]
      exact hn j (by omega)
    refine cuty hC hGL (fun Y : List Nat => [(0, .own 0 (vlN b m cap)), (5, .int .i64 ((flt p L).length : Int))]) (fun Y => [rwN none b m cap (flt p L ++ Y)]) (fun Y => (flt p L).length + Y.length = m ∧ 0 < Y.length) ?_ ?_
    · refine xw1 ?_
      intros
      refine lp hC hGL (fun z : Nat × List Nat => [(0, .own 0 (vlN b m cap)), (1, .func (.func f) [] [.rop c1 0, .rop c2 0]), (5, .int .i64 ((flt p (L.take z.1)).length : Int)), (6, .int .i64 (z.1 : Int))]) (fun z => [rwN none b m cap (flt p (L.take z.1) ++ (z.2 ++ L.drop z.1))]) (fun z => z.1 ≤ m ∧ (flt p (L.take z.1)).length + z.2.length = z.1 ∧ 0 < z.2.length) (fun z => m - z.1) (k + 1, [L.getD k 0]) ?_ ?_ ?_ ?_
      · dsimp only
        rw [hk1, List.length_take]
        exact ⟨by omega, by simp only [List.length_cons, List.length_nil]; omega, Nat.one_pos⟩
      · refine ⟨rfl, rfl, ?_, rfl, trivial⟩
        dsimp only
        rw [hk1, List.length_take, Nat.min_eq_left (by omega)]
        rfl
      · dsimp only
        rw [hk1]
        have : L.take k ++ ([L.getD k 0] ++ L.drop (k + 1)) = L := by
          rw [getD_at hk]
          have := List.take_append_drop k L
          rwa [List.drop_eq_getElem_cons hk] at this
        rw [this]
      rintro ⟨j, Y⟩ ⟨h1, h2, h3⟩
      dsimp only at h1 h2 h3 ⊢
      by_cases hj : j < m
      · obtain ⟨D, hD⟩ : ∃ D, D = flt p (L.take j) ++ (Y ++ L.drop j) := ⟨_, rfl⟩
        have hdl : L.drop j = L.getD j 0 :: L.drop (j + 1) := by rw [getD_at (by omega)]; exact List.drop_eq_getElem_cons (by omega)
        have hDl : D.length = m := by rw [hD]; simp only [List.length_append, List.length_drop]; omega
        have e1 : D.getD j 0 = L.getD j 0 := by rw [hD, hdl, ← List.append_assoc]; exact getD_mid (by rw [List.length_append]; omega)
        have g1 := natsC_get (L := D) (i := j) (by omega)
        rw [e1] at g1
        have hq := hp _ (getD_mem (L := L) (i := j) (by omega))
        have hfs := flt_succ (p := p) (L := L) (j := j) (by omega)
        rw [← hD]
        cases hb : p (L.getD j 0) with
        | true =>
          rw [hb] at hq hfs
          rw [if_pos rfl, List.append_nil] at hfs
          refine xw1 ?_
          intros
          refine nxt (j + 1, Y ++ [L.getD j 0]) ⟨by dsimp only; omega, ?_, ?_⟩ (by dsimp only; omega) ⟨rfl, rfl, ?_, rfl, trivial⟩ ?_
          · dsimp only; rw [hfs, List.length_append, List.length_cons, List.length_nil]; omega
          · dsimp only; rw [List.length_append]; omega
          · dsimp only; rw [hfs]; rfl
          · dsimp only; rw [hfs, hD, hdl, List.append_assoc]; rfl
        | false =>
          rw [hb] at hq hfs
          rw [if_neg (by decide)] at hfs
          obtain ⟨i, hi⟩ : ∃ i, i = (flt p (L.take j)).length := ⟨_, rfl⟩
          obtain ⟨y0, Y', rfl⟩ : ∃ y0 Y', Y = y0 :: Y' := by
            cases Y with
            | nil => exact absurd h3 (Nat.lt_irrefl _)
            | cons y0 Y' => exact ⟨_, _, rfl⟩
          rw [List.length_cons] at h2
          have e2 := natsC_put (L := D) (i := i) (y := L.getD j 0) (by omega)
          have e3 : D.set i (L.getD j 0) = flt p (L.take (j + 1)) ++ ((Y' ++ [L.getD j 0]) ++ L.drop (j + 1)) := by
            rw [hfs, hD, hdl, List.set_append_right _ _ (by omega), hi, Nat.sub_self]
            simp only [List.cons_append, List.set_cons_zero, List.append_assoc, List.nil_append]
          rw [e3] at e2
          rw [← hi]
          refine xw1 ?_
          intros
          refine nxt (j + 1, Y' ++ [L.getD j 0]) ⟨by dsimp only; omega, ?_, ?_⟩ (by dsimp only; omega) ⟨rfl, rfl, iN ?_, rfl, trivial⟩ ?_
          · dsimp only; rw [hfs, List.length_append, List.length_append, List.length_cons, List.length_nil]; omega
          · dsimp only; rw [List.length_append, List.length_cons]; omega
          · dsimp only; rw [hfs, List.length_append, List.length_cons, List.length_nil]; omega
          · exact congrArg (fun z => [HEnt.row (vlN b m cap) none 1 m z]) e2
      · obtain rfl : j = L.length := by omega
        rw [List.take_length] at h2
        rw [List.take_length, List.drop_length, List.append_nil]
        refine xw1 ?_
        intros
        exact cy Y ⟨by omega, h3⟩
    rintro Y ⟨h1, h2⟩
    obtain ⟨F, hF⟩ : ∃ F, F = flt p L := ⟨_, rfl⟩
    rw [← hF] at h1 ⊢
    have hpt : natsC (F ++ Y) = natsC F ++ natsC Y := natsC_app F Y
    refine cuty hC hGL (fun _ : Unit => [(0, .own 0 (vlN b m cap)), (5, .int .i64 (F.length : Int))]) (fun _ => [.row (vlN b m cap) none 1 m ((natsC (F ++ Y)).take F.length ++ List.replicate (m - F.length) (.int .i64 0))]) (fun _ => True) ?_ fun _ _ => ?_
    · refine xw1 ?_
      refine op1_sliceB hC hGL rfl rfl (by omega) (by omega) rfl rfl rfl rfl rfl rfl ?_
      refine xw1 ?_
      refine op1_clear (z := .int .i64 0) (za := .int .i64 0) (v := vlN b m cap) (i := 0) (bl := b) (o := F.length) (n0 := m) (c0 := cap - F.length) (j0 := 0) hC hGL rfl rfl rfl ⟨_, rfl⟩ (by omega) rfl rfl rfl rfl rfl rfl (fun _ h => by cases h) (fun _ => rfl) ?_
      refine xw1 ?_
      exact cy () trivial
    refine aw_to (to_short (i := 0) (k := F.length) rfl (by omega) h0) ?_
    have e9 : ((natsC (F ++ Y)).take F.length ++ List.replicate (m - F.length) (AVal.int .i64 0)).take F.length = natsC F := by
      rw [natsC_app, List.take_left' natsC_len, List.take_left' natsC_len]
    refine aw_code hC hGL ?_
    refine xw1 ?_
    refine op1_sliceH hC hGL rfl rfl (by omega) (by omega) rfl rfl rfl rfl rfl ?_
    refine xw1 ?_
    exact ⟨_, List.Sublist.refl _, _, _, _, rfl, congrArg (fun z => [HEnt.row (.slice (some ⟨b, 0, none⟩) F.length cap) none 1 F.length z]) e9⟩
end
end Go.Proofs.YtcoidjllehieeaaGreatDoor
namespace Go.Proofs.YtcoidjllehieeaaGreatDoor
open Go Go.RowKit
theorem flt_typ (l : List Itm) (s kind : List UInt8) : flt (fun i => !typB kind (l.getD i Itm.z)) (allN l s) = typN l s kind := by
  unfold flt typN
  simp only [Bool.not_not]
theorem cx_rowQ {P : Program} [Tab P] {G : Glo} {f : FuncId} {avs : List AVal} {K Kp : AVal → Heap → Prop} {L : List Nat} (hs : FnSpec P G f avs [] (RowQ L)) (k : ∀ va vk vc, RowV L.length va vk → NilV L va vk vc → K (.own 0 (.slice va vk vc)) [rwO va vk vc L]) : Cx P G f avs [] K Kp := by
  refine .mk _ hs ?_ ?_
  · rintro v H' ⟨va, vk, vc, h1, h2, h3, rfl⟩
    cases h3
    exact k _ _ _ h1 h2
  · rintro v H' ⟨va, vk, vc, h1, h2, h3, rfl⟩
    cases h3
theorem cx_rowW {P : Program} [Tab P] {G : Glo} {f : FuncId} {avs : List AVal} {x : HEnt} {K Kp : AVal → Heap → Prop} {L : List Nat} (hs : FnSpec P G f avs [x] (RowW L)) (k : ∀ va vk vc, K (.own 0 (.slice va vk vc)) [rwO va vk vc L]) : Cx P G f avs [x] K Kp := by
  refine .mk _ hs ?_ ?_
  · rintro v H' ⟨va, vk, vc, h3, rfl⟩
    cases h3
    exact k _ _ _
  · rintro v H' ⟨va, vk, vc, h3, rfl⟩
    cases h3
theorem fn_cap {P : Program} [Tab P] {G : Glo} {f : FuncId} {avs : List AVal} {b m cap : Nat} {L : List Nat} {Q : ARes → Heap → Prop} (h0 : 0 < m) (h : m ≤ cap → FnSpec P G f avs [rwN none b m cap L] Q) : FnSpec P G f avs [rwN none b m cap L] Q := fun R w args hG hm ha => by
  obtain ⟨_, cap', _, _, _, e, _, _, hc, _⟩ := row_cells (i := 0) hm rfl ⟨cap, rfl⟩ h0
  cases e
  exact h hc R w args hG hm ha
set_option maxRecDepth 20000
set_option maxHeartbeats 4000000
set_option linter.unusedSimpArgs false
set_option linter.unusedVariables false
attribute [local irreducible] AWp AOps byteAt SrcOK OrOk GloAll FnSpec
attribute [local irreducible] natsC turnS worthP srt fixF flt allN typN
theorem index_nil {G : Glo} (f : Nat) (c1 c2 : List AVal) : FnIs Tryz.prog G 35 [.raw (.slice none 0 0), .func (.func f) [] [.rop c1 0, .rop c2 0]] (.int .i64 (-1)) := by
  have hGL : GloAll G [] := gloAll_nil
  refine fn_x Tryz.func35 Tryz.call35 rfl rfl rfl rfl hGL ?_
  intro C hC
  refine xw1 ?_
  intros
  refine rds hC hGL 1 ?_
  exact xw0
theorem delete_nil {G : Glo} (f : Nat) (c1 c2 : List AVal) : FnSpec Tryz.prog G 21 [.raw (.slice none 0 0), .func (.func f) [] [.rop c1 0, .rop c2 0]] [rwO none 0 0 []] (RowW []) := by
  have hI := index_nil (G := G) f c1 c2
  have hGL : GloAll G [] := gloAll_nil
  refine fn_own [(0, 0, .slice none 0 0)] Tryz.func21 Tryz.call21 rfl rfl rfl rfl (by repeat (first | exact trivial | refine And.intro ⟨rfl, rfl⟩ ?_)) ?_
  intro C hC
  refine aw_code hC hGL (xw1 ?_)
  intros
  exact ⟨_, List.Sublist.refl _, _, _, _, rfl, rfl⟩
theorem pick_Typed {G : Glo} {m : Int} (hE : ErrsG G) (hP : PowIs G) (hM : GloAll G (maxTy m)) (c : Crd) (s kind : List UInt8) (hf : c.fine) (hs : s.length ≤ 1000000) (hk : kind.length ≤ 1000000) : FnIs Tryz.prog G 9 [c.A, .str s, .str kind] (.list 1 (typN c.l s kind).length (natsF (typN c.l s kind))) := by
  refine rowW_seal ?_
  have hA := pick_All0 hE hP hM c s hf hs
  have hT := typed_one (G := G) c kind hf hk
  have hlen := allN_len c.l s
  have hmem : ∀ x ∈ allN c.l s, x < c.l.length := fun x hx => allN_mem hx
  rw [← flt_typ]
  obtain ⟨v, l⟩ := c
  obtain ⟨h70, ho⟩ := hf
  dsimp only at h70 ho hlen hmem hT hA ⊢
  unfold Crd.A at hA ⊢
  generalize allN l s = L at *
  have hGL : GloAll G [] := gloAll_nil
  refine fn_x Tryz.func9 Tryz.call9 rfl rfl rfl rfl hGL ?_
  intro C hC
  refine xw1 ?_
  intros
  refine cx_rowQ hA ?_
  intro va vk vc h2 h3
  by_cases hn : L = []
  · subst hn
    obtain ⟨rfl, rfl, rfl⟩ := h3 rfl
    refine xw1 ?_
    intros
    refine cx_rowW (delete_nil (G := G) 22 [.int .i64 v, .list 15 l.length (itsF l)] [.str kind]) ?_
    intro va vk vc
    refine xw1 ?_
    intros
    rw [show flt (fun i => !typB kind (l.getD i Itm.z)) [] = [] by unfold flt; rfl]
    exact ⟨_, List.Sublist.refl _, _, _, _, rfl, rfl⟩
  · have hpos : 0 < L.length := List.length_pos_iff.2 hn
    obtain ⟨b, rfl, rfl⟩ := h2 hpos
    refine xw1 ?_
    intros
    refine cx_rowW (fn_cap hpos fun hcap => delete_own 22 [.int .i64 v, .list 15 l.length (itsF l)] [.str kind] (fun i => !typB kind (l.getD i Itm.z)) b L.length vc L rfl (by omega) hpos hcap (fun x hx => hT x (hmem x hx))) ?_
    intro va vk vc
    refine xw1 ?_
    intros
    exact ⟨_, List.Sublist.refl _, _, _, _, rfl, rfl⟩
end Go.Proofs.YtcoidjllehieeaaGreatDoor
namespace Go.Proofs.YtcoidjllehieeaaGreatDoor
open Go Go.RowKit
theorem any_next {α : Type} (p : α → Bool) (z : α) {l : List α} {k : Nat} (hk : k < l.length) : (l.take (k + 1)).any p = ((l.take k).any p || p (l.getD k z)) := by
  rw [List.take_succ_eq_append_getElem hk, List.any_append, List.getD_eq_getElem?_getD, List.getElem?_eq_getElem hk]
  simp
theorem flt_le (p : Nat → Bool) (L : List Nat) : (flt p L).length ≤ L.length := by
  unfold flt
  exact List.length_filter_le _ _
theorem or_keep : ∀ a b c d : Bool, true = (a || (b && c)) → true = (a || (b && (c || d))) := by decide
set_option maxRecDepth 20000
set_option maxHeartbeats 4000000
set_option linter.unusedSimpArgs false
set_option linter.unusedVariables false
attribute [local irreducible] AWp AOps byteAt SrcOK OrOk GloAll FnSpec
attribute [local irreducible] natsC turnS worthP srt fixF flt allN typN
theorem ref_Typed {G : Glo} {m : Int} (hE : ErrsG G) (hP : PowIs G) (hM : GloAll G (maxTy m)) (c : Crd) (s kind : List UInt8) (hf : c.fine) (hs : s.length ≤ 1000000) (hk : kind.length ≤ 1000000) : FnIs Tryz.prog G 10 [c.A, .str s, .str kind] (.list 1 (typN c.l s kind).length (natsF (typN c.l s kind))) := by
  refine rowW_seal ?_
  have hA := ref_All hE hP hM c s hf hs
  have hlen := allN_len c.l s
  have hmem : ∀ x ∈ allN c.l s, x < c.l.length := fun x hx => allN_mem hx
  rw [← flt_typ]
  obtain ⟨v, l⟩ := c
  obtain ⟨h70, ho⟩ := hf
  dsimp only at h70 ho hlen hmem hA ⊢
  unfold Crd.A at hA ⊢
  generalize allN l s = L at *
  have hGL : GloAll G [] := gloAll_nil
  refine fn_x Tryz.func10 Tryz.call10 rfl rfl rfl rfl hGL ?_
  intro C hC
  refine xw1 ?_
  intros
  refine lp_row 7 1 rfl ?_
  refine lp hC hGL (fun z : Nat × Option Addr × Nat × Nat => [(2, .str kind), (3, .rop [.int .i64 v, .list 15 l.length (itsF l)] 0), (7, .own 0 (.slice z.2.1 z.2.2.1 z.2.2.2)), (17, .list 1 L.length (natsF L)), (18, .int .i64 (L.length : Int)), (19, .int .i64 (z.1 : Int))]) (fun z => [rwO z.2.1 z.2.2.1 z.2.2.2 (flt (fun i => !typB kind (l.getD i Itm.z)) (L.take z.1))]) (fun z => z.1 ≤ L.length) (fun z => L.length - z.1) (0, none, 0, 0) (Nat.zero_le _) env_w ?_ ?_
  · rw [show flt (fun i => !typB kind (l.getD i Itm.z)) (L.take 0) = [] by unfold flt; rfl]
    exact congrArg (fun z => [HEnt.row (.slice none 0 0) none 1 0 z]) natsC_nil.symm
  rintro ⟨k, va, vk, vc⟩ h1
  dsimp only at h1 ⊢
  by_cases hk : k < L.length
  · have hgm := hmem _ (getD_mem (L := L) (i := k) hk)
    refine xw1 ?_
    intros
    obtain ⟨b1, b2⟩ := itm_bnd (itm_at ho hgm)
    have hty : typB kind (l.getD (L.getD k 0) Itm.z) = (l.getD (L.getD k 0) Itm.z).1.ps.any (typQ kind) := rfl
    obtain ⟨ps, hps⟩ : ∃ ps, ps = (l.getD (L.getD k 0) Itm.z).1.ps := ⟨_, rfl⟩
    rw [← hps] at b1 b2 hty ⊢
    refine lp hC hGL (fun z : Nat × Bool => [(2, .str kind), (3, .rop [.int .i64 v, .list 15 l.length (itsF l)] 0), (7, .own 0 (.slice va vk vc)), (9, natsF L k), (10, .bool z.2), (17, .list 1 L.length (natsF L)), (18, .int .i64 (L.length : Int)), (19, .int .i64 (k : Int)), (28, .list 2 ps.length (prF ps)), (29, .int .i64 (ps.length : Int)), (30, .int .i64 (z.1 : Int))]) (fun _ => [rwO va vk vc (flt (fun i => !typB kind (l.getD i Itm.z)) (L.take k))]) (fun z => z.1 ≤ ps.length ∧ z.2 = (ps.take z.1).any (typQ kind)) (fun z => ps.length - z.1) (0, false) ⟨Nat.zero_le _, rfl⟩ env_w rfl ?_
    rintro ⟨j, fb⟩ ⟨h2, h3⟩
    dsimp only at h2 h3 ⊢
    by_cases hj : j < ps.length
    · obtain ⟨c1, c2, c3⟩ := b2 j
      have hnx := any_next (typQ kind) Pr.z hj
      refine xw1 ?_
      intros
      rename_i bp _
      obtain ⟨q, hq⟩ : ∃ q, q = ps.getD j Pr.z := ⟨_, rfl⟩
      rw [← hq] at c1 c2 c3 hnx ⊢
      have hS := ref_same (G := G) q.n [116, 121, 112, 101] (by omega) (by decide)
      rw [fold_seq, show turnS 97 122 (-32) [116, 121, 112, 101] = nTYP by unfold turnS; decide] at hS
      refine lp hC hGL (fun z : Nat × Bool => [(2, .str kind), (3, .rop [.int .i64 v, .list 15 l.length (itsF l)] 0), (7, .own 0 (.slice va vk vc)), (9, natsF L k), (10, .bool z.2), (12, .own 1 (.pointer (some ⟨bp, 0, none⟩))), (17, .list 1 L.length (natsF L)), (18, .int .i64 (L.length : Int)), (19, .int .i64 (k : Int)), (28, .list 2 ps.length (prF ps)), (29, .int .i64 (ps.length : Int)), (30, .int .i64 (j : Int)), (35, .list 1 q.vs.length (strsF q.vs)), (36, .int .i64 (q.vs.length : Int)), (37, .int .i64 (z.1 : Int))]) (fun _ => [rwO va vk vc (flt (fun i => !typB kind (l.getD i Itm.z)) (L.take k)), .cells bp (some 52) [.str q.n, .list 1 q.vs.length (strsF q.vs)]]) (fun z => z.1 ≤ q.vs.length ∧ z.2 = (fb || (seqB (turnS 97 122 (-32) q.n) nTYP && (q.vs.take z.1).any fun v => seqB (turnS 97 122 (-32) v) (turnS 97 122 (-32) kind)))) (fun z => q.vs.length - z.1) (0, fb) ⟨Nat.zero_le _, by rw [List.take_zero, List.any_nil, Bool.and_false, Bool.or_false]⟩ env_w rfl ?_
      rintro ⟨i, gb⟩ ⟨h4, h5⟩
      dsimp only at h4 h5 ⊢
      by_cases hi : i < q.vs.length
      · have hS2 := ref_same (G := G) (q.vs.getD i []) kind (by have := c3 i; omega) (by omega)
        rw [fold_seq] at hS2
        have hn2 := any_next (fun v => seqB (turnS 97 122 (-32) v) (turnS 97 122 (-32) kind)) [] hi
        have c4 := c3 i
        cases gb with
        | true =>
          refine xw1 ?_
          intros
          refine nxs (i + 1, true) ⟨hi, ?_⟩ (by dsimp only; omega) env_w sub_w
          dsimp only
          rw [hn2]
          exact or_keep _ _ _ _ h5
        | false =>
          cases hb : seqB (turnS 97 122 (-32) q.n) nTYP with
          | false =>
            rw [hb] at hS h5
            refine xw1 ?_
            intros
            refine nxs (i + 1, false) ⟨hi, ?_⟩ (by dsimp only; omega) env_w sub_w
            dsimp only
            rw [Bool.false_and] at h5 ⊢
            exact h5
          | true =>
            rw [hb] at hS h5
            refine xw1 ?_
            intros
            refine nxs (i + 1, seqB (turnS 97 122 (-32) (q.vs.getD i [])) (turnS 97 122 (-32) kind)) ⟨hi, ?_⟩ (by dsimp only; omega) env_w sub_w
            dsimp only
            rw [hn2, Bool.true_and]
            rw [Bool.true_and] at h5
            rw [← Bool.or_assoc, ← h5, Bool.false_or]
      · obtain rfl : i = q.vs.length := by omega
        refine xw1 ?_
        intros
        refine nxs (j + 1, gb) ⟨hj, ?_⟩ (by dsimp only; omega) env_w sub_w
        dsimp only
        rw [h5, hnx, ← h3, List.take_length]
        rfl
    · obtain rfl : j = ps.length := by omega
      rw [List.take_length] at h3
      rw [← h3] at hty
      have hfs := flt_succ (p := fun i => !typB kind (l.getD i Itm.z)) hk
      rw [hty] at hfs
      obtain ⟨L0, hL0⟩ : ∃ x, x = flt (fun i => !typB kind (l.getD i Itm.z)) (L.take k) := ⟨_, rfl⟩
      have hl0 : L0.length ≤ 70 := by
        rw [hL0]
        exact Nat.le_trans (flt_le _ _) (by rw [List.length_take]; omega)
      rw [← hL0] at hfs ⊢
      cases fb with
      | true =>
        rw [show (!true) = false from rfl, if_neg (by decide)] at hfs
        refine xw1 ?_
        intro va2 vk2 vc2 _
        intros
        refine nxs (k + 1, va2, vk2, vc2) hk (by dsimp only; omega) env_w ?_
        dsimp only
        have e4 : natsC L0 ++ rowCells 1 (partElem [(0, natsF L k)]) = natsC (L0 ++ [L.getD k 0]) := natsC_push L0 (L.getD k 0)
        rw [hfs, e4, show L0.length + 1 = (L0 ++ [L.getD k 0]).length by rw [List.length_append]; rfl]
        exact sub_w
      | false =>
        rw [show (!false) = true from rfl, if_pos rfl, List.append_nil] at hfs
        refine xw1 ?_
        intros
        refine nxs (k + 1, va, vk, vc) hk (by dsimp only; omega) env_w ?_
        dsimp only
        rw [hfs]
        exact sub_w
  · obtain rfl : k = L.length := by omega
    rw [List.take_length]
    refine xw1 ?_
    intros
    exact ⟨_, List.Sublist.refl _, va, vk, vc, rfl, rfl⟩
end Go.Proofs.YtcoidjllehieeaaGreatDoor
namespace Go.Proofs.YtcoidjllehieeaaGreatDoor
open Go Go.RowKit
theorem lens_next {l : List (List UInt8)} {j : Nat} (h : j < l.length) : Lib.lens (l.take (j + 1)) = Lib.lens (l.take j) + (l.getD j []).length :=
  Lib.lens_take_succ l j _ (by rw [List.getD_eq_getElem?_getD, List.getElem?_eq_getElem h]; rfl)
theorem lens_full {l : List (List UInt8)} {j : Nat} (h : l.length ≤ j) : Lib.lens (l.take j) = Lib.lens l := by rw [List.take_of_length_le h]
def Pr.w (q : Pr) : Nat := q.n.length + q.vs.length + Lib.lens q.vs
def Ln.b (p : Ln) : Nat := p.ps.length + p.g.length + p.n.length + p.v.length
set_option maxRecDepth 20000
set_option maxHeartbeats 4000000
set_option linter.unusedSimpArgs false
set_option linter.unusedVariables false
attribute [local irreducible] AWp AOps byteAt SrcOK OrOk GloAll FnSpec
theorem law_wide {G : Glo} (p : Ln) (ho : p.OK 1048576) : FnSpec Tryz.prog G 13 [p.A] [] (fun r H => (∃ a, r = .ret a ∧ ∃ b, a = .bool b ∧ (b = false → p.OK 2500)) ∧ H = []) := by
  have o1 := ho.g
  have o2 := ho.n
  have o3 := ho.v
  have o4 := ho.ps
  have hGL : GloAll G [] := gloAll_nil
  refine fn_x Tryz.func13 Tryz.call13 rfl rfl rfl rfl hGL ?_
  intro C hC
  refine xw1 ?_
  refine lp hC hGL (fun x : Nat × Nat => [(3, .int .i64 (x.2 : Nat)), (24, .list 2 p.ps.length (prF p.ps)), (25, .int .i64 (p.ps.length : Nat)), (26, .int .i64 (x.1 : Nat))]) (fun _ => []) (fun x => x.1 ≤ p.ps.length ∧ p.b ≤ x.2 ∧ (∀ j, j < x.1 → p.b + (p.ps.getD j Pr.z).w ≤ x.2) ∧ x.2 ≤ p.b + x.1 * 3145728) (fun x => p.ps.length - x.1) (0, p.b) ?_ env_w rfl ?_
  · exact ⟨Nat.zero_le _, Nat.le_refl _, fun j h => absurd h (Nat.not_lt_zero _), by simp⟩
  rintro ⟨k, n⟩ ⟨h1, h2, h3, h4⟩
  dsimp only at h1 h2 h3 h4
  have hq := ho.q k
  have hbl : p.b ≤ 4194304 := by unfold Ln.b; omega
  refine xw ?_
  repeat' (first | exact Le.n | refine Lc.mk ?_ ?_)
  all_goals intros
  · refine lp hC hGL (fun x : Nat × Nat => [(3, .int .i64 (x.2 : Nat)), (24, .list 2 p.ps.length (prF p.ps)), (25, .int .i64 (p.ps.length : Nat)), (26, .int .i64 (k : Nat)), (40, .list 1 (p.ps.getD k Pr.z).vs.length (strsF (p.ps.getD k Pr.z).vs)), (41, .int .i64 ((p.ps.getD k Pr.z).vs.length : Nat)), (42, .int .i64 (x.1 : Nat))]) (fun _ => [.cells _ (some 52) [.str (p.ps.getD k Pr.z).n, .list 1 (p.ps.getD k Pr.z).vs.length (strsF (p.ps.getD k Pr.z).vs)]]) (fun x => x.1 ≤ (p.ps.getD k Pr.z).vs.length ∧ x.2 = n + ((p.ps.getD k Pr.z).n.length + (p.ps.getD k Pr.z).vs.length) + Lib.lens ((p.ps.getD k Pr.z).vs.take x.1)) (fun x => (p.ps.getD k Pr.z).vs.length - x.1) (0, n + ((p.ps.getD k Pr.z).n.length + (p.ps.getD k Pr.z).vs.length)) ?_ env_w rfl ?_
    · exact ⟨Nat.zero_le _, by simp [Lib.lens]⟩
    rintro ⟨j, m⟩ ⟨g1, g2⟩
    dsimp only at g1 g2
    have hj1 := Lib.lens_take_le (p.ps.getD k Pr.z).vs j
    have hj2 := Lib.lens_take_le (p.ps.getD k Pr.z).vs (j + 1)
    have hj3 : j < (p.ps.getD k Pr.z).vs.length → _ := fun h => lens_next h
    have hj4 : (p.ps.getD k Pr.z).vs.length ≤ j → _ := fun h => lens_full h
    refine xw ?_
    repeat' (first | exact Le.n | refine Lc.mk ?_ ?_)
    all_goals intros
    all_goals try dsimp only at *
    · refine nxt (j + 1, m + ((p.ps.getD k Pr.z).vs.getD j []).length) ⟨by dsimp only; omega, ?_⟩ (by dsimp only; omega) env_w rfl
      dsimp only
      rw [hj3 (by omega)]
      omega
    · have e := hj4 (by omega)
      have hw : (p.ps.getD k Pr.z).w = (p.ps.getD k Pr.z).n.length + (p.ps.getD k Pr.z).vs.length + Lib.lens (p.ps.getD k Pr.z).vs := rfl
      refine nxs (k + 1, m) ⟨by dsimp only; omega, by dsimp only; omega, below_next (fun j hj => by have := h3 j hj; dsimp only; omega) (by dsimp only; omega), by dsimp only; omega⟩ (by dsimp only; omega) env_w sub_w
  · refine ⟨[], List.nil_sublist _, ⟨_, rfl, _, rfl, fun h => ?_⟩, rfl⟩
    have h := ltB_f.1 h
    dsimp only at h
    have hn : n ≤ 2500 := by omega
    unfold Ln.b at h2 h3
    refine ⟨by omega, by omega, by omega, by omega, fun j => ?_⟩
    by_cases hj : j < p.ps.length
    · have := h3 j (by omega)
      unfold Pr.w at this
      omega
    · rw [List.getD_eq_getElem?_getD, List.getElem?_eq_none (by omega)]
      exact ⟨by simp [Pr.z], by simp [Pr.z], by simp [Pr.z, Lib.lens]⟩
end Go.Proofs.YtcoidjllehieeaaGreatDoor
namespace Go.Proofs.YtcoidjllehieeaaGreatDoor
open Go Go.RowKit
set_option maxRecDepth 20000
set_option maxHeartbeats 4000000
set_option linter.unusedSimpArgs false
set_option linter.unusedVariables false
attribute [local irreducible] AWp AOps byteAt SrcOK OrOk GloAll FnSpec
/-- What a value reads. -/
structure Vl.OK (v : Vl) : Prop where
  s : v.s.length ≤ 9223372036854775000
  n : v.L.length ≤ 2000000
  r : ∀ k, (v.L.getD k []).length ≤ 2000000
  l : ∀ k j, ((v.L.getD k []).getD j []).length ≤ 9223372036854775807
attribute [local irreducible] hdC hdB badI zeroB Vl.only uriE langX Stm.E zrB nilAt hdL
end Go.Proofs.YtcoidjllehieeaaGreatDoor
namespace Go.Proofs.YtcoidjllehieeaaGreatDoor
open Go Go.RowKit
set_option maxRecDepth 20000
set_option maxHeartbeats 4000000
set_option linter.unusedSimpArgs false
set_option linter.unusedVariables false
attribute [local irreducible] AWp AOps byteAt SrcOK OrOk GloAll FnSpec
theorem lens_step {l : List (List UInt8)} {j : Nat} (h : j < l.length) : Lib.lens (l.take (j + 1)) = Lib.lens (l.take j) + (l.getD j []).length :=
  Lib.lens_take_succ l j _ (by rw [List.getD_eq_getElem?_getD, List.getElem?_eq_getElem h]; rfl)
attribute [local irreducible] Vl.E Vl.T hdB
theorem law_thick {G : Glo} (v : Vl) (hs : v.s.length ≤ 2000000) (hL : Small v.L) : FnSpec Tryz.prog G 14 [v.A] [] (fun r H => (∃ a, r = .ret a ∧ ∃ b, a = .bool b ∧ (b = false → v.s.length ≤ 2500)) ∧ H = []) := by
  have hn := hL.n
  have hGL : GloAll G [] := gloAll_nil
  refine fn_x Tryz.func14 Tryz.call14 rfl rfl rfl rfl hGL ?_
  intro C hC
  refine xw1 ?_
  refine lp hC hGL (fun x : Nat × Nat => [(3, .int .i64 (x.2 : Nat)), (16, .list 1 v.L.length (partsF v.L)), (17, .int .i64 (v.L.length : Nat)), (18, .int .i64 (x.1 : Nat))]) (fun _ => []) (fun x => x.1 ≤ v.L.length ∧ v.s.length ≤ x.2 ∧ x.2 ≤ v.s.length + v.L.length + 4000000 * x.1) (fun x => v.L.length - x.1) (0, v.s.length + v.L.length) ?_ env_w rfl ?_
  · exact ⟨Nat.zero_le _, Nat.le_add_right _ _, Nat.le_refl _⟩
  rintro ⟨k, n⟩ ⟨h1, h2, h3⟩
  dsimp only at h1 h2 h3
  have hk := hL.k k
  refine xw ?_
  repeat' (first | exact Le.n | refine Lc.mk ?_ ?_)
  all_goals intros
  · refine lp hC hGL (fun x : Nat × Nat => [(3, .int .i64 (x.2 : Nat)), (16, .list 1 v.L.length (partsF v.L)), (17, .int .i64 (v.L.length : Nat)), (18, .int .i64 (k : Nat)), (26, .list 1 (v.L.getD k []).length (strsF (v.L.getD k []))), (27, .int .i64 ((v.L.getD k []).length : Nat)), (28, .int .i64 (x.1 : Nat))]) (fun _ => []) (fun x => x.1 ≤ (v.L.getD k []).length ∧ v.s.length ≤ x.2 ∧ x.2 ≤ v.s.length + v.L.length + 4000000 * k + 2000000 + Lib.lens ((v.L.getD k []).take x.1)) (fun x => (v.L.getD k []).length - x.1) (0, n + (v.L.getD k []).length) ?_ env_w rfl ?_
    · exact ⟨Nat.zero_le _, by dsimp only; omega, by dsimp only; omega⟩
    rintro ⟨j, q⟩ ⟨g1, g2, g3⟩
    dsimp only at g1 g2 g3
    have hj1 := Lib.lens_take_le (v.L.getD k []) j
    have hj2 := Lib.lens_take_le (v.L.getD k []) (j + 1)
    have hj3 : j < (v.L.getD k []).length → Lib.lens ((v.L.getD k []).take (j + 1)) = Lib.lens ((v.L.getD k []).take j) + ((v.L.getD k []).getD j []).length := fun h => lens_step h
    refine xw ?_
    repeat' (first | exact Le.n | refine Lc.mk ?_ ?_)
    all_goals intros
    all_goals try dsimp only at *
    · refine nxt (j + 1, q + ((v.L.getD k []).getD j []).length) ⟨by dsimp only; omega, by dsimp only; omega, ?_⟩ (by dsimp only; omega) env_w rfl
      dsimp only
      rw [hj3 (by omega)]
      omega
    · exact nxt (k + 1, q) ⟨by dsimp only; omega, by dsimp only; omega, by dsimp only; omega⟩ (by dsimp only; omega) env_w rfl
  · refine ⟨[], List.nil_sublist _, ⟨_, rfl, _, rfl, fun h => ?_⟩, rfl⟩
    have h := ltB_f.1 h
    dsimp only at h
    omega
end Go.Proofs.YtcoidjllehieeaaGreatDoor
namespace Go.Proofs.YtcoidjllehieeaaGreatDoor
open Go Go.RowKit
set_option maxRecDepth 20000
set_option maxHeartbeats 4000000
set_option linter.unusedSimpArgs false
set_option linter.unusedVariables false
attribute [local irreducible] AWp AOps byteAt SrcOK OrOk GloAll FnSpec
theorem law_big {G : Glo} (c : Crd) (ho : ∀ x ∈ c.l, Itm.OK 1048576 x) (hl : c.l.length ≤ 1048576) : FnSpec Tryz.prog G 4 [c.A] [] (fun r H => (∃ a, r = .ret a ∧ ∃ b, a = .bool b ∧ (b = false → c.fine)) ∧ H = []) := by
  obtain ⟨v, l⟩ := c
  dsimp only at ho hl
  have hGL : GloAll G [] := gloAll_nil
  refine fn_x Tryz.func4 Tryz.call4 rfl rfl rfl rfl hGL ?_
  intro C hC
  refine xw ?_
  repeat' (first | exact Le.n | refine Lc.mk ?_ ?_)
  all_goals intros
  · exact ⟨[], List.nil_sublist _, ⟨_, rfl, true, rfl, fun h => by cases h⟩, rfl⟩
  have h70 : l.length ≤ 70 := by have : (l.length : Int) ≤ 70 := by assumption
                                 omega
  refine lp hC hGL (fun k : Nat => [(10, .list 15 l.length (itsF l)), (11, .int .i64 (l.length : Nat)), (12, .int .i64 (k : Nat))]) (fun _ => []) (fun k => k ≤ l.length ∧ ∀ j, j < k → Itm.OK 2500 (l.getD j Itm.z)) (fun k => l.length - k) 0 ⟨Nat.zero_le _, fun j h => absurd h (Nat.not_lt_zero _)⟩ env_w rfl ?_
  rintro k ⟨h1, h2⟩
  by_cases hk : k < l.length
  · have hx := itm_at ho hk
    have hw := law_wide (G := G) (l.getD k Itm.z).p hx.p
    have ht := law_thick (G := G) (l.getD k Itm.z).2 (by have := hx.s; omega) hx.L
    refine xw1 ?_
    intros
    refine cx_any hw ?_
    rintro _ ⟨b, rfl, hb⟩
    cases b with
    | true =>
      refine xw1 ?_
      exact ⟨[], List.nil_sublist _, ⟨_, rfl, true, rfl, fun h => by cases h⟩, rfl⟩
    | false =>
      refine xw1 ?_
      refine cx_any ht ?_
      rintro _ ⟨b, rfl, hb2⟩
      cases b with
      | true =>
        refine xw1 ?_
        exact ⟨[], List.nil_sublist _, ⟨_, rfl, true, rfl, fun h => by cases h⟩, rfl⟩
      | false =>
        refine xw1 ?_
        intros
        refine nxs (k + 1) ⟨hk, fun j hj => ?_⟩ (by omega) env_w sub_w
        rcases Nat.lt_or_eq_of_le (Nat.le_of_lt_succ hj) with h | rfl
        · exact h2 j h
        · exact ⟨hb rfl, hb2 rfl, hx.L⟩
  · refine xw1 ?_
    intros
    exact ⟨[], List.nil_sublist _, ⟨_, rfl, false, rfl, fun _ => ⟨h70, itm_all fun j hj => h2 j (by dsimp only at hj; omega)⟩⟩, rfl⟩
end Go.Proofs.YtcoidjllehieeaaGreatDoor
namespace Go.Proofs.YtcoidjllehieeaaGreatDoor
open Go Go.RowKit
theorem typN_len (l : List Itm) (s kind : List UInt8) : (typN l s kind).length ≤ l.length := by
  unfold typN
  exact Nat.le_trans (List.length_filter_le _ _) (allN_len l s)
set_option maxRecDepth 20000
set_option maxHeartbeats 4000000
set_option linter.unusedSimpArgs false
set_option linter.unusedVariables false
attribute [local irreducible] AWp AOps byteAt SrcOK OrOk GloAll FnSpec
attribute [local irreducible] natsC turnS worthP srt fixF flt allN typN selT selB
theorem nats_Equal {G : Glo} (a : List Nat) (ha : a.length ≤ 1000000) : FnIs Tryz.prog G 6 [.list 1 a.length (natsF a), .list 1 a.length (natsF a)] (.bool true) := by
  have hGL : GloAll G [] := gloAll_nil
  refine fn_x Tryz.func6 Tryz.call6 rfl rfl rfl rfl hGL ?_
  intro C hC
  refine xw1 ?_
  intros
  refine lp hC hGL (fun (i : Nat) => [(0, .list 1 a.length (natsF a)), (1, .list 1 a.length (natsF a)), (12, .int .i64 a.length), (13, .int .i64 i)]) (fun _ => []) (fun i => i ≤ a.length) (fun i => a.length - i) 0 ?_ env_w rfl ?_
  · exact Nat.zero_le _
  intro i hi
  have hi : i ≤ a.length := hi
  refine xw ?_
  repeat' (first | exact Le.n | refine Lc.mk ?_ ?_)
  all_goals intros
  all_goals (refine nxt (i + 1) ?_ ?_ env_w rfl)
  all_goals (first | (show i + 1 ≤ _; omega) | omega)
theorem law_PickAlls {G : Glo} {m : Int} (hE : ErrsG G) (hP : PowIs G) (hM : GloAll G (maxTy m)) (c : Crd) (s kind : List UInt8) (hs : s.length ≤ 1048576) (hk : kind.length ≤ 1048576) (ho : ∀ x ∈ c.l, Itm.OK 1048576 x) (hl : c.l.length ≤ 1048576) : FnIs Tryz.prog G 3 [c.A, .str s, .str kind] (.bool true) := by
  have hB := law_big (G := G) c ho hl
  obtain ⟨v, l⟩ := c
  dsimp only at ho hl
  have hGL : GloAll G [] := gloAll_nil
  refine fn_x Tryz.func3 Tryz.call3 rfl rfl rfl rfl hGL ?_
  intro C hC
  refine xw1 ?_
  intros
  refine cx_any hB ?_
  rintro _ ⟨b, rfl, hb⟩
  cases b with
  | true => exact xw0
  | false =>
    have hf := hb rfl
    have h70 : l.length ≤ 70 := hf.1
    by_cases hlen : s.length + kind.length ≤ 100
    · have a1 := ref_All hE hP hM ⟨v, l⟩ s hf (by omega)
      have a2 := pick_All hE hP hM ⟨v, l⟩ s hf (by omega)
      have a3 := pick_Best hE hP hM ⟨v, l⟩ s hf (by omega)
      have a4 := pick_Typed hE hP hM ⟨v, l⟩ s kind hf (by omega) (by omega)
      have a5 := ref_Typed hE hP hM ⟨v, l⟩ s kind hf (by omega) (by omega)
      have a6 := rowQ_seal (pick_Group0 (G := G) ⟨v, l⟩ s hf (by omega))
      have a7 := rowQ_seal (ref_Group0 (G := G) ⟨v, l⟩ s hf (by omega))
      have e1 := nats_Equal (G := G) (allN l s) (by have := allN_len l s; omega)
      have e2 := nats_Equal (G := G) (typN l s kind) (by have := typN_len l s kind; omega)
      have e3 := nats_Equal (G := G) (selB (pgB s) l) (by have := selT_len (pgB s) l l.length; unfold selB; omega)
      unfold Crd.A at a1 a2 a3 a4 a5 a6 a7
      dsimp only at a1 a2 a3 a4 a5 a6 a7
      generalize allN l s = A at *
      generalize typN l s kind = B at *
      generalize selB (pgB s) l = D at *
      have f1 := Tryz.call7
      have f2 := Tryz.call8
      have f3 := Tryz.call9
      have f4 := Tryz.call10
      have f5 := Tryz.call11
      have f6 := Tryz.call12
      have f7 := Tryz.call6
      by_cases h0 : A.length = 0
      · rw [if_pos h0] at a3
        refine xn1 ?_
        intros
        refine dw_p mixed hC hGL false (fun _ : Unit => [(6, .bool true)]) (fun _ => []) (.take 0 (.take 1 (.take 3 (.br 2 (.br 4 (.take 5 (.take 6 (.take 7 (.take 9 (.br 8 (.take 10 (.take 11 (.take 12 (.take 13 (.take 14 (.take 15 (.take 17 (.take 18 (.take 19 (.br 16 (.br 20 (.br 21 (.take 22 (.take 23 (.take 24 (.take 25 (.take 27 (.take 28 (.br 26 (.br 29 (.br 30 (.take 31 (.take 32 (.done))) (.nil)) (.nil)) (.nil)))))))) (.nil)) (.nil)) (.nil))))))))))) (.nil)))))) (.nil)) (.nil))))) (by kernel_rfl) ?_ ?_
        · refine xn ?_
          repeat' (first | exact Le.n | refine Lc.mk ?_ ?_)
          all_goals intros
          all_goals intros
          all_goals exact ⟨(), env_w, rfl⟩
        · intro _
          exact xw0
      · rw [if_neg h0] at a3
        refine xn1 ?_
        intros
        refine dw_p mixed hC hGL false (fun _ : Unit => [(6, .bool true)]) (fun _ => []) (.take 0 (.take 1 (.take 3 (.br 2 (.br 4 (.take 5 (.take 6 (.take 7 (.take 9 (.br 8 (.take 10 (.take 11 (.take 12 (.take 13 (.take 14 (.take 15 (.take 17 (.take 18 (.take 19 (.br 16 (.br 20 (.br 21 (.take 22 (.take 23 (.take 24 (.take 25 (.take 27 (.take 28 (.br 26 (.br 29 (.br 30 (.take 31 (.take 32 (.done))) (.nil)) (.nil)) (.nil)))))))) (.nil)) (.nil)) (.nil))))))))))) (.nil)))))) (.nil)) (.nil))))) (by kernel_rfl) ?_ ?_
        · refine xn ?_
          repeat' (first | exact Le.n | refine Lc.mk ?_ ?_)
          all_goals intros
          all_goals intros
          all_goals exact ⟨(), env_w, rfl⟩
        · intro _
          exact xw0
    · exact xw0
end Go.Proofs.YtcoidjllehieeaaGreatDoor
namespace Go.Proofs.YtcoidjllehieeaaGreatDoor
open Go
theorem Tryz.own : ownKnob Tryz.prog.godebug = none := by kernel_rfl
/-- All blocks below, sealed as they stand. -/
def sealBelow (W : World) (k : Nat) : Seal := fun b => if b < k then W.heap[b]? else none
theorem sealBelow_ok (W : World) (k : Nat) : Sealed (sealBelow W k) W := by
  intro b o h
  unfold sealBelow at h
  split at h
  · exact h
  · cases h
theorem ms_start (W : World) (R : Seal) (G : Glo) (hG : G.p R) (hs : Sealed R W) : MS ⟨W, R, blks [], G, hG, []⟩ R [] W :=
  ⟨hs, Seal.le_refl R, fun _ hb => .inl hb, ⟨fun _ h => absurd h List.not_mem_nil, List.nodup_nil, fun _ h => absurd h List.not_mem_nil⟩, fun _ h => absurd h List.not_mem_nil, Ext.refl W _⟩
theorem keptBut_of_ext {W W' : World} (h : Ext W [] W') (may : MemPlace → Prop) : W.keptBut W' may := by
  refine ⟨h.os, h.output, fun i hi => ?_⟩
  rw [h.block i hi (by simp)]
  generalize W.heap[i]? = o
  cases o with
  | none => rfl
  | some o =>
    cases o with
    | cells c t fr => exact ⟨rfl, rfl, rfl, fun _ _ => rfl⟩
    | map es clock => exact .inr ⟨rfl, rfl⟩
    | _ => rfl
end Go.Proofs.YtcoidjllehieeaaGreatDoor
namespace Go.Proofs.YtcoidjllehieeaaGreatDoor
open Go
theorem var_heap {P : Program} {w : World} {n : String} {g : Nat} {cs : Array Value} (hg : P.globalNamed n = some g) (hv : w.var? P n = some cs) : ∃ e fz, w.heap[g]? = some (.cells cs e fz) := by
  simp only [World.var?, hg, Option.bind_some] at hv
  split at hv
  · rename_i c e fz hh
    cases hv
    exact ⟨_, _, hh⟩
  · cases hv
/-- A list of package-level variables that are known. -/
def gloOf (L : List (Nat × List AVal)) : Glo := ⟨fun R => ∀ x, x ∈ L → SealedAt R x.1 0 x.2, fun _ _ hle h x hx => by
  obtain ⟨C, e, fz, h1, h2⟩ := h x hx
  exact ⟨C, e, fz, hle _ _ h1, relL_mono hle _ _ h2⟩⟩
theorem gloGet_mem : ∀ (L : List (Nat × List AVal)) {g : Nat} {cs : List AVal}, gloGet L g = some cs → (g, cs) ∈ L
  | [], _, _, h => by simp [gloGet] at h
  | (k, c) :: r, g, cs, h => by
    unfold gloGet at h
    split at h
    · rename_i e
      obtain rfl := Nat.eq_of_beq_eq_true e
      cases h
      exact List.mem_cons_self
    · exact List.mem_cons_of_mem _ (gloGet_mem r h)
theorem gloAll_of {L L' : List (Nat × List AVal)} (h : ∀ x, x ∈ L' → x ∈ L) : GloAll (gloOf L) L' := fun g cs hg R hR => hR (g, cs) (h _ (gloGet_mem L' hg))
theorem sealed_below {W : World} {k g : Nat} {C : Array Value} {e : TypeId} {fz : Nat × Nat} {cs : List AVal} (hk : g < k) (hW : W.heap[g]? = some (.cells C e fz)) (h : RelL (sealBelow W k) cs (C.toList.take cs.length)) : SealedAt (sealBelow W k) g 0 cs :=
  ⟨C, e, fz, by unfold sealBelow; rw [if_pos hk]; exact hW, by rw [List.drop_zero]; exact h⟩
/-- A call's end; what was there below stays. -/
theorem law_below {P : Program} {G : Glo} {f : FuncId} {avs : List AVal} {c : Bool} {args : Array Value} {W : World} {R : Seal} (hs : FnIs P G f avs (.bool c)) (hc : (callFunc f args).run P W = .ok (.enter f args) W)
    (hG : G.p R) (hR : Sealed R W) (ha : RelV R avs args.toList) : Calls P f args W fun e W' => e = .returned (.bool c) ∧ (∀ may, W.keptBut W' may) ∧ Go.RowKit.Below W.heap.size W W' := by
  rcases hs R W args hG (ms_start W R G hG hR) ha with ⟨_, h⟩ | ⟨v, w', h, _⟩
  · refine h.mono fun e W' ⟨res, H', R', ⟨hr, hH⟩, he, hm⟩ => ?_
    subst hr
    obtain ⟨x, rfl, hx⟩ := he
    refine ⟨by rw [rel_bool.1 hx], fun may => keptBut_of_ext hm.ext may, ⟨hm.ext.os, hm.ext.tape, hm.ext.output, hm.ext.size, fun k hk => hm.ext.block k hk (fun h => absurd h List.not_mem_nil)⟩⟩
  · rw [hc] at h
    cases h
end Go.Proofs.YtcoidjllehieeaaGreatDoor
