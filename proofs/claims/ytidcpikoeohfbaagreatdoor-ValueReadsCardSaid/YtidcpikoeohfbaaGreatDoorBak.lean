/- Parts of the proof of valueReads_card: Vrd, Trn, Eqa, Vre, Lai, Lu, Whi. -/
import Derived.Laws.StructEq
import Derived.Lib.ItoaNum
import Derived.Deep.Strs
import Derived.Shelf.Vars
import Derived.SizedLaws
import Derived.Test.YtidcpikoeohfbaaGreatDoorBaj
import Derived.Test.YtidcpikoeohfbaaGreatDoorBad
import Derived.Test.YtidcpikoeohfbaaGreatDoorBai
import Derived.Test.YtidcpikoeohfbaaGreatDoorBag
import Derived.Test.YtidcpikoeohfbaaGreatDoorBae
import Derived.Test.YtidcpikoeohfbaaGreatDoorBah
set_option linter.unusedVariables false
set_option linter.unusedSimpArgs false
namespace Go.Proofs.YtidcpikoeohfbaaGreatDoor
open Go Go.RowKit
theorem errT_e0 : ∀ (n : Nat) (s : List UInt8) (i : Nat), s.length ≤ n → (errT s i).e = 0 → errT s i = .none
  | _, [], _, _, _ => rfl
  | 0, c :: r, _, hn, _ => by simp at hn
  | n + 1, c :: r, i, hn, he => by
    have hn : r.length ≤ n := by simpa using hn
    by_cases hc : c = 92
    · subst hc
      cases r with
      | nil => simp [errT, Err.e] at he
      | cons d r =>
        by_cases hd : okE d = true
        · rw [errT_two hd] at he ⊢
          exact errT_e0 n r _ (by simp at hn; omega) he
        · simp [errT, hd, Err.e] at he
    · rw [errT_one hc] at he ⊢
      exact errT_e0 n r _ hn he
theorem uriE_e0 (s : List UInt8) (h : (uriE s).e = 0) : uriE s = .none := by
  unfold uriE at h ⊢
  (repeat' split at h) <;> first | (exfalso; revert h; simp [Err.e]; done) | (rename_i h1 h2 h3; rw [if_neg h1, if_neg h2, if_neg h3])
theorem langE_e0 : ∀ (l : List (List UInt8)) (b : Bool) (a : Nat), (langE b a l).e = 0 → langE b a l = .none
  | [], _, _, _ => rfl
  | x :: xs, b, a, h => by
    rw [langE_cons] at h ⊢
    split at h
    · rename_i k
      rw [if_pos k]
      exact langE_e0 xs _ _ h
    · rename_i k
      exfalso
      revert h k
      unfold pieceX
      (repeat' split) <;> simp [Err.e, Err.isNone]
theorem whR_p (d : List UInt8) (b : Bool) (t : List UInt8) : (whR d b t).2.p = -1 ∧ ((whR d b t).2.e = 0 → (whR d b t).2 = .none) := by
  unfold whR finP
  (repeat' split) <;> (refine ⟨rfl, fun h => ?_⟩) <;> first | rfl | (exact absurd h (by assumption)) | (exact absurd h (by decide)) | (rename_i k; exact absurd h k.2)
theorem zoneX_q (s : List UInt8) : (zoneX s).p = -1 ∧ (zoneX s).e = (zoneV s).2 ∧ ((zoneX s).e = 0 → zoneX s = .none) := by
  unfold zoneX
  split
  · rename_i h; exact ⟨rfl, h.symm, fun _ => rfl⟩
  · rename_i h; exact ⟨rfl, rfl, fun k => absurd k h⟩
theorem whP_q (s : List UInt8) : (whP s).2.p = -1 := (whR_p _ _ _).1
theorem lstA_is (l : List (List UInt8)) : AVal.list 1 l.length (strsF l) = lstA l := rfl
theorem vrG_e0 (s : List UInt8) (k : Int) : (vrG s k).2.e = 0 → (vrG s k).2 = .none := by
  unfold vrG
  (repeat' split)
  · exact errT_e0 _ s 0 (Nat.le_refl _)
  · exact errT_e0 _ s 0 (Nat.le_refl _)
  · exact errT_e0 _ s 0 (Nat.le_refl _)
  · exact uriE_e0 s
  · exact (whR_p _ _ _).2
  · exact (zoneX_q s).2.2
  · exact langE_e0 _ _ _
  · exact fun _ => rfl
theorem vrG_t (s : List UInt8) (k : Int) (h : 1 ≤ k ∧ k ≤ 8) : (vrG s k).1.t = k := by
  unfold vrG
  (repeat' split) <;> rfl
abbrev vlC (b : Nat) (v : Vl) (t : Int) (q : AVal) : HEnt := .cells b (some 26) [.int .i64 t, .str v.s, q, .int .i64 v.st.y, .int .i64 v.st.m, .int .i64 v.st.d, .int .i64 v.st.h, .int .i64 v.st.i, .int .i64 v.st.s, .bool v.st.z, .int .i64 v.st.o, .int .i64 v.n]
abbrev ftC (b : Nat) (e p : Int) : HEnt := .cells b (some 29) [.int .i64 e, .int .i64 p]
abbrev pAt (b : Nat) : Value := .pointer (some ⟨b, 0, none⟩)
def vrP (s : List UInt8) (k : Int) (r : ARes) (H : Heap) : Prop := ∃ q, r = .ret (.tuple [vlQ (vrV s k).1 q, .agg [.int .i64 (vrV s k).2.e, .int .i64 (vrV s k).2.p]]) ∧ H = [] ∧ LsT (vrV s k).1.L q
set_option maxRecDepth 20000
set_option maxHeartbeats 4000000
set_option linter.unusedSimpArgs false
set_option linter.unusedVariables false
attribute [local irreducible] AWp AOps byteAt SrcOK OrOk GloAll FnSpec
attribute [local irreducible] hdC hdB badI unS lstS prtS errT uriE langX whP zoneV zoneX prtF lstA vrG
theorem ref_ValueRead0 {G : Glo} {m : Int} (hU : GloAll G utfTy) (hM : GloAll G (maxTy m)) (hS : GloAll G shapesTy) (s : List UInt8) (k : Int) (hl : s.length ≤ 3000) : FnSpec Tryz.prog G 4 [.str s, .int .i64 k] [] (vrP s k) := by
  have hH := ref_Holds hU s false (by omega)
  have hW := ref_within (G := G) k 1 8
  have hB := fun e => ref_Bare (G := G) e
  have hG := ref_Good (G := G)
  have b1 := hB 1
  have b3 := hB 3
  refine fn_a Tryz.func4 Tryz.call4 rfl rfl rfl rfl ?_
  intro C hC
  have hGL : GloAll G [] := gloAll_nil
  refine cuty hC hGL (fun x : Nat × Nat => [(0, .str s), (1, .int .i64 k), (4, .own 0 (pAt x.1)), (5, .own 1 (pAt x.2))]) (fun x => [vlC x.1 Vl.no 0 vNil, ftC x.2 0 0]) (fun _ => True) ?_ ?_
  · refine xb1 ?_
    intro b4 b5
    intros
    exact cy (b4, b5) trivial
  rintro ⟨b4, b5⟩ -
  dsimp only
  by_cases hk : k < 1 ∨ 9 ≤ k
  · have e : vrV s k = (Vl.no, .errno 1) := by unfold vrV; rw [if_pos hk]
    have e2 : (decide (1 ≤ k) && decide (k ≤ 8)) = false := by rw [Bool.and_eq_false_iff, decide_eq_false_iff_not, decide_eq_false_iff_not]; omega
    rw [e2] at hW
    unfold vrP
    rw [e]
    refine aw_code hC hGL (xn1 ?_)
    intros
    refine dw_p mixed hC hGL false (fun (_ : Unit) => [(4, .own 0 (pAt b4)), (5, .own 1 (pAt b5))]) (fun _ => [vlC b4 Vl.no 0 vNil, ftC b5 1 (-1)]) (.br 0 (.br 1 (.br 2 (.br 3 (.done) (.nil)) (.nil)) (.nil)) (.br 1 (.br 0 (.br 2 (.br 3 (.done) (.nil)) (.nil)) (.nil)) (.nil))) (by kernel_rfl) ?_ ?_
    · refine xn ?_
      repeat' (first | exact Le.n | refine Lc.mk ?_ ?_)
      all_goals intros
      all_goals exact ⟨(), env_w, rfl⟩
    intro _
    refine xn1 ?_
    intros
    exact ⟨[], List.nil_sublist _, vNil, rfl, rfl, .inl ⟨rfl, rfl⟩⟩
  have e2 : (decide (1 ≤ k) && decide (k ≤ 8)) = true := by rw [Bool.and_eq_true, decide_eq_true_eq, decide_eq_true_eq]; omega
  rw [e2] at hW
  cases hh : hdB false s with
  | false =>
    have e : vrV s k = (Vl.no, .errno 3) := by unfold vrV; rw [if_neg hk, if_pos hh]
    unfold vrP
    rw [e]
    rw [hh] at hH
    refine aw_code hC hGL (xn1 ?_)
    intros
    refine dw_p mixed hC hGL false (fun (_ : Unit) => [(4, .own 0 (pAt b4)), (5, .own 1 (pAt b5))]) (fun _ => [vlC b4 Vl.no 0 vNil, ftC b5 3 (-1)]) (.br 0 (.br 1 (.br 2 (.br 3 (.done) (.nil)) (.nil)) (.nil)) (.br 1 (.br 0 (.br 2 (.br 3 (.done) (.nil)) (.nil)) (.nil)) (.nil))) (by kernel_rfl) ?_ ?_
    · refine xn ?_
      repeat' (first | exact Le.n | refine Lc.mk ?_ ?_)
      all_goals intros
      all_goals exact ⟨(), env_w, rfl⟩
    intro _
    refine xn1 ?_
    intros
    exact ⟨[], List.nil_sublist _, vNil, rfl, rfl, .inl ⟨rfl, rfl⟩⟩
  | true =>
    rw [hh] at hH
    have hv : vrV s k = (match (vrG s k).2 with | .none => vrG s k | e => (Vl.no, e)) := by unfold vrV; rw [if_neg hk, if_neg (by rw [hh]; decide)]; cases (vrG s k).2 <;> rfl
    have h1 := ref_Unescape (G := G) s (by omega)
    have h2 := ref_List (G := G) s (by omega)
    have h3 := ref_Parts (G := G) s (by omega)
    have h4 := ref_UriRight (G := G) s (by omega)
    have h5 := ref_WhenParse (G := G) hS hM s (by omega)
    have h6 := ref_ZoneParse (G := G) s (by omega)
    have h7 := ref_LangRight (G := G) hM s (by omega)
    refine cut hC hGL [(0, .str s), (1, .int .i64 k), (4, .own 0 (pAt b4)), (5, .own 1 (pAt b5))] [vlC b4 Vl.no 0 vNil, ftC b5 0 0] True xn0 fun _ => ?_
    refine cut hC hGL [(0, .str s), (1, .int .i64 k), (4, .own 0 (pAt b4)), (5, .own 1 (pAt b5))] [vlC b4 Vl.no 0 vNil, ftC b5 0 0] True xn0 fun _ => ?_
    refine cut hC hGL [(0, .str s), (1, .int .i64 k), (4, .own 0 (pAt b4)), (5, .own 1 (pAt b5))] [vlC b4 Vl.no 0 vNil, ftC b5 0 (-1)] True xn0 fun _ => ?_
    refine cuty hC hGL (fun x : Vl × AVal => [(0, .str s), (1, .int .i64 k), (4, .own 0 (pAt b4)), (5, .own 1 (pAt b5))]) (fun x => [vlC b4 x.1 0 x.2, ftC b5 (vrG s k).2.e (vrG s k).2.p]) (fun x => x.1.s = (vrG s k).1.s ∧ x.1.st = (vrG s k).1.st ∧ x.1.n = (vrG s k).1.n ∧ LsT (vrG s k).1.L x.2) ?_ ?_
    · clear hv
      rcases (show k = 1 ∨ k = 2 ∨ k = 3 ∨ k = 4 ∨ k = 5 ∨ k = 6 ∨ k = 7 ∨ k = 8 by omega) with rfl | rfl | rfl | rfl | rfl | rfl | rfl | rfl
      all_goals simp only [vrG, if_pos, if_neg, Int.reduceEq, reduceIte]
      · refine xn1 ?_
        intros
        exact cy (⟨0, unS s, [], Stm.no, 0⟩, vNil) ⟨rfl, rfl, rfl, .inl ⟨rfl, rfl⟩⟩
      · refine xn1 ?_
        intros
        exact cy (Vl.no, .list 1 1 _) ⟨rfl, rfl, rfl, .inr (.inr ⟨lstS s, _, rfl, lstA_is _, rfl⟩)⟩
      · refine xn1 ?_
        intros
        exact cy (Vl.no, .list 1 _ _) ⟨rfl, rfl, rfl, .inr (.inl rfl)⟩
      · refine xn1 ?_
        intros
        exact cy (⟨0, s, [], Stm.no, 0⟩, vNil) ⟨rfl, rfl, rfl, .inl ⟨rfl, rfl⟩⟩
      · rw [whP_q]
        refine xn1 ?_
        intros
        exact cy (⟨0, [], [], (whP s).1, 0⟩, vNil) ⟨rfl, rfl, rfl, .inl ⟨rfl, rfl⟩⟩
      · rw [(zoneX_q s).1, (zoneX_q s).2.1]
        refine xn1 ?_
        intros
        exact cy (⟨0, [], [], Stm.no, (zoneV s).1⟩, vNil) ⟨rfl, rfl, rfl, .inl ⟨rfl, rfl⟩⟩
      · refine xn1 ?_
        intros
        exact cy (⟨0, s, [], Stm.no, 0⟩, vNil) ⟨rfl, rfl, rfl, .inl ⟨rfl, rfl⟩⟩
      · refine xn1 ?_
        intros
        exact cy (⟨0, s, [], Stm.no, 0⟩, vNil) ⟨rfl, rfl, rfl, .inl ⟨rfl, rfl⟩⟩
    rintro ⟨x, q⟩ ⟨x1, x2, x3, x4⟩
    dsimp only at x1 x2 x3 x4 ⊢
    have h8 := fault_Is (G := G) (vrG s k).2.e (vrG s k).2.p
    have h9 := vrG_e0 s k
    have h10 := vrG_t s k (by omega)
    unfold vrP
    rw [hv]
    by_cases he : (vrG s k).2.e = 0
    · rw [h9 he]
      rw [h9 he] at h8
      rw [show eqB (Err.none).e 0 = true from eqB_t.2 rfl] at h8
      simp only [Err.e, Err.p] at h8 ⊢
      have x5 := x4
      rcases x5 with ⟨rfl, _⟩ | rfl | ⟨l, g, rfl, _, _⟩
      all_goals
        refine aw_code hC hGL (xn1 ?_)
        intros
        refine dw_p mixed hC hGL false (fun (_ : { y : AVal // LsT (vrG s k).1.L y }) => [(4, .own 0 (pAt b4)), (5, .own 1 (pAt b5))]) (fun y => [vlC b4 x k y.1, ftC b5 0 (-1)]) (.br 0 (.br 1 (.br 2 (.br 3 (.done) (.nil)) (.nil)) (.br 2 (.br 1 (.br 3 (.done) (.nil)) (.nil)) (.nil))) (.br 1 (.br 0 (.br 2 (.br 3 (.done) (.nil)) (.nil)) (.nil)) (.nil))) (by kernel_rfl) ?_ ?_
        · refine xn ?_
          repeat' (first | exact Le.n | refine Lc.mk ?_ ?_)
          all_goals intros
          all_goals exact ⟨⟨_, x4⟩, env_w, rfl⟩
        rintro ⟨y, hy⟩
        refine xn1 ?_
        intros
        refine ⟨[], List.nil_sublist _, y, ?_, rfl, hy⟩
        simp only [vlQ, x1, x2, x3, h10, h9 he]
    · have e3 : (match (vrG s k).2 with | .none => vrG s k | e => (Vl.no, e)) = (Vl.no, (vrG s k).2) := by
        cases hq : (vrG s k).2 with
        | none => rw [hq] at he; exact absurd rfl he
        | errno e => rfl
        | «at» e p => rfl
      rw [e3]
      rw [show eqB (vrG s k).2.e 0 = false from Bool.eq_false_iff.2 fun h => he (eqB_t.1 h)] at h8
      refine aw_code hC hGL (xn1 ?_)
      intros
      refine dw_p mixed hC hGL false (fun (_ : Unit) => [(4, .own 0 (pAt b4)), (5, .own 1 (pAt b5))]) (fun _ => [vlC b4 Vl.no 0 vNil, ftC b5 (vrG s k).2.e (vrG s k).2.p]) (.br 0 (.br 1 (.br 2 (.br 3 (.done) (.nil)) (.nil)) (.br 2 (.br 1 (.br 3 (.done) (.nil)) (.nil)) (.nil))) (.br 1 (.br 0 (.br 2 (.br 3 (.done) (.nil)) (.nil)) (.nil)) (.nil))) (by kernel_rfl) ?_ ?_
      · refine xn ?_
        repeat' (first | exact Le.n | refine Lc.mk ?_ ?_)
        all_goals intros
        all_goals exact ⟨(), env_w, rfl⟩
      intro _
      refine xn1 ?_
      intros
      exact ⟨[], List.nil_sublist _, vNil, rfl, rfl, .inl ⟨rfl, rfl⟩⟩
theorem ref_ValueRead {G : Glo} {m : Int} (hU : GloAll G utfTy) (hM : GloAll G (maxTy m)) (hS : GloAll G shapesTy) (s : List UInt8) (k : Int) (hl : s.length ≤ 3000) : FnIs Tryz.prog G 4 [.str s, .int .i64 k] (.tuple [(vrV s k).1.R, .agg [.int .i64 (vrV s k).2.e, .int .i64 (vrV s k).2.p]]) := by
  refine fn_told (ref_ValueRead0 hU hM hS s k hl) ?_
  rintro r H ⟨q, rfl, rfl, hL⟩
  exact vl_told hL
end Go.Proofs.YtidcpikoeohfbaaGreatDoor
namespace Go.Proofs.YtidcpikoeohfbaaGreatDoor
open Go Go.RowKit
theorem tokT_len : ∀ (n : Nat) (s : List UInt8), s.length ≤ n → (tokT s).length ≤ s.length
  | _, [], _ => Nat.le_refl _
  | 0, c :: r, hn => by simp at hn
  | n + 1, c :: r, hn => by
    have hn : r.length ≤ n := by simpa using hn
    by_cases hc : c = 92
    · subst hc
      cases r with
      | nil => simp [tokT]
      | cons d r =>
        by_cases hd : okE d = true
        · rw [tokT_two hd]
          have := tokT_len n r (by simp at hn; omega)
          simp only [List.length_cons]
          omega
        · simp [tokT, hd]
    · rw [tokT_one hc]
      have := tokT_len n r hn
      simp only [List.length_cons]
      omega
theorem stT_len (c : UInt8) : ∀ T : List Tk, (∀ T' ∈ (stT c T).1, T'.length ≤ T.length) ∧ (stT c T).2.length ≤ T.length ∧ (stT c T).1.length ≤ T.length := by
  refine snoc_ind ⟨fun _ h => by simp [stT] at h, Nat.le_refl _, Nat.le_refl _⟩ fun T t ih => ?_
  obtain ⟨h1, h2, h3⟩ := ih
  rw [stT_snoc, List.length_append, List.length_singleton]
  have h1' : ∀ T' ∈ (stT c T).1, T'.length ≤ T.length + 1 := fun T' h => Nat.le_succ_of_le (h1 T' h)
  cases t with
  | one b =>
    unfold stepT
    by_cases hb : b = c
    · simp only [hb, if_true, List.length_append, List.length_singleton, List.length_nil]
      refine ⟨fun T' h => ?_, by omega, by omega⟩
      rcases List.mem_append.1 h with h | h
      · exact h1' T' h
      · rw [List.mem_singleton.1 h]; omega
    · simp only [hb, if_false, List.length_append, List.length_singleton]
      exact ⟨h1', by omega, by omega⟩
  | two d =>
    unfold stepT
    simp only [List.length_append, List.length_singleton]
    exact ⟨h1', by omega, by omega⟩
theorem splT_cnt (c : UInt8) (T : List Tk) : (splT c T).length ≤ T.length + 1 ∧ ∀ T' ∈ splT c T, T'.length ≤ T.length := by
  obtain ⟨h1, h2, h3⟩ := stT_len c T
  refine ⟨by simp [splT]; exact h3, fun T' h => ?_⟩
  rcases List.mem_append.1 h with h | h
  · exact h1 T' h
  · rw [List.mem_singleton.1 h]; exact h2
theorem lstT_cnt (T : List Tk) : (lstT T).length ≤ T.length + 1 := by
  unfold lstT
  rw [List.length_map]
  exact (splT_cnt 44 T).1
theorem lstS_cnt (s : List UInt8) : (lstS s).length ≤ s.length + 1 := by
  unfold lstS
  split
  · have h1 := lstT_cnt (tokT s)
    have h2 := tokT_len s.length s (Nat.le_refl _)
    omega
  · exact Nat.zero_le _
theorem prtS_cnt (s : List UInt8) : (prtS s).length ≤ s.length + 1 ∧ ∀ l ∈ prtS s, l.length ≤ s.length + 1 := by
  have h2 := tokT_len s.length s (Nat.le_refl _)
  obtain ⟨h3, h4⟩ := splT_cnt 59 (tokT s)
  unfold prtS
  split
  · unfold prtT
    rw [List.length_map]
    refine ⟨by omega, fun l hl => ?_⟩
    obtain ⟨T', hT, rfl⟩ := List.mem_map.1 hl
    have h5 := lstT_cnt T'
    have h6 := h4 T' hT
    omega
  · exact ⟨Nat.zero_le _, fun l h => by cases h⟩
set_option maxRecDepth 20000
set_option maxHeartbeats 8000000
set_option linter.unusedSimpArgs false
set_option linter.unusedVariables false
attribute [local irreducible] AWp AOps SrcOK OrOk GloAll FnSpec byteAt errT tokT unS lstS prtS escF escS
theorem strs_Equal {G : Glo} (l : List (List UInt8)) (hn : l.length ≤ 20000) : FnIs Tryz.prog G 59 [.list 1 l.length (strsF l), .list 1 l.length (strsF l)] (.bool true) := by
  have hGL : GloAll G [] := gloAll_nil
  refine fn_x Tryz.func59 Tryz.call59 rfl rfl rfl rfl hGL ?_
  intro C hC
  repeat' (first
    | (conv => whnf); first
      | refine .w ?_ | refine .v ?_ | apply sc_true | apply sc_false
      | (first | apply sc_lt | apply sc_nlt | apply sc_eq | apply sc_neq | apply sc_nil | apply sc_nnil | apply sc_seq | apply sc_nseq) <;> (intro hb; try exact dd hb)
      | apply sc_not | apply sc_or | (apply sc_i <;> intro hb)
      | (apply bx_i; intro hbd) | (apply gt_i; assumption; exact rfl)
      | (apply cx_is; first | fail) | (apply cx_do (i := 0) rfl; first | fail)
      | (apply ab_i; intro bl) | (apply as_i; intro va vk vc hva) | (apply av_i; intro v) | (apply ac_i; intro bl cap hcap)
      | apply bo_l | (apply nx_i <;> intro hnx) | (apply Ia.hit; assumption) | (apply Ia.miss; assumption)
      | (apply rt_is; exact rfl) | exact rt_w | (apply iv; assumption)
      | apply dw_q mixed hC hGL (by kernel_rfl) | (apply cq; assumption; (first | fail); exact rfl))
  all_goals (try conv => whnf)
  refine lp hC hGL (fun (k : Nat) => [(0, .list 1 l.length (strsF l)), (1, .list 1 l.length (strsF l)), (12, .int .i64 (l.length : Nat)), (13, .int .i64 (k : Nat))]) (fun _ => []) (fun k => k ≤ l.length) (fun k => l.length - k) 0 ?_ env_w rfl ?_
  · exact Nat.zero_le _
  intro k hk
  have hk : k ≤ l.length := hk
  repeat' (first
    | (conv => whnf); first
      | refine .w ?_ | refine .v ?_ | apply sc_true | apply sc_false
      | (first | apply sc_lt | apply sc_nlt | apply sc_eq | apply sc_neq | apply sc_nil | apply sc_nnil | apply sc_seq | apply sc_nseq) <;> (intro hb; try exact dd hb)
      | apply sc_not | apply sc_or | (apply sc_i <;> intro hb)
      | (apply bx_i; intro hbd) | (apply gt_i; assumption; exact rfl)
      | (apply cx_is; first | fail) | (apply cx_do (i := 0) rfl; first | fail)
      | (apply ab_i; intro bl) | (apply as_i; intro va vk vc hva) | (apply av_i; intro v) | (apply ac_i; intro bl cap hcap)
      | apply bo_l | (apply nx_i <;> intro hnx) | (apply Ia.hit; assumption) | (apply Ia.miss; assumption)
      | (apply rt_is; exact rfl) | exact rt_w | (apply iv; assumption)
      | apply dw_q mixed hC hGL (by kernel_rfl) | (apply cq; assumption; (first | fail); exact rfl))
  all_goals (try conv => whnf)
  refine nxt (k + 1) ?_ ?_ env_w rfl
  · show k + 1 ≤ l.length; omega
  · show l.length - (k + 1) < l.length - k; omega
theorem parts_EqualFunc {G : Glo} (L : List (List (List UInt8))) (hn : L.length ≤ 20000) (hk : ∀ l ∈ L, l.length ≤ 20000) : FnIs Tryz.prog G 58 [.list 1 L.length (prtF L), .list 1 L.length (prtF L), .func (.func 59) [] []] (.bool true) := by
  have hGL : GloAll G [] := gloAll_nil
  refine fn_x Tryz.func58 Tryz.call58 rfl rfl rfl rfl hGL ?_
  intro C hC
  repeat' (first
    | (conv => whnf); first
      | refine .w ?_ | refine .v ?_ | apply sc_true | apply sc_false
      | (first | apply sc_lt | apply sc_nlt | apply sc_eq | apply sc_neq | apply sc_nil | apply sc_nnil | apply sc_seq | apply sc_nseq) <;> (intro hb; try exact dd hb)
      | apply sc_not | apply sc_or | (apply sc_i <;> intro hb)
      | (apply bx_i; intro hbd) | (apply gt_i; assumption; exact rfl)
      | (apply cx_is; first | fail) | (apply cx_do (i := 0) rfl; first | fail)
      | (apply ab_i; intro bl) | (apply as_i; intro va vk vc hva) | (apply av_i; intro v) | (apply ac_i; intro bl cap hcap)
      | apply bo_l | (apply nx_i <;> intro hnx) | (apply Ia.hit; assumption) | (apply Ia.miss; assumption)
      | (apply rt_is; exact rfl) | exact rt_w | (apply iv; assumption)
      | apply dw_q mixed hC hGL (by kernel_rfl) | (apply cq; assumption; (first | fail); exact rfl))
  all_goals (try conv => whnf)
  refine lp hC hGL (fun (k : Nat) => [(1, .list 1 L.length (prtF L)), (2, .func (.func 59) [] []), (15, .list 1 L.length (prtF L)), (16, .int .i64 (L.length : Nat)), (17, .int .i64 (k : Nat))]) (fun _ => []) (fun k => k ≤ L.length) (fun k => L.length - k) 0 ?_ env_w rfl ?_
  · exact Nat.zero_le _
  intro k hkl
  have hkl : k ≤ L.length := hkl
  by_cases hk2 : k < L.length
  · have h1 := strs_Equal (G := G) (L.getD k []) (hk _ (by rw [List.getD_eq_getElem?_getD, List.getElem?_eq_getElem hk2]; exact List.getElem_mem hk2))
    have hcl := Tryz.call59
    repeat' (first
      | (conv => whnf); first
        | refine .w ?_ | refine .v ?_ | apply sc_true | apply sc_false
        | (first | apply sc_lt | apply sc_nlt | apply sc_eq | apply sc_neq | apply sc_nil | apply sc_nnil | apply sc_seq | apply sc_nseq) <;> (intro hb; try exact dd hb)
        | apply sc_not | apply sc_or | (apply sc_i <;> intro hb)
        | (apply bx_i; intro hbd) | (apply gt_i; assumption; exact rfl)
        | (apply cx_is; first | exact h1) | (apply cx_do (i := 0) rfl; first | exact h1)
        | (apply ab_i; intro bl) | (apply as_i; intro va vk vc hva) | (apply av_i; intro v) | (apply ac_i; intro bl cap hcap)
        | apply bo_l | (apply nx_i <;> intro hnx) | (apply Ia.hit; assumption) | (apply Ia.miss; assumption)
        | (apply rt_is; exact rfl) | exact rt_w | (apply iv; assumption)
        | apply dw_q mixed hC hGL (by kernel_rfl) | (apply cq; assumption; (first | exact h1); exact rfl))
    all_goals (try conv => whnf)
    refine nxt (k + 1) ?_ ?_ env_w rfl
    · show k + 1 ≤ L.length; omega
    · show L.length - (k + 1) < L.length - k; omega
  · repeat' (first
      | (conv => whnf); first
        | refine .w ?_ | refine .v ?_ | apply sc_true | apply sc_false
        | (first | apply sc_lt | apply sc_nlt | apply sc_eq | apply sc_neq | apply sc_nil | apply sc_nnil | apply sc_seq | apply sc_nseq) <;> (intro hb; try exact dd hb)
        | apply sc_not | apply sc_or | (apply sc_i <;> intro hb)
        | (apply bx_i; intro hbd) | (apply gt_i; assumption; exact rfl)
        | (apply cx_is; first | fail) | (apply cx_do (i := 0) rfl; first | fail)
        | (apply ab_i; intro bl) | (apply as_i; intro va vk vc hva) | (apply av_i; intro v) | (apply ac_i; intro bl cap hcap)
        | apply bo_l | (apply nx_i <;> intro hnx) | (apply Ia.hit; assumption) | (apply Ia.miss; assumption)
        | (apply rt_is; exact rfl) | exact rt_w | (apply iv; assumption)
        | apply dw_q mixed hC hGL (by kernel_rfl) | (apply cq; assumption; (first | fail); exact rfl))
    all_goals (try conv => whnf)
theorem same_Lists {G : Glo} (L : List (List (List UInt8))) (hn : L.length ≤ 20000) (hk : ∀ l ∈ L, l.length ≤ 20000) : FnIs Tryz.prog G 29 [.list 1 L.length (prtF L), .list 1 L.length (prtF L)] (.bool true) := by
  have h1 := parts_EqualFunc (G := G) L hn hk
  have hGL : GloAll G [] := gloAll_nil
  refine fn_x Tryz.func29 Tryz.call29 rfl rfl rfl rfl hGL ?_
  intro C hC
  repeat' (first
    | (conv => whnf); first
      | refine .w ?_ | refine .v ?_ | apply sc_true | apply sc_false
      | (first | apply sc_lt | apply sc_nlt | apply sc_eq | apply sc_neq | apply sc_nil | apply sc_nnil | apply sc_seq | apply sc_nseq) <;> (intro hb; try exact dd hb)
      | apply sc_not | apply sc_or | (apply sc_i <;> intro hb)
      | (apply bx_i; intro hbd) | (apply gt_i; assumption; exact rfl)
      | (apply cx_is; first | exact h1) | (apply cx_do (i := 0) rfl; first | exact h1)
      | (apply ab_i; intro bl) | (apply as_i; intro va vk vc hva) | (apply av_i; intro v) | (apply ac_i; intro bl cap hcap)
      | apply bo_l | (apply nx_i <;> intro hnx) | (apply Ia.hit; assumption) | (apply Ia.miss; assumption)
      | (apply rt_is; exact rfl) | exact rt_w | (apply iv; assumption)
      | apply dw_q mixed hC hGL (by kernel_rfl) | (apply cq; assumption; (first | exact h1); exact rfl))
  all_goals (try conv => whnf)
end Go.Proofs.YtidcpikoeohfbaaGreatDoor
namespace Go.Proofs.YtidcpikoeohfbaaGreatDoor
open Go
set_option linter.unusedSimpArgs false
def andL : List Bool → Bool
  | [] => true
  | b :: l => b && andL l
def fldEq (P : Program) [Tab P] (cs ds : List AVal) : List Field → Option (List Bool)
  | [] => some []
  | f :: fs => match tab P f.type, cs[f.offset]?, ds[f.offset]?, fldEq P cs ds fs with
    | some x, some a, some b, some l => match x.desc, a, b with
      | .int _, .int k m, .int j q => match Nat.beq (kix k) (kix j) with
        | true => some (eqB m q :: l)
        | false => none
      | .string, .str s, .str t => some (seqB s t :: l)
      | .bool, .bool s, .bool t => some ((s == t) :: l)
      | _, _, _ => none
    | _, _, _, _ => none
theorem part_one {P : Program} [Tab P] {xs : Array Value} {v : Value} {t : TypeId} {x : TI} {o : Nat} (ht : tab P t = some x) (hd : descAgg x.desc = false) (hv : xs[o]? = some v) (w : World) : (part t xs o).run P w = .ok v w := by
  simp only [part, Sem.run_bind, tab_run_agg ht, hd, Result.andThen_ok, Bool.false_eq_true, if_false, hv, Sem.run_pure]
theorem eqFields_run {P : Program} [Tab P] {R : Seal} {cs ds : List AVal} {xs ys : Array Value} (ha : RelL R cs xs.toList) (hb : RelL R ds ys.toList) (d : Nat) (w : World) :
    ∀ (fs : List Field) (l : List Bool), (fs.all fun f => f.name != "_") = true → fldEq P cs ds fs = some l → (Op.eqFields (d + 1) xs ys fs).run P w = .ok (andL l) w
  | [], l, _, h => by
    simp only [fldEq, Option.some.injEq] at h
    subst h
    rfl
  | f :: fs, l, hn, h => by
    simp only [List.all_cons, Bool.and_eq_true, bne_iff_ne, ne_eq] at hn
    simp only [fldEq] at h
    split at h
    · rename_i x a b l' ht h1 h2 h3
      have ih := eqFields_run ha hb d w fs l' hn.2 h3
      obtain ⟨va, e1, r1⟩ := relL_get ha h1
      obtain ⟨vb, e2, r2⟩ := relL_get hb h2
      have e1 : xs[f.offset]? = some va := by simpa using e1
      have e2 : ys[f.offset]? = some vb := by simpa using e2
      have fin : ∀ r : Bool, descAgg x.desc = false → (Op.equalIn (d + 1) f.type va vb).run P w = .ok r w → (Op.eqFields (d + 1) xs ys (f :: fs)).run P w = .ok (andL (r :: l')) w := by
        intro r hd hr
        simp only [Op.eqFields, ne_eq, hn.1, not_false_eq_true, if_true, Sem.run_bind, part_one ht hd e1, part_one ht hd e2, Result.andThen_ok, hr]
        cases r
        · rfl
        · exact ih
      split at h
      · rename_i q1 k m j q hd
        split at h
        · rename_i hk
          cases h
          obtain rfl := kix_eq hk
          obtain rfl := rel_int.1 (relC_rel r1 rfl)
          obtain rfl := rel_int.1 (relC_rel r2 rfl)
          refine fin _ (by rw [hd]; rfl) ?_
          rw [run_equalIn_int w d f.type _ _ _ _ (by rw [tab_und ht, hd])]
          unfold eqB
          rfl
        · cases h
      · rename_i s t hd
        cases h
        obtain rfl := rel_str.1 (relC_rel r1 rfl)
        obtain rfl := rel_str.1 (relC_rel r2 rfl)
        refine fin _ (by rw [hd]; rfl) ?_
        rw [run_equalIn_string w d f.type _ _ (by rw [tab_und ht, hd])]
        rw [ByteArray.toList_eq, ByteArray.toList_eq]
        unfold seqB
        simp
      · rename_i s t hd
        cases h
        obtain rfl := rel_bool.1 (relC_rel r1 rfl)
        obtain rfl := rel_bool.1 (relC_rel r2 rfl)
        exact fin _ (by rw [hd]; rfl) (run_equalIn_bool' w d f.type _ _ (by rw [tab_und ht, hd]))
      · cases h
    · cases h
section
variable {P : Program} [Tab P] {C : Ctx} {env : Env} {H : Heap} {x y : Operand} {T ty : TypeId}
theorem agg_of {R : Seal} {cs : List AVal} {v : Value} (h : Rel R (.agg cs) v) : ∃ vs, v = .agg vs ∧ RelL R cs vs.toList := by
  obtain ⟨h1, h2⟩ := h
  cases v <;> first | exact ⟨_, rfl, h1⟩ | (simp [AVal.isAgg, vAgg] at h2)
theorem rv_eqagg {cs ds : List AVal} {fs : Array Field} {l : List Bool} {xT : TI} (b : Bool) (hx : evalA env x = some (.agg cs)) (hy : evalA env y = some (.agg ds)) (h1 : tab P T = some xT) (h2 : xT.desc = .struct fs)
    (h3 : P.stoodInHeld T = false) (h4 : P.eqGuardType P.depth T = false) (h5 : (fs.toList.all fun f => f.name != "_") = true) (h6 : fldEq P cs ds fs.toList = some l) (hb : andL l = b) : RunV P C H env (.binOp .eql T x y ty) (.bool b) := by
  intro R ρ w hm hf dst t p af g
  refine ⟨_, ?_, rel_bool.2 rfl⟩
  obtain ⟨xs, ex, rx⟩ := agg_of (hf _ _ hx)
  obtain ⟨ys, ey, ry⟩ := agg_of (hf _ _ hy)
  have hu : P.underlying T = some (.struct fs) := by rw [tab_und h1, h2]
  have hfo : P.fieldsOf T = fs := by unfold Program.fieldsOf; rw [hu]
  have e1 : (Op.equalIn 10000 T (.agg xs) (.agg ys)).run P w = .ok b w := by
    rw [show (10000 : Nat) = 9999 + 1 from rfl, run_equalIn_agg w 9999 T xs ys (by rw [hfo]; exact hu) h3, hfo]
    subst hb
    exact eqFields_run rx ry 9998 w _ _ h5 h6
  simp only [execOp, ex, ey, Sem.run_bind, run_eql_struct, e1, run_eqGuard_agg w .eql T x y xs ys h4, Result.andThen_ok, Sem.run_pure]
end
end Go.Proofs.YtidcpikoeohfbaaGreatDoor
namespace Go.Proofs.YtidcpikoeohfbaaGreatDoor
open Go Go.RowKit
theorem vrV_bnd (s : List UInt8) (k : Int) : (vrV s k).1.L.length ≤ s.length + 1 ∧ ∀ l ∈ (vrV s k).1.L, l.length ≤ s.length + 1 := by
  have h0 : (vrG s k).1.L.length ≤ s.length + 1 ∧ ∀ l ∈ (vrG s k).1.L, l.length ≤ s.length + 1 := by
    unfold vrG
    (repeat' split)
    all_goals first
      | exact ⟨Nat.zero_le _, fun l h => by cases h⟩
      | exact ⟨by show 1 ≤ _; omega, fun l h => by rw [List.mem_singleton.1 h]; exact lstS_cnt s⟩
      | exact prtS_cnt s
  unfold vrV
  (repeat' split)
  all_goals first
    | exact h0
    | exact ⟨Nat.zero_le _, fun l h => by cases h⟩
theorem stamp_same (t : Stm) : andL [eqB t.y t.y, eqB t.m t.m, eqB t.d t.d, eqB t.h t.h, eqB t.i t.i, eqB t.s t.s, t.z == t.z, eqB t.o t.o] = true := by
  have e : ∀ x : Int, eqB x x = true := fun x => eqB_t.2 rfl
  simp only [andL, e, beq_self_eq_true, Bool.and_self]
set_option maxRecDepth 20000
set_option maxHeartbeats 4000000
set_option linter.unusedSimpArgs false
set_option linter.unusedVariables false
attribute [local irreducible] AWp AOps byteAt SrcOK OrOk GloAll FnSpec
attribute [local irreducible] vrV
theorem same_Value {G : Glo} (v : Vl) (h1 : v.L.length ≤ 20000) (h2 : ∀ l ∈ v.L, l.length ≤ 20000) : FnIs Tryz.prog G 7 [v.R, v.R] (.bool true) := by
  have h := same_Lists (G := G) v.L h1 h2
  have hc := Tryz.call29
  have hz := stamp_same v.st
  have hGL : GloAll G [] := gloAll_nil
  refine fn_x Tryz.func7 Tryz.call7 rfl rfl rfl rfl hGL ?_
  intro C hC
  refine xw ?_
  repeat' (first | exact Le.n | refine Lc.mk ?_ ?_)
  all_goals intros
  all_goals try (refine op1_run hC hGL (rv_eqagg true rfl rfl rfl rfl (by kernel_rfl) (by kernel_rfl) (by kernel_rfl) rfl hz) rfl rfl ?_; refine xw ?_)
  repeat' (first | exact Le.n | refine Lc.mk ?_ ?_)
  all_goals intros
  all_goals first
    | exact absurd rfl (by assumption)
    | (apply rt_is; rfl)
    | (apply rt_is; exact congrArg AVal.bool (eqB_t.2 rfl))
theorem law_ValueReads {G : Glo} {m : Int} (hE : GloAll G errTy) (hU : GloAll G utfTy) (hM : GloAll G (maxTy m)) (hS : GloAll G shapesTy) (s : List UInt8) (k : Int) (hl : s.length ≤ 9223372036854775807) : FnIs Tryz.prog G 3 [.str s, .int .i64 k] (.bool true) := by
  have h6 := placed_ok (G := G) hE (vrV s k).2
  have hc1 := Tryz.call6
  have hc2 := Tryz.call7
  by_cases hs : s.length ≤ 800
  · have h1 := ref_ValueRead (G := G) hU hM hS s k (by omega)
    have h2 := value_Read (G := G) hU hM s k (by omega)
    have hb := vrV_bnd s k
    have h3 := same_Value (G := G) (vrV s k).1 (by omega) (fun l h => by have := hb.2 l h; omega)
    generalize (vrV s k).1 = v at *
    rcases hq : (vrV s k).2 with _ | e | ⟨e, p⟩
    all_goals
      rw [hq] at h6 h1 h2
      simp only [Err.A, Err.e, Err.p, errA] at h6 h1 h2
      have hGL : GloAll G [] := gloAll_nil
      refine fn_x Tryz.func3 Tryz.call3 rfl rfl rfl rfl hGL ?_
      intro C hC
      exact xw0
  · have hGL : GloAll G [] := gloAll_nil
    refine fn_x Tryz.func3 Tryz.call3 rfl rfl rfl rfl hGL ?_
    intro C hC
    exact xw0
end Go.Proofs.YtidcpikoeohfbaaGreatDoor
namespace Go.Proofs.YtidcpikoeohfbaaGreatDoor
open Go
theorem chunks {α β : Type} (k : Nat) (E : α → List β) (hE : ∀ z, (E z).length = k) : ∀ (zs : List α) (cs : List β), cs.length = zs.length * k →
    (∀ i z, zs[i]? = some z → (cs.drop (i * k)).take k = E z) → cs = zs.flatMap E
  | [], cs, hl, _ => by
    simp only [List.length_nil, Nat.zero_mul] at hl
    simp [List.eq_nil_of_length_eq_zero hl]
  | z :: zs, cs, hl, h => by
    have h0 := h 0 z rfl
    simp only [Nat.zero_mul, List.drop_zero] at h0
    have hr := chunks k E hE zs (cs.drop k) (by rw [List.length_drop, hl, List.length_cons, Nat.succ_mul]; omega) (fun i y hy => by
      have := h (i + 1) y hy
      rw [List.drop_drop]
      rw [Nat.succ_mul, Nat.add_comm] at this
      exact this)
    rw [List.flatMap_cons, ← h0, ← hr, List.take_append_drop]
theorem relL_ints {R : Seal} : ∀ (l : List (IntKind × Int)), RelL R (l.map fun x => .int x.1 x.2) (l.map fun x => .int x.1 x.2)
  | [] => rfl
  | _ :: l => ⟨_, _, rfl, rfl, relL_ints l⟩
section
variable {P : Program} {H : Type} {enc : TypeId × Value → H} {w : World} {base : Nat} {spare : Nat → Bool} {held : Bool}
theorem trod_ints {t e n fuel : Nat} {k : IntKind} {cs : List Value} {ps : List MemPlace} {zs : List Nat} (ht : P.underlying t = some (.array n e)) (he : P.underlying e = some (.int k)) (hc : P.cellsOf e = 1) (hct : P.cellsOf t = n)
    (h : DataW.trod enc P w base spare held fuel t cs = some (.agg (zs.map fun x : Nat => .lit (.int k (x : Int))), ps)) (hz : zs.length = n) : cs = zs.flatMap fun x : Nat => [Value.int k (x : Int)] := by
  obtain ⟨xs, m, _, ex, hl, hxl, hel⟩ := DataW.trod_array ht h
  have e3 : (xs.map (·.1)) = zs.map fun x : Nat => .lit (.int k x) := (DataW.agg.inj (Prod.mk.inj ex).1).symm
  refine chunks 1 _ (fun _ => rfl) zs cs (by omega) (fun i z hi => ?_)
  have hin : i < zs.length := (List.getElem?_eq_some_iff.1 hi).1
  have hE := hel i (by omega)
  rw [hc, List.getElem?_eq_getElem (by omega)] at hE
  obtain ⟨y, e1, e2, _⟩ := DataW.trod_int he hE
  have e4 : (xs.map (·.1))[i]? = (zs.map fun x : Nat => (DataW.lit (.int k x) : DataW H))[i]? := by rw [e3]
  rw [List.getElem?_map, List.getElem?_map, List.getElem?_eq_getElem (by omega : i < xs.length), hi, e2] at e4
  simp only [Option.map_some, Option.some.injEq, DataW.lit.injEq, Lit.int.injEq, true_and] at e4
  rw [e1, e4]
end
/-- One laid variable. -/
theorem laid_at {P : Program} {W : World} {laid : List (String × DataW Unit)} (hL : laidMetH P laid W) {n : String} {d : DataW Unit} (hm : (n, d) ∈ laid) (hn : d.handleName?.isNone = true) {g : Nat} {t : TypeId} (hg : P.globalNamed n = some g) (ht : (P.globals[g]?).map (·.type) = some t) :
    ∃ cs e fz fuel p, W.heap[g]? = some (.cells cs e fz) ∧ DataW.trod (fun _ => ()) P W 0 (fun _ => true) false fuel t cs.toList = some (d, p) := by
  have h1 := (laidMetH_iff.1 hL).1
  obtain ⟨ps, h, _⟩ := h1
  have key : ∀ (l : List (String × DataW Unit)) (ps : List MemPlace), DataW.LaidVars P W l ps → (n, d) ∈ l → ∃ cs e fz fuel p, W.heap[g]? = some (.cells cs e fz) ∧ DataW.trod (fun _ => ()) P W 0 (fun _ => true) false fuel t cs.toList = some (d, p) := by
    intro l
    induction l with
    | nil => intro ps _ hm; cases hm
    | cons a r ih =>
      obtain ⟨m, b⟩ := a
      rintro ps ⟨g', t', cs, fuel, p, q, e1, e2, e3, e4, e5, _⟩ hm
      rcases List.mem_cons.1 hm with hm | hm
      · cases hm
        obtain rfl := Option.some.inj (hg.symm.trans e1)
        obtain rfl := Option.some.inj (ht.symm.trans e2)
        obtain ⟨e, fz, hh⟩ := var_heap hg e3
        exact ⟨cs, e, fz, fuel, p, hh, e4⟩
      · exact ih q e5 hm
  exact key _ ps h (List.mem_filter.2 ⟨hm, hn⟩)
/-- The wrap of a row with a listed table, the world's shape kept. -/
theorem returnsInHanded_shaped {H : Type} {enc : TypeId × Value → H} {a : Assume} {C : Checked} {os : Os} {f : FuncId} {fn : Func} {s : ChangeSpec} {conds : List PathCond} {apart fresh handsOn again : Bool} {X : World → Array Value → Prop}
    (hX : ∀ (w w' : World) (args : Array Value), w.heap = w'.heap → X w args → X w' args)
    (own : ownKnob C.prog.godebug = none) (started : os.Started) (noInit : C.prog.inits.idxOf? f = none) (hfn : C.prog.funcs[f]? = some fn)
    (witness : ∃ (w : World) (tape : Tape) (i : Input), w.os = os ∧ (w.forCall tape i).Shaped C.prog ∧ i.vars = [] ∧ Input.okWide C.prog (w.forCall tape i) .any w.heap.size f i ∧
      ((s.pre enc C.prog fn conds apart (w.forCall tape i).memory i.args ∧ X (w.forCall tape i).memory i.args) ∧ sizedMet enc C.prog fn (OpenSpec.ofChange s) apart (w.forCall tape i).memory i.args) ∧ a.holds C.prog (lone (Frame.enter C.prog f i.args .normal) [] (w.forCall tape i)))
    (contract : ∀ (W : World) (base : Nat) (args : Array Value) (ds gs : List (DataW H)) (before : List MemPlace),
      (∀ (j : Nat) t v, fn.params[j]? = some t → args[j]? = some v → Value.okWide C.prog W .any base t v) →
      DataW.Whole enc C.prog fn.params.toList s.vars apart W args.toList ds gs before →
      conds.all (PathCond.test C.prog ⟨fn.params.toList, ds, s.plain.varTypes C.prog, gs⟩) = true →
      X W args → W.ShapedOpen C.prog →
      Calls C.prog f args W fun e W' => ∃ v, e = .returned v ∧ s.post enc C.prog fn apart fresh handsOn again W args v W') :
    ReturnsInHanded a C os f .any (fun w args => (s.pre enc C.prog fn conds apart w args ∧ X w args) ∧ sizedMet enc C.prog fn (OpenSpec.ofChange s) apart w args) (s.post enc C.prog fn apart fresh handsOn again) := by
  refine returnsInHanded_of_calls own started noInit witness ?_
  intro w tape i _ hsh _ hok hpre _
  obtain ⟨_, _, _, fn', hfn', _, _, _, _, hval⟩ := hok
  have e : fn' = fn := Option.some.inj (hfn'.symm.trans hfn)
  subst e
  obtain ⟨⟨⟨ds, gs, before, hw, hc⟩, hx⟩, _⟩ := hpre
  have hw' := DataW.Whole.of_heap (w' := w.forCall tape i) (by rfl) hw
  refine (contract (w.forCall tape i) w.heap.size i.args ds gs before hval hw' hc (hX _ _ _ (by rfl) hx) hsh).mono fun e W' ⟨v, he, hp⟩ => ?_
  subst he
  exact ChangeSpec.post_blind hp
/-- The bound of package bytealg is some number. -/
theorem max_some {W : World} (h : W.ShapedOpen Tryz.prog) : ∃ m, W.cell? ⟨1, 0, none⟩ = some (.int .i64 m) :=
  cell_of_shapedOpen_int (t := 3) (zero := #[.int .i64 0]) h (of_decide_eq_true (by kernel_rfl)) (by kernel_rfl) rfl (by kernel_rfl) (by kernel_rfl) Tryz.underlying3
theorem max_sealed {W : World} {k : Nat} (hk : 1 < k) {m : Int} (h : W.cell? ⟨1, 0, none⟩ = some (.int .i64 m)) : SealedAt (sealBelow W k) 1 0 [.int .i64 m] := by
  unfold World.cell? at h
  split at h
  · rename_i C e fz hW
    refine sealed_below hk hW ?_
    have h : C[0]? = some (.int .i64 m) := h
    have h0 := (Array.getElem?_eq_some_iff.1 h)
    obtain ⟨hlt, h1⟩ := h0
    have e1 : C.toList.take 1 = [.int .i64 m] := by
      have hl : 0 < C.toList.length := by simpa using hlt
      have := List.take_succ_eq_append_getElem (l := C.toList) (i := 0) hl
      simp at this
      rw [show (1 : Nat) = 0 + 1 from rfl, List.take_succ_eq_append_getElem hl]
      simp [h1]
    show RelL _ _ (C.toList.take 1)
    rw [e1]
    exact ⟨_, _, rfl, rfl, rfl⟩
  · cases h
theorem block_lt {W : World} {g : Nat} {o : Obj} (h : W.heap[g]? = some o) : g < W.heap.size := (Array.getElem?_eq_some_iff.1 h).1
theorem laid_lt {W : World} {laid : List (String × DataW Unit)} (hL : laidMetH Tryz.prog laid W) {n : String} {d : DataW Unit} (hm : (n, d) ∈ laid) (hn : d.handleName?.isNone = true) {g : Nat} {t : TypeId} (hg : Tryz.prog.globalNamed n = some g) (ht : (Tryz.prog.globals[g]?).map (·.type) = some t) : g < W.heap.size := by
  obtain ⟨_, _, _, _, _, hW, _⟩ := laid_at hL hm hn hg ht
  exact block_lt hW
end Go.Proofs.YtidcpikoeohfbaaGreatDoor
namespace Go.Proofs.YtidcpikoeohfbaaGreatDoor
open Go
section
variable {P : Program} {H : Type} {enc : TypeId × Value → H} {w : World} {base : Nat} {spare : Nat → Bool} {held : Bool}
theorem trod_pairs {t e n fuel u : Nat} {k : IntKind} {f0 f1 : Field} {cs : List Value} {ps : List MemPlace} {zs : List (Nat × Nat)} (ht : P.underlying t = some (.array n e)) (he : P.underlying e = some (.struct #[f0, f1])) (hc : P.cellsOf e = 2) (hct : P.cellsOf t = n * 2)
    (hf0 : f0.type = u) (hf1 : f1.type = u) (ho0 : f0.offset = 0) (ho1 : f1.offset = 1) (hu : P.underlying u = some (.int k)) (hcu : P.cellsOf u = 1)
    (h : DataW.trod enc P w base spare held fuel t cs = some (.agg (zs.map fun x : Nat × Nat => .agg [.lit (.int k (x.1 : Int)), .lit (.int k (x.2 : Int))]), ps)) (hz : zs.length = n) : cs = zs.flatMap fun x : Nat × Nat => [Value.int k (x.1 : Int), Value.int k (x.2 : Int)] := by
  obtain ⟨xs, m, _, ex, hl, hxl, hel⟩ := DataW.trod_array ht h
  have e3 : (xs.map (·.1)) = zs.map fun x : Nat × Nat => .agg [.lit (.int k x.1), .lit (.int k x.2)] := (DataW.agg.inj (Prod.mk.inj ex).1).symm
  refine chunks 2 _ (fun _ => rfl) zs cs (by omega) (fun i z hi => ?_)
  have hin : i < zs.length := (List.getElem?_eq_some_iff.1 hi).1
  have hE := hel i (by omega)
  rw [hc, List.getElem?_eq_getElem (by omega)] at hE
  generalize hcc : (cs.drop (i * 2)).take 2 = c at hE
  obtain ⟨y0, y1, m', e2, hl2, h0, h1⟩ := Go.ChangeShapes.trod_struct2 he hE
  rw [hf0, ho0, hcu] at h0
  rw [hf1, ho1, hcu] at h1
  obtain ⟨a0, c0, d0, _⟩ := DataW.trod_int hu h0
  obtain ⟨a1, c1, d1, _⟩ := DataW.trod_int hu h1
  have e4 : (xs.map (·.1))[i]? = (zs.map fun x : Nat × Nat => (DataW.agg [.lit (.int k x.1), .lit (.int k x.2)] : DataW H))[i]? := by rw [e3]
  rw [List.getElem?_map, List.getElem?_map, List.getElem?_eq_getElem (by omega : i < xs.length), hi, e2, d0, d1] at e4
  simp only [Option.map_some, Option.some.injEq, DataW.agg.injEq, List.cons.injEq, DataW.lit.injEq, Lit.int.injEq, true_and, and_true] at e4
  rw [hc] at hl2
  match c, hl2 with
  | [x0, x1], _ =>
    simp only [List.drop_zero, List.take_succ_cons, List.take_zero, List.cons.injEq, and_true, List.drop_succ_cons] at c0 c1
    rw [c0, c1, e4.1, e4.2]
end
theorem first_laid {W : World} {k : Nat} (hk : 5 < k) {laid : List (String × DataW Unit)} (hL : laidMetH Tryz.prog laid W) (hm : ("unicode/utf8.first", Rows.laid_unicode_utf8_first) ∈ laid) : SealedAt (sealBelow W k) 5 0 firstTab := by
  obtain ⟨C, e, fz, fuel, p, hW, hd⟩ := laid_at hL hm (by kernel_rfl) (g := 5) (t := 191) (by kernel_rfl) (by kernel_rfl)
  refine sealed_below hk hW ?_
  have hc := trod_ints (n := 256) (zs := Go.Pinned.utf8FirstZ) Tryz.underlying191 Tryz.underlying5 (by kernel_rfl) (by kernel_rfl) hd (by kernel_rfl)
  have e1 : firstTab = (Go.Pinned.utf8FirstZ.map fun x : Nat => (IntKind.u8, (x : Int))).map fun x => .int x.1 x.2 := by simp [firstTab]
  have e2 : C.toList.take firstTab.length = (Go.Pinned.utf8FirstZ.map fun x : Nat => (IntKind.u8, (x : Int))).map fun x => .int x.1 x.2 := by
    have : C.toList = Go.Pinned.utf8FirstZ.map fun x : Nat => Value.int .u8 (x : Int) := by
      rw [hc]; generalize Go.Pinned.utf8FirstZ = l; induction l <;> simp_all
    rw [this, List.take_of_length_le (by simp [firstTab])]
    simp
  rw [e2, e1]
  exact relL_ints _
def acceptZ : List (Nat × Nat) := [(128, 191), (160, 191), (128, 159), (144, 191), (128, 143), (0, 0), (0, 0), (0, 0), (0, 0), (0, 0), (0, 0), (0, 0), (0, 0), (0, 0), (0, 0), (0, 0)]
theorem accept_laid {W : World} {k : Nat} (hk : 6 < k) {laid : List (String × DataW Unit)} (hL : laidMetH Tryz.prog laid W) (hm : ("unicode/utf8.acceptRanges", Rows.laid_unicode_utf8_acceptRanges) ∈ laid) : SealedAt (sealBelow W k) 6 0 acceptTab := by
  obtain ⟨C, e, fz, fuel, p, hW, hd⟩ := laid_at hL hm (by kernel_rfl) (g := 6) (t := 194) (by kernel_rfl) (by kernel_rfl)
  refine sealed_below hk hW ?_
  rw [trod_pairs (n := 16) (zs := acceptZ) Tryz.underlying194 Tryz.underlying193 (by kernel_rfl) (by kernel_rfl) rfl rfl rfl rfl Tryz.underlying5 (by kernel_rfl) hd (by kernel_rfl)]
  exact relL_ints ((acceptZ.flatMap fun x : Nat × Nat => [x.1, x.2]).map fun x : Nat => (IntKind.u8, (x : Int)))
end Go.Proofs.YtidcpikoeohfbaaGreatDoor
namespace Go.Proofs.YtidcpikoeohfbaaGreatDoor
open Go Go.ChangeShapes Go.WideShapes
theorem cell_block {W : World} {a : Addr} {v : Value} (h : W.cell? a = some v) : ∃ b o C e fz, a = ⟨b, o, none⟩ ∧ W.heap[b]? = some (.cells C e fz) := by
  obtain ⟨b, o, sp⟩ := a
  unfold World.cell? at h
  dsimp only at h
  cases hW : W.heap[b]? with
  | none => rw [hW] at h; cases h
  | some ob =>
    cases ob with
    | cells C e fz =>
      rw [hW] at h
      cases sp with
      | some s => simp at h
      | none => exact ⟨b, o, C, e, fz, rfl, hW⟩
    | _ => rw [hW] at h; cases h
theorem add_none (b o i : Nat) : (⟨b, o, none⟩ : Addr).add i = ⟨b, o + i, none⟩ := by
  unfold Addr.add
  split
  · rename_i h; rw [h]; rfl
  · rfl
theorem cell_at {W : World} {b o : Nat} {C : Array Value} {e : TypeId} {fz : Nat × Nat} (hW : W.heap[b]? = some (.cells C e fz)) : W.cell? ⟨b, o, none⟩ = C.toList[o]? := by
  unfold World.cell?
  simp [hW]
/-- Cells read one after the other are a part of their block. -/
theorem cells_take {W : World} {base b o n : Nat} {C : Array Value} {e : TypeId} {fz : Nat × Nat} (hW : W.heap[b]? = some (.cells C e fz)) {cs : List Value} (h : W.cells? base ⟨b, o, none⟩ n = some cs) : (C.toList.drop o).take n = cs := by
  obtain ⟨_, hl, hi⟩ := World.cells?_some h
  have hx : ∀ i, i < n → C.toList[o + i]? = cs[i]? := fun i k => by
    have := hi i k
    rwa [add_none, cell_at hW] at this
  apply List.ext_getElem?
  intro i
  by_cases k : i < n
  · rw [List.getElem?_take_of_lt k, List.getElem?_drop, hx i k]
  · rw [List.getElem?_eq_none (by rw [List.length_take]; omega), List.getElem?_eq_none (by omega)]
theorem rel_struct3 {R : Seal} {x y z : List UInt8} {cs : List Value} {s0 s1 s2 : ByteArray} (h : cs = [.string s0, .string s1, .string s2]) (h0 : s0.data.toList = x) (h1 : s1.data.toList = y) (h2 : s2.data.toList = z) : RelC R (.agg [.str x, .str y, .str z]) cs := by
  subst h h0 h1 h2
  exact ⟨_, _, rfl, by rw [RelC, str_mk], _, _, rfl, by rw [RelC, str_mk], _, _, rfl, by rw [RelC, str_mk], rfl⟩
theorem three_of {α : Type} {l : List α} (h : l.length = 3) : ∃ a b c, l = [a, b, c] := by
  match l, h with
  | [a, b, c], _ => exact ⟨a, b, c, rfl⟩
def shapeD {H : Type} (i : Nat) : DataW H := .agg [.lit (.string (toldF i)), .lit (.string (dateF i)), .lit (.string (clkF i))]
theorem shapes_laid {W : World} {laid : List (String × DataW Unit)} (hL : laidMetH Tryz.prog laid W) (hm : ("visitingcard/visitingcardref.shapes", Rows.laid_visitingcard_visitingcardref_shapes) ∈ laid) : SealedAt (sealBelow W W.heap.size) 0 0 [.list 3 7 shapesF] := by
  obtain ⟨C0, e0, fz0, fuel, p, hW0, hd⟩ := laid_at hL hm (by kernel_rfl) (g := 0) (t := 75) (by kernel_rfl) (by kernel_rfl)
  rcases Go.Deep.open_slice Tryz.underlying75 hd with ⟨_, hx⟩ | ⟨a, len, cap, m, n, D, Pl, hv, _, hl, _, hm2, hx, hi⟩
  · cases hx
  have e1 : (List.range 7).map (fun i => (shapeD i : DataW Unit)) = (List.range len).map D := by
    have := (DataW.slice.inj (Prod.mk.inj hx).1).1
    rw [← this]
    rfl
  have hlen : len = 7 := by
    have := congrArg List.length e1
    simpa using this.symm
  subst hlen
  have hD : ∀ i, i < 7 → D i = shapeD i := fun i k => by
    have h1 : ((List.range 7).map D)[i]? = some (D i) := by simp [k]
    have h2 : ((List.range 7).map (fun i => (shapeD i : DataW Unit)))[i]? = some (shapeD i) := by simp [k]
    rw [e1, h1] at h2
    exact Option.some.inj h2
  have hm7 : 7 ≤ m := by rw [hm2]; split <;> omega
  have hc3 : Tryz.prog.cellsOf 76 = 3 := by kernel_rfl
  have hc1 : Tryz.prog.cellsOf 9 = 1 := by kernel_rfl
  rw [hc3] at hi
  obtain ⟨c0, hc0, _⟩ := hi 0 (by omega)
  have hcell : ∃ v, W.cell? a = some v := by
    obtain ⟨_, h1, h2⟩ := World.cells?_some hc0
    have h3 := h2 0 (by decide)
    rw [Nat.zero_mul, show (a.add 0).add 0 = a from rfl, List.getElem?_eq_getElem (by omega)] at h3
    exact ⟨_, h3⟩
  obtain ⟨v, hv0⟩ := hcell
  obtain ⟨b, o, C, e, fz, rfl, hWb⟩ := cell_block hv0
  refine sealed_below (block_lt hW0) hW0 ?_
  rw [hv]
  refine ⟨_, _, rfl, ⟨some ⟨b, o, none⟩, cap, rfl, hl, .inr ⟨b, o, C, e, fz, rfl, ?_, fun i k => ?_⟩⟩, rfl⟩
  · unfold sealBelow
    rw [if_pos (block_lt hWb)]
    exact hWb
  · obtain ⟨cs, h1, h2⟩ := hi i (by omega)
    rw [add_none] at h1
    have h3 := cells_take hWb h1
    rw [h3]
    rw [hD i k] at h2
    obtain ⟨y0, y1, y2, n2, hy, hcl, g0, g1, g2⟩ := Go.Deep.trod_struct3 Tryz.underlying76 h2
    rw [hc3] at hcl
    obtain ⟨s0, q0, r0, _⟩ := DataW.trod_string Tryz.underlying9 g0
    obtain ⟨s1, q1, r1, _⟩ := DataW.trod_string Tryz.underlying9 g1
    obtain ⟨s2, q2, r2, _⟩ := DataW.trod_string Tryz.underlying9 g2
    have hy1 := (Prod.mk.inj hy).1
    rw [r0, r1, r2] at hy1
    unfold shapeD at hy1
    simp only [DataW.agg.injEq, List.cons.injEq, DataW.lit.injEq, Lit.string.injEq, and_true] at hy1
    refine rel_struct3 (s0 := s0) (s1 := s1) (s2 := s2) ?_ hy1.1.symm hy1.2.1.symm hy1.2.2.symm
    obtain ⟨u0, u1, u2, rfl⟩ := three_of hcl
    have q0 : ([u0, u1, u2].drop 0).take (Tryz.prog.cellsOf 9) = [.string s0] := q0
    have q1 : ([u0, u1, u2].drop 1).take (Tryz.prog.cellsOf 9) = [.string s1] := q1
    have q2 : ([u0, u1, u2].drop 2).take (Tryz.prog.cellsOf 9) = [.string s2] := q2
    rw [hc1] at q0 q1 q2
    simp at q0 q1 q2
    rw [q0, q1, q2]
theorem cell_lt {W : World} {g : Nat} {v : Value} (h : W.cell? ⟨g, 0, none⟩ = some v) : g < W.heap.size := by
  obtain ⟨b, o, C, e, fz, ha, hW⟩ := cell_block h
  cases ha
  exact block_lt hW
end Go.Proofs.YtidcpikoeohfbaaGreatDoor
