/- Parts of the proof of lineParses_card: Rpx, Rpy, Rpz, Dc, Rf, Hdb, Lnk, Idt, Lpb. -/
import GoSem.PinnedTables
import Derived.Test.YtkmpcdlmeiophaaGreatDoorBag
import Derived.Test.YtkmpcdlmeiophaaGreatDoorBae
import Derived.Test.YtkmpcdlmeiophaaGreatDoorBaf
import Derived.Test.YtkmpcdlmeiophaaGreatDoorBad
set_option linter.unusedVariables false
set_option linter.unusedSimpArgs false
namespace Go.Proofs.YtkmpcdlmeiophaaGreatDoor
open Go Go.RowKit
set_option maxRecDepth 20000
set_option maxHeartbeats 4000000
set_option linter.unusedSimpArgs false
set_option linter.unusedVariables false
theorem mapD_get {i : Nat} (hi : i < 256) : mapD[i]? = some (.int .u8 (m2 i : Nat)) := by
  unfold mapD m2
  by_cases h1 : i = 110
  · subst h1; rfl
  · rw [List.getElem?_set_ne (Ne.symm h1)]
    by_cases h2 : i = 94
    · subst h2; rfl
    · rw [List.getElem?_set_ne (Ne.symm h2)]
      by_cases h3 : i = 39
      · subst h3; rfl
      · rw [List.getElem?_set_ne (Ne.symm h3), if_neg h3, if_neg h2, if_neg h1]
        rw [List.getElem?_replicate_of_lt hi]
        rfl
attribute [local irreducible] AWp AOps SrcOK OrOk GloAll FnSpec
attribute [local irreducible] mapD
theorem genD_get {i : Nat} {t : AVal} {v : Int} (hi : i < 256) (h : (m2 i : Int) = v) : some (AVal.int .u8 v) = (genC t 3 mapD)[0 + 6 + i * 1]? := by
  rw [show 0 + 6 + i * 1 = i + 6 by omega, ← h]
  exact (mapD_get hi).symm
/-- What a text begins with. -/
def lkP (s : List UInt8) : List UInt8 × Int × Bool :=
  if s.length < 2 then ([], 0, false) else if byteAt s 1 = 94 then ([94], 2, true) else if byteAt s 1 = 110 then ([10], 2, true) else if byteAt s 1 = 39 then ([34], 2, true) else ([], 0, false)
theorem lookup_dec {G : Glo} (x0 x1 : HEnt) (y : DecY) (s : List UInt8) (hl : s.length ≤ 1000000) (h0 : s.length = 0 ∨ byteAt s 0 = 94) :
    FnSpec Tryz.prog G 158 [.raw (pv y.bg 0), .str s, .bool false] ([x0, x1] ++ y.H)
      (fun r H => r = .ret (.tuple [.str (lkP s).1, .int .i64 (lkP s).2.1, .bool (lkP s).2.2]) ∧ H = [x0, x1] ++ y.H) := by
  have hGL : GloAll G [] := gloAll_nil
  refine fn_xp 2 Tryz.func158 Tryz.call158 rfl rfl rfl rfl hGL rfl ?_
  intro C hC
  repeat' (first
    | (conv => whnf); first
      | refine .w ?_ | (first | refine Ix.v ?_ | refine Sd.v ?_ | refine Sl.v ?_) | apply sc_true | apply sc_false
      | (first | apply sc_lt | apply sc_nlt | apply sc_eq | apply sc_neq | apply sc_nil | apply sc_nnil) <;> (intro hb; try exact dd hb)
      | apply sc_not | (apply sc_i <;> intro hb) | (apply bx_i; intro hbd) | (apply gt_i; assumption; exact rfl)
      | (apply cx_is; first | fail) | (apply ab_i; intro bl) | (apply rt_is; exact rfl) | exact rt_w
      | exact True.intro | (apply bc_i; intro C hC) | apply bt_i | apply og_n | (apply og_a; exact rfl))
  all_goals (try conv => whnf)
  refine rds hC hGL 4 ?_
  repeat' (first
    | (conv => whnf); first
      | refine .w ?_ | (first | refine Ix.v ?_ | refine Sd.v ?_ | refine Sl.v ?_) | apply sc_true | apply sc_false
      | (first | apply sc_lt | apply sc_nlt | apply sc_eq | apply sc_neq | apply sc_nil | apply sc_nnil) <;> (intro hb; try exact dd hb)
      | apply sc_not | (apply sc_i <;> intro hb) | (apply bx_i; intro hbd) | (apply gt_i; assumption; exact rfl)
      | (apply cx_is; first | fail) | (apply ab_i; intro bl) | (apply rt_is; exact rfl) | exact rt_w
      | exact True.intro | (apply bc_i; intro C hC) | apply bt_i | apply og_n | (apply og_a; exact rfl))
  all_goals (try conv => whnf)
  · apply rt_do
    · unfold lkP; rw [if_pos (by omega)]; rfl
    · exact List.Sublist.refl _
  · have hb0 : byteAt s 0 = 94 := h0.resolve_left hb
    have g := genD_get (i := byteAt s 0) (t := .own 3 (.slice (some ⟨y.bt, 0, none⟩) 3 3)) (v := 1) (by omega) (by rw [hb0]; rfl)
    have q3 : RowAt (.slice (some ⟨y.bt, 0, none⟩) 3 3) y.bt 3 := ⟨_, rfl⟩
    have q7 : RowAt (.slice (some ⟨y.b7, 0, none⟩) 3 3) y.b7 3 := ⟨_, rfl⟩
    refine dw_p mixed hC hGL true (fun (_ : Unit) => [(0, .own 2 (pv y.bg 0)), (1, .str s), (2, .bool false), (6, .str []), (7, .int .i64 0), (8, .bool false), (9, .int .i64 0), (10, .own 2 (pv y.bg 0)), (11, .int .i64 0), (12, .int .u8 1)]) (fun _ => [x0, x1] ++ y.H) (.take 0 (.take 1 (.take 2 (.take 3 (.take 4 (.take 5 (.take 6 (.take 7 (.done))))))))) (by kernel_rfl) ?_ ?_
    · repeat' (first
        | (conv => whnf); first
          | refine .w ?_ | (first | refine Ix.v ?_ | refine Sd.v ?_ | refine Sl.v ?_) | apply sc_true | apply sc_false
          | (first | apply sc_lt | apply sc_nlt | apply sc_eq | apply sc_neq | apply sc_nil | apply sc_nnil) <;> (intro hb; try exact dd hb)
          | apply sc_not | (apply sc_i <;> intro hb) | (apply bx_i; intro hbd) | (apply gt_i; assumption; exact rfl)
          | (apply cx_is; first | fail) | (apply ab_i; intro bl) | (apply rt_is; exact rfl) | exact rt_w
          | exact True.intro | (apply bc_i; intro C hC) | apply bt_i | apply og_n | (apply og_a; exact rfl))
      all_goals (try conv => whnf)
      erw [← g]
      repeat' (first
        | (conv => whnf); first
          | refine .w ?_ | (first | refine Ix.v ?_ | refine Sd.v ?_ | refine Sl.v ?_) | apply sc_true | apply sc_false
          | (first | apply sc_lt | apply sc_nlt | apply sc_eq | apply sc_neq | apply sc_nil | apply sc_nnil) <;> (intro hb; try exact dd hb)
          | apply sc_not | (apply sc_i <;> intro hb) | (apply bx_i; intro hbd) | (apply gt_i; assumption; exact rfl)
          | (apply cx_is; first | fail) | (apply ab_i; intro bl) | (apply rt_is; exact rfl) | exact rt_w
          | exact True.intro | (apply bc_i; intro C hC) | apply bt_i | apply og_n | (apply og_a; exact rfl))
      all_goals (try conv => whnf)
      exact ⟨(), ⟨rfl, rfl, rfl, rfl, rfl, rfl, rfl, rfl, rfl, rfl, trivial⟩, rfl⟩
    intro _
    repeat' (first
      | (conv => whnf); first
        | refine .w ?_ | (first | refine Ix.v ?_ | refine Sd.v ?_ | refine Sl.v ?_) | apply sc_true | apply sc_false
        | (first | apply sc_lt | apply sc_nlt | apply sc_eq | apply sc_neq | apply sc_nil | apply sc_nnil) <;> (intro hb; try exact dd hb)
        | apply sc_not | (apply sc_i <;> intro hb) | (apply bx_i; intro hbd) | (apply gt_i; assumption; exact rfl)
        | (apply cx_is; first | fail) | (apply ab_i; intro bl) | (apply rt_is; exact rfl) | exact rt_w
        | exact True.intro | (apply bc_i; intro C hC) | apply bt_i | apply og_n | (apply og_a; exact rfl))
    all_goals (try conv => whnf)
    refine gt_i rfl rfl ?_
    repeat' (first
      | (conv => whnf); first
        | refine .w ?_ | (first | refine Ix.v ?_ | refine Sd.v ?_ | refine Sl.v ?_) | apply sc_true | apply sc_false
        | (first | apply sc_lt | apply sc_nlt | apply sc_eq | apply sc_neq | apply sc_nil | apply sc_nnil) <;> (intro hb; try exact dd hb)
        | apply sc_not | (apply sc_i <;> intro hb) | (apply bx_i; intro hbd) | (apply gt_i; assumption; exact rfl)
        | (apply cx_is; first | fail) | (apply ab_i; intro bl) | (apply rt_is; exact rfl) | exact rt_w
        | exact True.intro | (apply bc_i; intro C hC) | apply bt_i | apply og_n | (apply og_a; exact rfl))
    all_goals (try conv => whnf)
    · apply rt_do
      · have hb : s.length - 1 = 0 := by rw [← List.length_drop]; exact hb
        unfold lkP; rw [if_pos (by omega)]
      · exact List.Sublist.refl _
    · have hb : s.length - 1 ≠ 0 := by rw [← List.length_drop]; exact hb
      have hb1 : byteAt (s.drop 1) 0 = byteAt s 1 := by simp [byteAt]
      have hl2 : 2 ≤ s.length := by omega
      have hq := byteAt_lt s 1
      rcases (show byteAt s 1 = 94 ∨ byteAt s 1 = 110 ∨ byteAt s 1 = 39 ∨ (byteAt s 1 ≠ 94 ∧ byteAt s 1 ≠ 110 ∧ byteAt s 1 ≠ 39) by omega) with hk | hk | hk | ⟨k1, k2, k3⟩
      · have g2 := genD_get (i := byteAt (s.drop 1) 0) (t := .own 3 (.slice (some ⟨y.bt, 0, none⟩) 3 3)) (v := 1) (by rw [hb1]; exact hq) (by rw [hb1, hk]; rfl)
        refine dw_p mixed hC hGL true (fun (_ : Unit) => [(0, .own 2 (pv y.bg 0)), (1, .str (s.drop 1)), (2, .bool false), (6, .str []), (7, .int .i64 0), (8, .bool false), (9, .int .i64 0), (10, .own 4 (pv y.n1 0)), (11, .int .i64 1), (12, .int .u8 1)]) (fun _ => [x0, x1] ++ y.H) (.take 0 (.take 1 (.take 2 (.take 3 (.take 4 (.take 5 (.take 6 (.take 7 (.done))))))))) (by kernel_rfl) ?_ ?_
        · repeat' (first
            | (conv => whnf); first
              | refine .w ?_ | (first | refine Ix.v ?_ | refine Sd.v ?_ | refine Sl.v ?_) | apply sc_true | apply sc_false
              | (first | apply sc_lt | apply sc_nlt | apply sc_eq | apply sc_neq | apply sc_nil | apply sc_nnil) <;> (intro hb; try exact dd hb)
              | apply sc_not | (apply sc_i <;> intro hb) | (apply bx_i; intro hbd) | (apply gt_i; assumption; exact rfl)
              | (apply cx_is; first | fail) | (apply ab_i; intro bl) | (apply rt_is; exact rfl) | exact rt_w
              | exact True.intro | (apply bc_i; intro C hC) | apply bt_i | apply og_n | (apply og_a; exact rfl))
          all_goals (try conv => whnf)
          erw [← g2]
          repeat' (first
            | (conv => whnf); first
              | refine .w ?_ | (first | refine Ix.v ?_ | refine Sd.v ?_ | refine Sl.v ?_) | apply sc_true | apply sc_false
              | (first | apply sc_lt | apply sc_nlt | apply sc_eq | apply sc_neq | apply sc_nil | apply sc_nnil) <;> (intro hb; try exact dd hb)
              | apply sc_not | (apply sc_i <;> intro hb) | (apply bx_i; intro hbd) | (apply gt_i; assumption; exact rfl)
              | (apply cx_is; first | fail) | (apply ab_i; intro bl) | (apply rt_is; exact rfl) | exact rt_w
              | exact True.intro | (apply bc_i; intro C hC) | apply bt_i | apply og_n | (apply og_a; exact rfl))
          all_goals (try conv => whnf)
          exact ⟨(), ⟨rfl, rfl, rfl, rfl, rfl, rfl, rfl, rfl, rfl, rfl, trivial⟩, rfl⟩
        intro _
        repeat' (first
          | (conv => whnf); first
            | refine .w ?_ | (first | refine Ix.v ?_ | refine Sd.v ?_ | refine Sl.v ?_) | apply sc_true | apply sc_false
            | (first | apply sc_lt | apply sc_nlt | apply sc_eq | apply sc_neq | apply sc_nil | apply sc_nnil) <;> (intro hb; try exact dd hb)
            | apply sc_not | (apply sc_i <;> intro hb) | (apply bx_i; intro hbd) | (apply gt_i; assumption; exact rfl)
            | (apply cx_is; first | fail) | (apply ab_i; intro bl) | (apply rt_is; exact rfl) | exact rt_w
            | exact True.intro | (apply bc_i; intro C hC) | apply bt_i | apply og_n | (apply og_a; exact rfl))
        all_goals (try conv => whnf)
        refine gt_i rfl rfl ?_
        repeat' (first
          | (conv => whnf); first
            | refine .w ?_ | (first | refine Ix.v ?_ | refine Sd.v ?_ | refine Sl.v ?_) | apply sc_true | apply sc_false
            | (first | apply sc_lt | apply sc_nlt | apply sc_eq | apply sc_neq | apply sc_nil | apply sc_nnil) <;> (intro hb; try exact dd hb)
            | apply sc_not | (apply sc_i <;> intro hb) | (apply bx_i; intro hbd) | (apply gt_i; assumption; exact rfl)
            | (apply cx_is; first | fail) | (apply ab_i; intro bl) | (apply rt_is; exact rfl) | exact rt_w
            | exact True.intro | (apply bc_i; intro C hC) | apply bt_i | apply og_n | (apply og_a; exact rfl))
        all_goals (try conv => whnf)
        all_goals (apply rt_do; (unfold lkP; rw [if_neg (by omega), if_pos hk]; rfl); exact List.Sublist.refl _)
      · have g2 := genD_get (i := byteAt (s.drop 1) 0) (t := .own 3 (.slice (some ⟨y.bt, 0, none⟩) 3 3)) (v := 2) (by rw [hb1]; exact hq) (by rw [hb1, hk]; rfl)
        refine dw_p mixed hC hGL true (fun (_ : Unit) => [(0, .own 2 (pv y.bg 0)), (1, .str (s.drop 1)), (2, .bool false), (6, .str []), (7, .int .i64 0), (8, .bool false), (9, .int .i64 0), (10, .own 4 (pv y.n1 0)), (11, .int .i64 1), (12, .int .u8 2)]) (fun _ => [x0, x1] ++ y.H) (.take 0 (.take 1 (.take 2 (.take 3 (.take 4 (.take 5 (.take 6 (.take 7 (.done))))))))) (by kernel_rfl) ?_ ?_
        · repeat' (first
            | (conv => whnf); first
              | refine .w ?_ | (first | refine Ix.v ?_ | refine Sd.v ?_ | refine Sl.v ?_) | apply sc_true | apply sc_false
              | (first | apply sc_lt | apply sc_nlt | apply sc_eq | apply sc_neq | apply sc_nil | apply sc_nnil) <;> (intro hb; try exact dd hb)
              | apply sc_not | (apply sc_i <;> intro hb) | (apply bx_i; intro hbd) | (apply gt_i; assumption; exact rfl)
              | (apply cx_is; first | fail) | (apply ab_i; intro bl) | (apply rt_is; exact rfl) | exact rt_w
              | exact True.intro | (apply bc_i; intro C hC) | apply bt_i | apply og_n | (apply og_a; exact rfl))
          all_goals (try conv => whnf)
          erw [← g2]
          repeat' (first
            | (conv => whnf); first
              | refine .w ?_ | (first | refine Ix.v ?_ | refine Sd.v ?_ | refine Sl.v ?_) | apply sc_true | apply sc_false
              | (first | apply sc_lt | apply sc_nlt | apply sc_eq | apply sc_neq | apply sc_nil | apply sc_nnil) <;> (intro hb; try exact dd hb)
              | apply sc_not | (apply sc_i <;> intro hb) | (apply bx_i; intro hbd) | (apply gt_i; assumption; exact rfl)
              | (apply cx_is; first | fail) | (apply ab_i; intro bl) | (apply rt_is; exact rfl) | exact rt_w
              | exact True.intro | (apply bc_i; intro C hC) | apply bt_i | apply og_n | (apply og_a; exact rfl))
          all_goals (try conv => whnf)
          exact ⟨(), ⟨rfl, rfl, rfl, rfl, rfl, rfl, rfl, rfl, rfl, rfl, trivial⟩, rfl⟩
        intro _
        repeat' (first
          | (conv => whnf); first
            | refine .w ?_ | (first | refine Ix.v ?_ | refine Sd.v ?_ | refine Sl.v ?_) | apply sc_true | apply sc_false
            | (first | apply sc_lt | apply sc_nlt | apply sc_eq | apply sc_neq | apply sc_nil | apply sc_nnil) <;> (intro hb; try exact dd hb)
            | apply sc_not | (apply sc_i <;> intro hb) | (apply bx_i; intro hbd) | (apply gt_i; assumption; exact rfl)
            | (apply cx_is; first | fail) | (apply ab_i; intro bl) | (apply rt_is; exact rfl) | exact rt_w
            | exact True.intro | (apply bc_i; intro C hC) | apply bt_i | apply og_n | (apply og_a; exact rfl))
        all_goals (try conv => whnf)
        refine gt_i rfl rfl ?_
        repeat' (first
          | (conv => whnf); first
            | refine .w ?_ | (first | refine Ix.v ?_ | refine Sd.v ?_ | refine Sl.v ?_) | apply sc_true | apply sc_false
            | (first | apply sc_lt | apply sc_nlt | apply sc_eq | apply sc_neq | apply sc_nil | apply sc_nnil) <;> (intro hb; try exact dd hb)
            | apply sc_not | (apply sc_i <;> intro hb) | (apply bx_i; intro hbd) | (apply gt_i; assumption; exact rfl)
            | (apply cx_is; first | fail) | (apply ab_i; intro bl) | (apply rt_is; exact rfl) | exact rt_w
            | exact True.intro | (apply bc_i; intro C hC) | apply bt_i | apply og_n | (apply og_a; exact rfl))
        all_goals (try conv => whnf)
        all_goals (apply rt_do; (unfold lkP; rw [if_neg (by omega), if_neg (by omega), if_pos hk]; rfl); exact List.Sublist.refl _)
      · have g2 := genD_get (i := byteAt (s.drop 1) 0) (t := .own 3 (.slice (some ⟨y.bt, 0, none⟩) 3 3)) (v := 0) (by rw [hb1]; exact hq) (by rw [hb1, hk]; rfl)
        refine dw_p mixed hC hGL true (fun (_ : Unit) => [(0, .own 2 (pv y.bg 0)), (1, .str (s.drop 1)), (2, .bool false), (6, .str []), (7, .int .i64 0), (8, .bool false), (9, .int .i64 0), (10, .own 4 (pv y.n1 0)), (11, .int .i64 1), (12, .int .u8 0)]) (fun _ => [x0, x1] ++ y.H) (.take 0 (.take 1 (.take 2 (.take 3 (.take 4 (.take 5 (.take 6 (.take 7 (.done))))))))) (by kernel_rfl) ?_ ?_
        · repeat' (first
            | (conv => whnf); first
              | refine .w ?_ | (first | refine Ix.v ?_ | refine Sd.v ?_ | refine Sl.v ?_) | apply sc_true | apply sc_false
              | (first | apply sc_lt | apply sc_nlt | apply sc_eq | apply sc_neq | apply sc_nil | apply sc_nnil) <;> (intro hb; try exact dd hb)
              | apply sc_not | (apply sc_i <;> intro hb) | (apply bx_i; intro hbd) | (apply gt_i; assumption; exact rfl)
              | (apply cx_is; first | fail) | (apply ab_i; intro bl) | (apply rt_is; exact rfl) | exact rt_w
              | exact True.intro | (apply bc_i; intro C hC) | apply bt_i | apply og_n | (apply og_a; exact rfl))
          all_goals (try conv => whnf)
          erw [← g2]
          repeat' (first
            | (conv => whnf); first
              | refine .w ?_ | (first | refine Ix.v ?_ | refine Sd.v ?_ | refine Sl.v ?_) | apply sc_true | apply sc_false
              | (first | apply sc_lt | apply sc_nlt | apply sc_eq | apply sc_neq | apply sc_nil | apply sc_nnil) <;> (intro hb; try exact dd hb)
              | apply sc_not | (apply sc_i <;> intro hb) | (apply bx_i; intro hbd) | (apply gt_i; assumption; exact rfl)
              | (apply cx_is; first | fail) | (apply ab_i; intro bl) | (apply rt_is; exact rfl) | exact rt_w
              | exact True.intro | (apply bc_i; intro C hC) | apply bt_i | apply og_n | (apply og_a; exact rfl))
          all_goals (try conv => whnf)
          exact ⟨(), ⟨rfl, rfl, rfl, rfl, rfl, rfl, rfl, rfl, rfl, rfl, trivial⟩, rfl⟩
        intro _
        repeat' (first
          | (conv => whnf); first
            | refine .w ?_ | (first | refine Ix.v ?_ | refine Sd.v ?_ | refine Sl.v ?_) | apply sc_true | apply sc_false
            | (first | apply sc_lt | apply sc_nlt | apply sc_eq | apply sc_neq | apply sc_nil | apply sc_nnil) <;> (intro hb; try exact dd hb)
            | apply sc_not | (apply sc_i <;> intro hb) | (apply bx_i; intro hbd) | (apply gt_i; assumption; exact rfl)
            | (apply cx_is; first | fail) | (apply ab_i; intro bl) | (apply rt_is; exact rfl) | exact rt_w
            | exact True.intro | (apply bc_i; intro C hC) | apply bt_i | apply og_n | (apply og_a; exact rfl))
        all_goals (try conv => whnf)
        refine gt_i rfl rfl ?_
        repeat' (first
          | (conv => whnf); first
            | refine .w ?_ | (first | refine Ix.v ?_ | refine Sd.v ?_ | refine Sl.v ?_) | apply sc_true | apply sc_false
            | (first | apply sc_lt | apply sc_nlt | apply sc_eq | apply sc_neq | apply sc_nil | apply sc_nnil) <;> (intro hb; try exact dd hb)
            | apply sc_not | (apply sc_i <;> intro hb) | (apply bx_i; intro hbd) | (apply gt_i; assumption; exact rfl)
            | (apply cx_is; first | fail) | (apply ab_i; intro bl) | (apply rt_is; exact rfl) | exact rt_w
            | exact True.intro | (apply bc_i; intro C hC) | apply bt_i | apply og_n | (apply og_a; exact rfl))
        all_goals (try conv => whnf)
        all_goals (apply rt_do; (unfold lkP; rw [if_neg (by omega), if_neg (by omega), if_neg (by omega), if_pos hk]; rfl); exact List.Sublist.refl _)
      · have g2 := genD_get (i := byteAt (s.drop 1) 0) (t := .own 3 (.slice (some ⟨y.bt, 0, none⟩) 3 3)) (v := 3) (by rw [hb1]; exact hq) (by rw [hb1]; unfold m2; rw [if_neg k3, if_neg k1, if_neg k2]; rfl)
        refine dw_p mixed hC hGL true (fun (_ : Unit) => [(0, .own 2 (pv y.bg 0)), (1, .str (s.drop 1)), (2, .bool false), (6, .str []), (7, .int .i64 0), (8, .bool false), (9, .int .i64 0), (10, .own 4 (pv y.n1 0)), (11, .int .i64 1), (12, .int .u8 3)]) (fun _ => [x0, x1] ++ y.H) (.take 0 (.take 1 (.take 2 (.take 3 (.take 4 (.take 5 (.take 6 (.take 7 (.done))))))))) (by kernel_rfl) ?_ ?_
        · repeat' (first
            | (conv => whnf); first
              | refine .w ?_ | (first | refine Ix.v ?_ | refine Sd.v ?_ | refine Sl.v ?_) | apply sc_true | apply sc_false
              | (first | apply sc_lt | apply sc_nlt | apply sc_eq | apply sc_neq | apply sc_nil | apply sc_nnil) <;> (intro hb; try exact dd hb)
              | apply sc_not | (apply sc_i <;> intro hb) | (apply bx_i; intro hbd) | (apply gt_i; assumption; exact rfl)
              | (apply cx_is; first | fail) | (apply ab_i; intro bl) | (apply rt_is; exact rfl) | exact rt_w
              | exact True.intro | (apply bc_i; intro C hC) | apply bt_i | apply og_n | (apply og_a; exact rfl))
          all_goals (try conv => whnf)
          erw [← g2]
          repeat' (first
            | (conv => whnf); first
              | refine .w ?_ | (first | refine Ix.v ?_ | refine Sd.v ?_ | refine Sl.v ?_) | apply sc_true | apply sc_false
              | (first | apply sc_lt | apply sc_nlt | apply sc_eq | apply sc_neq | apply sc_nil | apply sc_nnil) <;> (intro hb; try exact dd hb)
              | apply sc_not | (apply sc_i <;> intro hb) | (apply bx_i; intro hbd) | (apply gt_i; assumption; exact rfl)
              | (apply cx_is; first | fail) | (apply ab_i; intro bl) | (apply rt_is; exact rfl) | exact rt_w
              | exact True.intro | (apply bc_i; intro C hC) | apply bt_i | apply og_n | (apply og_a; exact rfl))
          all_goals (try conv => whnf)
          exact ⟨(), ⟨rfl, rfl, rfl, rfl, rfl, rfl, rfl, rfl, rfl, rfl, trivial⟩, rfl⟩
        intro _
        repeat' (first
          | (conv => whnf); first
            | refine .w ?_ | (first | refine Ix.v ?_ | refine Sd.v ?_ | refine Sl.v ?_) | apply sc_true | apply sc_false
            | (first | apply sc_lt | apply sc_nlt | apply sc_eq | apply sc_neq | apply sc_nil | apply sc_nnil) <;> (intro hb; try exact dd hb)
            | apply sc_not | (apply sc_i <;> intro hb) | (apply bx_i; intro hbd) | (apply gt_i; assumption; exact rfl)
            | (apply cx_is; first | fail) | (apply ab_i; intro bl) | (apply rt_is; exact rfl) | exact rt_w
            | exact True.intro | (apply bc_i; intro C hC) | apply bt_i | apply og_n | (apply og_a; exact rfl))
        all_goals (try conv => whnf)
        · apply rt_do
          · unfold lkP; rw [if_neg (by omega), if_neg k1, if_neg k2, if_neg k3]
          · exact List.Sublist.refl _
end Go.Proofs.YtkmpcdlmeiophaaGreatDoor
namespace Go.Proofs.YtkmpcdlmeiophaaGreatDoor
open Go Go.RowKit
theorem take_more {s : List UInt8} {i last : Nat} (h1 : last ≤ i) (h2 : i < s.length) : (s.drop last).take (i + 1 - last) = (s.drop last).take (i - last) ++ (s.drop i).take 1 := by
  rw [show i + 1 - last = (i - last) + 1 by omega, List.take_add, List.drop_drop, show last + (i - last) = i by omega]
theorem lk_cases {s : List UInt8} {i : Nat} (hi : i < s.length) : (∃ e : UInt8, lkP (s.drop i) = ([e], 2, true) ∧ i + 1 < s.length ∧ ((byteAt s (i + 1) = 94 ∧ e = 94) ∨ (byteAt s (i + 1) = 110 ∧ e = 10) ∨ (byteAt s (i + 1) = 39 ∧ e = 34))) ∨
    (lkP (s.drop i) = ([], 0, false) ∧ (s.length ≤ i + 1 ∨ (byteAt s (i + 1) ≠ 94 ∧ byteAt s (i + 1) ≠ 110 ∧ byteAt s (i + 1) ≠ 39))) := by
  have h1 : byteAt (s.drop i) 1 = byteAt s (i + 1) := by simp [byteAt]
  unfold lkP
  rw [h1, List.length_drop]
  by_cases h2 : s.length ≤ i + 1
  · right; exact ⟨by rw [if_pos (by omega)], .inl h2⟩
  · rw [if_neg (by omega)]
    by_cases h3 : byteAt s (i + 1) = 94
    · left; exact ⟨94, by rw [if_pos h3], by omega, .inl ⟨h3, rfl⟩⟩
    · rw [if_neg h3]
      by_cases h4 : byteAt s (i + 1) = 110
      · left; exact ⟨10, by rw [if_pos h4], by omega, .inr (.inl ⟨h4, rfl⟩)⟩
      · rw [if_neg h4]
        by_cases h5 : byteAt s (i + 1) = 39
        · left; exact ⟨34, by rw [if_pos h5], by omega, .inr (.inr ⟨h5, rfl⟩)⟩
        · rw [if_neg h5]
          right; exact ⟨rfl, .inr ⟨h3, h4, h5⟩⟩
theorem byteAt_drop0 {s : List UInt8} {i : Nat} : byteAt (s.drop i) 0 = byteAt s i := by simp [byteAt]
set_option maxRecDepth 20000
set_option maxHeartbeats 4000000
set_option linter.unusedSimpArgs false
set_option linter.unusedVariables false
attribute [local irreducible] AWp AOps SrcOK OrOk GloAll FnSpec
attribute [local irreducible] mapD decS
structure WrX where
  i : Nat
  last : Nat
  va : Option Addr
  vk : Nat
  vc : Nat
  b : List UInt8
abbrev wrI (bg bw : Nat) (s : List UInt8) (x : WrX) : Env := [(0, .own 2 (pv bg 0)), (2, .str s), (6, .int .i64 (x.b.length : Nat)), (7, .raw .nilIface), (8, .iface 226 (.raw (pv bw 0))), (9, .int .i64 (x.last : Nat)), (11, .bool false), (12, .int .i64 (x.i : Nat))]
abbrev wrJ (x0 x1 : HEnt) (y : DecY) (bw : Nat) (x : WrX) : Heap := [x0, x1] ++ y.H ++ [rowR (.slice x.va x.vk x.vc) x.b, wrC bw (.slice x.va x.vk x.vc)]
abbrev wrInv (s : List UInt8) (x : WrX) : Prop := x.i ≤ s.length + 1 ∧ x.last ≤ s.length ∧ x.last ≤ x.i ∧ x.b.length ≤ x.last ∧ x.b ++ (s.drop x.last).take (x.i - x.last) ++ decS (s.drop x.i) = decS s
theorem gr_write {G : Glo} (x0 x1 : HEnt) (y : DecY) (bw : Nat) (va : Option Addr) (vk vc : Nat) (s : List UInt8) (hl : s.length ≤ 1000000) :
    FnSpec Tryz.prog G 156 [.raw (pv y.bg 0), .iface 226 (.raw (pv bw 0)), .str s] ([x0, x1] ++ y.H ++ [rowR (.slice va vk vc) [], wrC bw (.slice va vk vc)])
      (fun r H => ∃ va vk vc n, r = .ret (.tuple [.int .i64 n, .raw .nilIface]) ∧ H = [x0, x1] ++ y.H ++ [rowR (.slice va vk vc) (decS s), wrC bw (.slice va vk vc)]) := by
  have hGL : GloAll G [] := gloAll_nil
  have e1 := get_sw (G := G) (pv bw 0)
  refine fn_xp 2 Tryz.func156 Tryz.call156 rfl rfl rfl rfl hGL rfl ?_
  intro C hC
  repeat' (first
    | (conv => whnf); first
      | refine .w ?_ | (first | refine Ix.v ?_ | refine Sd.v ?_ | refine Sl.v ?_) | apply sc_true | apply sc_false
      | (first | apply sc_lt | apply sc_nlt | apply sc_eq | apply sc_neq | apply sc_nil | apply sc_nnil) <;> (intro hb; try exact dd hb)
      | apply sc_not | (apply sc_i <;> intro hb) | (apply bx_i; intro hbd) | (apply gt_i; assumption; exact rfl)
      | (apply cx_is; first | exact e1) | (apply ab_i; intro bl) | (apply rt_is; exact rfl) | exact rt_w
      | exact True.intro | (apply bc_i; intro C hC) | apply bt_i | apply og_n | (apply og_a; exact rfl))
  all_goals (try conv => whnf)
  refine lp hC hGL (wrI y.bg bw s) (wrJ x0 x1 y bw) (wrInv s) (fun x => s.length + 1 - x.i) (WrX.mk 0 0 va vk vc []) ?_ env_w rfl ?_
  · refine ⟨Nat.zero_le _, Nat.zero_le _, Nat.le_refl _, Nat.le_refl _, ?_⟩
    simp
  · rintro ⟨i, last, va, vk, vc, b⟩ ⟨h1, h2, h3, h4, h5⟩
    have h1 : i ≤ s.length + 1 := h1
    have h2 : last ≤ s.length := h2
    have h3 : last ≤ i := h3
    have h4 : b.length ≤ last := h4
    have h5 : b ++ (s.drop last).take (i - last) ++ decS (s.drop i) = decS s := h5
    rcases (show i < s.length ∨ i = s.length ∨ i = s.length + 1 by omega) with hi | rfl | rfl
    · have g0 := byteAt_lt s i
      have q3 : RowAt (.slice (some ⟨y.bt, 0, none⟩) 3 3) y.bt 3 := ⟨_, rfl⟩
      rcases (show byteAt s i = 94 ∨ byteAt s i = 110 ∨ byteAt s i = 39 ∨ (byteAt s i ≠ 94 ∧ byteAt s i ≠ 110 ∧ byteAt s i ≠ 39) by omega) with hk | hk | hk | ⟨k1, k2, k3⟩
      · have g := genD_get (i := byteAt s i) (t := .own 3 (.slice (some ⟨y.bt, 0, none⟩) 3 3)) (v := 1) g0 (by rw [hk]; rfl)
        repeat' (first
          | (conv => whnf); first
            | refine .w ?_ | (first | refine Ix.v ?_ | refine Sd.v ?_ | refine Sl.v ?_) | apply sc_true | apply sc_false
            | (first | apply sc_lt | apply sc_nlt | apply sc_eq | apply sc_neq | apply sc_nil | apply sc_nnil) <;> (intro hb; try exact dd hb)
            | apply sc_not | (apply sc_i <;> intro hb) | (apply bx_i; intro hbd) | (apply gt_i; assumption; exact rfl)
            | (apply cx_is; first | fail) | (apply ab_i; intro bl) | (apply rt_is; exact rfl) | exact rt_w
            | exact True.intro | (apply bc_i; intro C hC) | apply bt_i | apply og_n | (apply og_a; exact rfl))
        all_goals (try conv => whnf)
        refine dw_p mixed hC hGL true (fun (_ : Unit) => wrI y.bg bw s ⟨i, last, va, vk, vc, b⟩ ++ [(13, .int .i64 1)]) (fun _ => wrJ x0 x1 y bw ⟨i, last, va, vk, vc, b⟩) (.take 0 (.take 1 (.take 2 (.take 3 (.take 4 (.take 5 (.take 6 (.take 7 (.take 8 (.take 9 (.done))))))))))) (by kernel_rfl) ?_ ?_
        · repeat' (first
            | (conv => whnf); first
              | refine .w ?_ | (first | refine Ix.v ?_ | refine Sd.v ?_ | refine Sl.v ?_) | apply sc_true | apply sc_false
              | (first | apply sc_lt | apply sc_nlt | apply sc_eq | apply sc_neq | apply sc_nil | apply sc_nnil) <;> (intro hb; try exact dd hb)
              | apply sc_not | (apply sc_i <;> intro hb) | (apply bx_i; intro hbd) | (apply gt_i; assumption; exact rfl)
              | (apply cx_is; first | fail) | (apply ab_i; intro bl) | (apply rt_is; exact rfl) | exact rt_w
              | exact True.intro | (apply bc_i; intro C hC) | apply bt_i | apply og_n | (apply og_a; exact rfl))
          all_goals (try conv => whnf)
          erw [← g]
          repeat' (first
            | (conv => whnf); first
              | refine .w ?_ | (first | refine Ix.v ?_ | refine Sd.v ?_ | refine Sl.v ?_) | apply sc_true | apply sc_false
              | (first | apply sc_lt | apply sc_nlt | apply sc_eq | apply sc_neq | apply sc_nil | apply sc_nnil) <;> (intro hb; try exact dd hb)
              | apply sc_not | (apply sc_i <;> intro hb) | (apply bx_i; intro hbd) | (apply gt_i; assumption; exact rfl)
              | (apply cx_is; first | fail) | (apply ab_i; intro bl) | (apply rt_is; exact rfl) | exact rt_w
              | exact True.intro | (apply bc_i; intro C hC) | apply bt_i | apply og_n | (apply og_a; exact rfl))
          all_goals (try conv => whnf)
          exact ⟨(), ⟨rfl, rfl, rfl, rfl, rfl, rfl, rfl, rfl, rfl, trivial⟩, rfl⟩
        intro _
        repeat' (first
          | (conv => whnf); first
            | refine .w ?_ | (first | refine Ix.v ?_ | refine Sd.v ?_ | refine Sl.v ?_) | apply sc_true | apply sc_false
            | (first | apply sc_lt | apply sc_nlt | apply sc_eq | apply sc_neq | apply sc_nil | apply sc_nnil) <;> (intro hb; try exact dd hb)
            | apply sc_not | (apply sc_i <;> intro hb) | (apply bx_i; intro hbd) | (apply gt_i; assumption; exact rfl)
            | (apply cx_is; first | fail) | (apply ab_i; intro bl) | (apply rt_is; exact rfl) | exact rt_w
            | exact True.intro | (apply bc_i; intro C hC) | apply bt_i | apply og_n | (apply og_a; exact rfl))
        all_goals (try conv => whnf)
        refine gt_i rfl rfl ?_
        repeat' (first
          | (conv => whnf); first
            | refine .w ?_ | (first | refine Ix.v ?_ | refine Sd.v ?_ | refine Sl.v ?_) | apply sc_true | apply sc_false
            | (first | apply sc_lt | apply sc_nlt | apply sc_eq | apply sc_neq | apply sc_nil | apply sc_nnil) <;> (intro hb; try exact dd hb)
            | apply sc_not | (apply sc_i <;> intro hb) | (apply bx_i; intro hbd) | (apply gt_i; assumption; exact rfl)
            | (apply cx_is; first | fail) | (apply ab_i; intro bl) | (apply rt_is; exact rfl) | exact rt_w
            | exact True.intro | (apply bc_i; intro C hC) | apply bt_i | apply og_n | (apply og_a; exact rfl))
        all_goals (try conv => whnf)
        have e2 := lookup_dec (G := G) x0 x1 y (s.drop i) (by rw [List.length_drop]; omega) (.inr (byteAt_drop0.trans hk))
        rcases lk_cases hi with ⟨e, ek, hi2, he⟩ | ⟨ek, hn⟩
        · rw [ek] at e2
          refine ⟨_, fn_frame [_, _] e2, ?_, ?_⟩
          · rintro v H ⟨H1, ⟨e, rfl⟩, rfl⟩
            cases e
            repeat' (first
              | (conv => whnf); first
                | refine .w ?_ | (first | refine Ix.v ?_ | refine Sd.v ?_ | refine Sl.v ?_) | apply sc_true | apply sc_false
                | (first | apply sc_lt | apply sc_nlt | apply sc_eq | apply sc_neq | apply sc_nil | apply sc_nnil) <;> (intro hb; try exact dd hb)
                | apply sc_not | (apply sc_i <;> intro hb) | (apply bx_i; intro hbd) | (apply gt_i; assumption; exact rfl)
                | (apply cx_is; first | fail) | (apply ab_i; intro bl) | (apply rt_is; exact rfl) | exact rt_w
                | exact True.intro | (apply bc_i; intro C hC) | apply bt_i | apply og_n | (apply og_a; exact rfl))
            all_goals (try conv => whnf)
            have w1 : ((s.take i).drop last).length = i - last := by rw [List.length_drop, List.length_take, Nat.min_eq_left (by omega)]
            refine dw_p mixed hC hGL false (fun (_ : Option Addr × Nat × Nat) => [(0, .own 2 (pv y.bg 0)), (2, .str s), (6, .int .i64 (b.length : Nat)), (7, .raw .nilIface), (8, .iface 226 (.raw (pv bw 0))), (9, .int .i64 (last : Nat)), (10, .int .i64 (((s.take i).drop last).length : Nat)), (11, .bool (eqB 2 0)), (12, .int .i64 (i : Nat)), (14, .str [e]), (15, .int .i64 2)]) (fun z => [x0, x1] ++ y.H ++ [rowR (.slice z.1 z.2.1 z.2.2) (b ++ (s.take i).drop last), wrC bw (.slice z.1 z.2.1 z.2.2)]) (.take 0 (.take 1 (.take 2 (.take 3 (.take 4 (.br 5 (.br 6 (.take 7 (.br 8 (.take 9 (.take 10 (.take 11 (.take 12 (.take 13 (.done)))))) (.nil))) (.nil)) (.nil))))))) (by kernel_rfl) ?_ ?_
            · repeat' (first
                | (conv => whnf); first
                  | refine .w ?_ | (first | refine Ix.v ?_ | refine Sd.v ?_ | refine Sl.v ?_) | apply sc_true | apply sc_false
                  | (first | apply sc_lt | apply sc_nlt | apply sc_eq | apply sc_neq | apply sc_nil | apply sc_nnil) <;> (intro hb; try exact dd hb)
                  | apply sc_not | (apply sc_i <;> intro hb) | (apply bx_i; intro hbd) | (apply gt_i; assumption; exact rfl)
                  | (apply cx_is; first | fail) | (apply ab_i; intro bl) | (apply rt_is; exact rfl) | exact rt_w
                  | exact True.intro | (apply bc_i; intro C hC) | apply bt_i | apply og_n | (apply og_a; exact rfl))
              all_goals (try conv => whnf)
              refine op1_run hC hGL (rv_nilCheck_meth rfl (n_asw bw)) rfl rfl ?_
              repeat' (first
                | (conv => whnf); first
                  | refine .w ?_ | (first | refine Ix.v ?_ | refine Sd.v ?_ | refine Sl.v ?_) | apply sc_true | apply sc_false
                  | (first | apply sc_lt | apply sc_nlt | apply sc_eq | apply sc_neq | apply sc_nil | apply sc_nnil) <;> (intro hb; try exact dd hb)
                  | apply sc_not | (apply sc_i <;> intro hb) | (apply bx_i; intro hbd) | (apply gt_i; assumption; exact rfl)
                  | (apply cx_is; first | fail) | (apply ab_i; intro bl) | (apply rt_is; exact rfl) | exact rt_w
                  | exact True.intro | (apply bc_i; intro C hC) | apply bt_i | apply og_n | (apply og_a; exact rfl))
              all_goals (try conv => whnf)
              refine iv 167 _ (m_asw _) ⟨_, asw_write (G := G) x0 x1 _ _ _ _ _ _ _ bw (.slice va vk vc) b ((s.take i).drop last) (by omega), ?_, ?_⟩
              · rintro v H ⟨va2, vk2, vc2, e, rfl⟩
                cases e
                repeat' (first
                  | (conv => whnf); first
                    | refine .w ?_ | (first | refine Ix.v ?_ | refine Sd.v ?_ | refine Sl.v ?_) | apply sc_true | apply sc_false
                    | (first | apply sc_lt | apply sc_nlt | apply sc_eq | apply sc_neq | apply sc_nil | apply sc_nnil) <;> (intro hb; try exact dd hb)
                    | apply sc_not | (apply sc_i <;> intro hb) | (apply bx_i; intro hbd) | (apply gt_i; assumption; exact rfl)
                    | (apply cx_is; first | fail) | (apply ab_i; intro bl) | (apply rt_is; exact rfl) | exact rt_w
                    | exact True.intro | (apply bc_i; intro C hC) | apply bt_i | apply og_n | (apply og_a; exact rfl))
                all_goals (try conv => whnf)
                exact ⟨(va2, vk2, vc2), ⟨rfl, rfl, rfl, rfl, rfl, rfl, rfl, rfl, rfl, rfl, rfl, trivial⟩, rfl⟩
              · rintro v H ⟨va2, vk2, vc2, e, rfl⟩
                cases e
            rintro ⟨va2, vk2, vc2⟩
            repeat' (first
              | (conv => whnf); first
                | refine .w ?_ | (first | refine Ix.v ?_ | refine Sd.v ?_ | refine Sl.v ?_) | apply sc_true | apply sc_false
                | (first | apply sc_lt | apply sc_nlt | apply sc_eq | apply sc_neq | apply sc_nil | apply sc_nnil) <;> (intro hb; try exact dd hb)
                | apply sc_not | (apply sc_i <;> intro hb) | (apply bx_i; intro hbd) | (apply gt_i; assumption; exact rfl)
                | (apply cx_is; first | fail) | (apply ab_i; intro bl) | (apply rt_is; exact rfl) | exact rt_w
                | exact True.intro | (apply bc_i; intro C hC) | apply bt_i | apply og_n | (apply og_a; exact rfl))
            all_goals (try conv => whnf)
            refine iv 167 _ (m_asw _) ⟨_, asw_write (G := G) x0 x1 _ _ _ _ _ _ _ bw (.slice va2 vk2 vc2) (b ++ (s.take i).drop last) [e] (by rw [List.length_append, w1]; show b.length + (i - last) + 1 ≤ _; omega), ?_, ?_⟩
            · rintro v H ⟨va3, vk3, vc3, e, rfl⟩
              cases e
              repeat' (first
                | (conv => whnf); first
                  | refine .w ?_ | (first | refine Ix.v ?_ | refine Sd.v ?_ | refine Sl.v ?_) | apply sc_true | apply sc_false
                  | (first | apply sc_lt | apply sc_nlt | apply sc_eq | apply sc_neq | apply sc_nil | apply sc_nnil) <;> (intro hb; try exact dd hb)
                  | apply sc_not | (apply sc_i <;> intro hb) | (apply bx_i; intro hbd) | (apply gt_i; assumption; exact rfl)
                  | (apply cx_is; first | fail) | (apply ab_i; intro bl) | (apply rt_is; exact rfl) | exact rt_w
                  | exact True.intro | (apply bc_i; intro C hC) | apply bt_i | apply og_n | (apply og_a; exact rfl))
              all_goals (try conv => whnf)
              refine nxt ⟨i + 2, i + 2, va3, vk3, vc3, b ++ (s.take i).drop last ++ [e]⟩ ?_ ?_ ⟨rfl, rfl, ?_, rfl, rfl, rfl, ?_, rfl, trivial⟩ rfl
              · refine ⟨(show i + 2 ≤ s.length + 1 by omega), (show i + 2 ≤ s.length by omega), Nat.le_refl _, ?_, ?_⟩
                · show (b ++ (s.take i).drop last ++ [e]).length ≤ i + 2
                  rw [List.length_append, List.length_append, w1, List.length_singleton]; omega
                · show b ++ (s.take i).drop last ++ [e] ++ (s.drop (i + 2)).take (i + 2 - (i + 2)) ++ decS (s.drop (i + 2)) = decS s
                  rw [← h5, dec_two hi2 hk he, Nat.sub_self, List.take_zero, List.drop_take]
                  simp only [List.append_assoc, List.append_nil, List.nil_append, List.cons_append]
              · show s.length + 1 - (i + 2) < s.length + 1 - i; omega
              · show some (AVal.int .i64 _) = some (AVal.int .i64 ((b ++ (s.take i).drop last ++ [e]).length : Nat))
                rw [List.length_append, List.length_append, Int.natCast_add, Int.natCast_add]
              · show some (AVal.bool (eqB 2 0)) = some (AVal.bool false)
                rw [eqB_f.2 (by decide : (2 : Int) ≠ 0)]
            · rintro v H ⟨va3, vk3, vc3, e, rfl⟩
              cases e
          · rintro v H ⟨H1, ⟨e, rfl⟩, rfl⟩
            cases e
        · rw [ek] at e2
          refine ⟨_, fn_frame [_, _] e2, ?_, ?_⟩
          · rintro v H ⟨H1, ⟨e, rfl⟩, rfl⟩
            cases e
            repeat' (first
              | (conv => whnf); first
                | refine .w ?_ | (first | refine Ix.v ?_ | refine Sd.v ?_ | refine Sl.v ?_) | apply sc_true | apply sc_false
                | (first | apply sc_lt | apply sc_nlt | apply sc_eq | apply sc_neq | apply sc_nil | apply sc_nnil) <;> (intro hb; try exact dd hb)
                | apply sc_not | (apply sc_i <;> intro hb) | (apply bx_i; intro hbd) | (apply gt_i; assumption; exact rfl)
                | (apply cx_is; first | fail) | (apply ab_i; intro bl) | (apply rt_is; exact rfl) | exact rt_w
                | exact True.intro | (apply bc_i; intro C hC) | apply bt_i | apply og_n | (apply og_a; exact rfl))
            all_goals (try conv => whnf)
            refine nxt (WrX.mk (i + 1) last va vk vc b) ?_ ?_ env_w rfl
            · refine ⟨(show i + 1 ≤ s.length + 1 by omega), h2, (show last ≤ i + 1 by omega), h4, ?_⟩
              show b ++ (s.drop last).take (i + 1 - last) ++ decS (s.drop (i + 1)) = decS s
              rw [← h5, take_more h3 hi, dec_one hi (.inr hn)]
              simp only [List.append_assoc]
            · show s.length + 1 - (i + 1) < s.length + 1 - i; omega
          · rintro v H ⟨H1, ⟨e, rfl⟩, rfl⟩
            cases e
      · have g := genD_get (i := byteAt s i) (t := .own 3 (.slice (some ⟨y.bt, 0, none⟩) 3 3)) (v := 2) g0 (by rw [hk]; rfl)
        repeat' (first
          | (conv => whnf); first
            | refine .w ?_ | (first | refine Ix.v ?_ | refine Sd.v ?_ | refine Sl.v ?_) | apply sc_true | apply sc_false
            | (first | apply sc_lt | apply sc_nlt | apply sc_eq | apply sc_neq | apply sc_nil | apply sc_nnil) <;> (intro hb; try exact dd hb)
            | apply sc_not | (apply sc_i <;> intro hb) | (apply bx_i; intro hbd) | (apply gt_i; assumption; exact rfl)
            | (apply cx_is; first | fail) | (apply ab_i; intro bl) | (apply rt_is; exact rfl) | exact rt_w
            | exact True.intro | (apply bc_i; intro C hC) | apply bt_i | apply og_n | (apply og_a; exact rfl))
        all_goals (try conv => whnf)
        refine dw_p mixed hC hGL true (fun (_ : Unit) => wrI y.bg bw s ⟨i, last, va, vk, vc, b⟩ ++ [(13, .int .i64 2)]) (fun _ => wrJ x0 x1 y bw ⟨i, last, va, vk, vc, b⟩) (.take 0 (.take 1 (.take 2 (.take 3 (.take 4 (.take 5 (.take 6 (.take 7 (.take 8 (.take 9 (.done))))))))))) (by kernel_rfl) ?_ ?_
        · repeat' (first
            | (conv => whnf); first
              | refine .w ?_ | (first | refine Ix.v ?_ | refine Sd.v ?_ | refine Sl.v ?_) | apply sc_true | apply sc_false
              | (first | apply sc_lt | apply sc_nlt | apply sc_eq | apply sc_neq | apply sc_nil | apply sc_nnil) <;> (intro hb; try exact dd hb)
              | apply sc_not | (apply sc_i <;> intro hb) | (apply bx_i; intro hbd) | (apply gt_i; assumption; exact rfl)
              | (apply cx_is; first | fail) | (apply ab_i; intro bl) | (apply rt_is; exact rfl) | exact rt_w
              | exact True.intro | (apply bc_i; intro C hC) | apply bt_i | apply og_n | (apply og_a; exact rfl))
          all_goals (try conv => whnf)
          erw [← g]
          repeat' (first
            | (conv => whnf); first
              | refine .w ?_ | (first | refine Ix.v ?_ | refine Sd.v ?_ | refine Sl.v ?_) | apply sc_true | apply sc_false
              | (first | apply sc_lt | apply sc_nlt | apply sc_eq | apply sc_neq | apply sc_nil | apply sc_nnil) <;> (intro hb; try exact dd hb)
              | apply sc_not | (apply sc_i <;> intro hb) | (apply bx_i; intro hbd) | (apply gt_i; assumption; exact rfl)
              | (apply cx_is; first | fail) | (apply ab_i; intro bl) | (apply rt_is; exact rfl) | exact rt_w
              | exact True.intro | (apply bc_i; intro C hC) | apply bt_i | apply og_n | (apply og_a; exact rfl))
          all_goals (try conv => whnf)
          exact ⟨(), ⟨rfl, rfl, rfl, rfl, rfl, rfl, rfl, rfl, rfl, trivial⟩, rfl⟩
        intro _
        repeat' (first
          | (conv => whnf); first
            | refine .w ?_ | (first | refine Ix.v ?_ | refine Sd.v ?_ | refine Sl.v ?_) | apply sc_true | apply sc_false
            | (first | apply sc_lt | apply sc_nlt | apply sc_eq | apply sc_neq | apply sc_nil | apply sc_nnil) <;> (intro hb; try exact dd hb)
            | apply sc_not | (apply sc_i <;> intro hb) | (apply bx_i; intro hbd) | (apply gt_i; assumption; exact rfl)
            | (apply cx_is; first | fail) | (apply ab_i; intro bl) | (apply rt_is; exact rfl) | exact rt_w
            | exact True.intro | (apply bc_i; intro C hC) | apply bt_i | apply og_n | (apply og_a; exact rfl))
        all_goals (try conv => whnf)
        refine gt_i rfl rfl ?_
        repeat' (first
          | (conv => whnf); first
            | refine .w ?_ | (first | refine Ix.v ?_ | refine Sd.v ?_ | refine Sl.v ?_) | apply sc_true | apply sc_false
            | (first | apply sc_lt | apply sc_nlt | apply sc_eq | apply sc_neq | apply sc_nil | apply sc_nnil) <;> (intro hb; try exact dd hb)
            | apply sc_not | (apply sc_i <;> intro hb) | (apply bx_i; intro hbd) | (apply gt_i; assumption; exact rfl)
            | (apply cx_is; first | fail) | (apply ab_i; intro bl) | (apply rt_is; exact rfl) | exact rt_w
            | exact True.intro | (apply bc_i; intro C hC) | apply bt_i | apply og_n | (apply og_a; exact rfl))
        all_goals (try conv => whnf)
        refine nxt (WrX.mk (i + 1) last va vk vc b) ?_ ?_ env_w rfl
        · refine ⟨(show i + 1 ≤ s.length + 1 by omega), h2, (show last ≤ i + 1 by omega), h4, ?_⟩
          show b ++ (s.drop last).take (i + 1 - last) ++ decS (s.drop (i + 1)) = decS s
          rw [← h5, take_more h3 hi, dec_one hi (.inl (by omega))]
          simp only [List.append_assoc]
        · show s.length + 1 - (i + 1) < s.length + 1 - i; omega
      · have g := genD_get (i := byteAt s i) (t := .own 3 (.slice (some ⟨y.bt, 0, none⟩) 3 3)) (v := 0) g0 (by rw [hk]; rfl)
        repeat' (first
          | (conv => whnf); first
            | refine .w ?_ | (first | refine Ix.v ?_ | refine Sd.v ?_ | refine Sl.v ?_) | apply sc_true | apply sc_false
            | (first | apply sc_lt | apply sc_nlt | apply sc_eq | apply sc_neq | apply sc_nil | apply sc_nnil) <;> (intro hb; try exact dd hb)
            | apply sc_not | (apply sc_i <;> intro hb) | (apply bx_i; intro hbd) | (apply gt_i; assumption; exact rfl)
            | (apply cx_is; first | fail) | (apply ab_i; intro bl) | (apply rt_is; exact rfl) | exact rt_w
            | exact True.intro | (apply bc_i; intro C hC) | apply bt_i | apply og_n | (apply og_a; exact rfl))
        all_goals (try conv => whnf)
        refine dw_p mixed hC hGL true (fun (_ : Unit) => wrI y.bg bw s ⟨i, last, va, vk, vc, b⟩ ++ [(13, .int .i64 0)]) (fun _ => wrJ x0 x1 y bw ⟨i, last, va, vk, vc, b⟩) (.take 0 (.take 1 (.take 2 (.take 3 (.take 4 (.take 5 (.take 6 (.take 7 (.take 8 (.take 9 (.done))))))))))) (by kernel_rfl) ?_ ?_
        · repeat' (first
            | (conv => whnf); first
              | refine .w ?_ | (first | refine Ix.v ?_ | refine Sd.v ?_ | refine Sl.v ?_) | apply sc_true | apply sc_false
              | (first | apply sc_lt | apply sc_nlt | apply sc_eq | apply sc_neq | apply sc_nil | apply sc_nnil) <;> (intro hb; try exact dd hb)
              | apply sc_not | (apply sc_i <;> intro hb) | (apply bx_i; intro hbd) | (apply gt_i; assumption; exact rfl)
              | (apply cx_is; first | fail) | (apply ab_i; intro bl) | (apply rt_is; exact rfl) | exact rt_w
              | exact True.intro | (apply bc_i; intro C hC) | apply bt_i | apply og_n | (apply og_a; exact rfl))
          all_goals (try conv => whnf)
          erw [← g]
          repeat' (first
            | (conv => whnf); first
              | refine .w ?_ | (first | refine Ix.v ?_ | refine Sd.v ?_ | refine Sl.v ?_) | apply sc_true | apply sc_false
              | (first | apply sc_lt | apply sc_nlt | apply sc_eq | apply sc_neq | apply sc_nil | apply sc_nnil) <;> (intro hb; try exact dd hb)
              | apply sc_not | (apply sc_i <;> intro hb) | (apply bx_i; intro hbd) | (apply gt_i; assumption; exact rfl)
              | (apply cx_is; first | fail) | (apply ab_i; intro bl) | (apply rt_is; exact rfl) | exact rt_w
              | exact True.intro | (apply bc_i; intro C hC) | apply bt_i | apply og_n | (apply og_a; exact rfl))
          all_goals (try conv => whnf)
          exact ⟨(), ⟨rfl, rfl, rfl, rfl, rfl, rfl, rfl, rfl, rfl, trivial⟩, rfl⟩
        intro _
        repeat' (first
          | (conv => whnf); first
            | refine .w ?_ | (first | refine Ix.v ?_ | refine Sd.v ?_ | refine Sl.v ?_) | apply sc_true | apply sc_false
            | (first | apply sc_lt | apply sc_nlt | apply sc_eq | apply sc_neq | apply sc_nil | apply sc_nnil) <;> (intro hb; try exact dd hb)
            | apply sc_not | (apply sc_i <;> intro hb) | (apply bx_i; intro hbd) | (apply gt_i; assumption; exact rfl)
            | (apply cx_is; first | fail) | (apply ab_i; intro bl) | (apply rt_is; exact rfl) | exact rt_w
            | exact True.intro | (apply bc_i; intro C hC) | apply bt_i | apply og_n | (apply og_a; exact rfl))
        all_goals (try conv => whnf)
        refine gt_i rfl rfl ?_
        repeat' (first
          | (conv => whnf); first
            | refine .w ?_ | (first | refine Ix.v ?_ | refine Sd.v ?_ | refine Sl.v ?_) | apply sc_true | apply sc_false
            | (first | apply sc_lt | apply sc_nlt | apply sc_eq | apply sc_neq | apply sc_nil | apply sc_nnil) <;> (intro hb; try exact dd hb)
            | apply sc_not | (apply sc_i <;> intro hb) | (apply bx_i; intro hbd) | (apply gt_i; assumption; exact rfl)
            | (apply cx_is; first | fail) | (apply ab_i; intro bl) | (apply rt_is; exact rfl) | exact rt_w
            | exact True.intro | (apply bc_i; intro C hC) | apply bt_i | apply og_n | (apply og_a; exact rfl))
        all_goals (try conv => whnf)
        refine nxt (WrX.mk (i + 1) last va vk vc b) ?_ ?_ env_w rfl
        · refine ⟨(show i + 1 ≤ s.length + 1 by omega), h2, (show last ≤ i + 1 by omega), h4, ?_⟩
          show b ++ (s.drop last).take (i + 1 - last) ++ decS (s.drop (i + 1)) = decS s
          rw [← h5, take_more h3 hi, dec_one hi (.inl (by omega))]
          simp only [List.append_assoc]
        · show s.length + 1 - (i + 1) < s.length + 1 - i; omega
      · have g := genD_get (i := byteAt s i) (t := .own 3 (.slice (some ⟨y.bt, 0, none⟩) 3 3)) (v := 3) g0 (by unfold m2; rw [if_neg k3, if_neg k1, if_neg k2]; rfl)
        repeat' (first
          | (conv => whnf); first
            | refine .w ?_ | (first | refine Ix.v ?_ | refine Sd.v ?_ | refine Sl.v ?_) | apply sc_true | apply sc_false
            | (first | apply sc_lt | apply sc_nlt | apply sc_eq | apply sc_neq | apply sc_nil | apply sc_nnil) <;> (intro hb; try exact dd hb)
            | apply sc_not | (apply sc_i <;> intro hb) | (apply bx_i; intro hbd) | (apply gt_i; assumption; exact rfl)
            | (apply cx_is; first | fail) | (apply ab_i; intro bl) | (apply rt_is; exact rfl) | exact rt_w
            | exact True.intro | (apply bc_i; intro C hC) | apply bt_i | apply og_n | (apply og_a; exact rfl))
        all_goals (try conv => whnf)
        refine dw_p mixed hC hGL true (fun (_ : Unit) => wrI y.bg bw s ⟨i, last, va, vk, vc, b⟩ ++ [(13, .int .i64 3)]) (fun _ => wrJ x0 x1 y bw ⟨i, last, va, vk, vc, b⟩) (.take 0 (.take 1 (.take 2 (.take 3 (.take 4 (.take 5 (.take 6 (.take 7 (.take 8 (.take 9 (.done))))))))))) (by kernel_rfl) ?_ ?_
        · repeat' (first
            | (conv => whnf); first
              | refine .w ?_ | (first | refine Ix.v ?_ | refine Sd.v ?_ | refine Sl.v ?_) | apply sc_true | apply sc_false
              | (first | apply sc_lt | apply sc_nlt | apply sc_eq | apply sc_neq | apply sc_nil | apply sc_nnil) <;> (intro hb; try exact dd hb)
              | apply sc_not | (apply sc_i <;> intro hb) | (apply bx_i; intro hbd) | (apply gt_i; assumption; exact rfl)
              | (apply cx_is; first | fail) | (apply ab_i; intro bl) | (apply rt_is; exact rfl) | exact rt_w
              | exact True.intro | (apply bc_i; intro C hC) | apply bt_i | apply og_n | (apply og_a; exact rfl))
          all_goals (try conv => whnf)
          erw [← g]
          repeat' (first
            | (conv => whnf); first
              | refine .w ?_ | (first | refine Ix.v ?_ | refine Sd.v ?_ | refine Sl.v ?_) | apply sc_true | apply sc_false
              | (first | apply sc_lt | apply sc_nlt | apply sc_eq | apply sc_neq | apply sc_nil | apply sc_nnil) <;> (intro hb; try exact dd hb)
              | apply sc_not | (apply sc_i <;> intro hb) | (apply bx_i; intro hbd) | (apply gt_i; assumption; exact rfl)
              | (apply cx_is; first | fail) | (apply ab_i; intro bl) | (apply rt_is; exact rfl) | exact rt_w
              | exact True.intro | (apply bc_i; intro C hC) | apply bt_i | apply og_n | (apply og_a; exact rfl))
          all_goals (try conv => whnf)
          exact ⟨(), ⟨rfl, rfl, rfl, rfl, rfl, rfl, rfl, rfl, rfl, trivial⟩, rfl⟩
        intro _
        repeat' (first
          | (conv => whnf); first
            | refine .w ?_ | (first | refine Ix.v ?_ | refine Sd.v ?_ | refine Sl.v ?_) | apply sc_true | apply sc_false
            | (first | apply sc_lt | apply sc_nlt | apply sc_eq | apply sc_neq | apply sc_nil | apply sc_nnil) <;> (intro hb; try exact dd hb)
            | apply sc_not | (apply sc_i <;> intro hb) | (apply bx_i; intro hbd) | (apply gt_i; assumption; exact rfl)
            | (apply cx_is; first | fail) | (apply ab_i; intro bl) | (apply rt_is; exact rfl) | exact rt_w
            | exact True.intro | (apply bc_i; intro C hC) | apply bt_i | apply og_n | (apply og_a; exact rfl))
        all_goals (try conv => whnf)
        refine nxt (WrX.mk (i + 1) last va vk vc b) ?_ ?_ env_w rfl
        · refine ⟨(show i + 1 ≤ s.length + 1 by omega), h2, (show last ≤ i + 1 by omega), h4, ?_⟩
          show b ++ (s.drop last).take (i + 1 - last) ++ decS (s.drop (i + 1)) = decS s
          rw [← h5, take_more h3 hi, dec_one hi (.inl k1)]
          simp only [List.append_assoc]
        · show s.length + 1 - (i + 1) < s.length + 1 - i; omega
    · have e2 := lookup_dec (G := G) x0 x1 y (s.drop s.length) (by rw [List.length_drop]; omega) (.inl (by rw [List.length_drop]; omega))
      rw [show lkP (s.drop s.length) = ([], 0, false) by unfold lkP; rw [if_pos (by rw [List.length_drop]; omega)]] at e2
      repeat' (first
        | (conv => whnf); first
          | refine .w ?_ | (first | refine Ix.v ?_ | refine Sd.v ?_ | refine Sl.v ?_) | apply sc_true | apply sc_false
          | (first | apply sc_lt | apply sc_nlt | apply sc_eq | apply sc_neq | apply sc_nil | apply sc_nnil) <;> (intro hb; try exact dd hb)
          | apply sc_not | (apply sc_i <;> intro hb) | (apply bx_i; intro hbd) | (apply gt_i; assumption; exact rfl)
          | (apply cx_is; first | fail) | (apply ab_i; intro bl) | (apply rt_is; exact rfl) | exact rt_w
          | exact True.intro | (apply bc_i; intro C hC) | apply bt_i | apply og_n | (apply og_a; exact rfl))
      all_goals (try conv => whnf)
      refine ⟨_, fn_frame [_, _] e2, ?_, ?_⟩
      · rintro v H ⟨H1, ⟨e, rfl⟩, rfl⟩
        cases e
        repeat' (first
          | (conv => whnf); first
            | refine .w ?_ | (first | refine Ix.v ?_ | refine Sd.v ?_ | refine Sl.v ?_) | apply sc_true | apply sc_false
            | (first | apply sc_lt | apply sc_nlt | apply sc_eq | apply sc_neq | apply sc_nil | apply sc_nnil) <;> (intro hb; try exact dd hb)
            | apply sc_not | (apply sc_i <;> intro hb) | (apply bx_i; intro hbd) | (apply gt_i; assumption; exact rfl)
            | (apply cx_is; first | fail) | (apply ab_i; intro bl) | (apply rt_is; exact rfl) | exact rt_w
            | exact True.intro | (apply bc_i; intro C hC) | apply bt_i | apply og_n | (apply og_a; exact rfl))
        all_goals (try conv => whnf)
        refine nxt (WrX.mk (s.length + 1) last va vk vc b) ?_ ?_ env_w rfl
        · refine ⟨Nat.le_refl _, h2, (show last ≤ s.length + 1 by omega), h4, ?_⟩
          show b ++ (s.drop last).take (s.length + 1 - last) ++ decS (s.drop (s.length + 1)) = decS s
          rw [← h5, List.drop_eq_nil_of_le (by omega : s.length ≤ s.length + 1), List.drop_eq_nil_of_le (Nat.le_refl s.length), List.take_of_length_le (by rw [List.length_drop]; omega), List.take_of_length_le (by rw [List.length_drop]; omega)]
        · show s.length + 1 - (s.length + 1) < s.length + 1 - s.length; omega
      · rintro v H ⟨H1, ⟨e, rfl⟩, rfl⟩
        cases e
    · have h6 : b ++ s.drop last = decS s := by
        rw [← h5, List.drop_eq_nil_of_le (by omega : s.length ≤ s.length + 1), List.take_of_length_le (by rw [List.length_drop]; omega), decS_nil, List.append_nil]
      repeat' (first
        | (conv => whnf); first
          | refine .w ?_ | (first | refine Ix.v ?_ | refine Sd.v ?_ | refine Sl.v ?_) | apply sc_true | apply sc_false
          | (first | apply sc_lt | apply sc_nlt | apply sc_eq | apply sc_neq | apply sc_nil | apply sc_nnil) <;> (intro hb; try exact dd hb)
          | apply sc_not | (apply sc_i <;> intro hb) | (apply bx_i; intro hbd) | (apply gt_i; assumption; exact rfl)
          | (apply cx_is; first | fail) | (apply ab_i; intro bl) | (apply rt_is; exact rfl) | exact rt_w
          | exact True.intro | (apply bc_i; intro C hC) | apply bt_i | apply og_n | (apply og_a; exact rfl))
      all_goals (try conv => whnf)
      · refine dw_p mixed hC hGL false (fun (_ : Option Addr × Nat × Nat) => [(6, .int .i64 (b.length : Nat)), (7, .raw .nilIface), (10, .int .i64 ((s.drop last).length : Nat))]) (fun z => [x0, x1] ++ y.H ++ [rowR (.slice z.1 z.2.1 z.2.2) (b ++ s.drop last), wrC bw (.slice z.1 z.2.1 z.2.2)]) (.take 0 (.take 1 (.take 2 (.take 3 (.br 4 (.br 5 (.take 6 (.br 7 (.take 8 (.take 9 (.take 10 (.take 11 (.take 12 (.done)))))) (.nil))) (.nil)) (.nil)))))) (by kernel_rfl) ?_ ?_
        · repeat' (first
            | (conv => whnf); first
              | refine .w ?_ | (first | refine Ix.v ?_ | refine Sd.v ?_ | refine Sl.v ?_) | apply sc_true | apply sc_false
              | (first | apply sc_lt | apply sc_nlt | apply sc_eq | apply sc_neq | apply sc_nil | apply sc_nnil) <;> (intro hb; try exact dd hb)
              | apply sc_not | (apply sc_i <;> intro hb) | (apply bx_i; intro hbd) | (apply gt_i; assumption; exact rfl)
              | (apply cx_is; first | fail) | (apply ab_i; intro bl) | (apply rt_is; exact rfl) | exact rt_w
              | exact True.intro | (apply bc_i; intro C hC) | apply bt_i | apply og_n | (apply og_a; exact rfl))
          all_goals (try conv => whnf)
          refine op1_run hC hGL (rv_nilCheck_meth rfl (n_asw bw)) rfl rfl ?_
          repeat' (first
            | (conv => whnf); first
              | refine .w ?_ | (first | refine Ix.v ?_ | refine Sd.v ?_ | refine Sl.v ?_) | apply sc_true | apply sc_false
              | (first | apply sc_lt | apply sc_nlt | apply sc_eq | apply sc_neq | apply sc_nil | apply sc_nnil) <;> (intro hb; try exact dd hb)
              | apply sc_not | (apply sc_i <;> intro hb) | (apply bx_i; intro hbd) | (apply gt_i; assumption; exact rfl)
              | (apply cx_is; first | fail) | (apply ab_i; intro bl) | (apply rt_is; exact rfl) | exact rt_w
              | exact True.intro | (apply bc_i; intro C hC) | apply bt_i | apply og_n | (apply og_a; exact rfl))
          all_goals (try conv => whnf)
          refine iv 167 _ (m_asw _) ⟨_, asw_write (G := G) x0 x1 _ _ _ _ _ _ _ bw (.slice va vk vc) b (s.drop last) (by rw [List.length_drop]; omega), ?_, ?_⟩
          · rintro v H ⟨va2, vk2, vc2, e, rfl⟩
            cases e
            repeat' (first
              | (conv => whnf); first
                | refine .w ?_ | (first | refine Ix.v ?_ | refine Sd.v ?_ | refine Sl.v ?_) | apply sc_true | apply sc_false
                | (first | apply sc_lt | apply sc_nlt | apply sc_eq | apply sc_neq | apply sc_nil | apply sc_nnil) <;> (intro hb; try exact dd hb)
                | apply sc_not | (apply sc_i <;> intro hb) | (apply bx_i; intro hbd) | (apply gt_i; assumption; exact rfl)
                | (apply cx_is; first | fail) | (apply ab_i; intro bl) | (apply rt_is; exact rfl) | exact rt_w
                | exact True.intro | (apply bc_i; intro C hC) | apply bt_i | apply og_n | (apply og_a; exact rfl))
            all_goals (try conv => whnf)
            exact ⟨(va2, vk2, vc2), ⟨rfl, rfl, rfl, trivial⟩, rfl⟩
          · rintro v H ⟨va2, vk2, vc2, e, rfl⟩
            cases e
        rintro ⟨va2, vk2, vc2⟩
        have h7 := congrArg List.length h6
        rw [List.length_append, List.length_drop] at h7
        have h8 : (s.drop last).length = s.length - last := List.length_drop
        repeat' (first
          | (conv => whnf); first
            | refine .w ?_ | (first | refine Ix.v ?_ | refine Sd.v ?_ | refine Sl.v ?_) | apply sc_true | apply sc_false
            | (first | apply sc_lt | apply sc_nlt | apply sc_eq | apply sc_neq | apply sc_nil | apply sc_nnil) <;> (intro hb; try exact dd hb)
            | apply sc_not | (apply sc_i <;> intro hb) | (apply bx_i; intro hbd) | (apply gt_i; assumption; exact rfl)
            | (apply cx_is; first | fail) | (apply ab_i; intro bl) | (apply rt_is; exact rfl) | exact rt_w
            | exact True.intro | (apply bc_i; intro C hC) | apply bt_i | apply og_n | (apply og_a; exact rfl))
        all_goals (try conv => whnf)
        all_goals exact ⟨_, List.Sublist.refl _, va2, vk2, vc2, _, rfl, by rw [h6]⟩
      · have hb2 : ((last : Nat) : Int) = (s.length : Nat) := by assumption
        have h9 : last = s.length := by omega
        subst h9
        rw [List.drop_eq_nil_of_le (Nat.le_refl _), List.append_nil] at h6
        subst h6
        exact ⟨_, List.Sublist.refl _, va, vk, vc, _, rfl, rfl⟩
end Go.Proofs.YtkmpcdlmeiophaaGreatDoor
namespace Go.Proofs.YtkmpcdlmeiophaaGreatDoor
open Go Go.RowKit
set_option maxRecDepth 20000
set_option maxHeartbeats 4000000
set_option linter.unusedSimpArgs false
set_option linter.unusedVariables false
attribute [local irreducible] AWp AOps SrcOK OrOk GloAll FnSpec
attribute [local irreducible] mapD decS
theorem gr_replace {G : Glo} (x0 x1 : HEnt) (y : DecY) (s : List UInt8) (hl : s.length ≤ 1000000) :
    FnSpec Tryz.prog G 155 [.raw (pv y.bg 0), .str s] ([x0, x1] ++ y.H) (fun r H => r = .ret (.str (decS s)) ∧ H = []) := by
  have hGL : GloAll G [] := gloAll_nil
  refine fn_xp 2 Tryz.func155 Tryz.call155 rfl rfl rfl rfl hGL rfl ?_
  intro C hC
  repeat' (first
    | (conv => whnf); first
      | refine .w ?_ | refine .v ?_ | apply sc_true | apply sc_false
      | (first | apply sc_lt | apply sc_nlt | apply sc_eq | apply sc_neq | apply sc_nil | apply sc_nnil | apply sc_seq | apply sc_nseq) <;> (intro hb; try exact dd hb)
      | apply sc_not | apply sc_or | (apply sc_i <;> intro hb)
      | (apply bx_i; intro hbd) | (apply gt_i; assumption; exact rfl)
      | (apply cx_is; first | fail) | (apply cx_do (i := 0) rfl; first | fail)
      | (apply ab_i; intro bl) | (apply as_i; intro va vk vc hva) | (apply av_i; intro v) | (apply ac_i; intro bl cap hcap)
      | apply bo_l | (apply nx_i <;> intro hnx) | (apply Ia.hit; assumption) | (apply Ia.miss; assumption)
      | (apply rt_is; exact rfl) | exact rt_w | (apply iv; assumption)
      | exact True.intro | (apply bc_i; intro C hC) | apply bt_i | apply og_n | (apply og_a; exact rfl))
  all_goals (try conv => whnf)
  refine op1_makeR (m := s.length) hC hGL rfl rfl (by omega) rfl rfl rfl rfl rfl rfl rfl (fun bs => ?_)
  repeat' (first
    | (conv => whnf); first
      | refine .w ?_ | refine .v ?_ | apply sc_true | apply sc_false
      | (first | apply sc_lt | apply sc_nlt | apply sc_eq | apply sc_neq | apply sc_nil | apply sc_nnil | apply sc_seq | apply sc_nseq) <;> (intro hb; try exact dd hb)
      | apply sc_not | apply sc_or | (apply sc_i <;> intro hb)
      | (apply bx_i; intro hbd) | (apply gt_i; assumption; exact rfl)
      | (apply cx_is; first | fail) | (apply cx_do (i := 0) rfl; first | fail)
      | (apply ab_i; intro bl) | (apply as_i; intro va vk vc hva) | (apply av_i; intro v) | (apply ac_i; intro bl cap hcap)
      | apply bo_l | (apply nx_i <;> intro hnx) | (apply Ia.hit; assumption) | (apply Ia.miss; assumption)
      | (apply rt_is; exact rfl) | exact rt_w | (apply iv; assumption)
      | exact True.intro | (apply bc_i; intro C hC) | apply bt_i | apply og_n | (apply og_a; exact rfl))
  all_goals (try conv => whnf)
  rename Nat => bw
  refine ⟨_, gr_write x0 x1 y bw (some ⟨bs, 0, none⟩) 0 s.length s hl, ?_, ?_⟩
  · rintro v H ⟨va, vk, vc, n, e, rfl⟩
    cases e
    repeat' (first
      | (conv => whnf); first
        | refine .w ?_ | refine .v ?_ | apply sc_true | apply sc_false
        | (first | apply sc_lt | apply sc_nlt | apply sc_eq | apply sc_neq | apply sc_nil | apply sc_nnil | apply sc_seq | apply sc_nseq) <;> (intro hb; try exact dd hb)
        | apply sc_not | apply sc_or | (apply sc_i <;> intro hb)
        | (apply bx_i; intro hbd) | (apply gt_i; assumption; exact rfl)
        | (apply cx_is; first | fail) | (apply cx_do (i := 0) rfl; first | fail)
        | (apply ab_i; intro bl) | (apply as_i; intro va vk vc hva) | (apply av_i; intro v) | (apply ac_i; intro bl cap hcap)
        | apply bo_l | (apply nx_i <;> intro hnx) | (apply Ia.hit; assumption) | (apply Ia.miss; assumption)
        | (apply rt_is; exact rfl) | exact rt_w | (apply iv; assumption)
        | exact True.intro | (apply bc_i; intro C hC) | apply bt_i | apply og_n | (apply og_a; exact rfl))
    all_goals (try conv => whnf)
    rcases va with _ | ⟨b9, _ | o9, _ | d9⟩
    all_goals (conv => whnf)
    all_goals refine op1_run hC hGL (rv_str_rowO (i := 9) rfl rfl rfl rfl rfl rfl rfl rfl) rfl rfl ?_
    all_goals (conv => whnf)
    all_goals (apply rt_is; exact rfl)
  · rintro v H ⟨va, vk, vc, n, e, rfl⟩
    cases e
theorem m_gr (a : AVal) : ∀ R v, Rel R a v → ∀ w, ∃ u, (Go.method (Tryz.prog.types.size + Made.depth) 172 v "Replace").run Tryz.prog w = .ok (155, u) w ∧ Rel R a u := by
  intro R v hv w
  exact ⟨v, by kernel_rfl, hv⟩
theorem replace_dec {G : Glo} (br bl vc : Nat) (s : List UInt8) (hl : s.length ≤ 1000000) :
    FnSpec Tryz.prog G 66 [.raw (pv bl 0), .str s] [decR br vc, .cells bl (some 143) (ca_newC (.slice (some ⟨br, 0, none⟩) 6 vc))] (fun r H => r = .ret (.str (decS s)) ∧ H = []) := by
  have hGL : GloAll G [] := gloAll_nil
  have e1 := do_dec (G := G) br bl vc
  refine fn_xp 1 Tryz.func66 Tryz.call66 rfl rfl rfl rfl hGL rfl ?_
  intro C hC
  repeat' (first
    | (conv => whnf); first
      | refine .w ?_ | refine .v ?_ | apply sc_true | apply sc_false
      | (first | apply sc_lt | apply sc_nlt | apply sc_eq | apply sc_neq | apply sc_nil | apply sc_nnil | apply sc_seq | apply sc_nseq) <;> (intro hb; try exact dd hb)
      | apply sc_not | apply sc_or | (apply sc_i <;> intro hb)
      | (apply bx_i; intro hbd) | (apply gt_i; assumption; exact rfl)
      | (apply cx_is; first | fail) | (apply cx_do (i := 0) rfl; first | fail)
      | (apply ab_i; intro bl) | (apply as_i; intro va vk vc hva) | (apply av_i; intro v) | (apply ac_i; intro bl cap hcap)
      | apply bo_l | (apply nx_i <;> intro hnx) | (apply Ia.hit; assumption) | (apply Ia.miss; assumption)
      | (apply rt_is; exact rfl) | exact rt_w | (apply iv; assumption)
      | exact True.intro | (apply bc_i; intro C hC) | apply bt_i | apply og_n | (apply og_a; exact rfl))
  all_goals (try conv => whnf)
  refine ⟨_, e1, ?_, fun v' H' ⟨y, e, _⟩ => by cases e⟩
  rintro v' H' ⟨y, e, rfl⟩
  cases e
  have e3 := gr_replace (G := G) (decR br vc) (.cells bl (some 143) (decB y)) y s hl
  repeat' (first
    | (conv => whnf); first
      | refine .w ?_ | refine .v ?_ | apply sc_true | apply sc_false
      | (first | apply sc_lt | apply sc_nlt | apply sc_eq | apply sc_neq | apply sc_nil | apply sc_nnil | apply sc_seq | apply sc_nseq) <;> (intro hb; try exact dd hb)
      | apply sc_not | apply sc_or | (apply sc_i <;> intro hb)
      | (apply bx_i; intro hbd) | (apply gt_i; assumption; exact rfl)
      | (apply cx_is; first | fail) | (apply cx_do (i := 0) rfl; first | fail)
      | (apply ab_i; intro bl) | (apply as_i; intro va vk vc hva) | (apply av_i; intro v) | (apply ac_i; intro bl cap hcap)
      | apply bo_l | (apply nx_i <;> intro hnx) | (apply Ia.hit; assumption) | (apply Ia.miss; assumption)
      | (apply rt_is; exact rfl) | exact rt_w | (apply iv; assumption)
      | exact True.intro | (apply bc_i; intro C hC) | apply bt_i | apply og_n | (apply og_a; exact rfl))
  all_goals (try conv => whnf)
  refine iv 155 (.raw (pv y.bg 0)) (m_gr _) (cx_all e3 ?_)
  repeat' (first
    | (conv => whnf); first
      | refine .w ?_ | refine .v ?_ | apply sc_true | apply sc_false
      | (first | apply sc_lt | apply sc_nlt | apply sc_eq | apply sc_neq | apply sc_nil | apply sc_nnil | apply sc_seq | apply sc_nseq) <;> (intro hb; try exact dd hb)
      | apply sc_not | apply sc_or | (apply sc_i <;> intro hb)
      | (apply bx_i; intro hbd) | (apply gt_i; assumption; exact rfl)
      | (apply cx_is; first | fail) | (apply cx_do (i := 0) rfl; first | fail)
      | (apply ab_i; intro bl) | (apply as_i; intro va vk vc hva) | (apply av_i; intro v) | (apply ac_i; intro bl cap hcap)
      | apply bo_l | (apply nx_i <;> intro hnx) | (apply Ia.hit; assumption) | (apply Ia.miss; assumption)
      | (apply rt_is; exact rfl) | exact rt_w | (apply iv; assumption)
      | exact True.intro | (apply bc_i; intro C hC) | apply bt_i | apply og_n | (apply og_a; exact rfl))
  all_goals (try conv => whnf)
theorem caret_Decode {G : Glo} (s : List UInt8) (hl : s.length ≤ 1000000) : FnIs Tryz.prog G 53 [.str s] (.str (decS s)) := by
  have hGL : GloAll G [] := gloAll_nil
  refine fn_x Tryz.func53 Tryz.call53 rfl rfl rfl rfl hGL ?_
  intro C hC
  repeat' (first
    | (conv => whnf); first
      | refine .w ?_ | refine .v ?_ | apply sc_true | apply sc_false
      | (first | apply sc_lt | apply sc_nlt | apply sc_eq | apply sc_neq | apply sc_nil | apply sc_nnil | apply sc_seq | apply sc_nseq) <;> (intro hb; try exact dd hb)
      | apply sc_not | apply sc_or | (apply sc_i <;> intro hb)
      | (apply bx_i; intro hbd) | (apply gt_i; assumption; exact rfl)
      | (apply cx_is; first | fail) | (apply cx_do (i := 0) rfl; first | fail)
      | (apply ab_i; intro bl) | (apply as_i; intro va vk vc hva) | (apply av_i; intro v) | (apply ac_i; intro bl cap hcap)
      | apply bo_l | (apply nx_i <;> intro hnx) | (apply Ia.hit; assumption) | (apply Ia.miss; assumption)
      | (apply rt_is; exact rfl) | exact rt_w | (apply iv; assumption)
      | exact True.intro | (apply bc_i; intro C hC) | apply bt_i | apply og_n | (apply og_a; exact rfl))
  all_goals (try conv => whnf)
  refine ⟨_, ca_new_replacer 6 _ (by decide) (by decide) ?_, ?_, ?_⟩
  · unfold SrcOK
    exact srcChk_ok rfl
  · rintro v H' ⟨bl, va, vk, vc, hva, e, rfl⟩
    cases e
    obtain ⟨br, rfl, rfl⟩ := hva (by omega)
    have e2 := replace_dec (G := G) br bl vc s hl
    repeat' (first
      | (conv => whnf); first
        | refine .w ?_ | refine .v ?_ | apply sc_true | apply sc_false
        | (first | apply sc_lt | apply sc_nlt | apply sc_eq | apply sc_neq | apply sc_nil | apply sc_nnil | apply sc_seq | apply sc_nseq) <;> (intro hb; try exact dd hb)
        | apply sc_not | apply sc_or | (apply sc_i <;> intro hb)
        | (apply bx_i; intro hbd) | (apply gt_i; assumption; exact rfl)
        | (apply cx_is; first | fail) | (apply cx_do (i := 0) rfl; first | fail)
        | (apply ab_i; intro bl) | (apply as_i; intro va vk vc hva) | (apply av_i; intro v) | (apply ac_i; intro bl cap hcap)
        | apply bo_l | (apply nx_i <;> intro hnx) | (apply Ia.hit; assumption) | (apply Ia.miss; assumption)
        | (apply rt_is; exact rfl) | exact rt_w | (apply iv; assumption)
        | exact True.intro | (apply bc_i; intro C hC) | apply bt_i | apply og_n | (apply og_a; exact rfl))
    all_goals (try conv => whnf)
    refine cx_all e2 ?_
    repeat' (first
      | (conv => whnf); first
        | refine .w ?_ | refine .v ?_ | apply sc_true | apply sc_false
        | (first | apply sc_lt | apply sc_nlt | apply sc_eq | apply sc_neq | apply sc_nil | apply sc_nnil | apply sc_seq | apply sc_nseq) <;> (intro hb; try exact dd hb)
        | apply sc_not | apply sc_or | (apply sc_i <;> intro hb)
        | (apply bx_i; intro hbd) | (apply gt_i; assumption; exact rfl)
        | (apply cx_is; first | fail) | (apply cx_do (i := 0) rfl; first | fail)
        | (apply ab_i; intro bl) | (apply as_i; intro va vk vc hva) | (apply av_i; intro v) | (apply ac_i; intro bl cap hcap)
        | apply bo_l | (apply nx_i <;> intro hnx) | (apply Ia.hit; assumption) | (apply Ia.miss; assumption)
        | (apply rt_is; exact rfl) | exact rt_w | (apply iv; assumption)
        | exact True.intro | (apply bc_i; intro C hC) | apply bt_i | apply og_n | (apply og_a; exact rfl))
    all_goals (try conv => whnf)
  · rintro v H' ⟨bl, va, vk, vc, hva, e, rfl⟩
    cases e
end Go.Proofs.YtkmpcdlmeiophaaGreatDoor
namespace Go.Proofs.YtkmpcdlmeiophaaGreatDoor
open Go
set_option maxRecDepth 20000
set_option maxHeartbeats 4000000
set_option linter.unusedSimpArgs false
set_option linter.unusedVariables false
attribute [local irreducible] AWp AOps byteAt SrcOK OrOk GloAll FnSpec
attribute [local irreducible] nextS badI badS stepS rngR ownB
def firstTab : List AVal := Go.Pinned.utf8FirstZ.map (fun x : Nat => AVal.int .u8 (x : Int))
def acceptTab : List AVal := [.int .u8 128, .int .u8 191, .int .u8 160, .int .u8 191, .int .u8 128, .int .u8 159, .int .u8 144, .int .u8 191, .int .u8 128, .int .u8 143, .int .u8 0, .int .u8 0, .int .u8 0, .int .u8 0, .int .u8 0, .int .u8 0, .int .u8 0, .int .u8 0, .int .u8 0, .int .u8 0, .int .u8 0, .int .u8 0, .int .u8 0, .int .u8 0, .int .u8 0, .int .u8 0, .int .u8 0, .int .u8 0, .int .u8 0, .int .u8 0, .int .u8 0, .int .u8 0]
def firstN (b : Nat) : Nat :=
  if b < 128 then 240 else if b < 194 then 241 else if b < 224 then 2 else if b = 224 then 19 else if b < 237 then 3 else if b = 237 then 35 else if b < 240 then 3 else if b = 240 then 52
  else if b < 244 then 4 else if b = 244 then 68 else 241
theorem firstN_ok : ∀ b : Fin 256, Go.Pinned.utf8FirstZ[b.1]? = some (firstN b.1) := by decide +kernel
theorem firstTab_at (b : Nat) (h : b < 256) : firstTab[b * 1]? = some (.int .u8 (firstN b : Int)) := by
  rw [Nat.mul_one]
  simp only [firstTab, List.getElem?_map, firstN_ok ⟨b, h⟩, Option.map_some]
/-- What it answers. -/
def runeS (s : List UInt8) : Nat × Nat := if s.length = 0 then (65533, 0) else if (nextS s).2 = 0 then (65533, 1) else nextS s
theorem xx_mask (b : Int) : IntKind.wrap .i32 (BitVec.ofInt 32 (IntKind.wrap .i32 (BitVec.ofInt 32 b &&& ~~~ BitVec.ofInt 32 (IntKind.wrap .i32 (241 * 2147483648) / 2147483648)).toNat) ||| BitVec.ofInt 32 (IntKind.wrap .i32 (BitVec.ofInt 32 65533 &&& BitVec.ofInt 32 (IntKind.wrap .i32 (241 * 2147483648) / 2147483648)).toNat)).toNat = 65533 := by
  have e : (~~~ BitVec.ofInt 32 (IntKind.wrap .i32 (241 * 2147483648) / 2147483648)) = 0#32 := by decide +kernel
  rw [e, BitVec.and_zero]
  decide +kernel
attribute [local irreducible] firstTab
/-- The two tables of package utf8. -/
abbrev utfTy : List (Nat × List AVal) := [(2, firstTab), (3, acceptTab)]
theorem dec_cases (b : Nat) (h : b < 256) (h1 : 128 ≤ b) :
    (firstTab[b * 1]? = some (.int .u8 241) ∧ (b < 194 ∨ 245 ≤ b)) ∨ (firstTab[b * 1]? = some (.int .u8 2) ∧ 194 ≤ b ∧ b < 224) ∨ (firstTab[b * 1]? = some (.int .u8 19) ∧ b = 224)
    ∨ (firstTab[b * 1]? = some (.int .u8 3) ∧ 225 ≤ b ∧ b < 240 ∧ b ≠ 237) ∨ (firstTab[b * 1]? = some (.int .u8 35) ∧ b = 237) ∨ (firstTab[b * 1]? = some (.int .u8 52) ∧ b = 240)
    ∨ (firstTab[b * 1]? = some (.int .u8 4) ∧ 241 ≤ b ∧ b < 244) ∨ (firstTab[b * 1]? = some (.int .u8 68) ∧ b = 244) := by
  have e := firstTab_at b h
  have key : ∀ c : Nat, firstN b = c → firstTab[b * 1]? = some (.int .u8 (c : Int)) := fun c hc => by rw [e, hc]
  by_cases c1 : b < 194 ∨ 245 ≤ b
  · refine .inl ⟨key 241 (by unfold firstN; (repeat' split) <;> omega), c1⟩
  by_cases c2 : b < 224
  · refine .inr (.inl ⟨key 2 (by unfold firstN; (repeat' split) <;> omega), by omega, c2⟩)
  by_cases c3 : b = 224
  · subst c3; exact .inr (.inr (.inl ⟨key 19 rfl, rfl⟩))
  by_cases c5 : b = 237
  · subst c5; exact .inr (.inr (.inr (.inr (.inl ⟨key 35 rfl, rfl⟩))))
  by_cases c4 : b < 240
  · refine .inr (.inr (.inr (.inl ⟨key 3 (by unfold firstN; (repeat' split) <;> omega), by omega, c4, c5⟩)))
  by_cases c6 : b = 240
  · subst c6; exact .inr (.inr (.inr (.inr (.inr (.inl ⟨key 52 rfl, rfl⟩)))))
  by_cases c7 : b < 244
  · refine .inr (.inr (.inr (.inr (.inr (.inr (.inl ⟨key 4 (by unfold firstN; (repeat' split) <;> omega), by omega, c7⟩))))))
  have c8 : b = 244 := by omega
  subst c8
  exact .inr (.inr (.inr (.inr (.inr (.inr (.inr ⟨key 68 rfl, rfl⟩))))))
theorem rune_bad {s : List UInt8} {a b : Int} (h0 : ¬ s.length = 0) (h : ((nextS s).1 : Int) = 0 ∧ ((nextS s).2 : Int) = 0) (ha : a = 65533) (hb : b = 1) : ((runeS s).1 : Int) = a ∧ ((runeS s).2 : Int) = b := by
  have : (nextS s).2 = 0 := by omega
  subst ha hb
  simp [runeS, h0, this]
theorem rune_ok {s : List UInt8} {a b : Int} (h0 : ¬ s.length = 0) (h : ((nextS s).1 : Int) = a ∧ ((nextS s).2 : Int) = b) (hb : 0 < b) : ((runeS s).1 : Int) = a ∧ ((runeS s).2 : Int) = b := by
  have : ¬ (nextS s).2 = 0 := by omega
  simpa [runeS, h0, this] using h
theorem dec_slow {G : Glo} (hGL : GloAll G utfTy) (s : List UInt8) (hs : s.length = 0 ∨ 128 ≤ byteAt s 0) :
    FnIs Tryz.prog G 55 [.str s] (.tuple [.int .i32 ((runeS s).1 : Int), .int .i64 ((runeS s).2 : Int)]) := by
  refine fn_x Tryz.func55 Tryz.call55 rfl rfl rfl rfl hGL ?_
  intro C hC
  by_cases h0 : s.length = 0
  · repeat' (first
      | (conv => whnf); first
        | refine .w ?_ | refine .v ?_ | apply sc_true | apply sc_false
        | (first | apply sc_lt | apply sc_nlt | apply sc_eq | apply sc_neq | apply sc_nil | apply sc_nnil | apply sc_seq | apply sc_nseq) <;> (intro hb; try exact dd hb)
        | apply sc_not | apply sc_or | (apply sc_i <;> intro hb)
        | (apply bx_i; intro hbd) | (apply gt_i; assumption; exact rfl)
        | (apply cx_is; first | fail) | (apply cx_do (i := 0) rfl; first | fail)
        | (apply ab_i; intro bl) | (apply as_i; intro va vk vc hva) | (apply av_i; intro v) | (apply ac_i; intro bl cap hcap)
        | apply bo_l | (apply nx_i <;> intro hnx) | (apply Ia.hit; assumption) | (apply Ia.miss; assumption)
        | (apply rt_is; exact rfl) | exact rt_w | (apply iv; assumption)
        | apply dw_q mixed hC hGL (by kernel_rfl) | (apply cq; assumption; (first | fail); exact rfl))
    all_goals (try conv => whnf)
    refine tup2 ?_
    simp only [runeS, if_pos h0]
    exact ⟨rfl, rfl⟩
  replace hs : 128 ≤ byteAt s 0 := by omega
  have hdc := dec_cases (byteAt s 0) (byteAt_lt s 0) hs
  repeat' (first
    | (conv => whnf); first
      | refine .w ?_ | refine .v ?_ | apply sc_true | apply sc_false
      | (first | apply sc_lt | apply sc_nlt | apply sc_eq | apply sc_neq | apply sc_nil | apply sc_nnil | apply sc_seq | apply sc_nseq) <;> (intro hb; try exact dd hb)
      | apply sc_not | apply sc_or | (apply sc_i <;> intro hb)
      | (apply bx_i; intro hbd) | (apply gt_i; assumption; exact rfl)
      | (apply cx_is; first | fail) | (apply cx_do (i := 0) rfl; first | fail)
      | (apply ab_i; intro bl) | (apply as_i; intro va vk vc hva) | (apply av_i; intro v) | (apply ac_i; intro bl cap hcap)
      | apply bo_l | (apply nx_i <;> intro hnx) | (apply Ia.hit; assumption) | (apply Ia.miss; assumption)
      | (apply rt_is; exact rfl) | exact rt_w | (apply iv; assumption)
      | apply dw_q mixed hC hGL (by kernel_rfl) | (apply cq; assumption; (first | fail); exact rfl))
  all_goals (try conv => whnf)
  rcases hdc with ⟨hx, hb⟩ | ⟨hx, hb⟩ | ⟨hx, hb⟩ | ⟨hx, hb⟩ | ⟨hx, hb⟩ | ⟨hx, hb⟩ | ⟨hx, hb⟩ | ⟨hx, hb⟩
  all_goals (erw [hx])
  · repeat' (first
      | (conv => whnf); first
        | refine .w ?_ | refine .v ?_ | apply sc_true | apply sc_false
        | (first | apply sc_lt | apply sc_nlt | apply sc_eq | apply sc_neq | apply sc_nil | apply sc_nnil | apply sc_seq | apply sc_nseq) <;> (intro hb; try exact dd hb)
        | apply sc_not | apply sc_or | (apply sc_i <;> intro hb)
        | (apply bx_i; intro hbd) | (apply gt_i; assumption; exact rfl)
        | (apply cx_is; first | fail) | (apply cx_do (i := 0) rfl; first | fail)
        | (apply ab_i; intro bl) | (apply as_i; intro va vk vc hva) | (apply av_i; intro v) | (apply ac_i; intro bl cap hcap)
        | apply bo_l | (apply nx_i <;> intro hnx) | (apply Ia.hit; assumption) | (apply Ia.miss; assumption)
        | (apply rt_is; exact rfl) | exact rt_w | (apply iv; assumption)
        | apply dw_q mixed hC hGL (by kernel_rfl) | (apply cq; assumption; (first | fail); exact rfl))
    all_goals (try conv => whnf)
    apply ch_r
    repeat' (first
      | (conv => whnf); first
        | refine .w ?_ | refine .v ?_ | apply sc_true | apply sc_false
        | (first | apply sc_lt | apply sc_nlt | apply sc_eq | apply sc_neq | apply sc_nil | apply sc_nnil | apply sc_seq | apply sc_nseq) <;> (intro hb; try exact dd hb)
        | apply sc_not | apply sc_or | (apply sc_i <;> intro hb)
        | (apply bx_i; intro hbd) | (apply gt_i; assumption; exact rfl)
        | (apply cx_is; first | fail) | (apply cx_do (i := 0) rfl; first | fail)
        | (apply ab_i; intro bl) | (apply as_i; intro va vk vc hva) | (apply av_i; intro v) | (apply ac_i; intro bl cap hcap)
        | apply bo_l | (apply nx_i <;> intro hnx) | (apply Ia.hit; assumption) | (apply Ia.miss; assumption)
        | (apply rt_is; exact rfl) | exact rt_w | (apply iv; assumption)
        | apply dw_q mixed hC hGL (by kernel_rfl) | (apply cq; assumption; (first | fail); exact rfl))
    all_goals (try conv => whnf)
    apply ch_r
    repeat' (first
      | (conv => whnf); first
        | refine .w ?_ | refine .v ?_ | apply sc_true | apply sc_false
        | (first | apply sc_lt | apply sc_nlt | apply sc_eq | apply sc_neq | apply sc_nil | apply sc_nnil | apply sc_seq | apply sc_nseq) <;> (intro hb; try exact dd hb)
        | apply sc_not | apply sc_or | (apply sc_i <;> intro hb)
        | (apply bx_i; intro hbd) | (apply gt_i; assumption; exact rfl)
        | (apply cx_is; first | fail) | (apply cx_do (i := 0) rfl; first | fail)
        | (apply ab_i; intro bl) | (apply as_i; intro va vk vc hva) | (apply av_i; intro v) | (apply ac_i; intro bl cap hcap)
        | apply bo_l | (apply nx_i <;> intro hnx) | (apply Ia.hit; assumption) | (apply Ia.miss; assumption)
        | (apply rt_is; exact rfl) | exact rt_w | (apply iv; assumption)
        | apply dw_q mixed hC hGL (by kernel_rfl) | (apply cq; assumption; (first | fail); exact rfl))
    all_goals (try conv => whnf)
    apply ch_r
    repeat' (first
      | (conv => whnf); first
        | refine .w ?_ | refine .v ?_ | apply sc_true | apply sc_false
        | (first | apply sc_lt | apply sc_nlt | apply sc_eq | apply sc_neq | apply sc_nil | apply sc_nnil | apply sc_seq | apply sc_nseq) <;> (intro hb; try exact dd hb)
        | apply sc_not | apply sc_or | (apply sc_i <;> intro hb)
        | (apply bx_i; intro hbd) | (apply gt_i; assumption; exact rfl)
        | (apply cx_is; first | fail) | (apply cx_do (i := 0) rfl; first | fail)
        | (apply ab_i; intro bl) | (apply as_i; intro va vk vc hva) | (apply av_i; intro v) | (apply ac_i; intro bl cap hcap)
        | apply bo_l | (apply nx_i <;> intro hnx) | (apply Ia.hit; assumption) | (apply Ia.miss; assumption)
        | (apply rt_is; exact rfl) | exact rt_w | (apply iv; assumption)
        | apply dw_q mixed hC hGL (by kernel_rfl) | (apply cq; assumption; (first | fail); exact rfl))
    all_goals (try conv => whnf)
    clear hx
    refine tup2 ?_
    refine rune_bad h0 ?_ (xx_mask _) rfl
    generalize hz : nextS s = z
    unfold nextS contAt mayN cp2 cp3 cp4 at hz
    try simp only [show Int.toNat 0 = 0 from rfl, show Int.toNat 1 = 1 from rfl, show Int.toNat (1 + 1) = 2 from rfl, show Int.toNat (1 + 1 + 1) = 3 from rfl] at *
    generalize byteAt s 0 = b0 at *
    generalize byteAt s 1 = b1 at *
    generalize byteAt s 2 = b2 at *
    generalize byteAt s 3 = b3 at *
    generalize s.length = l at *
    repeat' (split at hz; try (exfalso; omega))
    all_goals (try subst z)
    all_goals (first
      | exact ⟨rfl, rfl⟩
      | (simp only [Bool.and_eq_true, Bool.or_eq_true, decide_eq_true_eq, beq_iff_eq] at *; first | (exfalso; omega) | omega))
  all_goals (repeat' (first
               | (conv => whnf); first
                 | refine .w ?_ | refine .v ?_ | apply sc_true | apply sc_false
                 | (first | apply sc_lt | apply sc_nlt | apply sc_eq | apply sc_neq | apply sc_nil | apply sc_nnil | apply sc_seq | apply sc_nseq) <;> (intro hb; try exact dd hb)
                 | apply sc_not | apply sc_or | (apply sc_i <;> intro hb)
                 | (apply bx_i; intro hbd) | (apply gt_i; assumption; exact rfl)
                 | (apply cx_is; first | fail) | (apply cx_do (i := 0) rfl; first | fail)
                 | (apply ab_i; intro bl) | (apply as_i; intro va vk vc hva) | (apply av_i; intro v) | (apply ac_i; intro bl cap hcap)
                 | apply bo_l | (apply nx_i <;> intro hnx) | (apply Ia.hit; assumption) | (apply Ia.miss; assumption)
                 | (apply rt_is; exact rfl) | exact rt_w | (apply iv; assumption)
                 | apply dw_q mixed hC hGL (by kernel_rfl) | (apply cq; assumption; (first | fail); exact rfl))
             all_goals (try conv => whnf))
  all_goals (clear hx; refine tup2 ?_)
  all_goals (first
    | (refine rune_bad h0 ?_ rfl rfl
       generalize hz : nextS s = z
       unfold nextS contAt mayN cp2 cp3 cp4 at hz
       try simp only [show Int.toNat 0 = 0 from rfl, show Int.toNat 1 = 1 from rfl, show Int.toNat (1 + 1) = 2 from rfl, show Int.toNat (1 + 1 + 1) = 3 from rfl] at *
       generalize byteAt s 0 = b0 at *
       generalize byteAt s 1 = b1 at *
       generalize byteAt s 2 = b2 at *
       generalize byteAt s 3 = b3 at *
       generalize s.length = l at *
       repeat' (split at hz; try (exfalso; omega))
       all_goals (try subst z)
       all_goals (first
         | exact ⟨rfl, rfl⟩
         | (simp only [Bool.and_eq_true, Bool.or_eq_true, decide_eq_true_eq, beq_iff_eq] at *; first | (exfalso; omega) | omega))
       done)
    | (refine rune_ok h0 ?_ (by decide)
       generalize hz : nextS s = z
       unfold nextS contAt mayN cp2 cp3 cp4 at hz
       try simp only [show Int.toNat 0 = 0 from rfl, show Int.toNat 1 = 1 from rfl, show Int.toNat (1 + 1) = 2 from rfl, show Int.toNat (1 + 1 + 1) = 3 from rfl] at *
       generalize byteAt s 0 = b0 at *
       generalize byteAt s 1 = b1 at *
       generalize byteAt s 2 = b2 at *
       generalize byteAt s 3 = b3 at *
       generalize s.length = l at *
       repeat' (split at hz; try (exfalso; omega))
       all_goals (try subst z)
       all_goals (first
         | exact ⟨rfl, rfl⟩
         | (simp only [Bool.and_eq_true, Bool.or_eq_true, decide_eq_true_eq, beq_iff_eq] at *; first | (exfalso; omega) | omega))))
theorem dec_rune {G : Glo} (hGL : GloAll G utfTy) (s : List UInt8) :
    FnIs Tryz.prog G 42 [.str s] (.tuple [.int .i32 ((runeS s).1 : Int), .int .i64 ((runeS s).2 : Int)]) := by
  refine fn_x Tryz.func42 Tryz.call42 rfl rfl rfl rfl hGL ?_
  intro C hC
  by_cases h0 : s.length = 0 ∨ 128 ≤ byteAt s 0
  · have hd := dec_slow (G := G) hGL s h0
    by_cases h1 : s.length = 0
    all_goals (repeat' (first
                 | (conv => whnf); first
                   | refine .w ?_ | refine .v ?_ | apply sc_true | apply sc_false
                   | (first | apply sc_lt | apply sc_nlt | apply sc_eq | apply sc_neq | apply sc_nil | apply sc_nnil | apply sc_seq | apply sc_nseq) <;> (intro hb; try exact dd hb)
                   | apply sc_not | apply sc_or | (apply sc_i <;> intro hb)
                   | (apply bx_i; intro hbd) | (apply gt_i; assumption; exact rfl)
                   | (apply cx_is; first | exact hd) | (apply cx_do (i := 0) rfl; first | exact hd)
                   | (apply ab_i; intro bl) | (apply as_i; intro va vk vc hva) | (apply av_i; intro v) | (apply ac_i; intro bl cap hcap)
                   | apply bo_l | (apply nx_i <;> intro hnx) | (apply Ia.hit; assumption) | (apply Ia.miss; assumption)
                   | (apply rt_is; exact rfl) | exact rt_w | (apply iv; assumption)
                   | apply dw_q mixed hC hGL (by kernel_rfl) | (apply cq; assumption; (first | exact hd); exact rfl))
               all_goals (try conv => whnf))
    all_goals (exfalso; simp only [Int.toNat_zero] at *; omega)
  · repeat' (first
      | (conv => whnf); first
        | refine .w ?_ | refine .v ?_ | apply sc_true | apply sc_false
        | (first | apply sc_lt | apply sc_nlt | apply sc_eq | apply sc_neq | apply sc_nil | apply sc_nnil | apply sc_seq | apply sc_nseq) <;> (intro hb; try exact dd hb)
        | apply sc_not | apply sc_or | (apply sc_i <;> intro hb)
        | (apply bx_i; intro hbd) | (apply gt_i; assumption; exact rfl)
        | (apply cx_is; first | fail) | (apply cx_do (i := 0) rfl; first | fail)
        | (apply ab_i; intro bl) | (apply as_i; intro va vk vc hva) | (apply av_i; intro v) | (apply ac_i; intro bl cap hcap)
        | apply bo_l | (apply nx_i <;> intro hnx) | (apply Ia.hit; assumption) | (apply Ia.miss; assumption)
        | (apply rt_is; exact rfl) | exact rt_w | (apply iv; assumption)
        | apply dw_q mixed hC hGL (by kernel_rfl) | (apply cq; assumption; (first | fail); exact rfl))
    all_goals (try conv => whnf)
    refine tup2 ?_
    refine rune_ok (by omega) ?_ (by decide)
    generalize hz : nextS s = z
    unfold nextS contAt mayN cp2 cp3 cp4 at hz
    try simp only [show Int.toNat 0 = 0 from rfl, show Int.toNat 1 = 1 from rfl, show Int.toNat (1 + 1) = 2 from rfl, show Int.toNat (1 + 1 + 1) = 3 from rfl] at *
    generalize byteAt s 0 = b0 at *
    generalize byteAt s 1 = b1 at *
    generalize byteAt s 2 = b2 at *
    generalize byteAt s 3 = b3 at *
    generalize s.length = l at *
    repeat' (split at hz; try (exfalso; omega))
    all_goals (try subst z)
    all_goals (first
      | exact ⟨rfl, rfl⟩
      | (simp only [Bool.and_eq_true, Bool.or_eq_true, decide_eq_true_eq, beq_iff_eq] at *; first | (exfalso; omega) | omega))
end Go.Proofs.YtkmpcdlmeiophaaGreatDoor
namespace Go.Proofs.YtkmpcdlmeiophaaGreatDoor
open Go
set_option maxRecDepth 20000
set_option maxHeartbeats 4000000
set_option linter.unusedSimpArgs false
set_option linter.unusedVariables false
attribute [local irreducible] AWp AOps byteAt SrcOK OrOk GloAll FnSpec
attribute [local irreducible] nextS badI badS stepS rngR ownB
attribute [local irreducible] firstTab runeS
theorem nextS_facts (s : List UInt8) : ((nextS s).2 = 0 → (nextS s).1 = 0) ∧ ((nextS s).2 = 1 → (nextS s).1 < 128) ∧ (s.length = 0 → (nextS s).2 = 0) := by
  refine ⟨?_, ?_, ?_⟩
  · unfold nextS; (repeat' split) <;> simp
  · unfold nextS; (repeat' split) <;> simp; omega
  · intro h; unfold nextS; simp [h]
theorem rune_next (s : List UInt8) : (((nextS s).2 : Int) = 0 → ((runeS s).2 : Int) = 0 ∧ s.length = 0 ∨ ((runeS s).1 : Int) = 65533 ∧ ((runeS s).2 : Int) = 1) ∧ (((nextS s).2 : Int) ≠ 0 → ((runeS s).1 : Int) = (nextS s).1 ∧ ((runeS s).2 : Int) = (nextS s).2) := by
  have hf := nextS_facts s
  unfold runeS
  by_cases h0 : s.length = 0
  · rw [if_pos h0]
    refine ⟨fun _ => .inl ⟨rfl, h0⟩, fun h => absurd (hf.2.2 h0) (by omega)⟩
  · rw [if_neg h0]
    by_cases h1 : (nextS s).2 = 0
    · rw [if_pos h1]
      exact ⟨fun _ => .inr ⟨rfl, rfl⟩, fun h => absurd h1 (by omega)⟩
    · rw [if_neg h1]
      exact ⟨fun h => absurd h (by omega), fun _ => ⟨rfl, rfl⟩⟩
theorem ref_Next {G : Glo} (hU : GloAll G utfTy) (s : List UInt8) :
    FnIs Tryz.prog G 33 [.str s] (.tuple [.int .i64 ((nextS s).1 : Int), .int .i64 ((nextS s).2 : Int)]) := by
  have hGL : GloAll G [] := gloAll_nil
  refine fn_x Tryz.func33 Tryz.call33 rfl rfl rfl rfl hGL ?_
  intro C hC
  have hd := dec_rune (G := G) hU s
  have hn := nextS_le s
  have hf := nextS_facts s
  have hr := rune_next s
  have hk : ((runeS s).1 : Int) ≤ 1114111 := by
    by_cases h : (nextS s).2 = 0
    · unfold runeS; rw [if_pos h]; split <;> decide
    · omega
  repeat' (first
    | (conv => whnf); first
      | refine .w ?_ | refine .v ?_ | apply sc_true | apply sc_false
      | (first | apply sc_lt | apply sc_nlt | apply sc_eq | apply sc_neq | apply sc_nil | apply sc_nnil | apply sc_seq | apply sc_nseq) <;> (intro hb; try exact dd hb)
      | apply sc_not | apply sc_or | (apply sc_i <;> intro hb)
      | (apply bx_i; intro hbd) | (apply gt_i; assumption; exact rfl)
      | (apply cx_is; first | exact hd) | (apply cx_do (i := 0) rfl; first | exact hd)
      | (apply ab_i; intro bl) | (apply as_i; intro va vk vc hva) | (apply av_i; intro v) | (apply ac_i; intro bl cap hcap)
      | apply bo_l | (apply nx_i <;> intro hnx) | (apply Ia.hit; assumption) | (apply Ia.miss; assumption)
      | (apply rt_is; exact rfl) | exact rt_w | (apply iv; assumption)
      | apply dw_q mixed hC hGL (by kernel_rfl) | (apply cq; assumption; (first | exact hd); exact rfl))
  all_goals (try conv => whnf)
  all_goals (refine tup2 ?_; omega)
theorem ref_Bad {G : Glo} (hU : GloAll G utfTy) (s : List UInt8) (hl : s.length ≤ 9223372036854775807) : FnIs Tryz.prog G 12 [.str s] (.int .i64 (badI s)) := by
  have hGL : GloAll G [] := gloAll_nil
  refine fn_x Tryz.func12 Tryz.call12 rfl rfl rfl rfl hGL ?_
  intro C hC
  have hle := fun k => nextS_le (s.drop k)
  have hN := fun t => ref_Next (G := G) hU t
  repeat' (first
    | (conv => whnf); first
      | refine .w ?_ | refine .v ?_ | apply sc_true | apply sc_false
      | (first | apply sc_lt | apply sc_nlt | apply sc_eq | apply sc_neq | apply sc_nil | apply sc_nnil | apply sc_seq | apply sc_nseq) <;> (intro hb; try exact dd hb)
      | apply sc_not | apply sc_or | (apply sc_i <;> intro hb)
      | (apply bx_i; intro hbd) | (apply gt_i; assumption; exact rfl)
      | (apply cx_is; first | exact hN _) | (apply cx_do (i := 0) rfl; first | exact hN _)
      | (apply ab_i; intro bl) | (apply as_i; intro va vk vc hva) | (apply av_i; intro v) | (apply ac_i; intro bl cap hcap)
      | apply bo_l | (apply nx_i <;> intro hnx) | (apply Ia.hit; assumption) | (apply Ia.miss; assumption)
      | (apply rt_is; exact rfl) | exact rt_w | (apply iv; assumption)
      | apply dw_q mixed hC hGL (by kernel_rfl) | (apply cq; assumption; (first | exact hN _); exact rfl))
  all_goals (try conv => whnf)
  refine lp hC hGL (fun (i : Nat) => [(0, .str s), (7, .own 0 (.pointer (some ⟨bl, 0, none⟩)))]) (fun i => [.iter bl s i]) (fun i => i ≤ s.length ∧ badS s = (badS (s.drop i)).map (· + i)) (fun i => s.length - i) 0 ?_ env_w rfl ?_
  · exact ⟨Nat.zero_le _, by simp⟩
  rintro i ⟨hi, hb0⟩
  have hn := hle i
  rw [List.length_drop] at hn
  repeat' (first
    | (conv => whnf); first
      | refine .w ?_ | refine .v ?_ | apply sc_true | apply sc_false
      | (first | apply sc_lt | apply sc_nlt | apply sc_eq | apply sc_neq | apply sc_nil | apply sc_nnil | apply sc_seq | apply sc_nseq) <;> (intro hb; try exact dd hb)
      | apply sc_not | apply sc_or | (apply sc_i <;> intro hb)
      | (apply bx_i; intro hbd) | (apply gt_i; assumption; exact rfl)
      | (apply cx_is; first | exact hN _) | (apply cx_do (i := 0) rfl; first | exact hN _)
      | (apply ab_i; intro bl) | (apply as_i; intro va vk vc hva) | (apply av_i; intro v) | (apply ac_i; intro bl cap hcap)
      | apply bo_l | (apply nx_i <;> intro hnx) | (apply Ia.hit; assumption) | (apply Ia.miss; assumption)
      | (apply rt_is; exact rfl) | exact rt_w | (apply iv; assumption)
      | apply dw_q mixed hC hGL (by kernel_rfl) | (apply cq; assumption; (first | exact hN _); exact rfl))
  all_goals (try conv => whnf)
  · apply rt_is
    refine congrArg (AVal.int .i64) ?_
    have h1 := badS_step (s.drop i) (by rw [List.length_drop]; omega)
    rw [if_pos (by omega)] at h1
    rw [h1] at hb0
    simp only [badI, hb0, Option.map_some, Nat.zero_add]
  · have h1 := badS_step (s.drop i) (by rw [List.length_drop]; omega)
    rw [if_neg (by omega)] at h1
    have h2 : stepS (s.drop i) = (nextS (s.drop i)).2 := by unfold stepS; rw [if_neg (by omega)]
    refine nxt (i + stepS (s.drop i)) ⟨by omega, ?_⟩ (by omega) ⟨rfl, rfl, trivial⟩ rfl
    rw [hb0, h1, List.drop_drop, h2]
    cases badS (s.drop (i + (nextS (s.drop i)).2)) <;> simp <;> omega
  · apply rt_is
    refine congrArg (AVal.int .i64) ?_
    rw [badS_nil (s.drop i) (by rw [List.length_drop]; omega)] at hb0
    simp only [badI, hb0, Option.map_none]
end Go.Proofs.YtkmpcdlmeiophaaGreatDoor
namespace Go.Proofs.YtkmpcdlmeiophaaGreatDoor
open Go Go.RowKit
theorem hdC_f {c : Int} : hdC false c = true ↔ (c < 32 ∧ c ≠ 9) ∨ c = 127 := by simp [hdC]
set_option maxRecDepth 20000
set_option maxHeartbeats 4000000
set_option linter.unusedSimpArgs false
set_option linter.unusedVariables false
attribute [local irreducible] AWp AOps byteAt SrcOK OrOk GloAll FnSpec
attribute [local irreducible] hdC hdB badI
theorem ref_control {G : Glo} (c : Int) : FnIs Tryz.prog G 19 [.int .u8 c] (.bool (hdC false c)) := by
  have hGL : GloAll G [] := gloAll_nil
  refine fn_x Tryz.func19 Tryz.call19 rfl rfl rfl rfl hGL ?_
  intro C hC
  refine xw ?_
  repeat' (first | exact Le.n | refine Lc.mk ?_ ?_)
  all_goals intros
  all_goals (apply rt_is; refine congrArg AVal.bool ?_)
  all_goals (rw [Bool.eq_iff_iff, hdC_f]; simp only [eqB_t, reduceCtorEq, true_iff, false_iff]; omega)
end Go.Proofs.YtkmpcdlmeiophaaGreatDoor
namespace Go.Proofs.YtkmpcdlmeiophaaGreatDoor
open Go Go.RowKit
set_option maxRecDepth 20000
set_option maxHeartbeats 4000000
set_option linter.unusedSimpArgs false
set_option linter.unusedVariables false
attribute [local irreducible] AWp AOps byteAt SrcOK OrOk GloAll FnSpec
attribute [local irreducible] hdC hdB badI
theorem line_control {G : Glo} (c : Int) : FnIs Tryz.prog G 28 [.int .u8 c] (.bool (hdC false c)) := by
  have hGL : GloAll G [] := gloAll_nil
  refine fn_x Tryz.func28 Tryz.call28 rfl rfl rfl rfl hGL ?_
  intro C hC
  refine xw ?_
  repeat' (first | exact Le.n | refine Lc.mk ?_ ?_)
  all_goals intros
  all_goals (apply rt_is; refine congrArg AVal.bool ?_)
  all_goals (rw [Bool.eq_iff_iff, hdC_f]; simp only [eqB_t, reduceCtorEq, true_iff, false_iff]; omega)
end Go.Proofs.YtkmpcdlmeiophaaGreatDoor
namespace Go.Proofs.YtkmpcdlmeiophaaGreatDoor
open Go
theorem idx_three {a b c : UInt8} (r : Int) : (0 ≤ idxB [a, b, c] r ↔ ∃ x ∈ [a, b, c], r = x.toNat) := by
  unfold idxB
  simp only [idxF, List.mem_cons, List.not_mem_nil, or_false, exists_eq_or_imp, exists_eq_left]
  split
  · omega
  · split
    · omega
    · split <;> omega
end Go.Proofs.YtkmpcdlmeiophaaGreatDoor
namespace Go.Proofs.YtkmpcdlmeiophaaGreatDoor
open Go Go.RowKit
abbrev pS (b : Nat) : Value := .pointer (some ⟨b, 0, none⟩)
abbrev rdC (b : Nat) (s : List UInt8) (a : Nat) (c : Bool) : HEnt := .cells b (some 61) [.str s, .int .i64 (a : Nat), .bool c]
abbrev fltA (e p : Int) : AVal := .iface 57 (.agg [.int .i64 e, .int .i64 p])
theorem drop_byte {s : List UInt8} {k j : Nat} : byteAt (s.drop k) j = byteAt s (k + j) := by
  unfold byteAt
  simp [List.getD, List.getElem?_drop]
theorem one_letter {s : List UInt8} {x : Nat} (h : x < s.length) : isS ((s.take (x + 1)).drop x) = letterB (byteAt s x : Int) := by
  have hl : ((s.take (x + 1)).drop x).length = 1 := by rw [List.length_drop, List.length_take]; omega
  have hb : byteAt ((s.take (x + 1)).drop x) 0 = byteAt s x := by
    rw [drop_byte, byteAt_take (by omega)]
    rfl
  unfold isS
  rw [hl]
  cases k : letterB (byteAt s x : Int) with
  | true =>
    have : allB letterB ((s.take (x + 1)).drop x) = true := allB_t.2 fun j hj => by
      rw [show j = 0 by omega, hb]; exact k
    rw [this]
    rfl
  | false =>
    have : allB letterB ((s.take (x + 1)).drop x) = false := allB_f (j := 0) (by omega) (by rw [hb]; exact k)
    rw [this]
    rfl
set_option maxRecDepth 20000
set_option maxHeartbeats 4000000
set_option linter.unusedSimpArgs false
set_option linter.unusedVariables false
attribute [local irreducible] AWp AOps byteAt SrcOK OrOk GloAll FnSpec
attribute [local irreducible] hdC hdB badI isS decS letterB
theorem line_throw {G : Glo} (v : Value) (e p : Int) : FnSpec Tryz.prog G 27 [.raw v, .int .i64 e, .int .i64 p] [] (fun r H => r = .panic (fltA e p) ∧ H = []) := by
  have hGL : GloAll G [] := gloAll_nil
  refine fn_x Tryz.func27 Tryz.call27 rfl rfl rfl rfl hGL ?_
  intro C hC
  repeat' (first
    | (conv => whnf); first
      | refine .w ?_ | refine .v ?_ | apply sc_true | apply sc_false
      | (first | apply sc_lt | apply sc_nlt | apply sc_eq | apply sc_neq | apply sc_nil | apply sc_nnil | apply sc_seq | apply sc_nseq) <;> (intro hb; try exact dd hb)
      | apply sc_not | apply sc_or | (apply sc_i <;> intro hb)
      | (apply bx_i; intro hbd) | (apply gt_i; assumption; exact rfl)
      | (apply cx_is; first | fail) | (apply cx_do (i := 0) rfl; first | fail)
      | (apply ab_i; intro bl) | (apply as_i; intro va vk vc hva) | (apply av_i; intro v) | (apply ac_i; intro bl cap hcap)
      | apply bo_l | (apply nx_i <;> intro hnx) | (apply Ia.hit; assumption) | (apply Ia.miss; assumption)
      | (apply rt_is; exact rfl) | exact rt_w | (apply iv; assumption)
      | apply dw_q mixed hC hGL (by kernel_rfl) | (apply cq; assumption; (first | fail); exact rfl))
  all_goals (try conv => whnf)
  exact pn_is rfl
theorem line_is {G : Glo} (b : Nat) (s : List UInt8) (a : Nat) (cr : Bool) (c : Int) (hl : s.length ≤ 1000000) (ha : a ≤ s.length) : FnSpec Tryz.prog G 25 [.raw (pS b), .int .u8 c] [rdC b s a cr]
    (fun r H => r = .ret (.bool (atB s a c)) ∧ H = [rdC b s (if atB s a c then a + 1 else a) cr]) := by
  have hGL : GloAll G [] := gloAll_nil
  refine fn_own [(0, 0, pS b)] Tryz.func25 Tryz.call25 rfl rfl rfl rfl (by repeat (first | exact trivial | refine And.intro ⟨rfl, rfl⟩ ?_)) ?_
  intro C hC
  cases h : atB s a c with
  | true =>
    obtain ⟨h1, h2⟩ := atB_t.1 h
    rw [if_pos rfl]
    refine aw_code hC hGL (xw ?_)
    repeat' (first | exact Le.n | refine Lc.mk ?_ ?_)
    all_goals intros
    all_goals skip
  | false =>
    have h1 := atB_f.1 h
    rw [if_neg (by decide)]
    refine aw_code hC hGL (xw ?_)
    repeat' (first | exact Le.n | refine Lc.mk ?_ ?_)
    all_goals intros
    all_goals skip
theorem line_word {G : Glo} (b : Nat) (s : List UInt8) (a : Nat) (cr : Bool) (hl : s.length ≤ 1000000) (ha : a ≤ s.length) : FnSpec Tryz.prog G 24 [.raw (pS b)] [rdC b s a cr]
    (fun r H => (∃ w j, wordP s a = .ok (w, j) ∧ r = .ret (.str w) ∧ H = [rdC b s j cr]) ∨ (∃ e p j, wordP s a = .bad e p ∧ r = .panic (fltA e p) ∧ H = [rdC b s j cr])) := by
  have hI := fun t h => name_Is (G := G) t h
  have hc := Tryz.call39
  have hT := fun e p => line_throw (G := G) (pS b) e p
  have hGL : GloAll G [] := gloAll_nil
  refine fn_own [(0, 0, pS b)] Tryz.func24 Tryz.call24 rfl rfl rfl rfl (by repeat (first | exact trivial | refine And.intro ⟨rfl, rfl⟩ ?_)) ?_
  intro C hC
  refine aw_code hC hGL (xw1 ?_)
  refine lp hC hGL (fun x : Nat => [(0, .own 0 (pS b)), (3, .int .i64 (a : Nat))]) (fun x => [rdC b s x cr]) (fun x => a ≤ x ∧ x ≤ s.length ∧ spanN letterB s x = spanN letterB s a) (fun x => s.length - x) a ⟨Nat.le_refl _, ha, rfl⟩ env_w rfl ?_
  rintro x ⟨h1, h2, h3⟩
  by_cases hx : x < s.length
  · have k1 : FnIs Tryz.prog G 39 [.str ((s.take (x + 1)).drop x)] (.bool (letterB (byteAt s x : Int))) := by
      have := hI ((s.take (x + 1)).drop x) (by rw [List.length_drop, List.length_take]; omega)
      rwa [one_letter hx] at this
    cases hk : letterB (byteAt s x : Int) with
    | true =>
      rw [hk] at k1
      refine xw1 ?_
      intros
      exact nxt (x + 1) ⟨by omega, by omega, (span_go hx hk).symm.trans h3⟩ (by omega) env_w rfl
    | false =>
      rw [hk] at k1
      have hsp : spanN letterB s a = x := h3.symm.trans (span_no hk)
      have k2 := hI ((s.take x).drop a) (by rw [List.length_drop, List.length_take]; omega)
      cases hw : isS ((s.take x).drop a) with
      | true =>
        have hr : wordP s a = .ok ((s.take x).drop a, x) := by unfold wordP; rw [hsp, if_pos hw]
        rw [hw] at k2
        refine xw1 ?_
        intros
        exact ⟨_, List.Sublist.refl _, .inl ⟨_, _, hr, rfl, rfl⟩⟩
      | false =>
        have hr : wordP s a = .bad 5 a := by unfold wordP; rw [hsp, if_neg (by rw [hw]; decide)]
        rw [hw] at k2
        refine xw1 ?_
        intros
        refine cx_panic (hT 5 a) ?_
        exact ⟨_, List.Sublist.refl _, .inr ⟨_, _, _, hr, rfl, rfl⟩⟩
  · have hsp : spanN letterB s a = x := h3.symm.trans (span_end (by omega))
    have k2 := hI ((s.take x).drop a) (by rw [List.length_drop, List.length_take]; omega)
    cases hw : isS ((s.take x).drop a) with
    | true =>
      have hr : wordP s a = .ok ((s.take x).drop a, x) := by unfold wordP; rw [hsp, if_pos hw]
      rw [hw] at k2
      refine xw1 ?_
      intros
      exact ⟨_, List.Sublist.refl _, .inl ⟨_, _, hr, rfl, rfl⟩⟩
    | false =>
      have hr : wordP s a = .bad 5 a := by unfold wordP; rw [hsp, if_neg (by rw [hw]; decide)]
      rw [hw] at k2
      refine xw1 ?_
      intros
      refine cx_panic (hT 5 a) ?_
      exact ⟨_, List.Sublist.refl _, .inr ⟨_, _, _, hr, rfl, rfl⟩⟩
theorem endQ_idx {q : Bool} {c : Int} (h0 : 0 ≤ c) (h1 : c < 256) : endQ q c = (decide (c = 34) || (!q && decide (0 ≤ idxB [44, 59, 58] c))) := by
  have e : 0 ≤ idxB [44, 59, 58] c ↔ (c = 44 ∨ c = 59 ∨ c = 58) := by
    have := idx_three (a := 44) (b := 59) (c := 58) c
    rw [this]
    simp
  rw [Bool.eq_iff_iff, endQ_t, Bool.or_eq_true, Bool.and_eq_true, decide_eq_true_eq, decide_eq_true_eq, e]
  cases q <;> simp
theorem line_value {G : Glo} (b : Nat) (s : List UInt8) (a : Nat) (cr : Bool) (hl : s.length ≤ 1000000) (ha : a ≤ s.length) : FnSpec Tryz.prog G 40 [.raw (pS b)] [rdC b s a cr]
    (fun r H => (∃ v j, valP cr s a = .ok (v, j) ∧ r = .ret (.str v) ∧ H = [rdC b s j cr]) ∨ (∃ e p j, valP cr s a = .bad e p ∧ r = .panic (fltA e p) ∧ H = [rdC b s j cr])) := by
  have hX := fun c h0 h1 => strings_IndexByte (G := G) [44, 59, 58] c h0 h1
  have hN := fun c => line_control (G := G) c
  have hT := fun e p => line_throw (G := G) (pS b) e p
  have hD := fun t h => caret_Decode (G := G) t h
  have hi1 := line_is (G := G) b s a cr 34 hl ha
  have hq := valF_ge s a
  have eF : (if atB s a 34 then a + 1 else a) = valF s a := rfl
  rw [eF] at hi1
  have hGL : GloAll G [] := gloAll_nil
  refine fn_own [(0, 0, pS b)] Tryz.func40 Tryz.call40 rfl rfl rfl rfl (by repeat (first | exact trivial | refine And.intro ⟨rfl, rfl⟩ ?_)) ?_
  intro C hC
  refine aw_code hC hGL (xw1 ?_)
  refine lp hC hGL (fun x : Nat => [(0, .own 0 (pS b)), (3, .bool (atB s a 34)), (4, .int .i64 (valF s a : Nat))]) (fun x => [rdC b s x cr]) (fun x => valF s a ≤ x ∧ x ≤ s.length ∧ spanN (goQ (atB s a 34)) s x = valJ s a) (fun x => s.length - x) (valF s a) ⟨Nat.le_refl _, hq.2.2 ha, rfl⟩ env_w rfl ?_
  rintro x ⟨h1, h2, h3⟩
  have hlv : ((s.take x).drop (valF s a)).length ≤ 1000000 := by rw [List.length_drop, List.length_take]; omega
  have hd := hD ((s.take x).drop (valF s a)) hlv
  have hi2 := line_is (G := G) b s x cr 34 hl h2
  have fin : ∀ {v : List UInt8} {j : Nat} {w : AVal} {H : Heap}, valP cr s a = .ok (v, j) → w = .str v → H = [rdC b s j cr] → Rt (fun r H => (∃ v j, valP cr s a = .ok (v, j) ∧ r = .ret (.str v) ∧ H = [rdC b s j cr]) ∨ (∃ e p j, valP cr s a = .bad e p ∧ r = .panic (fltA e p) ∧ H = [rdC b s j cr])) w H := by
    rintro v j w H h1 rfl rfl
    exact ⟨_, List.Sublist.refl _, .inl ⟨_, _, h1, rfl, rfl⟩⟩
  have bad : ∀ {e p : Int} {n j : Nat} {H : Heap}, valP cr s a = .bad e n → p = n → H = [rdC b s j cr] → Pn (fun r H => (∃ v j, valP cr s a = .ok (v, j) ∧ r = .ret (.str v) ∧ H = [rdC b s j cr]) ∨ (∃ e p j, valP cr s a = .bad e p ∧ r = .panic (fltA e p) ∧ H = [rdC b s j cr])) (fltA e p) H := by
    rintro e p n j H h1 rfl rfl
    exact ⟨_, List.Sublist.refl _, .inr ⟨_, _, _, h1, rfl, rfl⟩⟩
  by_cases hx : x < s.length
  · have hb := byteAt_lt s x
    have hx1 := hX (byteAt s x : Int) (by omega) (by omega)
    have hn1 := hN (byteAt s x : Int)
    have he := endQ_idx (q := atB s a 34) (c := (byteAt s x : Int)) (by omega) (by omega)
    generalize idxB [44, 59, 58] (byteAt s x : Int) = ix at hx1 he
    cases hk : endQ (atB s a 34) (byteAt s x : Int) with
    | false =>
      have h34 : (byteAt s x : Int) ≠ 34 := fun h => (endQ_f.1 hk) (.inl h)
      rw [hk] at he
      have hix : atB s a 34 = false → ix < 0 := fun h => by
        rw [h] at he
        have he := he.symm
        rw [Bool.or_eq_false_iff, Bool.not_false, Bool.true_and, decide_eq_false_iff_not, decide_eq_false_iff_not] at he
        omega
      cases hc : hdC false (byteAt s x : Int) with
      | false =>
        rw [hc] at hn1
        have hgo : goQ (atB s a 34) (byteAt s x : Int) = true := by unfold goQ; rw [hk, hc]; rfl
        have k : valF s a ≤ x + 1 ∧ x + 1 ≤ s.length ∧ spanN (goQ (atB s a 34)) s (x + 1) = valJ s a := ⟨by omega, by omega, (span_go hx hgo).symm.trans h3⟩
        cases hqa : atB s a 34 with
        | true =>
          rw [hqa] at k
          refine xw1 ?_
          intros
          exact nxt (x + 1) k (by omega) env_w rfl
        | false =>
          have hix := hix hqa
          rw [hqa] at k
          refine xw1 ?_
          intros
          exact nxt (x + 1) k (by omega) env_w rfl
      | true =>
        rw [hc] at hn1
        have hJ : valJ s a = x := h3.symm.trans (span_no (by unfold goQ; rw [hk, hc]; rfl))
        have hv : valP cr s a = .bad 3 x := by unfold valP; rw [hJ, if_pos ⟨hx, hk⟩]
        cases hqa : atB s a 34 with
        | true =>
          refine xw1 ?_
          intros
          refine cx_panic (hT 3 x) ?_
          exact bad hv rfl rfl
        | false =>
          have hix := hix hqa
          refine xw1 ?_
          intros
          refine cx_panic (hT 3 x) ?_
          exact bad hv rfl rfl
    | true =>
      have hJ : valJ s a = x := h3.symm.trans (span_no (by unfold goQ; rw [hk]; rfl))
      cases hqa : atB s a 34 with
      | true =>
        rw [hqa] at hk
        have h34 : (byteAt s x : Int) = 34 := by
          rcases endQ_t.1 hk with h | ⟨h, _⟩
          · exact h
          · cases h
        rw [atB_t.2 ⟨hx, h34⟩, if_pos rfl] at hi2
        have hv : valP cr s a = .ok (dIf cr ((s.take x).drop (valF s a)), x + 1) := by
          unfold valP
          rw [hJ, hqa, if_neg (by rw [hk]; simp), if_neg (by decide), if_pos hx]
        cases cr with
        | true =>
          refine xw1 ?_
          intros
          exact fin hv rfl rfl
        | false =>
          refine xw1 ?_
          intros
          exact fin hv rfl rfl
      | false =>
        rw [hk, hqa] at he
        have hv : valP cr s a = .ok (dIf cr ((s.take x).drop (valF s a)), x) := by
          unfold valP
          rw [hJ, hk, if_neg (by simp), if_pos hqa]
        by_cases h34 : (byteAt s x : Int) = 34
        · cases cr with
          | true =>
            refine xw1 ?_
            intros
            exact fin hv rfl rfl
          | false =>
            refine xw1 ?_
            intros
            exact fin hv rfl rfl
        · have hix : 0 ≤ ix := by
            rw [decide_eq_false h34] at he
            simpa using he
          cases cr with
          | true =>
            refine xw1 ?_
            intros
            exact fin hv rfl rfl
          | false =>
            refine xw1 ?_
            intros
            exact fin hv rfl rfl
  · have hJ : valJ s a = x := h3.symm.trans (span_end (by omega))
    cases hqa : atB s a 34 with
    | true =>
      rw [atB_f.2 (by omega), if_neg (by decide)] at hi2
      have hv : valP cr s a = .bad 7 x := by
        unfold valP
        rw [hJ, hqa, if_neg (by omega), if_neg (by decide), if_neg hx]
      refine xw1 ?_
      intros
      refine cx_panic (hT 7 x) ?_
      exact bad hv rfl rfl
    | false =>
      have hv : valP cr s a = .ok (dIf cr ((s.take x).drop (valF s a)), x) := by
        unfold valP
        rw [hJ, hqa, if_neg (by omega), if_pos rfl]
      cases cr with
      | true =>
        refine xw1 ?_
        intros
        exact fin hv rfl rfl
      | false =>
        refine xw1 ?_
        intros
        exact fin hv rfl rfl
end Go.Proofs.YtkmpcdlmeiophaaGreatDoor
