/- Parts of the proof of lineParses_card: Rph, Rpg, Rpi, App, Rpw. -/
import Derived.Test.YtkmpcdlmeiophaaGreatDoorBaf
import Derived.Test.YtkmpcdlmeiophaaGreatDoorBae
set_option linter.unusedVariables false
set_option linter.unusedSimpArgs false
namespace Go.Proofs.YtkmpcdlmeiophaaGreatDoor
open Go Go.RowKit
set_option maxRecDepth 20000
set_option maxHeartbeats 4000000
set_option linter.unusedSimpArgs false
set_option linter.unusedVariables false
attribute [local irreducible] AWp AOps SrcOK OrOk GloAll FnSpec
/-- A replacer's cells: the root's table, the table's size, the bytes' numbers. -/
def genC (t : AVal) (n : Int) (m : List AVal) : List AVal := [.str [], .int .i64 0, .str [], .raw (.pointer none), t, .int .i64 n] ++ m
/-- The bytes' numbers. -/
def mapD : List AVal := (((List.replicate 256 (.int .u8 3)).set 39 (.int .u8 0)).set 94 (.int .u8 1)).set 110 (.int .u8 2)
theorem leaf_add {G : Glo} (b : Nat) (v : List UInt8) (p : Int) (c2 c3 c4 : AVal) (u : Value) : FnSpec Tryz.prog G 98 [.raw (pv b 0), .str [], .str v, .int .i64 p, .raw u] [.cells b (some 190) [.str [], .int .i64 0, c2, c3, c4]]
    (fun r H => r = .ret (.tuple []) ∧ H = [.cells b (some 190) [.str v, .int .i64 p, c2, c3, c4]]) := by
  have hGL : GloAll G [] := gloAll_nil
  refine fn_xp 0 Tryz.func98 Tryz.call98 rfl rfl rfl rfl hGL rfl ?_
  intro C hC
  repeat' (first
    | (conv => whnf); first
      | refine .w ?_ | (first | refine Ix.v ?_ | refine Sd.v ?_ | refine Sl.v ?_) | apply sc_true | apply sc_false
      | (first | apply sc_lt | apply sc_nlt | apply sc_eq | apply sc_neq | apply sc_nil | apply sc_nnil) <;> (intro hb; try exact dd hb)
      | apply sc_not | (apply sc_i <;> intro hb) | (apply bx_i; intro hbd) | (apply gt_i; assumption; exact rfl)
      | (apply cx_is; first | fail) | (apply ab_i; intro bl) | (apply rt_is; exact rfl) | exact rt_w
      | exact True.intro | (apply bc_i; intro C hC) | apply bt_i | apply og_n | (apply og_a; exact rfl))
  all_goals (try conv => whnf)
theorem add_1 {G : Glo} (bg bt n1 : Nat) (x0 x1 x2 x3 : HEnt) (u : Value) : FnSpec Tryz.prog G 98 [.raw (pv n1 0), .str [94], .str [94], .int .i64 6, .raw u] [x0, x1, x2, x3, .cells n1 (some 190) [.str [], .int .i64 0, .str [], .raw (.pointer none), .raw (.slice none 0 0)]]
    (fun r H => ∃ n2, r = .ret (.tuple []) ∧ H = [x0, x1, x2, x3, .cells n1 (some 190) [.str [], .int .i64 0, .str [94], .own 5 (pv n2 0), .raw (.slice none 0 0)], .cells n2 (some 190) [.str [94], .int .i64 6, .str [], .raw (.pointer none), .raw (.slice none 0 0)]]) := by
  have hGL : GloAll G [] := gloAll_nil
  refine fn_xp 4 Tryz.func98 Tryz.call98 rfl rfl rfl rfl hGL rfl ?_
  intro C hC
  repeat' (first
    | (conv => whnf); first
      | refine .w ?_ | (first | refine Ix.v ?_ | refine Sd.v ?_ | refine Sl.v ?_) | apply sc_true | apply sc_false
      | (first | apply sc_lt | apply sc_nlt | apply sc_eq | apply sc_neq | apply sc_nil | apply sc_nnil) <;> (intro hb; try exact dd hb)
      | apply sc_not | (apply sc_i <;> intro hb) | (apply bx_i; intro hbd) | (apply gt_i; assumption; exact rfl)
      | (apply cx_is; first | fail) | (apply ab_i; intro bl) | (apply rt_is; exact rfl) | exact rt_w
      | exact True.intro | (apply bc_i; intro C hC) | apply bt_i | apply og_n | (apply og_a; exact rfl))
  all_goals (try conv => whnf)
  refine cx_do (i := 5) rfl (leaf_add _ _ _ _ _ _ _) ?_
  repeat' (first
    | (conv => whnf); first
      | refine .w ?_ | (first | refine Ix.v ?_ | refine Sd.v ?_ | refine Sl.v ?_) | apply sc_true | apply sc_false
      | (first | apply sc_lt | apply sc_nlt | apply sc_eq | apply sc_neq | apply sc_nil | apply sc_nnil) <;> (intro hb; try exact dd hb)
      | apply sc_not | (apply sc_i <;> intro hb) | (apply bx_i; intro hbd) | (apply gt_i; assumption; exact rfl)
      | (apply cx_is; first | fail) | (apply ab_i; intro bl) | (apply rt_is; exact rfl) | exact rt_w
      | exact True.intro | (apply bc_i; intro C hC) | apply bt_i | apply og_n | (apply og_a; exact rfl))
  all_goals (try conv => whnf)
  exact ⟨_, List.Sublist.refl _, _, rfl, rfl⟩
theorem add_2 {G : Glo} (bg bt n1 n2 : Nat) (x0 x1 x3 : HEnt) : FnSpec Tryz.prog G 98 [.raw (pv n1 0), .str [110], .str [10], .int .i64 4, .raw (pv bg 0)] [x0, x1, .cells bg (some 192) (genC (.own 3 (.slice (some ⟨bt, 0, none⟩) 3 3)) 3 mapD), x3, .cells n1 (some 190) [.str [], .int .i64 0, .str [94], .own 5 (pv n2 0), .raw (.slice none 0 0)], .cells n2 (some 190) [.str [94], .int .i64 6, .str [], .raw (.pointer none), .raw (.slice none 0 0)]]
    (fun r H => ∃ n3 b7, r = .ret (.tuple []) ∧ H = [x0, x1, .cells bg (some 192) (genC (.own 3 (.slice (some ⟨bt, 0, none⟩) 3 3)) 3 mapD), x3, .cells n1 (some 190) [.str [], .int .i64 0, .str [], .raw (.pointer none), .own 7 (.slice (some ⟨b7, 0, none⟩) 3 3)], .cells n2 (some 190) [.str [94], .int .i64 6, .str [], .raw (.pointer none), .raw (.slice none 0 0)], .cells n3 (some 190) [.str [10], .int .i64 4, .str [], .raw (.pointer none), .raw (.slice none 0 0)], .row (.slice (some ⟨b7, 0, none⟩) 3 3) (some 187) 1 3 [.raw (.pointer none), .own 5 (pv n2 0), .own 6 (pv n3 0)]]) := by
  have hGL : GloAll G [] := gloAll_nil
  refine fn_xt 4 0 2 4 Tryz.func98 Tryz.call98 rfl rfl rfl rfl hGL rfl rfl rfl rfl ?_
  intro C hC
  repeat' (first
    | (conv => whnf); first
      | refine .w ?_ | (first | refine Ix.v ?_ | refine Sd.v ?_ | refine Sl.v ?_) | apply sc_true | apply sc_false
      | (first | apply sc_lt | apply sc_nlt | apply sc_eq | apply sc_neq | apply sc_nil | apply sc_nnil) <;> (intro hb; try exact dd hb)
      | apply sc_not | (apply sc_i <;> intro hb) | (apply bx_i; intro hbd) | (apply gt_i; assumption; exact rfl)
      | (apply cx_is; first | fail) | (apply ab_i; intro bl) | (apply rt_is; exact rfl) | exact rt_w
      | exact True.intro | (apply bc_i; intro C hC) | apply bt_i | apply og_n | (apply og_a; exact rfl))
  all_goals (try conv => whnf)
  refine rds hC hGL 1 ?_
  repeat' (first
    | (conv => whnf); first
      | refine .w ?_ | (first | refine Ix.v ?_ | refine Sd.v ?_ | refine Sl.v ?_) | apply sc_true | apply sc_false
      | (first | apply sc_lt | apply sc_nlt | apply sc_eq | apply sc_neq | apply sc_nil | apply sc_nnil) <;> (intro hb; try exact dd hb)
      | apply sc_not | (apply sc_i <;> intro hb) | (apply bx_i; intro hbd) | (apply gt_i; assumption; exact rfl)
      | (apply cx_is; first | fail) | (apply ab_i; intro bl) | (apply rt_is; exact rfl) | exact rt_w
      | exact True.intro | (apply bc_i; intro C hC) | apply bt_i | apply og_n | (apply og_a; exact rfl))
  all_goals (try conv => whnf)
  refine dw_p mixed hC hGL false (fun (_ : Unit) => [(0, .own 4 (pv n1 0)), (1, .str [110]), (2, .str [10]), (3, .int .i64 4), (4, .own 2 (pv bg 0)), (10, .int .i64 0), (59, .bool (!eqB ((byteAt [94] 0 : Nat) : Int) ((byteAt [110] 0 : Nat) : Int)))]) (fun _ => [x0, x1, .cells bg (some 192) (genC (.own 3 (.slice (some ⟨bt, 0, none⟩) 3 3)) 3 mapD), x3, .cells n1 (some 190) [.str [], .int .i64 0, .str [94], .own 5 (pv n2 0), .raw (.slice none 0 0)], .cells n2 (some 190) [.str [94], .int .i64 6, .str [], .raw (.pointer none), .raw (.slice none 0 0)]]) (.take 0 (.take 1 (.take 2 (.take 4 (.take 6 (.take 7 (.take 8 (.br 3 (.take 5 (.take 9 (.done))) (.nil))))))))) (by kernel_rfl) ?_ ?_
  · repeat' (first
      | (conv => whnf); first
        | refine .w ?_ | (first | refine Ix.v ?_ | refine Sd.v ?_ | refine Sl.v ?_) | apply sc_true | apply sc_false
        | (first | apply sc_lt | apply sc_nlt | apply sc_eq | apply sc_neq | apply sc_nil | apply sc_nnil) <;> (intro hb; try exact dd hb)
        | apply sc_not | (apply sc_i <;> intro hb) | (apply bx_i; intro hbd) | (apply gt_i; assumption; exact rfl)
        | (apply cx_is; first | fail) | (apply ab_i; intro bl) | (apply rt_is; exact rfl) | exact rt_w
        | exact True.intro | (apply bc_i; intro C hC) | apply bt_i | apply og_n | (apply og_a; exact rfl))
    all_goals (try conv => whnf)
    exact ⟨(), ⟨rfl, rfl, rfl, rfl, rfl, rfl, rfl, trivial⟩, rfl⟩
  intro _
  repeat' (first
    | (conv => whnf); first
      | refine .w ?_ | (first | refine Ix.v ?_ | refine Sd.v ?_ | refine Sl.v ?_) | apply sc_true | apply sc_false
      | (first | apply sc_lt | apply sc_nlt | apply sc_eq | apply sc_neq | apply sc_nil | apply sc_nnil) <;> (intro hb; try exact dd hb)
      | apply sc_not | (apply sc_i <;> intro hb) | (apply bx_i; intro hbd) | (apply gt_i; assumption; exact rfl)
      | (apply cx_is; first | fail) | (apply ab_i; intro bl) | (apply rt_is; exact rfl) | exact rt_w
      | exact True.intro | (apply bc_i; intro C hC) | apply bt_i | apply og_n | (apply og_a; exact rfl))
  all_goals (try conv => whnf)
  rename Nat => n3
  refine op1_makeP (m := 3) hC hGL rfl rfl (by omega) rfl rfl rfl rfl rfl rfl rfl rfl (fun b7 => ?_)
  have w1 : RowAt (.slice (some ⟨b7, 0, none⟩) 3 3) b7 3 ∧ 1 + 1 ≤ 3 * 1 ∧ 0 < 3 := ⟨⟨_, rfl⟩, by decide, by decide⟩
  have w2 : RowAt (.slice (some ⟨b7, 0, none⟩) 3 3) b7 3 ∧ 2 + 1 ≤ 3 * 1 ∧ 0 < 3 := ⟨⟨_, rfl⟩, by decide, by decide⟩
  repeat' (first
    | (conv => whnf); first
      | refine .w ?_ | (first | refine Ix.v ?_ | refine Sd.v ?_ | refine Sl.v ?_) | apply sc_true | apply sc_false
      | (first | apply sc_lt | apply sc_nlt | apply sc_eq | apply sc_neq | apply sc_nil | apply sc_nnil) <;> (intro hb; try exact dd hb)
      | apply sc_not | (apply sc_i <;> intro hb) | (apply bx_i; intro hbd) | (apply gt_i; assumption; exact rfl)
      | (apply cx_is; first | fail) | (apply ab_i; intro bl) | (apply rt_is; exact rfl) | exact rt_w
      | exact True.intro | (apply bc_i; intro C hC) | apply bt_i | apply og_n | (apply og_a; exact rfl))
  all_goals (try conv => whnf)
  refine dw_p mixed hC hGL false (fun (_ : Unit) => [(0, .own 4 (pv n1 0)), (1, .str [110]), (2, .str [10]), (3, .int .i64 4), (4, .own 2 (pv bg 0)), (12, .own 6 (pv n3 0))]) (fun _ => [x0, x1, .cells bg (some 192) (genC (.own 3 (.slice (some ⟨bt, 0, none⟩) 3 3)) 3 mapD), x3, .cells n1 (some 190) [.str [], .int .i64 0, .str [94], .own 5 (pv n2 0), .own 7 (.slice (some ⟨b7, 0, none⟩) 3 3)], .cells n2 (some 190) [.str [94], .int .i64 6, .str [], .raw (.pointer none), .raw (.slice none 0 0)], .cells n3 (some 190) [.str [], .int .i64 0, .str [], .raw (.pointer none), .raw (.slice none 0 0)], .row (.slice (some ⟨b7, 0, none⟩) 3 3) (some 187) 1 3 [.raw (.pointer none), .own 5 (pv n2 0), .raw (.pointer none)]]) (.take 0 (.take 1 (.take 2 (.take 4 (.take 5 (.take 6 (.take 7 (.take 10 (.take 11 (.take 14 (.br 3 (.br 8 (.take 9 (.take 12 (.br 13 (.take 15 (.br 16 (.done) (.nil))) (.nil)))) (.nil)) (.br 8 (.take 9 (.take 12 (.br 3 (.br 13 (.take 15 (.br 16 (.done) (.nil))) (.nil)) (.br 13 (.br 3 (.take 15 (.br 16 (.done) (.nil))) (.nil)) (.nil))))) (.nil))))))))))))) (by kernel_rfl) ?_ ?_
  · repeat' (first
      | (conv => whnf); first
        | refine .w ?_ | (first | refine Ix.v ?_ | refine Sd.v ?_ | refine Sl.v ?_) | apply sc_true | apply sc_false
        | (first | apply sc_lt | apply sc_nlt | apply sc_eq | apply sc_neq | apply sc_nil | apply sc_nnil) <;> (intro hb; try exact dd hb)
        | apply sc_not | (apply sc_i <;> intro hb) | (apply bx_i; intro hbd) | (apply gt_i; assumption; exact rfl)
        | (apply cx_is; first | fail) | (apply ab_i; intro bl) | (apply rt_is; exact rfl) | exact rt_w
        | exact True.intro | (apply bc_i; intro C hC) | apply bt_i | apply og_n | (apply og_a; exact rfl))
    all_goals (try conv => whnf)
    all_goals exact ⟨(), ⟨rfl, rfl, rfl, rfl, rfl, rfl, trivial⟩, rfl⟩
  intro _
  repeat' (first
    | (conv => whnf); first
      | refine .w ?_ | (first | refine Ix.v ?_ | refine Sd.v ?_ | refine Sl.v ?_) | apply sc_true | apply sc_false
      | (first | apply sc_lt | apply sc_nlt | apply sc_eq | apply sc_neq | apply sc_nil | apply sc_nnil) <;> (intro hb; try exact dd hb)
      | apply sc_not | (apply sc_i <;> intro hb) | (apply bx_i; intro hbd) | (apply gt_i; assumption; exact rfl)
      | (apply cx_is; first | fail) | (apply ab_i; intro bl) | (apply rt_is; exact rfl) | exact rt_w
      | exact True.intro | (apply bc_i; intro C hC) | apply bt_i | apply og_n | (apply og_a; exact rfl))
  all_goals (try conv => whnf)
  refine dw_p mixed hC hGL false (fun (_ : Unit) => [(0, .own 4 (pv n1 0)), (1, .str [110]), (2, .str [10]), (3, .int .i64 4), (4, .own 2 (pv bg 0)), (12, .own 6 (pv n3 0))]) (fun _ => [x0, x1, .cells bg (some 192) (genC (.own 3 (.slice (some ⟨bt, 0, none⟩) 3 3)) 3 mapD), x3, .cells n1 (some 190) [.str [], .int .i64 0, .str [94], .own 5 (pv n2 0), .own 7 (.slice (some ⟨b7, 0, none⟩) 3 3)], .cells n2 (some 190) [.str [94], .int .i64 6, .str [], .raw (.pointer none), .raw (.slice none 0 0)], .cells n3 (some 190) [.str [], .int .i64 0, .str [], .raw (.pointer none), .raw (.slice none 0 0)], .row (.slice (some ⟨b7, 0, none⟩) 3 3) (some 187) 1 3 [.raw (.pointer none), .own 5 (pv n2 0), .own 6 (pv n3 0)]]) (.take 0 (.take 1 (.take 2 (.take 4 (.take 5 (.take 6 (.take 7 (.take 8 (.take 9 (.take 11 (.br 3 (.br 10 (.take 12 (.br 13 (.done) (.nil))) (.nil)) (.br 10 (.br 3 (.take 12 (.br 13 (.done) (.nil))) (.nil)) (.nil))))))))))))) (by kernel_rfl) ?_ ?_
  · repeat' (first
      | (conv => whnf); first
        | refine .w ?_ | (first | refine Ix.v ?_ | refine Sd.v ?_ | refine Sl.v ?_) | apply sc_true | apply sc_false
        | (first | apply sc_lt | apply sc_nlt | apply sc_eq | apply sc_neq | apply sc_nil | apply sc_nnil) <;> (intro hb; try exact dd hb)
        | apply sc_not | (apply sc_i <;> intro hb) | (apply bx_i; intro hbd) | (apply gt_i; assumption; exact rfl)
        | (apply cx_is; first | fail) | (apply ab_i; intro bl) | (apply rt_is; exact rfl) | exact rt_w
        | exact True.intro | (apply bc_i; intro C hC) | apply bt_i | apply og_n | (apply og_a; exact rfl))
    all_goals (try conv => whnf)
    all_goals exact ⟨(), ⟨rfl, rfl, rfl, rfl, rfl, rfl, trivial⟩, rfl⟩
  intro _
  repeat' (first
    | (conv => whnf); first
      | refine .w ?_ | (first | refine Ix.v ?_ | refine Sd.v ?_ | refine Sl.v ?_) | apply sc_true | apply sc_false
      | (first | apply sc_lt | apply sc_nlt | apply sc_eq | apply sc_neq | apply sc_nil | apply sc_nnil) <;> (intro hb; try exact dd hb)
      | apply sc_not | (apply sc_i <;> intro hb) | (apply bx_i; intro hbd) | (apply gt_i; assumption; exact rfl)
      | (apply cx_is; first | fail) | (apply ab_i; intro bl) | (apply rt_is; exact rfl) | exact rt_w
      | exact True.intro | (apply bc_i; intro C hC) | apply bt_i | apply og_n | (apply og_a; exact rfl))
  all_goals (try conv => whnf)
  refine cx_do (i := 6) rfl (leaf_add _ _ _ _ _ _ _) ?_
  repeat' (first
    | (conv => whnf); first
      | refine .w ?_ | (first | refine Ix.v ?_ | refine Sd.v ?_ | refine Sl.v ?_) | apply sc_true | apply sc_false
      | (first | apply sc_lt | apply sc_nlt | apply sc_eq | apply sc_neq | apply sc_nil | apply sc_nnil) <;> (intro hb; try exact dd hb)
      | apply sc_not | (apply sc_i <;> intro hb) | (apply bx_i; intro hbd) | (apply gt_i; assumption; exact rfl)
      | (apply cx_is; first | fail) | (apply ab_i; intro bl) | (apply rt_is; exact rfl) | exact rt_w
      | exact True.intro | (apply bc_i; intro C hC) | apply bt_i | apply og_n | (apply og_a; exact rfl))
  all_goals (try conv => whnf)
  exact ⟨_, List.Sublist.refl _, _, _, rfl, rfl⟩
theorem add_3 {G : Glo} (bg bt n1 n2 n3 b7 : Nat) (x0 x1 x3 : HEnt) : FnSpec Tryz.prog G 98 [.raw (pv n1 0), .str [39], .str [34], .int .i64 2, .raw (pv bg 0)] [x0, x1, .cells bg (some 192) (genC (.own 3 (.slice (some ⟨bt, 0, none⟩) 3 3)) 3 mapD), x3, .cells n1 (some 190) [.str [], .int .i64 0, .str [], .raw (.pointer none), .own 7 (.slice (some ⟨b7, 0, none⟩) 3 3)], .cells n2 (some 190) [.str [94], .int .i64 6, .str [], .raw (.pointer none), .raw (.slice none 0 0)], .cells n3 (some 190) [.str [10], .int .i64 4, .str [], .raw (.pointer none), .raw (.slice none 0 0)], .row (.slice (some ⟨b7, 0, none⟩) 3 3) (some 187) 1 3 [.raw (.pointer none), .own 5 (pv n2 0), .own 6 (pv n3 0)]]
    (fun r H => ∃ n4, r = .ret (.tuple []) ∧ H = [x0, x1, .cells bg (some 192) (genC (.own 3 (.slice (some ⟨bt, 0, none⟩) 3 3)) 3 mapD), x3, .cells n1 (some 190) [.str [], .int .i64 0, .str [], .raw (.pointer none), .own 7 (.slice (some ⟨b7, 0, none⟩) 3 3)], .cells n2 (some 190) [.str [94], .int .i64 6, .str [], .raw (.pointer none), .raw (.slice none 0 0)], .cells n3 (some 190) [.str [10], .int .i64 4, .str [], .raw (.pointer none), .raw (.slice none 0 0)], .row (.slice (some ⟨b7, 0, none⟩) 3 3) (some 187) 1 3 [.own 8 (pv n4 0), .own 5 (pv n2 0), .own 6 (pv n3 0)], .cells n4 (some 190) [.str [34], .int .i64 2, .str [], .raw (.pointer none), .raw (.slice none 0 0)]]) := by
  have hGL : GloAll G [] := gloAll_nil
  refine fn_xt 4 0 2 4 Tryz.func98 Tryz.call98 rfl rfl rfl rfl hGL rfl rfl rfl rfl ?_
  intro C hC
  have q7 : RowAt (.slice (some ⟨b7, 0, none⟩) 3 3) b7 3 := ⟨_, rfl⟩
  have w0 : RowAt (.slice (some ⟨b7, 0, none⟩) 3 3) b7 3 ∧ 0 + 1 ≤ 3 * 1 ∧ 0 < 3 := ⟨⟨_, rfl⟩, by decide, by decide⟩
  have g0 : ([.raw (.pointer none), .own 5 (pv n2 0), .own 6 (pv n3 0)] : List AVal)[0]? = some (.raw (.pointer none)) := rfl
  repeat' (first
    | (conv => whnf); first
      | refine .w ?_ | (first | refine Ix.v ?_ | refine Sd.v ?_ | refine Sl.v ?_) | apply sc_true | apply sc_false
      | (first | apply sc_lt | apply sc_nlt | apply sc_eq | apply sc_neq | apply sc_nil | apply sc_nnil) <;> (intro hb; try exact dd hb)
      | apply sc_not | (apply sc_i <;> intro hb) | (apply bx_i; intro hbd) | (apply gt_i; assumption; exact rfl)
      | (apply cx_is; first | fail) | (apply ab_i; intro bl) | (apply rt_is; exact rfl) | exact rt_w
      | exact True.intro | (apply bc_i; intro C hC) | apply bt_i | apply og_n | (apply og_a; exact rfl))
  all_goals (try conv => whnf)
  refine dw_p mixed hC hGL false (fun (_ : Unit) => [(0, .own 4 (pv n1 0)), (1, .str [39]), (2, .str [34]), (3, .int .i64 2), (4, .own 2 (pv bg 0)), (14, .int .u8 0)]) (fun _ => [x0, x1, .cells bg (some 192) (genC (.own 3 (.slice (some ⟨bt, 0, none⟩) 3 3)) 3 mapD), x3, .cells n1 (some 190) [.str [], .int .i64 0, .str [], .raw (.pointer none), .own 7 (.slice (some ⟨b7, 0, none⟩) 3 3)], .cells n2 (some 190) [.str [94], .int .i64 6, .str [], .raw (.pointer none), .raw (.slice none 0 0)], .cells n3 (some 190) [.str [10], .int .i64 4, .str [], .raw (.pointer none), .raw (.slice none 0 0)], .row (.slice (some ⟨b7, 0, none⟩) 3 3) (some 187) 1 3 [.raw (.pointer none), .own 5 (pv n2 0), .own 6 (pv n3 0)]]) (.take 0 (.take 1 (.take 2 (.take 3 (.take 4 (.take 5 (.br 6 (.take 7 (.done)) (.nil)))))))) (by kernel_rfl) ?_ ?_
  · repeat' (first
      | (conv => whnf); first
        | refine .w ?_ | (first | refine Ix.v ?_ | refine Sd.v ?_ | refine Sl.v ?_) | apply sc_true | apply sc_false
        | (first | apply sc_lt | apply sc_nlt | apply sc_eq | apply sc_neq | apply sc_nil | apply sc_nnil) <;> (intro hb; try exact dd hb)
        | apply sc_not | (apply sc_i <;> intro hb) | (apply bx_i; intro hbd) | (apply gt_i; assumption; exact rfl)
        | (apply cx_is; first | fail) | (apply ab_i; intro bl) | (apply rt_is; exact rfl) | exact rt_w
        | exact True.intro | (apply bc_i; intro C hC) | apply bt_i | apply og_n | (apply og_a; exact rfl))
    all_goals (try conv => whnf)
    exact ⟨(), ⟨rfl, rfl, rfl, rfl, rfl, rfl, trivial⟩, rfl⟩
  intro _
  repeat' (first
    | (conv => whnf); first
      | refine .w ?_ | (first | refine Ix.v ?_ | refine Sd.v ?_ | refine Sl.v ?_) | apply sc_true | apply sc_false
      | (first | apply sc_lt | apply sc_nlt | apply sc_eq | apply sc_neq | apply sc_nil | apply sc_nnil) <;> (intro hb; try exact dd hb)
      | apply sc_not | (apply sc_i <;> intro hb) | (apply bx_i; intro hbd) | (apply gt_i; assumption; exact rfl)
      | (apply cx_is; first | fail) | (apply ab_i; intro bl) | (apply rt_is; exact rfl) | exact rt_w
      | exact True.intro | (apply bc_i; intro C hC) | apply bt_i | apply og_n | (apply og_a; exact rfl))
  all_goals (try conv => whnf)
  rename Nat => n4
  refine dw_p mixed hC hGL false (fun (_ : Unit) => []) (fun _ => [x0, x1, .cells bg (some 192) (genC (.own 3 (.slice (some ⟨bt, 0, none⟩) 3 3)) 3 mapD), x3, .cells n1 (some 190) [.str [], .int .i64 0, .str [], .raw (.pointer none), .own 7 (.slice (some ⟨b7, 0, none⟩) 3 3)], .cells n2 (some 190) [.str [94], .int .i64 6, .str [], .raw (.pointer none), .raw (.slice none 0 0)], .cells n3 (some 190) [.str [10], .int .i64 4, .str [], .raw (.pointer none), .raw (.slice none 0 0)], .row (.slice (some ⟨b7, 0, none⟩) 3 3) (some 187) 1 3 [.own 8 (pv n4 0), .own 5 (pv n2 0), .own 6 (pv n3 0)], .cells n4 (some 190) [.str [34], .int .i64 2, .str [], .raw (.pointer none), .raw (.slice none 0 0)]]) (.take 0 (.take 1 (.take 2 (.take 4 (.take 7 (.take 8 (.take 9 (.take 10 (.take 11 (.br 3 (.take 5 (.br 6 (.br 12 (.done) (.nil)) (.nil))) (.nil))))))))))) (by kernel_rfl) ?_ ?_
  · repeat' (first
      | (conv => whnf); first
        | refine .w ?_ | (first | refine Ix.v ?_ | refine Sd.v ?_ | refine Sl.v ?_) | apply sc_true | apply sc_false
        | (first | apply sc_lt | apply sc_nlt | apply sc_eq | apply sc_neq | apply sc_nil | apply sc_nnil) <;> (intro hb; try exact dd hb)
        | apply sc_not | (apply sc_i <;> intro hb) | (apply bx_i; intro hbd) | (apply gt_i; assumption; exact rfl)
        | (apply cx_is; first | fail) | (apply ab_i; intro bl) | (apply rt_is; exact rfl) | exact rt_w
        | exact True.intro | (apply bc_i; intro C hC) | apply bt_i | apply og_n | (apply og_a; exact rfl))
    all_goals (try conv => whnf)
    refine gt_i rfl rfl ?_
    repeat' (first
      | (conv => whnf); first
        | refine .w ?_ | (first | refine Ix.v ?_ | refine Sd.v ?_ | refine Sl.v ?_) | apply sc_true | apply sc_false
        | (first | apply sc_lt | apply sc_nlt | apply sc_eq | apply sc_neq | apply sc_nil | apply sc_nnil) <;> (intro hb; try exact dd hb)
        | apply sc_not | (apply sc_i <;> intro hb) | (apply bx_i; intro hbd) | (apply gt_i; assumption; exact rfl)
        | (apply cx_is; first | fail) | (apply ab_i; intro bl) | (apply rt_is; exact rfl) | exact rt_w
        | exact True.intro | (apply bc_i; intro C hC) | apply bt_i | apply og_n | (apply og_a; exact rfl))
    all_goals (try conv => whnf)
    refine cx_do (i := 8) rfl (leaf_add _ _ _ _ _ _ _) ?_
    repeat' (first
      | (conv => whnf); first
        | refine .w ?_ | (first | refine Ix.v ?_ | refine Sd.v ?_ | refine Sl.v ?_) | apply sc_true | apply sc_false
        | (first | apply sc_lt | apply sc_nlt | apply sc_eq | apply sc_neq | apply sc_nil | apply sc_nnil) <;> (intro hb; try exact dd hb)
        | apply sc_not | (apply sc_i <;> intro hb) | (apply bx_i; intro hbd) | (apply gt_i; assumption; exact rfl)
        | (apply cx_is; first | fail) | (apply ab_i; intro bl) | (apply rt_is; exact rfl) | exact rt_w
        | exact True.intro | (apply bc_i; intro C hC) | apply bt_i | apply og_n | (apply og_a; exact rfl))
    all_goals (try conv => whnf)
    exact ⟨(), trivial, rfl⟩
  intro _
  repeat' (first
    | (conv => whnf); first
      | refine .w ?_ | (first | refine Ix.v ?_ | refine Sd.v ?_ | refine Sl.v ?_) | apply sc_true | apply sc_false
      | (first | apply sc_lt | apply sc_nlt | apply sc_eq | apply sc_neq | apply sc_nil | apply sc_nnil) <;> (intro hb; try exact dd hb)
      | apply sc_not | (apply sc_i <;> intro hb) | (apply bx_i; intro hbd) | (apply gt_i; assumption; exact rfl)
      | (apply cx_is; first | fail) | (apply ab_i; intro bl) | (apply rt_is; exact rfl) | exact rt_w
      | exact True.intro | (apply bc_i; intro C hC) | apply bt_i | apply og_n | (apply og_a; exact rfl))
  all_goals (try conv => whnf)
  exact ⟨_, List.Sublist.refl _, _, rfl, rfl⟩
theorem root_1 {G : Glo} (bg bt : Nat) (x0 x1 : HEnt) : FnSpec Tryz.prog G 98 [.raw (pv bg 0), .str [94, 94], .str [94], .int .i64 6, .raw (pv bg 0)] [x0, x1, .cells bg (some 192) (genC (.own 3 (.slice (some ⟨bt, 0, none⟩) 3 3)) 3 mapD), .row (.slice (some ⟨bt, 0, none⟩) 3 3) (some 187) 1 3 [.raw (.pointer none), .raw (.pointer none), .raw (.pointer none)]]
    (fun r H => ∃ n1 n2, r = .ret (.tuple []) ∧ H = [x0, x1, .cells bg (some 192) (genC (.own 3 (.slice (some ⟨bt, 0, none⟩) 3 3)) 3 mapD), .row (.slice (some ⟨bt, 0, none⟩) 3 3) (some 187) 1 3 [.raw (.pointer none), .own 4 (pv n1 0), .raw (.pointer none)], .cells n1 (some 190) [.str [], .int .i64 0, .str [94], .own 5 (pv n2 0), .raw (.slice none 0 0)], .cells n2 (some 190) [.str [94], .int .i64 6, .str [], .raw (.pointer none), .raw (.slice none 0 0)]]) := by
  have hGL : GloAll G [] := gloAll_nil
  refine fn_xt 2 0 2 4 Tryz.func98 Tryz.call98 rfl rfl rfl rfl hGL rfl rfl rfl rfl ?_
  intro C hC
  have q7 : RowAt (.slice (some ⟨bt, 0, none⟩) 3 3) bt 3 := ⟨_, rfl⟩
  have w0 : RowAt (.slice (some ⟨bt, 0, none⟩) 3 3) bt 3 ∧ 1 + 1 ≤ 3 * 1 ∧ 0 < 3 := ⟨⟨_, rfl⟩, by decide, by decide⟩
  repeat' (first
    | (conv => whnf); first
      | refine .w ?_ | (first | refine Ix.v ?_ | refine Sd.v ?_ | refine Sl.v ?_) | apply sc_true | apply sc_false
      | (first | apply sc_lt | apply sc_nlt | apply sc_eq | apply sc_neq | apply sc_nil | apply sc_nnil) <;> (intro hb; try exact dd hb)
      | apply sc_not | (apply sc_i <;> intro hb) | (apply bx_i; intro hbd) | (apply gt_i; assumption; exact rfl)
      | (apply cx_is; first | fail) | (apply ab_i; intro bl) | (apply rt_is; exact rfl) | exact rt_w
      | exact True.intro | (apply bc_i; intro C hC) | apply bt_i | apply og_n | (apply og_a; exact rfl))
  all_goals (try conv => whnf)
  refine dw_p mixed hC hGL false (fun (_ : Unit) => [(0, .own 2 (pv bg 0)), (1, .str [94, 94]), (2, .str [94]), (3, .int .i64 6), (4, .own 2 (pv bg 0)), (14, .int .u8 1)]) (fun _ => [x0, x1, .cells bg (some 192) (genC (.own 3 (.slice (some ⟨bt, 0, none⟩) 3 3)) 3 mapD), .row (.slice (some ⟨bt, 0, none⟩) 3 3) (some 187) 1 3 [.raw (.pointer none), .raw (.pointer none), .raw (.pointer none)]]) (.take 0 (.take 1 (.take 2 (.take 3 (.take 4 (.take 5 (.br 6 (.take 7 (.done)) (.nil)))))))) (by kernel_rfl) ?_ ?_
  · repeat' (first
      | (conv => whnf); first
        | refine .w ?_ | (first | refine Ix.v ?_ | refine Sd.v ?_ | refine Sl.v ?_) | apply sc_true | apply sc_false
        | (first | apply sc_lt | apply sc_nlt | apply sc_eq | apply sc_neq | apply sc_nil | apply sc_nnil) <;> (intro hb; try exact dd hb)
        | apply sc_not | (apply sc_i <;> intro hb) | (apply bx_i; intro hbd) | (apply gt_i; assumption; exact rfl)
        | (apply cx_is; first | fail) | (apply ab_i; intro bl) | (apply rt_is; exact rfl) | exact rt_w
        | exact True.intro | (apply bc_i; intro C hC) | apply bt_i | apply og_n | (apply og_a; exact rfl))
    all_goals (try conv => whnf)
    exact ⟨(), ⟨rfl, rfl, rfl, rfl, rfl, rfl, trivial⟩, rfl⟩
  intro _
  repeat' (first
    | (conv => whnf); first
      | refine .w ?_ | (first | refine Ix.v ?_ | refine Sd.v ?_ | refine Sl.v ?_) | apply sc_true | apply sc_false
      | (first | apply sc_lt | apply sc_nlt | apply sc_eq | apply sc_neq | apply sc_nil | apply sc_nnil) <;> (intro hb; try exact dd hb)
      | apply sc_not | (apply sc_i <;> intro hb) | (apply bx_i; intro hbd) | (apply gt_i; assumption; exact rfl)
      | (apply cx_is; first | fail) | (apply ab_i; intro bl) | (apply rt_is; exact rfl) | exact rt_w
      | exact True.intro | (apply bc_i; intro C hC) | apply bt_i | apply og_n | (apply og_a; exact rfl))
  all_goals (try conv => whnf)
  refine gt_i rfl rfl ?_
  repeat' (first
    | (conv => whnf); first
      | refine .w ?_ | (first | refine Ix.v ?_ | refine Sd.v ?_ | refine Sl.v ?_) | apply sc_true | apply sc_false
      | (first | apply sc_lt | apply sc_nlt | apply sc_eq | apply sc_neq | apply sc_nil | apply sc_nnil) <;> (intro hb; try exact dd hb)
      | apply sc_not | (apply sc_i <;> intro hb) | (apply bx_i; intro hbd) | (apply gt_i; assumption; exact rfl)
      | (apply cx_is; first | fail) | (apply ab_i; intro bl) | (apply rt_is; exact rfl) | exact rt_w
      | exact True.intro | (apply bc_i; intro C hC) | apply bt_i | apply og_n | (apply og_a; exact rfl))
  all_goals (try conv => whnf)
  rename Nat => n1
  refine dw_p mixed hC hGL false (fun (_ : Nat) => []) (fun n2 => [x0, x1, .cells bg (some 192) (genC (.own 3 (.slice (some ⟨bt, 0, none⟩) 3 3)) 3 mapD), .row (.slice (some ⟨bt, 0, none⟩) 3 3) (some 187) 1 3 [.raw (.pointer none), .own 4 (pv n1 0), .raw (.pointer none)], .cells n1 (some 190) [.str [], .int .i64 0, .str [94], .own 5 (pv n2 0), .raw (.slice none 0 0)], .cells n2 (some 190) [.str [94], .int .i64 6, .str [], .raw (.pointer none), .raw (.slice none 0 0)]]) (.take 0 (.take 1 (.take 2 (.take 4 (.take 7 (.take 8 (.take 9 (.take 10 (.take 11 (.br 3 (.take 5 (.br 6 (.br 12 (.done) (.nil)) (.nil))) (.nil))))))))))) (by kernel_rfl) ?_ ?_
  · repeat' (first
      | (conv => whnf); first
        | refine .w ?_ | (first | refine Ix.v ?_ | refine Sd.v ?_ | refine Sl.v ?_) | apply sc_true | apply sc_false
        | (first | apply sc_lt | apply sc_nlt | apply sc_eq | apply sc_neq | apply sc_nil | apply sc_nnil) <;> (intro hb; try exact dd hb)
        | apply sc_not | (apply sc_i <;> intro hb) | (apply bx_i; intro hbd) | (apply gt_i; assumption; exact rfl)
        | (apply cx_is; first | fail) | (apply ab_i; intro bl) | (apply rt_is; exact rfl) | exact rt_w
        | exact True.intro | (apply bc_i; intro C hC) | apply bt_i | apply og_n | (apply og_a; exact rfl))
    all_goals (try conv => whnf)
    refine gt_i rfl rfl ?_
    repeat' (first
      | (conv => whnf); first
        | refine .w ?_ | (first | refine Ix.v ?_ | refine Sd.v ?_ | refine Sl.v ?_) | apply sc_true | apply sc_false
        | (first | apply sc_lt | apply sc_nlt | apply sc_eq | apply sc_neq | apply sc_nil | apply sc_nnil) <;> (intro hb; try exact dd hb)
        | apply sc_not | (apply sc_i <;> intro hb) | (apply bx_i; intro hbd) | (apply gt_i; assumption; exact rfl)
        | (apply cx_is; first | fail) | (apply ab_i; intro bl) | (apply rt_is; exact rfl) | exact rt_w
        | exact True.intro | (apply bc_i; intro C hC) | apply bt_i | apply og_n | (apply og_a; exact rfl))
    all_goals (try conv => whnf)
    refine ⟨_, add_1 bg bt n1 _ _ _ _ _, ?_, ?_⟩
    · rintro v H ⟨n2, e, rfl⟩
      cases e
      repeat' (first
        | (conv => whnf); first
          | refine .w ?_ | (first | refine Ix.v ?_ | refine Sd.v ?_ | refine Sl.v ?_) | apply sc_true | apply sc_false
          | (first | apply sc_lt | apply sc_nlt | apply sc_eq | apply sc_neq | apply sc_nil | apply sc_nnil) <;> (intro hb; try exact dd hb)
          | apply sc_not | (apply sc_i <;> intro hb) | (apply bx_i; intro hbd) | (apply gt_i; assumption; exact rfl)
          | (apply cx_is; first | fail) | (apply ab_i; intro bl) | (apply rt_is; exact rfl) | exact rt_w
          | exact True.intro | (apply bc_i; intro C hC) | apply bt_i | apply og_n | (apply og_a; exact rfl))
      all_goals (try conv => whnf)
      exact ⟨n2, trivial, rfl⟩
    · rintro v H ⟨n2, e, rfl⟩
      cases e
  intro y
  repeat' (first
    | (conv => whnf); first
      | refine .w ?_ | (first | refine Ix.v ?_ | refine Sd.v ?_ | refine Sl.v ?_) | apply sc_true | apply sc_false
      | (first | apply sc_lt | apply sc_nlt | apply sc_eq | apply sc_neq | apply sc_nil | apply sc_nnil) <;> (intro hb; try exact dd hb)
      | apply sc_not | (apply sc_i <;> intro hb) | (apply bx_i; intro hbd) | (apply gt_i; assumption; exact rfl)
      | (apply cx_is; first | fail) | (apply ab_i; intro bl) | (apply rt_is; exact rfl) | exact rt_w
      | exact True.intro | (apply bc_i; intro C hC) | apply bt_i | apply og_n | (apply og_a; exact rfl))
  all_goals (try conv => whnf)
  exact ⟨_, List.Sublist.refl _, n1, y, rfl, rfl⟩
theorem root_2 {G : Glo} (bg bt n1 n2 : Nat) (x0 x1 : HEnt) : FnSpec Tryz.prog G 98 [.raw (pv bg 0), .str [94, 110], .str [10], .int .i64 4, .raw (pv bg 0)] [x0, x1, .cells bg (some 192) (genC (.own 3 (.slice (some ⟨bt, 0, none⟩) 3 3)) 3 mapD), .row (.slice (some ⟨bt, 0, none⟩) 3 3) (some 187) 1 3 [.raw (.pointer none), .own 4 (pv n1 0), .raw (.pointer none)], .cells n1 (some 190) [.str [], .int .i64 0, .str [94], .own 5 (pv n2 0), .raw (.slice none 0 0)], .cells n2 (some 190) [.str [94], .int .i64 6, .str [], .raw (.pointer none), .raw (.slice none 0 0)]]
    (fun r H => ∃ n3 b7, r = .ret (.tuple []) ∧ H = [x0, x1, .cells bg (some 192) (genC (.own 3 (.slice (some ⟨bt, 0, none⟩) 3 3)) 3 mapD), .row (.slice (some ⟨bt, 0, none⟩) 3 3) (some 187) 1 3 [.raw (.pointer none), .own 4 (pv n1 0), .raw (.pointer none)], .cells n1 (some 190) [.str [], .int .i64 0, .str [], .raw (.pointer none), .own 7 (.slice (some ⟨b7, 0, none⟩) 3 3)], .cells n2 (some 190) [.str [94], .int .i64 6, .str [], .raw (.pointer none), .raw (.slice none 0 0)], .cells n3 (some 190) [.str [10], .int .i64 4, .str [], .raw (.pointer none), .raw (.slice none 0 0)], .row (.slice (some ⟨b7, 0, none⟩) 3 3) (some 187) 1 3 [.raw (.pointer none), .own 5 (pv n2 0), .own 6 (pv n3 0)]]) := by
  have hGL : GloAll G [] := gloAll_nil
  refine fn_xt 2 0 2 4 Tryz.func98 Tryz.call98 rfl rfl rfl rfl hGL rfl rfl rfl rfl ?_
  intro C hC
  have q7 : RowAt (.slice (some ⟨bt, 0, none⟩) 3 3) bt 3 := ⟨_, rfl⟩
  have w0 : RowAt (.slice (some ⟨bt, 0, none⟩) 3 3) bt 3 ∧ 1 + 1 ≤ 3 * 1 ∧ 0 < 3 := ⟨⟨_, rfl⟩, by decide, by decide⟩
  repeat' (first
    | (conv => whnf); first
      | refine .w ?_ | (first | refine Ix.v ?_ | refine Sd.v ?_ | refine Sl.v ?_) | apply sc_true | apply sc_false
      | (first | apply sc_lt | apply sc_nlt | apply sc_eq | apply sc_neq | apply sc_nil | apply sc_nnil) <;> (intro hb; try exact dd hb)
      | apply sc_not | (apply sc_i <;> intro hb) | (apply bx_i; intro hbd) | (apply gt_i; assumption; exact rfl)
      | (apply cx_is; first | fail) | (apply ab_i; intro bl) | (apply rt_is; exact rfl) | exact rt_w
      | exact True.intro | (apply bc_i; intro C hC) | apply bt_i | apply og_n | (apply og_a; exact rfl))
  all_goals (try conv => whnf)
  refine dw_p mixed hC hGL false (fun (_ : Unit) => [(0, .own 2 (pv bg 0)), (1, .str [94, 110]), (2, .str [10]), (3, .int .i64 4), (4, .own 2 (pv bg 0)), (14, .int .u8 1)]) (fun _ => [x0, x1, .cells bg (some 192) (genC (.own 3 (.slice (some ⟨bt, 0, none⟩) 3 3)) 3 mapD), .row (.slice (some ⟨bt, 0, none⟩) 3 3) (some 187) 1 3 [.raw (.pointer none), .own 4 (pv n1 0), .raw (.pointer none)], .cells n1 (some 190) [.str [], .int .i64 0, .str [94], .own 5 (pv n2 0), .raw (.slice none 0 0)], .cells n2 (some 190) [.str [94], .int .i64 6, .str [], .raw (.pointer none), .raw (.slice none 0 0)]]) (.take 0 (.take 1 (.take 2 (.take 3 (.take 4 (.take 5 (.br 6 (.take 7 (.done)) (.nil)))))))) (by kernel_rfl) ?_ ?_
  · repeat' (first
      | (conv => whnf); first
        | refine .w ?_ | (first | refine Ix.v ?_ | refine Sd.v ?_ | refine Sl.v ?_) | apply sc_true | apply sc_false
        | (first | apply sc_lt | apply sc_nlt | apply sc_eq | apply sc_neq | apply sc_nil | apply sc_nnil) <;> (intro hb; try exact dd hb)
        | apply sc_not | (apply sc_i <;> intro hb) | (apply bx_i; intro hbd) | (apply gt_i; assumption; exact rfl)
        | (apply cx_is; first | fail) | (apply ab_i; intro bl) | (apply rt_is; exact rfl) | exact rt_w
        | exact True.intro | (apply bc_i; intro C hC) | apply bt_i | apply og_n | (apply og_a; exact rfl))
    all_goals (try conv => whnf)
    exact ⟨(), ⟨rfl, rfl, rfl, rfl, rfl, rfl, trivial⟩, rfl⟩
  intro _
  repeat' (first
    | (conv => whnf); first
      | refine .w ?_ | (first | refine Ix.v ?_ | refine Sd.v ?_ | refine Sl.v ?_) | apply sc_true | apply sc_false
      | (first | apply sc_lt | apply sc_nlt | apply sc_eq | apply sc_neq | apply sc_nil | apply sc_nnil) <;> (intro hb; try exact dd hb)
      | apply sc_not | (apply sc_i <;> intro hb) | (apply bx_i; intro hbd) | (apply gt_i; assumption; exact rfl)
      | (apply cx_is; first | fail) | (apply ab_i; intro bl) | (apply rt_is; exact rfl) | exact rt_w
      | exact True.intro | (apply bc_i; intro C hC) | apply bt_i | apply og_n | (apply og_a; exact rfl))
  all_goals (try conv => whnf)
  refine gt_i rfl rfl ?_
  repeat' (first
    | (conv => whnf); first
      | refine .w ?_ | (first | refine Ix.v ?_ | refine Sd.v ?_ | refine Sl.v ?_) | apply sc_true | apply sc_false
      | (first | apply sc_lt | apply sc_nlt | apply sc_eq | apply sc_neq | apply sc_nil | apply sc_nnil) <;> (intro hb; try exact dd hb)
      | apply sc_not | (apply sc_i <;> intro hb) | (apply bx_i; intro hbd) | (apply gt_i; assumption; exact rfl)
      | (apply cx_is; first | fail) | (apply ab_i; intro bl) | (apply rt_is; exact rfl) | exact rt_w
      | exact True.intro | (apply bc_i; intro C hC) | apply bt_i | apply og_n | (apply og_a; exact rfl))
  all_goals (try conv => whnf)
  refine dw_p mixed hC hGL false (fun (_ : Nat × Nat) => []) (fun y => [x0, x1, .cells bg (some 192) (genC (.own 3 (.slice (some ⟨bt, 0, none⟩) 3 3)) 3 mapD), .row (.slice (some ⟨bt, 0, none⟩) 3 3) (some 187) 1 3 [.raw (.pointer none), .own 4 (pv n1 0), .raw (.pointer none)], .cells n1 (some 190) [.str [], .int .i64 0, .str [], .raw (.pointer none), .own 7 (.slice (some ⟨y.2, 0, none⟩) 3 3)], .cells n2 (some 190) [.str [94], .int .i64 6, .str [], .raw (.pointer none), .raw (.slice none 0 0)], .cells y.1 (some 190) [.str [10], .int .i64 4, .str [], .raw (.pointer none), .raw (.slice none 0 0)], .row (.slice (some ⟨y.2, 0, none⟩) 3 3) (some 187) 1 3 [.raw (.pointer none), .own 5 (pv n2 0), .own 6 (pv y.1 0)]]) (.take 0 (.take 1 (.take 2 (.take 4 (.take 7 (.take 8 (.take 9 (.take 10 (.take 11 (.br 3 (.take 5 (.br 6 (.br 12 (.done) (.nil)) (.nil))) (.nil))))))))))) (by kernel_rfl) ?_ ?_
  · repeat' (first
      | (conv => whnf); first
        | refine .w ?_ | (first | refine Ix.v ?_ | refine Sd.v ?_ | refine Sl.v ?_) | apply sc_true | apply sc_false
        | (first | apply sc_lt | apply sc_nlt | apply sc_eq | apply sc_neq | apply sc_nil | apply sc_nnil) <;> (intro hb; try exact dd hb)
        | apply sc_not | (apply sc_i <;> intro hb) | (apply bx_i; intro hbd) | (apply gt_i; assumption; exact rfl)
        | (apply cx_is; first | fail) | (apply ab_i; intro bl) | (apply rt_is; exact rfl) | exact rt_w
        | exact True.intro | (apply bc_i; intro C hC) | apply bt_i | apply og_n | (apply og_a; exact rfl))
    all_goals (try conv => whnf)
    refine gt_i rfl rfl ?_
    repeat' (first
      | (conv => whnf); first
        | refine .w ?_ | (first | refine Ix.v ?_ | refine Sd.v ?_ | refine Sl.v ?_) | apply sc_true | apply sc_false
        | (first | apply sc_lt | apply sc_nlt | apply sc_eq | apply sc_neq | apply sc_nil | apply sc_nnil) <;> (intro hb; try exact dd hb)
        | apply sc_not | (apply sc_i <;> intro hb) | (apply bx_i; intro hbd) | (apply gt_i; assumption; exact rfl)
        | (apply cx_is; first | fail) | (apply ab_i; intro bl) | (apply rt_is; exact rfl) | exact rt_w
        | exact True.intro | (apply bc_i; intro C hC) | apply bt_i | apply og_n | (apply og_a; exact rfl))
    all_goals (try conv => whnf)
    refine ⟨_, add_2 bg bt n1 n2 _ _ _, ?_, ?_⟩
    · rintro v H ⟨n3, b7, e, rfl⟩
      cases e
      repeat' (first
        | (conv => whnf); first
          | refine .w ?_ | (first | refine Ix.v ?_ | refine Sd.v ?_ | refine Sl.v ?_) | apply sc_true | apply sc_false
          | (first | apply sc_lt | apply sc_nlt | apply sc_eq | apply sc_neq | apply sc_nil | apply sc_nnil) <;> (intro hb; try exact dd hb)
          | apply sc_not | (apply sc_i <;> intro hb) | (apply bx_i; intro hbd) | (apply gt_i; assumption; exact rfl)
          | (apply cx_is; first | fail) | (apply ab_i; intro bl) | (apply rt_is; exact rfl) | exact rt_w
          | exact True.intro | (apply bc_i; intro C hC) | apply bt_i | apply og_n | (apply og_a; exact rfl))
      all_goals (try conv => whnf)
      exact ⟨(n3, b7), trivial, rfl⟩
    · rintro v H ⟨n3, b7, e, rfl⟩
      cases e
  intro y
  repeat' (first
    | (conv => whnf); first
      | refine .w ?_ | (first | refine Ix.v ?_ | refine Sd.v ?_ | refine Sl.v ?_) | apply sc_true | apply sc_false
      | (first | apply sc_lt | apply sc_nlt | apply sc_eq | apply sc_neq | apply sc_nil | apply sc_nnil) <;> (intro hb; try exact dd hb)
      | apply sc_not | (apply sc_i <;> intro hb) | (apply bx_i; intro hbd) | (apply gt_i; assumption; exact rfl)
      | (apply cx_is; first | fail) | (apply ab_i; intro bl) | (apply rt_is; exact rfl) | exact rt_w
      | exact True.intro | (apply bc_i; intro C hC) | apply bt_i | apply og_n | (apply og_a; exact rfl))
  all_goals (try conv => whnf)
  exact ⟨_, List.Sublist.refl _, y.1, y.2, rfl, rfl⟩
theorem root_3 {G : Glo} (bg bt n1 n2 n3 b7 : Nat) (x0 x1 : HEnt) : FnSpec Tryz.prog G 98 [.raw (pv bg 0), .str [94, 39], .str [34], .int .i64 2, .raw (pv bg 0)] [x0, x1, .cells bg (some 192) (genC (.own 3 (.slice (some ⟨bt, 0, none⟩) 3 3)) 3 mapD), .row (.slice (some ⟨bt, 0, none⟩) 3 3) (some 187) 1 3 [.raw (.pointer none), .own 4 (pv n1 0), .raw (.pointer none)], .cells n1 (some 190) [.str [], .int .i64 0, .str [], .raw (.pointer none), .own 7 (.slice (some ⟨b7, 0, none⟩) 3 3)], .cells n2 (some 190) [.str [94], .int .i64 6, .str [], .raw (.pointer none), .raw (.slice none 0 0)], .cells n3 (some 190) [.str [10], .int .i64 4, .str [], .raw (.pointer none), .raw (.slice none 0 0)], .row (.slice (some ⟨b7, 0, none⟩) 3 3) (some 187) 1 3 [.raw (.pointer none), .own 5 (pv n2 0), .own 6 (pv n3 0)]]
    (fun r H => ∃ n4, r = .ret (.tuple []) ∧ H = [x0, x1, .cells bg (some 192) (genC (.own 3 (.slice (some ⟨bt, 0, none⟩) 3 3)) 3 mapD), .row (.slice (some ⟨bt, 0, none⟩) 3 3) (some 187) 1 3 [.raw (.pointer none), .own 4 (pv n1 0), .raw (.pointer none)], .cells n1 (some 190) [.str [], .int .i64 0, .str [], .raw (.pointer none), .own 7 (.slice (some ⟨b7, 0, none⟩) 3 3)], .cells n2 (some 190) [.str [94], .int .i64 6, .str [], .raw (.pointer none), .raw (.slice none 0 0)], .cells n3 (some 190) [.str [10], .int .i64 4, .str [], .raw (.pointer none), .raw (.slice none 0 0)], .row (.slice (some ⟨b7, 0, none⟩) 3 3) (some 187) 1 3 [.own 8 (pv n4 0), .own 5 (pv n2 0), .own 6 (pv n3 0)], .cells n4 (some 190) [.str [34], .int .i64 2, .str [], .raw (.pointer none), .raw (.slice none 0 0)]]) := by
  have hGL : GloAll G [] := gloAll_nil
  refine fn_xt 2 0 2 4 Tryz.func98 Tryz.call98 rfl rfl rfl rfl hGL rfl rfl rfl rfl ?_
  intro C hC
  have q7 : RowAt (.slice (some ⟨bt, 0, none⟩) 3 3) bt 3 := ⟨_, rfl⟩
  have w0 : RowAt (.slice (some ⟨bt, 0, none⟩) 3 3) bt 3 ∧ 1 + 1 ≤ 3 * 1 ∧ 0 < 3 := ⟨⟨_, rfl⟩, by decide, by decide⟩
  repeat' (first
    | (conv => whnf); first
      | refine .w ?_ | (first | refine Ix.v ?_ | refine Sd.v ?_ | refine Sl.v ?_) | apply sc_true | apply sc_false
      | (first | apply sc_lt | apply sc_nlt | apply sc_eq | apply sc_neq | apply sc_nil | apply sc_nnil) <;> (intro hb; try exact dd hb)
      | apply sc_not | (apply sc_i <;> intro hb) | (apply bx_i; intro hbd) | (apply gt_i; assumption; exact rfl)
      | (apply cx_is; first | fail) | (apply ab_i; intro bl) | (apply rt_is; exact rfl) | exact rt_w
      | exact True.intro | (apply bc_i; intro C hC) | apply bt_i | apply og_n | (apply og_a; exact rfl))
  all_goals (try conv => whnf)
  refine dw_p mixed hC hGL false (fun (_ : Unit) => [(0, .own 2 (pv bg 0)), (1, .str [94, 39]), (2, .str [34]), (3, .int .i64 2), (4, .own 2 (pv bg 0)), (14, .int .u8 1)]) (fun _ => [x0, x1, .cells bg (some 192) (genC (.own 3 (.slice (some ⟨bt, 0, none⟩) 3 3)) 3 mapD), .row (.slice (some ⟨bt, 0, none⟩) 3 3) (some 187) 1 3 [.raw (.pointer none), .own 4 (pv n1 0), .raw (.pointer none)], .cells n1 (some 190) [.str [], .int .i64 0, .str [], .raw (.pointer none), .own 7 (.slice (some ⟨b7, 0, none⟩) 3 3)], .cells n2 (some 190) [.str [94], .int .i64 6, .str [], .raw (.pointer none), .raw (.slice none 0 0)], .cells n3 (some 190) [.str [10], .int .i64 4, .str [], .raw (.pointer none), .raw (.slice none 0 0)], .row (.slice (some ⟨b7, 0, none⟩) 3 3) (some 187) 1 3 [.raw (.pointer none), .own 5 (pv n2 0), .own 6 (pv n3 0)]]) (.take 0 (.take 1 (.take 2 (.take 3 (.take 4 (.take 5 (.br 6 (.take 7 (.done)) (.nil)))))))) (by kernel_rfl) ?_ ?_
  · repeat' (first
      | (conv => whnf); first
        | refine .w ?_ | (first | refine Ix.v ?_ | refine Sd.v ?_ | refine Sl.v ?_) | apply sc_true | apply sc_false
        | (first | apply sc_lt | apply sc_nlt | apply sc_eq | apply sc_neq | apply sc_nil | apply sc_nnil) <;> (intro hb; try exact dd hb)
        | apply sc_not | (apply sc_i <;> intro hb) | (apply bx_i; intro hbd) | (apply gt_i; assumption; exact rfl)
        | (apply cx_is; first | fail) | (apply ab_i; intro bl) | (apply rt_is; exact rfl) | exact rt_w
        | exact True.intro | (apply bc_i; intro C hC) | apply bt_i | apply og_n | (apply og_a; exact rfl))
    all_goals (try conv => whnf)
    exact ⟨(), ⟨rfl, rfl, rfl, rfl, rfl, rfl, trivial⟩, rfl⟩
  intro _
  repeat' (first
    | (conv => whnf); first
      | refine .w ?_ | (first | refine Ix.v ?_ | refine Sd.v ?_ | refine Sl.v ?_) | apply sc_true | apply sc_false
      | (first | apply sc_lt | apply sc_nlt | apply sc_eq | apply sc_neq | apply sc_nil | apply sc_nnil) <;> (intro hb; try exact dd hb)
      | apply sc_not | (apply sc_i <;> intro hb) | (apply bx_i; intro hbd) | (apply gt_i; assumption; exact rfl)
      | (apply cx_is; first | fail) | (apply ab_i; intro bl) | (apply rt_is; exact rfl) | exact rt_w
      | exact True.intro | (apply bc_i; intro C hC) | apply bt_i | apply og_n | (apply og_a; exact rfl))
  all_goals (try conv => whnf)
  refine gt_i rfl rfl ?_
  repeat' (first
    | (conv => whnf); first
      | refine .w ?_ | (first | refine Ix.v ?_ | refine Sd.v ?_ | refine Sl.v ?_) | apply sc_true | apply sc_false
      | (first | apply sc_lt | apply sc_nlt | apply sc_eq | apply sc_neq | apply sc_nil | apply sc_nnil) <;> (intro hb; try exact dd hb)
      | apply sc_not | (apply sc_i <;> intro hb) | (apply bx_i; intro hbd) | (apply gt_i; assumption; exact rfl)
      | (apply cx_is; first | fail) | (apply ab_i; intro bl) | (apply rt_is; exact rfl) | exact rt_w
      | exact True.intro | (apply bc_i; intro C hC) | apply bt_i | apply og_n | (apply og_a; exact rfl))
  all_goals (try conv => whnf)
  refine dw_p mixed hC hGL false (fun (_ : Nat) => []) (fun n4 => [x0, x1, .cells bg (some 192) (genC (.own 3 (.slice (some ⟨bt, 0, none⟩) 3 3)) 3 mapD), .row (.slice (some ⟨bt, 0, none⟩) 3 3) (some 187) 1 3 [.raw (.pointer none), .own 4 (pv n1 0), .raw (.pointer none)], .cells n1 (some 190) [.str [], .int .i64 0, .str [], .raw (.pointer none), .own 7 (.slice (some ⟨b7, 0, none⟩) 3 3)], .cells n2 (some 190) [.str [94], .int .i64 6, .str [], .raw (.pointer none), .raw (.slice none 0 0)], .cells n3 (some 190) [.str [10], .int .i64 4, .str [], .raw (.pointer none), .raw (.slice none 0 0)], .row (.slice (some ⟨b7, 0, none⟩) 3 3) (some 187) 1 3 [.own 8 (pv n4 0), .own 5 (pv n2 0), .own 6 (pv n3 0)], .cells n4 (some 190) [.str [34], .int .i64 2, .str [], .raw (.pointer none), .raw (.slice none 0 0)]]) (.take 0 (.take 1 (.take 2 (.take 4 (.take 7 (.take 8 (.take 9 (.take 10 (.take 11 (.br 3 (.take 5 (.br 6 (.br 12 (.done) (.nil)) (.nil))) (.nil))))))))))) (by kernel_rfl) ?_ ?_
  · repeat' (first
      | (conv => whnf); first
        | refine .w ?_ | (first | refine Ix.v ?_ | refine Sd.v ?_ | refine Sl.v ?_) | apply sc_true | apply sc_false
        | (first | apply sc_lt | apply sc_nlt | apply sc_eq | apply sc_neq | apply sc_nil | apply sc_nnil) <;> (intro hb; try exact dd hb)
        | apply sc_not | (apply sc_i <;> intro hb) | (apply bx_i; intro hbd) | (apply gt_i; assumption; exact rfl)
        | (apply cx_is; first | fail) | (apply ab_i; intro bl) | (apply rt_is; exact rfl) | exact rt_w
        | exact True.intro | (apply bc_i; intro C hC) | apply bt_i | apply og_n | (apply og_a; exact rfl))
    all_goals (try conv => whnf)
    refine gt_i rfl rfl ?_
    repeat' (first
      | (conv => whnf); first
        | refine .w ?_ | (first | refine Ix.v ?_ | refine Sd.v ?_ | refine Sl.v ?_) | apply sc_true | apply sc_false
        | (first | apply sc_lt | apply sc_nlt | apply sc_eq | apply sc_neq | apply sc_nil | apply sc_nnil) <;> (intro hb; try exact dd hb)
        | apply sc_not | (apply sc_i <;> intro hb) | (apply bx_i; intro hbd) | (apply gt_i; assumption; exact rfl)
        | (apply cx_is; first | fail) | (apply ab_i; intro bl) | (apply rt_is; exact rfl) | exact rt_w
        | exact True.intro | (apply bc_i; intro C hC) | apply bt_i | apply og_n | (apply og_a; exact rfl))
    all_goals (try conv => whnf)
    refine ⟨_, add_3 bg bt n1 n2 n3 b7 _ _ _, ?_, ?_⟩
    · rintro v H ⟨n4, e, rfl⟩
      cases e
      repeat' (first
        | (conv => whnf); first
          | refine .w ?_ | (first | refine Ix.v ?_ | refine Sd.v ?_ | refine Sl.v ?_) | apply sc_true | apply sc_false
          | (first | apply sc_lt | apply sc_nlt | apply sc_eq | apply sc_neq | apply sc_nil | apply sc_nnil) <;> (intro hb; try exact dd hb)
          | apply sc_not | (apply sc_i <;> intro hb) | (apply bx_i; intro hbd) | (apply gt_i; assumption; exact rfl)
          | (apply cx_is; first | fail) | (apply ab_i; intro bl) | (apply rt_is; exact rfl) | exact rt_w
          | exact True.intro | (apply bc_i; intro C hC) | apply bt_i | apply og_n | (apply og_a; exact rfl))
      all_goals (try conv => whnf)
      exact ⟨n4, trivial, rfl⟩
    · rintro v H ⟨n4, e, rfl⟩
      cases e
  intro y
  repeat' (first
    | (conv => whnf); first
      | refine .w ?_ | (first | refine Ix.v ?_ | refine Sd.v ?_ | refine Sl.v ?_) | apply sc_true | apply sc_false
      | (first | apply sc_lt | apply sc_nlt | apply sc_eq | apply sc_neq | apply sc_nil | apply sc_nnil) <;> (intro hb; try exact dd hb)
      | apply sc_not | (apply sc_i <;> intro hb) | (apply bx_i; intro hbd) | (apply gt_i; assumption; exact rfl)
      | (apply cx_is; first | fail) | (apply ab_i; intro bl) | (apply rt_is; exact rfl) | exact rt_w
      | exact True.intro | (apply bc_i; intro C hC) | apply bt_i | apply og_n | (apply og_a; exact rfl))
  all_goals (try conv => whnf)
  exact ⟨_, List.Sublist.refl _, y, rfl, rfl⟩
end Go.Proofs.YtkmpcdlmeiophaaGreatDoor
namespace Go.Proofs.YtkmpcdlmeiophaaGreatDoor
open Go Go.RowKit
set_option maxRecDepth 20000
set_option maxHeartbeats 4000000
set_option linter.unusedSimpArgs false
set_option linter.unusedVariables false
attribute [local irreducible] AWp AOps SrcOK OrOk GloAll FnSpec
/-- oldnew. -/
abbrev decO : List AVal := [.str [94, 94], .str [94], .str [94, 110], .str [10], .str [94, 39], .str [34]]
abbrev decR (br vc : Nat) : HEnt := .row (.slice (some ⟨br, 0, none⟩) 6 vc) none 1 6 decO
def zeroM : List AVal := List.replicate 256 (.int .u8 0)
def mapM : List AVal := (((zeroM.set 94 (.int .u8 1)).set 110 (.int .u8 1)).set 39 (.int .u8 1))
def m1 (i : Nat) : Nat := if i = 39 ∨ i = 94 ∨ i = 110 then 1 else 0
def cnt3 (i : Nat) : Nat := (if 39 < i then 1 else 0) + (if 94 < i then 1 else 0) + (if 110 < i then 1 else 0)
theorem cnt3_succ (i : Nat) : cnt3 (i + 1) = cnt3 i + m1 i := by unfold cnt3 m1; (repeat' split) <;> omega
theorem cnt3_le (i : Nat) : cnt3 i ≤ 3 := by unfold cnt3; (repeat' split) <;> omega
theorem m1_le (i : Nat) : m1 i ≤ 1 := by unfold m1; split <;> omega
theorem genC_put {t : AVal} {n : Int} {M : List AVal} {i : Nat} {v : AVal} : (genC t n M).take (0 + 6 + i * 1) ++ [v] ++ (genC t n M).drop (0 + 6 + i * 1 + 1) = genC t n (M.take i ++ [v] ++ M.drop (i + 1)) := by
  rw [show 0 + 6 + i * 1 = i + 6 by omega, show i + 6 + 1 = (i + 1) + 6 by omega]
  rfl
theorem genC_ble {t : AVal} {n : Int} {M : List AVal} {i : Nat} (h : M.length = 256) (hi : i < 256) : Nat.ble (0 + 6 + i * 1 + 1) (genC t n M).length = true := by
  refine Nat.ble_eq_true_of_le ?_
  have : (genC t n M).length = M.length + 6 := rfl
  omega
theorem rep_sets {v w : AVal} {N a b c i : Nat} (hi : i < N) : ((((List.replicate N v).set a w).set b w).set c w)[i]? = some (if i = c ∨ i = a ∨ i = b then w else v) := by
  by_cases h1 : i = c
  · subst h1; rw [List.getElem?_set_self (by simpa using hi), if_pos (.inl rfl)]
  · rw [List.getElem?_set_ne (Ne.symm h1)]
    by_cases h2 : i = b
    · subst h2; rw [List.getElem?_set_self (by simpa using hi), if_pos (.inr (.inr rfl))]
    · rw [List.getElem?_set_ne (Ne.symm h2)]
      by_cases h3 : i = a
      · subst h3; rw [List.getElem?_set_self (by simpa using hi), if_pos (.inr (.inl rfl))]
      · rw [List.getElem?_set_ne (Ne.symm h3), if_neg (by omega)]
        simp [hi]
theorem mapM_get {i : Nat} (hi : i < 256) : mapM[i]? = some (.int .u8 (m1 i : Nat)) := by
  unfold mapM zeroM m1
  rw [rep_sets hi]
  split <;> rfl
/-- A byte's number. -/
def m2 (i : Nat) : Nat := if i = 39 then 0 else if i = 94 then 1 else if i = 110 then 2 else 3
theorem m2_of0 {i : Nat} (h : m1 i = 0) : m2 i = 3 := by unfold m1 at h; unfold m2; (repeat' split) <;> (try split at h) <;> omega
theorem m2_of1 {i : Nat} (h : m1 i ≠ 0) : m2 i = cnt3 i := by unfold m1 at h; unfold m2 cnt3; split at h <;> (repeat' split) <;> omega
def mapI (i : Nat) : List AVal := (List.range 256).map fun k => .int .u8 ((if k < i then m2 k else m1 k : Nat) : Int)
theorem mapI_len (i : Nat) : (mapI i).length = 256 := by simp [mapI]
theorem mapI_succ {i : Nat} (hi : i < 256) : (mapI i).take i ++ [.int .u8 (m2 i : Nat)] ++ (mapI i).drop (i + 1) = mapI (i + 1) := by
  refine List.ext_getElem? fun k => ?_
  have hl := mapI_len i
  rcases Nat.lt_trichotomy k i with h | h | h
  · rw [List.getElem?_append_left (by simp; omega), List.getElem?_append_left (by simp; omega), List.getElem?_take_of_lt h]
    unfold mapI
    rw [List.getElem?_map, List.getElem?_map, List.getElem?_range (by omega)]
    simp [h, show k < i + 1 by omega]
  · subst h
    rw [List.getElem?_append_left (by simp; omega), List.getElem?_append_right (by rw [List.length_take]; omega), List.length_take, Nat.min_eq_left (by omega), Nat.sub_self]
    unfold mapI
    rw [List.getElem?_map, List.getElem?_range hi]
    simp
  · have h9 : ((mapI i).take i ++ [AVal.int .u8 (m2 i : Nat)]).length = i + 1 := by rw [List.length_append, List.length_take]; simp; omega
    rw [List.getElem?_append_right (by omega), h9, List.getElem?_drop, show i + 1 + (k - (i + 1)) = k by omega]
    unfold mapI
    rw [List.getElem?_map, List.getElem?_map]
    by_cases hk : k < 256
    · rw [List.getElem?_range hk]
      simp [show ¬ k < i by omega, show ¬ k < i + 1 by omega]
    · rw [List.getElem?_eq_none (by simp; omega)]
      rfl
/-- The trie, from the heap's third place on. -/
abbrev trieH (bg bt n1 n2 n3 b7 n4 : Nat) : Heap := [.cells bg (some 192) (genC (.own 3 (.slice (some ⟨bt, 0, none⟩) 3 3)) 3 mapD), .row (.slice (some ⟨bt, 0, none⟩) 3 3) (some 187) 1 3 [.raw (.pointer none), .own 4 (pv n1 0), .raw (.pointer none)], .cells n1 (some 190) [.str [], .int .i64 0, .str [], .raw (.pointer none), .own 7 (.slice (some ⟨b7, 0, none⟩) 3 3)], .cells n2 (some 190) [.str [94], .int .i64 6, .str [], .raw (.pointer none), .raw (.slice none 0 0)], .cells n3 (some 190) [.str [10], .int .i64 4, .str [], .raw (.pointer none), .raw (.slice none 0 0)], .row (.slice (some ⟨b7, 0, none⟩) 3 3) (some 187) 1 3 [.own 8 (pv n4 0), .own 5 (pv n2 0), .own 6 (pv n3 0)], .cells n4 (some 190) [.str [34], .int .i64 2, .str [], .raw (.pointer none), .raw (.slice none 0 0)]]
theorem mkgen {G : Glo} (br vc : Nat) (e1 : HEnt) : FnSpec Tryz.prog G 92 [.raw (.slice (some ⟨br, 0, none⟩) 6 vc)] [decR br vc, e1]
    (fun r H => ∃ bg bt n1 n2 n3 b7 n4, r = .ret (.own 2 (pv bg 0)) ∧ H = [decR br vc, e1] ++ trieH bg bt n1 n2 n3 b7 n4) := by
  have hGL : GloAll G [] := gloAll_nil
  refine fn_xp 0 Tryz.func92 Tryz.call92 rfl rfl rfl rfl hGL rfl ?_
  intro C hC
  have r0 : RowAt (.slice (some ⟨br, 0, none⟩) 6 vc) br 6 := ⟨_, rfl⟩
  have d0 : decO[0]? = some (.str [94, 94]) := rfl
  have d1 : decO[1]? = some (.str [94]) := rfl
  have d2 : decO[2]? = some (.str [94, 110]) := rfl
  have d3 : decO[3]? = some (.str [10]) := rfl
  have d4 : decO[4]? = some (.str [94, 39]) := rfl
  have d5 : decO[5]? = some (.str [34]) := rfl
  repeat' (first
    | (conv => whnf); first
      | refine .w ?_ | (first | refine Ix.v ?_ | refine Sd.v ?_ | refine Sl.v ?_) | apply sc_true | apply sc_false
      | (first | apply sc_lt | apply sc_nlt | apply sc_eq | apply sc_neq | apply sc_nil | apply sc_nnil) <;> (intro hb; try exact dd hb)
      | apply sc_not | (apply sc_i <;> intro hb) | (apply bx_i; intro hbd) | (apply gt_i; assumption; exact rfl)
      | (apply cx_is; first | fail) | (apply ab_i; intro bl) | (apply rt_is; exact rfl) | exact rt_w
      | exact True.intro | (apply bc_i; intro C hC) | apply bt_i | apply og_n | (apply og_a; exact rfl))
  all_goals (try conv => whnf)
  refine rds hC hGL 4 ?_
  repeat' (first
    | (conv => whnf); first
      | refine .w ?_ | (first | refine Ix.v ?_ | refine Sd.v ?_ | refine Sl.v ?_) | apply sc_true | apply sc_false
      | (first | apply sc_lt | apply sc_nlt | apply sc_eq | apply sc_neq | apply sc_nil | apply sc_nnil) <;> (intro hb; try exact dd hb)
      | apply sc_not | (apply sc_i <;> intro hb) | (apply bx_i; intro hbd) | (apply gt_i; assumption; exact rfl)
      | (apply cx_is; first | fail) | (apply ab_i; intro bl) | (apply rt_is; exact rfl) | exact rt_w
      | exact True.intro | (apply bc_i; intro C hC) | apply bt_i | apply og_n | (apply og_a; exact rfl))
  all_goals (try conv => whnf)
  refine rds hC hGL 3 ?_
  repeat' (first
    | (conv => whnf); first
      | refine .w ?_ | (first | refine Ix.v ?_ | refine Sd.v ?_ | refine Sl.v ?_) | apply sc_true | apply sc_false
      | (first | apply sc_lt | apply sc_nlt | apply sc_eq | apply sc_neq | apply sc_nil | apply sc_nnil) <;> (intro hb; try exact dd hb)
      | apply sc_not | (apply sc_i <;> intro hb) | (apply bx_i; intro hbd) | (apply gt_i; assumption; exact rfl)
      | (apply cx_is; first | fail) | (apply ab_i; intro bl) | (apply rt_is; exact rfl) | exact rt_w
      | exact True.intro | (apply bc_i; intro C hC) | apply bt_i | apply og_n | (apply og_a; exact rfl))
  all_goals (try conv => whnf)
  refine dw_p mixed hC hGL false (fun (_ : Unit) => [(0, .own 0 (.slice (some ⟨br, 0, none⟩) 6 vc)), (3, .own 2 (pv bl 0)), (4, .int .i64 0), (5, .str [94, 94]), (6, .int .i64 0)]) (fun _ => [decR br vc, e1, .cells bl (some 192) (genC (.raw (.slice none 0 0)) 0 (zeroM.set 94 (.int .u8 1)))]) (.take 0 (.take 1 (.take 2 (.take 3 (.take 4 (.take 5 (.take 6 (.br 7 (.done) (.nil))))))))) (by kernel_rfl) ?_ ?_
  · repeat' (first
      | (conv => whnf); first
        | refine .w ?_ | (first | refine Ix.v ?_ | refine Sd.v ?_ | refine Sl.v ?_) | apply sc_true | apply sc_false
        | (first | apply sc_lt | apply sc_nlt | apply sc_eq | apply sc_neq | apply sc_nil | apply sc_nnil) <;> (intro hb; try exact dd hb)
        | apply sc_not | (apply sc_i <;> intro hb) | (apply bx_i; intro hbd) | (apply gt_i; assumption; exact rfl)
        | (apply cx_is; first | fail) | (apply ab_i; intro bl) | (apply rt_is; exact rfl) | exact rt_w
        | exact True.intro | (apply bc_i; intro C hC) | apply bt_i | apply og_n | (apply og_a; exact rfl))
    all_goals (try conv => whnf)
    exact ⟨(), ⟨rfl, rfl, rfl, rfl, rfl, trivial⟩, rfl⟩
  intro _
  repeat' (first
    | (conv => whnf); first
      | refine .w ?_ | (first | refine Ix.v ?_ | refine Sd.v ?_ | refine Sl.v ?_) | apply sc_true | apply sc_false
      | (first | apply sc_lt | apply sc_nlt | apply sc_eq | apply sc_neq | apply sc_nil | apply sc_nnil) <;> (intro hb; try exact dd hb)
      | apply sc_not | (apply sc_i <;> intro hb) | (apply bx_i; intro hbd) | (apply gt_i; assumption; exact rfl)
      | (apply cx_is; first | fail) | (apply ab_i; intro bl) | (apply rt_is; exact rfl) | exact rt_w
      | exact True.intro | (apply bc_i; intro C hC) | apply bt_i | apply og_n | (apply og_a; exact rfl))
  all_goals (try conv => whnf)
  refine dw_p mixed hC hGL false (fun (_ : Unit) => [(0, .own 0 (.slice (some ⟨br, 0, none⟩) 6 vc)), (3, .own 2 (pv bl 0)), (4, .int .i64 0), (5, .str [94, 94]), (6, .int .i64 1)]) (fun _ => [decR br vc, e1, .cells bl (some 192) (genC (.raw (.slice none 0 0)) 0 (zeroM.set 94 (.int .u8 1)))]) (.take 0 (.take 1 (.take 2 (.take 3 (.take 4 (.take 5 (.take 6 (.br 7 (.done) (.nil))))))))) (by kernel_rfl) ?_ ?_
  · repeat' (first
      | (conv => whnf); first
        | refine .w ?_ | (first | refine Ix.v ?_ | refine Sd.v ?_ | refine Sl.v ?_) | apply sc_true | apply sc_false
        | (first | apply sc_lt | apply sc_nlt | apply sc_eq | apply sc_neq | apply sc_nil | apply sc_nnil) <;> (intro hb; try exact dd hb)
        | apply sc_not | (apply sc_i <;> intro hb) | (apply bx_i; intro hbd) | (apply gt_i; assumption; exact rfl)
        | (apply cx_is; first | fail) | (apply ab_i; intro bl) | (apply rt_is; exact rfl) | exact rt_w
        | exact True.intro | (apply bc_i; intro C hC) | apply bt_i | apply og_n | (apply og_a; exact rfl))
    all_goals (try conv => whnf)
    exact ⟨(), ⟨rfl, rfl, rfl, rfl, rfl, trivial⟩, rfl⟩
  intro _
  repeat' (first
    | (conv => whnf); first
      | refine .w ?_ | (first | refine Ix.v ?_ | refine Sd.v ?_ | refine Sl.v ?_) | apply sc_true | apply sc_false
      | (first | apply sc_lt | apply sc_nlt | apply sc_eq | apply sc_neq | apply sc_nil | apply sc_nnil) <;> (intro hb; try exact dd hb)
      | apply sc_not | (apply sc_i <;> intro hb) | (apply bx_i; intro hbd) | (apply gt_i; assumption; exact rfl)
      | (apply cx_is; first | fail) | (apply ab_i; intro bl) | (apply rt_is; exact rfl) | exact rt_w
      | exact True.intro | (apply bc_i; intro C hC) | apply bt_i | apply og_n | (apply og_a; exact rfl))
  all_goals (try conv => whnf)
  refine rds hC hGL 3 ?_
  repeat' (first
    | (conv => whnf); first
      | refine .w ?_ | (first | refine Ix.v ?_ | refine Sd.v ?_ | refine Sl.v ?_) | apply sc_true | apply sc_false
      | (first | apply sc_lt | apply sc_nlt | apply sc_eq | apply sc_neq | apply sc_nil | apply sc_nnil) <;> (intro hb; try exact dd hb)
      | apply sc_not | (apply sc_i <;> intro hb) | (apply bx_i; intro hbd) | (apply gt_i; assumption; exact rfl)
      | (apply cx_is; first | fail) | (apply ab_i; intro bl) | (apply rt_is; exact rfl) | exact rt_w
      | exact True.intro | (apply bc_i; intro C hC) | apply bt_i | apply og_n | (apply og_a; exact rfl))
  all_goals (try conv => whnf)
  refine dw_p mixed hC hGL false (fun (_ : Unit) => [(0, .own 0 (.slice (some ⟨br, 0, none⟩) 6 vc)), (3, .own 2 (pv bl 0)), (4, .int .i64 2), (5, .str [94, 110]), (6, .int .i64 0)]) (fun _ => [decR br vc, e1, .cells bl (some 192) (genC (.raw (.slice none 0 0)) 0 (zeroM.set 94 (.int .u8 1)))]) (.take 0 (.take 1 (.take 2 (.take 3 (.take 4 (.take 5 (.take 6 (.br 7 (.done) (.nil))))))))) (by kernel_rfl) ?_ ?_
  · repeat' (first
      | (conv => whnf); first
        | refine .w ?_ | (first | refine Ix.v ?_ | refine Sd.v ?_ | refine Sl.v ?_) | apply sc_true | apply sc_false
        | (first | apply sc_lt | apply sc_nlt | apply sc_eq | apply sc_neq | apply sc_nil | apply sc_nnil) <;> (intro hb; try exact dd hb)
        | apply sc_not | (apply sc_i <;> intro hb) | (apply bx_i; intro hbd) | (apply gt_i; assumption; exact rfl)
        | (apply cx_is; first | fail) | (apply ab_i; intro bl) | (apply rt_is; exact rfl) | exact rt_w
        | exact True.intro | (apply bc_i; intro C hC) | apply bt_i | apply og_n | (apply og_a; exact rfl))
    all_goals (try conv => whnf)
    exact ⟨(), ⟨rfl, rfl, rfl, rfl, rfl, trivial⟩, rfl⟩
  intro _
  repeat' (first
    | (conv => whnf); first
      | refine .w ?_ | (first | refine Ix.v ?_ | refine Sd.v ?_ | refine Sl.v ?_) | apply sc_true | apply sc_false
      | (first | apply sc_lt | apply sc_nlt | apply sc_eq | apply sc_neq | apply sc_nil | apply sc_nnil) <;> (intro hb; try exact dd hb)
      | apply sc_not | (apply sc_i <;> intro hb) | (apply bx_i; intro hbd) | (apply gt_i; assumption; exact rfl)
      | (apply cx_is; first | fail) | (apply ab_i; intro bl) | (apply rt_is; exact rfl) | exact rt_w
      | exact True.intro | (apply bc_i; intro C hC) | apply bt_i | apply og_n | (apply og_a; exact rfl))
  all_goals (try conv => whnf)
  refine dw_p mixed hC hGL false (fun (_ : Unit) => [(0, .own 0 (.slice (some ⟨br, 0, none⟩) 6 vc)), (3, .own 2 (pv bl 0)), (4, .int .i64 2), (5, .str [94, 110]), (6, .int .i64 1)]) (fun _ => [decR br vc, e1, .cells bl (some 192) (genC (.raw (.slice none 0 0)) 0 ((zeroM.set 94 (.int .u8 1)).set 110 (.int .u8 1)))]) (.take 0 (.take 1 (.take 2 (.take 3 (.take 4 (.take 5 (.take 6 (.br 7 (.done) (.nil))))))))) (by kernel_rfl) ?_ ?_
  · repeat' (first
      | (conv => whnf); first
        | refine .w ?_ | (first | refine Ix.v ?_ | refine Sd.v ?_ | refine Sl.v ?_) | apply sc_true | apply sc_false
        | (first | apply sc_lt | apply sc_nlt | apply sc_eq | apply sc_neq | apply sc_nil | apply sc_nnil) <;> (intro hb; try exact dd hb)
        | apply sc_not | (apply sc_i <;> intro hb) | (apply bx_i; intro hbd) | (apply gt_i; assumption; exact rfl)
        | (apply cx_is; first | fail) | (apply ab_i; intro bl) | (apply rt_is; exact rfl) | exact rt_w
        | exact True.intro | (apply bc_i; intro C hC) | apply bt_i | apply og_n | (apply og_a; exact rfl))
    all_goals (try conv => whnf)
    exact ⟨(), ⟨rfl, rfl, rfl, rfl, rfl, trivial⟩, rfl⟩
  intro _
  repeat' (first
    | (conv => whnf); first
      | refine .w ?_ | (first | refine Ix.v ?_ | refine Sd.v ?_ | refine Sl.v ?_) | apply sc_true | apply sc_false
      | (first | apply sc_lt | apply sc_nlt | apply sc_eq | apply sc_neq | apply sc_nil | apply sc_nnil) <;> (intro hb; try exact dd hb)
      | apply sc_not | (apply sc_i <;> intro hb) | (apply bx_i; intro hbd) | (apply gt_i; assumption; exact rfl)
      | (apply cx_is; first | fail) | (apply ab_i; intro bl) | (apply rt_is; exact rfl) | exact rt_w
      | exact True.intro | (apply bc_i; intro C hC) | apply bt_i | apply og_n | (apply og_a; exact rfl))
  all_goals (try conv => whnf)
  refine rds hC hGL 3 ?_
  repeat' (first
    | (conv => whnf); first
      | refine .w ?_ | (first | refine Ix.v ?_ | refine Sd.v ?_ | refine Sl.v ?_) | apply sc_true | apply sc_false
      | (first | apply sc_lt | apply sc_nlt | apply sc_eq | apply sc_neq | apply sc_nil | apply sc_nnil) <;> (intro hb; try exact dd hb)
      | apply sc_not | (apply sc_i <;> intro hb) | (apply bx_i; intro hbd) | (apply gt_i; assumption; exact rfl)
      | (apply cx_is; first | fail) | (apply ab_i; intro bl) | (apply rt_is; exact rfl) | exact rt_w
      | exact True.intro | (apply bc_i; intro C hC) | apply bt_i | apply og_n | (apply og_a; exact rfl))
  all_goals (try conv => whnf)
  refine dw_p mixed hC hGL false (fun (_ : Unit) => [(0, .own 0 (.slice (some ⟨br, 0, none⟩) 6 vc)), (3, .own 2 (pv bl 0)), (4, .int .i64 4), (5, .str [94, 39]), (6, .int .i64 0)]) (fun _ => [decR br vc, e1, .cells bl (some 192) (genC (.raw (.slice none 0 0)) 0 ((zeroM.set 94 (.int .u8 1)).set 110 (.int .u8 1)))]) (.take 0 (.take 1 (.take 2 (.take 3 (.take 4 (.take 5 (.take 6 (.br 7 (.done) (.nil))))))))) (by kernel_rfl) ?_ ?_
  · repeat' (first
      | (conv => whnf); first
        | refine .w ?_ | (first | refine Ix.v ?_ | refine Sd.v ?_ | refine Sl.v ?_) | apply sc_true | apply sc_false
        | (first | apply sc_lt | apply sc_nlt | apply sc_eq | apply sc_neq | apply sc_nil | apply sc_nnil) <;> (intro hb; try exact dd hb)
        | apply sc_not | (apply sc_i <;> intro hb) | (apply bx_i; intro hbd) | (apply gt_i; assumption; exact rfl)
        | (apply cx_is; first | fail) | (apply ab_i; intro bl) | (apply rt_is; exact rfl) | exact rt_w
        | exact True.intro | (apply bc_i; intro C hC) | apply bt_i | apply og_n | (apply og_a; exact rfl))
    all_goals (try conv => whnf)
    exact ⟨(), ⟨rfl, rfl, rfl, rfl, rfl, trivial⟩, rfl⟩
  intro _
  repeat' (first
    | (conv => whnf); first
      | refine .w ?_ | (first | refine Ix.v ?_ | refine Sd.v ?_ | refine Sl.v ?_) | apply sc_true | apply sc_false
      | (first | apply sc_lt | apply sc_nlt | apply sc_eq | apply sc_neq | apply sc_nil | apply sc_nnil) <;> (intro hb; try exact dd hb)
      | apply sc_not | (apply sc_i <;> intro hb) | (apply bx_i; intro hbd) | (apply gt_i; assumption; exact rfl)
      | (apply cx_is; first | fail) | (apply ab_i; intro bl) | (apply rt_is; exact rfl) | exact rt_w
      | exact True.intro | (apply bc_i; intro C hC) | apply bt_i | apply og_n | (apply og_a; exact rfl))
  all_goals (try conv => whnf)
  refine dw_p mixed hC hGL false (fun (_ : Unit) => [(0, .own 0 (.slice (some ⟨br, 0, none⟩) 6 vc)), (3, .own 2 (pv bl 0)), (4, .int .i64 4), (5, .str [94, 39]), (6, .int .i64 1)]) (fun _ => [decR br vc, e1, .cells bl (some 192) (genC (.raw (.slice none 0 0)) 0 mapM)]) (.take 0 (.take 1 (.take 2 (.take 3 (.take 4 (.take 5 (.take 6 (.br 7 (.done) (.nil))))))))) (by kernel_rfl) ?_ ?_
  · repeat' (first
      | (conv => whnf); first
        | refine .w ?_ | (first | refine Ix.v ?_ | refine Sd.v ?_ | refine Sl.v ?_) | apply sc_true | apply sc_false
        | (first | apply sc_lt | apply sc_nlt | apply sc_eq | apply sc_neq | apply sc_nil | apply sc_nnil) <;> (intro hb; try exact dd hb)
        | apply sc_not | (apply sc_i <;> intro hb) | (apply bx_i; intro hbd) | (apply gt_i; assumption; exact rfl)
        | (apply cx_is; first | fail) | (apply ab_i; intro bl) | (apply rt_is; exact rfl) | exact rt_w
        | exact True.intro | (apply bc_i; intro C hC) | apply bt_i | apply og_n | (apply og_a; exact rfl))
    all_goals (try conv => whnf)
    exact ⟨(), ⟨rfl, rfl, rfl, rfl, rfl, trivial⟩, rfl⟩
  intro _
  repeat' (first
    | (conv => whnf); first
      | refine .w ?_ | (first | refine Ix.v ?_ | refine Sd.v ?_ | refine Sl.v ?_) | apply sc_true | apply sc_false
      | (first | apply sc_lt | apply sc_nlt | apply sc_eq | apply sc_neq | apply sc_nil | apply sc_nnil) <;> (intro hb; try exact dd hb)
      | apply sc_not | (apply sc_i <;> intro hb) | (apply bx_i; intro hbd) | (apply gt_i; assumption; exact rfl)
      | (apply cx_is; first | fail) | (apply ab_i; intro bl) | (apply rt_is; exact rfl) | exact rt_w
      | exact True.intro | (apply bc_i; intro C hC) | apply bt_i | apply og_n | (apply og_a; exact rfl))
  all_goals (try conv => whnf)
  have hs : ∀ i : Nat, ((cnt3 i : Nat) : Int) + (m1 i : Nat) = ((cnt3 (i + 1) : Nat) : Int) := fun i => by rw [cnt3_succ, Int.natCast_add]
  refine lp hC hGL (fun i : Nat => [(0, .own 0 (.slice (some ⟨br, 0, none⟩) 6 vc)), (3, .own 2 (pv bl 0)), (40, .agg mapM), (41, .int .i64 (i : Nat))]) (fun i => [decR br vc, e1, .cells bl (some 192) (genC (.raw (.slice none 0 0)) ((cnt3 i : Nat) : Int) mapM)]) (fun i => i ≤ 256) (fun i => 256 - i) 0 ?_ env_w rfl ?_
  · omega
  · intro i hi
    have hc3 := cnt3_le i
    have hm1 := m1_le i
    by_cases hlt : i < 256
    · repeat' (first
        | (conv => whnf); first
          | refine .w ?_ | (first | refine Ix.v ?_ | refine Sd.v ?_ | refine Sl.v ?_) | apply sc_true | apply sc_false
          | (first | apply sc_lt | apply sc_nlt | apply sc_eq | apply sc_neq | apply sc_nil | apply sc_nnil) <;> (intro hb; try exact dd hb)
          | apply sc_not | (apply sc_i <;> intro hb) | (apply bx_i; intro hbd) | (apply gt_i; assumption; exact rfl)
          | (apply cx_is; first | fail) | (apply ab_i; intro bl) | (apply rt_is; exact rfl) | exact rt_w
          | exact True.intro | (apply bc_i; intro C hC) | apply bt_i | apply og_n | (apply og_a; exact rfl))
      all_goals (try conv => whnf)
      refine op1_run hC hGL (rv_indexA (i := i) rfl rfl rfl rfl rfl rfl rfl hlt (mapM_get hlt) rfl) rfl rfl ?_
      repeat' (first
        | (conv => whnf); first
          | refine .w ?_ | (first | refine Ix.v ?_ | refine Sd.v ?_ | refine Sl.v ?_) | apply sc_true | apply sc_false
          | (first | apply sc_lt | apply sc_nlt | apply sc_eq | apply sc_neq | apply sc_nil | apply sc_nnil) <;> (intro hb; try exact dd hb)
          | apply sc_not | (apply sc_i <;> intro hb) | (apply bx_i; intro hbd) | (apply gt_i; assumption; exact rfl)
          | (apply cx_is; first | fail) | (apply ab_i; intro bl) | (apply rt_is; exact rfl) | exact rt_w
          | exact True.intro | (apply bc_i; intro C hC) | apply bt_i | apply og_n | (apply og_a; exact rfl))
      all_goals (try conv => whnf)
      refine nxt (i + 1) ?_ ?_ ⟨rfl, rfl, rfl, rfl, trivial⟩ ?_
      · show i + 1 ≤ 256; omega
      · show 256 - (i + 1) < 256 - i; omega
      · show _ = [decR br vc, e1, .cells bl (some 192) (genC (.raw (.slice none 0 0)) ((cnt3 (i + 1) : Nat) : Int) mapM)]
        rw [← hs]
        rfl
    · obtain rfl : i = 256 := by omega
      repeat' (first
        | (conv => whnf); first
          | refine .w ?_ | (first | refine Ix.v ?_ | refine Sd.v ?_ | refine Sl.v ?_) | apply sc_true | apply sc_false
          | (first | apply sc_lt | apply sc_nlt | apply sc_eq | apply sc_neq | apply sc_nil | apply sc_nnil) <;> (intro hb; try exact dd hb)
          | apply sc_not | (apply sc_i <;> intro hb) | (apply bx_i; intro hbd) | (apply gt_i; assumption; exact rfl)
          | (apply cx_is; first | fail) | (apply ab_i; intro bl) | (apply rt_is; exact rfl) | exact rt_w
          | exact True.intro | (apply bc_i; intro C hC) | apply bt_i | apply og_n | (apply og_a; exact rfl))
      all_goals (try conv => whnf)
      refine lp hC hGL (fun x : Nat × List AVal => [(0, .own 0 (.slice (some ⟨br, 0, none⟩) 6 vc)), (3, .own 2 (pv bl 0)), (9, .int .u8 ((cnt3 x.1 : Nat) : Int)), (57, .agg mapM), (58, .int .i64 (x.1 : Nat))]) (fun x => [decR br vc, e1, .cells bl (some 192) (genC (.raw (.slice none 0 0)) 3 x.2)]) (fun x => x.1 ≤ 256 ∧ x.2 = mapI x.1) (fun x => 256 - x.1) (0, mapI 0) ⟨Nat.zero_le _, rfl⟩ ⟨rfl, rfl, rfl, rfl, rfl, trivial⟩ rfl ?_
      rintro ⟨i, M⟩ ⟨hi, hM⟩
      have hi : i ≤ 256 := hi
      have hM : M = mapI i := hM
      have hMl : M.length = 256 := by rw [hM]; exact mapI_len i
      have hc3 := cnt3_le i
      have hm1 := m1_le i
      by_cases hlt : i < 256
      · repeat' (first
          | (conv => whnf); first
            | refine .w ?_ | (first | refine Ix.v ?_ | refine Sd.v ?_ | refine Sl.v ?_) | apply sc_true | apply sc_false
            | (first | apply sc_lt | apply sc_nlt | apply sc_eq | apply sc_neq | apply sc_nil | apply sc_nnil) <;> (intro hb; try exact dd hb)
            | apply sc_not | (apply sc_i <;> intro hb) | (apply bx_i; intro hbd) | (apply gt_i; assumption; exact rfl)
            | (apply cx_is; first | fail) | (apply ab_i; intro bl) | (apply rt_is; exact rfl) | exact rt_w
            | exact True.intro | (apply bc_i; intro C hC) | apply bt_i | apply og_n | (apply og_a; exact rfl))
        all_goals (try conv => whnf)
        refine op1_run hC hGL (rv_indexA (i := i) rfl rfl rfl rfl rfl rfl rfl hlt (mapM_get hlt) rfl) rfl rfl ?_
        repeat' (first
          | (conv => whnf); first
            | refine .w ?_ | (first | refine Ix.v ?_ | refine Sd.v ?_ | refine Sl.v ?_) | apply sc_true | apply sc_false
            | (first | apply sc_lt | apply sc_nlt | apply sc_eq | apply sc_neq | apply sc_nil | apply sc_nnil) <;> (intro hb; try exact dd hb)
            | apply sc_not | (apply sc_i <;> intro hb) | (apply bx_i; intro hbd) | (apply gt_i; assumption; exact rfl)
            | (apply cx_is; first | fail) | (apply ab_i; intro bl) | (apply rt_is; exact rfl) | exact rt_w
            | exact True.intro | (apply bc_i; intro C hC) | apply bt_i | apply og_n | (apply og_a; exact rfl))
        all_goals (try conv => whnf)
        · refine dw_p mixed hC hGL false (fun (_ : Unit) => [(0, .own 0 (.slice (some ⟨br, 0, none⟩) 6 vc)), (3, .own 2 (pv bl 0)), (9, .int .u8 ((cnt3 i : Nat) : Int)), (57, .agg mapM), (58, .int .i64 (i : Nat))]) (fun _ => [decR br vc, e1, .cells bl (some 192) (genC (.raw (.slice none 0 0)) 3 (M.take i ++ [.int .u8 3] ++ M.drop (i + 1)))]) (.take 0 (.take 1 (.take 2 (.take 3 (.take 4 (.take 7 (.take 8 (.br 5 (.take 6 (.take 9 (.br 10 (.done) (.nil)))) (.nil))))))))) (by kernel_rfl) ?_ ?_
          · repeat' (first
              | (conv => whnf); first
                | refine .w ?_ | (first | refine Ix.v ?_ | refine Sd.v ?_ | refine Sl.v ?_) | apply sc_true | apply sc_false
                | (first | apply sc_lt | apply sc_nlt | apply sc_eq | apply sc_neq | apply sc_nil | apply sc_nnil) <;> (intro hb; try exact dd hb)
                | apply sc_not | (apply sc_i <;> intro hb) | (apply bx_i; intro hbd) | (apply gt_i; assumption; exact rfl)
                | (apply cx_is; first | fail) | (apply ab_i; intro bl) | (apply rt_is; exact rfl) | exact rt_w
                | exact True.intro | (apply bc_i; intro C hC) | apply bt_i | apply og_n | (apply og_a; exact rfl))
            all_goals (try conv => whnf)
            erw [genC_ble hMl hlt]
            refine sp_i rfl ?_
            erw [forceL_eq, genC_put]
            repeat' (first
              | (conv => whnf); first
                | refine .w ?_ | (first | refine Ix.v ?_ | refine Sd.v ?_ | refine Sl.v ?_) | apply sc_true | apply sc_false
                | (first | apply sc_lt | apply sc_nlt | apply sc_eq | apply sc_neq | apply sc_nil | apply sc_nnil) <;> (intro hb; try exact dd hb)
                | apply sc_not | (apply sc_i <;> intro hb) | (apply bx_i; intro hbd) | (apply gt_i; assumption; exact rfl)
                | (apply cx_is; first | fail) | (apply ab_i; intro bl) | (apply rt_is; exact rfl) | exact rt_w
                | exact True.intro | (apply bc_i; intro C hC) | apply bt_i | apply og_n | (apply og_a; exact rfl))
            all_goals (try conv => whnf)
            exact ⟨(), ⟨rfl, rfl, rfl, rfl, rfl, trivial⟩, rfl⟩
          · intro _
            repeat' (first
              | (conv => whnf); first
                | refine .w ?_ | (first | refine Ix.v ?_ | refine Sd.v ?_ | refine Sl.v ?_) | apply sc_true | apply sc_false
                | (first | apply sc_lt | apply sc_nlt | apply sc_eq | apply sc_neq | apply sc_nil | apply sc_nnil) <;> (intro hb; try exact dd hb)
                | apply sc_not | (apply sc_i <;> intro hb) | (apply bx_i; intro hbd) | (apply gt_i; assumption; exact rfl)
                | (apply cx_is; first | fail) | (apply ab_i; intro bl) | (apply rt_is; exact rfl) | exact rt_w
                | exact True.intro | (apply bc_i; intro C hC) | apply bt_i | apply og_n | (apply og_a; exact rfl))
            all_goals (try conv => whnf)
            have h0 : m1 i = 0 := by omega
            have h1 : m1 i + cnt3 i = cnt3 (i + 1) := by rw [cnt3_succ]; omega
            rw [h0, Nat.zero_add] at h1
            refine nxt (i + 1, M.take i ++ [.int .u8 3] ++ M.drop (i + 1)) ?_ ?_ ⟨rfl, rfl, ?_, rfl, rfl, trivial⟩ rfl
            · refine ⟨hlt, ?_⟩
              show M.take i ++ [.int .u8 3] ++ M.drop (i + 1) = mapI (i + 1)
              rw [hM, ← mapI_succ hlt, m2_of0 h0]
              rfl
            · show 256 - (i + 1) < 256 - i; omega
            · show some (AVal.int .u8 ((cnt3 i : Nat) : Int)) = some (AVal.int .u8 ((cnt3 (i + 1) : Nat) : Int))
              rw [h1]
        · erw [genC_ble hMl hlt]
          refine sp_i rfl ?_
          erw [forceL_eq, genC_put]
          repeat' (first
            | (conv => whnf); first
              | refine .w ?_ | (first | refine Ix.v ?_ | refine Sd.v ?_ | refine Sl.v ?_) | apply sc_true | apply sc_false
              | (first | apply sc_lt | apply sc_nlt | apply sc_eq | apply sc_neq | apply sc_nil | apply sc_nnil) <;> (intro hb; try exact dd hb)
              | apply sc_not | (apply sc_i <;> intro hb) | (apply bx_i; intro hbd) | (apply gt_i; assumption; exact rfl)
              | (apply cx_is; first | fail) | (apply ab_i; intro bl) | (apply rt_is; exact rfl) | exact rt_w
              | exact True.intro | (apply bc_i; intro C hC) | apply bt_i | apply og_n | (apply og_a; exact rfl))
          all_goals (try conv => whnf)
          have h0 : m1 i ≠ 0 := by omega
          have h1 : m1 i + cnt3 i = cnt3 (i + 1) := by rw [cnt3_succ]; omega
          refine nxt (i + 1, M.take i ++ [.int .u8 ((cnt3 i : Nat) : Int)] ++ M.drop (i + 1)) ?_ ?_ ⟨rfl, rfl, ?_, rfl, rfl, trivial⟩ rfl
          · refine ⟨hlt, ?_⟩
            show M.take i ++ [.int .u8 ((cnt3 i : Nat) : Int)] ++ M.drop (i + 1) = mapI (i + 1)
            rw [hM, ← mapI_succ hlt, m2_of1 h0]
          · show 256 - (i + 1) < 256 - i; omega
          · show some (AVal.int .u8 (((cnt3 i : Nat) : Int) + 1)) = some (AVal.int .u8 ((cnt3 (i + 1) : Nat) : Int))
            rw [show ((cnt3 (i + 1) : Nat) : Int) = (cnt3 i : Nat) + 1 by omega]
      · obtain rfl : i = 256 := by omega
        subst hM
        repeat' (first
          | (conv => whnf); first
            | refine .w ?_ | (first | refine Ix.v ?_ | refine Sd.v ?_ | refine Sl.v ?_) | apply sc_true | apply sc_false
            | (first | apply sc_lt | apply sc_nlt | apply sc_eq | apply sc_neq | apply sc_nil | apply sc_nnil) <;> (intro hb; try exact dd hb)
            | apply sc_not | (apply sc_i <;> intro hb) | (apply bx_i; intro hbd) | (apply gt_i; assumption; exact rfl)
            | (apply cx_is; first | fail) | (apply ab_i; intro bl) | (apply rt_is; exact rfl) | exact rt_w
            | exact True.intro | (apply bc_i; intro C hC) | apply bt_i | apply og_n | (apply og_a; exact rfl))
        all_goals (try conv => whnf)
        refine op1_makeP (m := 3) hC hGL rfl rfl (by omega) rfl rfl rfl rfl rfl rfl rfl rfl (fun bt => ?_)
        repeat' (first
          | (conv => whnf); first
            | refine .w ?_ | (first | refine Ix.v ?_ | refine Sd.v ?_ | refine Sl.v ?_) | apply sc_true | apply sc_false
            | (first | apply sc_lt | apply sc_nlt | apply sc_eq | apply sc_neq | apply sc_nil | apply sc_nnil) <;> (intro hb; try exact dd hb)
            | apply sc_not | (apply sc_i <;> intro hb) | (apply bx_i; intro hbd) | (apply gt_i; assumption; exact rfl)
            | (apply cx_is; first | fail) | (apply ab_i; intro bl) | (apply rt_is; exact rfl) | exact rt_w
            | exact True.intro | (apply bc_i; intro C hC) | apply bt_i | apply og_n | (apply og_a; exact rfl))
        all_goals (try conv => whnf)
        refine rds hC hGL 4 ?_
        repeat' (first
          | (conv => whnf); first
            | refine .w ?_ | (first | refine Ix.v ?_ | refine Sd.v ?_ | refine Sl.v ?_) | apply sc_true | apply sc_false
            | (first | apply sc_lt | apply sc_nlt | apply sc_eq | apply sc_neq | apply sc_nil | apply sc_nnil) <;> (intro hb; try exact dd hb)
            | apply sc_not | (apply sc_i <;> intro hb) | (apply bx_i; intro hbd) | (apply gt_i; assumption; exact rfl)
            | (apply cx_is; first | fail) | (apply ab_i; intro bl) | (apply rt_is; exact rfl) | exact rt_w
            | exact True.intro | (apply bc_i; intro C hC) | apply bt_i | apply og_n | (apply og_a; exact rfl))
        all_goals (try conv => whnf)
        refine dw_p mixed hC hGL false (fun (_ : Nat × Nat) => [(0, .own 0 (.slice (some ⟨br, 0, none⟩) 6 vc)), (3, .own 2 (pv bl 0)), (12, .int .i64 0)]) (fun y => [decR br vc, e1, .cells bl (some 192) (genC (.own 3 (.slice (some ⟨bt, 0, none⟩) 3 3)) 3 mapD), .row (.slice (some ⟨bt, 0, none⟩) 3 3) (some 187) 1 3 [.raw (.pointer none), .own 4 (pv y.1 0), .raw (.pointer none)], .cells y.1 (some 190) [.str [], .int .i64 0, .str [94], .own 5 (pv y.2 0), .raw (.slice none 0 0)], .cells y.2 (some 190) [.str [94], .int .i64 6, .str [], .raw (.pointer none), .raw (.slice none 0 0)]]) (.take 0 (.take 1 (.take 2 (.take 3 (.take 4 (.take 5 (.take 7 (.take 8 (.take 9 (.take 10 (.take 12 (.take 13 (.take 14 (.take 15 (.take 16 (.br 6 (.br 11 (.br 17 (.done) (.nil)) (.nil)) (.br 11 (.br 6 (.br 17 (.done) (.nil)) (.nil)) (.nil)))))))))))))))))) (by kernel_rfl) ?_ ?_
        · repeat' (first
            | (conv => whnf); first
              | refine .w ?_ | (first | refine Ix.v ?_ | refine Sd.v ?_ | refine Sl.v ?_) | apply sc_true | apply sc_false
              | (first | apply sc_lt | apply sc_nlt | apply sc_eq | apply sc_neq | apply sc_nil | apply sc_nnil) <;> (intro hb; try exact dd hb)
              | apply sc_not | (apply sc_i <;> intro hb) | (apply bx_i; intro hbd) | (apply gt_i; assumption; exact rfl)
              | (apply cx_is; first | fail) | (apply ab_i; intro bl) | (apply rt_is; exact rfl) | exact rt_w
              | exact True.intro | (apply bc_i; intro C hC) | apply bt_i | apply og_n | (apply og_a; exact rfl))
          all_goals (try conv => whnf)
          · refine ⟨_, root_1 bl bt _ _, ?_, ?_⟩
            · rintro v H ⟨n1, n2, e, rfl⟩
              cases e
              repeat' (first
                | (conv => whnf); first
                  | refine .w ?_ | (first | refine Ix.v ?_ | refine Sd.v ?_ | refine Sl.v ?_) | apply sc_true | apply sc_false
                  | (first | apply sc_lt | apply sc_nlt | apply sc_eq | apply sc_neq | apply sc_nil | apply sc_nnil) <;> (intro hb; try exact dd hb)
                  | apply sc_not | (apply sc_i <;> intro hb) | (apply bx_i; intro hbd) | (apply gt_i; assumption; exact rfl)
                  | (apply cx_is; first | fail) | (apply ab_i; intro bl) | (apply rt_is; exact rfl) | exact rt_w
                  | exact True.intro | (apply bc_i; intro C hC) | apply bt_i | apply og_n | (apply og_a; exact rfl))
              all_goals (try conv => whnf)
              exact ⟨(n1, n2), ⟨rfl, rfl, rfl, trivial⟩, rfl⟩
            · rintro v H ⟨n1, n2, e, rfl⟩
              cases e
          · refine ⟨_, root_1 bl bt _ _, ?_, ?_⟩
            · rintro v H ⟨n1, n2, e, rfl⟩
              cases e
              repeat' (first
                | (conv => whnf); first
                  | refine .w ?_ | (first | refine Ix.v ?_ | refine Sd.v ?_ | refine Sl.v ?_) | apply sc_true | apply sc_false
                  | (first | apply sc_lt | apply sc_nlt | apply sc_eq | apply sc_neq | apply sc_nil | apply sc_nnil) <;> (intro hb; try exact dd hb)
                  | apply sc_not | (apply sc_i <;> intro hb) | (apply bx_i; intro hbd) | (apply gt_i; assumption; exact rfl)
                  | (apply cx_is; first | fail) | (apply ab_i; intro bl) | (apply rt_is; exact rfl) | exact rt_w
                  | exact True.intro | (apply bc_i; intro C hC) | apply bt_i | apply og_n | (apply og_a; exact rfl))
              all_goals (try conv => whnf)
              exact ⟨(n1, n2), ⟨rfl, rfl, rfl, trivial⟩, rfl⟩
            · rintro v H ⟨n1, n2, e, rfl⟩
              cases e
        intro y
        repeat' (first
          | (conv => whnf); first
            | refine .w ?_ | (first | refine Ix.v ?_ | refine Sd.v ?_ | refine Sl.v ?_) | apply sc_true | apply sc_false
            | (first | apply sc_lt | apply sc_nlt | apply sc_eq | apply sc_neq | apply sc_nil | apply sc_nnil) <;> (intro hb; try exact dd hb)
            | apply sc_not | (apply sc_i <;> intro hb) | (apply bx_i; intro hbd) | (apply gt_i; assumption; exact rfl)
            | (apply cx_is; first | fail) | (apply ab_i; intro bl) | (apply rt_is; exact rfl) | exact rt_w
            | exact True.intro | (apply bc_i; intro C hC) | apply bt_i | apply og_n | (apply og_a; exact rfl))
        all_goals (try conv => whnf)
        refine dw_p mixed hC hGL false (fun (_ : Nat × Nat) => [(0, .own 0 (.slice (some ⟨br, 0, none⟩) 6 vc)), (3, .own 2 (pv bl 0)), (12, .int .i64 2)]) (fun z => [decR br vc, e1, .cells bl (some 192) (genC (.own 3 (.slice (some ⟨bt, 0, none⟩) 3 3)) 3 mapD), .row (.slice (some ⟨bt, 0, none⟩) 3 3) (some 187) 1 3 [.raw (.pointer none), .own 4 (pv y.1 0), .raw (.pointer none)], .cells y.1 (some 190) [.str [], .int .i64 0, .str [], .raw (.pointer none), .own 7 (.slice (some ⟨z.2, 0, none⟩) 3 3)], .cells y.2 (some 190) [.str [94], .int .i64 6, .str [], .raw (.pointer none), .raw (.slice none 0 0)], .cells z.1 (some 190) [.str [10], .int .i64 4, .str [], .raw (.pointer none), .raw (.slice none 0 0)], .row (.slice (some ⟨z.2, 0, none⟩) 3 3) (some 187) 1 3 [.raw (.pointer none), .own 5 (pv y.2 0), .own 6 (pv z.1 0)]]) (.take 0 (.take 1 (.take 2 (.take 3 (.take 4 (.take 5 (.take 7 (.take 8 (.take 9 (.take 10 (.take 12 (.take 13 (.take 14 (.take 15 (.take 16 (.br 6 (.br 11 (.br 17 (.done) (.nil)) (.nil)) (.br 11 (.br 6 (.br 17 (.done) (.nil)) (.nil)) (.nil)))))))))))))))))) (by kernel_rfl) ?_ ?_
        · repeat' (first
            | (conv => whnf); first
              | refine .w ?_ | (first | refine Ix.v ?_ | refine Sd.v ?_ | refine Sl.v ?_) | apply sc_true | apply sc_false
              | (first | apply sc_lt | apply sc_nlt | apply sc_eq | apply sc_neq | apply sc_nil | apply sc_nnil) <;> (intro hb; try exact dd hb)
              | apply sc_not | (apply sc_i <;> intro hb) | (apply bx_i; intro hbd) | (apply gt_i; assumption; exact rfl)
              | (apply cx_is; first | fail) | (apply ab_i; intro bl) | (apply rt_is; exact rfl) | exact rt_w
              | exact True.intro | (apply bc_i; intro C hC) | apply bt_i | apply og_n | (apply og_a; exact rfl))
          all_goals (try conv => whnf)
          · refine ⟨_, root_2 bl bt y.1 y.2 _ _, ?_, ?_⟩
            · rintro v H ⟨n3, b7, e, rfl⟩
              cases e
              repeat' (first
                | (conv => whnf); first
                  | refine .w ?_ | (first | refine Ix.v ?_ | refine Sd.v ?_ | refine Sl.v ?_) | apply sc_true | apply sc_false
                  | (first | apply sc_lt | apply sc_nlt | apply sc_eq | apply sc_neq | apply sc_nil | apply sc_nnil) <;> (intro hb; try exact dd hb)
                  | apply sc_not | (apply sc_i <;> intro hb) | (apply bx_i; intro hbd) | (apply gt_i; assumption; exact rfl)
                  | (apply cx_is; first | fail) | (apply ab_i; intro bl) | (apply rt_is; exact rfl) | exact rt_w
                  | exact True.intro | (apply bc_i; intro C hC) | apply bt_i | apply og_n | (apply og_a; exact rfl))
              all_goals (try conv => whnf)
              exact ⟨(n3, b7), ⟨rfl, rfl, rfl, trivial⟩, rfl⟩
            · rintro v H ⟨n3, b7, e, rfl⟩
              cases e
          · refine ⟨_, root_2 bl bt y.1 y.2 _ _, ?_, ?_⟩
            · rintro v H ⟨n3, b7, e, rfl⟩
              cases e
              repeat' (first
                | (conv => whnf); first
                  | refine .w ?_ | (first | refine Ix.v ?_ | refine Sd.v ?_ | refine Sl.v ?_) | apply sc_true | apply sc_false
                  | (first | apply sc_lt | apply sc_nlt | apply sc_eq | apply sc_neq | apply sc_nil | apply sc_nnil) <;> (intro hb; try exact dd hb)
                  | apply sc_not | (apply sc_i <;> intro hb) | (apply bx_i; intro hbd) | (apply gt_i; assumption; exact rfl)
                  | (apply cx_is; first | fail) | (apply ab_i; intro bl) | (apply rt_is; exact rfl) | exact rt_w
                  | exact True.intro | (apply bc_i; intro C hC) | apply bt_i | apply og_n | (apply og_a; exact rfl))
              all_goals (try conv => whnf)
              exact ⟨(n3, b7), ⟨rfl, rfl, rfl, trivial⟩, rfl⟩
            · rintro v H ⟨n3, b7, e, rfl⟩
              cases e
        intro z
        repeat' (first
          | (conv => whnf); first
            | refine .w ?_ | (first | refine Ix.v ?_ | refine Sd.v ?_ | refine Sl.v ?_) | apply sc_true | apply sc_false
            | (first | apply sc_lt | apply sc_nlt | apply sc_eq | apply sc_neq | apply sc_nil | apply sc_nnil) <;> (intro hb; try exact dd hb)
            | apply sc_not | (apply sc_i <;> intro hb) | (apply bx_i; intro hbd) | (apply gt_i; assumption; exact rfl)
            | (apply cx_is; first | fail) | (apply ab_i; intro bl) | (apply rt_is; exact rfl) | exact rt_w
            | exact True.intro | (apply bc_i; intro C hC) | apply bt_i | apply og_n | (apply og_a; exact rfl))
        all_goals (try conv => whnf)
        refine dw_p mixed hC hGL false (fun (_ : Nat) => [(0, .own 0 (.slice (some ⟨br, 0, none⟩) 6 vc)), (3, .own 2 (pv bl 0)), (12, .int .i64 4)]) (fun q => [decR br vc, e1, .cells bl (some 192) (genC (.own 3 (.slice (some ⟨bt, 0, none⟩) 3 3)) 3 mapD), .row (.slice (some ⟨bt, 0, none⟩) 3 3) (some 187) 1 3 [.raw (.pointer none), .own 4 (pv y.1 0), .raw (.pointer none)], .cells y.1 (some 190) [.str [], .int .i64 0, .str [], .raw (.pointer none), .own 7 (.slice (some ⟨z.2, 0, none⟩) 3 3)], .cells y.2 (some 190) [.str [94], .int .i64 6, .str [], .raw (.pointer none), .raw (.slice none 0 0)], .cells z.1 (some 190) [.str [10], .int .i64 4, .str [], .raw (.pointer none), .raw (.slice none 0 0)], .row (.slice (some ⟨z.2, 0, none⟩) 3 3) (some 187) 1 3 [.own 8 (pv q 0), .own 5 (pv y.2 0), .own 6 (pv z.1 0)], .cells q (some 190) [.str [34], .int .i64 2, .str [], .raw (.pointer none), .raw (.slice none 0 0)]]) (.take 0 (.take 1 (.take 2 (.take 3 (.take 4 (.take 5 (.take 7 (.take 8 (.take 9 (.take 10 (.take 12 (.take 13 (.take 14 (.take 15 (.take 16 (.br 6 (.br 11 (.br 17 (.done) (.nil)) (.nil)) (.br 11 (.br 6 (.br 17 (.done) (.nil)) (.nil)) (.nil)))))))))))))))))) (by kernel_rfl) ?_ ?_
        · repeat' (first
            | (conv => whnf); first
              | refine .w ?_ | (first | refine Ix.v ?_ | refine Sd.v ?_ | refine Sl.v ?_) | apply sc_true | apply sc_false
              | (first | apply sc_lt | apply sc_nlt | apply sc_eq | apply sc_neq | apply sc_nil | apply sc_nnil) <;> (intro hb; try exact dd hb)
              | apply sc_not | (apply sc_i <;> intro hb) | (apply bx_i; intro hbd) | (apply gt_i; assumption; exact rfl)
              | (apply cx_is; first | fail) | (apply ab_i; intro bl) | (apply rt_is; exact rfl) | exact rt_w
              | exact True.intro | (apply bc_i; intro C hC) | apply bt_i | apply og_n | (apply og_a; exact rfl))
          all_goals (try conv => whnf)
          · refine ⟨_, root_3 bl bt y.1 y.2 z.1 z.2 _ _, ?_, ?_⟩
            · rintro v H ⟨n4, e, rfl⟩
              cases e
              repeat' (first
                | (conv => whnf); first
                  | refine .w ?_ | (first | refine Ix.v ?_ | refine Sd.v ?_ | refine Sl.v ?_) | apply sc_true | apply sc_false
                  | (first | apply sc_lt | apply sc_nlt | apply sc_eq | apply sc_neq | apply sc_nil | apply sc_nnil) <;> (intro hb; try exact dd hb)
                  | apply sc_not | (apply sc_i <;> intro hb) | (apply bx_i; intro hbd) | (apply gt_i; assumption; exact rfl)
                  | (apply cx_is; first | fail) | (apply ab_i; intro bl) | (apply rt_is; exact rfl) | exact rt_w
                  | exact True.intro | (apply bc_i; intro C hC) | apply bt_i | apply og_n | (apply og_a; exact rfl))
              all_goals (try conv => whnf)
              exact ⟨n4, ⟨rfl, rfl, rfl, trivial⟩, rfl⟩
            · rintro v H ⟨n4, e, rfl⟩
              cases e
          · refine ⟨_, root_3 bl bt y.1 y.2 z.1 z.2 _ _, ?_, ?_⟩
            · rintro v H ⟨n4, e, rfl⟩
              cases e
              repeat' (first
                | (conv => whnf); first
                  | refine .w ?_ | (first | refine Ix.v ?_ | refine Sd.v ?_ | refine Sl.v ?_) | apply sc_true | apply sc_false
                  | (first | apply sc_lt | apply sc_nlt | apply sc_eq | apply sc_neq | apply sc_nil | apply sc_nnil) <;> (intro hb; try exact dd hb)
                  | apply sc_not | (apply sc_i <;> intro hb) | (apply bx_i; intro hbd) | (apply gt_i; assumption; exact rfl)
                  | (apply cx_is; first | fail) | (apply ab_i; intro bl) | (apply rt_is; exact rfl) | exact rt_w
                  | exact True.intro | (apply bc_i; intro C hC) | apply bt_i | apply og_n | (apply og_a; exact rfl))
              all_goals (try conv => whnf)
              exact ⟨n4, ⟨rfl, rfl, rfl, trivial⟩, rfl⟩
            · rintro v H ⟨n4, e, rfl⟩
              cases e
        intro q
        repeat' (first
          | (conv => whnf); first
            | refine .w ?_ | (first | refine Ix.v ?_ | refine Sd.v ?_ | refine Sl.v ?_) | apply sc_true | apply sc_false
            | (first | apply sc_lt | apply sc_nlt | apply sc_eq | apply sc_neq | apply sc_nil | apply sc_nnil) <;> (intro hb; try exact dd hb)
            | apply sc_not | (apply sc_i <;> intro hb) | (apply bx_i; intro hbd) | (apply gt_i; assumption; exact rfl)
            | (apply cx_is; first | fail) | (apply ab_i; intro bl) | (apply rt_is; exact rfl) | exact rt_w
            | exact True.intro | (apply bc_i; intro C hC) | apply bt_i | apply og_n | (apply og_a; exact rfl))
        all_goals (try conv => whnf)
        exact ⟨_, List.Sublist.refl _, bl, bt, y.1, y.2, z.1, z.2, q, rfl, rfl⟩
end Go.Proofs.YtkmpcdlmeiophaaGreatDoor
namespace Go.Proofs.YtkmpcdlmeiophaaGreatDoor
open Go Go.RowKit
set_option maxRecDepth 20000
set_option maxHeartbeats 4000000
set_option linter.unusedSimpArgs false
set_option linter.unusedVariables false
attribute [local irreducible] AWp AOps SrcOK OrOk GloAll FnSpec
attribute [local irreducible] mapD
/-- The places of a trie. -/
structure DecY where
  bg : Nat
  bt : Nat
  n1 : Nat
  n2 : Nat
  n3 : Nat
  b7 : Nat
  n4 : Nat
abbrev DecY.H (y : DecY) : Heap := trieH y.bg y.bt y.n1 y.n2 y.n3 y.b7 y.n4
abbrev decI (y : DecY) : AVal := .iface 172 (.own 2 (pv y.bg 0))
abbrev decP (br vc : Nat) : List AVal := (ca_newC (.slice (some ⟨br, 0, none⟩) 6 vc)).set 1 (.int .i32 1)
theorem build_dec {G : Glo} (br bl vc : Nat) : FnSpec Tryz.prog G 86 [.raw (pv bl 0)] [decR br vc, .cells bl (some 143) (decP br vc)]
    (fun r H => ∃ y : DecY, r = .ret (decI y) ∧ H = [decR br vc, .cells bl (some 143) (decP br vc)] ++ y.H) := by
  have hGL : GloAll G [] := gloAll_nil
  have e1 := mkgen (G := G) br vc (.cells bl (some 143) (decP br vc))
  unfold decP ca_newC at *
  refine fn_xp 1 Tryz.func86 Tryz.call86 rfl rfl rfl rfl hGL rfl ?_
  intro C hC
  have r0 : RowAt (.slice (some ⟨br, 0, none⟩) 6 vc) br 6 := ⟨_, rfl⟩
  have d0 : decO[0]? = some (.str [94, 94]) := rfl
  repeat' (first
    | (conv => whnf); first
      | refine .w ?_ | refine .v ?_ | apply sc_true | apply sc_false
      | (first | apply sc_lt | apply sc_nlt | apply sc_eq | apply sc_neq | apply sc_nil | apply sc_nnil | apply sc_seq | apply sc_nseq) <;> (intro hb; try exact dd hb)
      | apply sc_not | apply sc_or | (apply sc_i <;> intro hb)
      | (apply bx_i; intro hbd) | (apply gt_i; assumption; exact rfl)
      | (apply cx_is; first | fail) | (apply cx_do (i := 0) rfl; first | fail)
      | (apply ab_i; intro bl) | (apply as_i; intro va vk vc hva) | (apply av_i; intro v) | (apply ac_i; intro bl cap hcap)
      | apply bo_l | (apply nx_i <;> intro hnx) | (apply Ia.hit; assumption) | (apply Ia.miss; assumption)
      | (apply rt_is; exact rfl) | exact rt_w | (apply iv; assumption)
      | exact True.intro | (apply bc_i; intro C hC) | apply bt_i | apply og_n | (apply og_a; exact rfl))
  all_goals (try conv => whnf)
  refine rds hC hGL 1 ?_
  repeat' (first
    | (conv => whnf); first
      | refine .w ?_ | refine .v ?_ | apply sc_true | apply sc_false
      | (first | apply sc_lt | apply sc_nlt | apply sc_eq | apply sc_neq | apply sc_nil | apply sc_nnil | apply sc_seq | apply sc_nseq) <;> (intro hb; try exact dd hb)
      | apply sc_not | apply sc_or | (apply sc_i <;> intro hb)
      | (apply bx_i; intro hbd) | (apply gt_i; assumption; exact rfl)
      | (apply cx_is; first | fail) | (apply cx_do (i := 0) rfl; first | fail)
      | (apply ab_i; intro bl) | (apply as_i; intro va vk vc hva) | (apply av_i; intro v) | (apply ac_i; intro bl cap hcap)
      | apply bo_l | (apply nx_i <;> intro hnx) | (apply Ia.hit; assumption) | (apply Ia.miss; assumption)
      | (apply rt_is; exact rfl) | exact rt_w | (apply iv; assumption)
      | exact True.intro | (apply bc_i; intro C hC) | apply bt_i | apply og_n | (apply og_a; exact rfl))
  all_goals (try conv => whnf)
  refine ⟨_, e1, ?_, ?_⟩
  · rintro v H ⟨bg, bt, n1, n2, n3, b7, n4, e, rfl⟩
    cases e
    repeat' (first
      | (conv => whnf); first
        | refine .w ?_ | refine .v ?_ | apply sc_true | apply sc_false
        | (first | apply sc_lt | apply sc_nlt | apply sc_eq | apply sc_neq | apply sc_nil | apply sc_nnil | apply sc_seq | apply sc_nseq) <;> (intro hb; try exact dd hb)
        | apply sc_not | apply sc_or | (apply sc_i <;> intro hb)
        | (apply bx_i; intro hbd) | (apply gt_i; assumption; exact rfl)
        | (apply cx_is; first | fail) | (apply cx_do (i := 0) rfl; first | fail)
        | (apply ab_i; intro bl) | (apply as_i; intro va vk vc hva) | (apply av_i; intro v) | (apply ac_i; intro bl cap hcap)
        | apply bo_l | (apply nx_i <;> intro hnx) | (apply Ia.hit; assumption) | (apply Ia.miss; assumption)
        | (apply rt_is; exact rfl) | exact rt_w | (apply iv; assumption)
        | exact True.intro | (apply bc_i; intro C hC) | apply bt_i | apply og_n | (apply og_a; exact rfl))
    all_goals (try conv => whnf)
    exact ⟨_, List.Sublist.refl _, ⟨bg, bt, n1, n2, n3, b7, n4⟩, rfl, rfl⟩
  · rintro v H ⟨bg, bt, n1, n2, n3, b7, n4, e, rfl⟩
    cases e
abbrev decA (y : DecY) : List AVal := [.int .u32 0, .int .i32 1, .int .u32 0, decI y, .raw (.slice none 0 0)]
abbrev decB (y : DecY) : List AVal := [.int .u32 1, .int .i32 0, .int .u32 0, decI y, .raw (.slice none 0 0)]
theorem once_dec {G : Glo} (br bl vc : Nat) : FnSpec Tryz.prog G 77 [.raw (pv bl 0)] [decR br vc, .cells bl (some 143) (decP br vc)]
    (fun r H => ∃ y : DecY, r = .ret (.tuple []) ∧ H = [decR br vc, .cells bl (some 143) (decA y)] ++ y.H) := by
  have hGL : GloAll G [] := gloAll_nil
  have e1 := build_dec (G := G) br bl vc
  unfold decP ca_newC at *
  refine fn_xp 1 Tryz.func77 Tryz.call77 rfl rfl rfl rfl hGL rfl ?_
  intro C hC
  repeat' (first
    | (conv => whnf); first
      | refine .w ?_ | refine .v ?_ | apply sc_true | apply sc_false
      | (first | apply sc_lt | apply sc_nlt | apply sc_eq | apply sc_neq | apply sc_nil | apply sc_nnil | apply sc_seq | apply sc_nseq) <;> (intro hb; try exact dd hb)
      | apply sc_not | apply sc_or | (apply sc_i <;> intro hb)
      | (apply bx_i; intro hbd) | (apply gt_i; assumption; exact rfl)
      | (apply cx_is; first | fail) | (apply cx_do (i := 0) rfl; first | fail)
      | (apply ab_i; intro bl) | (apply as_i; intro va vk vc hva) | (apply av_i; intro v) | (apply ac_i; intro bl cap hcap)
      | apply bo_l | (apply nx_i <;> intro hnx) | (apply Ia.hit; assumption) | (apply Ia.miss; assumption)
      | (apply rt_is; exact rfl) | exact rt_w | (apply iv; assumption)
      | exact True.intro | (apply bc_i; intro C hC) | apply bt_i | apply og_n | (apply og_a; exact rfl))
  all_goals (try conv => whnf)
  refine ⟨_, e1, ?_, ?_⟩
  · rintro v' H2 ⟨y, e, rfl⟩
    cases e
    repeat' (first
      | (conv => whnf); first
        | refine .w ?_ | refine .v ?_ | apply sc_true | apply sc_false
        | (first | apply sc_lt | apply sc_nlt | apply sc_eq | apply sc_neq | apply sc_nil | apply sc_nnil | apply sc_seq | apply sc_nseq) <;> (intro hb; try exact dd hb)
        | apply sc_not | apply sc_or | (apply sc_i <;> intro hb)
        | (apply bx_i; intro hbd) | (apply gt_i; assumption; exact rfl)
        | (apply cx_is; first | fail) | (apply cx_do (i := 0) rfl; first | fail)
        | (apply ab_i; intro bl) | (apply as_i; intro va vk vc hva) | (apply av_i; intro v) | (apply ac_i; intro bl cap hcap)
        | apply bo_l | (apply nx_i <;> intro hnx) | (apply Ia.hit; assumption) | (apply Ia.miss; assumption)
        | (apply rt_is; exact rfl) | exact rt_w | (apply iv; assumption)
        | exact True.intro | (apply bc_i; intro C hC) | apply bt_i | apply og_n | (apply og_a; exact rfl))
    all_goals (try conv => whnf)
    exact ⟨_, List.Sublist.refl _, y, rfl, rfl⟩
  · rintro v' H2 ⟨y, e, rfl⟩
    cases e
theorem do_dec {G : Glo} (br bl vc : Nat) : FnSpec Tryz.prog G 76 [.raw (pv bl 0), .func (.func 77) [.raw (pv bl 0)] []] [decR br vc, .cells bl (some 143) (ca_newC (.slice (some ⟨br, 0, none⟩) 6 vc))]
    (fun r H => ∃ y : DecY, r = .ret (.tuple []) ∧ H = [decR br vc, .cells bl (some 143) (decB y)] ++ y.H) := by
  have e1 := once_dec (G := G) br bl vc
  have e2 := once_do (G := G) (b := bl) (off := 0) (fid := 77) (eT := some 143) (cs := ca_newC (.slice (some ⟨br, 0, none⟩) 6 vc)) (T := [decR br vc]) (Y := DecY) (cs2 := decA) (T2 := fun y => decR br vc :: y.H) (l1 := [.raw (pv bl 0)]) (l2 := []) rfl rfl (fun _ => rfl) (fun _ => rfl) rfl rfl
    (by
      refine fn_heap (fn_perm (List.Perm.swap _ _ _) e1) ?_
      rintro r H ⟨y, rfl, rfl⟩
      exact ⟨_, List.Perm.swap _ _ _, y, rfl, rfl⟩)
  refine fn_heap (fn_perm (List.Perm.swap _ _ _) e2) ?_
  rintro r H ⟨y, rfl, rfl⟩
  exact ⟨_, List.Perm.swap _ _ _, y, rfl, rfl⟩
end Go.Proofs.YtkmpcdlmeiophaaGreatDoor
namespace Go.Proofs.YtkmpcdlmeiophaaGreatDoor
open Go Go.RowKit
set_option linter.unusedSectionVars false
abbrev bytesC (s : List UInt8) : List AVal := s.map fun c => .int .u8 (c.toNat : Int)
/-- A row of bytes. -/
abbrev rowR (v : Value) (s : List UInt8) : HEnt := .row v (some 5) 1 s.length (bytesC s)
theorem rowR_app (v : Value) (s t : List UInt8) : HEnt.row v (some 5) 1 (s.length + t.length) (bytesC s ++ bytesC t) = rowR v (s ++ t) := by
  simp only [rowR, bytesC, List.length_append, List.map_append]
section
variable {P : Program} [Tab P] {C : Ctx} {n : Nat} {env : Env} {H : Heap} {Q : AExit → Env → Heap → Prop} {ops : Array Oper} {rest : List Oper} {G : Glo} {GL : List (Nat × List AVal)}
variable {d : Nat} {t : TypeId} {p : String} {af : Array Edge} {g : Option (Nat × Bool)} {b : Bool}
variable {x y : Operand} {T : TypeId} {xT : TI} {tx ty : TypeId}
theorem op1_apps {i n0 : Nat} {v : Value} {s : List UInt8} {cs z : List AVal} {eT : Option TypeId} {e : TypeId} {xe xx : TI} (hC : C.G = G) (hGL : GloAll G GL) (hg : guardA ops env g = some (b, b)) (hdn : Nat.ble (d + 1) n = true)
    (hx : evalA env x = some (.own i v)) (hi : H[i]? = some (.row v eT 1 n0 cs)) (hy : evalA env y = some (.str s))
    (h1 : tab P T = some xT) (h2 : xT.desc = .slice e) (h3 : tab P e = some xe) (h4 : xe.size = 1) (h6 : Nat.ble xe.bytes 1024 = true) (h7 : zeroCellsA xe.zero = some z) (h8 : z.length = 1) (h9 : tab P tx = some xx) (h10 : xx.desc = .string)
    (hlen : n0 + s.length ≤ 137438953472) (hty : tyOK eT e = true)
    (h : ∀ a k c, opsX P C n G GL ops Q rest ((d, .own i (.slice a k c)) :: env) (H.set i (.row (.slice a k c) eT 1 (n0 + s.length) (cs ++ bytesC s)))) :
    Op1 P C n ops ({ dst := some d, op := .call { callee := .builtin .append, args := [x, y].toArray, argTypes := [T, tx].toArray }, type := t, pos := p, after := af, guard := g } :: rest) env H Q :=
  ⟨ow_append hg hdn hx hi hy h1 h2 h3 h4 rfl h6 h7 h8 (fun R v hv => src_str hv h9 h10) hlen (tyOK_ok hty) fun v' => ao_rowslice (get_set hi) fun ⟨a, k, c, e, _⟩ => by subst e; exact opsX_ok hC hGL _ _ _ (h a k c)⟩
theorem rv_str_rowO {s : List UInt8} {i m : Nat} {v : Value} {eT : Option TypeId} {S e : TypeId} {xS xe : TI}
    (hx : evalA env x = some (.own i v)) (hi : H[i]? = some (.row v eT 1 m (bytesC s)))
    (h1 : tab P S = some xS) (h2 : xS.desc = .slice e) (h5 : tab P e = some xe) (h6 : xe.desc = .int .u8) (h3 : tab P T = some xT) (h4 : xT.desc = .string) : RunV P C H env (.convert S T x) (.str s) := by
  obtain ⟨k, rfl, hs⟩ := own_tmp hx
  exact rv_shadow hs (rv_str_row (by simp only [evalA]; exact get_hit) hi rfl h1 h2 h5 h6 h3 h4)
end
end Go.Proofs.YtkmpcdlmeiophaaGreatDoor
namespace Go.Proofs.YtkmpcdlmeiophaaGreatDoor
open Go Go.RowKit
set_option maxRecDepth 20000
set_option maxHeartbeats 4000000
set_option linter.unusedSimpArgs false
set_option linter.unusedVariables false
set_option linter.unusedSectionVars false
attribute [local irreducible] AWp AOps SrcOK OrOk GloAll FnSpec
attribute [local irreducible] mapD
abbrev wrC (bw : Nat) (v : Value) : HEnt := .cells bw (some 225) [.own 9 v]
theorem asw_write {G : Glo} (x0 x1 x2 x3 x4 x5 x6 x7 x8 : HEnt) (bw : Nat) (v : Value) (b t : List UInt8) (hl : b.length + t.length ≤ 137438953472) :
    FnSpec Tryz.prog G 167 [.raw (pv bw 0), .str t] [x0, x1, x2, x3, x4, x5, x6, x7, x8, rowR v b, wrC bw v]
    (fun r H => ∃ va vk vc, r = .ret (.tuple [.int .i64 t.length, .raw .nilIface]) ∧ H = [x0, x1, x2, x3, x4, x5, x6, x7, x8, rowR (.slice va vk vc) (b ++ t), wrC bw (.slice va vk vc)]) := by
  have hGL : GloAll G [] := gloAll_nil
  refine fn_xp 10 Tryz.func167 Tryz.call167 rfl rfl rfl rfl hGL rfl ?_
  intro C hC
  repeat' (first
    | (conv => whnf); first
      | refine .w ?_ | refine .v ?_ | apply sc_true | apply sc_false
      | (first | apply sc_lt | apply sc_nlt | apply sc_eq | apply sc_neq | apply sc_nil | apply sc_nnil | apply sc_seq | apply sc_nseq) <;> (intro hb; try exact dd hb)
      | apply sc_not | apply sc_or | (apply sc_i <;> intro hb)
      | (apply bx_i; intro hbd) | (apply gt_i; assumption; exact rfl)
      | (apply cx_is; first | fail) | (apply cx_do (i := 0) rfl; first | fail)
      | (apply ab_i; intro bl) | (apply as_i; intro va vk vc hva) | (apply av_i; intro v) | (apply ac_i; intro bl cap hcap)
      | apply bo_l | (apply nx_i <;> intro hnx) | (apply Ia.hit; assumption) | (apply Ia.miss; assumption)
      | (apply rt_is; exact rfl) | exact rt_w | (apply iv; assumption)
      | exact True.intro | (apply bc_i; intro C hC) | apply bt_i | apply og_n | (apply og_a; exact rfl))
  all_goals (try conv => whnf)
  refine op1_apps hC hGL rfl rfl rfl rfl rfl rfl rfl rfl rfl rfl rfl rfl rfl rfl hl rfl ?_
  intro va vk vc
  repeat' (first
    | (conv => whnf); first
      | refine .w ?_ | refine .v ?_ | apply sc_true | apply sc_false
      | (first | apply sc_lt | apply sc_nlt | apply sc_eq | apply sc_neq | apply sc_nil | apply sc_nnil | apply sc_seq | apply sc_nseq) <;> (intro hb; try exact dd hb)
      | apply sc_not | apply sc_or | (apply sc_i <;> intro hb)
      | (apply bx_i; intro hbd) | (apply gt_i; assumption; exact rfl)
      | (apply cx_is; first | fail) | (apply cx_do (i := 0) rfl; first | fail)
      | (apply ab_i; intro bl) | (apply as_i; intro va vk vc hva) | (apply av_i; intro v) | (apply ac_i; intro bl cap hcap)
      | apply bo_l | (apply nx_i <;> intro hnx) | (apply Ia.hit; assumption) | (apply Ia.miss; assumption)
      | (apply rt_is; exact rfl) | exact rt_w | (apply iv; assumption)
      | exact True.intro | (apply bc_i; intro C hC) | apply bt_i | apply og_n | (apply og_a; exact rfl))
  all_goals (try conv => whnf)
  exact ⟨_, List.Sublist.refl _, va, vk, vc, rfl, by rw [rowR_app]⟩
theorem i_asw : ∀ v w, (Instr.typeAssert (.iface 226 v) 228 230 true).run Tryz.prog w = .ok (.tuple #[.iface 226 v, .bool true]) w := by intro v w; kernel_rfl
theorem get_sw {G : Glo} (v : Value) : FnIs Tryz.prog G 157 [.iface 226 (.raw v)] (.iface 226 (.raw v)) := by
  have h := i_asw
  have hGL : GloAll G [] := gloAll_nil
  refine fn_x Tryz.func157 Tryz.call157 rfl rfl rfl rfl hGL ?_
  intro C hC
  repeat' (first
    | (conv => whnf); first
      | refine .w ?_ | refine .v ?_ | apply sc_true | apply sc_false
      | (first | apply sc_lt | apply sc_nlt | apply sc_eq | apply sc_neq | apply sc_nil | apply sc_nnil | apply sc_seq | apply sc_nseq) <;> (intro hb; try exact dd hb)
      | apply sc_not | apply sc_or | (apply sc_i <;> intro hb)
      | (apply bx_i; intro hbd) | (apply gt_i; assumption; exact rfl)
      | (apply cx_is; first | fail) | (apply cx_do (i := 0) rfl; first | fail)
      | (apply ab_i; intro bl) | (apply as_i; intro va vk vc hva) | (apply av_i; intro v) | (apply ac_i; intro bl cap hcap)
      | apply bo_l | (apply nx_i <;> intro hnx) | (apply Ia.hit; assumption) | (apply Ia.miss; assumption)
      | (apply rt_is; exact rfl) | exact rt_w | (apply iv; assumption)
      | apply dw_q mixed hC hGL (by kernel_rfl) | (apply cq; assumption; (first | fail); exact rfl))
  all_goals (try conv => whnf)
theorem m_asw (a : AVal) : ∀ R v, Rel R a v → ∀ w, ∃ u, (Go.method (Tryz.prog.types.size + Made.depth) 226 v "WriteString").run Tryz.prog w = .ok (167, u) w ∧ Rel R a u := by
  intro R v hv w
  exact ⟨v, by kernel_rfl, hv⟩
section
variable {P : Program} [Tab P] {C : Ctx} {env : Env} {H : Heap} {x : Operand}
/-- A method's value of what is no nil pointer. -/
theorem rv_nilCheck_meth {T : TypeId} {a : AVal} {name : String} {l2 : List AVal} (hx : evalA env x = some (.func (.method name) [.iface T a] l2))
    (hn : ∀ R v, Rel R a v → ∀ w, (nilAhead (P.types.size + Made.depth) T v name).run P w = .ok (some false) w) : RunV P C H env (.nilCheck x) (.func (.method name) [.iface T a] l2) := by
  intro R ρ w hm hf dst t p af g
  have hr := hf _ _ hx
  obtain ⟨A, B, e, h1, h2⟩ := rel_one hr rfl
  simp only [List.cons.injEq, and_true] at e
  obtain ⟨v, l, hA, hv, rfl⟩ := h1
  obtain ⟨u, e2, hu⟩ := rel_one hv rfl
  simp only [List.cons.injEq, and_true] at e2
  subst e2
  have hA0 : A[0]? = some (.iface T u) := by rw [← Array.getElem?_toList, hA]; rfl
  have hp : (program).run P w = .ok P w := rfl
  refine ⟨.func (.method name) A B, ?_, by rw [← e]; exact hr⟩
  simp only [execOp, e, hA0, Sem.run_bind, hp, Result.andThen_ok, hn R u hu w, bne_self_eq_false, Bool.false_eq_true, if_false, Sem.run_pure]
end
theorem n_asw (b : Nat) : ∀ R v, Rel R (.raw (pv b 0)) v → ∀ w, (nilAhead (Tryz.prog.types.size + Made.depth) 226 v "WriteString").run Tryz.prog w = .ok (some false) w := by
  intro R v hv w
  obtain rfl := rel_raw.1 hv
  kernel_rfl
end Go.Proofs.YtkmpcdlmeiophaaGreatDoor
