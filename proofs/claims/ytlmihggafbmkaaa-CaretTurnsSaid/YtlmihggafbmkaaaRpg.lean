/- strings.makeGenericReplacer for caret.Decode's six strings: the bytes' numbers. -/
import Derived.Test.YtlmihggafbmkaaaRph
import Derived.Test.YtlmihggafbmkaaaRpn
import Derived.Test.YtlmihggafbmkaaaExd
import Derived.Test.YtlmihggafbmkaaaRpl
namespace Go.Proofs.Ytlmihggafbmkaaa
open Go Go.RowKit
set_option maxRecDepth 20000
set_option maxHeartbeats 4000000
set_option linter.unusedSimpArgs false
set_option linter.unusedVariables false
attribute [local irreducible] AWp AOps SrcOK OrOk GloAll FnSpec
/-- oldnew. -/
abbrev decO : List AVal := [.str [94, 94], .str [94], .str [94, 110], .str [10], .str [94, 39], .str [34]]
abbrev decR (br vc : Nat) : HEnt := .row (.slice (some ⟨br, 0, none⟩) 6 vc) none 1 6 decO
def zeroM : List AVal := List.replicate 256 (.int .u8 0)
def mapM : List AVal := (((zeroM.set 94 (.int .u8 1)).set 110 (.int .u8 1)).set 39 (.int .u8 1))
def m1 (i : Nat) : Nat := if i = 39 ∨ i = 94 ∨ i = 110 then 1 else 0
def cnt3 (i : Nat) : Nat := (if 39 < i then 1 else 0) + (if 94 < i then 1 else 0) + (if 110 < i then 1 else 0)
theorem cnt3_succ (i : Nat) : cnt3 (i + 1) = cnt3 i + m1 i := by unfold cnt3 m1; (repeat' split) <;> omega
theorem cnt3_le (i : Nat) : cnt3 i ≤ 3 := by unfold cnt3; (repeat' split) <;> omega
theorem m1_le (i : Nat) : m1 i ≤ 1 := by unfold m1; split <;> omega
theorem genC_put {t : AVal} {n : Int} {M : List AVal} {i : Nat} {v : AVal} : (genC t n M).take (0 + 6 + i * 1) ++ [v] ++ (genC t n M).drop (0 + 6 + i * 1 + 1) = genC t n (M.take i ++ [v] ++ M.drop (i + 1)) := by
  rw [show 0 + 6 + i * 1 = i + 6 by omega, show i + 6 + 1 = (i + 1) + 6 by omega]
  rfl
theorem genC_ble {t : AVal} {n : Int} {M : List AVal} {i : Nat} (h : M.length = 256) (hi : i < 256) : Nat.ble (0 + 6 + i * 1 + 1) (genC t n M).length = true := by
  refine Nat.ble_eq_true_of_le ?_
  have : (genC t n M).length = M.length + 6 := rfl
  omega
theorem rep_sets {v w : AVal} {N a b c i : Nat} (hi : i < N) : ((((List.replicate N v).set a w).set b w).set c w)[i]? = some (if i = c ∨ i = a ∨ i = b then w else v) := by
  by_cases h1 : i = c
  · subst h1; rw [List.getElem?_set_self (by simpa using hi), if_pos (.inl rfl)]
  · rw [List.getElem?_set_ne (Ne.symm h1)]
    by_cases h2 : i = b
    · subst h2; rw [List.getElem?_set_self (by simpa using hi), if_pos (.inr (.inr rfl))]
    · rw [List.getElem?_set_ne (Ne.symm h2)]
      by_cases h3 : i = a
      · subst h3; rw [List.getElem?_set_self (by simpa using hi), if_pos (.inr (.inl rfl))]
      · rw [List.getElem?_set_ne (Ne.symm h3), if_neg (by omega)]
        simp [hi]
theorem mapM_get {i : Nat} (hi : i < 256) : mapM[i]? = some (.int .u8 (m1 i : Nat)) := by
  unfold mapM zeroM m1
  rw [rep_sets hi]
  split <;> rfl
/-- A byte's number. -/
def m2 (i : Nat) : Nat := if i = 39 then 0 else if i = 94 then 1 else if i = 110 then 2 else 3
theorem m2_of0 {i : Nat} (h : m1 i = 0) : m2 i = 3 := by unfold m1 at h; unfold m2; (repeat' split) <;> (try split at h) <;> omega
theorem m2_of1 {i : Nat} (h : m1 i ≠ 0) : m2 i = cnt3 i := by unfold m1 at h; unfold m2 cnt3; split at h <;> (repeat' split) <;> omega
def mapI (i : Nat) : List AVal := (List.range 256).map fun k => .int .u8 ((if k < i then m2 k else m1 k : Nat) : Int)
theorem mapI_len (i : Nat) : (mapI i).length = 256 := by simp [mapI]
theorem mapI_succ {i : Nat} (hi : i < 256) : (mapI i).take i ++ [.int .u8 (m2 i : Nat)] ++ (mapI i).drop (i + 1) = mapI (i + 1) := by
  refine List.ext_getElem? fun k => ?_
  have hl := mapI_len i
  rcases Nat.lt_trichotomy k i with h | h | h
  · rw [List.getElem?_append_left (by simp; omega), List.getElem?_append_left (by simp; omega), List.getElem?_take_of_lt h]
    unfold mapI
    rw [List.getElem?_map, List.getElem?_map, List.getElem?_range (by omega)]
    simp [h, show k < i + 1 by omega]
  · subst h
    rw [List.getElem?_append_left (by simp; omega), List.getElem?_append_right (by rw [List.length_take]; omega), List.length_take, Nat.min_eq_left (by omega), Nat.sub_self]
    unfold mapI
    rw [List.getElem?_map, List.getElem?_range hi]
    simp
  · have h9 : ((mapI i).take i ++ [AVal.int .u8 (m2 i : Nat)]).length = i + 1 := by rw [List.length_append, List.length_take]; simp; omega
    rw [List.getElem?_append_right (by omega), h9, List.getElem?_drop, show i + 1 + (k - (i + 1)) = k by omega]
    unfold mapI
    rw [List.getElem?_map, List.getElem?_map]
    by_cases hk : k < 256
    · rw [List.getElem?_range hk]
      simp [show ¬ k < i by omega, show ¬ k < i + 1 by omega]
    · rw [List.getElem?_eq_none (by simp; omega)]
      rfl
/-- The trie, from the heap's third place on. -/
abbrev trieH (bg bt n1 n2 n3 b7 n4 : Nat) : Heap := [.cells bg (some 81) (genC (.own 3 (.slice (some ⟨bt, 0, none⟩) 3 3)) 3 mapD), .row (.slice (some ⟨bt, 0, none⟩) 3 3) (some 76) 1 3 [.raw (.pointer none), .own 4 (pv n1 0), .raw (.pointer none)], .cells n1 (some 79) [.str [], .int .i64 0, .str [], .raw (.pointer none), .own 7 (.slice (some ⟨b7, 0, none⟩) 3 3)], .cells n2 (some 79) [.str [94], .int .i64 6, .str [], .raw (.pointer none), .raw (.slice none 0 0)], .cells n3 (some 79) [.str [10], .int .i64 4, .str [], .raw (.pointer none), .raw (.slice none 0 0)], .row (.slice (some ⟨b7, 0, none⟩) 3 3) (some 76) 1 3 [.own 8 (pv n4 0), .own 5 (pv n2 0), .own 6 (pv n3 0)], .cells n4 (some 79) [.str [34], .int .i64 2, .str [], .raw (.pointer none), .raw (.slice none 0 0)]]
theorem mkgen {G : Glo} (br vc : Nat) (e1 : HEnt) : FnSpec Try.prog G 26 [.raw (.slice (some ⟨br, 0, none⟩) 6 vc)] [decR br vc, e1]
    (fun r H => ∃ bg bt n1 n2 n3 b7 n4, r = .ret (.own 2 (pv bg 0)) ∧ H = [decR br vc, e1] ++ trieH bg bt n1 n2 n3 b7 n4) := by
  have hGL : GloAll G [] := gloAll_nil
  refine fn_xp 0 Try.func26 Try.call26 rfl rfl rfl rfl hGL rfl ?_
  intro C hC
  have r0 : RowAt (.slice (some ⟨br, 0, none⟩) 6 vc) br 6 := ⟨_, rfl⟩
  have d0 : decO[0]? = some (.str [94, 94]) := rfl
  have d1 : decO[1]? = some (.str [94]) := rfl
  have d2 : decO[2]? = some (.str [94, 110]) := rfl
  have d3 : decO[3]? = some (.str [10]) := rfl
  have d4 : decO[4]? = some (.str [94, 39]) := rfl
  have d5 : decO[5]? = some (.str [34]) := rfl
  repeat' (first
    | (conv => whnf); first
      | (apply ch_l; apply sp_i; first | exact rfl | omega | exact ⟨rfl, by omega⟩ | exact ⟨rfl, by omega, by omega, by omega⟩ | exact ⟨⟨_, rfl⟩, by omega⟩ | assumption | (simp; omega))
      | (apply sp_i; first | exact rfl | omega | exact ⟨rfl, rfl, by omega⟩ | exact ⟨rfl, by omega⟩ | exact ⟨rfl, by omega, by omega, by omega⟩ | exact ⟨⟨_, rfl⟩, by omega⟩ | assumption | (simp; omega))
      | (apply sc_true) | (apply sc_false)
      | (first | apply sc_lt | apply sc_nlt | apply sc_eq | apply sc_neq | apply sc_nil | apply sc_nnil); all_goals (intro hb; try (first | (exfalso; omega) | exact absurd rfl hb | exact absurd hb (by decide) | exact absurd (by assumption) hb | (exfalso; simp only [List.length_cons, List.length_nil] at hb; omega)))
      | (apply sc_not) | (apply sc_i; all_goals intro hb)
      | (first | apply ix_nat | apply ix_int | apply sd_nat | apply sd_int | apply sl_nat | apply sl_int); first | omega | (simp only [List.length_cons, List.length_nil, List.length_drop, List.length_take] at *; omega)
      | (apply bx_i; intro hbd) | (apply gt_i; assumption; exact rfl)
      | (apply cx_is; first | fail) | (apply ab_i; intro bl)
      | (apply rt_is; exact rfl) | (apply rt_do; exact rfl; (repeat (first | exact List.nil_sublist _ | apply List.Sublist.cons_cons)))
      | (exact True.intro) | (apply bc_i; intro C hC) | (apply bt_i) | (apply og_n) | (apply og_a; exact rfl))
  all_goals (try conv => whnf)
  refine rds hC hGL 4 ?_
  repeat' (first
    | (conv => whnf); first
      | (apply ch_l; apply sp_i; first | exact rfl | omega | exact ⟨rfl, by omega⟩ | exact ⟨rfl, by omega, by omega, by omega⟩ | exact ⟨⟨_, rfl⟩, by omega⟩ | assumption | (simp; omega))
      | (apply sp_i; first | exact rfl | omega | exact ⟨rfl, rfl, by omega⟩ | exact ⟨rfl, by omega⟩ | exact ⟨rfl, by omega, by omega, by omega⟩ | exact ⟨⟨_, rfl⟩, by omega⟩ | assumption | (simp; omega))
      | (apply sc_true) | (apply sc_false)
      | (first | apply sc_lt | apply sc_nlt | apply sc_eq | apply sc_neq | apply sc_nil | apply sc_nnil); all_goals (intro hb; try (first | (exfalso; omega) | exact absurd rfl hb | exact absurd hb (by decide) | exact absurd (by assumption) hb | (exfalso; simp only [List.length_cons, List.length_nil] at hb; omega)))
      | (apply sc_not) | (apply sc_i; all_goals intro hb)
      | (first | apply ix_nat | apply ix_int | apply sd_nat | apply sd_int | apply sl_nat | apply sl_int); first | omega | (simp only [List.length_cons, List.length_nil, List.length_drop, List.length_take] at *; omega)
      | (apply bx_i; intro hbd) | (apply gt_i; assumption; exact rfl)
      | (apply cx_is; first | fail) | (apply ab_i; intro bl)
      | (apply rt_is; exact rfl) | (apply rt_do; exact rfl; (repeat (first | exact List.nil_sublist _ | apply List.Sublist.cons_cons)))
      | (exact True.intro) | (apply bc_i; intro C hC) | (apply bt_i) | (apply og_n) | (apply og_a; exact rfl))
  all_goals (try conv => whnf)
  refine rds hC hGL 3 ?_
  repeat' (first
    | (conv => whnf); first
      | (apply ch_l; apply sp_i; first | exact rfl | omega | exact ⟨rfl, by omega⟩ | exact ⟨rfl, by omega, by omega, by omega⟩ | exact ⟨⟨_, rfl⟩, by omega⟩ | assumption | (simp; omega))
      | (apply sp_i; first | exact rfl | omega | exact ⟨rfl, rfl, by omega⟩ | exact ⟨rfl, by omega⟩ | exact ⟨rfl, by omega, by omega, by omega⟩ | exact ⟨⟨_, rfl⟩, by omega⟩ | assumption | (simp; omega))
      | (apply sc_true) | (apply sc_false)
      | (first | apply sc_lt | apply sc_nlt | apply sc_eq | apply sc_neq | apply sc_nil | apply sc_nnil); all_goals (intro hb; try (first | (exfalso; omega) | exact absurd rfl hb | exact absurd hb (by decide) | exact absurd (by assumption) hb | (exfalso; simp only [List.length_cons, List.length_nil] at hb; omega)))
      | (apply sc_not) | (apply sc_i; all_goals intro hb)
      | (first | apply ix_nat | apply ix_int | apply sd_nat | apply sd_int | apply sl_nat | apply sl_int); first | omega | (simp only [List.length_cons, List.length_nil, List.length_drop, List.length_take] at *; omega)
      | (apply bx_i; intro hbd) | (apply gt_i; assumption; exact rfl)
      | (apply cx_is; first | fail) | (apply ab_i; intro bl)
      | (apply rt_is; exact rfl) | (apply rt_do; exact rfl; (repeat (first | exact List.nil_sublist _ | apply List.Sublist.cons_cons)))
      | (exact True.intro) | (apply bc_i; intro C hC) | (apply bt_i) | (apply og_n) | (apply og_a; exact rfl))
  all_goals (try conv => whnf)
  refine dw_p mixed hC hGL false (fun (_ : Unit) => [(0, .own 0 (.slice (some ⟨br, 0, none⟩) 6 vc)), (3, .own 2 (pv bl 0)), (4, .int .i64 0), (5, .str [94, 94]), (6, .int .i64 0)]) (fun _ => [decR br vc, e1, .cells bl (some 81) (genC (.raw (.slice none 0 0)) 0 (zeroM.set 94 (.int .u8 1)))]) (.take 0 (.take 1 (.take 2 (.take 3 (.take 4 (.take 5 (.take 6 (.br 7 (.done) (.nil))))))))) (by kernel_rfl) ?_ ?_
  · repeat' (first
      | (conv => whnf); first
        | (apply ch_l; apply sp_i; first | exact rfl | omega | exact ⟨rfl, by omega⟩ | exact ⟨rfl, by omega, by omega, by omega⟩ | exact ⟨⟨_, rfl⟩, by omega⟩ | assumption | (simp; omega))
        | (apply sp_i; first | exact rfl | omega | exact ⟨rfl, rfl, by omega⟩ | exact ⟨rfl, by omega⟩ | exact ⟨rfl, by omega, by omega, by omega⟩ | exact ⟨⟨_, rfl⟩, by omega⟩ | assumption | (simp; omega))
        | (apply sc_true) | (apply sc_false)
        | (first | apply sc_lt | apply sc_nlt | apply sc_eq | apply sc_neq | apply sc_nil | apply sc_nnil); all_goals (intro hb; try (first | (exfalso; omega) | exact absurd rfl hb | exact absurd hb (by decide) | exact absurd (by assumption) hb | (exfalso; simp only [List.length_cons, List.length_nil] at hb; omega)))
        | (apply sc_not) | (apply sc_i; all_goals intro hb)
        | (first | apply ix_nat | apply ix_int | apply sd_nat | apply sd_int | apply sl_nat | apply sl_int); first | omega | (simp only [List.length_cons, List.length_nil, List.length_drop, List.length_take] at *; omega)
        | (apply bx_i; intro hbd) | (apply gt_i; assumption; exact rfl)
        | (apply cx_is; first | fail) | (apply ab_i; intro bl)
        | (apply rt_is; exact rfl) | (apply rt_do; exact rfl; (repeat (first | exact List.nil_sublist _ | apply List.Sublist.cons_cons)))
        | (exact True.intro) | (apply bc_i; intro C hC) | (apply bt_i) | (apply og_n) | (apply og_a; exact rfl))
    all_goals (try conv => whnf)
    exact ⟨(), ⟨rfl, rfl, rfl, rfl, rfl, trivial⟩, rfl⟩
  intro _
  repeat' (first
    | (conv => whnf); first
      | (apply ch_l; apply sp_i; first | exact rfl | omega | exact ⟨rfl, by omega⟩ | exact ⟨rfl, by omega, by omega, by omega⟩ | exact ⟨⟨_, rfl⟩, by omega⟩ | assumption | (simp; omega))
      | (apply sp_i; first | exact rfl | omega | exact ⟨rfl, rfl, by omega⟩ | exact ⟨rfl, by omega⟩ | exact ⟨rfl, by omega, by omega, by omega⟩ | exact ⟨⟨_, rfl⟩, by omega⟩ | assumption | (simp; omega))
      | (apply sc_true) | (apply sc_false)
      | (first | apply sc_lt | apply sc_nlt | apply sc_eq | apply sc_neq | apply sc_nil | apply sc_nnil); all_goals (intro hb; try (first | (exfalso; omega) | exact absurd rfl hb | exact absurd hb (by decide) | exact absurd (by assumption) hb | (exfalso; simp only [List.length_cons, List.length_nil] at hb; omega)))
      | (apply sc_not) | (apply sc_i; all_goals intro hb)
      | (first | apply ix_nat | apply ix_int | apply sd_nat | apply sd_int | apply sl_nat | apply sl_int); first | omega | (simp only [List.length_cons, List.length_nil, List.length_drop, List.length_take] at *; omega)
      | (apply bx_i; intro hbd) | (apply gt_i; assumption; exact rfl)
      | (apply cx_is; first | fail) | (apply ab_i; intro bl)
      | (apply rt_is; exact rfl) | (apply rt_do; exact rfl; (repeat (first | exact List.nil_sublist _ | apply List.Sublist.cons_cons)))
      | (exact True.intro) | (apply bc_i; intro C hC) | (apply bt_i) | (apply og_n) | (apply og_a; exact rfl))
  all_goals (try conv => whnf)
  refine dw_p mixed hC hGL false (fun (_ : Unit) => [(0, .own 0 (.slice (some ⟨br, 0, none⟩) 6 vc)), (3, .own 2 (pv bl 0)), (4, .int .i64 0), (5, .str [94, 94]), (6, .int .i64 1)]) (fun _ => [decR br vc, e1, .cells bl (some 81) (genC (.raw (.slice none 0 0)) 0 (zeroM.set 94 (.int .u8 1)))]) (.take 0 (.take 1 (.take 2 (.take 3 (.take 4 (.take 5 (.take 6 (.br 7 (.done) (.nil))))))))) (by kernel_rfl) ?_ ?_
  · repeat' (first
      | (conv => whnf); first
        | (apply ch_l; apply sp_i; first | exact rfl | omega | exact ⟨rfl, by omega⟩ | exact ⟨rfl, by omega, by omega, by omega⟩ | exact ⟨⟨_, rfl⟩, by omega⟩ | assumption | (simp; omega))
        | (apply sp_i; first | exact rfl | omega | exact ⟨rfl, rfl, by omega⟩ | exact ⟨rfl, by omega⟩ | exact ⟨rfl, by omega, by omega, by omega⟩ | exact ⟨⟨_, rfl⟩, by omega⟩ | assumption | (simp; omega))
        | (apply sc_true) | (apply sc_false)
        | (first | apply sc_lt | apply sc_nlt | apply sc_eq | apply sc_neq | apply sc_nil | apply sc_nnil); all_goals (intro hb; try (first | (exfalso; omega) | exact absurd rfl hb | exact absurd hb (by decide) | exact absurd (by assumption) hb | (exfalso; simp only [List.length_cons, List.length_nil] at hb; omega)))
        | (apply sc_not) | (apply sc_i; all_goals intro hb)
        | (first | apply ix_nat | apply ix_int | apply sd_nat | apply sd_int | apply sl_nat | apply sl_int); first | omega | (simp only [List.length_cons, List.length_nil, List.length_drop, List.length_take] at *; omega)
        | (apply bx_i; intro hbd) | (apply gt_i; assumption; exact rfl)
        | (apply cx_is; first | fail) | (apply ab_i; intro bl)
        | (apply rt_is; exact rfl) | (apply rt_do; exact rfl; (repeat (first | exact List.nil_sublist _ | apply List.Sublist.cons_cons)))
        | (exact True.intro) | (apply bc_i; intro C hC) | (apply bt_i) | (apply og_n) | (apply og_a; exact rfl))
    all_goals (try conv => whnf)
    exact ⟨(), ⟨rfl, rfl, rfl, rfl, rfl, trivial⟩, rfl⟩
  intro _
  repeat' (first
    | (conv => whnf); first
      | (apply ch_l; apply sp_i; first | exact rfl | omega | exact ⟨rfl, by omega⟩ | exact ⟨rfl, by omega, by omega, by omega⟩ | exact ⟨⟨_, rfl⟩, by omega⟩ | assumption | (simp; omega))
      | (apply sp_i; first | exact rfl | omega | exact ⟨rfl, rfl, by omega⟩ | exact ⟨rfl, by omega⟩ | exact ⟨rfl, by omega, by omega, by omega⟩ | exact ⟨⟨_, rfl⟩, by omega⟩ | assumption | (simp; omega))
      | (apply sc_true) | (apply sc_false)
      | (first | apply sc_lt | apply sc_nlt | apply sc_eq | apply sc_neq | apply sc_nil | apply sc_nnil); all_goals (intro hb; try (first | (exfalso; omega) | exact absurd rfl hb | exact absurd hb (by decide) | exact absurd (by assumption) hb | (exfalso; simp only [List.length_cons, List.length_nil] at hb; omega)))
      | (apply sc_not) | (apply sc_i; all_goals intro hb)
      | (first | apply ix_nat | apply ix_int | apply sd_nat | apply sd_int | apply sl_nat | apply sl_int); first | omega | (simp only [List.length_cons, List.length_nil, List.length_drop, List.length_take] at *; omega)
      | (apply bx_i; intro hbd) | (apply gt_i; assumption; exact rfl)
      | (apply cx_is; first | fail) | (apply ab_i; intro bl)
      | (apply rt_is; exact rfl) | (apply rt_do; exact rfl; (repeat (first | exact List.nil_sublist _ | apply List.Sublist.cons_cons)))
      | (exact True.intro) | (apply bc_i; intro C hC) | (apply bt_i) | (apply og_n) | (apply og_a; exact rfl))
  all_goals (try conv => whnf)
  refine rds hC hGL 3 ?_
  repeat' (first
    | (conv => whnf); first
      | (apply ch_l; apply sp_i; first | exact rfl | omega | exact ⟨rfl, by omega⟩ | exact ⟨rfl, by omega, by omega, by omega⟩ | exact ⟨⟨_, rfl⟩, by omega⟩ | assumption | (simp; omega))
      | (apply sp_i; first | exact rfl | omega | exact ⟨rfl, rfl, by omega⟩ | exact ⟨rfl, by omega⟩ | exact ⟨rfl, by omega, by omega, by omega⟩ | exact ⟨⟨_, rfl⟩, by omega⟩ | assumption | (simp; omega))
      | (apply sc_true) | (apply sc_false)
      | (first | apply sc_lt | apply sc_nlt | apply sc_eq | apply sc_neq | apply sc_nil | apply sc_nnil); all_goals (intro hb; try (first | (exfalso; omega) | exact absurd rfl hb | exact absurd hb (by decide) | exact absurd (by assumption) hb | (exfalso; simp only [List.length_cons, List.length_nil] at hb; omega)))
      | (apply sc_not) | (apply sc_i; all_goals intro hb)
      | (first | apply ix_nat | apply ix_int | apply sd_nat | apply sd_int | apply sl_nat | apply sl_int); first | omega | (simp only [List.length_cons, List.length_nil, List.length_drop, List.length_take] at *; omega)
      | (apply bx_i; intro hbd) | (apply gt_i; assumption; exact rfl)
      | (apply cx_is; first | fail) | (apply ab_i; intro bl)
      | (apply rt_is; exact rfl) | (apply rt_do; exact rfl; (repeat (first | exact List.nil_sublist _ | apply List.Sublist.cons_cons)))
      | (exact True.intro) | (apply bc_i; intro C hC) | (apply bt_i) | (apply og_n) | (apply og_a; exact rfl))
  all_goals (try conv => whnf)
  refine dw_p mixed hC hGL false (fun (_ : Unit) => [(0, .own 0 (.slice (some ⟨br, 0, none⟩) 6 vc)), (3, .own 2 (pv bl 0)), (4, .int .i64 2), (5, .str [94, 110]), (6, .int .i64 0)]) (fun _ => [decR br vc, e1, .cells bl (some 81) (genC (.raw (.slice none 0 0)) 0 (zeroM.set 94 (.int .u8 1)))]) (.take 0 (.take 1 (.take 2 (.take 3 (.take 4 (.take 5 (.take 6 (.br 7 (.done) (.nil))))))))) (by kernel_rfl) ?_ ?_
  · repeat' (first
      | (conv => whnf); first
        | (apply ch_l; apply sp_i; first | exact rfl | omega | exact ⟨rfl, by omega⟩ | exact ⟨rfl, by omega, by omega, by omega⟩ | exact ⟨⟨_, rfl⟩, by omega⟩ | assumption | (simp; omega))
        | (apply sp_i; first | exact rfl | omega | exact ⟨rfl, rfl, by omega⟩ | exact ⟨rfl, by omega⟩ | exact ⟨rfl, by omega, by omega, by omega⟩ | exact ⟨⟨_, rfl⟩, by omega⟩ | assumption | (simp; omega))
        | (apply sc_true) | (apply sc_false)
        | (first | apply sc_lt | apply sc_nlt | apply sc_eq | apply sc_neq | apply sc_nil | apply sc_nnil); all_goals (intro hb; try (first | (exfalso; omega) | exact absurd rfl hb | exact absurd hb (by decide) | exact absurd (by assumption) hb | (exfalso; simp only [List.length_cons, List.length_nil] at hb; omega)))
        | (apply sc_not) | (apply sc_i; all_goals intro hb)
        | (first | apply ix_nat | apply ix_int | apply sd_nat | apply sd_int | apply sl_nat | apply sl_int); first | omega | (simp only [List.length_cons, List.length_nil, List.length_drop, List.length_take] at *; omega)
        | (apply bx_i; intro hbd) | (apply gt_i; assumption; exact rfl)
        | (apply cx_is; first | fail) | (apply ab_i; intro bl)
        | (apply rt_is; exact rfl) | (apply rt_do; exact rfl; (repeat (first | exact List.nil_sublist _ | apply List.Sublist.cons_cons)))
        | (exact True.intro) | (apply bc_i; intro C hC) | (apply bt_i) | (apply og_n) | (apply og_a; exact rfl))
    all_goals (try conv => whnf)
    exact ⟨(), ⟨rfl, rfl, rfl, rfl, rfl, trivial⟩, rfl⟩
  intro _
  repeat' (first
    | (conv => whnf); first
      | (apply ch_l; apply sp_i; first | exact rfl | omega | exact ⟨rfl, by omega⟩ | exact ⟨rfl, by omega, by omega, by omega⟩ | exact ⟨⟨_, rfl⟩, by omega⟩ | assumption | (simp; omega))
      | (apply sp_i; first | exact rfl | omega | exact ⟨rfl, rfl, by omega⟩ | exact ⟨rfl, by omega⟩ | exact ⟨rfl, by omega, by omega, by omega⟩ | exact ⟨⟨_, rfl⟩, by omega⟩ | assumption | (simp; omega))
      | (apply sc_true) | (apply sc_false)
      | (first | apply sc_lt | apply sc_nlt | apply sc_eq | apply sc_neq | apply sc_nil | apply sc_nnil); all_goals (intro hb; try (first | (exfalso; omega) | exact absurd rfl hb | exact absurd hb (by decide) | exact absurd (by assumption) hb | (exfalso; simp only [List.length_cons, List.length_nil] at hb; omega)))
      | (apply sc_not) | (apply sc_i; all_goals intro hb)
      | (first | apply ix_nat | apply ix_int | apply sd_nat | apply sd_int | apply sl_nat | apply sl_int); first | omega | (simp only [List.length_cons, List.length_nil, List.length_drop, List.length_take] at *; omega)
      | (apply bx_i; intro hbd) | (apply gt_i; assumption; exact rfl)
      | (apply cx_is; first | fail) | (apply ab_i; intro bl)
      | (apply rt_is; exact rfl) | (apply rt_do; exact rfl; (repeat (first | exact List.nil_sublist _ | apply List.Sublist.cons_cons)))
      | (exact True.intro) | (apply bc_i; intro C hC) | (apply bt_i) | (apply og_n) | (apply og_a; exact rfl))
  all_goals (try conv => whnf)
  refine dw_p mixed hC hGL false (fun (_ : Unit) => [(0, .own 0 (.slice (some ⟨br, 0, none⟩) 6 vc)), (3, .own 2 (pv bl 0)), (4, .int .i64 2), (5, .str [94, 110]), (6, .int .i64 1)]) (fun _ => [decR br vc, e1, .cells bl (some 81) (genC (.raw (.slice none 0 0)) 0 ((zeroM.set 94 (.int .u8 1)).set 110 (.int .u8 1)))]) (.take 0 (.take 1 (.take 2 (.take 3 (.take 4 (.take 5 (.take 6 (.br 7 (.done) (.nil))))))))) (by kernel_rfl) ?_ ?_
  · repeat' (first
      | (conv => whnf); first
        | (apply ch_l; apply sp_i; first | exact rfl | omega | exact ⟨rfl, by omega⟩ | exact ⟨rfl, by omega, by omega, by omega⟩ | exact ⟨⟨_, rfl⟩, by omega⟩ | assumption | (simp; omega))
        | (apply sp_i; first | exact rfl | omega | exact ⟨rfl, rfl, by omega⟩ | exact ⟨rfl, by omega⟩ | exact ⟨rfl, by omega, by omega, by omega⟩ | exact ⟨⟨_, rfl⟩, by omega⟩ | assumption | (simp; omega))
        | (apply sc_true) | (apply sc_false)
        | (first | apply sc_lt | apply sc_nlt | apply sc_eq | apply sc_neq | apply sc_nil | apply sc_nnil); all_goals (intro hb; try (first | (exfalso; omega) | exact absurd rfl hb | exact absurd hb (by decide) | exact absurd (by assumption) hb | (exfalso; simp only [List.length_cons, List.length_nil] at hb; omega)))
        | (apply sc_not) | (apply sc_i; all_goals intro hb)
        | (first | apply ix_nat | apply ix_int | apply sd_nat | apply sd_int | apply sl_nat | apply sl_int); first | omega | (simp only [List.length_cons, List.length_nil, List.length_drop, List.length_take] at *; omega)
        | (apply bx_i; intro hbd) | (apply gt_i; assumption; exact rfl)
        | (apply cx_is; first | fail) | (apply ab_i; intro bl)
        | (apply rt_is; exact rfl) | (apply rt_do; exact rfl; (repeat (first | exact List.nil_sublist _ | apply List.Sublist.cons_cons)))
        | (exact True.intro) | (apply bc_i; intro C hC) | (apply bt_i) | (apply og_n) | (apply og_a; exact rfl))
    all_goals (try conv => whnf)
    exact ⟨(), ⟨rfl, rfl, rfl, rfl, rfl, trivial⟩, rfl⟩
  intro _
  repeat' (first
    | (conv => whnf); first
      | (apply ch_l; apply sp_i; first | exact rfl | omega | exact ⟨rfl, by omega⟩ | exact ⟨rfl, by omega, by omega, by omega⟩ | exact ⟨⟨_, rfl⟩, by omega⟩ | assumption | (simp; omega))
      | (apply sp_i; first | exact rfl | omega | exact ⟨rfl, rfl, by omega⟩ | exact ⟨rfl, by omega⟩ | exact ⟨rfl, by omega, by omega, by omega⟩ | exact ⟨⟨_, rfl⟩, by omega⟩ | assumption | (simp; omega))
      | (apply sc_true) | (apply sc_false)
      | (first | apply sc_lt | apply sc_nlt | apply sc_eq | apply sc_neq | apply sc_nil | apply sc_nnil); all_goals (intro hb; try (first | (exfalso; omega) | exact absurd rfl hb | exact absurd hb (by decide) | exact absurd (by assumption) hb | (exfalso; simp only [List.length_cons, List.length_nil] at hb; omega)))
      | (apply sc_not) | (apply sc_i; all_goals intro hb)
      | (first | apply ix_nat | apply ix_int | apply sd_nat | apply sd_int | apply sl_nat | apply sl_int); first | omega | (simp only [List.length_cons, List.length_nil, List.length_drop, List.length_take] at *; omega)
      | (apply bx_i; intro hbd) | (apply gt_i; assumption; exact rfl)
      | (apply cx_is; first | fail) | (apply ab_i; intro bl)
      | (apply rt_is; exact rfl) | (apply rt_do; exact rfl; (repeat (first | exact List.nil_sublist _ | apply List.Sublist.cons_cons)))
      | (exact True.intro) | (apply bc_i; intro C hC) | (apply bt_i) | (apply og_n) | (apply og_a; exact rfl))
  all_goals (try conv => whnf)
  refine rds hC hGL 3 ?_
  repeat' (first
    | (conv => whnf); first
      | (apply ch_l; apply sp_i; first | exact rfl | omega | exact ⟨rfl, by omega⟩ | exact ⟨rfl, by omega, by omega, by omega⟩ | exact ⟨⟨_, rfl⟩, by omega⟩ | assumption | (simp; omega))
      | (apply sp_i; first | exact rfl | omega | exact ⟨rfl, rfl, by omega⟩ | exact ⟨rfl, by omega⟩ | exact ⟨rfl, by omega, by omega, by omega⟩ | exact ⟨⟨_, rfl⟩, by omega⟩ | assumption | (simp; omega))
      | (apply sc_true) | (apply sc_false)
      | (first | apply sc_lt | apply sc_nlt | apply sc_eq | apply sc_neq | apply sc_nil | apply sc_nnil); all_goals (intro hb; try (first | (exfalso; omega) | exact absurd rfl hb | exact absurd hb (by decide) | exact absurd (by assumption) hb | (exfalso; simp only [List.length_cons, List.length_nil] at hb; omega)))
      | (apply sc_not) | (apply sc_i; all_goals intro hb)
      | (first | apply ix_nat | apply ix_int | apply sd_nat | apply sd_int | apply sl_nat | apply sl_int); first | omega | (simp only [List.length_cons, List.length_nil, List.length_drop, List.length_take] at *; omega)
      | (apply bx_i; intro hbd) | (apply gt_i; assumption; exact rfl)
      | (apply cx_is; first | fail) | (apply ab_i; intro bl)
      | (apply rt_is; exact rfl) | (apply rt_do; exact rfl; (repeat (first | exact List.nil_sublist _ | apply List.Sublist.cons_cons)))
      | (exact True.intro) | (apply bc_i; intro C hC) | (apply bt_i) | (apply og_n) | (apply og_a; exact rfl))
  all_goals (try conv => whnf)
  refine dw_p mixed hC hGL false (fun (_ : Unit) => [(0, .own 0 (.slice (some ⟨br, 0, none⟩) 6 vc)), (3, .own 2 (pv bl 0)), (4, .int .i64 4), (5, .str [94, 39]), (6, .int .i64 0)]) (fun _ => [decR br vc, e1, .cells bl (some 81) (genC (.raw (.slice none 0 0)) 0 ((zeroM.set 94 (.int .u8 1)).set 110 (.int .u8 1)))]) (.take 0 (.take 1 (.take 2 (.take 3 (.take 4 (.take 5 (.take 6 (.br 7 (.done) (.nil))))))))) (by kernel_rfl) ?_ ?_
  · repeat' (first
      | (conv => whnf); first
        | (apply ch_l; apply sp_i; first | exact rfl | omega | exact ⟨rfl, by omega⟩ | exact ⟨rfl, by omega, by omega, by omega⟩ | exact ⟨⟨_, rfl⟩, by omega⟩ | assumption | (simp; omega))
        | (apply sp_i; first | exact rfl | omega | exact ⟨rfl, rfl, by omega⟩ | exact ⟨rfl, by omega⟩ | exact ⟨rfl, by omega, by omega, by omega⟩ | exact ⟨⟨_, rfl⟩, by omega⟩ | assumption | (simp; omega))
        | (apply sc_true) | (apply sc_false)
        | (first | apply sc_lt | apply sc_nlt | apply sc_eq | apply sc_neq | apply sc_nil | apply sc_nnil); all_goals (intro hb; try (first | (exfalso; omega) | exact absurd rfl hb | exact absurd hb (by decide) | exact absurd (by assumption) hb | (exfalso; simp only [List.length_cons, List.length_nil] at hb; omega)))
        | (apply sc_not) | (apply sc_i; all_goals intro hb)
        | (first | apply ix_nat | apply ix_int | apply sd_nat | apply sd_int | apply sl_nat | apply sl_int); first | omega | (simp only [List.length_cons, List.length_nil, List.length_drop, List.length_take] at *; omega)
        | (apply bx_i; intro hbd) | (apply gt_i; assumption; exact rfl)
        | (apply cx_is; first | fail) | (apply ab_i; intro bl)
        | (apply rt_is; exact rfl) | (apply rt_do; exact rfl; (repeat (first | exact List.nil_sublist _ | apply List.Sublist.cons_cons)))
        | (exact True.intro) | (apply bc_i; intro C hC) | (apply bt_i) | (apply og_n) | (apply og_a; exact rfl))
    all_goals (try conv => whnf)
    exact ⟨(), ⟨rfl, rfl, rfl, rfl, rfl, trivial⟩, rfl⟩
  intro _
  repeat' (first
    | (conv => whnf); first
      | (apply ch_l; apply sp_i; first | exact rfl | omega | exact ⟨rfl, by omega⟩ | exact ⟨rfl, by omega, by omega, by omega⟩ | exact ⟨⟨_, rfl⟩, by omega⟩ | assumption | (simp; omega))
      | (apply sp_i; first | exact rfl | omega | exact ⟨rfl, rfl, by omega⟩ | exact ⟨rfl, by omega⟩ | exact ⟨rfl, by omega, by omega, by omega⟩ | exact ⟨⟨_, rfl⟩, by omega⟩ | assumption | (simp; omega))
      | (apply sc_true) | (apply sc_false)
      | (first | apply sc_lt | apply sc_nlt | apply sc_eq | apply sc_neq | apply sc_nil | apply sc_nnil); all_goals (intro hb; try (first | (exfalso; omega) | exact absurd rfl hb | exact absurd hb (by decide) | exact absurd (by assumption) hb | (exfalso; simp only [List.length_cons, List.length_nil] at hb; omega)))
      | (apply sc_not) | (apply sc_i; all_goals intro hb)
      | (first | apply ix_nat | apply ix_int | apply sd_nat | apply sd_int | apply sl_nat | apply sl_int); first | omega | (simp only [List.length_cons, List.length_nil, List.length_drop, List.length_take] at *; omega)
      | (apply bx_i; intro hbd) | (apply gt_i; assumption; exact rfl)
      | (apply cx_is; first | fail) | (apply ab_i; intro bl)
      | (apply rt_is; exact rfl) | (apply rt_do; exact rfl; (repeat (first | exact List.nil_sublist _ | apply List.Sublist.cons_cons)))
      | (exact True.intro) | (apply bc_i; intro C hC) | (apply bt_i) | (apply og_n) | (apply og_a; exact rfl))
  all_goals (try conv => whnf)
  refine dw_p mixed hC hGL false (fun (_ : Unit) => [(0, .own 0 (.slice (some ⟨br, 0, none⟩) 6 vc)), (3, .own 2 (pv bl 0)), (4, .int .i64 4), (5, .str [94, 39]), (6, .int .i64 1)]) (fun _ => [decR br vc, e1, .cells bl (some 81) (genC (.raw (.slice none 0 0)) 0 mapM)]) (.take 0 (.take 1 (.take 2 (.take 3 (.take 4 (.take 5 (.take 6 (.br 7 (.done) (.nil))))))))) (by kernel_rfl) ?_ ?_
  · repeat' (first
      | (conv => whnf); first
        | (apply ch_l; apply sp_i; first | exact rfl | omega | exact ⟨rfl, by omega⟩ | exact ⟨rfl, by omega, by omega, by omega⟩ | exact ⟨⟨_, rfl⟩, by omega⟩ | assumption | (simp; omega))
        | (apply sp_i; first | exact rfl | omega | exact ⟨rfl, rfl, by omega⟩ | exact ⟨rfl, by omega⟩ | exact ⟨rfl, by omega, by omega, by omega⟩ | exact ⟨⟨_, rfl⟩, by omega⟩ | assumption | (simp; omega))
        | (apply sc_true) | (apply sc_false)
        | (first | apply sc_lt | apply sc_nlt | apply sc_eq | apply sc_neq | apply sc_nil | apply sc_nnil); all_goals (intro hb; try (first | (exfalso; omega) | exact absurd rfl hb | exact absurd hb (by decide) | exact absurd (by assumption) hb | (exfalso; simp only [List.length_cons, List.length_nil] at hb; omega)))
        | (apply sc_not) | (apply sc_i; all_goals intro hb)
        | (first | apply ix_nat | apply ix_int | apply sd_nat | apply sd_int | apply sl_nat | apply sl_int); first | omega | (simp only [List.length_cons, List.length_nil, List.length_drop, List.length_take] at *; omega)
        | (apply bx_i; intro hbd) | (apply gt_i; assumption; exact rfl)
        | (apply cx_is; first | fail) | (apply ab_i; intro bl)
        | (apply rt_is; exact rfl) | (apply rt_do; exact rfl; (repeat (first | exact List.nil_sublist _ | apply List.Sublist.cons_cons)))
        | (exact True.intro) | (apply bc_i; intro C hC) | (apply bt_i) | (apply og_n) | (apply og_a; exact rfl))
    all_goals (try conv => whnf)
    exact ⟨(), ⟨rfl, rfl, rfl, rfl, rfl, trivial⟩, rfl⟩
  intro _
  repeat' (first
    | (conv => whnf); first
      | (apply ch_l; apply sp_i; first | exact rfl | omega | exact ⟨rfl, by omega⟩ | exact ⟨rfl, by omega, by omega, by omega⟩ | exact ⟨⟨_, rfl⟩, by omega⟩ | assumption | (simp; omega))
      | (apply sp_i; first | exact rfl | omega | exact ⟨rfl, rfl, by omega⟩ | exact ⟨rfl, by omega⟩ | exact ⟨rfl, by omega, by omega, by omega⟩ | exact ⟨⟨_, rfl⟩, by omega⟩ | assumption | (simp; omega))
      | (apply sc_true) | (apply sc_false)
      | (first | apply sc_lt | apply sc_nlt | apply sc_eq | apply sc_neq | apply sc_nil | apply sc_nnil); all_goals (intro hb; try (first | (exfalso; omega) | exact absurd rfl hb | exact absurd hb (by decide) | exact absurd (by assumption) hb | (exfalso; simp only [List.length_cons, List.length_nil] at hb; omega)))
      | (apply sc_not) | (apply sc_i; all_goals intro hb)
      | (first | apply ix_nat | apply ix_int | apply sd_nat | apply sd_int | apply sl_nat | apply sl_int); first | omega | (simp only [List.length_cons, List.length_nil, List.length_drop, List.length_take] at *; omega)
      | (apply bx_i; intro hbd) | (apply gt_i; assumption; exact rfl)
      | (apply cx_is; first | fail) | (apply ab_i; intro bl)
      | (apply rt_is; exact rfl) | (apply rt_do; exact rfl; (repeat (first | exact List.nil_sublist _ | apply List.Sublist.cons_cons)))
      | (exact True.intro) | (apply bc_i; intro C hC) | (apply bt_i) | (apply og_n) | (apply og_a; exact rfl))
  all_goals (try conv => whnf)
  have hs : ∀ i : Nat, ((cnt3 i : Nat) : Int) + (m1 i : Nat) = ((cnt3 (i + 1) : Nat) : Int) := fun i => by rw [cnt3_succ, Int.natCast_add]
  refine lp hC hGL (fun i : Nat => [(0, .own 0 (.slice (some ⟨br, 0, none⟩) 6 vc)), (3, .own 2 (pv bl 0)), (40, .agg mapM), (41, .int .i64 (i : Nat))]) (fun i => [decR br vc, e1, .cells bl (some 81) (genC (.raw (.slice none 0 0)) ((cnt3 i : Nat) : Int) mapM)]) (fun i => i ≤ 256) (fun i => 256 - i) 0 ?_ (by repeat (first | exact trivial | refine And.intro rfl ?_)) rfl ?_
  · omega
  · intro i hi
    have hc3 := cnt3_le i
    have hm1 := m1_le i
    by_cases hlt : i < 256
    · repeat' (first
        | (conv => whnf); first
          | (apply ch_l; apply sp_i; first | exact rfl | omega | exact ⟨rfl, by omega⟩ | exact ⟨rfl, by omega, by omega, by omega⟩ | exact ⟨⟨_, rfl⟩, by omega⟩ | assumption | (simp; omega))
          | (apply sp_i; first | exact rfl | omega | exact ⟨rfl, rfl, by omega⟩ | exact ⟨rfl, by omega⟩ | exact ⟨rfl, by omega, by omega, by omega⟩ | exact ⟨⟨_, rfl⟩, by omega⟩ | assumption | (simp; omega))
          | (apply sc_true) | (apply sc_false)
          | (first | apply sc_lt | apply sc_nlt | apply sc_eq | apply sc_neq | apply sc_nil | apply sc_nnil); all_goals (intro hb; try (first | (exfalso; omega) | exact absurd rfl hb | exact absurd hb (by decide) | exact absurd (by assumption) hb | (exfalso; simp only [List.length_cons, List.length_nil] at hb; omega)))
          | (apply sc_not) | (apply sc_i; all_goals intro hb)
          | (first | apply ix_nat | apply ix_int | apply sd_nat | apply sd_int | apply sl_nat | apply sl_int); first | omega | (simp only [List.length_cons, List.length_nil, List.length_drop, List.length_take] at *; omega)
          | (apply bx_i; intro hbd) | (apply gt_i; assumption; exact rfl)
          | (apply cx_is; first | fail) | (apply ab_i; intro bl)
          | (apply rt_is; exact rfl) | (apply rt_do; exact rfl; (repeat (first | exact List.nil_sublist _ | apply List.Sublist.cons_cons)))
          | (exact True.intro) | (apply bc_i; intro C hC) | (apply bt_i) | (apply og_n) | (apply og_a; exact rfl))
      all_goals (try conv => whnf)
      refine op1_run hC hGL (rv_indexA (i := i) rfl rfl rfl rfl rfl rfl rfl hlt (mapM_get hlt) rfl) rfl rfl ?_
      repeat' (first
        | (conv => whnf); first
          | (apply ch_l; apply sp_i; first | exact rfl | omega | exact ⟨rfl, by omega⟩ | exact ⟨rfl, by omega, by omega, by omega⟩ | exact ⟨⟨_, rfl⟩, by omega⟩ | assumption | (simp; omega))
          | (apply sp_i; first | exact rfl | omega | exact ⟨rfl, rfl, by omega⟩ | exact ⟨rfl, by omega⟩ | exact ⟨rfl, by omega, by omega, by omega⟩ | exact ⟨⟨_, rfl⟩, by omega⟩ | assumption | (simp; omega))
          | (apply sc_true) | (apply sc_false)
          | (first | apply sc_lt | apply sc_nlt | apply sc_eq | apply sc_neq | apply sc_nil | apply sc_nnil); all_goals (intro hb; try (first | (exfalso; omega) | exact absurd rfl hb | exact absurd hb (by decide) | exact absurd (by assumption) hb | (exfalso; simp only [List.length_cons, List.length_nil] at hb; omega)))
          | (apply sc_not) | (apply sc_i; all_goals intro hb)
          | (first | apply ix_nat | apply ix_int | apply sd_nat | apply sd_int | apply sl_nat | apply sl_int); first | omega | (simp only [List.length_cons, List.length_nil, List.length_drop, List.length_take] at *; omega)
          | (apply bx_i; intro hbd) | (apply gt_i; assumption; exact rfl)
          | (apply cx_is; first | fail) | (apply ab_i; intro bl)
          | (apply rt_is; exact rfl) | (apply rt_do; exact rfl; (repeat (first | exact List.nil_sublist _ | apply List.Sublist.cons_cons)))
          | (exact True.intro) | (apply bc_i; intro C hC) | (apply bt_i) | (apply og_n) | (apply og_a; exact rfl))
      all_goals (try conv => whnf)
      refine nxt (i + 1) ?_ ?_ ⟨rfl, rfl, rfl, rfl, trivial⟩ ?_
      · show i + 1 ≤ 256; omega
      · show 256 - (i + 1) < 256 - i; omega
      · show _ = [decR br vc, e1, .cells bl (some 81) (genC (.raw (.slice none 0 0)) ((cnt3 (i + 1) : Nat) : Int) mapM)]
        rw [← hs]
        rfl
    · obtain rfl : i = 256 := by omega
      repeat' (first
        | (conv => whnf); first
          | (apply ch_l; apply sp_i; first | exact rfl | omega | exact ⟨rfl, by omega⟩ | exact ⟨rfl, by omega, by omega, by omega⟩ | exact ⟨⟨_, rfl⟩, by omega⟩ | assumption | (simp; omega))
          | (apply sp_i; first | exact rfl | omega | exact ⟨rfl, rfl, by omega⟩ | exact ⟨rfl, by omega⟩ | exact ⟨rfl, by omega, by omega, by omega⟩ | exact ⟨⟨_, rfl⟩, by omega⟩ | assumption | (simp; omega))
          | (apply sc_true) | (apply sc_false)
          | (first | apply sc_lt | apply sc_nlt | apply sc_eq | apply sc_neq | apply sc_nil | apply sc_nnil); all_goals (intro hb; try (first | (exfalso; omega) | exact absurd rfl hb | exact absurd hb (by decide) | exact absurd (by assumption) hb | (exfalso; simp only [List.length_cons, List.length_nil] at hb; omega)))
          | (apply sc_not) | (apply sc_i; all_goals intro hb)
          | (first | apply ix_nat | apply ix_int | apply sd_nat | apply sd_int | apply sl_nat | apply sl_int); first | omega | (simp only [List.length_cons, List.length_nil, List.length_drop, List.length_take] at *; omega)
          | (apply bx_i; intro hbd) | (apply gt_i; assumption; exact rfl)
          | (apply cx_is; first | fail) | (apply ab_i; intro bl)
          | (apply rt_is; exact rfl) | (apply rt_do; exact rfl; (repeat (first | exact List.nil_sublist _ | apply List.Sublist.cons_cons)))
          | (exact True.intro) | (apply bc_i; intro C hC) | (apply bt_i) | (apply og_n) | (apply og_a; exact rfl))
      all_goals (try conv => whnf)
      refine lp hC hGL (fun x : Nat × List AVal => [(0, .own 0 (.slice (some ⟨br, 0, none⟩) 6 vc)), (3, .own 2 (pv bl 0)), (9, .int .u8 ((cnt3 x.1 : Nat) : Int)), (57, .agg mapM), (58, .int .i64 (x.1 : Nat))]) (fun x => [decR br vc, e1, .cells bl (some 81) (genC (.raw (.slice none 0 0)) 3 x.2)]) (fun x => x.1 ≤ 256 ∧ x.2 = mapI x.1) (fun x => 256 - x.1) (0, mapI 0) ⟨Nat.zero_le _, rfl⟩ ⟨rfl, rfl, rfl, rfl, rfl, trivial⟩ rfl ?_
      rintro ⟨i, M⟩ ⟨hi, hM⟩
      have hi : i ≤ 256 := hi
      have hM : M = mapI i := hM
      have hMl : M.length = 256 := by rw [hM]; exact mapI_len i
      have hc3 := cnt3_le i
      have hm1 := m1_le i
      by_cases hlt : i < 256
      · repeat' (first
          | (conv => whnf); first
            | (apply ch_l; apply sp_i; first | exact rfl | omega | exact ⟨rfl, by omega⟩ | exact ⟨rfl, by omega, by omega, by omega⟩ | exact ⟨⟨_, rfl⟩, by omega⟩ | assumption | (simp; omega))
            | (apply sp_i; first | exact rfl | omega | exact ⟨rfl, rfl, by omega⟩ | exact ⟨rfl, by omega⟩ | exact ⟨rfl, by omega, by omega, by omega⟩ | exact ⟨⟨_, rfl⟩, by omega⟩ | assumption | (simp; omega))
            | (apply sc_true) | (apply sc_false)
            | (first | apply sc_lt | apply sc_nlt | apply sc_eq | apply sc_neq | apply sc_nil | apply sc_nnil); all_goals (intro hb; try (first | (exfalso; omega) | exact absurd rfl hb | exact absurd hb (by decide) | exact absurd (by assumption) hb | (exfalso; simp only [List.length_cons, List.length_nil] at hb; omega)))
            | (apply sc_not) | (apply sc_i; all_goals intro hb)
            | (first | apply ix_nat | apply ix_int | apply sd_nat | apply sd_int | apply sl_nat | apply sl_int); first | omega | (simp only [List.length_cons, List.length_nil, List.length_drop, List.length_take] at *; omega)
            | (apply bx_i; intro hbd) | (apply gt_i; assumption; exact rfl)
            | (apply cx_is; first | fail) | (apply ab_i; intro bl)
            | (apply rt_is; exact rfl) | (apply rt_do; exact rfl; (repeat (first | exact List.nil_sublist _ | apply List.Sublist.cons_cons)))
            | (exact True.intro) | (apply bc_i; intro C hC) | (apply bt_i) | (apply og_n) | (apply og_a; exact rfl))
        all_goals (try conv => whnf)
        refine op1_run hC hGL (rv_indexA (i := i) rfl rfl rfl rfl rfl rfl rfl hlt (mapM_get hlt) rfl) rfl rfl ?_
        repeat' (first
          | (conv => whnf); first
            | (apply ch_l; apply sp_i; first | exact rfl | omega | exact ⟨rfl, by omega⟩ | exact ⟨rfl, by omega, by omega, by omega⟩ | exact ⟨⟨_, rfl⟩, by omega⟩ | assumption | (simp; omega))
            | (apply sp_i; first | exact rfl | omega | exact ⟨rfl, rfl, by omega⟩ | exact ⟨rfl, by omega⟩ | exact ⟨rfl, by omega, by omega, by omega⟩ | exact ⟨⟨_, rfl⟩, by omega⟩ | assumption | (simp; omega))
            | (apply sc_true) | (apply sc_false)
            | (first | apply sc_lt | apply sc_nlt | apply sc_eq | apply sc_neq | apply sc_nil | apply sc_nnil); all_goals (intro hb; try (first | (exfalso; omega) | exact absurd rfl hb | exact absurd hb (by decide) | exact absurd (by assumption) hb | (exfalso; simp only [List.length_cons, List.length_nil] at hb; omega)))
            | (apply sc_not) | (apply sc_i; all_goals intro hb)
            | (first | apply ix_nat | apply ix_int | apply sd_nat | apply sd_int | apply sl_nat | apply sl_int); first | omega | (simp only [List.length_cons, List.length_nil, List.length_drop, List.length_take] at *; omega)
            | (apply bx_i; intro hbd) | (apply gt_i; assumption; exact rfl)
            | (apply cx_is; first | fail) | (apply ab_i; intro bl)
            | (apply rt_is; exact rfl) | (apply rt_do; exact rfl; (repeat (first | exact List.nil_sublist _ | apply List.Sublist.cons_cons)))
            | (exact True.intro) | (apply bc_i; intro C hC) | (apply bt_i) | (apply og_n) | (apply og_a; exact rfl))
        all_goals (try conv => whnf)
        · refine dw_p mixed hC hGL false (fun (_ : Unit) => [(0, .own 0 (.slice (some ⟨br, 0, none⟩) 6 vc)), (3, .own 2 (pv bl 0)), (9, .int .u8 ((cnt3 i : Nat) : Int)), (57, .agg mapM), (58, .int .i64 (i : Nat))]) (fun _ => [decR br vc, e1, .cells bl (some 81) (genC (.raw (.slice none 0 0)) 3 (M.take i ++ [.int .u8 3] ++ M.drop (i + 1)))]) (.take 0 (.take 1 (.take 2 (.take 3 (.take 4 (.take 7 (.take 8 (.br 5 (.take 6 (.take 9 (.br 10 (.done) (.nil)))) (.nil))))))))) (by kernel_rfl) ?_ ?_
          · repeat' (first
              | (conv => whnf); first
                | (apply ch_l; apply sp_i; first | exact rfl | omega | exact ⟨rfl, by omega⟩ | exact ⟨rfl, by omega, by omega, by omega⟩ | exact ⟨⟨_, rfl⟩, by omega⟩ | assumption | (simp; omega))
                | (apply sp_i; first | exact rfl | omega | exact ⟨rfl, rfl, by omega⟩ | exact ⟨rfl, by omega⟩ | exact ⟨rfl, by omega, by omega, by omega⟩ | exact ⟨⟨_, rfl⟩, by omega⟩ | assumption | (simp; omega))
                | (apply sc_true) | (apply sc_false)
                | (first | apply sc_lt | apply sc_nlt | apply sc_eq | apply sc_neq | apply sc_nil | apply sc_nnil); all_goals (intro hb; try (first | (exfalso; omega) | exact absurd rfl hb | exact absurd hb (by decide) | exact absurd (by assumption) hb | (exfalso; simp only [List.length_cons, List.length_nil] at hb; omega)))
                | (apply sc_not) | (apply sc_i; all_goals intro hb)
                | (first | apply ix_nat | apply ix_int | apply sd_nat | apply sd_int | apply sl_nat | apply sl_int); first | omega | (simp only [List.length_cons, List.length_nil, List.length_drop, List.length_take] at *; omega)
                | (apply bx_i; intro hbd) | (apply gt_i; assumption; exact rfl)
                | (apply cx_is; first | fail) | (apply ab_i; intro bl)
                | (apply rt_is; exact rfl) | (apply rt_do; exact rfl; (repeat (first | exact List.nil_sublist _ | apply List.Sublist.cons_cons)))
                | (exact True.intro) | (apply bc_i; intro C hC) | (apply bt_i) | (apply og_n) | (apply og_a; exact rfl))
            all_goals (try conv => whnf)
            erw [genC_ble hMl hlt]
            refine sp_i rfl ?_
            erw [forceL_eq, genC_put]
            repeat' (first
              | (conv => whnf); first
                | (apply ch_l; apply sp_i; first | exact rfl | omega | exact ⟨rfl, by omega⟩ | exact ⟨rfl, by omega, by omega, by omega⟩ | exact ⟨⟨_, rfl⟩, by omega⟩ | assumption | (simp; omega))
                | (apply sp_i; first | exact rfl | omega | exact ⟨rfl, rfl, by omega⟩ | exact ⟨rfl, by omega⟩ | exact ⟨rfl, by omega, by omega, by omega⟩ | exact ⟨⟨_, rfl⟩, by omega⟩ | assumption | (simp; omega))
                | (apply sc_true) | (apply sc_false)
                | (first | apply sc_lt | apply sc_nlt | apply sc_eq | apply sc_neq | apply sc_nil | apply sc_nnil); all_goals (intro hb; try (first | (exfalso; omega) | exact absurd rfl hb | exact absurd hb (by decide) | exact absurd (by assumption) hb | (exfalso; simp only [List.length_cons, List.length_nil] at hb; omega)))
                | (apply sc_not) | (apply sc_i; all_goals intro hb)
                | (first | apply ix_nat | apply ix_int | apply sd_nat | apply sd_int | apply sl_nat | apply sl_int); first | omega | (simp only [List.length_cons, List.length_nil, List.length_drop, List.length_take] at *; omega)
                | (apply bx_i; intro hbd) | (apply gt_i; assumption; exact rfl)
                | (apply cx_is; first | fail) | (apply ab_i; intro bl)
                | (apply rt_is; exact rfl) | (apply rt_do; exact rfl; (repeat (first | exact List.nil_sublist _ | apply List.Sublist.cons_cons)))
                | (exact True.intro) | (apply bc_i; intro C hC) | (apply bt_i) | (apply og_n) | (apply og_a; exact rfl))
            all_goals (try conv => whnf)
            exact ⟨(), ⟨rfl, rfl, rfl, rfl, rfl, trivial⟩, rfl⟩
          · intro _
            repeat' (first
              | (conv => whnf); first
                | (apply ch_l; apply sp_i; first | exact rfl | omega | exact ⟨rfl, by omega⟩ | exact ⟨rfl, by omega, by omega, by omega⟩ | exact ⟨⟨_, rfl⟩, by omega⟩ | assumption | (simp; omega))
                | (apply sp_i; first | exact rfl | omega | exact ⟨rfl, rfl, by omega⟩ | exact ⟨rfl, by omega⟩ | exact ⟨rfl, by omega, by omega, by omega⟩ | exact ⟨⟨_, rfl⟩, by omega⟩ | assumption | (simp; omega))
                | (apply sc_true) | (apply sc_false)
                | (first | apply sc_lt | apply sc_nlt | apply sc_eq | apply sc_neq | apply sc_nil | apply sc_nnil); all_goals (intro hb; try (first | (exfalso; omega) | exact absurd rfl hb | exact absurd hb (by decide) | exact absurd (by assumption) hb | (exfalso; simp only [List.length_cons, List.length_nil] at hb; omega)))
                | (apply sc_not) | (apply sc_i; all_goals intro hb)
                | (first | apply ix_nat | apply ix_int | apply sd_nat | apply sd_int | apply sl_nat | apply sl_int); first | omega | (simp only [List.length_cons, List.length_nil, List.length_drop, List.length_take] at *; omega)
                | (apply bx_i; intro hbd) | (apply gt_i; assumption; exact rfl)
                | (apply cx_is; first | fail) | (apply ab_i; intro bl)
                | (apply rt_is; exact rfl) | (apply rt_do; exact rfl; (repeat (first | exact List.nil_sublist _ | apply List.Sublist.cons_cons)))
                | (exact True.intro) | (apply bc_i; intro C hC) | (apply bt_i) | (apply og_n) | (apply og_a; exact rfl))
            all_goals (try conv => whnf)
            have h0 : m1 i = 0 := by omega
            have h1 : m1 i + cnt3 i = cnt3 (i + 1) := by rw [cnt3_succ]; omega
            rw [h0, Nat.zero_add] at h1
            refine nxt (i + 1, M.take i ++ [.int .u8 3] ++ M.drop (i + 1)) ?_ ?_ ⟨rfl, rfl, ?_, rfl, rfl, trivial⟩ rfl
            · refine ⟨hlt, ?_⟩
              show M.take i ++ [.int .u8 3] ++ M.drop (i + 1) = mapI (i + 1)
              rw [hM, ← mapI_succ hlt, m2_of0 h0]
              rfl
            · show 256 - (i + 1) < 256 - i; omega
            · show some (AVal.int .u8 ((cnt3 i : Nat) : Int)) = some (AVal.int .u8 ((cnt3 (i + 1) : Nat) : Int))
              rw [h1]
        · erw [genC_ble hMl hlt]
          refine sp_i rfl ?_
          erw [forceL_eq, genC_put]
          repeat' (first
            | (conv => whnf); first
              | (apply ch_l; apply sp_i; first | exact rfl | omega | exact ⟨rfl, by omega⟩ | exact ⟨rfl, by omega, by omega, by omega⟩ | exact ⟨⟨_, rfl⟩, by omega⟩ | assumption | (simp; omega))
              | (apply sp_i; first | exact rfl | omega | exact ⟨rfl, rfl, by omega⟩ | exact ⟨rfl, by omega⟩ | exact ⟨rfl, by omega, by omega, by omega⟩ | exact ⟨⟨_, rfl⟩, by omega⟩ | assumption | (simp; omega))
              | (apply sc_true) | (apply sc_false)
              | (first | apply sc_lt | apply sc_nlt | apply sc_eq | apply sc_neq | apply sc_nil | apply sc_nnil); all_goals (intro hb; try (first | (exfalso; omega) | exact absurd rfl hb | exact absurd hb (by decide) | exact absurd (by assumption) hb | (exfalso; simp only [List.length_cons, List.length_nil] at hb; omega)))
              | (apply sc_not) | (apply sc_i; all_goals intro hb)
              | (first | apply ix_nat | apply ix_int | apply sd_nat | apply sd_int | apply sl_nat | apply sl_int); first | omega | (simp only [List.length_cons, List.length_nil, List.length_drop, List.length_take] at *; omega)
              | (apply bx_i; intro hbd) | (apply gt_i; assumption; exact rfl)
              | (apply cx_is; first | fail) | (apply ab_i; intro bl)
              | (apply rt_is; exact rfl) | (apply rt_do; exact rfl; (repeat (first | exact List.nil_sublist _ | apply List.Sublist.cons_cons)))
              | (exact True.intro) | (apply bc_i; intro C hC) | (apply bt_i) | (apply og_n) | (apply og_a; exact rfl))
          all_goals (try conv => whnf)
          have h0 : m1 i ≠ 0 := by omega
          have h1 : m1 i + cnt3 i = cnt3 (i + 1) := by rw [cnt3_succ]; omega
          refine nxt (i + 1, M.take i ++ [.int .u8 ((cnt3 i : Nat) : Int)] ++ M.drop (i + 1)) ?_ ?_ ⟨rfl, rfl, ?_, rfl, rfl, trivial⟩ rfl
          · refine ⟨hlt, ?_⟩
            show M.take i ++ [.int .u8 ((cnt3 i : Nat) : Int)] ++ M.drop (i + 1) = mapI (i + 1)
            rw [hM, ← mapI_succ hlt, m2_of1 h0]
          · show 256 - (i + 1) < 256 - i; omega
          · show some (AVal.int .u8 (((cnt3 i : Nat) : Int) + 1)) = some (AVal.int .u8 ((cnt3 (i + 1) : Nat) : Int))
            rw [show ((cnt3 (i + 1) : Nat) : Int) = (cnt3 i : Nat) + 1 by omega]
      · obtain rfl : i = 256 := by omega
        subst hM
        repeat' (first
          | (conv => whnf); first
            | (apply ch_l; apply sp_i; first | exact rfl | omega | exact ⟨rfl, by omega⟩ | exact ⟨rfl, by omega, by omega, by omega⟩ | exact ⟨⟨_, rfl⟩, by omega⟩ | assumption | (simp; omega))
            | (apply sp_i; first | exact rfl | omega | exact ⟨rfl, rfl, by omega⟩ | exact ⟨rfl, by omega⟩ | exact ⟨rfl, by omega, by omega, by omega⟩ | exact ⟨⟨_, rfl⟩, by omega⟩ | assumption | (simp; omega))
            | (apply sc_true) | (apply sc_false)
            | (first | apply sc_lt | apply sc_nlt | apply sc_eq | apply sc_neq | apply sc_nil | apply sc_nnil); all_goals (intro hb; try (first | (exfalso; omega) | exact absurd rfl hb | exact absurd hb (by decide) | exact absurd (by assumption) hb | (exfalso; simp only [List.length_cons, List.length_nil] at hb; omega)))
            | (apply sc_not) | (apply sc_i; all_goals intro hb)
            | (first | apply ix_nat | apply ix_int | apply sd_nat | apply sd_int | apply sl_nat | apply sl_int); first | omega | (simp only [List.length_cons, List.length_nil, List.length_drop, List.length_take] at *; omega)
            | (apply bx_i; intro hbd) | (apply gt_i; assumption; exact rfl)
            | (apply cx_is; first | fail) | (apply ab_i; intro bl)
            | (apply rt_is; exact rfl) | (apply rt_do; exact rfl; (repeat (first | exact List.nil_sublist _ | apply List.Sublist.cons_cons)))
            | (exact True.intro) | (apply bc_i; intro C hC) | (apply bt_i) | (apply og_n) | (apply og_a; exact rfl))
        all_goals (try conv => whnf)
        refine op1_makeP (m := 3) hC hGL rfl rfl (by omega) rfl rfl rfl rfl rfl rfl rfl rfl (fun bt => ?_)
        repeat' (first
          | (conv => whnf); first
            | (apply ch_l; apply sp_i; first | exact rfl | omega | exact ⟨rfl, by omega⟩ | exact ⟨rfl, by omega, by omega, by omega⟩ | exact ⟨⟨_, rfl⟩, by omega⟩ | assumption | (simp; omega))
            | (apply sp_i; first | exact rfl | omega | exact ⟨rfl, rfl, by omega⟩ | exact ⟨rfl, by omega⟩ | exact ⟨rfl, by omega, by omega, by omega⟩ | exact ⟨⟨_, rfl⟩, by omega⟩ | assumption | (simp; omega))
            | (apply sc_true) | (apply sc_false)
            | (first | apply sc_lt | apply sc_nlt | apply sc_eq | apply sc_neq | apply sc_nil | apply sc_nnil); all_goals (intro hb; try (first | (exfalso; omega) | exact absurd rfl hb | exact absurd hb (by decide) | exact absurd (by assumption) hb | (exfalso; simp only [List.length_cons, List.length_nil] at hb; omega)))
            | (apply sc_not) | (apply sc_i; all_goals intro hb)
            | (first | apply ix_nat | apply ix_int | apply sd_nat | apply sd_int | apply sl_nat | apply sl_int); first | omega | (simp only [List.length_cons, List.length_nil, List.length_drop, List.length_take] at *; omega)
            | (apply bx_i; intro hbd) | (apply gt_i; assumption; exact rfl)
            | (apply cx_is; first | fail) | (apply ab_i; intro bl)
            | (apply rt_is; exact rfl) | (apply rt_do; exact rfl; (repeat (first | exact List.nil_sublist _ | apply List.Sublist.cons_cons)))
            | (exact True.intro) | (apply bc_i; intro C hC) | (apply bt_i) | (apply og_n) | (apply og_a; exact rfl))
        all_goals (try conv => whnf)
        refine rds hC hGL 4 ?_
        repeat' (first
          | (conv => whnf); first
            | (apply ch_l; apply sp_i; first | exact rfl | omega | exact ⟨rfl, by omega⟩ | exact ⟨rfl, by omega, by omega, by omega⟩ | exact ⟨⟨_, rfl⟩, by omega⟩ | assumption | (simp; omega))
            | (apply sp_i; first | exact rfl | omega | exact ⟨rfl, rfl, by omega⟩ | exact ⟨rfl, by omega⟩ | exact ⟨rfl, by omega, by omega, by omega⟩ | exact ⟨⟨_, rfl⟩, by omega⟩ | assumption | (simp; omega))
            | (apply sc_true) | (apply sc_false)
            | (first | apply sc_lt | apply sc_nlt | apply sc_eq | apply sc_neq | apply sc_nil | apply sc_nnil); all_goals (intro hb; try (first | (exfalso; omega) | exact absurd rfl hb | exact absurd hb (by decide) | exact absurd (by assumption) hb | (exfalso; simp only [List.length_cons, List.length_nil] at hb; omega)))
            | (apply sc_not) | (apply sc_i; all_goals intro hb)
            | (first | apply ix_nat | apply ix_int | apply sd_nat | apply sd_int | apply sl_nat | apply sl_int); first | omega | (simp only [List.length_cons, List.length_nil, List.length_drop, List.length_take] at *; omega)
            | (apply bx_i; intro hbd) | (apply gt_i; assumption; exact rfl)
            | (apply cx_is; first | fail) | (apply ab_i; intro bl)
            | (apply rt_is; exact rfl) | (apply rt_do; exact rfl; (repeat (first | exact List.nil_sublist _ | apply List.Sublist.cons_cons)))
            | (exact True.intro) | (apply bc_i; intro C hC) | (apply bt_i) | (apply og_n) | (apply og_a; exact rfl))
        all_goals (try conv => whnf)
        refine dw_p mixed hC hGL false (fun (_ : Nat × Nat) => [(0, .own 0 (.slice (some ⟨br, 0, none⟩) 6 vc)), (3, .own 2 (pv bl 0)), (12, .int .i64 0)]) (fun y => [decR br vc, e1, .cells bl (some 81) (genC (.own 3 (.slice (some ⟨bt, 0, none⟩) 3 3)) 3 mapD), .row (.slice (some ⟨bt, 0, none⟩) 3 3) (some 76) 1 3 [.raw (.pointer none), .own 4 (pv y.1 0), .raw (.pointer none)], .cells y.1 (some 79) [.str [], .int .i64 0, .str [94], .own 5 (pv y.2 0), .raw (.slice none 0 0)], .cells y.2 (some 79) [.str [94], .int .i64 6, .str [], .raw (.pointer none), .raw (.slice none 0 0)]]) (.take 0 (.take 1 (.take 2 (.take 3 (.take 4 (.take 5 (.take 7 (.take 8 (.take 9 (.take 10 (.take 12 (.take 13 (.take 14 (.take 15 (.take 16 (.br 6 (.br 11 (.br 17 (.done) (.nil)) (.nil)) (.br 11 (.br 6 (.br 17 (.done) (.nil)) (.nil)) (.nil)))))))))))))))))) (by kernel_rfl) ?_ ?_
        · repeat' (first
            | (conv => whnf); first
              | (apply ch_l; apply sp_i; first | exact rfl | omega | exact ⟨rfl, by omega⟩ | exact ⟨rfl, by omega, by omega, by omega⟩ | exact ⟨⟨_, rfl⟩, by omega⟩ | assumption | (simp; omega))
              | (apply sp_i; first | exact rfl | omega | exact ⟨rfl, rfl, by omega⟩ | exact ⟨rfl, by omega⟩ | exact ⟨rfl, by omega, by omega, by omega⟩ | exact ⟨⟨_, rfl⟩, by omega⟩ | assumption | (simp; omega))
              | (apply sc_true) | (apply sc_false)
              | (first | apply sc_lt | apply sc_nlt | apply sc_eq | apply sc_neq | apply sc_nil | apply sc_nnil); all_goals (intro hb; try (first | (exfalso; omega) | exact absurd rfl hb | exact absurd hb (by decide) | exact absurd (by assumption) hb | (exfalso; simp only [List.length_cons, List.length_nil] at hb; omega)))
              | (apply sc_not) | (apply sc_i; all_goals intro hb)
              | (first | apply ix_nat | apply ix_int | apply sd_nat | apply sd_int | apply sl_nat | apply sl_int); first | omega | (simp only [List.length_cons, List.length_nil, List.length_drop, List.length_take] at *; omega)
              | (apply bx_i; intro hbd) | (apply gt_i; assumption; exact rfl)
              | (apply cx_is; first | fail) | (apply ab_i; intro bl)
              | (apply rt_is; exact rfl) | (apply rt_do; exact rfl; (repeat (first | exact List.nil_sublist _ | apply List.Sublist.cons_cons)))
              | (exact True.intro) | (apply bc_i; intro C hC) | (apply bt_i) | (apply og_n) | (apply og_a; exact rfl))
          all_goals (try conv => whnf)
          · refine ⟨_, root_1 bl bt _ _, ?_, ?_⟩
            · rintro v H ⟨n1, n2, e, rfl⟩
              cases e
              repeat' (first
                | (conv => whnf); first
                  | (apply ch_l; apply sp_i; first | exact rfl | omega | exact ⟨rfl, by omega⟩ | exact ⟨rfl, by omega, by omega, by omega⟩ | exact ⟨⟨_, rfl⟩, by omega⟩ | assumption | (simp; omega))
                  | (apply sp_i; first | exact rfl | omega | exact ⟨rfl, rfl, by omega⟩ | exact ⟨rfl, by omega⟩ | exact ⟨rfl, by omega, by omega, by omega⟩ | exact ⟨⟨_, rfl⟩, by omega⟩ | assumption | (simp; omega))
                  | (apply sc_true) | (apply sc_false)
                  | (first | apply sc_lt | apply sc_nlt | apply sc_eq | apply sc_neq | apply sc_nil | apply sc_nnil); all_goals (intro hb; try (first | (exfalso; omega) | exact absurd rfl hb | exact absurd hb (by decide) | exact absurd (by assumption) hb | (exfalso; simp only [List.length_cons, List.length_nil] at hb; omega)))
                  | (apply sc_not) | (apply sc_i; all_goals intro hb)
                  | (first | apply ix_nat | apply ix_int | apply sd_nat | apply sd_int | apply sl_nat | apply sl_int); first | omega | (simp only [List.length_cons, List.length_nil, List.length_drop, List.length_take] at *; omega)
                  | (apply bx_i; intro hbd) | (apply gt_i; assumption; exact rfl)
                  | (apply cx_is; first | fail) | (apply ab_i; intro bl)
                  | (apply rt_is; exact rfl) | (apply rt_do; exact rfl; (repeat (first | exact List.nil_sublist _ | apply List.Sublist.cons_cons)))
                  | (exact True.intro) | (apply bc_i; intro C hC) | (apply bt_i) | (apply og_n) | (apply og_a; exact rfl))
              all_goals (try conv => whnf)
              exact ⟨(n1, n2), ⟨rfl, rfl, rfl, trivial⟩, rfl⟩
            · rintro v H ⟨n1, n2, e, rfl⟩
              cases e
          · refine ⟨_, root_1 bl bt _ _, ?_, ?_⟩
            · rintro v H ⟨n1, n2, e, rfl⟩
              cases e
              repeat' (first
                | (conv => whnf); first
                  | (apply ch_l; apply sp_i; first | exact rfl | omega | exact ⟨rfl, by omega⟩ | exact ⟨rfl, by omega, by omega, by omega⟩ | exact ⟨⟨_, rfl⟩, by omega⟩ | assumption | (simp; omega))
                  | (apply sp_i; first | exact rfl | omega | exact ⟨rfl, rfl, by omega⟩ | exact ⟨rfl, by omega⟩ | exact ⟨rfl, by omega, by omega, by omega⟩ | exact ⟨⟨_, rfl⟩, by omega⟩ | assumption | (simp; omega))
                  | (apply sc_true) | (apply sc_false)
                  | (first | apply sc_lt | apply sc_nlt | apply sc_eq | apply sc_neq | apply sc_nil | apply sc_nnil); all_goals (intro hb; try (first | (exfalso; omega) | exact absurd rfl hb | exact absurd hb (by decide) | exact absurd (by assumption) hb | (exfalso; simp only [List.length_cons, List.length_nil] at hb; omega)))
                  | (apply sc_not) | (apply sc_i; all_goals intro hb)
                  | (first | apply ix_nat | apply ix_int | apply sd_nat | apply sd_int | apply sl_nat | apply sl_int); first | omega | (simp only [List.length_cons, List.length_nil, List.length_drop, List.length_take] at *; omega)
                  | (apply bx_i; intro hbd) | (apply gt_i; assumption; exact rfl)
                  | (apply cx_is; first | fail) | (apply ab_i; intro bl)
                  | (apply rt_is; exact rfl) | (apply rt_do; exact rfl; (repeat (first | exact List.nil_sublist _ | apply List.Sublist.cons_cons)))
                  | (exact True.intro) | (apply bc_i; intro C hC) | (apply bt_i) | (apply og_n) | (apply og_a; exact rfl))
              all_goals (try conv => whnf)
              exact ⟨(n1, n2), ⟨rfl, rfl, rfl, trivial⟩, rfl⟩
            · rintro v H ⟨n1, n2, e, rfl⟩
              cases e
        intro y
        repeat' (first
          | (conv => whnf); first
            | (apply ch_l; apply sp_i; first | exact rfl | omega | exact ⟨rfl, by omega⟩ | exact ⟨rfl, by omega, by omega, by omega⟩ | exact ⟨⟨_, rfl⟩, by omega⟩ | assumption | (simp; omega))
            | (apply sp_i; first | exact rfl | omega | exact ⟨rfl, rfl, by omega⟩ | exact ⟨rfl, by omega⟩ | exact ⟨rfl, by omega, by omega, by omega⟩ | exact ⟨⟨_, rfl⟩, by omega⟩ | assumption | (simp; omega))
            | (apply sc_true) | (apply sc_false)
            | (first | apply sc_lt | apply sc_nlt | apply sc_eq | apply sc_neq | apply sc_nil | apply sc_nnil); all_goals (intro hb; try (first | (exfalso; omega) | exact absurd rfl hb | exact absurd hb (by decide) | exact absurd (by assumption) hb | (exfalso; simp only [List.length_cons, List.length_nil] at hb; omega)))
            | (apply sc_not) | (apply sc_i; all_goals intro hb)
            | (first | apply ix_nat | apply ix_int | apply sd_nat | apply sd_int | apply sl_nat | apply sl_int); first | omega | (simp only [List.length_cons, List.length_nil, List.length_drop, List.length_take] at *; omega)
            | (apply bx_i; intro hbd) | (apply gt_i; assumption; exact rfl)
            | (apply cx_is; first | fail) | (apply ab_i; intro bl)
            | (apply rt_is; exact rfl) | (apply rt_do; exact rfl; (repeat (first | exact List.nil_sublist _ | apply List.Sublist.cons_cons)))
            | (exact True.intro) | (apply bc_i; intro C hC) | (apply bt_i) | (apply og_n) | (apply og_a; exact rfl))
        all_goals (try conv => whnf)
        refine dw_p mixed hC hGL false (fun (_ : Nat × Nat) => [(0, .own 0 (.slice (some ⟨br, 0, none⟩) 6 vc)), (3, .own 2 (pv bl 0)), (12, .int .i64 2)]) (fun z => [decR br vc, e1, .cells bl (some 81) (genC (.own 3 (.slice (some ⟨bt, 0, none⟩) 3 3)) 3 mapD), .row (.slice (some ⟨bt, 0, none⟩) 3 3) (some 76) 1 3 [.raw (.pointer none), .own 4 (pv y.1 0), .raw (.pointer none)], .cells y.1 (some 79) [.str [], .int .i64 0, .str [], .raw (.pointer none), .own 7 (.slice (some ⟨z.2, 0, none⟩) 3 3)], .cells y.2 (some 79) [.str [94], .int .i64 6, .str [], .raw (.pointer none), .raw (.slice none 0 0)], .cells z.1 (some 79) [.str [10], .int .i64 4, .str [], .raw (.pointer none), .raw (.slice none 0 0)], .row (.slice (some ⟨z.2, 0, none⟩) 3 3) (some 76) 1 3 [.raw (.pointer none), .own 5 (pv y.2 0), .own 6 (pv z.1 0)]]) (.take 0 (.take 1 (.take 2 (.take 3 (.take 4 (.take 5 (.take 7 (.take 8 (.take 9 (.take 10 (.take 12 (.take 13 (.take 14 (.take 15 (.take 16 (.br 6 (.br 11 (.br 17 (.done) (.nil)) (.nil)) (.br 11 (.br 6 (.br 17 (.done) (.nil)) (.nil)) (.nil)))))))))))))))))) (by kernel_rfl) ?_ ?_
        · repeat' (first
            | (conv => whnf); first
              | (apply ch_l; apply sp_i; first | exact rfl | omega | exact ⟨rfl, by omega⟩ | exact ⟨rfl, by omega, by omega, by omega⟩ | exact ⟨⟨_, rfl⟩, by omega⟩ | assumption | (simp; omega))
              | (apply sp_i; first | exact rfl | omega | exact ⟨rfl, rfl, by omega⟩ | exact ⟨rfl, by omega⟩ | exact ⟨rfl, by omega, by omega, by omega⟩ | exact ⟨⟨_, rfl⟩, by omega⟩ | assumption | (simp; omega))
              | (apply sc_true) | (apply sc_false)
              | (first | apply sc_lt | apply sc_nlt | apply sc_eq | apply sc_neq | apply sc_nil | apply sc_nnil); all_goals (intro hb; try (first | (exfalso; omega) | exact absurd rfl hb | exact absurd hb (by decide) | exact absurd (by assumption) hb | (exfalso; simp only [List.length_cons, List.length_nil] at hb; omega)))
              | (apply sc_not) | (apply sc_i; all_goals intro hb)
              | (first | apply ix_nat | apply ix_int | apply sd_nat | apply sd_int | apply sl_nat | apply sl_int); first | omega | (simp only [List.length_cons, List.length_nil, List.length_drop, List.length_take] at *; omega)
              | (apply bx_i; intro hbd) | (apply gt_i; assumption; exact rfl)
              | (apply cx_is; first | fail) | (apply ab_i; intro bl)
              | (apply rt_is; exact rfl) | (apply rt_do; exact rfl; (repeat (first | exact List.nil_sublist _ | apply List.Sublist.cons_cons)))
              | (exact True.intro) | (apply bc_i; intro C hC) | (apply bt_i) | (apply og_n) | (apply og_a; exact rfl))
          all_goals (try conv => whnf)
          · refine ⟨_, root_2 bl bt y.1 y.2 _ _, ?_, ?_⟩
            · rintro v H ⟨n3, b7, e, rfl⟩
              cases e
              repeat' (first
                | (conv => whnf); first
                  | (apply ch_l; apply sp_i; first | exact rfl | omega | exact ⟨rfl, by omega⟩ | exact ⟨rfl, by omega, by omega, by omega⟩ | exact ⟨⟨_, rfl⟩, by omega⟩ | assumption | (simp; omega))
                  | (apply sp_i; first | exact rfl | omega | exact ⟨rfl, rfl, by omega⟩ | exact ⟨rfl, by omega⟩ | exact ⟨rfl, by omega, by omega, by omega⟩ | exact ⟨⟨_, rfl⟩, by omega⟩ | assumption | (simp; omega))
                  | (apply sc_true) | (apply sc_false)
                  | (first | apply sc_lt | apply sc_nlt | apply sc_eq | apply sc_neq | apply sc_nil | apply sc_nnil); all_goals (intro hb; try (first | (exfalso; omega) | exact absurd rfl hb | exact absurd hb (by decide) | exact absurd (by assumption) hb | (exfalso; simp only [List.length_cons, List.length_nil] at hb; omega)))
                  | (apply sc_not) | (apply sc_i; all_goals intro hb)
                  | (first | apply ix_nat | apply ix_int | apply sd_nat | apply sd_int | apply sl_nat | apply sl_int); first | omega | (simp only [List.length_cons, List.length_nil, List.length_drop, List.length_take] at *; omega)
                  | (apply bx_i; intro hbd) | (apply gt_i; assumption; exact rfl)
                  | (apply cx_is; first | fail) | (apply ab_i; intro bl)
                  | (apply rt_is; exact rfl) | (apply rt_do; exact rfl; (repeat (first | exact List.nil_sublist _ | apply List.Sublist.cons_cons)))
                  | (exact True.intro) | (apply bc_i; intro C hC) | (apply bt_i) | (apply og_n) | (apply og_a; exact rfl))
              all_goals (try conv => whnf)
              exact ⟨(n3, b7), ⟨rfl, rfl, rfl, trivial⟩, rfl⟩
            · rintro v H ⟨n3, b7, e, rfl⟩
              cases e
          · refine ⟨_, root_2 bl bt y.1 y.2 _ _, ?_, ?_⟩
            · rintro v H ⟨n3, b7, e, rfl⟩
              cases e
              repeat' (first
                | (conv => whnf); first
                  | (apply ch_l; apply sp_i; first | exact rfl | omega | exact ⟨rfl, by omega⟩ | exact ⟨rfl, by omega, by omega, by omega⟩ | exact ⟨⟨_, rfl⟩, by omega⟩ | assumption | (simp; omega))
                  | (apply sp_i; first | exact rfl | omega | exact ⟨rfl, rfl, by omega⟩ | exact ⟨rfl, by omega⟩ | exact ⟨rfl, by omega, by omega, by omega⟩ | exact ⟨⟨_, rfl⟩, by omega⟩ | assumption | (simp; omega))
                  | (apply sc_true) | (apply sc_false)
                  | (first | apply sc_lt | apply sc_nlt | apply sc_eq | apply sc_neq | apply sc_nil | apply sc_nnil); all_goals (intro hb; try (first | (exfalso; omega) | exact absurd rfl hb | exact absurd hb (by decide) | exact absurd (by assumption) hb | (exfalso; simp only [List.length_cons, List.length_nil] at hb; omega)))
                  | (apply sc_not) | (apply sc_i; all_goals intro hb)
                  | (first | apply ix_nat | apply ix_int | apply sd_nat | apply sd_int | apply sl_nat | apply sl_int); first | omega | (simp only [List.length_cons, List.length_nil, List.length_drop, List.length_take] at *; omega)
                  | (apply bx_i; intro hbd) | (apply gt_i; assumption; exact rfl)
                  | (apply cx_is; first | fail) | (apply ab_i; intro bl)
                  | (apply rt_is; exact rfl) | (apply rt_do; exact rfl; (repeat (first | exact List.nil_sublist _ | apply List.Sublist.cons_cons)))
                  | (exact True.intro) | (apply bc_i; intro C hC) | (apply bt_i) | (apply og_n) | (apply og_a; exact rfl))
              all_goals (try conv => whnf)
              exact ⟨(n3, b7), ⟨rfl, rfl, rfl, trivial⟩, rfl⟩
            · rintro v H ⟨n3, b7, e, rfl⟩
              cases e
        intro z
        repeat' (first
          | (conv => whnf); first
            | (apply ch_l; apply sp_i; first | exact rfl | omega | exact ⟨rfl, by omega⟩ | exact ⟨rfl, by omega, by omega, by omega⟩ | exact ⟨⟨_, rfl⟩, by omega⟩ | assumption | (simp; omega))
            | (apply sp_i; first | exact rfl | omega | exact ⟨rfl, rfl, by omega⟩ | exact ⟨rfl, by omega⟩ | exact ⟨rfl, by omega, by omega, by omega⟩ | exact ⟨⟨_, rfl⟩, by omega⟩ | assumption | (simp; omega))
            | (apply sc_true) | (apply sc_false)
            | (first | apply sc_lt | apply sc_nlt | apply sc_eq | apply sc_neq | apply sc_nil | apply sc_nnil); all_goals (intro hb; try (first | (exfalso; omega) | exact absurd rfl hb | exact absurd hb (by decide) | exact absurd (by assumption) hb | (exfalso; simp only [List.length_cons, List.length_nil] at hb; omega)))
            | (apply sc_not) | (apply sc_i; all_goals intro hb)
            | (first | apply ix_nat | apply ix_int | apply sd_nat | apply sd_int | apply sl_nat | apply sl_int); first | omega | (simp only [List.length_cons, List.length_nil, List.length_drop, List.length_take] at *; omega)
            | (apply bx_i; intro hbd) | (apply gt_i; assumption; exact rfl)
            | (apply cx_is; first | fail) | (apply ab_i; intro bl)
            | (apply rt_is; exact rfl) | (apply rt_do; exact rfl; (repeat (first | exact List.nil_sublist _ | apply List.Sublist.cons_cons)))
            | (exact True.intro) | (apply bc_i; intro C hC) | (apply bt_i) | (apply og_n) | (apply og_a; exact rfl))
        all_goals (try conv => whnf)
        refine dw_p mixed hC hGL false (fun (_ : Nat) => [(0, .own 0 (.slice (some ⟨br, 0, none⟩) 6 vc)), (3, .own 2 (pv bl 0)), (12, .int .i64 4)]) (fun q => [decR br vc, e1, .cells bl (some 81) (genC (.own 3 (.slice (some ⟨bt, 0, none⟩) 3 3)) 3 mapD), .row (.slice (some ⟨bt, 0, none⟩) 3 3) (some 76) 1 3 [.raw (.pointer none), .own 4 (pv y.1 0), .raw (.pointer none)], .cells y.1 (some 79) [.str [], .int .i64 0, .str [], .raw (.pointer none), .own 7 (.slice (some ⟨z.2, 0, none⟩) 3 3)], .cells y.2 (some 79) [.str [94], .int .i64 6, .str [], .raw (.pointer none), .raw (.slice none 0 0)], .cells z.1 (some 79) [.str [10], .int .i64 4, .str [], .raw (.pointer none), .raw (.slice none 0 0)], .row (.slice (some ⟨z.2, 0, none⟩) 3 3) (some 76) 1 3 [.own 8 (pv q 0), .own 5 (pv y.2 0), .own 6 (pv z.1 0)], .cells q (some 79) [.str [34], .int .i64 2, .str [], .raw (.pointer none), .raw (.slice none 0 0)]]) (.take 0 (.take 1 (.take 2 (.take 3 (.take 4 (.take 5 (.take 7 (.take 8 (.take 9 (.take 10 (.take 12 (.take 13 (.take 14 (.take 15 (.take 16 (.br 6 (.br 11 (.br 17 (.done) (.nil)) (.nil)) (.br 11 (.br 6 (.br 17 (.done) (.nil)) (.nil)) (.nil)))))))))))))))))) (by kernel_rfl) ?_ ?_
        · repeat' (first
            | (conv => whnf); first
              | (apply ch_l; apply sp_i; first | exact rfl | omega | exact ⟨rfl, by omega⟩ | exact ⟨rfl, by omega, by omega, by omega⟩ | exact ⟨⟨_, rfl⟩, by omega⟩ | assumption | (simp; omega))
              | (apply sp_i; first | exact rfl | omega | exact ⟨rfl, rfl, by omega⟩ | exact ⟨rfl, by omega⟩ | exact ⟨rfl, by omega, by omega, by omega⟩ | exact ⟨⟨_, rfl⟩, by omega⟩ | assumption | (simp; omega))
              | (apply sc_true) | (apply sc_false)
              | (first | apply sc_lt | apply sc_nlt | apply sc_eq | apply sc_neq | apply sc_nil | apply sc_nnil); all_goals (intro hb; try (first | (exfalso; omega) | exact absurd rfl hb | exact absurd hb (by decide) | exact absurd (by assumption) hb | (exfalso; simp only [List.length_cons, List.length_nil] at hb; omega)))
              | (apply sc_not) | (apply sc_i; all_goals intro hb)
              | (first | apply ix_nat | apply ix_int | apply sd_nat | apply sd_int | apply sl_nat | apply sl_int); first | omega | (simp only [List.length_cons, List.length_nil, List.length_drop, List.length_take] at *; omega)
              | (apply bx_i; intro hbd) | (apply gt_i; assumption; exact rfl)
              | (apply cx_is; first | fail) | (apply ab_i; intro bl)
              | (apply rt_is; exact rfl) | (apply rt_do; exact rfl; (repeat (first | exact List.nil_sublist _ | apply List.Sublist.cons_cons)))
              | (exact True.intro) | (apply bc_i; intro C hC) | (apply bt_i) | (apply og_n) | (apply og_a; exact rfl))
          all_goals (try conv => whnf)
          · refine ⟨_, root_3 bl bt y.1 y.2 z.1 z.2 _ _, ?_, ?_⟩
            · rintro v H ⟨n4, e, rfl⟩
              cases e
              repeat' (first
                | (conv => whnf); first
                  | (apply ch_l; apply sp_i; first | exact rfl | omega | exact ⟨rfl, by omega⟩ | exact ⟨rfl, by omega, by omega, by omega⟩ | exact ⟨⟨_, rfl⟩, by omega⟩ | assumption | (simp; omega))
                  | (apply sp_i; first | exact rfl | omega | exact ⟨rfl, rfl, by omega⟩ | exact ⟨rfl, by omega⟩ | exact ⟨rfl, by omega, by omega, by omega⟩ | exact ⟨⟨_, rfl⟩, by omega⟩ | assumption | (simp; omega))
                  | (apply sc_true) | (apply sc_false)
                  | (first | apply sc_lt | apply sc_nlt | apply sc_eq | apply sc_neq | apply sc_nil | apply sc_nnil); all_goals (intro hb; try (first | (exfalso; omega) | exact absurd rfl hb | exact absurd hb (by decide) | exact absurd (by assumption) hb | (exfalso; simp only [List.length_cons, List.length_nil] at hb; omega)))
                  | (apply sc_not) | (apply sc_i; all_goals intro hb)
                  | (first | apply ix_nat | apply ix_int | apply sd_nat | apply sd_int | apply sl_nat | apply sl_int); first | omega | (simp only [List.length_cons, List.length_nil, List.length_drop, List.length_take] at *; omega)
                  | (apply bx_i; intro hbd) | (apply gt_i; assumption; exact rfl)
                  | (apply cx_is; first | fail) | (apply ab_i; intro bl)
                  | (apply rt_is; exact rfl) | (apply rt_do; exact rfl; (repeat (first | exact List.nil_sublist _ | apply List.Sublist.cons_cons)))
                  | (exact True.intro) | (apply bc_i; intro C hC) | (apply bt_i) | (apply og_n) | (apply og_a; exact rfl))
              all_goals (try conv => whnf)
              exact ⟨n4, ⟨rfl, rfl, rfl, trivial⟩, rfl⟩
            · rintro v H ⟨n4, e, rfl⟩
              cases e
          · refine ⟨_, root_3 bl bt y.1 y.2 z.1 z.2 _ _, ?_, ?_⟩
            · rintro v H ⟨n4, e, rfl⟩
              cases e
              repeat' (first
                | (conv => whnf); first
                  | (apply ch_l; apply sp_i; first | exact rfl | omega | exact ⟨rfl, by omega⟩ | exact ⟨rfl, by omega, by omega, by omega⟩ | exact ⟨⟨_, rfl⟩, by omega⟩ | assumption | (simp; omega))
                  | (apply sp_i; first | exact rfl | omega | exact ⟨rfl, rfl, by omega⟩ | exact ⟨rfl, by omega⟩ | exact ⟨rfl, by omega, by omega, by omega⟩ | exact ⟨⟨_, rfl⟩, by omega⟩ | assumption | (simp; omega))
                  | (apply sc_true) | (apply sc_false)
                  | (first | apply sc_lt | apply sc_nlt | apply sc_eq | apply sc_neq | apply sc_nil | apply sc_nnil); all_goals (intro hb; try (first | (exfalso; omega) | exact absurd rfl hb | exact absurd hb (by decide) | exact absurd (by assumption) hb | (exfalso; simp only [List.length_cons, List.length_nil] at hb; omega)))
                  | (apply sc_not) | (apply sc_i; all_goals intro hb)
                  | (first | apply ix_nat | apply ix_int | apply sd_nat | apply sd_int | apply sl_nat | apply sl_int); first | omega | (simp only [List.length_cons, List.length_nil, List.length_drop, List.length_take] at *; omega)
                  | (apply bx_i; intro hbd) | (apply gt_i; assumption; exact rfl)
                  | (apply cx_is; first | fail) | (apply ab_i; intro bl)
                  | (apply rt_is; exact rfl) | (apply rt_do; exact rfl; (repeat (first | exact List.nil_sublist _ | apply List.Sublist.cons_cons)))
                  | (exact True.intro) | (apply bc_i; intro C hC) | (apply bt_i) | (apply og_n) | (apply og_a; exact rfl))
              all_goals (try conv => whnf)
              exact ⟨n4, ⟨rfl, rfl, rfl, trivial⟩, rfl⟩
            · rintro v H ⟨n4, e, rfl⟩
              cases e
        intro q
        repeat' (first
          | (conv => whnf); first
            | (apply ch_l; apply sp_i; first | exact rfl | omega | exact ⟨rfl, by omega⟩ | exact ⟨rfl, by omega, by omega, by omega⟩ | exact ⟨⟨_, rfl⟩, by omega⟩ | assumption | (simp; omega))
            | (apply sp_i; first | exact rfl | omega | exact ⟨rfl, rfl, by omega⟩ | exact ⟨rfl, by omega⟩ | exact ⟨rfl, by omega, by omega, by omega⟩ | exact ⟨⟨_, rfl⟩, by omega⟩ | assumption | (simp; omega))
            | (apply sc_true) | (apply sc_false)
            | (first | apply sc_lt | apply sc_nlt | apply sc_eq | apply sc_neq | apply sc_nil | apply sc_nnil); all_goals (intro hb; try (first | (exfalso; omega) | exact absurd rfl hb | exact absurd hb (by decide) | exact absurd (by assumption) hb | (exfalso; simp only [List.length_cons, List.length_nil] at hb; omega)))
            | (apply sc_not) | (apply sc_i; all_goals intro hb)
            | (first | apply ix_nat | apply ix_int | apply sd_nat | apply sd_int | apply sl_nat | apply sl_int); first | omega | (simp only [List.length_cons, List.length_nil, List.length_drop, List.length_take] at *; omega)
            | (apply bx_i; intro hbd) | (apply gt_i; assumption; exact rfl)
            | (apply cx_is; first | fail) | (apply ab_i; intro bl)
            | (apply rt_is; exact rfl) | (apply rt_do; exact rfl; (repeat (first | exact List.nil_sublist _ | apply List.Sublist.cons_cons)))
            | (exact True.intro) | (apply bc_i; intro C hC) | (apply bt_i) | (apply og_n) | (apply og_a; exact rfl))
        all_goals (try conv => whnf)
        exact ⟨_, List.Sublist.refl _, bl, bt, y.1, y.2, z.1, z.2, q, rfl, rfl⟩
end Go.Proofs.Ytlmihggafbmkaaa
