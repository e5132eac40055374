/- (*strings.genericReplacer).WriteString. -/
import Derived.Test.YtlmihggafbmkaaaRpx
namespace Go.Proofs.Ytlmihggafbmkaaa
open Go Go.RowKit
theorem take_more {s : List UInt8} {i last : Nat} (h1 : last ≤ i) (h2 : i < s.length) : (s.drop last).take (i + 1 - last) = (s.drop last).take (i - last) ++ (s.drop i).take 1 := by
  rw [show i + 1 - last = (i - last) + 1 by omega, List.take_add, List.drop_drop, show last + (i - last) = i by omega]
theorem lk_cases {s : List UInt8} {i : Nat} (hi : i < s.length) : (∃ e : UInt8, lkP (s.drop i) = ([e], 2, true) ∧ i + 1 < s.length ∧ ((byteAt s (i + 1) = 94 ∧ e = 94) ∨ (byteAt s (i + 1) = 110 ∧ e = 10) ∨ (byteAt s (i + 1) = 39 ∧ e = 34))) ∨
    (lkP (s.drop i) = ([], 0, false) ∧ (s.length ≤ i + 1 ∨ (byteAt s (i + 1) ≠ 94 ∧ byteAt s (i + 1) ≠ 110 ∧ byteAt s (i + 1) ≠ 39))) := by
  have h1 : byteAt (s.drop i) 1 = byteAt s (i + 1) := by simp [byteAt]
  unfold lkP
  rw [h1, List.length_drop]
  by_cases h2 : s.length ≤ i + 1
  · right; exact ⟨by rw [if_pos (by omega)], .inl h2⟩
  · rw [if_neg (by omega)]
    by_cases h3 : byteAt s (i + 1) = 94
    · left; exact ⟨94, by rw [if_pos h3], by omega, .inl ⟨h3, rfl⟩⟩
    · rw [if_neg h3]
      by_cases h4 : byteAt s (i + 1) = 110
      · left; exact ⟨10, by rw [if_pos h4], by omega, .inr (.inl ⟨h4, rfl⟩)⟩
      · rw [if_neg h4]
        by_cases h5 : byteAt s (i + 1) = 39
        · left; exact ⟨34, by rw [if_pos h5], by omega, .inr (.inr ⟨h5, rfl⟩)⟩
        · rw [if_neg h5]
          right; exact ⟨rfl, .inr ⟨h3, h4, h5⟩⟩
theorem byteAt_drop0 {s : List UInt8} {i : Nat} : byteAt (s.drop i) 0 = byteAt s i := by simp [byteAt]
set_option maxRecDepth 20000
set_option maxHeartbeats 4000000
set_option linter.unusedSimpArgs false
set_option linter.unusedVariables false
attribute [local irreducible] AWp AOps SrcOK OrOk GloAll FnSpec
attribute [local irreducible] mapD decS
structure WrX where
  i : Nat
  last : Nat
  va : Option Addr
  vk : Nat
  vc : Nat
  b : List UInt8
abbrev wrI (bg bw : Nat) (s : List UInt8) (x : WrX) : Env := [(0, .own 2 (pv bg 0)), (2, .str s), (6, .int .i64 (x.b.length : Nat)), (7, .raw .nilIface), (8, .iface 127 (.raw (pv bw 0))), (9, .int .i64 (x.last : Nat)), (11, .bool false), (12, .int .i64 (x.i : Nat))]
abbrev wrJ (x0 x1 : HEnt) (y : DecY) (bw : Nat) (x : WrX) : Heap := [x0, x1] ++ y.H ++ [rowR (.slice x.va x.vk x.vc) x.b, wrC bw (.slice x.va x.vk x.vc)]
abbrev wrInv (s : List UInt8) (x : WrX) : Prop := x.i ≤ s.length + 1 ∧ x.last ≤ s.length ∧ x.last ≤ x.i ∧ x.b.length ≤ x.last ∧ x.b ++ (s.drop x.last).take (x.i - x.last) ++ decS (s.drop x.i) = decS s
theorem gr_write {G : Glo} (x0 x1 : HEnt) (y : DecY) (bw : Nat) (va : Option Addr) (vk vc : Nat) (s : List UInt8) (hl : s.length ≤ 1000000) :
    FnSpec Try.prog G 79 [.raw (pv y.bg 0), .iface 127 (.raw (pv bw 0)), .str s] ([x0, x1] ++ y.H ++ [rowR (.slice va vk vc) [], wrC bw (.slice va vk vc)])
      (fun r H => ∃ va vk vc n, r = .ret (.tuple [.int .i64 n, .raw .nilIface]) ∧ H = [x0, x1] ++ y.H ++ [rowR (.slice va vk vc) (decS s), wrC bw (.slice va vk vc)]) := by
  have hGL : GloAll G [] := gloAll_nil
  have e1 := get_sw (G := G) (pv bw 0)
  refine fn_xp 2 Try.func79 Try.call79 rfl rfl rfl rfl hGL rfl ?_
  intro C hC
  repeat' (first
    | (conv => whnf); first
      | (apply ch_l; apply sp_i; first | exact rfl | omega | exact ⟨rfl, by omega⟩ | exact ⟨rfl, by omega, by omega, by omega⟩ | exact ⟨⟨_, rfl⟩, by omega⟩ | assumption | (simp; omega))
      | (apply sp_i; first | exact rfl | omega | exact ⟨rfl, rfl, by omega⟩ | exact ⟨rfl, by omega⟩ | exact ⟨rfl, by omega, by omega, by omega⟩ | exact ⟨⟨_, rfl⟩, by omega⟩ | assumption | (simp; omega))
      | (apply sc_true) | (apply sc_false)
      | (first | apply sc_lt | apply sc_nlt | apply sc_eq | apply sc_neq | apply sc_nil | apply sc_nnil); all_goals (intro hb; try (first | (exfalso; omega) | exact absurd rfl hb | exact absurd hb (by decide) | exact absurd (by assumption) hb | (exfalso; simp only [List.length_cons, List.length_nil] at hb; omega)))
      | (apply sc_not) | (apply sc_i; all_goals intro hb)
      | (first | apply ix_nat | apply ix_int | apply sd_nat | apply sd_int | apply sl_nat | apply sl_int); first | omega | (simp only [List.length_cons, List.length_nil, List.length_drop, List.length_take] at *; omega)
      | (apply bx_i; intro hbd) | (apply gt_i; assumption; exact rfl)
      | (apply cx_is; first | exact e1) | (apply ab_i; intro bl)
      | (apply rt_is; exact rfl) | (apply rt_do; exact rfl; (repeat (first | exact List.nil_sublist _ | apply List.Sublist.cons_cons)))
      | (exact True.intro) | (apply bc_i; intro C hC) | (apply bt_i) | (apply og_n) | (apply og_a; exact rfl))
  all_goals (try conv => whnf)
  refine lp hC hGL (wrI y.bg bw s) (wrJ x0 x1 y bw) (wrInv s) (fun x => s.length + 1 - x.i) (WrX.mk 0 0 va vk vc []) ?_ (by repeat (first | exact trivial | refine And.intro rfl ?_)) rfl ?_
  · refine ⟨Nat.zero_le _, Nat.zero_le _, Nat.le_refl _, Nat.le_refl _, ?_⟩
    simp
  · rintro ⟨i, last, va, vk, vc, b⟩ ⟨h1, h2, h3, h4, h5⟩
    have h1 : i ≤ s.length + 1 := h1
    have h2 : last ≤ s.length := h2
    have h3 : last ≤ i := h3
    have h4 : b.length ≤ last := h4
    have h5 : b ++ (s.drop last).take (i - last) ++ decS (s.drop i) = decS s := h5
    rcases (show i < s.length ∨ i = s.length ∨ i = s.length + 1 by omega) with hi | rfl | rfl
    · have g0 := byteAt_lt s i
      have q3 : RowAt (.slice (some ⟨y.bt, 0, none⟩) 3 3) y.bt 3 := ⟨_, rfl⟩
      rcases (show byteAt s i = 94 ∨ byteAt s i = 110 ∨ byteAt s i = 39 ∨ (byteAt s i ≠ 94 ∧ byteAt s i ≠ 110 ∧ byteAt s i ≠ 39) by omega) with hk | hk | hk | ⟨k1, k2, k3⟩
      · have g := genD_get (i := byteAt s i) (t := .own 3 (.slice (some ⟨y.bt, 0, none⟩) 3 3)) (v := 1) g0 (by rw [hk]; rfl)
        repeat' (first
          | (conv => whnf); first
            | (apply ch_l; apply sp_i; first | exact rfl | omega | exact ⟨rfl, by omega⟩ | exact ⟨rfl, by omega, by omega, by omega⟩ | exact ⟨⟨_, rfl⟩, by omega⟩ | assumption | (simp; omega))
            | (apply sp_i; first | exact rfl | omega | exact ⟨rfl, rfl, by omega⟩ | exact ⟨rfl, by omega⟩ | exact ⟨rfl, by omega, by omega, by omega⟩ | exact ⟨⟨_, rfl⟩, by omega⟩ | assumption | (simp; omega))
            | (apply sc_true) | (apply sc_false)
            | (first | apply sc_lt | apply sc_nlt | apply sc_eq | apply sc_neq | apply sc_nil | apply sc_nnil); all_goals (intro hb; try (first | (exfalso; omega) | exact absurd rfl hb | exact absurd hb (by decide) | exact absurd (by assumption) hb | (exfalso; simp only [List.length_cons, List.length_nil] at hb; omega)))
            | (apply sc_not) | (apply sc_i; all_goals intro hb)
            | (first | apply ix_nat | apply ix_int | apply sd_nat | apply sd_int | apply sl_nat | apply sl_int); first | omega | (simp only [List.length_cons, List.length_nil, List.length_drop, List.length_take] at *; omega)
            | (apply bx_i; intro hbd) | (apply gt_i; assumption; exact rfl)
            | (apply cx_is; first | fail) | (apply ab_i; intro bl)
            | (apply rt_is; exact rfl) | (apply rt_do; exact rfl; (repeat (first | exact List.nil_sublist _ | apply List.Sublist.cons_cons)))
            | (exact True.intro) | (apply bc_i; intro C hC) | (apply bt_i) | (apply og_n) | (apply og_a; exact rfl))
        all_goals (try conv => whnf)
        refine dw_p mixed hC hGL true (fun (_ : Unit) => wrI y.bg bw s ⟨i, last, va, vk, vc, b⟩ ++ [(13, .int .i64 1)]) (fun _ => wrJ x0 x1 y bw ⟨i, last, va, vk, vc, b⟩) (.take 0 (.take 1 (.take 2 (.take 3 (.take 4 (.take 5 (.take 6 (.take 7 (.take 8 (.take 9 (.done))))))))))) (by kernel_rfl) ?_ ?_
        · repeat' (first
            | (conv => whnf); first
              | (apply ch_l; apply sp_i; first | exact rfl | omega | exact ⟨rfl, by omega⟩ | exact ⟨rfl, by omega, by omega, by omega⟩ | exact ⟨⟨_, rfl⟩, by omega⟩ | assumption | (simp; omega))
              | (apply sp_i; first | exact rfl | omega | exact ⟨rfl, rfl, by omega⟩ | exact ⟨rfl, by omega⟩ | exact ⟨rfl, by omega, by omega, by omega⟩ | exact ⟨⟨_, rfl⟩, by omega⟩ | assumption | (simp; omega))
              | (apply sc_true) | (apply sc_false)
              | (first | apply sc_lt | apply sc_nlt | apply sc_eq | apply sc_neq | apply sc_nil | apply sc_nnil); all_goals (intro hb; try (first | (exfalso; omega) | exact absurd rfl hb | exact absurd hb (by decide) | exact absurd (by assumption) hb | (exfalso; simp only [List.length_cons, List.length_nil] at hb; omega)))
              | (apply sc_not) | (apply sc_i; all_goals intro hb)
              | (first | apply ix_nat | apply ix_int | apply sd_nat | apply sd_int | apply sl_nat | apply sl_int); first | omega | (simp only [List.length_cons, List.length_nil, List.length_drop, List.length_take] at *; omega)
              | (apply bx_i; intro hbd) | (apply gt_i; assumption; exact rfl)
              | (apply cx_is; first | fail) | (apply ab_i; intro bl)
              | (apply rt_is; exact rfl) | (apply rt_do; exact rfl; (repeat (first | exact List.nil_sublist _ | apply List.Sublist.cons_cons)))
              | (exact True.intro) | (apply bc_i; intro C hC) | (apply bt_i) | (apply og_n) | (apply og_a; exact rfl))
          all_goals (try conv => whnf)
          erw [← g]
          repeat' (first
            | (conv => whnf); first
              | (apply ch_l; apply sp_i; first | exact rfl | omega | exact ⟨rfl, by omega⟩ | exact ⟨rfl, by omega, by omega, by omega⟩ | exact ⟨⟨_, rfl⟩, by omega⟩ | assumption | (simp; omega))
              | (apply sp_i; first | exact rfl | omega | exact ⟨rfl, rfl, by omega⟩ | exact ⟨rfl, by omega⟩ | exact ⟨rfl, by omega, by omega, by omega⟩ | exact ⟨⟨_, rfl⟩, by omega⟩ | assumption | (simp; omega))
              | (apply sc_true) | (apply sc_false)
              | (first | apply sc_lt | apply sc_nlt | apply sc_eq | apply sc_neq | apply sc_nil | apply sc_nnil); all_goals (intro hb; try (first | (exfalso; omega) | exact absurd rfl hb | exact absurd hb (by decide) | exact absurd (by assumption) hb | (exfalso; simp only [List.length_cons, List.length_nil] at hb; omega)))
              | (apply sc_not) | (apply sc_i; all_goals intro hb)
              | (first | apply ix_nat | apply ix_int | apply sd_nat | apply sd_int | apply sl_nat | apply sl_int); first | omega | (simp only [List.length_cons, List.length_nil, List.length_drop, List.length_take] at *; omega)
              | (apply bx_i; intro hbd) | (apply gt_i; assumption; exact rfl)
              | (apply cx_is; first | fail) | (apply ab_i; intro bl)
              | (apply rt_is; exact rfl) | (apply rt_do; exact rfl; (repeat (first | exact List.nil_sublist _ | apply List.Sublist.cons_cons)))
              | (exact True.intro) | (apply bc_i; intro C hC) | (apply bt_i) | (apply og_n) | (apply og_a; exact rfl))
          all_goals (try conv => whnf)
          exact ⟨(), ⟨rfl, rfl, rfl, rfl, rfl, rfl, rfl, rfl, rfl, trivial⟩, rfl⟩
        intro _
        repeat' (first
          | (conv => whnf); first
            | (apply ch_l; apply sp_i; first | exact rfl | omega | exact ⟨rfl, by omega⟩ | exact ⟨rfl, by omega, by omega, by omega⟩ | exact ⟨⟨_, rfl⟩, by omega⟩ | assumption | (simp; omega))
            | (apply sp_i; first | exact rfl | omega | exact ⟨rfl, rfl, by omega⟩ | exact ⟨rfl, by omega⟩ | exact ⟨rfl, by omega, by omega, by omega⟩ | exact ⟨⟨_, rfl⟩, by omega⟩ | assumption | (simp; omega))
            | (apply sc_true) | (apply sc_false)
            | (first | apply sc_lt | apply sc_nlt | apply sc_eq | apply sc_neq | apply sc_nil | apply sc_nnil); all_goals (intro hb; try (first | (exfalso; omega) | exact absurd rfl hb | exact absurd hb (by decide) | exact absurd (by assumption) hb | (exfalso; simp only [List.length_cons, List.length_nil] at hb; omega)))
            | (apply sc_not) | (apply sc_i; all_goals intro hb)
            | (first | apply ix_nat | apply ix_int | apply sd_nat | apply sd_int | apply sl_nat | apply sl_int); first | omega | (simp only [List.length_cons, List.length_nil, List.length_drop, List.length_take] at *; omega)
            | (apply bx_i; intro hbd) | (apply gt_i; assumption; exact rfl)
            | (apply cx_is; first | fail) | (apply ab_i; intro bl)
            | (apply rt_is; exact rfl) | (apply rt_do; exact rfl; (repeat (first | exact List.nil_sublist _ | apply List.Sublist.cons_cons)))
            | (exact True.intro) | (apply bc_i; intro C hC) | (apply bt_i) | (apply og_n) | (apply og_a; exact rfl))
        all_goals (try conv => whnf)
        refine gt_i rfl rfl ?_
        repeat' (first
          | (conv => whnf); first
            | (apply ch_l; apply sp_i; first | exact rfl | omega | exact ⟨rfl, by omega⟩ | exact ⟨rfl, by omega, by omega, by omega⟩ | exact ⟨⟨_, rfl⟩, by omega⟩ | assumption | (simp; omega))
            | (apply sp_i; first | exact rfl | omega | exact ⟨rfl, rfl, by omega⟩ | exact ⟨rfl, by omega⟩ | exact ⟨rfl, by omega, by omega, by omega⟩ | exact ⟨⟨_, rfl⟩, by omega⟩ | assumption | (simp; omega))
            | (apply sc_true) | (apply sc_false)
            | (first | apply sc_lt | apply sc_nlt | apply sc_eq | apply sc_neq | apply sc_nil | apply sc_nnil); all_goals (intro hb; try (first | (exfalso; omega) | exact absurd rfl hb | exact absurd hb (by decide) | exact absurd (by assumption) hb | (exfalso; simp only [List.length_cons, List.length_nil] at hb; omega)))
            | (apply sc_not) | (apply sc_i; all_goals intro hb)
            | (first | apply ix_nat | apply ix_int | apply sd_nat | apply sd_int | apply sl_nat | apply sl_int); first | omega | (simp only [List.length_cons, List.length_nil, List.length_drop, List.length_take] at *; omega)
            | (apply bx_i; intro hbd) | (apply gt_i; assumption; exact rfl)
            | (apply cx_is; first | fail) | (apply ab_i; intro bl)
            | (apply rt_is; exact rfl) | (apply rt_do; exact rfl; (repeat (first | exact List.nil_sublist _ | apply List.Sublist.cons_cons)))
            | (exact True.intro) | (apply bc_i; intro C hC) | (apply bt_i) | (apply og_n) | (apply og_a; exact rfl))
        all_goals (try conv => whnf)
        have e2 := lookup_dec (G := G) x0 x1 y (s.drop i) (by rw [List.length_drop]; omega) (.inr (byteAt_drop0.trans hk))
        rcases lk_cases hi with ⟨e, ek, hi2, he⟩ | ⟨ek, hn⟩
        · rw [ek] at e2
          refine ⟨_, fn_frame [_, _] e2, ?_, ?_⟩
          · rintro v H ⟨H1, ⟨e, rfl⟩, rfl⟩
            cases e
            repeat' (first
              | (conv => whnf); first
                | (apply ch_l; apply sp_i; first | exact rfl | omega | exact ⟨rfl, by omega⟩ | exact ⟨rfl, by omega, by omega, by omega⟩ | exact ⟨⟨_, rfl⟩, by omega⟩ | assumption | (simp; omega))
                | (apply sp_i; first | exact rfl | omega | exact ⟨rfl, rfl, by omega⟩ | exact ⟨rfl, by omega⟩ | exact ⟨rfl, by omega, by omega, by omega⟩ | exact ⟨⟨_, rfl⟩, by omega⟩ | assumption | (simp; omega))
                | (apply sc_true) | (apply sc_false)
                | (first | apply sc_lt | apply sc_nlt | apply sc_eq | apply sc_neq | apply sc_nil | apply sc_nnil); all_goals (intro hb; try (first | (exfalso; omega) | exact absurd rfl hb | exact absurd hb (by decide) | exact absurd (by assumption) hb | (exfalso; simp only [List.length_cons, List.length_nil] at hb; omega)))
                | (apply sc_not) | (apply sc_i; all_goals intro hb)
                | (first | apply ix_nat | apply ix_int | apply sd_nat | apply sd_int | apply sl_nat | apply sl_int); first | omega | (simp only [List.length_cons, List.length_nil, List.length_drop, List.length_take] at *; omega)
                | (apply bx_i; intro hbd) | (apply gt_i; assumption; exact rfl)
                | (apply cx_is; first | fail) | (apply ab_i; intro bl)
                | (apply rt_is; exact rfl) | (apply rt_do; exact rfl; (repeat (first | exact List.nil_sublist _ | apply List.Sublist.cons_cons)))
                | (exact True.intro) | (apply bc_i; intro C hC) | (apply bt_i) | (apply og_n) | (apply og_a; exact rfl))
            all_goals (try conv => whnf)
            have w1 : ((s.take i).drop last).length = i - last := by rw [List.length_drop, List.length_take, Nat.min_eq_left (by omega)]
            refine dw_p mixed hC hGL false (fun (_ : Option Addr × Nat × Nat) => [(0, .own 2 (pv y.bg 0)), (2, .str s), (6, .int .i64 (b.length : Nat)), (7, .raw .nilIface), (8, .iface 127 (.raw (pv bw 0))), (9, .int .i64 (last : Nat)), (10, .int .i64 (((s.take i).drop last).length : Nat)), (11, .bool (eqB 2 0)), (12, .int .i64 (i : Nat)), (14, .str [e]), (15, .int .i64 2)]) (fun z => [x0, x1] ++ y.H ++ [rowR (.slice z.1 z.2.1 z.2.2) (b ++ (s.take i).drop last), wrC bw (.slice z.1 z.2.1 z.2.2)]) (.take 0 (.take 1 (.take 2 (.take 3 (.take 4 (.br 5 (.br 6 (.take 7 (.br 8 (.take 9 (.take 10 (.take 11 (.take 12 (.take 13 (.done)))))) (.nil))) (.nil)) (.nil))))))) (by kernel_rfl) ?_ ?_
            · repeat' (first
                | (conv => whnf); first
                  | (apply ch_l; apply sp_i; first | exact rfl | omega | exact ⟨rfl, by omega⟩ | exact ⟨rfl, by omega, by omega, by omega⟩ | exact ⟨⟨_, rfl⟩, by omega⟩ | assumption | (simp; omega))
                  | (apply sp_i; first | exact rfl | omega | exact ⟨rfl, rfl, by omega⟩ | exact ⟨rfl, by omega⟩ | exact ⟨rfl, by omega, by omega, by omega⟩ | exact ⟨⟨_, rfl⟩, by omega⟩ | assumption | (simp; omega))
                  | (apply sc_true) | (apply sc_false)
                  | (first | apply sc_lt | apply sc_nlt | apply sc_eq | apply sc_neq | apply sc_nil | apply sc_nnil); all_goals (intro hb; try (first | (exfalso; omega) | exact absurd rfl hb | exact absurd hb (by decide) | exact absurd (by assumption) hb | (exfalso; simp only [List.length_cons, List.length_nil] at hb; omega)))
                  | (apply sc_not) | (apply sc_i; all_goals intro hb)
                  | (first | apply ix_nat | apply ix_int | apply sd_nat | apply sd_int | apply sl_nat | apply sl_int); first | omega | (simp only [List.length_cons, List.length_nil, List.length_drop, List.length_take] at *; omega)
                  | (apply bx_i; intro hbd) | (apply gt_i; assumption; exact rfl)
                  | (apply cx_is; first | fail) | (apply ab_i; intro bl)
                  | (apply rt_is; exact rfl) | (apply rt_do; exact rfl; (repeat (first | exact List.nil_sublist _ | apply List.Sublist.cons_cons)))
                  | (exact True.intro) | (apply bc_i; intro C hC) | (apply bt_i) | (apply og_n) | (apply og_a; exact rfl))
              all_goals (try conv => whnf)
              refine op1_run hC hGL (rv_nilCheck_meth rfl (n_asw bw)) rfl rfl ?_
              repeat' (first
                | (conv => whnf); first
                  | (apply ch_l; apply sp_i; first | exact rfl | omega | exact ⟨rfl, by omega⟩ | exact ⟨rfl, by omega, by omega, by omega⟩ | exact ⟨⟨_, rfl⟩, by omega⟩ | assumption | (simp; omega))
                  | (apply sp_i; first | exact rfl | omega | exact ⟨rfl, rfl, by omega⟩ | exact ⟨rfl, by omega⟩ | exact ⟨rfl, by omega, by omega, by omega⟩ | exact ⟨⟨_, rfl⟩, by omega⟩ | assumption | (simp; omega))
                  | (apply sc_true) | (apply sc_false)
                  | (first | apply sc_lt | apply sc_nlt | apply sc_eq | apply sc_neq | apply sc_nil | apply sc_nnil); all_goals (intro hb; try (first | (exfalso; omega) | exact absurd rfl hb | exact absurd hb (by decide) | exact absurd (by assumption) hb | (exfalso; simp only [List.length_cons, List.length_nil] at hb; omega)))
                  | (apply sc_not) | (apply sc_i; all_goals intro hb)
                  | (first | apply ix_nat | apply ix_int | apply sd_nat | apply sd_int | apply sl_nat | apply sl_int); first | omega | (simp only [List.length_cons, List.length_nil, List.length_drop, List.length_take] at *; omega)
                  | (apply bx_i; intro hbd) | (apply gt_i; assumption; exact rfl)
                  | (apply cx_is; first | fail) | (apply ab_i; intro bl)
                  | (apply rt_is; exact rfl) | (apply rt_do; exact rfl; (repeat (first | exact List.nil_sublist _ | apply List.Sublist.cons_cons)))
                  | (exact True.intro) | (apply bc_i; intro C hC) | (apply bt_i) | (apply og_n) | (apply og_a; exact rfl))
              all_goals (try conv => whnf)
              refine iv 93 _ (m_asw _) ⟨_, asw_write (G := G) x0 x1 _ _ _ _ _ _ _ bw (.slice va vk vc) b ((s.take i).drop last) (by omega), ?_, ?_⟩
              · rintro v H ⟨va2, vk2, vc2, e, rfl⟩
                cases e
                repeat' (first
                  | (conv => whnf); first
                    | (apply ch_l; apply sp_i; first | exact rfl | omega | exact ⟨rfl, by omega⟩ | exact ⟨rfl, by omega, by omega, by omega⟩ | exact ⟨⟨_, rfl⟩, by omega⟩ | assumption | (simp; omega))
                    | (apply sp_i; first | exact rfl | omega | exact ⟨rfl, rfl, by omega⟩ | exact ⟨rfl, by omega⟩ | exact ⟨rfl, by omega, by omega, by omega⟩ | exact ⟨⟨_, rfl⟩, by omega⟩ | assumption | (simp; omega))
                    | (apply sc_true) | (apply sc_false)
                    | (first | apply sc_lt | apply sc_nlt | apply sc_eq | apply sc_neq | apply sc_nil | apply sc_nnil); all_goals (intro hb; try (first | (exfalso; omega) | exact absurd rfl hb | exact absurd hb (by decide) | exact absurd (by assumption) hb | (exfalso; simp only [List.length_cons, List.length_nil] at hb; omega)))
                    | (apply sc_not) | (apply sc_i; all_goals intro hb)
                    | (first | apply ix_nat | apply ix_int | apply sd_nat | apply sd_int | apply sl_nat | apply sl_int); first | omega | (simp only [List.length_cons, List.length_nil, List.length_drop, List.length_take] at *; omega)
                    | (apply bx_i; intro hbd) | (apply gt_i; assumption; exact rfl)
                    | (apply cx_is; first | fail) | (apply ab_i; intro bl)
                    | (apply rt_is; exact rfl) | (apply rt_do; exact rfl; (repeat (first | exact List.nil_sublist _ | apply List.Sublist.cons_cons)))
                    | (exact True.intro) | (apply bc_i; intro C hC) | (apply bt_i) | (apply og_n) | (apply og_a; exact rfl))
                all_goals (try conv => whnf)
                exact ⟨(va2, vk2, vc2), ⟨rfl, rfl, rfl, rfl, rfl, rfl, rfl, rfl, rfl, rfl, rfl, trivial⟩, rfl⟩
              · rintro v H ⟨va2, vk2, vc2, e, rfl⟩
                cases e
            rintro ⟨va2, vk2, vc2⟩
            repeat' (first
              | (conv => whnf); first
                | (apply ch_l; apply sp_i; first | exact rfl | omega | exact ⟨rfl, by omega⟩ | exact ⟨rfl, by omega, by omega, by omega⟩ | exact ⟨⟨_, rfl⟩, by omega⟩ | assumption | (simp; omega))
                | (apply sp_i; first | exact rfl | omega | exact ⟨rfl, rfl, by omega⟩ | exact ⟨rfl, by omega⟩ | exact ⟨rfl, by omega, by omega, by omega⟩ | exact ⟨⟨_, rfl⟩, by omega⟩ | assumption | (simp; omega))
                | (apply sc_true) | (apply sc_false)
                | (first | apply sc_lt | apply sc_nlt | apply sc_eq | apply sc_neq | apply sc_nil | apply sc_nnil); all_goals (intro hb; try (first | (exfalso; omega) | exact absurd rfl hb | exact absurd hb (by decide) | exact absurd (by assumption) hb | (exfalso; simp only [List.length_cons, List.length_nil] at hb; omega)))
                | (apply sc_not) | (apply sc_i; all_goals intro hb)
                | (first | apply ix_nat | apply ix_int | apply sd_nat | apply sd_int | apply sl_nat | apply sl_int); first | omega | (simp only [List.length_cons, List.length_nil, List.length_drop, List.length_take] at *; omega)
                | (apply bx_i; intro hbd) | (apply gt_i; assumption; exact rfl)
                | (apply cx_is; first | fail) | (apply ab_i; intro bl)
                | (apply rt_is; exact rfl) | (apply rt_do; exact rfl; (repeat (first | exact List.nil_sublist _ | apply List.Sublist.cons_cons)))
                | (exact True.intro) | (apply bc_i; intro C hC) | (apply bt_i) | (apply og_n) | (apply og_a; exact rfl))
            all_goals (try conv => whnf)
            refine iv 93 _ (m_asw _) ⟨_, asw_write (G := G) x0 x1 _ _ _ _ _ _ _ bw (.slice va2 vk2 vc2) (b ++ (s.take i).drop last) [e] (by rw [List.length_append, w1]; show b.length + (i - last) + 1 ≤ _; omega), ?_, ?_⟩
            · rintro v H ⟨va3, vk3, vc3, e, rfl⟩
              cases e
              repeat' (first
                | (conv => whnf); first
                  | (apply ch_l; apply sp_i; first | exact rfl | omega | exact ⟨rfl, by omega⟩ | exact ⟨rfl, by omega, by omega, by omega⟩ | exact ⟨⟨_, rfl⟩, by omega⟩ | assumption | (simp; omega))
                  | (apply sp_i; first | exact rfl | omega | exact ⟨rfl, rfl, by omega⟩ | exact ⟨rfl, by omega⟩ | exact ⟨rfl, by omega, by omega, by omega⟩ | exact ⟨⟨_, rfl⟩, by omega⟩ | assumption | (simp; omega))
                  | (apply sc_true) | (apply sc_false)
                  | (first | apply sc_lt | apply sc_nlt | apply sc_eq | apply sc_neq | apply sc_nil | apply sc_nnil); all_goals (intro hb; try (first | (exfalso; omega) | exact absurd rfl hb | exact absurd hb (by decide) | exact absurd (by assumption) hb | (exfalso; simp only [List.length_cons, List.length_nil] at hb; omega)))
                  | (apply sc_not) | (apply sc_i; all_goals intro hb)
                  | (first | apply ix_nat | apply ix_int | apply sd_nat | apply sd_int | apply sl_nat | apply sl_int); first | omega | (simp only [List.length_cons, List.length_nil, List.length_drop, List.length_take] at *; omega)
                  | (apply bx_i; intro hbd) | (apply gt_i; assumption; exact rfl)
                  | (apply cx_is; first | fail) | (apply ab_i; intro bl)
                  | (apply rt_is; exact rfl) | (apply rt_do; exact rfl; (repeat (first | exact List.nil_sublist _ | apply List.Sublist.cons_cons)))
                  | (exact True.intro) | (apply bc_i; intro C hC) | (apply bt_i) | (apply og_n) | (apply og_a; exact rfl))
              all_goals (try conv => whnf)
              refine nxt ⟨i + 2, i + 2, va3, vk3, vc3, b ++ (s.take i).drop last ++ [e]⟩ ?_ ?_ ⟨rfl, rfl, ?_, rfl, rfl, rfl, ?_, rfl, trivial⟩ rfl
              · refine ⟨(show i + 2 ≤ s.length + 1 by omega), (show i + 2 ≤ s.length by omega), Nat.le_refl _, ?_, ?_⟩
                · show (b ++ (s.take i).drop last ++ [e]).length ≤ i + 2
                  rw [List.length_append, List.length_append, w1, List.length_singleton]; omega
                · show b ++ (s.take i).drop last ++ [e] ++ (s.drop (i + 2)).take (i + 2 - (i + 2)) ++ decS (s.drop (i + 2)) = decS s
                  rw [← h5, dec_two hi2 hk he, Nat.sub_self, List.take_zero, List.drop_take]
                  simp only [List.append_assoc, List.append_nil, List.nil_append, List.cons_append]
              · show s.length + 1 - (i + 2) < s.length + 1 - i; omega
              · show some (AVal.int .i64 _) = some (AVal.int .i64 ((b ++ (s.take i).drop last ++ [e]).length : Nat))
                rw [List.length_append, List.length_append, Int.natCast_add, Int.natCast_add]
              · show some (AVal.bool (eqB 2 0)) = some (AVal.bool false)
                rw [eqB_f.2 (by decide : (2 : Int) ≠ 0)]
            · rintro v H ⟨va3, vk3, vc3, e, rfl⟩
              cases e
          · rintro v H ⟨H1, ⟨e, rfl⟩, rfl⟩
            cases e
        · rw [ek] at e2
          refine ⟨_, fn_frame [_, _] e2, ?_, ?_⟩
          · rintro v H ⟨H1, ⟨e, rfl⟩, rfl⟩
            cases e
            repeat' (first
              | (conv => whnf); first
                | (apply ch_l; apply sp_i; first | exact rfl | omega | exact ⟨rfl, by omega⟩ | exact ⟨rfl, by omega, by omega, by omega⟩ | exact ⟨⟨_, rfl⟩, by omega⟩ | assumption | (simp; omega))
                | (apply sp_i; first | exact rfl | omega | exact ⟨rfl, rfl, by omega⟩ | exact ⟨rfl, by omega⟩ | exact ⟨rfl, by omega, by omega, by omega⟩ | exact ⟨⟨_, rfl⟩, by omega⟩ | assumption | (simp; omega))
                | (apply sc_true) | (apply sc_false)
                | (first | apply sc_lt | apply sc_nlt | apply sc_eq | apply sc_neq | apply sc_nil | apply sc_nnil); all_goals (intro hb; try (first | (exfalso; omega) | exact absurd rfl hb | exact absurd hb (by decide) | exact absurd (by assumption) hb | (exfalso; simp only [List.length_cons, List.length_nil] at hb; omega)))
                | (apply sc_not) | (apply sc_i; all_goals intro hb)
                | (first | apply ix_nat | apply ix_int | apply sd_nat | apply sd_int | apply sl_nat | apply sl_int); first | omega | (simp only [List.length_cons, List.length_nil, List.length_drop, List.length_take] at *; omega)
                | (apply bx_i; intro hbd) | (apply gt_i; assumption; exact rfl)
                | (apply cx_is; first | fail) | (apply ab_i; intro bl)
                | (apply rt_is; exact rfl) | (apply rt_do; exact rfl; (repeat (first | exact List.nil_sublist _ | apply List.Sublist.cons_cons)))
                | (exact True.intro) | (apply bc_i; intro C hC) | (apply bt_i) | (apply og_n) | (apply og_a; exact rfl))
            all_goals (try conv => whnf)
            refine nxt (WrX.mk (i + 1) last va vk vc b) ?_ ?_ (by repeat (first | exact trivial | refine And.intro rfl ?_)) rfl
            · refine ⟨(show i + 1 ≤ s.length + 1 by omega), h2, (show last ≤ i + 1 by omega), h4, ?_⟩
              show b ++ (s.drop last).take (i + 1 - last) ++ decS (s.drop (i + 1)) = decS s
              rw [← h5, take_more h3 hi, dec_one hi (.inr hn)]
              simp only [List.append_assoc]
            · show s.length + 1 - (i + 1) < s.length + 1 - i; omega
          · rintro v H ⟨H1, ⟨e, rfl⟩, rfl⟩
            cases e
      · have g := genD_get (i := byteAt s i) (t := .own 3 (.slice (some ⟨y.bt, 0, none⟩) 3 3)) (v := 2) g0 (by rw [hk]; rfl)
        repeat' (first
          | (conv => whnf); first
            | (apply ch_l; apply sp_i; first | exact rfl | omega | exact ⟨rfl, by omega⟩ | exact ⟨rfl, by omega, by omega, by omega⟩ | exact ⟨⟨_, rfl⟩, by omega⟩ | assumption | (simp; omega))
            | (apply sp_i; first | exact rfl | omega | exact ⟨rfl, rfl, by omega⟩ | exact ⟨rfl, by omega⟩ | exact ⟨rfl, by omega, by omega, by omega⟩ | exact ⟨⟨_, rfl⟩, by omega⟩ | assumption | (simp; omega))
            | (apply sc_true) | (apply sc_false)
            | (first | apply sc_lt | apply sc_nlt | apply sc_eq | apply sc_neq | apply sc_nil | apply sc_nnil); all_goals (intro hb; try (first | (exfalso; omega) | exact absurd rfl hb | exact absurd hb (by decide) | exact absurd (by assumption) hb | (exfalso; simp only [List.length_cons, List.length_nil] at hb; omega)))
            | (apply sc_not) | (apply sc_i; all_goals intro hb)
            | (first | apply ix_nat | apply ix_int | apply sd_nat | apply sd_int | apply sl_nat | apply sl_int); first | omega | (simp only [List.length_cons, List.length_nil, List.length_drop, List.length_take] at *; omega)
            | (apply bx_i; intro hbd) | (apply gt_i; assumption; exact rfl)
            | (apply cx_is; first | fail) | (apply ab_i; intro bl)
            | (apply rt_is; exact rfl) | (apply rt_do; exact rfl; (repeat (first | exact List.nil_sublist _ | apply List.Sublist.cons_cons)))
            | (exact True.intro) | (apply bc_i; intro C hC) | (apply bt_i) | (apply og_n) | (apply og_a; exact rfl))
        all_goals (try conv => whnf)
        refine dw_p mixed hC hGL true (fun (_ : Unit) => wrI y.bg bw s ⟨i, last, va, vk, vc, b⟩ ++ [(13, .int .i64 2)]) (fun _ => wrJ x0 x1 y bw ⟨i, last, va, vk, vc, b⟩) (.take 0 (.take 1 (.take 2 (.take 3 (.take 4 (.take 5 (.take 6 (.take 7 (.take 8 (.take 9 (.done))))))))))) (by kernel_rfl) ?_ ?_
        · repeat' (first
            | (conv => whnf); first
              | (apply ch_l; apply sp_i; first | exact rfl | omega | exact ⟨rfl, by omega⟩ | exact ⟨rfl, by omega, by omega, by omega⟩ | exact ⟨⟨_, rfl⟩, by omega⟩ | assumption | (simp; omega))
              | (apply sp_i; first | exact rfl | omega | exact ⟨rfl, rfl, by omega⟩ | exact ⟨rfl, by omega⟩ | exact ⟨rfl, by omega, by omega, by omega⟩ | exact ⟨⟨_, rfl⟩, by omega⟩ | assumption | (simp; omega))
              | (apply sc_true) | (apply sc_false)
              | (first | apply sc_lt | apply sc_nlt | apply sc_eq | apply sc_neq | apply sc_nil | apply sc_nnil); all_goals (intro hb; try (first | (exfalso; omega) | exact absurd rfl hb | exact absurd hb (by decide) | exact absurd (by assumption) hb | (exfalso; simp only [List.length_cons, List.length_nil] at hb; omega)))
              | (apply sc_not) | (apply sc_i; all_goals intro hb)
              | (first | apply ix_nat | apply ix_int | apply sd_nat | apply sd_int | apply sl_nat | apply sl_int); first | omega | (simp only [List.length_cons, List.length_nil, List.length_drop, List.length_take] at *; omega)
              | (apply bx_i; intro hbd) | (apply gt_i; assumption; exact rfl)
              | (apply cx_is; first | fail) | (apply ab_i; intro bl)
              | (apply rt_is; exact rfl) | (apply rt_do; exact rfl; (repeat (first | exact List.nil_sublist _ | apply List.Sublist.cons_cons)))
              | (exact True.intro) | (apply bc_i; intro C hC) | (apply bt_i) | (apply og_n) | (apply og_a; exact rfl))
          all_goals (try conv => whnf)
          erw [← g]
          repeat' (first
            | (conv => whnf); first
              | (apply ch_l; apply sp_i; first | exact rfl | omega | exact ⟨rfl, by omega⟩ | exact ⟨rfl, by omega, by omega, by omega⟩ | exact ⟨⟨_, rfl⟩, by omega⟩ | assumption | (simp; omega))
              | (apply sp_i; first | exact rfl | omega | exact ⟨rfl, rfl, by omega⟩ | exact ⟨rfl, by omega⟩ | exact ⟨rfl, by omega, by omega, by omega⟩ | exact ⟨⟨_, rfl⟩, by omega⟩ | assumption | (simp; omega))
              | (apply sc_true) | (apply sc_false)
              | (first | apply sc_lt | apply sc_nlt | apply sc_eq | apply sc_neq | apply sc_nil | apply sc_nnil); all_goals (intro hb; try (first | (exfalso; omega) | exact absurd rfl hb | exact absurd hb (by decide) | exact absurd (by assumption) hb | (exfalso; simp only [List.length_cons, List.length_nil] at hb; omega)))
              | (apply sc_not) | (apply sc_i; all_goals intro hb)
              | (first | apply ix_nat | apply ix_int | apply sd_nat | apply sd_int | apply sl_nat | apply sl_int); first | omega | (simp only [List.length_cons, List.length_nil, List.length_drop, List.length_take] at *; omega)
              | (apply bx_i; intro hbd) | (apply gt_i; assumption; exact rfl)
              | (apply cx_is; first | fail) | (apply ab_i; intro bl)
              | (apply rt_is; exact rfl) | (apply rt_do; exact rfl; (repeat (first | exact List.nil_sublist _ | apply List.Sublist.cons_cons)))
              | (exact True.intro) | (apply bc_i; intro C hC) | (apply bt_i) | (apply og_n) | (apply og_a; exact rfl))
          all_goals (try conv => whnf)
          exact ⟨(), ⟨rfl, rfl, rfl, rfl, rfl, rfl, rfl, rfl, rfl, trivial⟩, rfl⟩
        intro _
        repeat' (first
          | (conv => whnf); first
            | (apply ch_l; apply sp_i; first | exact rfl | omega | exact ⟨rfl, by omega⟩ | exact ⟨rfl, by omega, by omega, by omega⟩ | exact ⟨⟨_, rfl⟩, by omega⟩ | assumption | (simp; omega))
            | (apply sp_i; first | exact rfl | omega | exact ⟨rfl, rfl, by omega⟩ | exact ⟨rfl, by omega⟩ | exact ⟨rfl, by omega, by omega, by omega⟩ | exact ⟨⟨_, rfl⟩, by omega⟩ | assumption | (simp; omega))
            | (apply sc_true) | (apply sc_false)
            | (first | apply sc_lt | apply sc_nlt | apply sc_eq | apply sc_neq | apply sc_nil | apply sc_nnil); all_goals (intro hb; try (first | (exfalso; omega) | exact absurd rfl hb | exact absurd hb (by decide) | exact absurd (by assumption) hb | (exfalso; simp only [List.length_cons, List.length_nil] at hb; omega)))
            | (apply sc_not) | (apply sc_i; all_goals intro hb)
            | (first | apply ix_nat | apply ix_int | apply sd_nat | apply sd_int | apply sl_nat | apply sl_int); first | omega | (simp only [List.length_cons, List.length_nil, List.length_drop, List.length_take] at *; omega)
            | (apply bx_i; intro hbd) | (apply gt_i; assumption; exact rfl)
            | (apply cx_is; first | fail) | (apply ab_i; intro bl)
            | (apply rt_is; exact rfl) | (apply rt_do; exact rfl; (repeat (first | exact List.nil_sublist _ | apply List.Sublist.cons_cons)))
            | (exact True.intro) | (apply bc_i; intro C hC) | (apply bt_i) | (apply og_n) | (apply og_a; exact rfl))
        all_goals (try conv => whnf)
        refine gt_i rfl rfl ?_
        repeat' (first
          | (conv => whnf); first
            | (apply ch_l; apply sp_i; first | exact rfl | omega | exact ⟨rfl, by omega⟩ | exact ⟨rfl, by omega, by omega, by omega⟩ | exact ⟨⟨_, rfl⟩, by omega⟩ | assumption | (simp; omega))
            | (apply sp_i; first | exact rfl | omega | exact ⟨rfl, rfl, by omega⟩ | exact ⟨rfl, by omega⟩ | exact ⟨rfl, by omega, by omega, by omega⟩ | exact ⟨⟨_, rfl⟩, by omega⟩ | assumption | (simp; omega))
            | (apply sc_true) | (apply sc_false)
            | (first | apply sc_lt | apply sc_nlt | apply sc_eq | apply sc_neq | apply sc_nil | apply sc_nnil); all_goals (intro hb; try (first | (exfalso; omega) | exact absurd rfl hb | exact absurd hb (by decide) | exact absurd (by assumption) hb | (exfalso; simp only [List.length_cons, List.length_nil] at hb; omega)))
            | (apply sc_not) | (apply sc_i; all_goals intro hb)
            | (first | apply ix_nat | apply ix_int | apply sd_nat | apply sd_int | apply sl_nat | apply sl_int); first | omega | (simp only [List.length_cons, List.length_nil, List.length_drop, List.length_take] at *; omega)
            | (apply bx_i; intro hbd) | (apply gt_i; assumption; exact rfl)
            | (apply cx_is; first | fail) | (apply ab_i; intro bl)
            | (apply rt_is; exact rfl) | (apply rt_do; exact rfl; (repeat (first | exact List.nil_sublist _ | apply List.Sublist.cons_cons)))
            | (exact True.intro) | (apply bc_i; intro C hC) | (apply bt_i) | (apply og_n) | (apply og_a; exact rfl))
        all_goals (try conv => whnf)
        refine nxt (WrX.mk (i + 1) last va vk vc b) ?_ ?_ (by repeat (first | exact trivial | refine And.intro rfl ?_)) rfl
        · refine ⟨(show i + 1 ≤ s.length + 1 by omega), h2, (show last ≤ i + 1 by omega), h4, ?_⟩
          show b ++ (s.drop last).take (i + 1 - last) ++ decS (s.drop (i + 1)) = decS s
          rw [← h5, take_more h3 hi, dec_one hi (.inl (by omega))]
          simp only [List.append_assoc]
        · show s.length + 1 - (i + 1) < s.length + 1 - i; omega
      · have g := genD_get (i := byteAt s i) (t := .own 3 (.slice (some ⟨y.bt, 0, none⟩) 3 3)) (v := 0) g0 (by rw [hk]; rfl)
        repeat' (first
          | (conv => whnf); first
            | (apply ch_l; apply sp_i; first | exact rfl | omega | exact ⟨rfl, by omega⟩ | exact ⟨rfl, by omega, by omega, by omega⟩ | exact ⟨⟨_, rfl⟩, by omega⟩ | assumption | (simp; omega))
            | (apply sp_i; first | exact rfl | omega | exact ⟨rfl, rfl, by omega⟩ | exact ⟨rfl, by omega⟩ | exact ⟨rfl, by omega, by omega, by omega⟩ | exact ⟨⟨_, rfl⟩, by omega⟩ | assumption | (simp; omega))
            | (apply sc_true) | (apply sc_false)
            | (first | apply sc_lt | apply sc_nlt | apply sc_eq | apply sc_neq | apply sc_nil | apply sc_nnil); all_goals (intro hb; try (first | (exfalso; omega) | exact absurd rfl hb | exact absurd hb (by decide) | exact absurd (by assumption) hb | (exfalso; simp only [List.length_cons, List.length_nil] at hb; omega)))
            | (apply sc_not) | (apply sc_i; all_goals intro hb)
            | (first | apply ix_nat | apply ix_int | apply sd_nat | apply sd_int | apply sl_nat | apply sl_int); first | omega | (simp only [List.length_cons, List.length_nil, List.length_drop, List.length_take] at *; omega)
            | (apply bx_i; intro hbd) | (apply gt_i; assumption; exact rfl)
            | (apply cx_is; first | fail) | (apply ab_i; intro bl)
            | (apply rt_is; exact rfl) | (apply rt_do; exact rfl; (repeat (first | exact List.nil_sublist _ | apply List.Sublist.cons_cons)))
            | (exact True.intro) | (apply bc_i; intro C hC) | (apply bt_i) | (apply og_n) | (apply og_a; exact rfl))
        all_goals (try conv => whnf)
        refine dw_p mixed hC hGL true (fun (_ : Unit) => wrI y.bg bw s ⟨i, last, va, vk, vc, b⟩ ++ [(13, .int .i64 0)]) (fun _ => wrJ x0 x1 y bw ⟨i, last, va, vk, vc, b⟩) (.take 0 (.take 1 (.take 2 (.take 3 (.take 4 (.take 5 (.take 6 (.take 7 (.take 8 (.take 9 (.done))))))))))) (by kernel_rfl) ?_ ?_
        · repeat' (first
            | (conv => whnf); first
              | (apply ch_l; apply sp_i; first | exact rfl | omega | exact ⟨rfl, by omega⟩ | exact ⟨rfl, by omega, by omega, by omega⟩ | exact ⟨⟨_, rfl⟩, by omega⟩ | assumption | (simp; omega))
              | (apply sp_i; first | exact rfl | omega | exact ⟨rfl, rfl, by omega⟩ | exact ⟨rfl, by omega⟩ | exact ⟨rfl, by omega, by omega, by omega⟩ | exact ⟨⟨_, rfl⟩, by omega⟩ | assumption | (simp; omega))
              | (apply sc_true) | (apply sc_false)
              | (first | apply sc_lt | apply sc_nlt | apply sc_eq | apply sc_neq | apply sc_nil | apply sc_nnil); all_goals (intro hb; try (first | (exfalso; omega) | exact absurd rfl hb | exact absurd hb (by decide) | exact absurd (by assumption) hb | (exfalso; simp only [List.length_cons, List.length_nil] at hb; omega)))
              | (apply sc_not) | (apply sc_i; all_goals intro hb)
              | (first | apply ix_nat | apply ix_int | apply sd_nat | apply sd_int | apply sl_nat | apply sl_int); first | omega | (simp only [List.length_cons, List.length_nil, List.length_drop, List.length_take] at *; omega)
              | (apply bx_i; intro hbd) | (apply gt_i; assumption; exact rfl)
              | (apply cx_is; first | fail) | (apply ab_i; intro bl)
              | (apply rt_is; exact rfl) | (apply rt_do; exact rfl; (repeat (first | exact List.nil_sublist _ | apply List.Sublist.cons_cons)))
              | (exact True.intro) | (apply bc_i; intro C hC) | (apply bt_i) | (apply og_n) | (apply og_a; exact rfl))
          all_goals (try conv => whnf)
          erw [← g]
          repeat' (first
            | (conv => whnf); first
              | (apply ch_l; apply sp_i; first | exact rfl | omega | exact ⟨rfl, by omega⟩ | exact ⟨rfl, by omega, by omega, by omega⟩ | exact ⟨⟨_, rfl⟩, by omega⟩ | assumption | (simp; omega))
              | (apply sp_i; first | exact rfl | omega | exact ⟨rfl, rfl, by omega⟩ | exact ⟨rfl, by omega⟩ | exact ⟨rfl, by omega, by omega, by omega⟩ | exact ⟨⟨_, rfl⟩, by omega⟩ | assumption | (simp; omega))
              | (apply sc_true) | (apply sc_false)
              | (first | apply sc_lt | apply sc_nlt | apply sc_eq | apply sc_neq | apply sc_nil | apply sc_nnil); all_goals (intro hb; try (first | (exfalso; omega) | exact absurd rfl hb | exact absurd hb (by decide) | exact absurd (by assumption) hb | (exfalso; simp only [List.length_cons, List.length_nil] at hb; omega)))
              | (apply sc_not) | (apply sc_i; all_goals intro hb)
              | (first | apply ix_nat | apply ix_int | apply sd_nat | apply sd_int | apply sl_nat | apply sl_int); first | omega | (simp only [List.length_cons, List.length_nil, List.length_drop, List.length_take] at *; omega)
              | (apply bx_i; intro hbd) | (apply gt_i; assumption; exact rfl)
              | (apply cx_is; first | fail) | (apply ab_i; intro bl)
              | (apply rt_is; exact rfl) | (apply rt_do; exact rfl; (repeat (first | exact List.nil_sublist _ | apply List.Sublist.cons_cons)))
              | (exact True.intro) | (apply bc_i; intro C hC) | (apply bt_i) | (apply og_n) | (apply og_a; exact rfl))
          all_goals (try conv => whnf)
          exact ⟨(), ⟨rfl, rfl, rfl, rfl, rfl, rfl, rfl, rfl, rfl, trivial⟩, rfl⟩
        intro _
        repeat' (first
          | (conv => whnf); first
            | (apply ch_l; apply sp_i; first | exact rfl | omega | exact ⟨rfl, by omega⟩ | exact ⟨rfl, by omega, by omega, by omega⟩ | exact ⟨⟨_, rfl⟩, by omega⟩ | assumption | (simp; omega))
            | (apply sp_i; first | exact rfl | omega | exact ⟨rfl, rfl, by omega⟩ | exact ⟨rfl, by omega⟩ | exact ⟨rfl, by omega, by omega, by omega⟩ | exact ⟨⟨_, rfl⟩, by omega⟩ | assumption | (simp; omega))
            | (apply sc_true) | (apply sc_false)
            | (first | apply sc_lt | apply sc_nlt | apply sc_eq | apply sc_neq | apply sc_nil | apply sc_nnil); all_goals (intro hb; try (first | (exfalso; omega) | exact absurd rfl hb | exact absurd hb (by decide) | exact absurd (by assumption) hb | (exfalso; simp only [List.length_cons, List.length_nil] at hb; omega)))
            | (apply sc_not) | (apply sc_i; all_goals intro hb)
            | (first | apply ix_nat | apply ix_int | apply sd_nat | apply sd_int | apply sl_nat | apply sl_int); first | omega | (simp only [List.length_cons, List.length_nil, List.length_drop, List.length_take] at *; omega)
            | (apply bx_i; intro hbd) | (apply gt_i; assumption; exact rfl)
            | (apply cx_is; first | fail) | (apply ab_i; intro bl)
            | (apply rt_is; exact rfl) | (apply rt_do; exact rfl; (repeat (first | exact List.nil_sublist _ | apply List.Sublist.cons_cons)))
            | (exact True.intro) | (apply bc_i; intro C hC) | (apply bt_i) | (apply og_n) | (apply og_a; exact rfl))
        all_goals (try conv => whnf)
        refine gt_i rfl rfl ?_
        repeat' (first
          | (conv => whnf); first
            | (apply ch_l; apply sp_i; first | exact rfl | omega | exact ⟨rfl, by omega⟩ | exact ⟨rfl, by omega, by omega, by omega⟩ | exact ⟨⟨_, rfl⟩, by omega⟩ | assumption | (simp; omega))
            | (apply sp_i; first | exact rfl | omega | exact ⟨rfl, rfl, by omega⟩ | exact ⟨rfl, by omega⟩ | exact ⟨rfl, by omega, by omega, by omega⟩ | exact ⟨⟨_, rfl⟩, by omega⟩ | assumption | (simp; omega))
            | (apply sc_true) | (apply sc_false)
            | (first | apply sc_lt | apply sc_nlt | apply sc_eq | apply sc_neq | apply sc_nil | apply sc_nnil); all_goals (intro hb; try (first | (exfalso; omega) | exact absurd rfl hb | exact absurd hb (by decide) | exact absurd (by assumption) hb | (exfalso; simp only [List.length_cons, List.length_nil] at hb; omega)))
            | (apply sc_not) | (apply sc_i; all_goals intro hb)
            | (first | apply ix_nat | apply ix_int | apply sd_nat | apply sd_int | apply sl_nat | apply sl_int); first | omega | (simp only [List.length_cons, List.length_nil, List.length_drop, List.length_take] at *; omega)
            | (apply bx_i; intro hbd) | (apply gt_i; assumption; exact rfl)
            | (apply cx_is; first | fail) | (apply ab_i; intro bl)
            | (apply rt_is; exact rfl) | (apply rt_do; exact rfl; (repeat (first | exact List.nil_sublist _ | apply List.Sublist.cons_cons)))
            | (exact True.intro) | (apply bc_i; intro C hC) | (apply bt_i) | (apply og_n) | (apply og_a; exact rfl))
        all_goals (try conv => whnf)
        refine nxt (WrX.mk (i + 1) last va vk vc b) ?_ ?_ (by repeat (first | exact trivial | refine And.intro rfl ?_)) rfl
        · refine ⟨(show i + 1 ≤ s.length + 1 by omega), h2, (show last ≤ i + 1 by omega), h4, ?_⟩
          show b ++ (s.drop last).take (i + 1 - last) ++ decS (s.drop (i + 1)) = decS s
          rw [← h5, take_more h3 hi, dec_one hi (.inl (by omega))]
          simp only [List.append_assoc]
        · show s.length + 1 - (i + 1) < s.length + 1 - i; omega
      · have g := genD_get (i := byteAt s i) (t := .own 3 (.slice (some ⟨y.bt, 0, none⟩) 3 3)) (v := 3) g0 (by unfold m2; rw [if_neg k3, if_neg k1, if_neg k2]; rfl)
        repeat' (first
          | (conv => whnf); first
            | (apply ch_l; apply sp_i; first | exact rfl | omega | exact ⟨rfl, by omega⟩ | exact ⟨rfl, by omega, by omega, by omega⟩ | exact ⟨⟨_, rfl⟩, by omega⟩ | assumption | (simp; omega))
            | (apply sp_i; first | exact rfl | omega | exact ⟨rfl, rfl, by omega⟩ | exact ⟨rfl, by omega⟩ | exact ⟨rfl, by omega, by omega, by omega⟩ | exact ⟨⟨_, rfl⟩, by omega⟩ | assumption | (simp; omega))
            | (apply sc_true) | (apply sc_false)
            | (first | apply sc_lt | apply sc_nlt | apply sc_eq | apply sc_neq | apply sc_nil | apply sc_nnil); all_goals (intro hb; try (first | (exfalso; omega) | exact absurd rfl hb | exact absurd hb (by decide) | exact absurd (by assumption) hb | (exfalso; simp only [List.length_cons, List.length_nil] at hb; omega)))
            | (apply sc_not) | (apply sc_i; all_goals intro hb)
            | (first | apply ix_nat | apply ix_int | apply sd_nat | apply sd_int | apply sl_nat | apply sl_int); first | omega | (simp only [List.length_cons, List.length_nil, List.length_drop, List.length_take] at *; omega)
            | (apply bx_i; intro hbd) | (apply gt_i; assumption; exact rfl)
            | (apply cx_is; first | fail) | (apply ab_i; intro bl)
            | (apply rt_is; exact rfl) | (apply rt_do; exact rfl; (repeat (first | exact List.nil_sublist _ | apply List.Sublist.cons_cons)))
            | (exact True.intro) | (apply bc_i; intro C hC) | (apply bt_i) | (apply og_n) | (apply og_a; exact rfl))
        all_goals (try conv => whnf)
        refine dw_p mixed hC hGL true (fun (_ : Unit) => wrI y.bg bw s ⟨i, last, va, vk, vc, b⟩ ++ [(13, .int .i64 3)]) (fun _ => wrJ x0 x1 y bw ⟨i, last, va, vk, vc, b⟩) (.take 0 (.take 1 (.take 2 (.take 3 (.take 4 (.take 5 (.take 6 (.take 7 (.take 8 (.take 9 (.done))))))))))) (by kernel_rfl) ?_ ?_
        · repeat' (first
            | (conv => whnf); first
              | (apply ch_l; apply sp_i; first | exact rfl | omega | exact ⟨rfl, by omega⟩ | exact ⟨rfl, by omega, by omega, by omega⟩ | exact ⟨⟨_, rfl⟩, by omega⟩ | assumption | (simp; omega))
              | (apply sp_i; first | exact rfl | omega | exact ⟨rfl, rfl, by omega⟩ | exact ⟨rfl, by omega⟩ | exact ⟨rfl, by omega, by omega, by omega⟩ | exact ⟨⟨_, rfl⟩, by omega⟩ | assumption | (simp; omega))
              | (apply sc_true) | (apply sc_false)
              | (first | apply sc_lt | apply sc_nlt | apply sc_eq | apply sc_neq | apply sc_nil | apply sc_nnil); all_goals (intro hb; try (first | (exfalso; omega) | exact absurd rfl hb | exact absurd hb (by decide) | exact absurd (by assumption) hb | (exfalso; simp only [List.length_cons, List.length_nil] at hb; omega)))
              | (apply sc_not) | (apply sc_i; all_goals intro hb)
              | (first | apply ix_nat | apply ix_int | apply sd_nat | apply sd_int | apply sl_nat | apply sl_int); first | omega | (simp only [List.length_cons, List.length_nil, List.length_drop, List.length_take] at *; omega)
              | (apply bx_i; intro hbd) | (apply gt_i; assumption; exact rfl)
              | (apply cx_is; first | fail) | (apply ab_i; intro bl)
              | (apply rt_is; exact rfl) | (apply rt_do; exact rfl; (repeat (first | exact List.nil_sublist _ | apply List.Sublist.cons_cons)))
              | (exact True.intro) | (apply bc_i; intro C hC) | (apply bt_i) | (apply og_n) | (apply og_a; exact rfl))
          all_goals (try conv => whnf)
          erw [← g]
          repeat' (first
            | (conv => whnf); first
              | (apply ch_l; apply sp_i; first | exact rfl | omega | exact ⟨rfl, by omega⟩ | exact ⟨rfl, by omega, by omega, by omega⟩ | exact ⟨⟨_, rfl⟩, by omega⟩ | assumption | (simp; omega))
              | (apply sp_i; first | exact rfl | omega | exact ⟨rfl, rfl, by omega⟩ | exact ⟨rfl, by omega⟩ | exact ⟨rfl, by omega, by omega, by omega⟩ | exact ⟨⟨_, rfl⟩, by omega⟩ | assumption | (simp; omega))
              | (apply sc_true) | (apply sc_false)
              | (first | apply sc_lt | apply sc_nlt | apply sc_eq | apply sc_neq | apply sc_nil | apply sc_nnil); all_goals (intro hb; try (first | (exfalso; omega) | exact absurd rfl hb | exact absurd hb (by decide) | exact absurd (by assumption) hb | (exfalso; simp only [List.length_cons, List.length_nil] at hb; omega)))
              | (apply sc_not) | (apply sc_i; all_goals intro hb)
              | (first | apply ix_nat | apply ix_int | apply sd_nat | apply sd_int | apply sl_nat | apply sl_int); first | omega | (simp only [List.length_cons, List.length_nil, List.length_drop, List.length_take] at *; omega)
              | (apply bx_i; intro hbd) | (apply gt_i; assumption; exact rfl)
              | (apply cx_is; first | fail) | (apply ab_i; intro bl)
              | (apply rt_is; exact rfl) | (apply rt_do; exact rfl; (repeat (first | exact List.nil_sublist _ | apply List.Sublist.cons_cons)))
              | (exact True.intro) | (apply bc_i; intro C hC) | (apply bt_i) | (apply og_n) | (apply og_a; exact rfl))
          all_goals (try conv => whnf)
          exact ⟨(), ⟨rfl, rfl, rfl, rfl, rfl, rfl, rfl, rfl, rfl, trivial⟩, rfl⟩
        intro _
        repeat' (first
          | (conv => whnf); first
            | (apply ch_l; apply sp_i; first | exact rfl | omega | exact ⟨rfl, by omega⟩ | exact ⟨rfl, by omega, by omega, by omega⟩ | exact ⟨⟨_, rfl⟩, by omega⟩ | assumption | (simp; omega))
            | (apply sp_i; first | exact rfl | omega | exact ⟨rfl, rfl, by omega⟩ | exact ⟨rfl, by omega⟩ | exact ⟨rfl, by omega, by omega, by omega⟩ | exact ⟨⟨_, rfl⟩, by omega⟩ | assumption | (simp; omega))
            | (apply sc_true) | (apply sc_false)
            | (first | apply sc_lt | apply sc_nlt | apply sc_eq | apply sc_neq | apply sc_nil | apply sc_nnil); all_goals (intro hb; try (first | (exfalso; omega) | exact absurd rfl hb | exact absurd hb (by decide) | exact absurd (by assumption) hb | (exfalso; simp only [List.length_cons, List.length_nil] at hb; omega)))
            | (apply sc_not) | (apply sc_i; all_goals intro hb)
            | (first | apply ix_nat | apply ix_int | apply sd_nat | apply sd_int | apply sl_nat | apply sl_int); first | omega | (simp only [List.length_cons, List.length_nil, List.length_drop, List.length_take] at *; omega)
            | (apply bx_i; intro hbd) | (apply gt_i; assumption; exact rfl)
            | (apply cx_is; first | fail) | (apply ab_i; intro bl)
            | (apply rt_is; exact rfl) | (apply rt_do; exact rfl; (repeat (first | exact List.nil_sublist _ | apply List.Sublist.cons_cons)))
            | (exact True.intro) | (apply bc_i; intro C hC) | (apply bt_i) | (apply og_n) | (apply og_a; exact rfl))
        all_goals (try conv => whnf)
        refine nxt (WrX.mk (i + 1) last va vk vc b) ?_ ?_ (by repeat (first | exact trivial | refine And.intro rfl ?_)) rfl
        · refine ⟨(show i + 1 ≤ s.length + 1 by omega), h2, (show last ≤ i + 1 by omega), h4, ?_⟩
          show b ++ (s.drop last).take (i + 1 - last) ++ decS (s.drop (i + 1)) = decS s
          rw [← h5, take_more h3 hi, dec_one hi (.inl k1)]
          simp only [List.append_assoc]
        · show s.length + 1 - (i + 1) < s.length + 1 - i; omega
    · have e2 := lookup_dec (G := G) x0 x1 y (s.drop s.length) (by rw [List.length_drop]; omega) (.inl (by rw [List.length_drop]; omega))
      rw [show lkP (s.drop s.length) = ([], 0, false) by unfold lkP; rw [if_pos (by rw [List.length_drop]; omega)]] at e2
      repeat' (first
        | (conv => whnf); first
          | (apply ch_l; apply sp_i; first | exact rfl | omega | exact ⟨rfl, by omega⟩ | exact ⟨rfl, by omega, by omega, by omega⟩ | exact ⟨⟨_, rfl⟩, by omega⟩ | assumption | (simp; omega))
          | (apply sp_i; first | exact rfl | omega | exact ⟨rfl, rfl, by omega⟩ | exact ⟨rfl, by omega⟩ | exact ⟨rfl, by omega, by omega, by omega⟩ | exact ⟨⟨_, rfl⟩, by omega⟩ | assumption | (simp; omega))
          | (apply sc_true) | (apply sc_false)
          | (first | apply sc_lt | apply sc_nlt | apply sc_eq | apply sc_neq | apply sc_nil | apply sc_nnil); all_goals (intro hb; try (first | (exfalso; omega) | exact absurd rfl hb | exact absurd hb (by decide) | exact absurd (by assumption) hb | (exfalso; simp only [List.length_cons, List.length_nil] at hb; omega)))
          | (apply sc_not) | (apply sc_i; all_goals intro hb)
          | (first | apply ix_nat | apply ix_int | apply sd_nat | apply sd_int | apply sl_nat | apply sl_int); first | omega | (simp only [List.length_cons, List.length_nil, List.length_drop, List.length_take] at *; omega)
          | (apply bx_i; intro hbd) | (apply gt_i; assumption; exact rfl)
          | (apply cx_is; first | fail) | (apply ab_i; intro bl)
          | (apply rt_is; exact rfl) | (apply rt_do; exact rfl; (repeat (first | exact List.nil_sublist _ | apply List.Sublist.cons_cons)))
          | (exact True.intro) | (apply bc_i; intro C hC) | (apply bt_i) | (apply og_n) | (apply og_a; exact rfl))
      all_goals (try conv => whnf)
      refine ⟨_, fn_frame [_, _] e2, ?_, ?_⟩
      · rintro v H ⟨H1, ⟨e, rfl⟩, rfl⟩
        cases e
        repeat' (first
          | (conv => whnf); first
            | (apply ch_l; apply sp_i; first | exact rfl | omega | exact ⟨rfl, by omega⟩ | exact ⟨rfl, by omega, by omega, by omega⟩ | exact ⟨⟨_, rfl⟩, by omega⟩ | assumption | (simp; omega))
            | (apply sp_i; first | exact rfl | omega | exact ⟨rfl, rfl, by omega⟩ | exact ⟨rfl, by omega⟩ | exact ⟨rfl, by omega, by omega, by omega⟩ | exact ⟨⟨_, rfl⟩, by omega⟩ | assumption | (simp; omega))
            | (apply sc_true) | (apply sc_false)
            | (first | apply sc_lt | apply sc_nlt | apply sc_eq | apply sc_neq | apply sc_nil | apply sc_nnil); all_goals (intro hb; try (first | (exfalso; omega) | exact absurd rfl hb | exact absurd hb (by decide) | exact absurd (by assumption) hb | (exfalso; simp only [List.length_cons, List.length_nil] at hb; omega)))
            | (apply sc_not) | (apply sc_i; all_goals intro hb)
            | (first | apply ix_nat | apply ix_int | apply sd_nat | apply sd_int | apply sl_nat | apply sl_int); first | omega | (simp only [List.length_cons, List.length_nil, List.length_drop, List.length_take] at *; omega)
            | (apply bx_i; intro hbd) | (apply gt_i; assumption; exact rfl)
            | (apply cx_is; first | fail) | (apply ab_i; intro bl)
            | (apply rt_is; exact rfl) | (apply rt_do; exact rfl; (repeat (first | exact List.nil_sublist _ | apply List.Sublist.cons_cons)))
            | (exact True.intro) | (apply bc_i; intro C hC) | (apply bt_i) | (apply og_n) | (apply og_a; exact rfl))
        all_goals (try conv => whnf)
        refine nxt (WrX.mk (s.length + 1) last va vk vc b) ?_ ?_ (by repeat (first | exact trivial | refine And.intro rfl ?_)) rfl
        · refine ⟨Nat.le_refl _, h2, (show last ≤ s.length + 1 by omega), h4, ?_⟩
          show b ++ (s.drop last).take (s.length + 1 - last) ++ decS (s.drop (s.length + 1)) = decS s
          rw [← h5, List.drop_eq_nil_of_le (by omega : s.length ≤ s.length + 1), List.drop_eq_nil_of_le (Nat.le_refl s.length), List.take_of_length_le (by rw [List.length_drop]; omega), List.take_of_length_le (by rw [List.length_drop]; omega)]
        · show s.length + 1 - (s.length + 1) < s.length + 1 - s.length; omega
      · rintro v H ⟨H1, ⟨e, rfl⟩, rfl⟩
        cases e
    · have h6 : b ++ s.drop last = decS s := by
        rw [← h5, List.drop_eq_nil_of_le (by omega : s.length ≤ s.length + 1), List.take_of_length_le (by rw [List.length_drop]; omega), decS_nil, List.append_nil]
      repeat' (first
        | (conv => whnf); first
          | (apply ch_l; apply sp_i; first | exact rfl | omega | exact ⟨rfl, by omega⟩ | exact ⟨rfl, by omega, by omega, by omega⟩ | exact ⟨⟨_, rfl⟩, by omega⟩ | assumption | (simp; omega))
          | (apply sp_i; first | exact rfl | omega | exact ⟨rfl, rfl, by omega⟩ | exact ⟨rfl, by omega⟩ | exact ⟨rfl, by omega, by omega, by omega⟩ | exact ⟨⟨_, rfl⟩, by omega⟩ | assumption | (simp; omega))
          | (apply sc_true) | (apply sc_false)
          | (first | apply sc_lt | apply sc_nlt | apply sc_eq | apply sc_neq | apply sc_nil | apply sc_nnil); all_goals (intro hb; try (first | (exfalso; omega) | exact absurd rfl hb | exact absurd hb (by decide) | exact absurd (by assumption) hb | (exfalso; simp only [List.length_cons, List.length_nil] at hb; omega)))
          | (apply sc_not) | (apply sc_i; all_goals intro hb)
          | (first | apply ix_nat | apply ix_int | apply sd_nat | apply sd_int | apply sl_nat | apply sl_int); first | omega | (simp only [List.length_cons, List.length_nil, List.length_drop, List.length_take] at *; omega)
          | (apply bx_i; intro hbd) | (apply gt_i; assumption; exact rfl)
          | (apply cx_is; first | fail) | (apply ab_i; intro bl)
          | (apply rt_is; exact rfl) | (apply rt_do; exact rfl; (repeat (first | exact List.nil_sublist _ | apply List.Sublist.cons_cons)))
          | (exact True.intro) | (apply bc_i; intro C hC) | (apply bt_i) | (apply og_n) | (apply og_a; exact rfl))
      all_goals (try conv => whnf)
      · refine dw_p mixed hC hGL false (fun (_ : Option Addr × Nat × Nat) => [(6, .int .i64 (b.length : Nat)), (7, .raw .nilIface), (10, .int .i64 ((s.drop last).length : Nat))]) (fun z => [x0, x1] ++ y.H ++ [rowR (.slice z.1 z.2.1 z.2.2) (b ++ s.drop last), wrC bw (.slice z.1 z.2.1 z.2.2)]) (.take 0 (.take 1 (.take 2 (.take 3 (.br 4 (.br 5 (.take 6 (.br 7 (.take 8 (.take 9 (.take 10 (.take 11 (.take 12 (.done)))))) (.nil))) (.nil)) (.nil)))))) (by kernel_rfl) ?_ ?_
        · repeat' (first
            | (conv => whnf); first
              | (apply ch_l; apply sp_i; first | exact rfl | omega | exact ⟨rfl, by omega⟩ | exact ⟨rfl, by omega, by omega, by omega⟩ | exact ⟨⟨_, rfl⟩, by omega⟩ | assumption | (simp; omega))
              | (apply sp_i; first | exact rfl | omega | exact ⟨rfl, rfl, by omega⟩ | exact ⟨rfl, by omega⟩ | exact ⟨rfl, by omega, by omega, by omega⟩ | exact ⟨⟨_, rfl⟩, by omega⟩ | assumption | (simp; omega))
              | (apply sc_true) | (apply sc_false)
              | (first | apply sc_lt | apply sc_nlt | apply sc_eq | apply sc_neq | apply sc_nil | apply sc_nnil); all_goals (intro hb; try (first | (exfalso; omega) | exact absurd rfl hb | exact absurd hb (by decide) | exact absurd (by assumption) hb | (exfalso; simp only [List.length_cons, List.length_nil] at hb; omega)))
              | (apply sc_not) | (apply sc_i; all_goals intro hb)
              | (first | apply ix_nat | apply ix_int | apply sd_nat | apply sd_int | apply sl_nat | apply sl_int); first | omega | (simp only [List.length_cons, List.length_nil, List.length_drop, List.length_take] at *; omega)
              | (apply bx_i; intro hbd) | (apply gt_i; assumption; exact rfl)
              | (apply cx_is; first | fail) | (apply ab_i; intro bl)
              | (apply rt_is; exact rfl) | (apply rt_do; exact rfl; (repeat (first | exact List.nil_sublist _ | apply List.Sublist.cons_cons)))
              | (exact True.intro) | (apply bc_i; intro C hC) | (apply bt_i) | (apply og_n) | (apply og_a; exact rfl))
          all_goals (try conv => whnf)
          refine op1_run hC hGL (rv_nilCheck_meth rfl (n_asw bw)) rfl rfl ?_
          repeat' (first
            | (conv => whnf); first
              | (apply ch_l; apply sp_i; first | exact rfl | omega | exact ⟨rfl, by omega⟩ | exact ⟨rfl, by omega, by omega, by omega⟩ | exact ⟨⟨_, rfl⟩, by omega⟩ | assumption | (simp; omega))
              | (apply sp_i; first | exact rfl | omega | exact ⟨rfl, rfl, by omega⟩ | exact ⟨rfl, by omega⟩ | exact ⟨rfl, by omega, by omega, by omega⟩ | exact ⟨⟨_, rfl⟩, by omega⟩ | assumption | (simp; omega))
              | (apply sc_true) | (apply sc_false)
              | (first | apply sc_lt | apply sc_nlt | apply sc_eq | apply sc_neq | apply sc_nil | apply sc_nnil); all_goals (intro hb; try (first | (exfalso; omega) | exact absurd rfl hb | exact absurd hb (by decide) | exact absurd (by assumption) hb | (exfalso; simp only [List.length_cons, List.length_nil] at hb; omega)))
              | (apply sc_not) | (apply sc_i; all_goals intro hb)
              | (first | apply ix_nat | apply ix_int | apply sd_nat | apply sd_int | apply sl_nat | apply sl_int); first | omega | (simp only [List.length_cons, List.length_nil, List.length_drop, List.length_take] at *; omega)
              | (apply bx_i; intro hbd) | (apply gt_i; assumption; exact rfl)
              | (apply cx_is; first | fail) | (apply ab_i; intro bl)
              | (apply rt_is; exact rfl) | (apply rt_do; exact rfl; (repeat (first | exact List.nil_sublist _ | apply List.Sublist.cons_cons)))
              | (exact True.intro) | (apply bc_i; intro C hC) | (apply bt_i) | (apply og_n) | (apply og_a; exact rfl))
          all_goals (try conv => whnf)
          refine iv 93 _ (m_asw _) ⟨_, asw_write (G := G) x0 x1 _ _ _ _ _ _ _ bw (.slice va vk vc) b (s.drop last) (by rw [List.length_drop]; omega), ?_, ?_⟩
          · rintro v H ⟨va2, vk2, vc2, e, rfl⟩
            cases e
            repeat' (first
              | (conv => whnf); first
                | (apply ch_l; apply sp_i; first | exact rfl | omega | exact ⟨rfl, by omega⟩ | exact ⟨rfl, by omega, by omega, by omega⟩ | exact ⟨⟨_, rfl⟩, by omega⟩ | assumption | (simp; omega))
                | (apply sp_i; first | exact rfl | omega | exact ⟨rfl, rfl, by omega⟩ | exact ⟨rfl, by omega⟩ | exact ⟨rfl, by omega, by omega, by omega⟩ | exact ⟨⟨_, rfl⟩, by omega⟩ | assumption | (simp; omega))
                | (apply sc_true) | (apply sc_false)
                | (first | apply sc_lt | apply sc_nlt | apply sc_eq | apply sc_neq | apply sc_nil | apply sc_nnil); all_goals (intro hb; try (first | (exfalso; omega) | exact absurd rfl hb | exact absurd hb (by decide) | exact absurd (by assumption) hb | (exfalso; simp only [List.length_cons, List.length_nil] at hb; omega)))
                | (apply sc_not) | (apply sc_i; all_goals intro hb)
                | (first | apply ix_nat | apply ix_int | apply sd_nat | apply sd_int | apply sl_nat | apply sl_int); first | omega | (simp only [List.length_cons, List.length_nil, List.length_drop, List.length_take] at *; omega)
                | (apply bx_i; intro hbd) | (apply gt_i; assumption; exact rfl)
                | (apply cx_is; first | fail) | (apply ab_i; intro bl)
                | (apply rt_is; exact rfl) | (apply rt_do; exact rfl; (repeat (first | exact List.nil_sublist _ | apply List.Sublist.cons_cons)))
                | (exact True.intro) | (apply bc_i; intro C hC) | (apply bt_i) | (apply og_n) | (apply og_a; exact rfl))
            all_goals (try conv => whnf)
            exact ⟨(va2, vk2, vc2), ⟨rfl, rfl, rfl, trivial⟩, rfl⟩
          · rintro v H ⟨va2, vk2, vc2, e, rfl⟩
            cases e
        rintro ⟨va2, vk2, vc2⟩
        have h7 := congrArg List.length h6
        rw [List.length_append, List.length_drop] at h7
        have h8 : (s.drop last).length = s.length - last := List.length_drop
        repeat' (first
          | (conv => whnf); first
            | (apply ch_l; apply sp_i; first | exact rfl | omega | exact ⟨rfl, by omega⟩ | exact ⟨rfl, by omega, by omega, by omega⟩ | exact ⟨⟨_, rfl⟩, by omega⟩ | assumption | (simp; omega))
            | (apply sp_i; first | exact rfl | omega | exact ⟨rfl, rfl, by omega⟩ | exact ⟨rfl, by omega⟩ | exact ⟨rfl, by omega, by omega, by omega⟩ | exact ⟨⟨_, rfl⟩, by omega⟩ | assumption | (simp; omega))
            | (apply sc_true) | (apply sc_false)
            | (first | apply sc_lt | apply sc_nlt | apply sc_eq | apply sc_neq | apply sc_nil | apply sc_nnil); all_goals (intro hb; try (first | (exfalso; omega) | exact absurd rfl hb | exact absurd hb (by decide) | exact absurd (by assumption) hb | (exfalso; simp only [List.length_cons, List.length_nil] at hb; omega)))
            | (apply sc_not) | (apply sc_i; all_goals intro hb)
            | (first | apply ix_nat | apply ix_int | apply sd_nat | apply sd_int | apply sl_nat | apply sl_int); first | omega | (simp only [List.length_cons, List.length_nil, List.length_drop, List.length_take] at *; omega)
            | (apply bx_i; intro hbd) | (apply gt_i; assumption; exact rfl)
            | (apply cx_is; first | fail) | (apply ab_i; intro bl)
            | (apply rt_is; exact rfl) | (apply rt_do; exact rfl; (repeat (first | exact List.nil_sublist _ | apply List.Sublist.cons_cons)))
            | (exact True.intro) | (apply bc_i; intro C hC) | (apply bt_i) | (apply og_n) | (apply og_a; exact rfl))
        all_goals (try conv => whnf)
        all_goals exact ⟨_, List.Sublist.refl _, va2, vk2, vc2, _, rfl, by rw [h6]⟩
      · have hb2 : ((last : Nat) : Int) = (s.length : Nat) := by assumption
        have h9 : last = s.length := by omega
        subst h9
        rw [List.drop_eq_nil_of_le (Nat.le_refl _), List.append_nil] at h6
        subst h6
        exact ⟨_, List.Sublist.refl _, va, vk, vc, _, rfl, rfl⟩
end Go.Proofs.Ytlmihggafbmkaaa
