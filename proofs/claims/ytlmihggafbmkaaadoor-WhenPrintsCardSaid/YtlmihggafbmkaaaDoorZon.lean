/- Package zone, and the reference's answers of 7.1. -/
import Derived.Test.YtlmihggafbmkaaaDoorByt
import Derived.Test.YtlmihggafbmkaaaDoorPlc
import Derived.Test.YtlmihggafbmkaaaDoorNm
import Derived.Test.YtlmihggafbmkaaaDoorShelf
namespace Go.Proofs.YtlmihggafbmkaaaDoor
open Go Go.RowKit
/-- Two digits. -/
def twoS (n : Int) : List UInt8 := bytesI [48 + n / 10, 48 + n % 10]
def zrB (n : Int) : Bool := decide (-840 ≤ n ∧ n ≤ 840)
theorem zrB_t {n : Int} : zrB n = true ↔ (-840 ≤ n ∧ n ≤ 840) := by simp [zrB]
theorem zrB_f {n : Int} : zrB n = false ↔ ¬ (-840 ≤ n ∧ n ≤ 840) := by simp [zrB]
/-- Minutes as text. -/
def zprS (n : Int) : List UInt8 := if zrB n then (if n = 0 then [90] else if n < 0 then ([45] ++ twoS ((0 - n) / 60)) ++ twoS ((0 - n) % 60) else ([43] ++ twoS (n / 60)) ++ twoS (n % 60)) else []
def zprE (n : Int) : Err := if zrB n then .none else .errno 2
set_option maxRecDepth 20000
set_option maxHeartbeats 4000000
set_option linter.unusedSimpArgs false
set_option linter.unusedVariables false
attribute [local irreducible] AWp AOps byteAt SrcOK OrOk GloAll FnSpec
attribute [local irreducible] zrB
theorem zone_Right {G : Glo} (n : Int) : FnIs Tryd.prog G 41 [.int .i64 n] (.bool (zrB n)) := by
  have hGL : GloAll G [] := gloAll_nil
  refine fn_x Tryd.func41 Tryd.call41 rfl rfl rfl rfl hGL ?_
  intro C hC
  repeat' (first
    | (conv => whnf); first
      | (apply ch_l; apply sp_i; first | exact rfl | omega | exact ⟨rfl, rfl, by omega⟩ | exact ⟨rfl, by omega⟩ | exact ⟨rfl, by omega, by omega, by omega⟩ | exact ⟨⟨_, rfl⟩, by omega⟩ | exact ⟨⟨_, rfl⟩, by omega, by omega⟩ | assumption | decide | (simp only [List.length_drop, List.length_take, List.length_append, List.length_set, List.length_cons, List.length_nil, OrOk] at *; omega) | (simp; omega))
      | (apply sp_i; first | exact rfl | omega | exact ⟨rfl, rfl, by omega⟩ | exact ⟨rfl, by omega⟩ | exact ⟨rfl, by omega, by omega, by omega⟩ | exact ⟨⟨_, rfl⟩, by omega⟩ | exact ⟨⟨_, rfl⟩, by omega, by omega⟩ | assumption | decide | (simp only [List.length_drop, List.length_take, List.length_append, List.length_set, List.length_cons, List.length_nil, OrOk] at *; omega) | (simp; omega))
      | (apply sc_true) | (apply sc_false)
      | (first | apply sc_lt | apply sc_nlt | apply sc_eq | apply sc_neq | apply sc_nil | apply sc_nnil | apply sc_seq | apply sc_nseq); all_goals (intro hb; try (first | (exfalso; omega) | exact absurd rfl hb | exact absurd hb (by decide) | exact absurd hb (by assumption) | exact absurd (by assumption) hb | (exfalso; simp only [List.length_cons, List.length_nil, List.length_append] at hb; omega)))
      | (apply sc_not) | (apply sc_or) | (apply sc_i; all_goals intro hb)
      | (first | apply ix_nat | apply ix_int); first | omega | (simp only [List.length_drop, List.length_take, List.length_append, List.length_set, List.length_cons, List.length_nil] at *; omega)
      | (apply bx_i; intro hbd) | (apply gt_i; assumption; exact rfl)
      | (first | apply sd_nat | apply sd_int | apply sl_nat | apply sl_int); first | omega | (simp only [List.length_drop, List.length_take, List.length_append, List.length_set, List.length_cons, List.length_nil] at *; omega)
      | (apply cx_is; first | fail) | (apply cx_do (i := 0) rfl; first | fail)
      | (apply ab_i; intro bl) | (apply as_i; intro va vk vc hva) | (apply av_i; intro v) | (apply ac_i; intro bl cap hcap)
      | (apply bo_l) | (apply ch_r; apply sp_i; first | assumption | decide) | (apply ch_r; apply sp_i; intro i hi; exact ⟨rfl, rfl, rfl⟩) | (apply nx_i; all_goals intro hnx)
      | (apply Ia.hit; assumption) | (apply Ia.miss; assumption)
      | (apply rt_is; exact rfl) | (apply rt_do; exact rfl; (repeat (first | exact List.nil_sublist _ | apply List.Sublist.cons_cons))) | (apply iv; assumption)
      | (apply dw_q mixed hC hGL (by kernel_rfl))
      | (apply cq; assumption; (first | fail); exact rfl))
  all_goals (try conv => whnf)
  all_goals (apply rt_is; refine congrArg AVal.bool ?_; rw [Bool.eq_iff_iff]; simp only [zrB_t, reduceCtorEq, false_iff, true_iff, Bool.not_eq_true', ltB_f]; omega)
theorem ref_ZoneRight {G : Glo} (n : Int) : FnIs Tryd.prog G 42 [.int .i64 n] (.bool (zrB n)) := by
  have hGL : GloAll G [] := gloAll_nil
  refine fn_x Tryd.func42 Tryd.call42 rfl rfl rfl rfl hGL ?_
  intro C hC
  have hw := ref_within (G := G) n (-840) 840
  repeat' (first
    | (conv => whnf); first
      | (apply ch_l; apply sp_i; first | exact rfl | omega | exact ⟨rfl, rfl, by omega⟩ | exact ⟨rfl, by omega⟩ | exact ⟨rfl, by omega, by omega, by omega⟩ | exact ⟨⟨_, rfl⟩, by omega⟩ | exact ⟨⟨_, rfl⟩, by omega, by omega⟩ | assumption | decide | (simp only [List.length_drop, List.length_take, List.length_append, List.length_set, List.length_cons, List.length_nil, OrOk] at *; omega) | (simp; omega))
      | (apply sp_i; first | exact rfl | omega | exact ⟨rfl, rfl, by omega⟩ | exact ⟨rfl, by omega⟩ | exact ⟨rfl, by omega, by omega, by omega⟩ | exact ⟨⟨_, rfl⟩, by omega⟩ | exact ⟨⟨_, rfl⟩, by omega, by omega⟩ | assumption | decide | (simp only [List.length_drop, List.length_take, List.length_append, List.length_set, List.length_cons, List.length_nil, OrOk] at *; omega) | (simp; omega))
      | (apply sc_true) | (apply sc_false)
      | (first | apply sc_lt | apply sc_nlt | apply sc_eq | apply sc_neq | apply sc_nil | apply sc_nnil | apply sc_seq | apply sc_nseq); all_goals (intro hb; try (first | (exfalso; omega) | exact absurd rfl hb | exact absurd hb (by decide) | exact absurd hb (by assumption) | exact absurd (by assumption) hb | (exfalso; simp only [List.length_cons, List.length_nil, List.length_append] at hb; omega)))
      | (apply sc_not) | (apply sc_or) | (apply sc_i; all_goals intro hb)
      | (first | apply ix_nat | apply ix_int); first | omega | (simp only [List.length_drop, List.length_take, List.length_append, List.length_set, List.length_cons, List.length_nil] at *; omega)
      | (apply bx_i; intro hbd) | (apply gt_i; assumption; exact rfl)
      | (first | apply sd_nat | apply sd_int | apply sl_nat | apply sl_int); first | omega | (simp only [List.length_drop, List.length_take, List.length_append, List.length_set, List.length_cons, List.length_nil] at *; omega)
      | (apply cx_is; first | exact hw) | (apply cx_do (i := 0) rfl; first | exact hw)
      | (apply ab_i; intro bl) | (apply as_i; intro va vk vc hva) | (apply av_i; intro v) | (apply ac_i; intro bl cap hcap)
      | (apply bo_l) | (apply ch_r; apply sp_i; first | assumption | decide) | (apply ch_r; apply sp_i; intro i hi; exact ⟨rfl, rfl, rfl⟩) | (apply nx_i; all_goals intro hnx)
      | (apply Ia.hit; assumption) | (apply Ia.miss; assumption)
      | (apply rt_is; exact rfl) | (apply rt_do; exact rfl; (repeat (first | exact List.nil_sublist _ | apply List.Sublist.cons_cons))) | (apply iv; assumption)
      | (apply dw_q mixed hC hGL (by kernel_rfl))
      | (apply cq; assumption; (first | exact hw); exact rfl))
  all_goals (try conv => whnf)
  apply rt_is
  refine congrArg AVal.bool ?_
  rw [Bool.eq_iff_iff, zrB_t]
  simp
theorem zone_two {G : Glo} (n : Int) (h0 : 0 ≤ n) (h1 : n < 100) : FnIs Tryd.prog G 91 [.int .i64 n] (.str (twoS n)) := by
  have hGL : GloAll G [] := gloAll_nil
  refine fn_x Tryd.func91 Tryd.call91 rfl rfl rfl rfl hGL ?_
  intro C hC
  repeat' (first
    | (conv => whnf); first
      | (apply ch_l; apply sp_i; first | exact rfl | omega | exact ⟨rfl, rfl, by omega⟩ | exact ⟨rfl, by omega⟩ | exact ⟨rfl, by omega, by omega, by omega⟩ | exact ⟨⟨_, rfl⟩, by omega⟩ | exact ⟨⟨_, rfl⟩, by omega, by omega⟩ | assumption | decide | (simp only [List.length_drop, List.length_take, List.length_append, List.length_set, List.length_cons, List.length_nil, OrOk] at *; omega) | (simp; omega))
      | (apply sp_i; first | exact rfl | omega | exact ⟨rfl, rfl, by omega⟩ | exact ⟨rfl, by omega⟩ | exact ⟨rfl, by omega, by omega, by omega⟩ | exact ⟨⟨_, rfl⟩, by omega⟩ | exact ⟨⟨_, rfl⟩, by omega, by omega⟩ | assumption | decide | (simp only [List.length_drop, List.length_take, List.length_append, List.length_set, List.length_cons, List.length_nil, OrOk] at *; omega) | (simp; omega))
      | (apply sc_true) | (apply sc_false)
      | (first | apply sc_lt | apply sc_nlt | apply sc_eq | apply sc_neq | apply sc_nil | apply sc_nnil | apply sc_seq | apply sc_nseq); all_goals (intro hb; try (first | (exfalso; omega) | exact absurd rfl hb | exact absurd hb (by decide) | exact absurd hb (by assumption) | exact absurd (by assumption) hb | (exfalso; simp only [List.length_cons, List.length_nil, List.length_append] at hb; omega)))
      | (apply sc_not) | (apply sc_or) | (apply sc_i; all_goals intro hb)
      | (first | apply ix_nat | apply ix_int); first | omega | (simp only [List.length_drop, List.length_take, List.length_append, List.length_set, List.length_cons, List.length_nil] at *; omega)
      | (apply bx_i; intro hbd) | (apply gt_i; assumption; exact rfl)
      | (first | apply sd_nat | apply sd_int | apply sl_nat | apply sl_int); first | omega | (simp only [List.length_drop, List.length_take, List.length_append, List.length_set, List.length_cons, List.length_nil] at *; omega)
      | (apply cx_is; first | fail) | (apply cx_do (i := 0) rfl; first | fail)
      | (apply ab_i; intro bl) | (apply as_i; intro va vk vc hva) | (apply av_i; intro v) | (apply ac_i; intro bl cap hcap)
      | (apply bo_l) | (apply ch_r; apply sp_i; first | assumption | decide) | (apply ch_r; apply sp_i; intro i hi; exact ⟨rfl, rfl, rfl⟩) | (apply nx_i; all_goals intro hnx)
      | (apply Ia.hit; assumption) | (apply Ia.miss; assumption)
      | (apply rt_is; exact rfl) | (apply rt_do; exact rfl; (repeat (first | exact List.nil_sublist _ | apply List.Sublist.cons_cons))) | (apply iv; assumption)
      | (apply dw_q mixed hC hGL (by kernel_rfl))
      | (apply cq; assumption; (first | fail); exact rfl))
  all_goals (try conv => whnf)
  refine op1_run hC hGL (rv_bytes [_, _] rfl (by intro v hv; simp only [List.mem_cons, List.not_mem_nil, or_false] at hv; omega) rfl rfl rfl rfl rfl rfl) rfl rfl ?_
  repeat' (first
    | (conv => whnf); first
      | (apply ch_l; apply sp_i; first | exact rfl | omega | exact ⟨rfl, rfl, by omega⟩ | exact ⟨rfl, by omega⟩ | exact ⟨rfl, by omega, by omega, by omega⟩ | exact ⟨⟨_, rfl⟩, by omega⟩ | exact ⟨⟨_, rfl⟩, by omega, by omega⟩ | assumption | decide | (simp only [List.length_drop, List.length_take, List.length_append, List.length_set, List.length_cons, List.length_nil, OrOk] at *; omega) | (simp; omega))
      | (apply sp_i; first | exact rfl | omega | exact ⟨rfl, rfl, by omega⟩ | exact ⟨rfl, by omega⟩ | exact ⟨rfl, by omega, by omega, by omega⟩ | exact ⟨⟨_, rfl⟩, by omega⟩ | exact ⟨⟨_, rfl⟩, by omega, by omega⟩ | assumption | decide | (simp only [List.length_drop, List.length_take, List.length_append, List.length_set, List.length_cons, List.length_nil, OrOk] at *; omega) | (simp; omega))
      | (apply sc_true) | (apply sc_false)
      | (first | apply sc_lt | apply sc_nlt | apply sc_eq | apply sc_neq | apply sc_nil | apply sc_nnil | apply sc_seq | apply sc_nseq); all_goals (intro hb; try (first | (exfalso; omega) | exact absurd rfl hb | exact absurd hb (by decide) | exact absurd hb (by assumption) | exact absurd (by assumption) hb | (exfalso; simp only [List.length_cons, List.length_nil, List.length_append] at hb; omega)))
      | (apply sc_not) | (apply sc_or) | (apply sc_i; all_goals intro hb)
      | (first | apply ix_nat | apply ix_int); first | omega | (simp only [List.length_drop, List.length_take, List.length_append, List.length_set, List.length_cons, List.length_nil] at *; omega)
      | (apply bx_i; intro hbd) | (apply gt_i; assumption; exact rfl)
      | (first | apply sd_nat | apply sd_int | apply sl_nat | apply sl_int); first | omega | (simp only [List.length_drop, List.length_take, List.length_append, List.length_set, List.length_cons, List.length_nil] at *; omega)
      | (apply cx_is; first | fail) | (apply cx_do (i := 0) rfl; first | fail)
      | (apply ab_i; intro bl) | (apply as_i; intro va vk vc hva) | (apply av_i; intro v) | (apply ac_i; intro bl cap hcap)
      | (apply bo_l) | (apply ch_r; apply sp_i; first | assumption | decide) | (apply ch_r; apply sp_i; intro i hi; exact ⟨rfl, rfl, rfl⟩) | (apply nx_i; all_goals intro hnx)
      | (apply Ia.hit; assumption) | (apply Ia.miss; assumption)
      | (apply rt_is; exact rfl) | (apply rt_do; exact rfl; (repeat (first | exact List.nil_sublist _ | apply List.Sublist.cons_cons))) | (apply iv; assumption)
      | (apply dw_q mixed hC hGL (by kernel_rfl))
      | (apply cq; assumption; (first | fail); exact rfl))
  all_goals (try conv => whnf)
theorem twoS_len (n : Int) : (twoS n).length = 2 := rfl
attribute [local irreducible] twoS
theorem zone_Print {G : Glo} (n : Int) : FnIs Tryd.prog G 38 [.int .i64 n] (.tuple [.str (zprS n), (zprE n).A]) := by
  have hGL : GloAll G [] := gloAll_nil
  refine fn_x Tryd.func38 Tryd.call38 rfl rfl rfl rfl hGL ?_
  intro C hC
  have h1 := zone_Right (G := G) n
  have h2 := fun k h0 h1 => zone_two (G := G) k h0 h1
  have l1 := twoS_len ((0 - n) / 60)
  have l2 := twoS_len ((0 - n) % 60)
  have l3 := twoS_len (n / 60)
  have l4 := twoS_len (n % 60)
  cases hz : zrB n with
  | false =>
    rw [hz] at h1
    repeat' (first
      | (conv => whnf); first
        | (apply ch_l; apply sp_i; first | exact rfl | omega | exact ⟨rfl, rfl, by omega⟩ | exact ⟨rfl, by omega⟩ | exact ⟨rfl, by omega, by omega, by omega⟩ | exact ⟨⟨_, rfl⟩, by omega⟩ | exact ⟨⟨_, rfl⟩, by omega, by omega⟩ | assumption | decide | (simp only [List.length_drop, List.length_take, List.length_append, List.length_set, List.length_cons, List.length_nil, OrOk] at *; omega) | (simp; omega))
        | (apply sp_i; first | exact rfl | omega | exact ⟨rfl, rfl, by omega⟩ | exact ⟨rfl, by omega⟩ | exact ⟨rfl, by omega, by omega, by omega⟩ | exact ⟨⟨_, rfl⟩, by omega⟩ | exact ⟨⟨_, rfl⟩, by omega, by omega⟩ | assumption | decide | (simp only [List.length_drop, List.length_take, List.length_append, List.length_set, List.length_cons, List.length_nil, OrOk] at *; omega) | (simp; omega))
        | (apply sc_true) | (apply sc_false)
        | (first | apply sc_lt | apply sc_nlt | apply sc_eq | apply sc_neq | apply sc_nil | apply sc_nnil | apply sc_seq | apply sc_nseq); all_goals (intro hb; try (first | (exfalso; omega) | exact absurd rfl hb | exact absurd hb (by decide) | exact absurd hb (by assumption) | exact absurd (by assumption) hb | (exfalso; simp only [List.length_cons, List.length_nil, List.length_append] at hb; omega)))
        | (apply sc_not) | (apply sc_or) | (apply sc_i; all_goals intro hb)
        | (first | apply ix_nat | apply ix_int); first | omega | (simp only [List.length_drop, List.length_take, List.length_append, List.length_set, List.length_cons, List.length_nil] at *; omega)
        | (apply bx_i; intro hbd) | (apply gt_i; assumption; exact rfl)
        | (first | apply sd_nat | apply sd_int | apply sl_nat | apply sl_int); first | omega | (simp only [List.length_drop, List.length_take, List.length_append, List.length_set, List.length_cons, List.length_nil] at *; omega)
        | (apply cx_is; first | exact h1) | (apply cx_do (i := 0) rfl; first | exact h1)
        | (apply ab_i; intro bl) | (apply as_i; intro va vk vc hva) | (apply av_i; intro v) | (apply ac_i; intro bl cap hcap)
        | (apply bo_l) | (apply ch_r; apply sp_i; first | assumption | decide) | (apply ch_r; apply sp_i; intro i hi; exact ⟨rfl, rfl, rfl⟩) | (apply nx_i; all_goals intro hnx)
        | (apply Ia.hit; assumption) | (apply Ia.miss; assumption)
        | (apply rt_is; exact rfl) | (apply rt_do; exact rfl; (repeat (first | exact List.nil_sublist _ | apply List.Sublist.cons_cons))) | (apply iv; assumption)
        | (apply dw_q mixed hC hGL (by kernel_rfl))
        | (apply cq; assumption; (first | exact h1); exact rfl))
    all_goals (try conv => whnf)
    apply rt_is
    rw [zprS, zprE, hz]
    rfl
  | true =>
    rw [hz] at h1
    have hz2 := zrB_t.1 hz
    repeat' (first
      | (conv => whnf); first
        | (apply ch_l; apply sp_i; first | exact rfl | omega | exact ⟨rfl, rfl, by omega⟩ | exact ⟨rfl, by omega⟩ | exact ⟨rfl, by omega, by omega, by omega⟩ | exact ⟨⟨_, rfl⟩, by omega⟩ | exact ⟨⟨_, rfl⟩, by omega, by omega⟩ | assumption | decide | (simp only [List.length_drop, List.length_take, List.length_append, List.length_set, List.length_cons, List.length_nil, OrOk] at *; omega) | (simp; omega))
        | (apply sp_i; first | exact rfl | omega | exact ⟨rfl, rfl, by omega⟩ | exact ⟨rfl, by omega⟩ | exact ⟨rfl, by omega, by omega, by omega⟩ | exact ⟨⟨_, rfl⟩, by omega⟩ | exact ⟨⟨_, rfl⟩, by omega, by omega⟩ | assumption | decide | (simp only [List.length_drop, List.length_take, List.length_append, List.length_set, List.length_cons, List.length_nil, OrOk] at *; omega) | (simp; omega))
        | (apply sc_true) | (apply sc_false)
        | (first | apply sc_lt | apply sc_nlt | apply sc_eq | apply sc_neq | apply sc_nil | apply sc_nnil | apply sc_seq | apply sc_nseq); all_goals (intro hb; try (first | (exfalso; omega) | exact absurd rfl hb | exact absurd hb (by decide) | exact absurd hb (by assumption) | exact absurd (by assumption) hb | (exfalso; simp only [List.length_cons, List.length_nil, List.length_append] at hb; omega)))
        | (apply sc_not) | (apply sc_or) | (apply sc_i; all_goals intro hb)
        | (first | apply ix_nat | apply ix_int); first | omega | (simp only [List.length_drop, List.length_take, List.length_append, List.length_set, List.length_cons, List.length_nil] at *; omega)
        | (apply bx_i; intro hbd) | (apply gt_i; assumption; exact rfl)
        | (first | apply sd_nat | apply sd_int | apply sl_nat | apply sl_int); first | omega | (simp only [List.length_drop, List.length_take, List.length_append, List.length_set, List.length_cons, List.length_nil] at *; omega)
        | (apply cx_is; first | exact h1 | (exact h2 _ (by omega) (by omega))) | (apply cx_do (i := 0) rfl; first | exact h1 | (exact h2 _ (by omega) (by omega)))
        | (apply ab_i; intro bl) | (apply as_i; intro va vk vc hva) | (apply av_i; intro v) | (apply ac_i; intro bl cap hcap)
        | (apply bo_l) | (apply ch_r; apply sp_i; first | assumption | decide) | (apply ch_r; apply sp_i; intro i hi; exact ⟨rfl, rfl, rfl⟩) | (apply nx_i; all_goals intro hnx)
        | (apply Ia.hit; assumption) | (apply Ia.miss; assumption)
        | (apply rt_is; exact rfl) | (apply rt_do; exact rfl; (repeat (first | exact List.nil_sublist _ | apply List.Sublist.cons_cons))) | (apply iv; assumption)
        | (apply dw_q mixed hC hGL (by kernel_rfl))
        | (apply cq; assumption; (first | exact h1 | (exact h2 _ (by omega) (by omega))); exact rfl))
    all_goals (try conv => whnf)
    · apply rt_is
      rw [zprS, zprE, hz, if_pos rfl, if_pos hb]
      rfl
    · apply rt_is
      rw [zprS, zprE, hz, if_pos rfl, if_neg (by omega), if_pos hb]
      rfl
    · apply rt_is
      rw [zprS, zprE, hz, if_pos rfl, if_neg (by omega), if_neg (by omega)]
      rfl
theorem formatInt_small {G : Glo} (i : Nat) (hi : i < 100) : FnIs Tryd.prog G 122 [.int .i64 (i : Int), .int .i64 10] (.str (Lib.decDigits i)) := by
  refine fnis_of_calls rfl Tryd.call122 ?_
  intro R args hr w _ _
  obtain ⟨x, t, e, hx, y, t', e', hy, rfl⟩ := hr
  have hx := rel_int.1 hx
  have hy := rel_int.1 hy
  subst hx hy
  obtain rfl : args = #[.int .i64 (i : Int), .int .i64 10] := by cases args; simp_all
  refine (Tryd.strconv_FormatInt_10_small i hi w).mono ?_
  rintro e w' ⟨rfl, rfl⟩
  exact ⟨rfl, Below.refl _ _⟩
theorem decDigits_one {i : Nat} (h : i < 10) : Lib.decDigits i = [UInt8.ofNat (48 + i)] := by
  rw [Lib.decDigits, dif_pos h]
theorem decDigits_two {i : Nat} (h : 10 ≤ i) (h1 : i < 100) : Lib.decDigits i = [UInt8.ofNat (48 + i / 10), UInt8.ofNat (48 + i % 10)] := by
  rw [Lib.decDigits, dif_neg (by omega), decDigits_one (by omega)]
  rfl
theorem twoS_nat (i : Nat) : twoS (i : Int) = [UInt8.ofNat (48 + i / 10), UInt8.ofNat (48 + i % 10)] := by
  unfold twoS bytesI
  simp only [List.map]
  rw [show (48 + (i : Int) / 10).toNat = 48 + i / 10 by omega, show (48 + (i : Int) % 10).toNat = 48 + i % 10 by omega]
theorem ref_digits_two {G : Glo} (i : Nat) (h1 : i < 100) : FnIs Tryd.prog G 90 [.int .i64 (i : Int), .int .i64 10, .int .i64 2] (.str (twoS i)) := by
  have hGL : GloAll G [] := gloAll_nil
  refine fn_x Tryd.func90 Tryd.call90 rfl rfl rfl rfl hGL ?_
  intro C hC
  have hf := formatInt_small (G := G) i h1
  rw [twoS_nat]
  by_cases h : i < 10
  · rw [decDigits_one h] at hf
    repeat' (first
      | (conv => whnf); first
        | (apply ch_l; apply sp_i; first | exact rfl | omega | exact ⟨rfl, rfl, by omega⟩ | exact ⟨rfl, by omega⟩ | exact ⟨rfl, by omega, by omega, by omega⟩ | exact ⟨⟨_, rfl⟩, by omega⟩ | exact ⟨⟨_, rfl⟩, by omega, by omega⟩ | assumption | decide | (simp only [List.length_drop, List.length_take, List.length_append, List.length_set, List.length_cons, List.length_nil, OrOk] at *; omega) | (simp; omega))
        | (apply sp_i; first | exact rfl | omega | exact ⟨rfl, rfl, by omega⟩ | exact ⟨rfl, by omega⟩ | exact ⟨rfl, by omega, by omega, by omega⟩ | exact ⟨⟨_, rfl⟩, by omega⟩ | exact ⟨⟨_, rfl⟩, by omega, by omega⟩ | assumption | decide | (simp only [List.length_drop, List.length_take, List.length_append, List.length_set, List.length_cons, List.length_nil, OrOk] at *; omega) | (simp; omega))
        | (apply sc_true) | (apply sc_false)
        | (first | apply sc_lt | apply sc_nlt | apply sc_eq | apply sc_neq | apply sc_nil | apply sc_nnil | apply sc_seq | apply sc_nseq); all_goals (intro hb; try (first | (exfalso; omega) | exact absurd rfl hb | exact absurd hb (by decide) | exact absurd hb (by assumption) | exact absurd (by assumption) hb | (exfalso; simp only [List.length_cons, List.length_nil, List.length_append] at hb; omega)))
        | (apply sc_not) | (apply sc_or) | (apply sc_i; all_goals intro hb)
        | (first | apply ix_nat | apply ix_int); first | omega | (simp only [List.length_drop, List.length_take, List.length_append, List.length_set, List.length_cons, List.length_nil] at *; omega)
        | (apply bx_i; intro hbd) | (apply gt_i; assumption; exact rfl)
        | (first | apply sd_nat | apply sd_int | apply sl_nat | apply sl_int); first | omega | (simp only [List.length_drop, List.length_take, List.length_append, List.length_set, List.length_cons, List.length_nil] at *; omega)
        | (apply cx_is; first | exact hf) | (apply cx_do (i := 0) rfl; first | exact hf)
        | (apply ab_i; intro bl) | (apply as_i; intro va vk vc hva) | (apply av_i; intro v) | (apply ac_i; intro bl cap hcap)
        | (apply bo_l) | (apply ch_r; apply sp_i; first | assumption | decide) | (apply ch_r; apply sp_i; intro i hi; exact ⟨rfl, rfl, rfl⟩) | (apply nx_i; all_goals intro hnx)
        | (apply Ia.hit; assumption) | (apply Ia.miss; assumption)
        | (apply rt_is; exact rfl) | (apply rt_do; exact rfl; (repeat (first | exact List.nil_sublist _ | apply List.Sublist.cons_cons))) | (apply iv; assumption)
        | (apply dw_q mixed hC hGL (by kernel_rfl))
        | (apply cq; assumption; (first | exact hf); exact rfl))
    all_goals (try conv => whnf)
    refine rds hC hGL 2 ?_
    repeat' (first
      | (conv => whnf); first
        | (apply ch_l; apply sp_i; first | exact rfl | omega | exact ⟨rfl, rfl, by omega⟩ | exact ⟨rfl, by omega⟩ | exact ⟨rfl, by omega, by omega, by omega⟩ | exact ⟨⟨_, rfl⟩, by omega⟩ | exact ⟨⟨_, rfl⟩, by omega, by omega⟩ | assumption | decide | (simp only [List.length_drop, List.length_take, List.length_append, List.length_set, List.length_cons, List.length_nil, OrOk] at *; omega) | (simp; omega))
        | (apply sp_i; first | exact rfl | omega | exact ⟨rfl, rfl, by omega⟩ | exact ⟨rfl, by omega⟩ | exact ⟨rfl, by omega, by omega, by omega⟩ | exact ⟨⟨_, rfl⟩, by omega⟩ | exact ⟨⟨_, rfl⟩, by omega, by omega⟩ | assumption | decide | (simp only [List.length_drop, List.length_take, List.length_append, List.length_set, List.length_cons, List.length_nil, OrOk] at *; omega) | (simp; omega))
        | (apply sc_true) | (apply sc_false)
        | (first | apply sc_lt | apply sc_nlt | apply sc_eq | apply sc_neq | apply sc_nil | apply sc_nnil | apply sc_seq | apply sc_nseq); all_goals (intro hb; try (first | (exfalso; omega) | exact absurd rfl hb | exact absurd hb (by decide) | exact absurd hb (by assumption) | exact absurd (by assumption) hb | (exfalso; simp only [List.length_cons, List.length_nil, List.length_append] at hb; omega)))
        | (apply sc_not) | (apply sc_or) | (apply sc_i; all_goals intro hb)
        | (first | apply ix_nat | apply ix_int); first | omega | (simp only [List.length_drop, List.length_take, List.length_append, List.length_set, List.length_cons, List.length_nil] at *; omega)
        | (apply bx_i; intro hbd) | (apply gt_i; assumption; exact rfl)
        | (first | apply sd_nat | apply sd_int | apply sl_nat | apply sl_int); first | omega | (simp only [List.length_drop, List.length_take, List.length_append, List.length_set, List.length_cons, List.length_nil] at *; omega)
        | (apply cx_is; first | fail) | (apply cx_do (i := 0) rfl; first | fail)
        | (apply ab_i; intro bl) | (apply as_i; intro va vk vc hva) | (apply av_i; intro v) | (apply ac_i; intro bl cap hcap)
        | (apply bo_l) | (apply ch_r; apply sp_i; first | assumption | decide) | (apply ch_r; apply sp_i; intro i hi; exact ⟨rfl, rfl, rfl⟩) | (apply nx_i; all_goals intro hnx)
        | (apply Ia.hit; assumption) | (apply Ia.miss; assumption)
        | (apply rt_is; exact rfl) | (apply rt_do; exact rfl; (repeat (first | exact List.nil_sublist _ | apply List.Sublist.cons_cons))) | (apply iv; assumption)
        | (apply dw_q mixed hC hGL (by kernel_rfl))
        | (apply cq; assumption; (first | fail); exact rfl))
    all_goals (try conv => whnf)
    apply rt_is
    rw [show i / 10 = 0 by omega, show i % 10 = i by omega]
    rfl
  · rw [decDigits_two (by omega) h1] at hf
    repeat' (first
      | (conv => whnf); first
        | (apply ch_l; apply sp_i; first | exact rfl | omega | exact ⟨rfl, rfl, by omega⟩ | exact ⟨rfl, by omega⟩ | exact ⟨rfl, by omega, by omega, by omega⟩ | exact ⟨⟨_, rfl⟩, by omega⟩ | exact ⟨⟨_, rfl⟩, by omega, by omega⟩ | assumption | decide | (simp only [List.length_drop, List.length_take, List.length_append, List.length_set, List.length_cons, List.length_nil, OrOk] at *; omega) | (simp; omega))
        | (apply sp_i; first | exact rfl | omega | exact ⟨rfl, rfl, by omega⟩ | exact ⟨rfl, by omega⟩ | exact ⟨rfl, by omega, by omega, by omega⟩ | exact ⟨⟨_, rfl⟩, by omega⟩ | exact ⟨⟨_, rfl⟩, by omega, by omega⟩ | assumption | decide | (simp only [List.length_drop, List.length_take, List.length_append, List.length_set, List.length_cons, List.length_nil, OrOk] at *; omega) | (simp; omega))
        | (apply sc_true) | (apply sc_false)
        | (first | apply sc_lt | apply sc_nlt | apply sc_eq | apply sc_neq | apply sc_nil | apply sc_nnil | apply sc_seq | apply sc_nseq); all_goals (intro hb; try (first | (exfalso; omega) | exact absurd rfl hb | exact absurd hb (by decide) | exact absurd hb (by assumption) | exact absurd (by assumption) hb | (exfalso; simp only [List.length_cons, List.length_nil, List.length_append] at hb; omega)))
        | (apply sc_not) | (apply sc_or) | (apply sc_i; all_goals intro hb)
        | (first | apply ix_nat | apply ix_int); first | omega | (simp only [List.length_drop, List.length_take, List.length_append, List.length_set, List.length_cons, List.length_nil] at *; omega)
        | (apply bx_i; intro hbd) | (apply gt_i; assumption; exact rfl)
        | (first | apply sd_nat | apply sd_int | apply sl_nat | apply sl_int); first | omega | (simp only [List.length_drop, List.length_take, List.length_append, List.length_set, List.length_cons, List.length_nil] at *; omega)
        | (apply cx_is; first | exact hf) | (apply cx_do (i := 0) rfl; first | exact hf)
        | (apply ab_i; intro bl) | (apply as_i; intro va vk vc hva) | (apply av_i; intro v) | (apply ac_i; intro bl cap hcap)
        | (apply bo_l) | (apply ch_r; apply sp_i; first | assumption | decide) | (apply ch_r; apply sp_i; intro i hi; exact ⟨rfl, rfl, rfl⟩) | (apply nx_i; all_goals intro hnx)
        | (apply Ia.hit; assumption) | (apply Ia.miss; assumption)
        | (apply rt_is; exact rfl) | (apply rt_do; exact rfl; (repeat (first | exact List.nil_sublist _ | apply List.Sublist.cons_cons))) | (apply iv; assumption)
        | (apply dw_q mixed hC hGL (by kernel_rfl))
        | (apply cq; assumption; (first | exact hf); exact rfl))
    all_goals (try conv => whnf)
    refine rds hC hGL 1 ?_
    repeat' (first
      | (conv => whnf); first
        | (apply ch_l; apply sp_i; first | exact rfl | omega | exact ⟨rfl, rfl, by omega⟩ | exact ⟨rfl, by omega⟩ | exact ⟨rfl, by omega, by omega, by omega⟩ | exact ⟨⟨_, rfl⟩, by omega⟩ | exact ⟨⟨_, rfl⟩, by omega, by omega⟩ | assumption | decide | (simp only [List.length_drop, List.length_take, List.length_append, List.length_set, List.length_cons, List.length_nil, OrOk] at *; omega) | (simp; omega))
        | (apply sp_i; first | exact rfl | omega | exact ⟨rfl, rfl, by omega⟩ | exact ⟨rfl, by omega⟩ | exact ⟨rfl, by omega, by omega, by omega⟩ | exact ⟨⟨_, rfl⟩, by omega⟩ | exact ⟨⟨_, rfl⟩, by omega, by omega⟩ | assumption | decide | (simp only [List.length_drop, List.length_take, List.length_append, List.length_set, List.length_cons, List.length_nil, OrOk] at *; omega) | (simp; omega))
        | (apply sc_true) | (apply sc_false)
        | (first | apply sc_lt | apply sc_nlt | apply sc_eq | apply sc_neq | apply sc_nil | apply sc_nnil | apply sc_seq | apply sc_nseq); all_goals (intro hb; try (first | (exfalso; omega) | exact absurd rfl hb | exact absurd hb (by decide) | exact absurd hb (by assumption) | exact absurd (by assumption) hb | (exfalso; simp only [List.length_cons, List.length_nil, List.length_append] at hb; omega)))
        | (apply sc_not) | (apply sc_or) | (apply sc_i; all_goals intro hb)
        | (first | apply ix_nat | apply ix_int); first | omega | (simp only [List.length_drop, List.length_take, List.length_append, List.length_set, List.length_cons, List.length_nil] at *; omega)
        | (apply bx_i; intro hbd) | (apply gt_i; assumption; exact rfl)
        | (first | apply sd_nat | apply sd_int | apply sl_nat | apply sl_int); first | omega | (simp only [List.length_drop, List.length_take, List.length_append, List.length_set, List.length_cons, List.length_nil] at *; omega)
        | (apply cx_is; first | fail) | (apply cx_do (i := 0) rfl; first | fail)
        | (apply ab_i; intro bl) | (apply as_i; intro va vk vc hva) | (apply av_i; intro v) | (apply ac_i; intro bl cap hcap)
        | (apply bo_l) | (apply ch_r; apply sp_i; first | assumption | decide) | (apply ch_r; apply sp_i; intro i hi; exact ⟨rfl, rfl, rfl⟩) | (apply nx_i; all_goals intro hnx)
        | (apply Ia.hit; assumption) | (apply Ia.miss; assumption)
        | (apply rt_is; exact rfl) | (apply rt_do; exact rfl; (repeat (first | exact List.nil_sublist _ | apply List.Sublist.cons_cons))) | (apply iv; assumption)
        | (apply dw_q mixed hC hGL (by kernel_rfl))
        | (apply cq; assumption; (first | fail); exact rfl))
    all_goals (try conv => whnf)
theorem ref_ZonePrint {G : Glo} (n : Int) : FnIs Tryd.prog G 37 [.int .i64 n] (.tuple [.str (zprS n), .int .i64 (zprE n).e]) := by
  have hGL : GloAll G [] := gloAll_nil
  refine fn_x Tryd.func37 Tryd.call37 rfl rfl rfl rfl hGL ?_
  intro C hC
  have h1 := ref_ZoneRight (G := G) n
  have h2 := fun (k : Int) (h0 : 0 ≤ k) (h1 : k < 100) => (show FnIs Tryd.prog G 90 [.int .i64 k, .int .i64 10, .int .i64 2] (.str (twoS k)) by obtain ⟨i, rfl⟩ := Int.eq_ofNat_of_zero_le h0; exact ref_digits_two i (by omega))
  have l1 := twoS_len ((0 - n) / 60)
  have l2 := twoS_len ((0 - n) % 60)
  have l3 := twoS_len (n / 60)
  have l4 := twoS_len (n % 60)
  cases hz : zrB n with
  | false =>
    rw [hz] at h1
    repeat' (first
      | (conv => whnf); first
        | (apply ch_l; apply sp_i; first | exact rfl | omega | exact ⟨rfl, rfl, by omega⟩ | exact ⟨rfl, by omega⟩ | exact ⟨rfl, by omega, by omega, by omega⟩ | exact ⟨⟨_, rfl⟩, by omega⟩ | exact ⟨⟨_, rfl⟩, by omega, by omega⟩ | assumption | decide | (simp only [List.length_drop, List.length_take, List.length_append, List.length_set, List.length_cons, List.length_nil, OrOk] at *; omega) | (simp; omega))
        | (apply sp_i; first | exact rfl | omega | exact ⟨rfl, rfl, by omega⟩ | exact ⟨rfl, by omega⟩ | exact ⟨rfl, by omega, by omega, by omega⟩ | exact ⟨⟨_, rfl⟩, by omega⟩ | exact ⟨⟨_, rfl⟩, by omega, by omega⟩ | assumption | decide | (simp only [List.length_drop, List.length_take, List.length_append, List.length_set, List.length_cons, List.length_nil, OrOk] at *; omega) | (simp; omega))
        | (apply sc_true) | (apply sc_false)
        | (first | apply sc_lt | apply sc_nlt | apply sc_eq | apply sc_neq | apply sc_nil | apply sc_nnil | apply sc_seq | apply sc_nseq); all_goals (intro hb; try (first | (exfalso; omega) | exact absurd rfl hb | exact absurd hb (by decide) | exact absurd hb (by assumption) | exact absurd (by assumption) hb | (exfalso; simp only [List.length_cons, List.length_nil, List.length_append] at hb; omega)))
        | (apply sc_not) | (apply sc_or) | (apply sc_i; all_goals intro hb)
        | (first | apply ix_nat | apply ix_int); first | omega | (simp only [List.length_drop, List.length_take, List.length_append, List.length_set, List.length_cons, List.length_nil] at *; omega)
        | (apply bx_i; intro hbd) | (apply gt_i; assumption; exact rfl)
        | (first | apply sd_nat | apply sd_int | apply sl_nat | apply sl_int); first | omega | (simp only [List.length_drop, List.length_take, List.length_append, List.length_set, List.length_cons, List.length_nil] at *; omega)
        | (apply cx_is; first | exact h1) | (apply cx_do (i := 0) rfl; first | exact h1)
        | (apply ab_i; intro bl) | (apply as_i; intro va vk vc hva) | (apply av_i; intro v) | (apply ac_i; intro bl cap hcap)
        | (apply bo_l) | (apply ch_r; apply sp_i; first | assumption | decide) | (apply ch_r; apply sp_i; intro i hi; exact ⟨rfl, rfl, rfl⟩) | (apply nx_i; all_goals intro hnx)
        | (apply Ia.hit; assumption) | (apply Ia.miss; assumption)
        | (apply rt_is; exact rfl) | (apply rt_do; exact rfl; (repeat (first | exact List.nil_sublist _ | apply List.Sublist.cons_cons))) | (apply iv; assumption)
        | (apply dw_q mixed hC hGL (by kernel_rfl))
        | (apply cq; assumption; (first | exact h1); exact rfl))
    all_goals (try conv => whnf)
    apply rt_is
    rw [zprS, zprE, hz]
    rfl
  | true =>
    rw [hz] at h1
    have hz2 := zrB_t.1 hz
    repeat' (first
      | (conv => whnf); first
        | (apply ch_l; apply sp_i; first | exact rfl | omega | exact ⟨rfl, rfl, by omega⟩ | exact ⟨rfl, by omega⟩ | exact ⟨rfl, by omega, by omega, by omega⟩ | exact ⟨⟨_, rfl⟩, by omega⟩ | exact ⟨⟨_, rfl⟩, by omega, by omega⟩ | assumption | decide | (simp only [List.length_drop, List.length_take, List.length_append, List.length_set, List.length_cons, List.length_nil, OrOk] at *; omega) | (simp; omega))
        | (apply sp_i; first | exact rfl | omega | exact ⟨rfl, rfl, by omega⟩ | exact ⟨rfl, by omega⟩ | exact ⟨rfl, by omega, by omega, by omega⟩ | exact ⟨⟨_, rfl⟩, by omega⟩ | exact ⟨⟨_, rfl⟩, by omega, by omega⟩ | assumption | decide | (simp only [List.length_drop, List.length_take, List.length_append, List.length_set, List.length_cons, List.length_nil, OrOk] at *; omega) | (simp; omega))
        | (apply sc_true) | (apply sc_false)
        | (first | apply sc_lt | apply sc_nlt | apply sc_eq | apply sc_neq | apply sc_nil | apply sc_nnil | apply sc_seq | apply sc_nseq); all_goals (intro hb; try (first | (exfalso; omega) | exact absurd rfl hb | exact absurd hb (by decide) | exact absurd hb (by assumption) | exact absurd (by assumption) hb | (exfalso; simp only [List.length_cons, List.length_nil, List.length_append] at hb; omega)))
        | (apply sc_not) | (apply sc_or) | (apply sc_i; all_goals intro hb)
        | (first | apply ix_nat | apply ix_int); first | omega | (simp only [List.length_drop, List.length_take, List.length_append, List.length_set, List.length_cons, List.length_nil] at *; omega)
        | (apply bx_i; intro hbd) | (apply gt_i; assumption; exact rfl)
        | (first | apply sd_nat | apply sd_int | apply sl_nat | apply sl_int); first | omega | (simp only [List.length_drop, List.length_take, List.length_append, List.length_set, List.length_cons, List.length_nil] at *; omega)
        | (apply cx_is; first | exact h1 | (exact h2 _ (by omega) (by omega))) | (apply cx_do (i := 0) rfl; first | exact h1 | (exact h2 _ (by omega) (by omega)))
        | (apply ab_i; intro bl) | (apply as_i; intro va vk vc hva) | (apply av_i; intro v) | (apply ac_i; intro bl cap hcap)
        | (apply bo_l) | (apply ch_r; apply sp_i; first | assumption | decide) | (apply ch_r; apply sp_i; intro i hi; exact ⟨rfl, rfl, rfl⟩) | (apply nx_i; all_goals intro hnx)
        | (apply Ia.hit; assumption) | (apply Ia.miss; assumption)
        | (apply rt_is; exact rfl) | (apply rt_do; exact rfl; (repeat (first | exact List.nil_sublist _ | apply List.Sublist.cons_cons))) | (apply iv; assumption)
        | (apply dw_q mixed hC hGL (by kernel_rfl))
        | (apply cq; assumption; (first | exact h1 | (exact h2 _ (by omega) (by omega))); exact rfl))
    all_goals (try conv => whnf)
    · apply rt_is
      rw [zprS, zprE, hz, if_pos rfl, if_pos hb]
      rfl
    · apply rt_is
      rw [zprS, zprE, hz, if_pos rfl, if_neg (by omega), if_pos hb]
      rfl
    · apply rt_is
      rw [zprS, zprE, hz, if_pos rfl, if_neg (by omega), if_neg (by omega)]
      rfl
end Go.Proofs.YtlmihggafbmkaaaDoor
