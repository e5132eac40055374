/- Dates and times: what is wrong with a stamp, the program's side (8.1). -/
import Derived.Test.YtlmihggafbmkaaaDoorWha
import Derived.Test.YtlmihggafbmkaaaDoorMxc
import Derived.Test.YtlmihggafbmkaaaDoorExd
namespace Go.Proofs.YtlmihggafbmkaaaDoor
open Go Go.RowKit
def datA : List UInt8 := [32, 45, 45, 45, 32, 57, 45, 45, 32, 57, 57, 45, 32, 57, 57, 57, 32, 45, 57, 45, 32, 45, 57, 57, 32, 45, 45, 57, 32]
def datB : List UInt8 := [32, 57, 57, 57, 32, 45, 57, 57, 32, 45, 45, 57, 32]
def timB : List UInt8 := [32, 57, 45, 45, 32, 57, 57, 45, 32, 57, 57, 57, 32]
def cnB (l : List UInt8) (a b c : Bool) : Bool := Lib.contains l (([32] ++ fmS a b c) ++ [32])
theorem cnA : ∀ a b c : Bool, cnB datA a b c = decide (0 ≤ whN a b c) := by decide
theorem cnD : ∀ a b c : Bool, cnB datB a b c = decide (whN a b c = 3 ∨ whN a b c = 5 ∨ whN a b c = 6) := by decide
theorem cnT : ∀ a b c : Bool, cnB timB a b c = decide (1 ≤ whN a b c ∧ whN a b c ≤ 3) := by decide
theorem fm_nil : ∀ a b c : Bool, fmS a b c = [45, 45, 45] ↔ whN a b c = 0 := by decide
theorem fm_eq : ∀ a b c d e f : Bool, fmS a b c = fmS d e f ↔ whN a b c = whN d e f := by decide
theorem wh_le : ∀ a b c : Bool, -1 ≤ whN a b c ∧ whN a b c ≤ 6 := by decide
/-- Forms that go together, in numbers. -/
def FrmP (d t : Int) (z : Bool) (h o : Int) : Prop := (0 ≤ d ∧ 0 ≤ t ∧ ¬ (d = 0 ∧ t = 0) ∧ (0 < d ∧ 0 < t → (d = 3 ∨ d = 5 ∨ d = 6) ∧ t ≤ 3)) ∧ (if z then h ≠ -1 else o = 0)
theorem frm_iff (t : Stm) : t.frm = true ↔ FrmP t.dn t.tn t.z t.h t.o := by
  unfold Stm.frm FrmP okN
  rw [Bool.and_eq_true, decide_eq_true_eq]
  refine and_congr Iff.rfl ?_
  cases t.z <;> simp [tlB_t]
theorem cont_fm {G : Glo} {m : Int} (hU : GloAll G (maxTy m)) (l : List UInt8) (hl : l.length < 100000) (a b c : Bool) : FnIs Tryd.prog G 88 [.str l, .str (([32] ++ fmS a b c) ++ [32])] (.bool (cnB l a b c)) := strings_contains hU l _ hl
theorem E_3 {t : Stm} (h : ¬ FrmP t.dn t.tn t.z t.h t.o) : t.E = .errno 3 := by
  unfold Stm.E
  rw [if_neg (fun k => h ((frm_iff t).1 k))]
theorem E_2 {t : Stm} (h : FrmP t.dn t.tn t.z t.h t.o) (k : t.rng = false) : t.E = .errno 2 := by
  unfold Stm.E
  rw [if_pos ((frm_iff t).2 h), k]
  rfl
theorem E_0 {t : Stm} (h : FrmP t.dn t.tn t.z t.h t.o) (k : t.rng = true) : t.E = .none := by
  unfold Stm.E
  rw [if_pos ((frm_iff t).2 h), k]
  rfl
set_option maxRecDepth 20000
set_option maxHeartbeats 4000000
set_option linter.unusedSimpArgs false
set_option linter.unusedVariables false
attribute [local irreducible] AWp AOps SrcOK OrOk GloAll FnSpec byteAt
attribute [local irreducible] fmS cnB witB tlB dayN zrB
theorem when_Right {G : Glo} {m : Int} (hU : GloAll G (maxTy m)) (t : Stm) : FnIs Tryd.prog G 34 [t.A] t.E.A := by
  have h1 := when_form (G := G) t.y t.m t.d
  have h2 := when_form (G := G) t.h t.i t.s
  have h3a := cont_fm (G := G) hU datA (by decide) (tlB t.y) (tlB t.m) (tlB t.d)
  have h3b := cont_fm (G := G) hU datB (by decide) (tlB t.y) (tlB t.m) (tlB t.d)
  have h4a := cont_fm (G := G) hU datA (by decide) (tlB t.h) (tlB t.i) (tlB t.s)
  have h4b := cont_fm (G := G) hU timB (by decide) (tlB t.h) (tlB t.i) (tlB t.s)
  rw [cnA] at h3a h4a
  rw [cnD] at h3b
  rw [cnT] at h4b
  have k1 := fm_nil (tlB t.y) (tlB t.m) (tlB t.d)
  have k2 := fm_nil (tlB t.h) (tlB t.i) (tlB t.s)
  have k3 := fm_eq (tlB t.y) (tlB t.m) (tlB t.d) (tlB t.h) (tlB t.i) (tlB t.s)
  have k4 := wh_le (tlB t.y) (tlB t.m) (tlB t.d)
  have k5 := wh_le (tlB t.h) (tlB t.i) (tlB t.s)
  have h5 := when_Days (G := G) t.y t.m
  have h6 := fun n lo hi => when_within (G := G) n lo hi
  have h7 := zone_Right (G := G) t.o
  have l1 : (fmS (tlB t.y) (tlB t.m) (tlB t.d)).length = 3 := by unfold fmS; rfl
  have l2 : (fmS (tlB t.h) (tlB t.i) (tlB t.s)).length = 3 := by unfold fmS; rfl
  have hGL : GloAll G [] := gloAll_nil
  refine fn_x Tryd.func34 Tryd.call34 rfl rfl rfl rfl hGL ?_
  intro C hC
  repeat' (first
    | (conv => whnf); first
      | (apply ch_l; apply sp_i; first | exact rfl | omega | exact ⟨rfl, rfl, by omega⟩ | exact ⟨rfl, by omega⟩ | exact ⟨rfl, by omega, by omega, by omega⟩ | exact ⟨rfl, by simp, by omega, by omega⟩ | exact ⟨⟨_, rfl⟩, by omega⟩ | exact ⟨⟨_, rfl⟩, by omega, by omega⟩ | assumption | decide | (simp only [List.length_drop, List.length_take, List.length_append, List.length_set, List.length_cons, List.length_nil, OrOk] at *; omega) | (simp; omega))
      | (apply sp_i; first | exact rfl | omega | exact ⟨rfl, rfl, by omega⟩ | exact ⟨rfl, by omega⟩ | exact ⟨rfl, by omega, by omega, by omega⟩ | exact ⟨rfl, by simp, by omega, by omega⟩ | exact ⟨⟨_, rfl⟩, by omega⟩ | exact ⟨⟨_, rfl⟩, by omega, by omega⟩ | assumption | decide | (simp only [List.length_drop, List.length_take, List.length_append, List.length_set, List.length_cons, List.length_nil, OrOk] at *; omega) | (simp; omega))
      | (apply sc_true) | (apply sc_false)
      | (first | apply sc_lt | apply sc_nlt | apply sc_eq | apply sc_neq | apply sc_nil | apply sc_nnil | apply sc_seq | apply sc_nseq); all_goals (intro hb; try (first | (exfalso; omega) | exact absurd rfl hb | exact absurd hb (by decide) | exact absurd hb (by assumption) | exact absurd (by assumption) hb | (exfalso; simp only [List.length_cons, List.length_nil, List.length_append] at hb; omega)))
      | (apply sc_not) | (apply sc_or) | (apply sc_i; all_goals intro hb)
      | (first | apply ix_nat | apply ix_int); first | omega | (simp only [List.length_drop, List.length_take, List.length_append, List.length_set, List.length_cons, List.length_nil] at *; omega)
      | (apply bx_i; intro hbd) | (apply gt_i; assumption; exact rfl)
      | (first | apply sd_nat | apply sd_int | apply sl_nat | apply sl_int); first | omega | (simp only [List.length_drop, List.length_take, List.length_append, List.length_set, List.length_cons, List.length_nil] at *; omega)
      | (apply cx_is; first | fail) | (apply cx_do (i := 0) rfl; first | fail)
      | (apply ab_i; intro bl) | (apply as_i; intro va vk vc hva) | (apply av_i; intro v) | (apply ac_i; intro bl cap hcap)
      | (apply bo_l) | (apply ch_r; apply sp_i; first | assumption | decide) | (apply ch_r; apply sp_i; intro i hi; exact ⟨rfl, rfl, rfl⟩) | (apply nx_i; all_goals intro hnx)
      | (apply Ia.hit; assumption) | (apply Ia.miss; assumption)
      | (apply rt_is; exact rfl) | (apply rt_do; exact rfl; (repeat (first | exact List.nil_sublist _ | apply List.Sublist.cons_cons))) | (apply iv; assumption)
      | (exact True.intro) | (apply bc_i; intro C hC) | (apply bt_i) | (apply og_n) | (apply og_a; exact rfl))
  all_goals (try conv => whnf)
  refine dw_p mixed hC hGL false (fun (_ : Unit) => [(1, .rop [.int .i64 t.y, .int .i64 t.m, .int .i64 t.d, .int .i64 t.h, .int .i64 t.i, .int .i64 t.s, .bool t.z, .int .i64 t.o] 0), (2, .raw .nilIface), (3, .str (fmS (tlB t.y) (tlB t.m) (tlB t.d))), (4, .str (fmS (tlB t.h) (tlB t.i) (tlB t.s)))]) (fun _ => []) (.take 0 (.take 1 (.take 2 (.take 3 (.take 4 (.take 5 (.take 8 (.take 9 (.take 10 (.take 11 (.take 12 (.take 13 (.br 6 (.br 7 (.br 14 (.br 15 (.take 16 (.take 17 (.done))) (.nil)) (.nil)) (.br 14 (.br 7 (.br 15 (.take 16 (.take 17 (.done))) (.nil)) (.nil)) (.nil))) (.br 14 (.br 6 (.br 7 (.br 15 (.take 16 (.take 17 (.done))) (.nil)) (.nil)) (.nil)) (.nil))))))))))))))) (by kernel_rfl) ?_ ?_
  · repeat' (first
      | (conv => whnf); first
        | (apply ch_l; apply sp_i; first | exact rfl | omega | exact ⟨rfl, rfl, by omega⟩ | exact ⟨rfl, by omega⟩ | exact ⟨rfl, by omega, by omega, by omega⟩ | exact ⟨rfl, by simp, by omega, by omega⟩ | exact ⟨⟨_, rfl⟩, by omega⟩ | exact ⟨⟨_, rfl⟩, by omega, by omega⟩ | assumption | decide | (simp only [List.length_drop, List.length_take, List.length_append, List.length_set, List.length_cons, List.length_nil, OrOk] at *; omega) | (simp; omega))
        | (apply sp_i; first | exact rfl | omega | exact ⟨rfl, rfl, by omega⟩ | exact ⟨rfl, by omega⟩ | exact ⟨rfl, by omega, by omega, by omega⟩ | exact ⟨rfl, by simp, by omega, by omega⟩ | exact ⟨⟨_, rfl⟩, by omega⟩ | exact ⟨⟨_, rfl⟩, by omega, by omega⟩ | assumption | decide | (simp only [List.length_drop, List.length_take, List.length_append, List.length_set, List.length_cons, List.length_nil, OrOk] at *; omega) | (simp; omega))
        | (apply sc_true) | (apply sc_false)
        | (first | apply sc_lt | apply sc_nlt | apply sc_eq | apply sc_neq | apply sc_nil | apply sc_nnil | apply sc_seq | apply sc_nseq); all_goals (intro hb; try (first | (exfalso; omega) | exact absurd rfl hb | exact absurd hb (by decide) | exact absurd hb (by assumption) | exact absurd (by assumption) hb | (exfalso; simp only [List.length_cons, List.length_nil, List.length_append] at hb; omega)))
        | (apply sc_not) | (apply sc_or) | (apply sc_i; all_goals intro hb)
        | (first | apply ix_nat | apply ix_int); first | omega | (simp only [List.length_drop, List.length_take, List.length_append, List.length_set, List.length_cons, List.length_nil] at *; omega)
        | (apply bx_i; intro hbd) | (apply gt_i; assumption; exact rfl)
        | (first | apply sd_nat | apply sd_int | apply sl_nat | apply sl_int); first | omega | (simp only [List.length_drop, List.length_take, List.length_append, List.length_set, List.length_cons, List.length_nil] at *; omega)
        | (apply cx_is; first | exact h1 | exact h2) | (apply cx_do (i := 0) rfl; first | exact h1 | exact h2)
        | (apply ab_i; intro bl) | (apply as_i; intro va vk vc hva) | (apply av_i; intro v) | (apply ac_i; intro bl cap hcap)
        | (apply bo_l) | (apply ch_r; apply sp_i; first | assumption | decide) | (apply ch_r; apply sp_i; intro i hi; exact ⟨rfl, rfl, rfl⟩) | (apply nx_i; all_goals intro hnx)
        | (apply Ia.hit; assumption) | (apply Ia.miss; assumption)
        | (apply rt_is; exact rfl) | (apply rt_do; exact rfl; (repeat (first | exact List.nil_sublist _ | apply List.Sublist.cons_cons))) | (apply iv; assumption)
        | (exact True.intro) | (apply bc_i; intro C hC) | (apply bt_i) | (apply og_n) | (apply og_a; exact rfl))
    all_goals (try conv => whnf)
    all_goals exact ⟨(), ⟨rfl, rfl, rfl, rfl, trivial⟩, rfl⟩
  intro _
  clear h1 h2
  have hE3 := fun h => E_3 (t := t) h
  have hE2 := fun h k => E_2 (t := t) h k
  have hE0 := fun h k => E_0 (t := t) h k
  unfold FrmP Stm.dn Stm.tn at hE3 hE2 hE0
  unfold Stm.rng Stm.day at hE2 hE0
  cases hz : t.z
  all_goals
    rw [hz] at hE3 hE2 hE0
    simp only [Bool.false_eq_true, if_false, if_true] at hE3 hE2 hE0
    repeat' (first
      | (conv => whnf); first
        | (apply ch_l; apply sp_i; first | exact rfl | omega | exact ⟨rfl, rfl, by omega⟩ | exact ⟨rfl, by omega⟩ | exact ⟨rfl, by omega, by omega, by omega⟩ | exact ⟨rfl, by simp, by omega, by omega⟩ | exact ⟨⟨_, rfl⟩, by omega⟩ | exact ⟨⟨_, rfl⟩, by omega, by omega⟩ | assumption | decide | (simp only [List.length_drop, List.length_take, List.length_append, List.length_set, List.length_cons, List.length_nil, OrOk] at *; omega) | (simp; omega))
        | (apply sp_i; first | exact rfl | omega | exact ⟨rfl, rfl, by omega⟩ | exact ⟨rfl, by omega⟩ | exact ⟨rfl, by omega, by omega, by omega⟩ | exact ⟨rfl, by simp, by omega, by omega⟩ | exact ⟨⟨_, rfl⟩, by omega⟩ | exact ⟨⟨_, rfl⟩, by omega, by omega⟩ | assumption | decide | (simp only [List.length_drop, List.length_take, List.length_append, List.length_set, List.length_cons, List.length_nil, OrOk] at *; omega) | (simp; omega))
        | (apply sc_true) | (apply sc_false)
        | (first | apply sc_lt | apply sc_nlt | apply sc_eq | apply sc_neq | apply sc_nil | apply sc_nnil | apply sc_seq | apply sc_nseq); all_goals (intro hb; try (first | (exfalso; omega) | exact absurd rfl hb | exact absurd hb (by decide) | exact absurd hb (by assumption) | exact absurd (by assumption) hb | (exfalso; simp only [List.length_cons, List.length_nil, List.length_append] at hb; omega)))
        | (apply sc_not) | (apply sc_or) | (apply sc_i; all_goals intro hb)
        | (first | apply ix_nat | apply ix_int); first | omega | (simp only [List.length_drop, List.length_take, List.length_append, List.length_set, List.length_cons, List.length_nil] at *; omega)
        | (apply bx_i; intro hbd) | (apply gt_i; assumption; exact rfl)
        | (first | apply sd_nat | apply sd_int | apply sl_nat | apply sl_int); first | omega | (simp only [List.length_drop, List.length_take, List.length_append, List.length_set, List.length_cons, List.length_nil] at *; omega)
        | (apply cx_is; first | exact h3a | exact h3b | exact h4a | exact h4b | exact h5 | exact h6 _ _ _ | exact h7) | (apply cx_do (i := 0) rfl; first | exact h3a | exact h3b | exact h4a | exact h4b | exact h5 | exact h6 _ _ _ | exact h7)
        | (apply ab_i; intro bl) | (apply as_i; intro va vk vc hva) | (apply av_i; intro v) | (apply ac_i; intro bl cap hcap)
        | (apply bo_l) | (apply ch_r; apply sp_i; first | assumption | decide) | (apply ch_r; apply sp_i; intro i hi; exact ⟨rfl, rfl, rfl⟩) | (apply nx_i; all_goals intro hnx)
        | (apply Ia.hit; assumption) | (apply Ia.miss; assumption)
        | (apply rt_is; exact rfl) | (apply rt_do; exact rfl; (repeat (first | exact List.nil_sublist _ | apply List.Sublist.cons_cons))) | (apply iv; assumption)
        | (exact True.intro) | (apply bc_i; intro C hC) | (apply bt_i) | (apply og_n) | (apply og_a; exact rfl))
    all_goals (try conv => whnf)
    all_goals
      clear h3a h3b h4a h4b h5 h6 h7
      simp only [ne_eq, fm_nil, fm_eq, decide_eq_true_eq, decide_eq_false_iff_not] at *
      apply rt_is
      generalize whN (tlB t.y) (tlB t.m) (tlB t.d) = dn at *
      generalize whN (tlB t.h) (tlB t.i) (tlB t.s) = tn at *
      generalize zrB t.o = zr at *
      first | rw [if_neg (by assumption)] at hE2 hE0 | rw [if_pos (by assumption)] at hE2 hE0 | skip
      generalize witB t.m 1 12 = w1 at *
      generalize witB t.d 1 (dayN t.y t.m) = w2 at *
      generalize witB t.d 1 31 = w8 at *
      generalize witB t.h 0 23 = w3 at *
      generalize witB t.i 0 59 = w4 at *
      generalize witB t.s 0 59 = w5 at *
      generalize witB t.y 0 9999 = w6 at *
      first
        | (rw [hE3 (by omega)]; rfl)
        | (rw [hE2 (by omega) (by simp [*])]; rfl)
        | (rw [hE0 (by omega) (by simp [*])]; rfl)
end Go.Proofs.YtlmihggafbmkaaaDoor
