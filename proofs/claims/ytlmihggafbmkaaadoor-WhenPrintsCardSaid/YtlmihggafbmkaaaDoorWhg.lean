/- Dates and times: the text of a stamp, the reference's side (8.2). -/
import Derived.Test.YtlmihggafbmkaaaDoorWhf
namespace Go.Proofs.YtlmihggafbmkaaaDoor
open Go Go.RowKit
set_option maxRecDepth 20000
set_option maxHeartbeats 8000000
set_option linter.unusedSimpArgs false
set_option linter.unusedVariables false
/-- How many digits a form has. -/
def holes : List UInt8 → Nat
  | [] => 0
  | c :: r => if c = 57 then holes r + 1 else holes r
theorem fill_step {form : List UInt8} {i : Nat} (h : i < form.length) : form.drop i = form[i] :: form.drop (i + 1) := List.drop_eq_getElem_cons h
theorem hole_step {form : List UInt8} {i : Nat} (h : i < form.length) (hc : form[i] = 57) : holes (form.drop i) = holes (form.drop (i + 1)) + 1 := by
  rw [fill_step h, holes, if_pos hc]
theorem hole_else {form : List UInt8} {i : Nat} (h : i < form.length) (hc : form[i] ≠ 57) : holes (form.drop i) = holes (form.drop (i + 1)) := by
  rw [fill_step h, holes, if_neg hc]
theorem fillS_hole {form all : List UInt8} {i : Nat} (h : i < form.length) (hc : form[i] = 57) (ha : 0 < all.length) : fillS (form.drop i) all = bytesI [(byteAt all 0 : Int)] ++ fillS (form.drop (i + 1)) (all.drop 1) := by
  rw [fill_step h]
  cases all with
  | nil => cases ha
  | cons x t =>
    rw [fillS, if_pos hc]
    have : bytesI [(byteAt (x :: t) 0 : Int)] = [x] := by
      show [UInt8.ofNat x.toNat] = [x]
      rw [UInt8.ofNat_toNat]
    rw [this]
    rfl
theorem fillS_else {form all : List UInt8} {i : Nat} (h : i < form.length) (hc : form[i] ≠ 57) : fillS (form.drop i) all = bytesI [(byteAt form i : Int)] ++ fillS (form.drop (i + 1)) all := by
  rw [fill_step h]
  have e : fillS (form[i] :: form.drop (i + 1)) all = form[i] :: fillS (form.drop (i + 1)) all := by simp only [fillS, if_neg hc]
  rw [e]
  have : bytesI [(byteAt form i : Int)] = [form[i]] := by
    rw [byteAt_getElem h]
    show [UInt8.ofNat form[i].toNat] = _
    rw [UInt8.ofNat_toNat]
  rw [this]
  rfl
theorem at57 {form : List UInt8} {i : Nat} (h : i < form.length) : form[i] = 57 ↔ (byteAt form i : Int) = 57 := by
  rw [byteAt_getElem h, ← UInt8.toNat_inj]
  constructor
  · intro k; rw [k]; rfl
  · intro k; have : form[i].toNat = 57 := by omega
    rw [this]; rfl
theorem okN_d {t : Stm} (hf : t.frm = true) : 0 ≤ whN (tlB t.y) (tlB t.m) (tlB t.d) ∧ whN (tlB t.y) (tlB t.m) (tlB t.d) < 7 := by
  have := ((frm_iff t).1 hf).1
  have h2 := wh_le (tlB t.y) (tlB t.m) (tlB t.d)
  unfold Stm.dn Stm.tn at this
  omega
theorem okN_t {t : Stm} (hf : t.frm = true) : 0 ≤ whN (tlB t.h) (tlB t.i) (tlB t.s) ∧ whN (tlB t.h) (tlB t.i) (tlB t.s) < 7 := by
  have := ((frm_iff t).1 hf).1
  have h2 := wh_le (tlB t.h) (tlB t.i) (tlB t.s)
  unfold Stm.dn Stm.tn at this
  omega
theorem dateF_len (i : Nat) : (dateF i).length ≤ 8 := by
  match i with
  | 0 | 1 | 2 | 3 | 4 | 5 | 6 => decide
  | n + 7 => exact Nat.zero_le _
theorem clkF_len (i : Nat) : (clkF i).length ≤ 6 := by
  match i with
  | 0 | 1 | 2 | 3 | 4 | 5 | 6 => decide
  | n + 7 => exact Nat.zero_le _
def numP (t : Stm) : Nat → Int
  | 0 => t.m
  | 1 => t.d
  | 2 => t.h
  | 3 => t.i
  | _ => t.s
/-- The numbers of a stamp that are told, in digits: the first so many. -/
def allP (t : Stm) : Nat → List UInt8
  | 0 => if t.y = -1 then [] else fourS t.y
  | k + 1 => if numP t k = -1 then allP t k else allP t k ++ twoS (numP t k)
theorem all_in {t : Stm} {A : List UInt8} {k : Nat} (hA : A = allP t k) (h : numP t k ≠ -1) : A ++ twoS (numP t k) = allP t (k + 1) := by
  rw [allP, if_neg h, hA]
theorem all_out {t : Stm} {A : List UInt8} {k : Nat} (hA : A = allP t k) (h : numP t k = -1) : A = allP t (k + 1) := by
  rw [allP, if_pos h, hA]
theorem all_le (t : Stm) : ∀ k, (allP t k).length ≤ 4 + 2 * k
  | 0 => by
    unfold allP
    split
    · exact Nat.zero_le _
    · exact Nat.le_refl _
  | k + 1 => by
    have := all_le t k
    unfold allP
    split
    · omega
    · rw [List.length_append, show (twoS (numP t k)).length = 2 from rfl]; omega
/-- So far. -/
def FillP (form A : List UInt8) (i : Nat) (out all : List UInt8) : Prop := i ≤ form.length ∧ out.length = i ∧ all.length ≤ 100 ∧ holes (form.drop i) ≤ all.length ∧ out ++ fillS (form.drop i) all = fillS form A
theorem fill_init {form A : List UInt8} (h : holes form ≤ A.length) (hl : A.length ≤ 4 + 2 * 5) : FillP form A 0 [] A := ⟨Nat.zero_le _, rfl, by omega, by rw [List.drop_zero]; exact h, by rw [List.drop_zero]; rfl⟩
theorem fill_pos {form A : List UInt8} {i : Nat} {out all : List UInt8} (h : FillP form A i out all) (hb : i < form.length ∧ (byteAt form i : Int) = 57) : 0 < all.length := by
  have h4 := h.2.2.2.1
  rw [hole_step hb.1 ((at57 hb.1).2 hb.2)] at h4
  omega
theorem fill_hole {form A : List UInt8} {i : Nat} {out all : List UInt8} (h : FillP form A i out all) (h1 : i < form.length) (hb : (byteAt form i : Int) = 57) : FillP form A (i + 1) (out ++ bytesI [(byteAt all 0 : Int)]) (all.drop 1) := by
  have hp := fill_pos h ⟨h1, hb⟩
  obtain ⟨a, b, c, d, e⟩ := h
  have hc := (at57 h1).2 hb
  rw [hole_step h1 hc] at d
  rw [fillS_hole h1 hc hp, ← List.append_assoc] at e
  refine ⟨h1, ?_, ?_, ?_, e⟩
  · rw [List.length_append, b]; rfl
  · rw [List.length_drop]; omega
  · rw [List.length_drop]; omega
theorem fill_else {form A : List UInt8} {i : Nat} {out all : List UInt8} (h : FillP form A i out all) (h1 : i < form.length) (hb : (byteAt form i : Int) ≠ 57) : FillP form A (i + 1) (out ++ bytesI [(byteAt form i : Int)]) all := by
  obtain ⟨a, b, c, d, e⟩ := h
  have hc : form[i] ≠ 57 := fun k => hb ((at57 h1).1 k)
  rw [hole_else h1 hc] at d
  rw [fillS_else h1 hc, ← List.append_assoc] at e
  refine ⟨h1, ?_, c, d, e⟩
  rw [List.length_append, b]; rfl
theorem fill_end {form A : List UInt8} {i : Nat} {out all : List UInt8} (h : FillP form A i out all) (h1 : form.length ≤ i) : out = fillS form A := by
  obtain ⟨a, b, c, d, e⟩ := h
  rw [List.drop_of_length_le h1] at e
  rw [← e]
  simp [fillS]
theorem fill_time {t : Stm} (hf : t.frm = true) (h : 0 < whN (tlB t.h) (tlB t.i) (tlB t.s)) : holes (dateF (whN (tlB t.y) (tlB t.m) (tlB t.d)).toNat ++ ([84] ++ clkF (whN (tlB t.h) (tlB t.i) (tlB t.s)).toNat)) ≤ (allP t 5).length ∧ fillS (dateF (whN (tlB t.y) (tlB t.m) (tlB t.d)).toNat ++ ([84] ++ clkF (whN (tlB t.h) (tlB t.i) (tlB t.s)).toNat)) (allP t 5) = dateS (tlB t.y) (tlB t.m) (tlB t.d) t.y t.m t.d ++ timeS (tlB t.h) (tlB t.i) (tlB t.s) t.h t.i t.s := by
  refine tl_cases hf fun k kz => ?_
  clear kz
  revert h k
  cases e1 : tlB t.y <;> cases e2 : tlB t.m <;> cases e3 : tlB t.d <;> cases e4 : tlB t.h <;> cases e5 : tlB t.i <;> cases e6 : tlB t.s <;> intro h k <;> first | exact absurd k (by decide) | exact absurd h (by decide) | (simp only [tlB_t, tlB_f] at e1 e2 e3 e4 e5 e6; simp only [allP, numP, e1, e2, e3, e4, e5, e6, if_true, if_false]; exact ⟨Nat.le_refl _, rfl⟩)
theorem fill_date {t : Stm} (hf : t.frm = true) (h : whN (tlB t.h) (tlB t.i) (tlB t.s) ≤ 0) : holes (dateF (whN (tlB t.y) (tlB t.m) (tlB t.d)).toNat) ≤ (allP t 5).length ∧ fillS (dateF (whN (tlB t.y) (tlB t.m) (tlB t.d)).toNat) (allP t 5) = dateS (tlB t.y) (tlB t.m) (tlB t.d) t.y t.m t.d ++ timeS (tlB t.h) (tlB t.i) (tlB t.s) t.h t.i t.s := by
  refine tl_cases hf fun k kz => ?_
  clear kz
  revert h k
  cases e1 : tlB t.y <;> cases e2 : tlB t.m <;> cases e3 : tlB t.d <;> cases e4 : tlB t.h <;> cases e5 : tlB t.i <;> cases e6 : tlB t.s <;> intro h k <;> first | exact absurd k (by decide) | exact absurd h (by decide) | (simp only [tlB_t, tlB_f] at e1 e2 e3 e4 e5 e6; simp only [allP, numP, e1, e2, e3, e4, e5, e6, if_true, if_false]; exact ⟨Nat.le_refl _, rfl⟩)
attribute [local irreducible] AWp AOps SrcOK OrOk GloAll FnSpec byteAt fourS twoS zprS fillS
theorem when_two_int {G : Glo} (k : Int) (h0 : 0 ≤ k) (h1 : k < 100) : FnIs Tryd.prog G 90 [.int .i64 k, .int .i64 10, .int .i64 2] (.str (twoS k)) := by
  obtain ⟨i, rfl⟩ := Int.eq_ofNat_of_zero_le h0
  exact ref_digits_two i (by omega)
theorem when_four_int {G : Glo} (hP : PowIs G) (k : Int) (h0 : 0 ≤ k) (h1 : k < 10000) : FnIs Tryd.prog G 90 [.int .i64 k, .int .i64 10, .int .i64 4] (.str (fourS k)) := by
  obtain ⟨i, rfl⟩ := Int.eq_ofNat_of_zero_le h0
  exact ref_digits_four hP i (by omega)
theorem ref_whenText {G : Glo} (hGL : GloAll G shapesTy) (hP : PowIs G) (t : Stm) (hf : t.frm = true) (hr : t.rng = true) : FnIs Tryd.prog G 85 [t.A] (.str t.txt) := by
  have h1 := ref_which hGL t.y t.m t.d
  have h2 := ref_which hGL t.h t.i t.s
  have h3 := ref_ZonePrint (G := G) t.o
  have kd : 0 ≤ whN (tlB t.y) (tlB t.m) (tlB t.d) ∧ whN (tlB t.y) (tlB t.m) (tlB t.d) < 7 := okN_d hf
  have kt := okN_t hf
  have hc := Tryd.call120
  have l1 := four_len t.y
  have l2 := two_len t.m
  have l3 := two_len t.d
  have l4 := two_len t.h
  have l5 := two_len t.i
  have l6 := two_len t.s
  have l7 := zpr_len t.o
  have l8 := dateF_len (whN (tlB t.y) (tlB t.m) (tlB t.d)).toNat
  have l9 := clkF_len (whN (tlB t.h) (tlB t.i) (tlB t.s)).toNat
  have r := hr
  unfold Stm.rng at r
  simp only [Bool.and_eq_true, witB_t] at r
  obtain ⟨r1, r2, r3, r4, r5, r6, -⟩ := r
  have r3' : t.d = -1 ∨ 1 ≤ t.d ∧ t.d ≤ 31 := by
    refine r3.imp_right fun h => ⟨h.1, ?_⟩
    have := h.2
    unfold Stm.day dayN at this
    (repeat' split at this) <;> omega
  refine tl_cases hf fun k kz => ?_
  unfold Stm.txt
  refine fn_x Tryd.func85 Tryd.call85 rfl rfl rfl rfl hGL ?_
  intro C hC
  by_cases hy : t.y = -1
  · repeat' (first
      | (conv => whnf); first
        | (apply ch_l; apply sp_i; first | exact rfl | omega | exact ⟨rfl, rfl, by omega⟩ | exact ⟨rfl, by omega⟩ | exact ⟨rfl, by omega, by omega, by omega⟩ | exact ⟨rfl, by simp, by omega, by omega⟩ | exact ⟨⟨_, rfl⟩, by omega⟩ | exact ⟨⟨_, rfl⟩, by omega, by omega⟩ | assumption | decide | (simp only [List.length_drop, List.length_take, List.length_append, List.length_set, List.length_cons, List.length_nil, OrOk] at *; omega) | (simp; omega))
        | (apply sp_i; first | exact rfl | omega | exact ⟨rfl, rfl, by omega⟩ | exact ⟨rfl, by omega⟩ | exact ⟨rfl, by omega, by omega, by omega⟩ | exact ⟨rfl, by simp, by omega, by omega⟩ | exact ⟨⟨_, rfl⟩, by omega⟩ | exact ⟨⟨_, rfl⟩, by omega, by omega⟩ | assumption | decide | (simp only [List.length_drop, List.length_take, List.length_append, List.length_set, List.length_cons, List.length_nil, OrOk] at *; omega) | (simp; omega))
        | (apply sc_true) | (apply sc_false)
        | (first | apply sc_lt | apply sc_nlt | apply sc_eq | apply sc_neq | apply sc_nil | apply sc_nnil | apply sc_seq | apply sc_nseq); all_goals (intro hb; try (first | (exfalso; omega) | exact absurd rfl hb | exact absurd hb (by decide) | exact absurd hb (by assumption) | exact absurd (by assumption) hb | (exfalso; simp only [List.length_cons, List.length_nil, List.length_append] at hb; omega)))
        | (apply sc_not) | (apply sc_or) | (apply sc_i; all_goals intro hb)
        | (first | apply ix_nat | apply ix_int); first | omega | (simp only [List.length_drop, List.length_take, List.length_append, List.length_set, List.length_cons, List.length_nil] at *; omega)
        | (apply bx_i; intro hbd) | (apply gt_i; assumption; exact rfl)
        | (first | apply sd_nat | apply sd_int | apply sl_nat | apply sl_int); first | omega | (simp only [List.length_drop, List.length_take, List.length_append, List.length_set, List.length_cons, List.length_nil] at *; omega)
        | (apply cx_is; first | exact when_four_int hP _ (by omega) (by omega)) | (apply cx_do (i := 0) rfl; first | exact when_four_int hP _ (by omega) (by omega))
        | (apply ab_i; intro bl) | (apply as_i; intro va vk vc hva) | (apply av_i; intro v) | (apply ac_i; intro bl cap hcap)
        | (apply bo_l) | (apply ch_r; apply sp_i; first | assumption | decide) | (apply ch_r; apply sp_i; intro i hi; exact ⟨rfl, rfl, rfl⟩) | (apply nx_i; all_goals intro hnx)
        | (apply Ia.hit; assumption) | (apply Ia.miss; assumption)
        | (apply rt_is; exact rfl) | (apply rt_do; exact rfl; (repeat (first | exact List.nil_sublist _ | apply List.Sublist.cons_cons))) | (apply iv; assumption)
        | (exact True.intro) | (apply bc_i; intro C hC) | (apply bt_i) | (apply og_n) | (apply og_a; exact rfl))
    all_goals (try conv => whnf)
    refine lp hC hGL (fun (x : Nat × List UInt8) => [(1, .rop [.int .i64 t.y, .int .i64 t.m, .int .i64 t.d, .int .i64 t.h, .int .i64 t.i, .int .i64 t.s, .bool t.z, .int .i64 t.o] 0), (3, .str x.2), (29, .list 1 5 (partElem [(0, .int .i64 t.m), (1, .int .i64 t.d), (2, .int .i64 t.h), (3, .int .i64 t.i), (4, .int .i64 t.s)])), (30, .int .i64 5), (31, .int .i64 (x.1 : Nat))]) (fun _ => []) (fun x => x.1 ≤ 5 ∧ x.2 = allP t x.1) (fun x => 5 - x.1) (0, []) ⟨show 0 ≤ 5 by decide, (if_pos hy).symm⟩ (by repeat (first | exact trivial | refine And.intro rfl ?_)) rfl ?_
    rintro ⟨k', A⟩ ⟨hk, hA⟩
    have hk : k' ≤ 5 := hk
    have hA : A = allP t k' := hA
    have hl := all_le t k'
    rw [← hA] at hl
    rcases (show k' = 0 ∨ k' = 1 ∨ k' = 2 ∨ k' = 3 ∨ k' = 4 ∨ k' = 5 by omega) with rfl | rfl | rfl | rfl | rfl | rfl
    · repeat' (first
        | (conv => whnf); first
          | (apply ch_l; apply sp_i; first | exact rfl | omega | exact ⟨rfl, by omega⟩ | exact ⟨rfl, by omega, by omega, by omega⟩ | exact ⟨rfl, by simp, by omega, by omega⟩ | exact ⟨⟨_, rfl⟩, by omega⟩ | assumption | (simp; omega))
          | (apply sp_i; first | exact rfl | omega | exact ⟨rfl, rfl, by omega⟩ | exact ⟨rfl, by omega⟩ | exact ⟨rfl, by omega, by omega, by omega⟩ | exact ⟨rfl, by simp, by omega, by omega⟩ | exact ⟨⟨_, rfl⟩, by omega⟩ | assumption | (simp; omega))
          | (apply sc_true) | (apply sc_false)
          | (first | apply sc_lt | apply sc_nlt | apply sc_eq | apply sc_neq | apply sc_nil | apply sc_nnil); all_goals (intro hb; try (first | (exfalso; omega) | exact absurd rfl hb | exact absurd hb (by decide) | exact absurd (by assumption) hb | (exfalso; simp only [List.length_cons, List.length_nil] at hb; omega)))
          | (apply sc_not) | (apply sc_i; all_goals intro hb)
          | (first | apply ix_nat | apply ix_int | apply sd_nat | apply sd_int | apply sl_nat | apply sl_int); first | omega | (simp only [List.length_cons, List.length_nil, List.length_drop, List.length_take] at *; omega)
          | (apply bx_i; intro hbd) | (apply gt_i; assumption; exact rfl)
          | (apply cx_is; first | exact when_two_int _ (by omega) (by omega)) | (apply ab_i; intro bl)
          | (apply rt_is; exact rfl) | (apply rt_do; exact rfl; (repeat (first | exact List.nil_sublist _ | apply List.Sublist.cons_cons)))
          | (exact True.intro) | (apply bc_i; intro C hC) | (apply bt_i) | (apply og_n) | (apply og_a; exact rfl))
      all_goals (try conv => whnf)
      · refine nxs (1, A ++ twoS (numP t 0)) ⟨show (1 : Nat) ≤ 5 by decide, all_in hA (by assumption)⟩ (show 5 - 1 < 5 - 0 by decide) (by repeat (first | exact trivial | refine And.intro rfl ?_)) (by repeat (first | exact List.nil_sublist _ | apply List.Sublist.cons_cons | apply List.Sublist.cons))
      · refine nxs (1, A) ⟨show (1 : Nat) ≤ 5 by decide, all_out hA (by assumption)⟩ (show 5 - 1 < 5 - 0 by decide) (by repeat (first | exact trivial | refine And.intro rfl ?_)) (by repeat (first | exact List.nil_sublist _ | apply List.Sublist.cons_cons | apply List.Sublist.cons))
    · repeat' (first
        | (conv => whnf); first
          | (apply ch_l; apply sp_i; first | exact rfl | omega | exact ⟨rfl, by omega⟩ | exact ⟨rfl, by omega, by omega, by omega⟩ | exact ⟨rfl, by simp, by omega, by omega⟩ | exact ⟨⟨_, rfl⟩, by omega⟩ | assumption | (simp; omega))
          | (apply sp_i; first | exact rfl | omega | exact ⟨rfl, rfl, by omega⟩ | exact ⟨rfl, by omega⟩ | exact ⟨rfl, by omega, by omega, by omega⟩ | exact ⟨rfl, by simp, by omega, by omega⟩ | exact ⟨⟨_, rfl⟩, by omega⟩ | assumption | (simp; omega))
          | (apply sc_true) | (apply sc_false)
          | (first | apply sc_lt | apply sc_nlt | apply sc_eq | apply sc_neq | apply sc_nil | apply sc_nnil); all_goals (intro hb; try (first | (exfalso; omega) | exact absurd rfl hb | exact absurd hb (by decide) | exact absurd (by assumption) hb | (exfalso; simp only [List.length_cons, List.length_nil] at hb; omega)))
          | (apply sc_not) | (apply sc_i; all_goals intro hb)
          | (first | apply ix_nat | apply ix_int | apply sd_nat | apply sd_int | apply sl_nat | apply sl_int); first | omega | (simp only [List.length_cons, List.length_nil, List.length_drop, List.length_take] at *; omega)
          | (apply bx_i; intro hbd) | (apply gt_i; assumption; exact rfl)
          | (apply cx_is; first | exact when_two_int _ (by omega) (by omega)) | (apply ab_i; intro bl)
          | (apply rt_is; exact rfl) | (apply rt_do; exact rfl; (repeat (first | exact List.nil_sublist _ | apply List.Sublist.cons_cons)))
          | (exact True.intro) | (apply bc_i; intro C hC) | (apply bt_i) | (apply og_n) | (apply og_a; exact rfl))
      all_goals (try conv => whnf)
      · refine nxs (2, A ++ twoS (numP t 1)) ⟨show (2 : Nat) ≤ 5 by decide, all_in hA (by assumption)⟩ (show 5 - 2 < 5 - 1 by decide) (by repeat (first | exact trivial | refine And.intro rfl ?_)) (by repeat (first | exact List.nil_sublist _ | apply List.Sublist.cons_cons | apply List.Sublist.cons))
      · refine nxs (2, A) ⟨show (2 : Nat) ≤ 5 by decide, all_out hA (by assumption)⟩ (show 5 - 2 < 5 - 1 by decide) (by repeat (first | exact trivial | refine And.intro rfl ?_)) (by repeat (first | exact List.nil_sublist _ | apply List.Sublist.cons_cons | apply List.Sublist.cons))
    · repeat' (first
        | (conv => whnf); first
          | (apply ch_l; apply sp_i; first | exact rfl | omega | exact ⟨rfl, by omega⟩ | exact ⟨rfl, by omega, by omega, by omega⟩ | exact ⟨rfl, by simp, by omega, by omega⟩ | exact ⟨⟨_, rfl⟩, by omega⟩ | assumption | (simp; omega))
          | (apply sp_i; first | exact rfl | omega | exact ⟨rfl, rfl, by omega⟩ | exact ⟨rfl, by omega⟩ | exact ⟨rfl, by omega, by omega, by omega⟩ | exact ⟨rfl, by simp, by omega, by omega⟩ | exact ⟨⟨_, rfl⟩, by omega⟩ | assumption | (simp; omega))
          | (apply sc_true) | (apply sc_false)
          | (first | apply sc_lt | apply sc_nlt | apply sc_eq | apply sc_neq | apply sc_nil | apply sc_nnil); all_goals (intro hb; try (first | (exfalso; omega) | exact absurd rfl hb | exact absurd hb (by decide) | exact absurd (by assumption) hb | (exfalso; simp only [List.length_cons, List.length_nil] at hb; omega)))
          | (apply sc_not) | (apply sc_i; all_goals intro hb)
          | (first | apply ix_nat | apply ix_int | apply sd_nat | apply sd_int | apply sl_nat | apply sl_int); first | omega | (simp only [List.length_cons, List.length_nil, List.length_drop, List.length_take] at *; omega)
          | (apply bx_i; intro hbd) | (apply gt_i; assumption; exact rfl)
          | (apply cx_is; first | exact when_two_int _ (by omega) (by omega)) | (apply ab_i; intro bl)
          | (apply rt_is; exact rfl) | (apply rt_do; exact rfl; (repeat (first | exact List.nil_sublist _ | apply List.Sublist.cons_cons)))
          | (exact True.intro) | (apply bc_i; intro C hC) | (apply bt_i) | (apply og_n) | (apply og_a; exact rfl))
      all_goals (try conv => whnf)
      · refine nxs (3, A ++ twoS (numP t 2)) ⟨show (3 : Nat) ≤ 5 by decide, all_in hA (by assumption)⟩ (show 5 - 3 < 5 - 2 by decide) (by repeat (first | exact trivial | refine And.intro rfl ?_)) (by repeat (first | exact List.nil_sublist _ | apply List.Sublist.cons_cons | apply List.Sublist.cons))
      · refine nxs (3, A) ⟨show (3 : Nat) ≤ 5 by decide, all_out hA (by assumption)⟩ (show 5 - 3 < 5 - 2 by decide) (by repeat (first | exact trivial | refine And.intro rfl ?_)) (by repeat (first | exact List.nil_sublist _ | apply List.Sublist.cons_cons | apply List.Sublist.cons))
    · repeat' (first
        | (conv => whnf); first
          | (apply ch_l; apply sp_i; first | exact rfl | omega | exact ⟨rfl, by omega⟩ | exact ⟨rfl, by omega, by omega, by omega⟩ | exact ⟨rfl, by simp, by omega, by omega⟩ | exact ⟨⟨_, rfl⟩, by omega⟩ | assumption | (simp; omega))
          | (apply sp_i; first | exact rfl | omega | exact ⟨rfl, rfl, by omega⟩ | exact ⟨rfl, by omega⟩ | exact ⟨rfl, by omega, by omega, by omega⟩ | exact ⟨rfl, by simp, by omega, by omega⟩ | exact ⟨⟨_, rfl⟩, by omega⟩ | assumption | (simp; omega))
          | (apply sc_true) | (apply sc_false)
          | (first | apply sc_lt | apply sc_nlt | apply sc_eq | apply sc_neq | apply sc_nil | apply sc_nnil); all_goals (intro hb; try (first | (exfalso; omega) | exact absurd rfl hb | exact absurd hb (by decide) | exact absurd (by assumption) hb | (exfalso; simp only [List.length_cons, List.length_nil] at hb; omega)))
          | (apply sc_not) | (apply sc_i; all_goals intro hb)
          | (first | apply ix_nat | apply ix_int | apply sd_nat | apply sd_int | apply sl_nat | apply sl_int); first | omega | (simp only [List.length_cons, List.length_nil, List.length_drop, List.length_take] at *; omega)
          | (apply bx_i; intro hbd) | (apply gt_i; assumption; exact rfl)
          | (apply cx_is; first | exact when_two_int _ (by omega) (by omega)) | (apply ab_i; intro bl)
          | (apply rt_is; exact rfl) | (apply rt_do; exact rfl; (repeat (first | exact List.nil_sublist _ | apply List.Sublist.cons_cons)))
          | (exact True.intro) | (apply bc_i; intro C hC) | (apply bt_i) | (apply og_n) | (apply og_a; exact rfl))
      all_goals (try conv => whnf)
      · refine nxs (4, A ++ twoS (numP t 3)) ⟨show (4 : Nat) ≤ 5 by decide, all_in hA (by assumption)⟩ (show 5 - 4 < 5 - 3 by decide) (by repeat (first | exact trivial | refine And.intro rfl ?_)) (by repeat (first | exact List.nil_sublist _ | apply List.Sublist.cons_cons | apply List.Sublist.cons))
      · refine nxs (4, A) ⟨show (4 : Nat) ≤ 5 by decide, all_out hA (by assumption)⟩ (show 5 - 4 < 5 - 3 by decide) (by repeat (first | exact trivial | refine And.intro rfl ?_)) (by repeat (first | exact List.nil_sublist _ | apply List.Sublist.cons_cons | apply List.Sublist.cons))
    · repeat' (first
        | (conv => whnf); first
          | (apply ch_l; apply sp_i; first | exact rfl | omega | exact ⟨rfl, by omega⟩ | exact ⟨rfl, by omega, by omega, by omega⟩ | exact ⟨rfl, by simp, by omega, by omega⟩ | exact ⟨⟨_, rfl⟩, by omega⟩ | assumption | (simp; omega))
          | (apply sp_i; first | exact rfl | omega | exact ⟨rfl, rfl, by omega⟩ | exact ⟨rfl, by omega⟩ | exact ⟨rfl, by omega, by omega, by omega⟩ | exact ⟨rfl, by simp, by omega, by omega⟩ | exact ⟨⟨_, rfl⟩, by omega⟩ | assumption | (simp; omega))
          | (apply sc_true) | (apply sc_false)
          | (first | apply sc_lt | apply sc_nlt | apply sc_eq | apply sc_neq | apply sc_nil | apply sc_nnil); all_goals (intro hb; try (first | (exfalso; omega) | exact absurd rfl hb | exact absurd hb (by decide) | exact absurd (by assumption) hb | (exfalso; simp only [List.length_cons, List.length_nil] at hb; omega)))
          | (apply sc_not) | (apply sc_i; all_goals intro hb)
          | (first | apply ix_nat | apply ix_int | apply sd_nat | apply sd_int | apply sl_nat | apply sl_int); first | omega | (simp only [List.length_cons, List.length_nil, List.length_drop, List.length_take] at *; omega)
          | (apply bx_i; intro hbd) | (apply gt_i; assumption; exact rfl)
          | (apply cx_is; first | exact when_two_int _ (by omega) (by omega)) | (apply ab_i; intro bl)
          | (apply rt_is; exact rfl) | (apply rt_do; exact rfl; (repeat (first | exact List.nil_sublist _ | apply List.Sublist.cons_cons)))
          | (exact True.intro) | (apply bc_i; intro C hC) | (apply bt_i) | (apply og_n) | (apply og_a; exact rfl))
      all_goals (try conv => whnf)
      · refine nxs (5, A ++ twoS (numP t 4)) ⟨show (5 : Nat) ≤ 5 by decide, all_in hA (by assumption)⟩ (show 5 - 5 < 5 - 4 by decide) (by repeat (first | exact trivial | refine And.intro rfl ?_)) (by repeat (first | exact List.nil_sublist _ | apply List.Sublist.cons_cons | apply List.Sublist.cons))
      · refine nxs (5, A) ⟨show (5 : Nat) ≤ 5 by decide, all_out hA (by assumption)⟩ (show 5 - 5 < 5 - 4 by decide) (by repeat (first | exact trivial | refine And.intro rfl ?_)) (by repeat (first | exact List.nil_sublist _ | apply List.Sublist.cons_cons | apply List.Sublist.cons))
    repeat' (first
      | (conv => whnf); first
        | (apply ch_l; apply sp_i; first | exact rfl | omega | exact ⟨rfl, by omega⟩ | exact ⟨rfl, by omega, by omega, by omega⟩ | exact ⟨rfl, by simp, by omega, by omega⟩ | exact ⟨⟨_, rfl⟩, by omega⟩ | assumption | (simp; omega))
        | (apply sp_i; first | exact rfl | omega | exact ⟨rfl, rfl, by omega⟩ | exact ⟨rfl, by omega⟩ | exact ⟨rfl, by omega, by omega, by omega⟩ | exact ⟨rfl, by simp, by omega, by omega⟩ | exact ⟨⟨_, rfl⟩, by omega⟩ | assumption | (simp; omega))
        | (apply sc_true) | (apply sc_false)
        | (first | apply sc_lt | apply sc_nlt | apply sc_eq | apply sc_neq | apply sc_nil | apply sc_nnil); all_goals (intro hb; try (first | (exfalso; omega) | exact absurd rfl hb | exact absurd hb (by decide) | exact absurd (by assumption) hb | (exfalso; simp only [List.length_cons, List.length_nil] at hb; omega)))
        | (apply sc_not) | (apply sc_i; all_goals intro hb)
        | (first | apply ix_nat | apply ix_int | apply sd_nat | apply sd_int | apply sl_nat | apply sl_int); first | omega | (simp only [List.length_cons, List.length_nil, List.length_drop, List.length_take] at *; omega)
        | (apply bx_i; intro hbd) | (apply gt_i; assumption; exact rfl)
        | (apply cx_is; first | fail) | (apply ab_i; intro bl)
        | (apply rt_is; exact rfl) | (apply rt_do; exact rfl; (repeat (first | exact List.nil_sublist _ | apply List.Sublist.cons_cons)))
        | (exact True.intro) | (apply bc_i; intro C hC) | (apply bt_i) | (apply og_n) | (apply og_a; exact rfl))
    all_goals (try conv => whnf)
    refine dw_p mixed hC hGL false (fun (_ : Unit) => [(1, .rop [.int .i64 t.y, .int .i64 t.m, .int .i64 t.d, .int .i64 t.h, .int .i64 t.i, .int .i64 t.s, .bool t.z, .int .i64 t.o] 0), (3, .str A), (6, .str (dateF (whN (tlB t.y) (tlB t.m) (tlB t.d)).toNat))]) (fun _ => []) (.take 1 (.take 2 (.take 3 (.take 4 (.take 5 (.take 6 (.br 0 (.br 7 (.br 8 (.take 9 (.take 10 (.take 11 (.take 12 (.done))))) (.nil)) (.nil)) (.br 7 (.br 0 (.br 8 (.take 9 (.take 10 (.take 11 (.take 12 (.done))))) (.nil)) (.br 8 (.br 0 (.take 9 (.take 10 (.take 11 (.take 12 (.done))))) (.nil)) (.nil))) (.nil))))))))) (by kernel_rfl) ?_ ?_
    · repeat' (first
        | (conv => whnf); first
          | (apply ch_l; apply sp_i; first | exact rfl | omega | exact ⟨rfl, rfl, by omega⟩ | exact ⟨rfl, by omega⟩ | exact ⟨rfl, by omega, by omega, by omega⟩ | exact ⟨rfl, by simp, by omega, by omega⟩ | exact ⟨⟨_, rfl⟩, by omega⟩ | exact ⟨⟨_, rfl⟩, by omega, by omega⟩ | assumption | decide | (simp only [List.length_drop, List.length_take, List.length_append, List.length_set, List.length_cons, List.length_nil, OrOk] at *; omega) | (simp; omega))
          | (apply sp_i; first | exact rfl | omega | exact ⟨rfl, rfl, by omega⟩ | exact ⟨rfl, by omega⟩ | exact ⟨rfl, by omega, by omega, by omega⟩ | exact ⟨rfl, by simp, by omega, by omega⟩ | exact ⟨⟨_, rfl⟩, by omega⟩ | exact ⟨⟨_, rfl⟩, by omega, by omega⟩ | assumption | decide | (simp only [List.length_drop, List.length_take, List.length_append, List.length_set, List.length_cons, List.length_nil, OrOk] at *; omega) | (simp; omega))
          | (apply sc_true) | (apply sc_false)
          | (first | apply sc_lt | apply sc_nlt | apply sc_eq | apply sc_neq | apply sc_nil | apply sc_nnil | apply sc_seq | apply sc_nseq); all_goals (intro hb; try (first | (exfalso; omega) | exact absurd rfl hb | exact absurd hb (by decide) | exact absurd hb (by assumption) | exact absurd (by assumption) hb | (exfalso; simp only [List.length_cons, List.length_nil, List.length_append] at hb; omega)))
          | (apply sc_not) | (apply sc_or) | (apply sc_i; all_goals intro hb)
          | (first | apply ix_nat | apply ix_int); first | omega | (simp only [List.length_drop, List.length_take, List.length_append, List.length_set, List.length_cons, List.length_nil] at *; omega)
          | (apply bx_i; intro hbd) | (apply gt_i; assumption; exact rfl)
          | (first | apply sd_nat | apply sd_int | apply sl_nat | apply sl_int); first | omega | (simp only [List.length_drop, List.length_take, List.length_append, List.length_set, List.length_cons, List.length_nil] at *; omega)
          | (apply cx_is; first | exact h1) | (apply cx_do (i := 0) rfl; first | exact h1)
          | (apply ab_i; intro bl) | (apply as_i; intro va vk vc hva) | (apply av_i; intro v) | (apply ac_i; intro bl cap hcap)
          | (apply bo_l) | (apply ch_r; apply sp_i; first | assumption | decide) | (apply ch_r; apply sp_i; intro i hi; exact ⟨rfl, rfl, rfl⟩) | (apply nx_i; all_goals intro hnx)
          | (apply Ia.hit; assumption) | (apply Ia.miss; assumption)
          | (apply rt_is; exact rfl) | (apply rt_do; exact rfl; (repeat (first | exact List.nil_sublist _ | apply List.Sublist.cons_cons))) | (apply iv; assumption)
          | (exact True.intro) | (apply bc_i; intro C hC) | (apply bt_i) | (apply og_n) | (apply og_a; exact rfl))
      all_goals (try conv => whnf)
      all_goals exact ⟨(), ⟨rfl, rfl, rfl, trivial⟩, rfl⟩
    intro _
    repeat' (first
      | (conv => whnf); first
        | (apply ch_l; apply sp_i; first | exact rfl | omega | exact ⟨rfl, rfl, by omega⟩ | exact ⟨rfl, by omega⟩ | exact ⟨rfl, by omega, by omega, by omega⟩ | exact ⟨rfl, by simp, by omega, by omega⟩ | exact ⟨⟨_, rfl⟩, by omega⟩ | exact ⟨⟨_, rfl⟩, by omega, by omega⟩ | assumption | decide | (simp only [List.length_drop, List.length_take, List.length_append, List.length_set, List.length_cons, List.length_nil, OrOk] at *; omega) | (simp; omega))
        | (apply sp_i; first | exact rfl | omega | exact ⟨rfl, rfl, by omega⟩ | exact ⟨rfl, by omega⟩ | exact ⟨rfl, by omega, by omega, by omega⟩ | exact ⟨rfl, by simp, by omega, by omega⟩ | exact ⟨⟨_, rfl⟩, by omega⟩ | exact ⟨⟨_, rfl⟩, by omega, by omega⟩ | assumption | decide | (simp only [List.length_drop, List.length_take, List.length_append, List.length_set, List.length_cons, List.length_nil, OrOk] at *; omega) | (simp; omega))
        | (apply sc_true) | (apply sc_false)
        | (first | apply sc_lt | apply sc_nlt | apply sc_eq | apply sc_neq | apply sc_nil | apply sc_nnil | apply sc_seq | apply sc_nseq); all_goals (intro hb; try (first | (exfalso; omega) | exact absurd rfl hb | exact absurd hb (by decide) | exact absurd hb (by assumption) | exact absurd (by assumption) hb | (exfalso; simp only [List.length_cons, List.length_nil, List.length_append] at hb; omega)))
        | (apply sc_not) | (apply sc_or) | (apply sc_i; all_goals intro hb)
        | (first | apply ix_nat | apply ix_int); first | omega | (simp only [List.length_drop, List.length_take, List.length_append, List.length_set, List.length_cons, List.length_nil] at *; omega)
        | (apply bx_i; intro hbd) | (apply gt_i; assumption; exact rfl)
        | (first | apply sd_nat | apply sd_int | apply sl_nat | apply sl_int); first | omega | (simp only [List.length_drop, List.length_take, List.length_append, List.length_set, List.length_cons, List.length_nil] at *; omega)
        | (apply cx_is; first | exact h2 | exact h3) | (apply cx_do (i := 0) rfl; first | exact h2 | exact h3)
        | (apply ab_i; intro bl) | (apply as_i; intro va vk vc hva) | (apply av_i; intro v) | (apply ac_i; intro bl cap hcap)
        | (apply bo_l) | (apply ch_r; apply sp_i; first | assumption | decide) | (apply ch_r; apply sp_i; intro i hi; exact ⟨rfl, rfl, rfl⟩) | (apply nx_i; all_goals intro hnx)
        | (apply Ia.hit; assumption) | (apply Ia.miss; assumption)
        | (apply rt_is; exact rfl) | (apply rt_do; exact rfl; (repeat (first | exact List.nil_sublist _ | apply List.Sublist.cons_cons))) | (apply iv; assumption)
        | (exact True.intro) | (apply bc_i; intro C hC) | (apply bt_i) | (apply og_n) | (apply og_a; exact rfl))
    all_goals (try conv => whnf)
    · have hG := fill_time hf (by assumption)
      have hLF : (dateF (whN (tlB t.y) (tlB t.m) (tlB t.d)).toNat ++ ([84] ++ clkF (whN (tlB t.h) (tlB t.i) (tlB t.s)).toNat)).length ≤ 15 := by first | (rw [List.length_append, List.length_append, List.length_singleton]; omega) | omega
      rw [← hA] at hG
      refine lp hC hGL (fun (x : Nat × List UInt8 × List UInt8) => [(1, .rop [.int .i64 t.y, .int .i64 t.m, .int .i64 t.d, .int .i64 t.h, .int .i64 t.i, .int .i64 t.s, .bool t.z, .int .i64 t.o] 0), (3, .str x.2.2), (8, .str x.2.1), (73, .own 0 (.slice (some ⟨bl, 0, none⟩) (dateF (whN (tlB t.y) (tlB t.m) (tlB t.d)).toNat ++ ([84] ++ clkF (whN (tlB t.h) (tlB t.i) (tlB t.s)).toNat)).length cap)), (74, .int .i64 ((dateF (whN (tlB t.y) (tlB t.m) (tlB t.d)).toNat ++ ([84] ++ clkF (whN (tlB t.h) (tlB t.i) (tlB t.s)).toNat)).length : Nat)), (75, .int .i64 (x.1 : Nat))]) (fun _ => [.buf bl (dateF (whN (tlB t.y) (tlB t.m) (tlB t.d)).toNat ++ ([84] ++ clkF (whN (tlB t.h) (tlB t.i) (tlB t.s)).toNat)) cap]) (fun x => FillP (dateF (whN (tlB t.y) (tlB t.m) (tlB t.d)).toNat ++ ([84] ++ clkF (whN (tlB t.h) (tlB t.i) (tlB t.s)).toNat)) A x.1 x.2.1 x.2.2) (fun x => (dateF (whN (tlB t.y) (tlB t.m) (tlB t.d)).toNat ++ ([84] ++ clkF (whN (tlB t.h) (tlB t.i) (tlB t.s)).toNat)).length - x.1) (0, [], A) (fill_init hG.1 hl) (by repeat (first | exact trivial | refine And.intro rfl ?_)) rfl ?_
      rintro ⟨i, out, all⟩ hI
      have hI : FillP (dateF (whN (tlB t.y) (tlB t.m) (tlB t.d)).toNat ++ ([84] ++ clkF (whN (tlB t.h) (tlB t.i) (tlB t.s)).toNat)) A i out all := hI
      have hI1 := hI.1
      have hI2 := hI.2.1
      have hI3 := hI.2.2.1
      have hI0 := fun h => fill_pos hI h
      repeat' (first
        | (conv => whnf); first
          | (apply ch_l; apply sp_i; first | exact rfl | omega | exact ⟨rfl, rfl, by omega⟩ | exact ⟨rfl, by omega⟩ | exact ⟨rfl, by omega, by omega, by omega⟩ | exact ⟨rfl, by simp, by omega, by omega⟩ | exact ⟨⟨_, rfl⟩, by omega⟩ | exact ⟨⟨_, rfl⟩, by omega, by omega⟩ | assumption | decide | (simp only [List.length_drop, List.length_take, List.length_append, List.length_set, List.length_cons, List.length_nil, OrOk] at *; omega) | (simp; omega))
          | (apply sp_i; first | exact rfl | omega | exact ⟨rfl, rfl, by omega⟩ | exact ⟨rfl, by omega⟩ | exact ⟨rfl, by omega, by omega, by omega⟩ | exact ⟨rfl, by simp, by omega, by omega⟩ | exact ⟨⟨_, rfl⟩, by omega⟩ | exact ⟨⟨_, rfl⟩, by omega, by omega⟩ | assumption | decide | (simp only [List.length_drop, List.length_take, List.length_append, List.length_set, List.length_cons, List.length_nil, OrOk] at *; omega) | (simp; omega))
          | (apply sc_true) | (apply sc_false)
          | (first | apply sc_lt | apply sc_nlt | apply sc_eq | apply sc_neq | apply sc_nil | apply sc_nnil | apply sc_seq | apply sc_nseq); all_goals (intro hb; try (first | (exfalso; omega) | exact absurd rfl hb | exact absurd hb (by decide) | exact absurd hb (by assumption) | exact absurd (by assumption) hb | (exfalso; simp only [List.length_cons, List.length_nil, List.length_append] at hb; omega)))
          | (apply sc_not) | (apply sc_or) | (apply sc_i; all_goals intro hb)
          | (first | apply ix_nat | apply ix_int); first | omega | (simp only [List.length_drop, List.length_take, List.length_append, List.length_set, List.length_cons, List.length_nil] at *; omega)
          | (apply bx_i; intro hbd) | (apply gt_i; assumption; exact rfl)
          | (first | apply sd_nat | apply sd_int | apply sl_nat | apply sl_int); first | omega | (simp only [List.length_drop, List.length_take, List.length_append, List.length_set, List.length_cons, List.length_nil] at *; omega)
          | (apply cx_is; first | exact h3) | (apply cx_do (i := 0) rfl; first | exact h3)
          | (apply ab_i; intro bl) | (apply as_i; intro va vk vc hva) | (apply av_i; intro v) | (apply ac_i; intro bl cap hcap)
          | (apply bo_l) | (apply ch_r; apply sp_i; first | assumption | decide) | (apply ch_r; apply sp_i; intro i hi; exact ⟨rfl, rfl, rfl⟩) | (apply nx_i; all_goals intro hnx)
          | (apply Ia.hit; assumption) | (apply Ia.miss; assumption)
          | (apply rt_is; exact rfl) | (apply rt_do; exact rfl; (repeat (first | exact List.nil_sublist _ | apply List.Sublist.cons_cons))) | (apply iv; assumption)
          | (apply dw_q mixed hC hGL (by kernel_rfl))
          | (apply cq; assumption; (first | exact h3); exact rfl))
      all_goals (try conv => whnf)
      · refine op1_run hC hGL (rv_bytes [_] rfl (by intro v hv; obtain rfl := List.mem_singleton.1 hv; exact ⟨Int.natCast_nonneg _, by exact_mod_cast byteAt_lt _ _⟩) rfl rfl rfl rfl rfl rfl) rfl rfl ?_
        repeat' (first
          | (conv => whnf); first
            | (apply ch_l; apply sp_i; first | exact rfl | omega | exact ⟨rfl, by omega⟩ | exact ⟨rfl, by omega, by omega, by omega⟩ | exact ⟨rfl, by simp, by omega, by omega⟩ | exact ⟨⟨_, rfl⟩, by omega⟩ | assumption | (simp; omega))
            | (apply sp_i; first | exact rfl | omega | exact ⟨rfl, rfl, by omega⟩ | exact ⟨rfl, by omega⟩ | exact ⟨rfl, by omega, by omega, by omega⟩ | exact ⟨rfl, by simp, by omega, by omega⟩ | exact ⟨⟨_, rfl⟩, by omega⟩ | assumption | (simp; omega))
            | (apply sc_true) | (apply sc_false)
            | (first | apply sc_lt | apply sc_nlt | apply sc_eq | apply sc_neq | apply sc_nil | apply sc_nnil); all_goals (intro hb; try (first | (exfalso; omega) | exact absurd rfl hb | exact absurd hb (by decide) | exact absurd (by assumption) hb | (exfalso; simp only [List.length_cons, List.length_nil] at hb; omega)))
            | (apply sc_not) | (apply sc_i; all_goals intro hb)
            | (first | apply ix_nat | apply ix_int | apply sd_nat | apply sd_int | apply sl_nat | apply sl_int); first | omega | (simp only [List.length_cons, List.length_nil, List.length_drop, List.length_take] at *; omega)
            | (apply bx_i; intro hbd) | (apply gt_i; assumption; exact rfl)
            | (apply cx_is; first | fail) | (apply ab_i; intro bl)
            | (apply rt_is; exact rfl) | (apply rt_do; exact rfl; (repeat (first | exact List.nil_sublist _ | apply List.Sublist.cons_cons)))
            | (exact True.intro) | (apply bc_i; intro C hC) | (apply bt_i) | (apply og_n) | (apply og_a; exact rfl))
        all_goals (try conv => whnf)
        refine sp_i (show out.length + 1 ≤ 9223372036854775807 by omega) ?_
        repeat' (first
          | (conv => whnf); first
            | (apply ch_l; apply sp_i; first | exact rfl | omega | exact ⟨rfl, by omega⟩ | exact ⟨rfl, by omega, by omega, by omega⟩ | exact ⟨rfl, by simp, by omega, by omega⟩ | exact ⟨⟨_, rfl⟩, by omega⟩ | assumption | (simp; omega))
            | (apply sp_i; first | exact rfl | omega | exact ⟨rfl, rfl, by omega⟩ | exact ⟨rfl, by omega⟩ | exact ⟨rfl, by omega, by omega, by omega⟩ | exact ⟨rfl, by simp, by omega, by omega⟩ | exact ⟨⟨_, rfl⟩, by omega⟩ | assumption | (simp; omega))
            | (apply sc_true) | (apply sc_false)
            | (first | apply sc_lt | apply sc_nlt | apply sc_eq | apply sc_neq | apply sc_nil | apply sc_nnil); all_goals (intro hb; try (first | (exfalso; omega) | exact absurd rfl hb | exact absurd hb (by decide) | exact absurd (by assumption) hb | (exfalso; simp only [List.length_cons, List.length_nil] at hb; omega)))
            | (apply sc_not) | (apply sc_i; all_goals intro hb)
            | (first | apply ix_nat | apply ix_int | apply sd_nat | apply sd_int | apply sl_nat | apply sl_int); first | omega | (simp only [List.length_cons, List.length_nil, List.length_drop, List.length_take] at *; omega)
            | (apply bx_i; intro hbd) | (apply gt_i; assumption; exact rfl)
            | (apply cx_is; first | fail) | (apply ab_i; intro bl)
            | (apply rt_is; exact rfl) | (apply rt_do; exact rfl; (repeat (first | exact List.nil_sublist _ | apply List.Sublist.cons_cons)))
            | (exact True.intro) | (apply bc_i; intro C hC) | (apply bt_i) | (apply og_n) | (apply og_a; exact rfl))
        all_goals (try conv => whnf)
        refine nxt (i + 1, out ++ bytesI [(byteAt all 0 : Int)], all.drop 1) ?_ ?_ (by repeat (first | exact trivial | refine And.intro rfl ?_)) rfl
        · exact fill_hole hI (by omega) (by assumption)
        · show _ - (i + 1) < _ - i
          omega
      · refine op1_run hC hGL (rv_bytes [_] rfl (by intro v hv; obtain rfl := List.mem_singleton.1 hv; exact ⟨Int.natCast_nonneg _, by exact_mod_cast byteAt_lt _ _⟩) rfl rfl rfl rfl rfl rfl) rfl rfl ?_
        repeat' (first
          | (conv => whnf); first
            | (apply ch_l; apply sp_i; first | exact rfl | omega | exact ⟨rfl, by omega⟩ | exact ⟨rfl, by omega, by omega, by omega⟩ | exact ⟨rfl, by simp, by omega, by omega⟩ | exact ⟨⟨_, rfl⟩, by omega⟩ | assumption | (simp; omega))
            | (apply sp_i; first | exact rfl | omega | exact ⟨rfl, rfl, by omega⟩ | exact ⟨rfl, by omega⟩ | exact ⟨rfl, by omega, by omega, by omega⟩ | exact ⟨rfl, by simp, by omega, by omega⟩ | exact ⟨⟨_, rfl⟩, by omega⟩ | assumption | (simp; omega))
            | (apply sc_true) | (apply sc_false)
            | (first | apply sc_lt | apply sc_nlt | apply sc_eq | apply sc_neq | apply sc_nil | apply sc_nnil); all_goals (intro hb; try (first | (exfalso; omega) | exact absurd rfl hb | exact absurd hb (by decide) | exact absurd (by assumption) hb | (exfalso; simp only [List.length_cons, List.length_nil] at hb; omega)))
            | (apply sc_not) | (apply sc_i; all_goals intro hb)
            | (first | apply ix_nat | apply ix_int | apply sd_nat | apply sd_int | apply sl_nat | apply sl_int); first | omega | (simp only [List.length_cons, List.length_nil, List.length_drop, List.length_take] at *; omega)
            | (apply bx_i; intro hbd) | (apply gt_i; assumption; exact rfl)
            | (apply cx_is; first | fail) | (apply ab_i; intro bl)
            | (apply rt_is; exact rfl) | (apply rt_do; exact rfl; (repeat (first | exact List.nil_sublist _ | apply List.Sublist.cons_cons)))
            | (exact True.intro) | (apply bc_i; intro C hC) | (apply bt_i) | (apply og_n) | (apply og_a; exact rfl))
        all_goals (try conv => whnf)
        refine sp_i (show out.length + 1 ≤ 9223372036854775807 by omega) ?_
        repeat' (first
          | (conv => whnf); first
            | (apply ch_l; apply sp_i; first | exact rfl | omega | exact ⟨rfl, by omega⟩ | exact ⟨rfl, by omega, by omega, by omega⟩ | exact ⟨rfl, by simp, by omega, by omega⟩ | exact ⟨⟨_, rfl⟩, by omega⟩ | assumption | (simp; omega))
            | (apply sp_i; first | exact rfl | omega | exact ⟨rfl, rfl, by omega⟩ | exact ⟨rfl, by omega⟩ | exact ⟨rfl, by omega, by omega, by omega⟩ | exact ⟨rfl, by simp, by omega, by omega⟩ | exact ⟨⟨_, rfl⟩, by omega⟩ | assumption | (simp; omega))
            | (apply sc_true) | (apply sc_false)
            | (first | apply sc_lt | apply sc_nlt | apply sc_eq | apply sc_neq | apply sc_nil | apply sc_nnil); all_goals (intro hb; try (first | (exfalso; omega) | exact absurd rfl hb | exact absurd hb (by decide) | exact absurd (by assumption) hb | (exfalso; simp only [List.length_cons, List.length_nil] at hb; omega)))
            | (apply sc_not) | (apply sc_i; all_goals intro hb)
            | (first | apply ix_nat | apply ix_int | apply sd_nat | apply sd_int | apply sl_nat | apply sl_int); first | omega | (simp only [List.length_cons, List.length_nil, List.length_drop, List.length_take] at *; omega)
            | (apply bx_i; intro hbd) | (apply gt_i; assumption; exact rfl)
            | (apply cx_is; first | fail) | (apply ab_i; intro bl)
            | (apply rt_is; exact rfl) | (apply rt_do; exact rfl; (repeat (first | exact List.nil_sublist _ | apply List.Sublist.cons_cons)))
            | (exact True.intro) | (apply bc_i; intro C hC) | (apply bt_i) | (apply og_n) | (apply og_a; exact rfl))
        all_goals (try conv => whnf)
        refine nxt (i + 1, out ++ bytesI [(byteAt (dateF (whN (tlB t.y) (tlB t.m) (tlB t.d)).toNat ++ ([84] ++ clkF (whN (tlB t.h) (tlB t.i) (tlB t.s)).toNat)) i : Int)], all) ?_ ?_ (by repeat (first | exact trivial | refine And.intro rfl ?_)) rfl
        · exact fill_else hI (by omega) (by assumption)
        · show _ - (i + 1) < _ - i
          omega
      all_goals
        apply rt_is
        refine congrArg AVal.str ?_
        have e := fill_end hI (by omega)
        rw [hG.2] at e
        first
          | (rw [if_pos (by assumption), ← e])
          | (rw [if_neg (by simp only [Bool.not_eq_true]; assumption), ← e, List.append_nil])
    · have hG := fill_date hf (by assumption)
      have hLF : (dateF (whN (tlB t.y) (tlB t.m) (tlB t.d)).toNat).length ≤ 15 := by first | (rw [List.length_append, List.length_append, List.length_singleton]; omega) | omega
      rw [← hA] at hG
      refine lp hC hGL (fun (x : Nat × List UInt8 × List UInt8) => [(1, .rop [.int .i64 t.y, .int .i64 t.m, .int .i64 t.d, .int .i64 t.h, .int .i64 t.i, .int .i64 t.s, .bool t.z, .int .i64 t.o] 0), (3, .str x.2.2), (8, .str x.2.1), (73, .own 0 (.slice (some ⟨bl, 0, none⟩) (dateF (whN (tlB t.y) (tlB t.m) (tlB t.d)).toNat).length cap)), (74, .int .i64 ((dateF (whN (tlB t.y) (tlB t.m) (tlB t.d)).toNat).length : Nat)), (75, .int .i64 (x.1 : Nat))]) (fun _ => [.buf bl (dateF (whN (tlB t.y) (tlB t.m) (tlB t.d)).toNat) cap]) (fun x => FillP (dateF (whN (tlB t.y) (tlB t.m) (tlB t.d)).toNat) A x.1 x.2.1 x.2.2) (fun x => (dateF (whN (tlB t.y) (tlB t.m) (tlB t.d)).toNat).length - x.1) (0, [], A) (fill_init hG.1 hl) (by repeat (first | exact trivial | refine And.intro rfl ?_)) rfl ?_
      rintro ⟨i, out, all⟩ hI
      have hI : FillP (dateF (whN (tlB t.y) (tlB t.m) (tlB t.d)).toNat) A i out all := hI
      have hI1 := hI.1
      have hI2 := hI.2.1
      have hI3 := hI.2.2.1
      have hI0 := fun h => fill_pos hI h
      repeat' (first
        | (conv => whnf); first
          | (apply ch_l; apply sp_i; first | exact rfl | omega | exact ⟨rfl, rfl, by omega⟩ | exact ⟨rfl, by omega⟩ | exact ⟨rfl, by omega, by omega, by omega⟩ | exact ⟨rfl, by simp, by omega, by omega⟩ | exact ⟨⟨_, rfl⟩, by omega⟩ | exact ⟨⟨_, rfl⟩, by omega, by omega⟩ | assumption | decide | (simp only [List.length_drop, List.length_take, List.length_append, List.length_set, List.length_cons, List.length_nil, OrOk] at *; omega) | (simp; omega))
          | (apply sp_i; first | exact rfl | omega | exact ⟨rfl, rfl, by omega⟩ | exact ⟨rfl, by omega⟩ | exact ⟨rfl, by omega, by omega, by omega⟩ | exact ⟨rfl, by simp, by omega, by omega⟩ | exact ⟨⟨_, rfl⟩, by omega⟩ | exact ⟨⟨_, rfl⟩, by omega, by omega⟩ | assumption | decide | (simp only [List.length_drop, List.length_take, List.length_append, List.length_set, List.length_cons, List.length_nil, OrOk] at *; omega) | (simp; omega))
          | (apply sc_true) | (apply sc_false)
          | (first | apply sc_lt | apply sc_nlt | apply sc_eq | apply sc_neq | apply sc_nil | apply sc_nnil | apply sc_seq | apply sc_nseq); all_goals (intro hb; try (first | (exfalso; omega) | exact absurd rfl hb | exact absurd hb (by decide) | exact absurd hb (by assumption) | exact absurd (by assumption) hb | (exfalso; simp only [List.length_cons, List.length_nil, List.length_append] at hb; omega)))
          | (apply sc_not) | (apply sc_or) | (apply sc_i; all_goals intro hb)
          | (first | apply ix_nat | apply ix_int); first | omega | (simp only [List.length_drop, List.length_take, List.length_append, List.length_set, List.length_cons, List.length_nil] at *; omega)
          | (apply bx_i; intro hbd) | (apply gt_i; assumption; exact rfl)
          | (first | apply sd_nat | apply sd_int | apply sl_nat | apply sl_int); first | omega | (simp only [List.length_drop, List.length_take, List.length_append, List.length_set, List.length_cons, List.length_nil] at *; omega)
          | (apply cx_is; first | exact h3) | (apply cx_do (i := 0) rfl; first | exact h3)
          | (apply ab_i; intro bl) | (apply as_i; intro va vk vc hva) | (apply av_i; intro v) | (apply ac_i; intro bl cap hcap)
          | (apply bo_l) | (apply ch_r; apply sp_i; first | assumption | decide) | (apply ch_r; apply sp_i; intro i hi; exact ⟨rfl, rfl, rfl⟩) | (apply nx_i; all_goals intro hnx)
          | (apply Ia.hit; assumption) | (apply Ia.miss; assumption)
          | (apply rt_is; exact rfl) | (apply rt_do; exact rfl; (repeat (first | exact List.nil_sublist _ | apply List.Sublist.cons_cons))) | (apply iv; assumption)
          | (apply dw_q mixed hC hGL (by kernel_rfl))
          | (apply cq; assumption; (first | exact h3); exact rfl))
      all_goals (try conv => whnf)
      · refine op1_run hC hGL (rv_bytes [_] rfl (by intro v hv; obtain rfl := List.mem_singleton.1 hv; exact ⟨Int.natCast_nonneg _, by exact_mod_cast byteAt_lt _ _⟩) rfl rfl rfl rfl rfl rfl) rfl rfl ?_
        repeat' (first
          | (conv => whnf); first
            | (apply ch_l; apply sp_i; first | exact rfl | omega | exact ⟨rfl, by omega⟩ | exact ⟨rfl, by omega, by omega, by omega⟩ | exact ⟨rfl, by simp, by omega, by omega⟩ | exact ⟨⟨_, rfl⟩, by omega⟩ | assumption | (simp; omega))
            | (apply sp_i; first | exact rfl | omega | exact ⟨rfl, rfl, by omega⟩ | exact ⟨rfl, by omega⟩ | exact ⟨rfl, by omega, by omega, by omega⟩ | exact ⟨rfl, by simp, by omega, by omega⟩ | exact ⟨⟨_, rfl⟩, by omega⟩ | assumption | (simp; omega))
            | (apply sc_true) | (apply sc_false)
            | (first | apply sc_lt | apply sc_nlt | apply sc_eq | apply sc_neq | apply sc_nil | apply sc_nnil); all_goals (intro hb; try (first | (exfalso; omega) | exact absurd rfl hb | exact absurd hb (by decide) | exact absurd (by assumption) hb | (exfalso; simp only [List.length_cons, List.length_nil] at hb; omega)))
            | (apply sc_not) | (apply sc_i; all_goals intro hb)
            | (first | apply ix_nat | apply ix_int | apply sd_nat | apply sd_int | apply sl_nat | apply sl_int); first | omega | (simp only [List.length_cons, List.length_nil, List.length_drop, List.length_take] at *; omega)
            | (apply bx_i; intro hbd) | (apply gt_i; assumption; exact rfl)
            | (apply cx_is; first | fail) | (apply ab_i; intro bl)
            | (apply rt_is; exact rfl) | (apply rt_do; exact rfl; (repeat (first | exact List.nil_sublist _ | apply List.Sublist.cons_cons)))
            | (exact True.intro) | (apply bc_i; intro C hC) | (apply bt_i) | (apply og_n) | (apply og_a; exact rfl))
        all_goals (try conv => whnf)
        refine sp_i (show out.length + 1 ≤ 9223372036854775807 by omega) ?_
        repeat' (first
          | (conv => whnf); first
            | (apply ch_l; apply sp_i; first | exact rfl | omega | exact ⟨rfl, by omega⟩ | exact ⟨rfl, by omega, by omega, by omega⟩ | exact ⟨rfl, by simp, by omega, by omega⟩ | exact ⟨⟨_, rfl⟩, by omega⟩ | assumption | (simp; omega))
            | (apply sp_i; first | exact rfl | omega | exact ⟨rfl, rfl, by omega⟩ | exact ⟨rfl, by omega⟩ | exact ⟨rfl, by omega, by omega, by omega⟩ | exact ⟨rfl, by simp, by omega, by omega⟩ | exact ⟨⟨_, rfl⟩, by omega⟩ | assumption | (simp; omega))
            | (apply sc_true) | (apply sc_false)
            | (first | apply sc_lt | apply sc_nlt | apply sc_eq | apply sc_neq | apply sc_nil | apply sc_nnil); all_goals (intro hb; try (first | (exfalso; omega) | exact absurd rfl hb | exact absurd hb (by decide) | exact absurd (by assumption) hb | (exfalso; simp only [List.length_cons, List.length_nil] at hb; omega)))
            | (apply sc_not) | (apply sc_i; all_goals intro hb)
            | (first | apply ix_nat | apply ix_int | apply sd_nat | apply sd_int | apply sl_nat | apply sl_int); first | omega | (simp only [List.length_cons, List.length_nil, List.length_drop, List.length_take] at *; omega)
            | (apply bx_i; intro hbd) | (apply gt_i; assumption; exact rfl)
            | (apply cx_is; first | fail) | (apply ab_i; intro bl)
            | (apply rt_is; exact rfl) | (apply rt_do; exact rfl; (repeat (first | exact List.nil_sublist _ | apply List.Sublist.cons_cons)))
            | (exact True.intro) | (apply bc_i; intro C hC) | (apply bt_i) | (apply og_n) | (apply og_a; exact rfl))
        all_goals (try conv => whnf)
        refine nxt (i + 1, out ++ bytesI [(byteAt all 0 : Int)], all.drop 1) ?_ ?_ (by repeat (first | exact trivial | refine And.intro rfl ?_)) rfl
        · exact fill_hole hI (by omega) (by assumption)
        · show _ - (i + 1) < _ - i
          omega
      · refine op1_run hC hGL (rv_bytes [_] rfl (by intro v hv; obtain rfl := List.mem_singleton.1 hv; exact ⟨Int.natCast_nonneg _, by exact_mod_cast byteAt_lt _ _⟩) rfl rfl rfl rfl rfl rfl) rfl rfl ?_
        repeat' (first
          | (conv => whnf); first
            | (apply ch_l; apply sp_i; first | exact rfl | omega | exact ⟨rfl, by omega⟩ | exact ⟨rfl, by omega, by omega, by omega⟩ | exact ⟨rfl, by simp, by omega, by omega⟩ | exact ⟨⟨_, rfl⟩, by omega⟩ | assumption | (simp; omega))
            | (apply sp_i; first | exact rfl | omega | exact ⟨rfl, rfl, by omega⟩ | exact ⟨rfl, by omega⟩ | exact ⟨rfl, by omega, by omega, by omega⟩ | exact ⟨rfl, by simp, by omega, by omega⟩ | exact ⟨⟨_, rfl⟩, by omega⟩ | assumption | (simp; omega))
            | (apply sc_true) | (apply sc_false)
            | (first | apply sc_lt | apply sc_nlt | apply sc_eq | apply sc_neq | apply sc_nil | apply sc_nnil); all_goals (intro hb; try (first | (exfalso; omega) | exact absurd rfl hb | exact absurd hb (by decide) | exact absurd (by assumption) hb | (exfalso; simp only [List.length_cons, List.length_nil] at hb; omega)))
            | (apply sc_not) | (apply sc_i; all_goals intro hb)
            | (first | apply ix_nat | apply ix_int | apply sd_nat | apply sd_int | apply sl_nat | apply sl_int); first | omega | (simp only [List.length_cons, List.length_nil, List.length_drop, List.length_take] at *; omega)
            | (apply bx_i; intro hbd) | (apply gt_i; assumption; exact rfl)
            | (apply cx_is; first | fail) | (apply ab_i; intro bl)
            | (apply rt_is; exact rfl) | (apply rt_do; exact rfl; (repeat (first | exact List.nil_sublist _ | apply List.Sublist.cons_cons)))
            | (exact True.intro) | (apply bc_i; intro C hC) | (apply bt_i) | (apply og_n) | (apply og_a; exact rfl))
        all_goals (try conv => whnf)
        refine sp_i (show out.length + 1 ≤ 9223372036854775807 by omega) ?_
        repeat' (first
          | (conv => whnf); first
            | (apply ch_l; apply sp_i; first | exact rfl | omega | exact ⟨rfl, by omega⟩ | exact ⟨rfl, by omega, by omega, by omega⟩ | exact ⟨rfl, by simp, by omega, by omega⟩ | exact ⟨⟨_, rfl⟩, by omega⟩ | assumption | (simp; omega))
            | (apply sp_i; first | exact rfl | omega | exact ⟨rfl, rfl, by omega⟩ | exact ⟨rfl, by omega⟩ | exact ⟨rfl, by omega, by omega, by omega⟩ | exact ⟨rfl, by simp, by omega, by omega⟩ | exact ⟨⟨_, rfl⟩, by omega⟩ | assumption | (simp; omega))
            | (apply sc_true) | (apply sc_false)
            | (first | apply sc_lt | apply sc_nlt | apply sc_eq | apply sc_neq | apply sc_nil | apply sc_nnil); all_goals (intro hb; try (first | (exfalso; omega) | exact absurd rfl hb | exact absurd hb (by decide) | exact absurd (by assumption) hb | (exfalso; simp only [List.length_cons, List.length_nil] at hb; omega)))
            | (apply sc_not) | (apply sc_i; all_goals intro hb)
            | (first | apply ix_nat | apply ix_int | apply sd_nat | apply sd_int | apply sl_nat | apply sl_int); first | omega | (simp only [List.length_cons, List.length_nil, List.length_drop, List.length_take] at *; omega)
            | (apply bx_i; intro hbd) | (apply gt_i; assumption; exact rfl)
            | (apply cx_is; first | fail) | (apply ab_i; intro bl)
            | (apply rt_is; exact rfl) | (apply rt_do; exact rfl; (repeat (first | exact List.nil_sublist _ | apply List.Sublist.cons_cons)))
            | (exact True.intro) | (apply bc_i; intro C hC) | (apply bt_i) | (apply og_n) | (apply og_a; exact rfl))
        all_goals (try conv => whnf)
        refine nxt (i + 1, out ++ bytesI [(byteAt (dateF (whN (tlB t.y) (tlB t.m) (tlB t.d)).toNat) i : Int)], all) ?_ ?_ (by repeat (first | exact trivial | refine And.intro rfl ?_)) rfl
        · exact fill_else hI (by omega) (by assumption)
        · show _ - (i + 1) < _ - i
          omega
      all_goals
        apply rt_is
        refine congrArg AVal.str ?_
        have e := fill_end hI (by omega)
        rw [hG.2] at e
        first
          | (rw [if_pos (by assumption), ← e])
          | (rw [if_neg (by simp only [Bool.not_eq_true]; assumption), ← e, List.append_nil])
  · repeat' (first
      | (conv => whnf); first
        | (apply ch_l; apply sp_i; first | exact rfl | omega | exact ⟨rfl, rfl, by omega⟩ | exact ⟨rfl, by omega⟩ | exact ⟨rfl, by omega, by omega, by omega⟩ | exact ⟨rfl, by simp, by omega, by omega⟩ | exact ⟨⟨_, rfl⟩, by omega⟩ | exact ⟨⟨_, rfl⟩, by omega, by omega⟩ | assumption | decide | (simp only [List.length_drop, List.length_take, List.length_append, List.length_set, List.length_cons, List.length_nil, OrOk] at *; omega) | (simp; omega))
        | (apply sp_i; first | exact rfl | omega | exact ⟨rfl, rfl, by omega⟩ | exact ⟨rfl, by omega⟩ | exact ⟨rfl, by omega, by omega, by omega⟩ | exact ⟨rfl, by simp, by omega, by omega⟩ | exact ⟨⟨_, rfl⟩, by omega⟩ | exact ⟨⟨_, rfl⟩, by omega, by omega⟩ | assumption | decide | (simp only [List.length_drop, List.length_take, List.length_append, List.length_set, List.length_cons, List.length_nil, OrOk] at *; omega) | (simp; omega))
        | (apply sc_true) | (apply sc_false)
        | (first | apply sc_lt | apply sc_nlt | apply sc_eq | apply sc_neq | apply sc_nil | apply sc_nnil | apply sc_seq | apply sc_nseq); all_goals (intro hb; try (first | (exfalso; omega) | exact absurd rfl hb | exact absurd hb (by decide) | exact absurd hb (by assumption) | exact absurd (by assumption) hb | (exfalso; simp only [List.length_cons, List.length_nil, List.length_append] at hb; omega)))
        | (apply sc_not) | (apply sc_or) | (apply sc_i; all_goals intro hb)
        | (first | apply ix_nat | apply ix_int); first | omega | (simp only [List.length_drop, List.length_take, List.length_append, List.length_set, List.length_cons, List.length_nil] at *; omega)
        | (apply bx_i; intro hbd) | (apply gt_i; assumption; exact rfl)
        | (first | apply sd_nat | apply sd_int | apply sl_nat | apply sl_int); first | omega | (simp only [List.length_drop, List.length_take, List.length_append, List.length_set, List.length_cons, List.length_nil] at *; omega)
        | (apply cx_is; first | exact when_four_int hP _ (by omega) (by omega)) | (apply cx_do (i := 0) rfl; first | exact when_four_int hP _ (by omega) (by omega))
        | (apply ab_i; intro bl) | (apply as_i; intro va vk vc hva) | (apply av_i; intro v) | (apply ac_i; intro bl cap hcap)
        | (apply bo_l) | (apply ch_r; apply sp_i; first | assumption | decide) | (apply ch_r; apply sp_i; intro i hi; exact ⟨rfl, rfl, rfl⟩) | (apply nx_i; all_goals intro hnx)
        | (apply Ia.hit; assumption) | (apply Ia.miss; assumption)
        | (apply rt_is; exact rfl) | (apply rt_do; exact rfl; (repeat (first | exact List.nil_sublist _ | apply List.Sublist.cons_cons))) | (apply iv; assumption)
        | (exact True.intro) | (apply bc_i; intro C hC) | (apply bt_i) | (apply og_n) | (apply og_a; exact rfl))
    all_goals (try conv => whnf)
    refine lp hC hGL (fun (x : Nat × List UInt8) => [(1, .rop [.int .i64 t.y, .int .i64 t.m, .int .i64 t.d, .int .i64 t.h, .int .i64 t.i, .int .i64 t.s, .bool t.z, .int .i64 t.o] 0), (3, .str x.2), (29, .list 1 5 (partElem [(0, .int .i64 t.m), (1, .int .i64 t.d), (2, .int .i64 t.h), (3, .int .i64 t.i), (4, .int .i64 t.s)])), (30, .int .i64 5), (31, .int .i64 (x.1 : Nat))]) (fun _ => []) (fun x => x.1 ≤ 5 ∧ x.2 = allP t x.1) (fun x => 5 - x.1) (0, fourS t.y) ⟨show 0 ≤ 5 by decide, (if_neg hy).symm⟩ (by repeat (first | exact trivial | refine And.intro rfl ?_)) rfl ?_
    rintro ⟨k', A⟩ ⟨hk, hA⟩
    have hk : k' ≤ 5 := hk
    have hA : A = allP t k' := hA
    have hl := all_le t k'
    rw [← hA] at hl
    rcases (show k' = 0 ∨ k' = 1 ∨ k' = 2 ∨ k' = 3 ∨ k' = 4 ∨ k' = 5 by omega) with rfl | rfl | rfl | rfl | rfl | rfl
    · repeat' (first
        | (conv => whnf); first
          | (apply ch_l; apply sp_i; first | exact rfl | omega | exact ⟨rfl, by omega⟩ | exact ⟨rfl, by omega, by omega, by omega⟩ | exact ⟨rfl, by simp, by omega, by omega⟩ | exact ⟨⟨_, rfl⟩, by omega⟩ | assumption | (simp; omega))
          | (apply sp_i; first | exact rfl | omega | exact ⟨rfl, rfl, by omega⟩ | exact ⟨rfl, by omega⟩ | exact ⟨rfl, by omega, by omega, by omega⟩ | exact ⟨rfl, by simp, by omega, by omega⟩ | exact ⟨⟨_, rfl⟩, by omega⟩ | assumption | (simp; omega))
          | (apply sc_true) | (apply sc_false)
          | (first | apply sc_lt | apply sc_nlt | apply sc_eq | apply sc_neq | apply sc_nil | apply sc_nnil); all_goals (intro hb; try (first | (exfalso; omega) | exact absurd rfl hb | exact absurd hb (by decide) | exact absurd (by assumption) hb | (exfalso; simp only [List.length_cons, List.length_nil] at hb; omega)))
          | (apply sc_not) | (apply sc_i; all_goals intro hb)
          | (first | apply ix_nat | apply ix_int | apply sd_nat | apply sd_int | apply sl_nat | apply sl_int); first | omega | (simp only [List.length_cons, List.length_nil, List.length_drop, List.length_take] at *; omega)
          | (apply bx_i; intro hbd) | (apply gt_i; assumption; exact rfl)
          | (apply cx_is; first | exact when_two_int _ (by omega) (by omega)) | (apply ab_i; intro bl)
          | (apply rt_is; exact rfl) | (apply rt_do; exact rfl; (repeat (first | exact List.nil_sublist _ | apply List.Sublist.cons_cons)))
          | (exact True.intro) | (apply bc_i; intro C hC) | (apply bt_i) | (apply og_n) | (apply og_a; exact rfl))
      all_goals (try conv => whnf)
      · refine nxs (1, A ++ twoS (numP t 0)) ⟨show (1 : Nat) ≤ 5 by decide, all_in hA (by assumption)⟩ (show 5 - 1 < 5 - 0 by decide) (by repeat (first | exact trivial | refine And.intro rfl ?_)) (by repeat (first | exact List.nil_sublist _ | apply List.Sublist.cons_cons | apply List.Sublist.cons))
      · refine nxs (1, A) ⟨show (1 : Nat) ≤ 5 by decide, all_out hA (by assumption)⟩ (show 5 - 1 < 5 - 0 by decide) (by repeat (first | exact trivial | refine And.intro rfl ?_)) (by repeat (first | exact List.nil_sublist _ | apply List.Sublist.cons_cons | apply List.Sublist.cons))
    · repeat' (first
        | (conv => whnf); first
          | (apply ch_l; apply sp_i; first | exact rfl | omega | exact ⟨rfl, by omega⟩ | exact ⟨rfl, by omega, by omega, by omega⟩ | exact ⟨rfl, by simp, by omega, by omega⟩ | exact ⟨⟨_, rfl⟩, by omega⟩ | assumption | (simp; omega))
          | (apply sp_i; first | exact rfl | omega | exact ⟨rfl, rfl, by omega⟩ | exact ⟨rfl, by omega⟩ | exact ⟨rfl, by omega, by omega, by omega⟩ | exact ⟨rfl, by simp, by omega, by omega⟩ | exact ⟨⟨_, rfl⟩, by omega⟩ | assumption | (simp; omega))
          | (apply sc_true) | (apply sc_false)
          | (first | apply sc_lt | apply sc_nlt | apply sc_eq | apply sc_neq | apply sc_nil | apply sc_nnil); all_goals (intro hb; try (first | (exfalso; omega) | exact absurd rfl hb | exact absurd hb (by decide) | exact absurd (by assumption) hb | (exfalso; simp only [List.length_cons, List.length_nil] at hb; omega)))
          | (apply sc_not) | (apply sc_i; all_goals intro hb)
          | (first | apply ix_nat | apply ix_int | apply sd_nat | apply sd_int | apply sl_nat | apply sl_int); first | omega | (simp only [List.length_cons, List.length_nil, List.length_drop, List.length_take] at *; omega)
          | (apply bx_i; intro hbd) | (apply gt_i; assumption; exact rfl)
          | (apply cx_is; first | exact when_two_int _ (by omega) (by omega)) | (apply ab_i; intro bl)
          | (apply rt_is; exact rfl) | (apply rt_do; exact rfl; (repeat (first | exact List.nil_sublist _ | apply List.Sublist.cons_cons)))
          | (exact True.intro) | (apply bc_i; intro C hC) | (apply bt_i) | (apply og_n) | (apply og_a; exact rfl))
      all_goals (try conv => whnf)
      · refine nxs (2, A ++ twoS (numP t 1)) ⟨show (2 : Nat) ≤ 5 by decide, all_in hA (by assumption)⟩ (show 5 - 2 < 5 - 1 by decide) (by repeat (first | exact trivial | refine And.intro rfl ?_)) (by repeat (first | exact List.nil_sublist _ | apply List.Sublist.cons_cons | apply List.Sublist.cons))
      · refine nxs (2, A) ⟨show (2 : Nat) ≤ 5 by decide, all_out hA (by assumption)⟩ (show 5 - 2 < 5 - 1 by decide) (by repeat (first | exact trivial | refine And.intro rfl ?_)) (by repeat (first | exact List.nil_sublist _ | apply List.Sublist.cons_cons | apply List.Sublist.cons))
    · repeat' (first
        | (conv => whnf); first
          | (apply ch_l; apply sp_i; first | exact rfl | omega | exact ⟨rfl, by omega⟩ | exact ⟨rfl, by omega, by omega, by omega⟩ | exact ⟨rfl, by simp, by omega, by omega⟩ | exact ⟨⟨_, rfl⟩, by omega⟩ | assumption | (simp; omega))
          | (apply sp_i; first | exact rfl | omega | exact ⟨rfl, rfl, by omega⟩ | exact ⟨rfl, by omega⟩ | exact ⟨rfl, by omega, by omega, by omega⟩ | exact ⟨rfl, by simp, by omega, by omega⟩ | exact ⟨⟨_, rfl⟩, by omega⟩ | assumption | (simp; omega))
          | (apply sc_true) | (apply sc_false)
          | (first | apply sc_lt | apply sc_nlt | apply sc_eq | apply sc_neq | apply sc_nil | apply sc_nnil); all_goals (intro hb; try (first | (exfalso; omega) | exact absurd rfl hb | exact absurd hb (by decide) | exact absurd (by assumption) hb | (exfalso; simp only [List.length_cons, List.length_nil] at hb; omega)))
          | (apply sc_not) | (apply sc_i; all_goals intro hb)
          | (first | apply ix_nat | apply ix_int | apply sd_nat | apply sd_int | apply sl_nat | apply sl_int); first | omega | (simp only [List.length_cons, List.length_nil, List.length_drop, List.length_take] at *; omega)
          | (apply bx_i; intro hbd) | (apply gt_i; assumption; exact rfl)
          | (apply cx_is; first | exact when_two_int _ (by omega) (by omega)) | (apply ab_i; intro bl)
          | (apply rt_is; exact rfl) | (apply rt_do; exact rfl; (repeat (first | exact List.nil_sublist _ | apply List.Sublist.cons_cons)))
          | (exact True.intro) | (apply bc_i; intro C hC) | (apply bt_i) | (apply og_n) | (apply og_a; exact rfl))
      all_goals (try conv => whnf)
      · refine nxs (3, A ++ twoS (numP t 2)) ⟨show (3 : Nat) ≤ 5 by decide, all_in hA (by assumption)⟩ (show 5 - 3 < 5 - 2 by decide) (by repeat (first | exact trivial | refine And.intro rfl ?_)) (by repeat (first | exact List.nil_sublist _ | apply List.Sublist.cons_cons | apply List.Sublist.cons))
      · refine nxs (3, A) ⟨show (3 : Nat) ≤ 5 by decide, all_out hA (by assumption)⟩ (show 5 - 3 < 5 - 2 by decide) (by repeat (first | exact trivial | refine And.intro rfl ?_)) (by repeat (first | exact List.nil_sublist _ | apply List.Sublist.cons_cons | apply List.Sublist.cons))
    · repeat' (first
        | (conv => whnf); first
          | (apply ch_l; apply sp_i; first | exact rfl | omega | exact ⟨rfl, by omega⟩ | exact ⟨rfl, by omega, by omega, by omega⟩ | exact ⟨rfl, by simp, by omega, by omega⟩ | exact ⟨⟨_, rfl⟩, by omega⟩ | assumption | (simp; omega))
          | (apply sp_i; first | exact rfl | omega | exact ⟨rfl, rfl, by omega⟩ | exact ⟨rfl, by omega⟩ | exact ⟨rfl, by omega, by omega, by omega⟩ | exact ⟨rfl, by simp, by omega, by omega⟩ | exact ⟨⟨_, rfl⟩, by omega⟩ | assumption | (simp; omega))
          | (apply sc_true) | (apply sc_false)
          | (first | apply sc_lt | apply sc_nlt | apply sc_eq | apply sc_neq | apply sc_nil | apply sc_nnil); all_goals (intro hb; try (first | (exfalso; omega) | exact absurd rfl hb | exact absurd hb (by decide) | exact absurd (by assumption) hb | (exfalso; simp only [List.length_cons, List.length_nil] at hb; omega)))
          | (apply sc_not) | (apply sc_i; all_goals intro hb)
          | (first | apply ix_nat | apply ix_int | apply sd_nat | apply sd_int | apply sl_nat | apply sl_int); first | omega | (simp only [List.length_cons, List.length_nil, List.length_drop, List.length_take] at *; omega)
          | (apply bx_i; intro hbd) | (apply gt_i; assumption; exact rfl)
          | (apply cx_is; first | exact when_two_int _ (by omega) (by omega)) | (apply ab_i; intro bl)
          | (apply rt_is; exact rfl) | (apply rt_do; exact rfl; (repeat (first | exact List.nil_sublist _ | apply List.Sublist.cons_cons)))
          | (exact True.intro) | (apply bc_i; intro C hC) | (apply bt_i) | (apply og_n) | (apply og_a; exact rfl))
      all_goals (try conv => whnf)
      · refine nxs (4, A ++ twoS (numP t 3)) ⟨show (4 : Nat) ≤ 5 by decide, all_in hA (by assumption)⟩ (show 5 - 4 < 5 - 3 by decide) (by repeat (first | exact trivial | refine And.intro rfl ?_)) (by repeat (first | exact List.nil_sublist _ | apply List.Sublist.cons_cons | apply List.Sublist.cons))
      · refine nxs (4, A) ⟨show (4 : Nat) ≤ 5 by decide, all_out hA (by assumption)⟩ (show 5 - 4 < 5 - 3 by decide) (by repeat (first | exact trivial | refine And.intro rfl ?_)) (by repeat (first | exact List.nil_sublist _ | apply List.Sublist.cons_cons | apply List.Sublist.cons))
    · repeat' (first
        | (conv => whnf); first
          | (apply ch_l; apply sp_i; first | exact rfl | omega | exact ⟨rfl, by omega⟩ | exact ⟨rfl, by omega, by omega, by omega⟩ | exact ⟨rfl, by simp, by omega, by omega⟩ | exact ⟨⟨_, rfl⟩, by omega⟩ | assumption | (simp; omega))
          | (apply sp_i; first | exact rfl | omega | exact ⟨rfl, rfl, by omega⟩ | exact ⟨rfl, by omega⟩ | exact ⟨rfl, by omega, by omega, by omega⟩ | exact ⟨rfl, by simp, by omega, by omega⟩ | exact ⟨⟨_, rfl⟩, by omega⟩ | assumption | (simp; omega))
          | (apply sc_true) | (apply sc_false)
          | (first | apply sc_lt | apply sc_nlt | apply sc_eq | apply sc_neq | apply sc_nil | apply sc_nnil); all_goals (intro hb; try (first | (exfalso; omega) | exact absurd rfl hb | exact absurd hb (by decide) | exact absurd (by assumption) hb | (exfalso; simp only [List.length_cons, List.length_nil] at hb; omega)))
          | (apply sc_not) | (apply sc_i; all_goals intro hb)
          | (first | apply ix_nat | apply ix_int | apply sd_nat | apply sd_int | apply sl_nat | apply sl_int); first | omega | (simp only [List.length_cons, List.length_nil, List.length_drop, List.length_take] at *; omega)
          | (apply bx_i; intro hbd) | (apply gt_i; assumption; exact rfl)
          | (apply cx_is; first | exact when_two_int _ (by omega) (by omega)) | (apply ab_i; intro bl)
          | (apply rt_is; exact rfl) | (apply rt_do; exact rfl; (repeat (first | exact List.nil_sublist _ | apply List.Sublist.cons_cons)))
          | (exact True.intro) | (apply bc_i; intro C hC) | (apply bt_i) | (apply og_n) | (apply og_a; exact rfl))
      all_goals (try conv => whnf)
      · refine nxs (5, A ++ twoS (numP t 4)) ⟨show (5 : Nat) ≤ 5 by decide, all_in hA (by assumption)⟩ (show 5 - 5 < 5 - 4 by decide) (by repeat (first | exact trivial | refine And.intro rfl ?_)) (by repeat (first | exact List.nil_sublist _ | apply List.Sublist.cons_cons | apply List.Sublist.cons))
      · refine nxs (5, A) ⟨show (5 : Nat) ≤ 5 by decide, all_out hA (by assumption)⟩ (show 5 - 5 < 5 - 4 by decide) (by repeat (first | exact trivial | refine And.intro rfl ?_)) (by repeat (first | exact List.nil_sublist _ | apply List.Sublist.cons_cons | apply List.Sublist.cons))
    repeat' (first
      | (conv => whnf); first
        | (apply ch_l; apply sp_i; first | exact rfl | omega | exact ⟨rfl, by omega⟩ | exact ⟨rfl, by omega, by omega, by omega⟩ | exact ⟨rfl, by simp, by omega, by omega⟩ | exact ⟨⟨_, rfl⟩, by omega⟩ | assumption | (simp; omega))
        | (apply sp_i; first | exact rfl | omega | exact ⟨rfl, rfl, by omega⟩ | exact ⟨rfl, by omega⟩ | exact ⟨rfl, by omega, by omega, by omega⟩ | exact ⟨rfl, by simp, by omega, by omega⟩ | exact ⟨⟨_, rfl⟩, by omega⟩ | assumption | (simp; omega))
        | (apply sc_true) | (apply sc_false)
        | (first | apply sc_lt | apply sc_nlt | apply sc_eq | apply sc_neq | apply sc_nil | apply sc_nnil); all_goals (intro hb; try (first | (exfalso; omega) | exact absurd rfl hb | exact absurd hb (by decide) | exact absurd (by assumption) hb | (exfalso; simp only [List.length_cons, List.length_nil] at hb; omega)))
        | (apply sc_not) | (apply sc_i; all_goals intro hb)
        | (first | apply ix_nat | apply ix_int | apply sd_nat | apply sd_int | apply sl_nat | apply sl_int); first | omega | (simp only [List.length_cons, List.length_nil, List.length_drop, List.length_take] at *; omega)
        | (apply bx_i; intro hbd) | (apply gt_i; assumption; exact rfl)
        | (apply cx_is; first | fail) | (apply ab_i; intro bl)
        | (apply rt_is; exact rfl) | (apply rt_do; exact rfl; (repeat (first | exact List.nil_sublist _ | apply List.Sublist.cons_cons)))
        | (exact True.intro) | (apply bc_i; intro C hC) | (apply bt_i) | (apply og_n) | (apply og_a; exact rfl))
    all_goals (try conv => whnf)
    refine dw_p mixed hC hGL false (fun (_ : Unit) => [(1, .rop [.int .i64 t.y, .int .i64 t.m, .int .i64 t.d, .int .i64 t.h, .int .i64 t.i, .int .i64 t.s, .bool t.z, .int .i64 t.o] 0), (3, .str A), (6, .str (dateF (whN (tlB t.y) (tlB t.m) (tlB t.d)).toNat))]) (fun _ => []) (.take 1 (.take 2 (.take 3 (.take 4 (.take 5 (.take 6 (.br 0 (.br 7 (.br 8 (.take 9 (.take 10 (.take 11 (.take 12 (.done))))) (.nil)) (.nil)) (.br 7 (.br 0 (.br 8 (.take 9 (.take 10 (.take 11 (.take 12 (.done))))) (.nil)) (.br 8 (.br 0 (.take 9 (.take 10 (.take 11 (.take 12 (.done))))) (.nil)) (.nil))) (.nil))))))))) (by kernel_rfl) ?_ ?_
    · repeat' (first
        | (conv => whnf); first
          | (apply ch_l; apply sp_i; first | exact rfl | omega | exact ⟨rfl, rfl, by omega⟩ | exact ⟨rfl, by omega⟩ | exact ⟨rfl, by omega, by omega, by omega⟩ | exact ⟨rfl, by simp, by omega, by omega⟩ | exact ⟨⟨_, rfl⟩, by omega⟩ | exact ⟨⟨_, rfl⟩, by omega, by omega⟩ | assumption | decide | (simp only [List.length_drop, List.length_take, List.length_append, List.length_set, List.length_cons, List.length_nil, OrOk] at *; omega) | (simp; omega))
          | (apply sp_i; first | exact rfl | omega | exact ⟨rfl, rfl, by omega⟩ | exact ⟨rfl, by omega⟩ | exact ⟨rfl, by omega, by omega, by omega⟩ | exact ⟨rfl, by simp, by omega, by omega⟩ | exact ⟨⟨_, rfl⟩, by omega⟩ | exact ⟨⟨_, rfl⟩, by omega, by omega⟩ | assumption | decide | (simp only [List.length_drop, List.length_take, List.length_append, List.length_set, List.length_cons, List.length_nil, OrOk] at *; omega) | (simp; omega))
          | (apply sc_true) | (apply sc_false)
          | (first | apply sc_lt | apply sc_nlt | apply sc_eq | apply sc_neq | apply sc_nil | apply sc_nnil | apply sc_seq | apply sc_nseq); all_goals (intro hb; try (first | (exfalso; omega) | exact absurd rfl hb | exact absurd hb (by decide) | exact absurd hb (by assumption) | exact absurd (by assumption) hb | (exfalso; simp only [List.length_cons, List.length_nil, List.length_append] at hb; omega)))
          | (apply sc_not) | (apply sc_or) | (apply sc_i; all_goals intro hb)
          | (first | apply ix_nat | apply ix_int); first | omega | (simp only [List.length_drop, List.length_take, List.length_append, List.length_set, List.length_cons, List.length_nil] at *; omega)
          | (apply bx_i; intro hbd) | (apply gt_i; assumption; exact rfl)
          | (first | apply sd_nat | apply sd_int | apply sl_nat | apply sl_int); first | omega | (simp only [List.length_drop, List.length_take, List.length_append, List.length_set, List.length_cons, List.length_nil] at *; omega)
          | (apply cx_is; first | exact h1) | (apply cx_do (i := 0) rfl; first | exact h1)
          | (apply ab_i; intro bl) | (apply as_i; intro va vk vc hva) | (apply av_i; intro v) | (apply ac_i; intro bl cap hcap)
          | (apply bo_l) | (apply ch_r; apply sp_i; first | assumption | decide) | (apply ch_r; apply sp_i; intro i hi; exact ⟨rfl, rfl, rfl⟩) | (apply nx_i; all_goals intro hnx)
          | (apply Ia.hit; assumption) | (apply Ia.miss; assumption)
          | (apply rt_is; exact rfl) | (apply rt_do; exact rfl; (repeat (first | exact List.nil_sublist _ | apply List.Sublist.cons_cons))) | (apply iv; assumption)
          | (exact True.intro) | (apply bc_i; intro C hC) | (apply bt_i) | (apply og_n) | (apply og_a; exact rfl))
      all_goals (try conv => whnf)
      all_goals exact ⟨(), ⟨rfl, rfl, rfl, trivial⟩, rfl⟩
    intro _
    repeat' (first
      | (conv => whnf); first
        | (apply ch_l; apply sp_i; first | exact rfl | omega | exact ⟨rfl, rfl, by omega⟩ | exact ⟨rfl, by omega⟩ | exact ⟨rfl, by omega, by omega, by omega⟩ | exact ⟨rfl, by simp, by omega, by omega⟩ | exact ⟨⟨_, rfl⟩, by omega⟩ | exact ⟨⟨_, rfl⟩, by omega, by omega⟩ | assumption | decide | (simp only [List.length_drop, List.length_take, List.length_append, List.length_set, List.length_cons, List.length_nil, OrOk] at *; omega) | (simp; omega))
        | (apply sp_i; first | exact rfl | omega | exact ⟨rfl, rfl, by omega⟩ | exact ⟨rfl, by omega⟩ | exact ⟨rfl, by omega, by omega, by omega⟩ | exact ⟨rfl, by simp, by omega, by omega⟩ | exact ⟨⟨_, rfl⟩, by omega⟩ | exact ⟨⟨_, rfl⟩, by omega, by omega⟩ | assumption | decide | (simp only [List.length_drop, List.length_take, List.length_append, List.length_set, List.length_cons, List.length_nil, OrOk] at *; omega) | (simp; omega))
        | (apply sc_true) | (apply sc_false)
        | (first | apply sc_lt | apply sc_nlt | apply sc_eq | apply sc_neq | apply sc_nil | apply sc_nnil | apply sc_seq | apply sc_nseq); all_goals (intro hb; try (first | (exfalso; omega) | exact absurd rfl hb | exact absurd hb (by decide) | exact absurd hb (by assumption) | exact absurd (by assumption) hb | (exfalso; simp only [List.length_cons, List.length_nil, List.length_append] at hb; omega)))
        | (apply sc_not) | (apply sc_or) | (apply sc_i; all_goals intro hb)
        | (first | apply ix_nat | apply ix_int); first | omega | (simp only [List.length_drop, List.length_take, List.length_append, List.length_set, List.length_cons, List.length_nil] at *; omega)
        | (apply bx_i; intro hbd) | (apply gt_i; assumption; exact rfl)
        | (first | apply sd_nat | apply sd_int | apply sl_nat | apply sl_int); first | omega | (simp only [List.length_drop, List.length_take, List.length_append, List.length_set, List.length_cons, List.length_nil] at *; omega)
        | (apply cx_is; first | exact h2 | exact h3) | (apply cx_do (i := 0) rfl; first | exact h2 | exact h3)
        | (apply ab_i; intro bl) | (apply as_i; intro va vk vc hva) | (apply av_i; intro v) | (apply ac_i; intro bl cap hcap)
        | (apply bo_l) | (apply ch_r; apply sp_i; first | assumption | decide) | (apply ch_r; apply sp_i; intro i hi; exact ⟨rfl, rfl, rfl⟩) | (apply nx_i; all_goals intro hnx)
        | (apply Ia.hit; assumption) | (apply Ia.miss; assumption)
        | (apply rt_is; exact rfl) | (apply rt_do; exact rfl; (repeat (first | exact List.nil_sublist _ | apply List.Sublist.cons_cons))) | (apply iv; assumption)
        | (exact True.intro) | (apply bc_i; intro C hC) | (apply bt_i) | (apply og_n) | (apply og_a; exact rfl))
    all_goals (try conv => whnf)
    · have hG := fill_time hf (by assumption)
      have hLF : (dateF (whN (tlB t.y) (tlB t.m) (tlB t.d)).toNat ++ ([84] ++ clkF (whN (tlB t.h) (tlB t.i) (tlB t.s)).toNat)).length ≤ 15 := by first | (rw [List.length_append, List.length_append, List.length_singleton]; omega) | omega
      rw [← hA] at hG
      refine lp hC hGL (fun (x : Nat × List UInt8 × List UInt8) => [(1, .rop [.int .i64 t.y, .int .i64 t.m, .int .i64 t.d, .int .i64 t.h, .int .i64 t.i, .int .i64 t.s, .bool t.z, .int .i64 t.o] 0), (3, .str x.2.2), (8, .str x.2.1), (73, .own 0 (.slice (some ⟨bl, 0, none⟩) (dateF (whN (tlB t.y) (tlB t.m) (tlB t.d)).toNat ++ ([84] ++ clkF (whN (tlB t.h) (tlB t.i) (tlB t.s)).toNat)).length cap)), (74, .int .i64 ((dateF (whN (tlB t.y) (tlB t.m) (tlB t.d)).toNat ++ ([84] ++ clkF (whN (tlB t.h) (tlB t.i) (tlB t.s)).toNat)).length : Nat)), (75, .int .i64 (x.1 : Nat))]) (fun _ => [.buf bl (dateF (whN (tlB t.y) (tlB t.m) (tlB t.d)).toNat ++ ([84] ++ clkF (whN (tlB t.h) (tlB t.i) (tlB t.s)).toNat)) cap]) (fun x => FillP (dateF (whN (tlB t.y) (tlB t.m) (tlB t.d)).toNat ++ ([84] ++ clkF (whN (tlB t.h) (tlB t.i) (tlB t.s)).toNat)) A x.1 x.2.1 x.2.2) (fun x => (dateF (whN (tlB t.y) (tlB t.m) (tlB t.d)).toNat ++ ([84] ++ clkF (whN (tlB t.h) (tlB t.i) (tlB t.s)).toNat)).length - x.1) (0, [], A) (fill_init hG.1 hl) (by repeat (first | exact trivial | refine And.intro rfl ?_)) rfl ?_
      rintro ⟨i, out, all⟩ hI
      have hI : FillP (dateF (whN (tlB t.y) (tlB t.m) (tlB t.d)).toNat ++ ([84] ++ clkF (whN (tlB t.h) (tlB t.i) (tlB t.s)).toNat)) A i out all := hI
      have hI1 := hI.1
      have hI2 := hI.2.1
      have hI3 := hI.2.2.1
      have hI0 := fun h => fill_pos hI h
      repeat' (first
        | (conv => whnf); first
          | (apply ch_l; apply sp_i; first | exact rfl | omega | exact ⟨rfl, rfl, by omega⟩ | exact ⟨rfl, by omega⟩ | exact ⟨rfl, by omega, by omega, by omega⟩ | exact ⟨rfl, by simp, by omega, by omega⟩ | exact ⟨⟨_, rfl⟩, by omega⟩ | exact ⟨⟨_, rfl⟩, by omega, by omega⟩ | assumption | decide | (simp only [List.length_drop, List.length_take, List.length_append, List.length_set, List.length_cons, List.length_nil, OrOk] at *; omega) | (simp; omega))
          | (apply sp_i; first | exact rfl | omega | exact ⟨rfl, rfl, by omega⟩ | exact ⟨rfl, by omega⟩ | exact ⟨rfl, by omega, by omega, by omega⟩ | exact ⟨rfl, by simp, by omega, by omega⟩ | exact ⟨⟨_, rfl⟩, by omega⟩ | exact ⟨⟨_, rfl⟩, by omega, by omega⟩ | assumption | decide | (simp only [List.length_drop, List.length_take, List.length_append, List.length_set, List.length_cons, List.length_nil, OrOk] at *; omega) | (simp; omega))
          | (apply sc_true) | (apply sc_false)
          | (first | apply sc_lt | apply sc_nlt | apply sc_eq | apply sc_neq | apply sc_nil | apply sc_nnil | apply sc_seq | apply sc_nseq); all_goals (intro hb; try (first | (exfalso; omega) | exact absurd rfl hb | exact absurd hb (by decide) | exact absurd hb (by assumption) | exact absurd (by assumption) hb | (exfalso; simp only [List.length_cons, List.length_nil, List.length_append] at hb; omega)))
          | (apply sc_not) | (apply sc_or) | (apply sc_i; all_goals intro hb)
          | (first | apply ix_nat | apply ix_int); first | omega | (simp only [List.length_drop, List.length_take, List.length_append, List.length_set, List.length_cons, List.length_nil] at *; omega)
          | (apply bx_i; intro hbd) | (apply gt_i; assumption; exact rfl)
          | (first | apply sd_nat | apply sd_int | apply sl_nat | apply sl_int); first | omega | (simp only [List.length_drop, List.length_take, List.length_append, List.length_set, List.length_cons, List.length_nil] at *; omega)
          | (apply cx_is; first | exact h3) | (apply cx_do (i := 0) rfl; first | exact h3)
          | (apply ab_i; intro bl) | (apply as_i; intro va vk vc hva) | (apply av_i; intro v) | (apply ac_i; intro bl cap hcap)
          | (apply bo_l) | (apply ch_r; apply sp_i; first | assumption | decide) | (apply ch_r; apply sp_i; intro i hi; exact ⟨rfl, rfl, rfl⟩) | (apply nx_i; all_goals intro hnx)
          | (apply Ia.hit; assumption) | (apply Ia.miss; assumption)
          | (apply rt_is; exact rfl) | (apply rt_do; exact rfl; (repeat (first | exact List.nil_sublist _ | apply List.Sublist.cons_cons))) | (apply iv; assumption)
          | (apply dw_q mixed hC hGL (by kernel_rfl))
          | (apply cq; assumption; (first | exact h3); exact rfl))
      all_goals (try conv => whnf)
      · refine op1_run hC hGL (rv_bytes [_] rfl (by intro v hv; obtain rfl := List.mem_singleton.1 hv; exact ⟨Int.natCast_nonneg _, by exact_mod_cast byteAt_lt _ _⟩) rfl rfl rfl rfl rfl rfl) rfl rfl ?_
        repeat' (first
          | (conv => whnf); first
            | (apply ch_l; apply sp_i; first | exact rfl | omega | exact ⟨rfl, by omega⟩ | exact ⟨rfl, by omega, by omega, by omega⟩ | exact ⟨rfl, by simp, by omega, by omega⟩ | exact ⟨⟨_, rfl⟩, by omega⟩ | assumption | (simp; omega))
            | (apply sp_i; first | exact rfl | omega | exact ⟨rfl, rfl, by omega⟩ | exact ⟨rfl, by omega⟩ | exact ⟨rfl, by omega, by omega, by omega⟩ | exact ⟨rfl, by simp, by omega, by omega⟩ | exact ⟨⟨_, rfl⟩, by omega⟩ | assumption | (simp; omega))
            | (apply sc_true) | (apply sc_false)
            | (first | apply sc_lt | apply sc_nlt | apply sc_eq | apply sc_neq | apply sc_nil | apply sc_nnil); all_goals (intro hb; try (first | (exfalso; omega) | exact absurd rfl hb | exact absurd hb (by decide) | exact absurd (by assumption) hb | (exfalso; simp only [List.length_cons, List.length_nil] at hb; omega)))
            | (apply sc_not) | (apply sc_i; all_goals intro hb)
            | (first | apply ix_nat | apply ix_int | apply sd_nat | apply sd_int | apply sl_nat | apply sl_int); first | omega | (simp only [List.length_cons, List.length_nil, List.length_drop, List.length_take] at *; omega)
            | (apply bx_i; intro hbd) | (apply gt_i; assumption; exact rfl)
            | (apply cx_is; first | fail) | (apply ab_i; intro bl)
            | (apply rt_is; exact rfl) | (apply rt_do; exact rfl; (repeat (first | exact List.nil_sublist _ | apply List.Sublist.cons_cons)))
            | (exact True.intro) | (apply bc_i; intro C hC) | (apply bt_i) | (apply og_n) | (apply og_a; exact rfl))
        all_goals (try conv => whnf)
        refine sp_i (show out.length + 1 ≤ 9223372036854775807 by omega) ?_
        repeat' (first
          | (conv => whnf); first
            | (apply ch_l; apply sp_i; first | exact rfl | omega | exact ⟨rfl, by omega⟩ | exact ⟨rfl, by omega, by omega, by omega⟩ | exact ⟨rfl, by simp, by omega, by omega⟩ | exact ⟨⟨_, rfl⟩, by omega⟩ | assumption | (simp; omega))
            | (apply sp_i; first | exact rfl | omega | exact ⟨rfl, rfl, by omega⟩ | exact ⟨rfl, by omega⟩ | exact ⟨rfl, by omega, by omega, by omega⟩ | exact ⟨rfl, by simp, by omega, by omega⟩ | exact ⟨⟨_, rfl⟩, by omega⟩ | assumption | (simp; omega))
            | (apply sc_true) | (apply sc_false)
            | (first | apply sc_lt | apply sc_nlt | apply sc_eq | apply sc_neq | apply sc_nil | apply sc_nnil); all_goals (intro hb; try (first | (exfalso; omega) | exact absurd rfl hb | exact absurd hb (by decide) | exact absurd (by assumption) hb | (exfalso; simp only [List.length_cons, List.length_nil] at hb; omega)))
            | (apply sc_not) | (apply sc_i; all_goals intro hb)
            | (first | apply ix_nat | apply ix_int | apply sd_nat | apply sd_int | apply sl_nat | apply sl_int); first | omega | (simp only [List.length_cons, List.length_nil, List.length_drop, List.length_take] at *; omega)
            | (apply bx_i; intro hbd) | (apply gt_i; assumption; exact rfl)
            | (apply cx_is; first | fail) | (apply ab_i; intro bl)
            | (apply rt_is; exact rfl) | (apply rt_do; exact rfl; (repeat (first | exact List.nil_sublist _ | apply List.Sublist.cons_cons)))
            | (exact True.intro) | (apply bc_i; intro C hC) | (apply bt_i) | (apply og_n) | (apply og_a; exact rfl))
        all_goals (try conv => whnf)
        refine nxt (i + 1, out ++ bytesI [(byteAt all 0 : Int)], all.drop 1) ?_ ?_ (by repeat (first | exact trivial | refine And.intro rfl ?_)) rfl
        · exact fill_hole hI (by omega) (by assumption)
        · show _ - (i + 1) < _ - i
          omega
      · refine op1_run hC hGL (rv_bytes [_] rfl (by intro v hv; obtain rfl := List.mem_singleton.1 hv; exact ⟨Int.natCast_nonneg _, by exact_mod_cast byteAt_lt _ _⟩) rfl rfl rfl rfl rfl rfl) rfl rfl ?_
        repeat' (first
          | (conv => whnf); first
            | (apply ch_l; apply sp_i; first | exact rfl | omega | exact ⟨rfl, by omega⟩ | exact ⟨rfl, by omega, by omega, by omega⟩ | exact ⟨rfl, by simp, by omega, by omega⟩ | exact ⟨⟨_, rfl⟩, by omega⟩ | assumption | (simp; omega))
            | (apply sp_i; first | exact rfl | omega | exact ⟨rfl, rfl, by omega⟩ | exact ⟨rfl, by omega⟩ | exact ⟨rfl, by omega, by omega, by omega⟩ | exact ⟨rfl, by simp, by omega, by omega⟩ | exact ⟨⟨_, rfl⟩, by omega⟩ | assumption | (simp; omega))
            | (apply sc_true) | (apply sc_false)
            | (first | apply sc_lt | apply sc_nlt | apply sc_eq | apply sc_neq | apply sc_nil | apply sc_nnil); all_goals (intro hb; try (first | (exfalso; omega) | exact absurd rfl hb | exact absurd hb (by decide) | exact absurd (by assumption) hb | (exfalso; simp only [List.length_cons, List.length_nil] at hb; omega)))
            | (apply sc_not) | (apply sc_i; all_goals intro hb)
            | (first | apply ix_nat | apply ix_int | apply sd_nat | apply sd_int | apply sl_nat | apply sl_int); first | omega | (simp only [List.length_cons, List.length_nil, List.length_drop, List.length_take] at *; omega)
            | (apply bx_i; intro hbd) | (apply gt_i; assumption; exact rfl)
            | (apply cx_is; first | fail) | (apply ab_i; intro bl)
            | (apply rt_is; exact rfl) | (apply rt_do; exact rfl; (repeat (first | exact List.nil_sublist _ | apply List.Sublist.cons_cons)))
            | (exact True.intro) | (apply bc_i; intro C hC) | (apply bt_i) | (apply og_n) | (apply og_a; exact rfl))
        all_goals (try conv => whnf)
        refine sp_i (show out.length + 1 ≤ 9223372036854775807 by omega) ?_
        repeat' (first
          | (conv => whnf); first
            | (apply ch_l; apply sp_i; first | exact rfl | omega | exact ⟨rfl, by omega⟩ | exact ⟨rfl, by omega, by omega, by omega⟩ | exact ⟨rfl, by simp, by omega, by omega⟩ | exact ⟨⟨_, rfl⟩, by omega⟩ | assumption | (simp; omega))
            | (apply sp_i; first | exact rfl | omega | exact ⟨rfl, rfl, by omega⟩ | exact ⟨rfl, by omega⟩ | exact ⟨rfl, by omega, by omega, by omega⟩ | exact ⟨rfl, by simp, by omega, by omega⟩ | exact ⟨⟨_, rfl⟩, by omega⟩ | assumption | (simp; omega))
            | (apply sc_true) | (apply sc_false)
            | (first | apply sc_lt | apply sc_nlt | apply sc_eq | apply sc_neq | apply sc_nil | apply sc_nnil); all_goals (intro hb; try (first | (exfalso; omega) | exact absurd rfl hb | exact absurd hb (by decide) | exact absurd (by assumption) hb | (exfalso; simp only [List.length_cons, List.length_nil] at hb; omega)))
            | (apply sc_not) | (apply sc_i; all_goals intro hb)
            | (first | apply ix_nat | apply ix_int | apply sd_nat | apply sd_int | apply sl_nat | apply sl_int); first | omega | (simp only [List.length_cons, List.length_nil, List.length_drop, List.length_take] at *; omega)
            | (apply bx_i; intro hbd) | (apply gt_i; assumption; exact rfl)
            | (apply cx_is; first | fail) | (apply ab_i; intro bl)
            | (apply rt_is; exact rfl) | (apply rt_do; exact rfl; (repeat (first | exact List.nil_sublist _ | apply List.Sublist.cons_cons)))
            | (exact True.intro) | (apply bc_i; intro C hC) | (apply bt_i) | (apply og_n) | (apply og_a; exact rfl))
        all_goals (try conv => whnf)
        refine nxt (i + 1, out ++ bytesI [(byteAt (dateF (whN (tlB t.y) (tlB t.m) (tlB t.d)).toNat ++ ([84] ++ clkF (whN (tlB t.h) (tlB t.i) (tlB t.s)).toNat)) i : Int)], all) ?_ ?_ (by repeat (first | exact trivial | refine And.intro rfl ?_)) rfl
        · exact fill_else hI (by omega) (by assumption)
        · show _ - (i + 1) < _ - i
          omega
      all_goals
        apply rt_is
        refine congrArg AVal.str ?_
        have e := fill_end hI (by omega)
        rw [hG.2] at e
        first
          | (rw [if_pos (by assumption), ← e])
          | (rw [if_neg (by simp only [Bool.not_eq_true]; assumption), ← e, List.append_nil])
    · have hG := fill_date hf (by assumption)
      have hLF : (dateF (whN (tlB t.y) (tlB t.m) (tlB t.d)).toNat).length ≤ 15 := by first | (rw [List.length_append, List.length_append, List.length_singleton]; omega) | omega
      rw [← hA] at hG
      refine lp hC hGL (fun (x : Nat × List UInt8 × List UInt8) => [(1, .rop [.int .i64 t.y, .int .i64 t.m, .int .i64 t.d, .int .i64 t.h, .int .i64 t.i, .int .i64 t.s, .bool t.z, .int .i64 t.o] 0), (3, .str x.2.2), (8, .str x.2.1), (73, .own 0 (.slice (some ⟨bl, 0, none⟩) (dateF (whN (tlB t.y) (tlB t.m) (tlB t.d)).toNat).length cap)), (74, .int .i64 ((dateF (whN (tlB t.y) (tlB t.m) (tlB t.d)).toNat).length : Nat)), (75, .int .i64 (x.1 : Nat))]) (fun _ => [.buf bl (dateF (whN (tlB t.y) (tlB t.m) (tlB t.d)).toNat) cap]) (fun x => FillP (dateF (whN (tlB t.y) (tlB t.m) (tlB t.d)).toNat) A x.1 x.2.1 x.2.2) (fun x => (dateF (whN (tlB t.y) (tlB t.m) (tlB t.d)).toNat).length - x.1) (0, [], A) (fill_init hG.1 hl) (by repeat (first | exact trivial | refine And.intro rfl ?_)) rfl ?_
      rintro ⟨i, out, all⟩ hI
      have hI : FillP (dateF (whN (tlB t.y) (tlB t.m) (tlB t.d)).toNat) A i out all := hI
      have hI1 := hI.1
      have hI2 := hI.2.1
      have hI3 := hI.2.2.1
      have hI0 := fun h => fill_pos hI h
      repeat' (first
        | (conv => whnf); first
          | (apply ch_l; apply sp_i; first | exact rfl | omega | exact ⟨rfl, rfl, by omega⟩ | exact ⟨rfl, by omega⟩ | exact ⟨rfl, by omega, by omega, by omega⟩ | exact ⟨rfl, by simp, by omega, by omega⟩ | exact ⟨⟨_, rfl⟩, by omega⟩ | exact ⟨⟨_, rfl⟩, by omega, by omega⟩ | assumption | decide | (simp only [List.length_drop, List.length_take, List.length_append, List.length_set, List.length_cons, List.length_nil, OrOk] at *; omega) | (simp; omega))
          | (apply sp_i; first | exact rfl | omega | exact ⟨rfl, rfl, by omega⟩ | exact ⟨rfl, by omega⟩ | exact ⟨rfl, by omega, by omega, by omega⟩ | exact ⟨rfl, by simp, by omega, by omega⟩ | exact ⟨⟨_, rfl⟩, by omega⟩ | exact ⟨⟨_, rfl⟩, by omega, by omega⟩ | assumption | decide | (simp only [List.length_drop, List.length_take, List.length_append, List.length_set, List.length_cons, List.length_nil, OrOk] at *; omega) | (simp; omega))
          | (apply sc_true) | (apply sc_false)
          | (first | apply sc_lt | apply sc_nlt | apply sc_eq | apply sc_neq | apply sc_nil | apply sc_nnil | apply sc_seq | apply sc_nseq); all_goals (intro hb; try (first | (exfalso; omega) | exact absurd rfl hb | exact absurd hb (by decide) | exact absurd hb (by assumption) | exact absurd (by assumption) hb | (exfalso; simp only [List.length_cons, List.length_nil, List.length_append] at hb; omega)))
          | (apply sc_not) | (apply sc_or) | (apply sc_i; all_goals intro hb)
          | (first | apply ix_nat | apply ix_int); first | omega | (simp only [List.length_drop, List.length_take, List.length_append, List.length_set, List.length_cons, List.length_nil] at *; omega)
          | (apply bx_i; intro hbd) | (apply gt_i; assumption; exact rfl)
          | (first | apply sd_nat | apply sd_int | apply sl_nat | apply sl_int); first | omega | (simp only [List.length_drop, List.length_take, List.length_append, List.length_set, List.length_cons, List.length_nil] at *; omega)
          | (apply cx_is; first | exact h3) | (apply cx_do (i := 0) rfl; first | exact h3)
          | (apply ab_i; intro bl) | (apply as_i; intro va vk vc hva) | (apply av_i; intro v) | (apply ac_i; intro bl cap hcap)
          | (apply bo_l) | (apply ch_r; apply sp_i; first | assumption | decide) | (apply ch_r; apply sp_i; intro i hi; exact ⟨rfl, rfl, rfl⟩) | (apply nx_i; all_goals intro hnx)
          | (apply Ia.hit; assumption) | (apply Ia.miss; assumption)
          | (apply rt_is; exact rfl) | (apply rt_do; exact rfl; (repeat (first | exact List.nil_sublist _ | apply List.Sublist.cons_cons))) | (apply iv; assumption)
          | (apply dw_q mixed hC hGL (by kernel_rfl))
          | (apply cq; assumption; (first | exact h3); exact rfl))
      all_goals (try conv => whnf)
      · refine op1_run hC hGL (rv_bytes [_] rfl (by intro v hv; obtain rfl := List.mem_singleton.1 hv; exact ⟨Int.natCast_nonneg _, by exact_mod_cast byteAt_lt _ _⟩) rfl rfl rfl rfl rfl rfl) rfl rfl ?_
        repeat' (first
          | (conv => whnf); first
            | (apply ch_l; apply sp_i; first | exact rfl | omega | exact ⟨rfl, by omega⟩ | exact ⟨rfl, by omega, by omega, by omega⟩ | exact ⟨rfl, by simp, by omega, by omega⟩ | exact ⟨⟨_, rfl⟩, by omega⟩ | assumption | (simp; omega))
            | (apply sp_i; first | exact rfl | omega | exact ⟨rfl, rfl, by omega⟩ | exact ⟨rfl, by omega⟩ | exact ⟨rfl, by omega, by omega, by omega⟩ | exact ⟨rfl, by simp, by omega, by omega⟩ | exact ⟨⟨_, rfl⟩, by omega⟩ | assumption | (simp; omega))
            | (apply sc_true) | (apply sc_false)
            | (first | apply sc_lt | apply sc_nlt | apply sc_eq | apply sc_neq | apply sc_nil | apply sc_nnil); all_goals (intro hb; try (first | (exfalso; omega) | exact absurd rfl hb | exact absurd hb (by decide) | exact absurd (by assumption) hb | (exfalso; simp only [List.length_cons, List.length_nil] at hb; omega)))
            | (apply sc_not) | (apply sc_i; all_goals intro hb)
            | (first | apply ix_nat | apply ix_int | apply sd_nat | apply sd_int | apply sl_nat | apply sl_int); first | omega | (simp only [List.length_cons, List.length_nil, List.length_drop, List.length_take] at *; omega)
            | (apply bx_i; intro hbd) | (apply gt_i; assumption; exact rfl)
            | (apply cx_is; first | fail) | (apply ab_i; intro bl)
            | (apply rt_is; exact rfl) | (apply rt_do; exact rfl; (repeat (first | exact List.nil_sublist _ | apply List.Sublist.cons_cons)))
            | (exact True.intro) | (apply bc_i; intro C hC) | (apply bt_i) | (apply og_n) | (apply og_a; exact rfl))
        all_goals (try conv => whnf)
        refine sp_i (show out.length + 1 ≤ 9223372036854775807 by omega) ?_
        repeat' (first
          | (conv => whnf); first
            | (apply ch_l; apply sp_i; first | exact rfl | omega | exact ⟨rfl, by omega⟩ | exact ⟨rfl, by omega, by omega, by omega⟩ | exact ⟨rfl, by simp, by omega, by omega⟩ | exact ⟨⟨_, rfl⟩, by omega⟩ | assumption | (simp; omega))
            | (apply sp_i; first | exact rfl | omega | exact ⟨rfl, rfl, by omega⟩ | exact ⟨rfl, by omega⟩ | exact ⟨rfl, by omega, by omega, by omega⟩ | exact ⟨rfl, by simp, by omega, by omega⟩ | exact ⟨⟨_, rfl⟩, by omega⟩ | assumption | (simp; omega))
            | (apply sc_true) | (apply sc_false)
            | (first | apply sc_lt | apply sc_nlt | apply sc_eq | apply sc_neq | apply sc_nil | apply sc_nnil); all_goals (intro hb; try (first | (exfalso; omega) | exact absurd rfl hb | exact absurd hb (by decide) | exact absurd (by assumption) hb | (exfalso; simp only [List.length_cons, List.length_nil] at hb; omega)))
            | (apply sc_not) | (apply sc_i; all_goals intro hb)
            | (first | apply ix_nat | apply ix_int | apply sd_nat | apply sd_int | apply sl_nat | apply sl_int); first | omega | (simp only [List.length_cons, List.length_nil, List.length_drop, List.length_take] at *; omega)
            | (apply bx_i; intro hbd) | (apply gt_i; assumption; exact rfl)
            | (apply cx_is; first | fail) | (apply ab_i; intro bl)
            | (apply rt_is; exact rfl) | (apply rt_do; exact rfl; (repeat (first | exact List.nil_sublist _ | apply List.Sublist.cons_cons)))
            | (exact True.intro) | (apply bc_i; intro C hC) | (apply bt_i) | (apply og_n) | (apply og_a; exact rfl))
        all_goals (try conv => whnf)
        refine nxt (i + 1, out ++ bytesI [(byteAt all 0 : Int)], all.drop 1) ?_ ?_ (by repeat (first | exact trivial | refine And.intro rfl ?_)) rfl
        · exact fill_hole hI (by omega) (by assumption)
        · show _ - (i + 1) < _ - i
          omega
      · refine op1_run hC hGL (rv_bytes [_] rfl (by intro v hv; obtain rfl := List.mem_singleton.1 hv; exact ⟨Int.natCast_nonneg _, by exact_mod_cast byteAt_lt _ _⟩) rfl rfl rfl rfl rfl rfl) rfl rfl ?_
        repeat' (first
          | (conv => whnf); first
            | (apply ch_l; apply sp_i; first | exact rfl | omega | exact ⟨rfl, by omega⟩ | exact ⟨rfl, by omega, by omega, by omega⟩ | exact ⟨rfl, by simp, by omega, by omega⟩ | exact ⟨⟨_, rfl⟩, by omega⟩ | assumption | (simp; omega))
            | (apply sp_i; first | exact rfl | omega | exact ⟨rfl, rfl, by omega⟩ | exact ⟨rfl, by omega⟩ | exact ⟨rfl, by omega, by omega, by omega⟩ | exact ⟨rfl, by simp, by omega, by omega⟩ | exact ⟨⟨_, rfl⟩, by omega⟩ | assumption | (simp; omega))
            | (apply sc_true) | (apply sc_false)
            | (first | apply sc_lt | apply sc_nlt | apply sc_eq | apply sc_neq | apply sc_nil | apply sc_nnil); all_goals (intro hb; try (first | (exfalso; omega) | exact absurd rfl hb | exact absurd hb (by decide) | exact absurd (by assumption) hb | (exfalso; simp only [List.length_cons, List.length_nil] at hb; omega)))
            | (apply sc_not) | (apply sc_i; all_goals intro hb)
            | (first | apply ix_nat | apply ix_int | apply sd_nat | apply sd_int | apply sl_nat | apply sl_int); first | omega | (simp only [List.length_cons, List.length_nil, List.length_drop, List.length_take] at *; omega)
            | (apply bx_i; intro hbd) | (apply gt_i; assumption; exact rfl)
            | (apply cx_is; first | fail) | (apply ab_i; intro bl)
            | (apply rt_is; exact rfl) | (apply rt_do; exact rfl; (repeat (first | exact List.nil_sublist _ | apply List.Sublist.cons_cons)))
            | (exact True.intro) | (apply bc_i; intro C hC) | (apply bt_i) | (apply og_n) | (apply og_a; exact rfl))
        all_goals (try conv => whnf)
        refine sp_i (show out.length + 1 ≤ 9223372036854775807 by omega) ?_
        repeat' (first
          | (conv => whnf); first
            | (apply ch_l; apply sp_i; first | exact rfl | omega | exact ⟨rfl, by omega⟩ | exact ⟨rfl, by omega, by omega, by omega⟩ | exact ⟨rfl, by simp, by omega, by omega⟩ | exact ⟨⟨_, rfl⟩, by omega⟩ | assumption | (simp; omega))
            | (apply sp_i; first | exact rfl | omega | exact ⟨rfl, rfl, by omega⟩ | exact ⟨rfl, by omega⟩ | exact ⟨rfl, by omega, by omega, by omega⟩ | exact ⟨rfl, by simp, by omega, by omega⟩ | exact ⟨⟨_, rfl⟩, by omega⟩ | assumption | (simp; omega))
            | (apply sc_true) | (apply sc_false)
            | (first | apply sc_lt | apply sc_nlt | apply sc_eq | apply sc_neq | apply sc_nil | apply sc_nnil); all_goals (intro hb; try (first | (exfalso; omega) | exact absurd rfl hb | exact absurd hb (by decide) | exact absurd (by assumption) hb | (exfalso; simp only [List.length_cons, List.length_nil] at hb; omega)))
            | (apply sc_not) | (apply sc_i; all_goals intro hb)
            | (first | apply ix_nat | apply ix_int | apply sd_nat | apply sd_int | apply sl_nat | apply sl_int); first | omega | (simp only [List.length_cons, List.length_nil, List.length_drop, List.length_take] at *; omega)
            | (apply bx_i; intro hbd) | (apply gt_i; assumption; exact rfl)
            | (apply cx_is; first | fail) | (apply ab_i; intro bl)
            | (apply rt_is; exact rfl) | (apply rt_do; exact rfl; (repeat (first | exact List.nil_sublist _ | apply List.Sublist.cons_cons)))
            | (exact True.intro) | (apply bc_i; intro C hC) | (apply bt_i) | (apply og_n) | (apply og_a; exact rfl))
        all_goals (try conv => whnf)
        refine nxt (i + 1, out ++ bytesI [(byteAt (dateF (whN (tlB t.y) (tlB t.m) (tlB t.d)).toNat) i : Int)], all) ?_ ?_ (by repeat (first | exact trivial | refine And.intro rfl ?_)) rfl
        · exact fill_else hI (by omega) (by assumption)
        · show _ - (i + 1) < _ - i
          omega
      all_goals
        apply rt_is
        refine congrArg AVal.str ?_
        have e := fill_end hI (by omega)
        rw [hG.2] at e
        first
          | (rw [if_pos (by assumption), ← e])
          | (rw [if_neg (by simp only [Bool.not_eq_true]; assumption), ← e, List.append_nil])
end Go.Proofs.YtlmihggafbmkaaaDoor
