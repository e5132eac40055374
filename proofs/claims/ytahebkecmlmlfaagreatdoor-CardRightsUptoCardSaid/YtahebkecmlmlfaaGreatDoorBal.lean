/- Parts of the proof of prints_root: Whg, Whh, Crt, Mps, Big, Upt, Lnb, Whi, Vlh, Arc, Rui, Erl. -/
import Derived.Deep.Strs
import Derived.Deep.DeepHandedRow
import Derived.Carry
import Derived.Test.YtahebkecmlmlfaaGreatDoorBak
import Derived.Test.YtahebkecmlmlfaaGreatDoorBae
import Derived.Test.YtahebkecmlmlfaaGreatDoorBac
import Derived.Test.YtahebkecmlmlfaaGreatDoorBag
import Derived.Test.YtahebkecmlmlfaaGreatDoorBaj
import Derived.Test.YtahebkecmlmlfaaGreatDoorBah
import Derived.Test.YtahebkecmlmlfaaGreatDoorBai
set_option linter.unusedVariables false
set_option linter.unusedSimpArgs false
set_option linter.unusedSectionVars false
namespace Go.Proofs.YtahebkecmlmlfaaGreatDoor
set_option maxRecDepth 20000
set_option maxHeartbeats 4000000
section
open Go Go.RowKit
set_option maxHeartbeats 8000000
def ia : List UInt8 → Nat
 | [] => 0
 | c :: r => if c = 57 then ia r + 1 else ia r
theorem jm {form : List UInt8} {i : Nat} (h : i < form.length) : form.drop i = form[i] :: form.drop (i + 1) := List.drop_eq_getElem_cons h
theorem qX {form : List UInt8} {i : Nat} (h : i < form.length) (hc : form[i] = 57) : ia (form.drop i) = ia (form.drop (i + 1)) + 1 := by
 rw [jm h, ia, if_pos hc]
theorem AE {form : List UInt8} {i : Nat} (h : i < form.length) (hc : form[i] ≠ 57) : ia (form.drop i) = ia (form.drop (i + 1)) := by
 rw [jm h, ia, if_neg hc]
theorem xF {form all : List UInt8} {i : Nat} (h : i < form.length) (hc : form[i] = 57) (ha : 0 < all.length) : ef (form.drop i) all = aU [(aa all 0 : Int)] ++ ef (form.drop (i + 1)) (all.drop 1) := by
 rw [jm h]
 cases all with
 | nil => cases ha
 | cons x t =>
  rw [ef, if_pos hc]
  have : aU [(aa (x :: t) 0 : Int)] = [x] := by
   show [UInt8.ofNat x.toNat] = [x]
   rw [UInt8.ofNat_toNat]
  rw [this]
  rfl
theorem xG {form all : List UInt8} {i : Nat} (h : i < form.length) (hc : form[i] ≠ 57) : ef (form.drop i) all = aU [(aa form i : Int)] ++ ef (form.drop (i + 1)) all := by
 rw [jm h]
 have e : ef (form[i] :: form.drop (i + 1)) all = form[i] :: ef (form.drop (i + 1)) all := by simp only [ef, if_neg hc]
 rw [e]
 have : aU [(aa form i : Int)] = [form[i]] := by
  rw [bm h]
  show [UInt8.ofNat form[i].toNat] = _
  rw [UInt8.ofNat_toNat]
 rw [this]
 rfl
theorem at57 {form : List UInt8} {i : Nat} (h : i < form.length) : form[i] = 57 ↔ (aa form i : Int) = 57 := by
 rw [bm h, ← UInt8.toNat_inj]
 constructor
 ·intro k; rw [k]; rfl
 ·intro k; have : form[i].toNat = 57 := by omega
  rw [this]; rfl
theorem G6 {t : Stm} (hf : t.frm = true) : 0 ≤ whN (tlB t.y) (tlB t.m) (tlB t.d) ∧ whN (tlB t.y) (tlB t.m) (tlB t.d) < 7 := by
 have := ((fE t).1 hf).1
 have h2 := yw (tlB t.y) (tlB t.m) (tlB t.d)
 unfold Stm.dn Stm.tn at this
 omega
theorem G3 {t : Stm} (hf : t.frm = true) : 0 ≤ whN (tlB t.h) (tlB t.i) (tlB t.s) ∧ whN (tlB t.h) (tlB t.i) (tlB t.s) < 7 := by
 have := ((fE t).1 hf).1
 have h2 := yw (tlB t.h) (tlB t.i) (tlB t.s)
 unfold Stm.dn Stm.tn at this
 omega
theorem AO (i : Nat) : (bg i).length ≤ 8 := by
 match i with
 | 0 | 1 | 2 | 3 | 4 | 5 | 6 => decide
 | n + 7 => exact Nat.zero_le _
theorem Dq (i : Nat) : (clkF i).length ≤ 6 := by
 match i with
 | 0 | 1 | 2 | 3 | 4 | 5 | 6 => decide
 | n + 7 => exact Nat.zero_le _
def numP (t : Stm) : Nat → Int
 | 0 => t.m
 | 1 => t.d
 | 2 => t.h
 | 3 => t.i
 | _ => t.s
def allP (t : Stm) : Nat → List UInt8
 | 0 => if t.y = -1 then [] else eb t.y
 | k + 1 => if numP t k = -1 then allP t k else allP t k ++ twoS (numP t k)
theorem fS {t : Stm} {A : List UInt8} {k : Nat} (hA : A = allP t k) (h : numP t k ≠ -1) : A ++ twoS (numP t k) = allP t (k + 1) := by
 rw [allP, if_neg h, hA]
theorem dS {t : Stm} {A : List UInt8} {k : Nat} (hA : A = allP t k) (h : numP t k = -1) : A = allP t (k + 1) := by
 rw [allP, if_pos h, hA]
theorem yr (t : Stm) : ∀ k, (allP t k).length ≤ 4 + 2 * k
 | 0 => by
  unfold allP
  split
  ·exact Nat.zero_le _
  ·exact Nat.le_refl _
 | k + 1 => by
  have := yr t k
  unfold allP
  split
  ·omega
  ·rw [List.length_append, show (twoS (numP t k)).length = 2 from rfl]; omega
def fp (form A : List UInt8) (i : Nat) (out all : List UInt8) : Prop := i ≤ form.length ∧ out.length = i ∧ all.length ≤ 100 ∧ ia (form.drop i) ≤ all.length ∧ out ++ ef (form.drop i) all = ef form A
theorem jn {form A : List UInt8} (h : ia form ≤ A.length) (hl : A.length ≤ 4 + 2 * 5) : fp form A 0 [] A := ⟨Nat.zero_le _, rfl, by omega, by rw [List.drop_zero]; exact h, by rw [List.drop_zero]; rfl⟩
theorem iL {form A : List UInt8} {i : Nat} {out all : List UInt8} (h : fp form A i out all) (hb : i < form.length ∧ (aa form i : Int) = 57) : 0 < all.length := by
 have h4 := h.2.2.2.1
 rw [qX hb.1 ((at57 hb.1).2 hb.2)] at h4
 omega
theorem jo {form A : List UInt8} {i : Nat} {out all : List UInt8} (h : fp form A i out all) (h1 : i < form.length) (hb : (aa form i : Int) = 57) : fp form A (i + 1) (out ++ aU [(aa all 0 : Int)]) (all.drop 1) := by
 have hp := iL h ⟨h1, hb⟩
 obtain ⟨a, b, c, d, e⟩ := h
 have hc := (at57 h1).2 hb
 rw [qX h1 hc] at d
 rw [xF h1 hc hp, ← List.append_assoc] at e
 refine ⟨h1, ?_, ?_, ?_, e⟩
 ·rw [List.length_append, b]; rfl
 ·rw [List.length_drop]; omega
 ·rw [List.length_drop]; omega
theorem jp {form A : List UInt8} {i : Nat} {out all : List UInt8} (h : fp form A i out all) (h1 : i < form.length) (hb : (aa form i : Int) ≠ 57) : fp form A (i + 1) (out ++ aU [(aa form i : Int)]) all := by
 obtain ⟨a, b, c, d, e⟩ := h
 have hc : form[i] ≠ 57 := fun k => hb ((at57 h1).1 k)
 rw [AE h1 hc] at d
 rw [xG h1 hc, ← List.append_assoc] at e
 refine ⟨h1, ?_, c, d, e⟩
 rw [List.length_append, b]; rfl
theorem lb {form A : List UInt8} {i : Nat} {out all : List UInt8} (h : fp form A i out all) (h1 : form.length ≤ i) : out = ef form A := by
 obtain ⟨a, b, c, d, e⟩ := h
 rw [List.drop_of_length_le h1] at e
 rw [← e]
 simp [ef]
theorem rg {t : Stm} (hf : t.frm = true) (h : 0 < whN (tlB t.h) (tlB t.i) (tlB t.s)) : ia (bg (whN (tlB t.y) (tlB t.m) (tlB t.d)).toNat ++ ([84] ++ clkF (whN (tlB t.h) (tlB t.i) (tlB t.s)).toNat)) ≤ (allP t 5).length ∧ ef (bg (whN (tlB t.y) (tlB t.m) (tlB t.d)).toNat ++ ([84] ++ clkF (whN (tlB t.h) (tlB t.i) (tlB t.s)).toNat)) (allP t 5) = iM (tlB t.y) (tlB t.m) (tlB t.d) t.y t.m t.d ++ g8 (tlB t.h) (tlB t.i) (tlB t.s) t.h t.i t.s := by
 refine ko hf fun k kz => ?_
 clear kz
 revert h k
 cases e1 : tlB t.y <;> cases e2 : tlB t.m <;> cases e3 : tlB t.d <;> cases e4 : tlB t.h <;> cases e5 : tlB t.i <;> cases e6 : tlB t.s <;> intro h k <;> first | exact absurd k (by decide) | exact absurd h (by decide) | (simp only [gZ, yC] at e1 e2 e3 e4 e5 e6; simp only [allP, numP, e1, e2, e3, e4, e5, e6, if_true, if_false]; exact ⟨Nat.le_refl _, rfl⟩)
theorem rh {t : Stm} (hf : t.frm = true) (h : whN (tlB t.h) (tlB t.i) (tlB t.s) ≤ 0) : ia (bg (whN (tlB t.y) (tlB t.m) (tlB t.d)).toNat) ≤ (allP t 5).length ∧ ef (bg (whN (tlB t.y) (tlB t.m) (tlB t.d)).toNat) (allP t 5) = iM (tlB t.y) (tlB t.m) (tlB t.d) t.y t.m t.d ++ g8 (tlB t.h) (tlB t.i) (tlB t.s) t.h t.i t.s := by
 refine ko hf fun k kz => ?_
 clear kz
 revert h k
 cases e1 : tlB t.y <;> cases e2 : tlB t.m <;> cases e3 : tlB t.d <;> cases e4 : tlB t.h <;> cases e5 : tlB t.i <;> cases e6 : tlB t.s <;> intro h k <;> first | exact absurd k (by decide) | exact absurd h (by decide) | (simp only [gZ, yC] at e1 e2 e3 e4 e5 e6; simp only [allP, numP, e1, e2, e3, e4, e5, e6, if_true, if_false]; exact ⟨Nat.le_refl _, rfl⟩)
attribute [local irreducible] AWp AOps az OrOk ad ah aa eb twoS zprS ef
theorem bq {G : Glo} (k : Int) (h0 : 0 ≤ k) (h1 : k < 100) : FnIs Tryz.prog G 147 [.int .i64 k, .int .i64 10, .int .i64 2] (.str (twoS k)) := by
 obtain ⟨i, rfl⟩ := Int.eq_ofNat_of_zero_le h0
 exact iw i (by omega)
theorem dM {G : Glo} (hP : co G) (k : Int) (h0 : 0 ≤ k) (h1 : k < 10000) : FnIs Tryz.prog G 147 [.int .i64 k, .int .i64 10, .int .i64 4] (.str (eb k)) := by
 obtain ⟨i, rfl⟩ := Int.eq_ofNat_of_zero_le h0
 exact na hP i (by omega)
theorem r9 {G : Glo} (hGL : ad G shapesTy) (hP : co G) (t : Stm) (hf : t.frm = true) (hr : t.rng = true) : FnIs Tryz.prog G 146 [t.A] (.str t.txt) := by
 have h1 := ja hGL t.y t.m t.d
 have h2 := ja hGL t.h t.i t.s
 have h3 := jE (G := G) t.o
 have kd : 0 ≤ whN (tlB t.y) (tlB t.m) (tlB t.d) ∧ whN (tlB t.y) (tlB t.m) (tlB t.d) < 7 := G6 hf
 have kt := G3 hf
 have hc := Tryz.call143
 have l1 := ve t.y
 have l2 := dg t.m
 have l3 := dg t.d
 have l4 := dg t.h
 have l5 := dg t.i
 have l6 := dg t.s
 have l7 := yv t.o
 have l8 := AO (whN (tlB t.y) (tlB t.m) (tlB t.d)).toNat
 have l9 := Dq (whN (tlB t.h) (tlB t.i) (tlB t.s)).toNat
 have r := hr
 unfold Stm.rng at r
 simp only [Bool.and_eq_true, nM] at r
 obtain ⟨r1, r2, r3, r4, r5, r6, -⟩ := r
 have r3' : t.d = -1 ∨ 1 ≤ t.d ∧ t.d ≤ 31 := by
  refine r3.imp_right fun h => ⟨h.1, ?_⟩
  have := h.2
  unfold Stm.day dayN at this
  (repeat' split at this) <;> omega
 refine ko hf fun k kz => ?_
 unfold Stm.txt
 refine fn_x Tryz.func146 Tryz.call146 rfl rfl rfl rfl hGL ?_
 intro C hC
 by_cases hy : t.y = -1
 ·repeat' (first | (conv => whnf); first | refine .w ?_ | refine .v ?_ | refine sc_c ?_ ?_ <;> (intro hb; try exact dd hb) | apply ae | apply an | (apply sc_i <;> intro hb) | (apply bx_i; intro hbd) | (apply aj; first | exact dM hP _ (by omega) (by omega)) | (apply am (i := 0) rfl; first | exact dM hP _ (by omega) (by omega)) | (apply ab_i; intro bl) | (apply as_i; intro va vk vc hva) | (apply av_i; intro v) | (apply ac_i; intro bl cap hcap) | apply bo_l | (apply nx_i <;> intro hnx) | exact rt_w | exact True.intro | (apply bc_i; intro C hC) | apply bt_i | apply og_n | (apply og_a; exact rfl))
  all_goals try conv => whnf
  refine lp hC hGL (fun (x : Nat × List UInt8) => [(1, .rop [.int .i64 t.y, .int .i64 t.m, .int .i64 t.d, .int .i64 t.h, .int .i64 t.i, .int .i64 t.s, .bool t.z, .int .i64 t.o] 0), (3, .str x.2), (29, .list 1 5 (bH [(0, .int .i64 t.m), (1, .int .i64 t.d), (2, .int .i64 t.h), (3, .int .i64 t.i), (4, .int .i64 t.s)])), (30, .int .i64 5), (31, .int .i64 (x.1 : Nat))]) (fun _ => []) (fun x => x.1 ≤ 5 ∧ x.2 = allP t x.1) (fun x => 5 - x.1) (0, []) ⟨show 0 ≤ 5 by decide, (if_pos hy).symm⟩ (by repeat (first | exact trivial | refine And.intro rfl ?_)) rfl ?_
  rintro ⟨k', A⟩ ⟨hk, hA⟩
  have hk : k' ≤ 5 := hk
  have hA : A = allP t k' := hA
  have hl := yr t k'
  rw [← hA] at hl
  rcases (show k' = 0 ∨ k' = 1 ∨ k' = 2 ∨ k' = 3 ∨ k' = 4 ∨ k' = 5 by omega) with rfl | rfl | rfl | rfl | rfl | rfl
  ·repeat' (first | (conv => whnf); first | refine .w ?_ | refine Ix.v ?_ | refine Sd.v ?_ | refine Sl.v ?_ | apply au | refine sc_d ?_ ?_ <;> (intro hb; try exact dd hb) | apply ae | (apply sc_i <;> intro hb) | (apply bx_i; intro hbd) | (apply aj; first | exact bq _ (by omega) (by omega)) | (apply ab_i; intro bl) | exact rt_w | exact True.intro | (apply bc_i; intro C hC) | apply bt_i | apply og_n | (apply og_a; exact rfl))
   all_goals try conv => whnf
   ·refine nxs (1, A ++ twoS (numP t 0)) ⟨show (1 : Nat) ≤ 5 by decide, fS hA (by assumption)⟩ (show 5 - 1 < 5 - 0 by decide) (by repeat (first | exact trivial | refine And.intro rfl ?_)) (by repeat (first | exact List.nil_sublist _ | apply List.Sublist.cons_cons | apply List.Sublist.cons))
   ·refine nxs (1, A) ⟨show (1 : Nat) ≤ 5 by decide, dS hA (by assumption)⟩ (show 5 - 1 < 5 - 0 by decide) (by repeat (first | exact trivial | refine And.intro rfl ?_)) (by repeat (first | exact List.nil_sublist _ | apply List.Sublist.cons_cons | apply List.Sublist.cons))
  ·repeat' (first | (conv => whnf); first | refine .w ?_ | refine Ix.v ?_ | refine Sd.v ?_ | refine Sl.v ?_ | apply au | refine sc_d ?_ ?_ <;> (intro hb; try exact dd hb) | apply ae | (apply sc_i <;> intro hb) | (apply bx_i; intro hbd) | (apply aj; first | exact bq _ (by omega) (by omega)) | (apply ab_i; intro bl) | exact rt_w | exact True.intro | (apply bc_i; intro C hC) | apply bt_i | apply og_n | (apply og_a; exact rfl))
   all_goals try conv => whnf
   ·refine nxs (2, A ++ twoS (numP t 1)) ⟨show (2 : Nat) ≤ 5 by decide, fS hA (by assumption)⟩ (show 5 - 2 < 5 - 1 by decide) (by repeat (first | exact trivial | refine And.intro rfl ?_)) (by repeat (first | exact List.nil_sublist _ | apply List.Sublist.cons_cons | apply List.Sublist.cons))
   ·refine nxs (2, A) ⟨show (2 : Nat) ≤ 5 by decide, dS hA (by assumption)⟩ (show 5 - 2 < 5 - 1 by decide) (by repeat (first | exact trivial | refine And.intro rfl ?_)) (by repeat (first | exact List.nil_sublist _ | apply List.Sublist.cons_cons | apply List.Sublist.cons))
  ·repeat' (first | (conv => whnf); first | refine .w ?_ | refine Ix.v ?_ | refine Sd.v ?_ | refine Sl.v ?_ | apply au | refine sc_d ?_ ?_ <;> (intro hb; try exact dd hb) | apply ae | (apply sc_i <;> intro hb) | (apply bx_i; intro hbd) | (apply aj; first | exact bq _ (by omega) (by omega)) | (apply ab_i; intro bl) | exact rt_w | exact True.intro | (apply bc_i; intro C hC) | apply bt_i | apply og_n | (apply og_a; exact rfl))
   all_goals try conv => whnf
   ·refine nxs (3, A ++ twoS (numP t 2)) ⟨show (3 : Nat) ≤ 5 by decide, fS hA (by assumption)⟩ (show 5 - 3 < 5 - 2 by decide) (by repeat (first | exact trivial | refine And.intro rfl ?_)) (by repeat (first | exact List.nil_sublist _ | apply List.Sublist.cons_cons | apply List.Sublist.cons))
   ·refine nxs (3, A) ⟨show (3 : Nat) ≤ 5 by decide, dS hA (by assumption)⟩ (show 5 - 3 < 5 - 2 by decide) (by repeat (first | exact trivial | refine And.intro rfl ?_)) (by repeat (first | exact List.nil_sublist _ | apply List.Sublist.cons_cons | apply List.Sublist.cons))
  ·repeat' (first | (conv => whnf); first | refine .w ?_ | refine Ix.v ?_ | refine Sd.v ?_ | refine Sl.v ?_ | apply au | refine sc_d ?_ ?_ <;> (intro hb; try exact dd hb) | apply ae | (apply sc_i <;> intro hb) | (apply bx_i; intro hbd) | (apply aj; first | exact bq _ (by omega) (by omega)) | (apply ab_i; intro bl) | exact rt_w | exact True.intro | (apply bc_i; intro C hC) | apply bt_i | apply og_n | (apply og_a; exact rfl))
   all_goals try conv => whnf
   ·refine nxs (4, A ++ twoS (numP t 3)) ⟨show (4 : Nat) ≤ 5 by decide, fS hA (by assumption)⟩ (show 5 - 4 < 5 - 3 by decide) (by repeat (first | exact trivial | refine And.intro rfl ?_)) (by repeat (first | exact List.nil_sublist _ | apply List.Sublist.cons_cons | apply List.Sublist.cons))
   ·refine nxs (4, A) ⟨show (4 : Nat) ≤ 5 by decide, dS hA (by assumption)⟩ (show 5 - 4 < 5 - 3 by decide) (by repeat (first | exact trivial | refine And.intro rfl ?_)) (by repeat (first | exact List.nil_sublist _ | apply List.Sublist.cons_cons | apply List.Sublist.cons))
  ·repeat' (first | (conv => whnf); first | refine .w ?_ | refine Ix.v ?_ | refine Sd.v ?_ | refine Sl.v ?_ | apply au | refine sc_d ?_ ?_ <;> (intro hb; try exact dd hb) | apply ae | (apply sc_i <;> intro hb) | (apply bx_i; intro hbd) | (apply aj; first | exact bq _ (by omega) (by omega)) | (apply ab_i; intro bl) | exact rt_w | exact True.intro | (apply bc_i; intro C hC) | apply bt_i | apply og_n | (apply og_a; exact rfl))
   all_goals try conv => whnf
   ·refine nxs (5, A ++ twoS (numP t 4)) ⟨show (5 : Nat) ≤ 5 by decide, fS hA (by assumption)⟩ (show 5 - 5 < 5 - 4 by decide) (by repeat (first | exact trivial | refine And.intro rfl ?_)) (by repeat (first | exact List.nil_sublist _ | apply List.Sublist.cons_cons | apply List.Sublist.cons))
   ·refine nxs (5, A) ⟨show (5 : Nat) ≤ 5 by decide, dS hA (by assumption)⟩ (show 5 - 5 < 5 - 4 by decide) (by repeat (first | exact trivial | refine And.intro rfl ?_)) (by repeat (first | exact List.nil_sublist _ | apply List.Sublist.cons_cons | apply List.Sublist.cons))
  repeat' (first | (conv => whnf); first | refine .w ?_ | refine Ix.v ?_ | refine Sd.v ?_ | refine Sl.v ?_ | apply au | refine sc_d ?_ ?_ <;> (intro hb; try exact dd hb) | apply ae | (apply sc_i <;> intro hb) | (apply bx_i; intro hbd) | (apply aj; first | fail) | (apply ab_i; intro bl) | exact rt_w | exact True.intro | (apply bc_i; intro C hC) | apply bt_i | apply og_n | (apply og_a; exact rfl))
  all_goals try conv => whnf
  refine dw_p mixed hC hGL false (fun (_ : Unit) => [(1, .rop [.int .i64 t.y, .int .i64 t.m, .int .i64 t.d, .int .i64 t.h, .int .i64 t.i, .int .i64 t.s, .bool t.z, .int .i64 t.o] 0), (3, .str A), (6, .str (bg (whN (tlB t.y) (tlB t.m) (tlB t.d)).toNat))]) (fun _ => []) (.take 1 (.take 2 (.take 3 (.take 4 (.take 5 (.take 6 (.br 0 (.br 7 (.br 8 (.take 9 (.take 10 (.take 11 (.take 12 (.done))))) (.nil)) (.nil)) (.br 7 (.br 0 (.br 8 (.take 9 (.take 10 (.take 11 (.take 12 (.done))))) (.nil)) (.br 8 (.br 0 (.take 9 (.take 10 (.take 11 (.take 12 (.done))))) (.nil)) (.nil))) (.nil))))))))) (by kernel_rfl) ?_ ?_
  ·repeat' (first | (conv => whnf); first | refine .w ?_ | refine .v ?_ | refine sc_c ?_ ?_ <;> (intro hb; try exact dd hb) | apply ae | apply an | (apply sc_i <;> intro hb) | (apply bx_i; intro hbd) | (apply aj; first | exact h1) | (apply am (i := 0) rfl; first | exact h1) | (apply ab_i; intro bl) | (apply as_i; intro va vk vc hva) | (apply av_i; intro v) | (apply ac_i; intro bl cap hcap) | apply bo_l | (apply nx_i <;> intro hnx) | exact rt_w | exact True.intro | (apply bc_i; intro C hC) | apply bt_i | apply og_n | (apply og_a; exact rfl))
   all_goals try conv => whnf
   all_goals exact ⟨(), ⟨rfl, rfl, rfl, trivial⟩, rfl⟩
  intro _
  repeat' (first | (conv => whnf); first | refine .w ?_ | refine .v ?_ | refine sc_c ?_ ?_ <;> (intro hb; try exact dd hb) | apply ae | apply an | (apply sc_i <;> intro hb) | (apply bx_i; intro hbd) | (apply aj; first | exact h2 | exact h3) | (apply am (i := 0) rfl; first | exact h2 | exact h3) | (apply ab_i; intro bl) | (apply as_i; intro va vk vc hva) | (apply av_i; intro v) | (apply ac_i; intro bl cap hcap) | apply bo_l | (apply nx_i <;> intro hnx) | exact rt_w | exact True.intro | (apply bc_i; intro C hC) | apply bt_i | apply og_n | (apply og_a; exact rfl))
  all_goals try conv => whnf
  ·have hG := rg hf (by assumption)
   have hLF : (bg (whN (tlB t.y) (tlB t.m) (tlB t.d)).toNat ++ ([84] ++ clkF (whN (tlB t.h) (tlB t.i) (tlB t.s)).toNat)).length ≤ 15 := by first | (rw [List.length_append, List.length_append, List.length_singleton]; omega) | omega
   rw [← hA] at hG
   refine lp hC hGL (fun (x : Nat × List UInt8 × List UInt8) => [(1, .rop [.int .i64 t.y, .int .i64 t.m, .int .i64 t.d, .int .i64 t.h, .int .i64 t.i, .int .i64 t.s, .bool t.z, .int .i64 t.o] 0), (3, .str x.2.2), (8, .str x.2.1), (73, .own 0 (.slice (some ⟨bl, 0, none⟩) (bg (whN (tlB t.y) (tlB t.m) (tlB t.d)).toNat ++ ([84] ++ clkF (whN (tlB t.h) (tlB t.i) (tlB t.s)).toNat)).length cap)), (74, .int .i64 ((bg (whN (tlB t.y) (tlB t.m) (tlB t.d)).toNat ++ ([84] ++ clkF (whN (tlB t.h) (tlB t.i) (tlB t.s)).toNat)).length : Nat)), (75, .int .i64 (x.1 : Nat))]) (fun _ => [.buf bl (bg (whN (tlB t.y) (tlB t.m) (tlB t.d)).toNat ++ ([84] ++ clkF (whN (tlB t.h) (tlB t.i) (tlB t.s)).toNat)) cap]) (fun x => fp (bg (whN (tlB t.y) (tlB t.m) (tlB t.d)).toNat ++ ([84] ++ clkF (whN (tlB t.h) (tlB t.i) (tlB t.s)).toNat)) A x.1 x.2.1 x.2.2) (fun x => (bg (whN (tlB t.y) (tlB t.m) (tlB t.d)).toNat ++ ([84] ++ clkF (whN (tlB t.h) (tlB t.i) (tlB t.s)).toNat)).length - x.1) (0, [], A) (jn hG.1 hl) (by repeat (first | exact trivial | refine And.intro rfl ?_)) rfl ?_
   rintro ⟨i, out, all⟩ hI
   have hI : fp (bg (whN (tlB t.y) (tlB t.m) (tlB t.d)).toNat ++ ([84] ++ clkF (whN (tlB t.h) (tlB t.i) (tlB t.s)).toNat)) A i out all := hI
   have hI1 := hI.1
   have hI2 := hI.2.1
   have hI3 := hI.2.2.1
   have hI0 := fun h => iL hI h
   repeat' (first | (conv => whnf); first | refine .w ?_ | refine .v ?_ | refine sc_c ?_ ?_ <;> (intro hb; try exact dd hb) | apply ae | apply an | (apply sc_i <;> intro hb) | (apply bx_i; intro hbd) | (apply aj; first | exact h3) | (apply am (i := 0) rfl; first | exact h3) | (apply ab_i; intro bl) | (apply as_i; intro va vk vc hva) | (apply av_i; intro v) | (apply ac_i; intro bl cap hcap) | apply bo_l | (apply nx_i <;> intro hnx) | exact rt_w | apply dw_q mixed hC hGL (by kernel_rfl) | (apply cq; assumption; (first | exact h3); exact rfl))
   all_goals try conv => whnf
   ·refine aI hC hGL (bp [_] rfl (by intro v hv; obtain rfl := List.mem_singleton.1 hv; exact ⟨Int.natCast_nonneg _, by exact_mod_cast aL _ _⟩) rfl rfl rfl rfl rfl rfl) rfl rfl ?_
    repeat' (first | (conv => whnf); first | refine .w ?_ | refine Ix.v ?_ | refine Sd.v ?_ | refine Sl.v ?_ | apply au | refine sc_d ?_ ?_ <;> (intro hb; try exact dd hb) | apply ae | (apply sc_i <;> intro hb) | (apply bx_i; intro hbd) | (apply aj; first | fail) | (apply ab_i; intro bl) | exact rt_w | exact True.intro | (apply bc_i; intro C hC) | apply bt_i | apply og_n | (apply og_a; exact rfl))
    all_goals try conv => whnf
    refine sp_i (show out.length + 1 ≤ 9223372036854775807 by omega) ?_
    repeat' (first | (conv => whnf); first | refine .w ?_ | refine Ix.v ?_ | refine Sd.v ?_ | refine Sl.v ?_ | apply au | refine sc_d ?_ ?_ <;> (intro hb; try exact dd hb) | apply ae | (apply sc_i <;> intro hb) | (apply bx_i; intro hbd) | (apply aj; first | fail) | (apply ab_i; intro bl) | exact rt_w | exact True.intro | (apply bc_i; intro C hC) | apply bt_i | apply og_n | (apply og_a; exact rfl))
    all_goals try conv => whnf
    refine nxt (i + 1, out ++ aU [(aa all 0 : Int)], all.drop 1) ?_ ?_ (by repeat (first | exact trivial | refine And.intro rfl ?_)) rfl
    ·exact jo hI (by omega) (by assumption)
    ·show _ - (i + 1) < _ - i
     omega
   ·refine aI hC hGL (bp [_] rfl (by intro v hv; obtain rfl := List.mem_singleton.1 hv; exact ⟨Int.natCast_nonneg _, by exact_mod_cast aL _ _⟩) rfl rfl rfl rfl rfl rfl) rfl rfl ?_
    repeat' (first | (conv => whnf); first | refine .w ?_ | refine Ix.v ?_ | refine Sd.v ?_ | refine Sl.v ?_ | apply au | refine sc_d ?_ ?_ <;> (intro hb; try exact dd hb) | apply ae | (apply sc_i <;> intro hb) | (apply bx_i; intro hbd) | (apply aj; first | fail) | (apply ab_i; intro bl) | exact rt_w | exact True.intro | (apply bc_i; intro C hC) | apply bt_i | apply og_n | (apply og_a; exact rfl))
    all_goals try conv => whnf
    refine sp_i (show out.length + 1 ≤ 9223372036854775807 by omega) ?_
    repeat' (first | (conv => whnf); first | refine .w ?_ | refine Ix.v ?_ | refine Sd.v ?_ | refine Sl.v ?_ | apply au | refine sc_d ?_ ?_ <;> (intro hb; try exact dd hb) | apply ae | (apply sc_i <;> intro hb) | (apply bx_i; intro hbd) | (apply aj; first | fail) | (apply ab_i; intro bl) | exact rt_w | exact True.intro | (apply bc_i; intro C hC) | apply bt_i | apply og_n | (apply og_a; exact rfl))
    all_goals try conv => whnf
    refine nxt (i + 1, out ++ aU [(aa (bg (whN (tlB t.y) (tlB t.m) (tlB t.d)).toNat ++ ([84] ++ clkF (whN (tlB t.h) (tlB t.i) (tlB t.s)).toNat)) i : Int)], all) ?_ ?_ (by repeat (first | exact trivial | refine And.intro rfl ?_)) rfl
    ·exact jp hI (by omega) (by assumption)
    ·show _ - (i + 1) < _ - i
     omega
   all_goals
    apply al
    refine congrArg AVal.str ?_
    have e := lb hI (by omega)
    rw [hG.2] at e
    first
     | (rw [if_pos (by assumption), ← e])
     | (rw [if_neg (by simp only [Bool.not_eq_true]; assumption), ← e, List.append_nil])
  ·have hG := rh hf (by assumption)
   have hLF : (bg (whN (tlB t.y) (tlB t.m) (tlB t.d)).toNat).length ≤ 15 := by first | (rw [List.length_append, List.length_append, List.length_singleton]; omega) | omega
   rw [← hA] at hG
   refine lp hC hGL (fun (x : Nat × List UInt8 × List UInt8) => [(1, .rop [.int .i64 t.y, .int .i64 t.m, .int .i64 t.d, .int .i64 t.h, .int .i64 t.i, .int .i64 t.s, .bool t.z, .int .i64 t.o] 0), (3, .str x.2.2), (8, .str x.2.1), (73, .own 0 (.slice (some ⟨bl, 0, none⟩) (bg (whN (tlB t.y) (tlB t.m) (tlB t.d)).toNat).length cap)), (74, .int .i64 ((bg (whN (tlB t.y) (tlB t.m) (tlB t.d)).toNat).length : Nat)), (75, .int .i64 (x.1 : Nat))]) (fun _ => [.buf bl (bg (whN (tlB t.y) (tlB t.m) (tlB t.d)).toNat) cap]) (fun x => fp (bg (whN (tlB t.y) (tlB t.m) (tlB t.d)).toNat) A x.1 x.2.1 x.2.2) (fun x => (bg (whN (tlB t.y) (tlB t.m) (tlB t.d)).toNat).length - x.1) (0, [], A) (jn hG.1 hl) (by repeat (first | exact trivial | refine And.intro rfl ?_)) rfl ?_
   rintro ⟨i, out, all⟩ hI
   have hI : fp (bg (whN (tlB t.y) (tlB t.m) (tlB t.d)).toNat) A i out all := hI
   have hI1 := hI.1
   have hI2 := hI.2.1
   have hI3 := hI.2.2.1
   have hI0 := fun h => iL hI h
   repeat' (first | (conv => whnf); first | refine .w ?_ | refine .v ?_ | refine sc_c ?_ ?_ <;> (intro hb; try exact dd hb) | apply ae | apply an | (apply sc_i <;> intro hb) | (apply bx_i; intro hbd) | (apply aj; first | exact h3) | (apply am (i := 0) rfl; first | exact h3) | (apply ab_i; intro bl) | (apply as_i; intro va vk vc hva) | (apply av_i; intro v) | (apply ac_i; intro bl cap hcap) | apply bo_l | (apply nx_i <;> intro hnx) | exact rt_w | apply dw_q mixed hC hGL (by kernel_rfl) | (apply cq; assumption; (first | exact h3); exact rfl))
   all_goals try conv => whnf
   ·refine aI hC hGL (bp [_] rfl (by intro v hv; obtain rfl := List.mem_singleton.1 hv; exact ⟨Int.natCast_nonneg _, by exact_mod_cast aL _ _⟩) rfl rfl rfl rfl rfl rfl) rfl rfl ?_
    repeat' (first | (conv => whnf); first | refine .w ?_ | refine Ix.v ?_ | refine Sd.v ?_ | refine Sl.v ?_ | apply au | refine sc_d ?_ ?_ <;> (intro hb; try exact dd hb) | apply ae | (apply sc_i <;> intro hb) | (apply bx_i; intro hbd) | (apply aj; first | fail) | (apply ab_i; intro bl) | exact rt_w | exact True.intro | (apply bc_i; intro C hC) | apply bt_i | apply og_n | (apply og_a; exact rfl))
    all_goals try conv => whnf
    refine sp_i (show out.length + 1 ≤ 9223372036854775807 by omega) ?_
    repeat' (first | (conv => whnf); first | refine .w ?_ | refine Ix.v ?_ | refine Sd.v ?_ | refine Sl.v ?_ | apply au | refine sc_d ?_ ?_ <;> (intro hb; try exact dd hb) | apply ae | (apply sc_i <;> intro hb) | (apply bx_i; intro hbd) | (apply aj; first | fail) | (apply ab_i; intro bl) | exact rt_w | exact True.intro | (apply bc_i; intro C hC) | apply bt_i | apply og_n | (apply og_a; exact rfl))
    all_goals try conv => whnf
    refine nxt (i + 1, out ++ aU [(aa all 0 : Int)], all.drop 1) ?_ ?_ (by repeat (first | exact trivial | refine And.intro rfl ?_)) rfl
    ·exact jo hI (by omega) (by assumption)
    ·show _ - (i + 1) < _ - i
     omega
   ·refine aI hC hGL (bp [_] rfl (by intro v hv; obtain rfl := List.mem_singleton.1 hv; exact ⟨Int.natCast_nonneg _, by exact_mod_cast aL _ _⟩) rfl rfl rfl rfl rfl rfl) rfl rfl ?_
    repeat' (first | (conv => whnf); first | refine .w ?_ | refine Ix.v ?_ | refine Sd.v ?_ | refine Sl.v ?_ | apply au | refine sc_d ?_ ?_ <;> (intro hb; try exact dd hb) | apply ae | (apply sc_i <;> intro hb) | (apply bx_i; intro hbd) | (apply aj; first | fail) | (apply ab_i; intro bl) | exact rt_w | exact True.intro | (apply bc_i; intro C hC) | apply bt_i | apply og_n | (apply og_a; exact rfl))
    all_goals try conv => whnf
    refine sp_i (show out.length + 1 ≤ 9223372036854775807 by omega) ?_
    repeat' (first | (conv => whnf); first | refine .w ?_ | refine Ix.v ?_ | refine Sd.v ?_ | refine Sl.v ?_ | apply au | refine sc_d ?_ ?_ <;> (intro hb; try exact dd hb) | apply ae | (apply sc_i <;> intro hb) | (apply bx_i; intro hbd) | (apply aj; first | fail) | (apply ab_i; intro bl) | exact rt_w | exact True.intro | (apply bc_i; intro C hC) | apply bt_i | apply og_n | (apply og_a; exact rfl))
    all_goals try conv => whnf
    refine nxt (i + 1, out ++ aU [(aa (bg (whN (tlB t.y) (tlB t.m) (tlB t.d)).toNat) i : Int)], all) ?_ ?_ (by repeat (first | exact trivial | refine And.intro rfl ?_)) rfl
    ·exact jp hI (by omega) (by assumption)
    ·show _ - (i + 1) < _ - i
     omega
   all_goals
    apply al
    refine congrArg AVal.str ?_
    have e := lb hI (by omega)
    rw [hG.2] at e
    first
     | (rw [if_pos (by assumption), ← e])
     | (rw [if_neg (by simp only [Bool.not_eq_true]; assumption), ← e, List.append_nil])
 ·repeat' (first | (conv => whnf); first | refine .w ?_ | refine .v ?_ | refine sc_c ?_ ?_ <;> (intro hb; try exact dd hb) | apply ae | apply an | (apply sc_i <;> intro hb) | (apply bx_i; intro hbd) | (apply aj; first | exact dM hP _ (by omega) (by omega)) | (apply am (i := 0) rfl; first | exact dM hP _ (by omega) (by omega)) | (apply ab_i; intro bl) | (apply as_i; intro va vk vc hva) | (apply av_i; intro v) | (apply ac_i; intro bl cap hcap) | apply bo_l | (apply nx_i <;> intro hnx) | exact rt_w | exact True.intro | (apply bc_i; intro C hC) | apply bt_i | apply og_n | (apply og_a; exact rfl))
  all_goals try conv => whnf
  refine lp hC hGL (fun (x : Nat × List UInt8) => [(1, .rop [.int .i64 t.y, .int .i64 t.m, .int .i64 t.d, .int .i64 t.h, .int .i64 t.i, .int .i64 t.s, .bool t.z, .int .i64 t.o] 0), (3, .str x.2), (29, .list 1 5 (bH [(0, .int .i64 t.m), (1, .int .i64 t.d), (2, .int .i64 t.h), (3, .int .i64 t.i), (4, .int .i64 t.s)])), (30, .int .i64 5), (31, .int .i64 (x.1 : Nat))]) (fun _ => []) (fun x => x.1 ≤ 5 ∧ x.2 = allP t x.1) (fun x => 5 - x.1) (0, eb t.y) ⟨show 0 ≤ 5 by decide, (if_neg hy).symm⟩ (by repeat (first | exact trivial | refine And.intro rfl ?_)) rfl ?_
  rintro ⟨k', A⟩ ⟨hk, hA⟩
  have hk : k' ≤ 5 := hk
  have hA : A = allP t k' := hA
  have hl := yr t k'
  rw [← hA] at hl
  rcases (show k' = 0 ∨ k' = 1 ∨ k' = 2 ∨ k' = 3 ∨ k' = 4 ∨ k' = 5 by omega) with rfl | rfl | rfl | rfl | rfl | rfl
  ·repeat' (first | (conv => whnf); first | refine .w ?_ | refine Ix.v ?_ | refine Sd.v ?_ | refine Sl.v ?_ | apply au | refine sc_d ?_ ?_ <;> (intro hb; try exact dd hb) | apply ae | (apply sc_i <;> intro hb) | (apply bx_i; intro hbd) | (apply aj; first | exact bq _ (by omega) (by omega)) | (apply ab_i; intro bl) | exact rt_w | exact True.intro | (apply bc_i; intro C hC) | apply bt_i | apply og_n | (apply og_a; exact rfl))
   all_goals try conv => whnf
   ·refine nxs (1, A ++ twoS (numP t 0)) ⟨show (1 : Nat) ≤ 5 by decide, fS hA (by assumption)⟩ (show 5 - 1 < 5 - 0 by decide) (by repeat (first | exact trivial | refine And.intro rfl ?_)) (by repeat (first | exact List.nil_sublist _ | apply List.Sublist.cons_cons | apply List.Sublist.cons))
   ·refine nxs (1, A) ⟨show (1 : Nat) ≤ 5 by decide, dS hA (by assumption)⟩ (show 5 - 1 < 5 - 0 by decide) (by repeat (first | exact trivial | refine And.intro rfl ?_)) (by repeat (first | exact List.nil_sublist _ | apply List.Sublist.cons_cons | apply List.Sublist.cons))
  ·repeat' (first | (conv => whnf); first | refine .w ?_ | refine Ix.v ?_ | refine Sd.v ?_ | refine Sl.v ?_ | apply au | refine sc_d ?_ ?_ <;> (intro hb; try exact dd hb) | apply ae | (apply sc_i <;> intro hb) | (apply bx_i; intro hbd) | (apply aj; first | exact bq _ (by omega) (by omega)) | (apply ab_i; intro bl) | exact rt_w | exact True.intro | (apply bc_i; intro C hC) | apply bt_i | apply og_n | (apply og_a; exact rfl))
   all_goals try conv => whnf
   ·refine nxs (2, A ++ twoS (numP t 1)) ⟨show (2 : Nat) ≤ 5 by decide, fS hA (by assumption)⟩ (show 5 - 2 < 5 - 1 by decide) (by repeat (first | exact trivial | refine And.intro rfl ?_)) (by repeat (first | exact List.nil_sublist _ | apply List.Sublist.cons_cons | apply List.Sublist.cons))
   ·refine nxs (2, A) ⟨show (2 : Nat) ≤ 5 by decide, dS hA (by assumption)⟩ (show 5 - 2 < 5 - 1 by decide) (by repeat (first | exact trivial | refine And.intro rfl ?_)) (by repeat (first | exact List.nil_sublist _ | apply List.Sublist.cons_cons | apply List.Sublist.cons))
  ·repeat' (first | (conv => whnf); first | refine .w ?_ | refine Ix.v ?_ | refine Sd.v ?_ | refine Sl.v ?_ | apply au | refine sc_d ?_ ?_ <;> (intro hb; try exact dd hb) | apply ae | (apply sc_i <;> intro hb) | (apply bx_i; intro hbd) | (apply aj; first | exact bq _ (by omega) (by omega)) | (apply ab_i; intro bl) | exact rt_w | exact True.intro | (apply bc_i; intro C hC) | apply bt_i | apply og_n | (apply og_a; exact rfl))
   all_goals try conv => whnf
   ·refine nxs (3, A ++ twoS (numP t 2)) ⟨show (3 : Nat) ≤ 5 by decide, fS hA (by assumption)⟩ (show 5 - 3 < 5 - 2 by decide) (by repeat (first | exact trivial | refine And.intro rfl ?_)) (by repeat (first | exact List.nil_sublist _ | apply List.Sublist.cons_cons | apply List.Sublist.cons))
   ·refine nxs (3, A) ⟨show (3 : Nat) ≤ 5 by decide, dS hA (by assumption)⟩ (show 5 - 3 < 5 - 2 by decide) (by repeat (first | exact trivial | refine And.intro rfl ?_)) (by repeat (first | exact List.nil_sublist _ | apply List.Sublist.cons_cons | apply List.Sublist.cons))
  ·repeat' (first | (conv => whnf); first | refine .w ?_ | refine Ix.v ?_ | refine Sd.v ?_ | refine Sl.v ?_ | apply au | refine sc_d ?_ ?_ <;> (intro hb; try exact dd hb) | apply ae | (apply sc_i <;> intro hb) | (apply bx_i; intro hbd) | (apply aj; first | exact bq _ (by omega) (by omega)) | (apply ab_i; intro bl) | exact rt_w | exact True.intro | (apply bc_i; intro C hC) | apply bt_i | apply og_n | (apply og_a; exact rfl))
   all_goals try conv => whnf
   ·refine nxs (4, A ++ twoS (numP t 3)) ⟨show (4 : Nat) ≤ 5 by decide, fS hA (by assumption)⟩ (show 5 - 4 < 5 - 3 by decide) (by repeat (first | exact trivial | refine And.intro rfl ?_)) (by repeat (first | exact List.nil_sublist _ | apply List.Sublist.cons_cons | apply List.Sublist.cons))
   ·refine nxs (4, A) ⟨show (4 : Nat) ≤ 5 by decide, dS hA (by assumption)⟩ (show 5 - 4 < 5 - 3 by decide) (by repeat (first | exact trivial | refine And.intro rfl ?_)) (by repeat (first | exact List.nil_sublist _ | apply List.Sublist.cons_cons | apply List.Sublist.cons))
  ·repeat' (first | (conv => whnf); first | refine .w ?_ | refine Ix.v ?_ | refine Sd.v ?_ | refine Sl.v ?_ | apply au | refine sc_d ?_ ?_ <;> (intro hb; try exact dd hb) | apply ae | (apply sc_i <;> intro hb) | (apply bx_i; intro hbd) | (apply aj; first | exact bq _ (by omega) (by omega)) | (apply ab_i; intro bl) | exact rt_w | exact True.intro | (apply bc_i; intro C hC) | apply bt_i | apply og_n | (apply og_a; exact rfl))
   all_goals try conv => whnf
   ·refine nxs (5, A ++ twoS (numP t 4)) ⟨show (5 : Nat) ≤ 5 by decide, fS hA (by assumption)⟩ (show 5 - 5 < 5 - 4 by decide) (by repeat (first | exact trivial | refine And.intro rfl ?_)) (by repeat (first | exact List.nil_sublist _ | apply List.Sublist.cons_cons | apply List.Sublist.cons))
   ·refine nxs (5, A) ⟨show (5 : Nat) ≤ 5 by decide, dS hA (by assumption)⟩ (show 5 - 5 < 5 - 4 by decide) (by repeat (first | exact trivial | refine And.intro rfl ?_)) (by repeat (first | exact List.nil_sublist _ | apply List.Sublist.cons_cons | apply List.Sublist.cons))
  repeat' (first | (conv => whnf); first | refine .w ?_ | refine Ix.v ?_ | refine Sd.v ?_ | refine Sl.v ?_ | apply au | refine sc_d ?_ ?_ <;> (intro hb; try exact dd hb) | apply ae | (apply sc_i <;> intro hb) | (apply bx_i; intro hbd) | (apply aj; first | fail) | (apply ab_i; intro bl) | exact rt_w | exact True.intro | (apply bc_i; intro C hC) | apply bt_i | apply og_n | (apply og_a; exact rfl))
  all_goals try conv => whnf
  refine dw_p mixed hC hGL false (fun (_ : Unit) => [(1, .rop [.int .i64 t.y, .int .i64 t.m, .int .i64 t.d, .int .i64 t.h, .int .i64 t.i, .int .i64 t.s, .bool t.z, .int .i64 t.o] 0), (3, .str A), (6, .str (bg (whN (tlB t.y) (tlB t.m) (tlB t.d)).toNat))]) (fun _ => []) (.take 1 (.take 2 (.take 3 (.take 4 (.take 5 (.take 6 (.br 0 (.br 7 (.br 8 (.take 9 (.take 10 (.take 11 (.take 12 (.done))))) (.nil)) (.nil)) (.br 7 (.br 0 (.br 8 (.take 9 (.take 10 (.take 11 (.take 12 (.done))))) (.nil)) (.br 8 (.br 0 (.take 9 (.take 10 (.take 11 (.take 12 (.done))))) (.nil)) (.nil))) (.nil))))))))) (by kernel_rfl) ?_ ?_
  ·repeat' (first | (conv => whnf); first | refine .w ?_ | refine .v ?_ | refine sc_c ?_ ?_ <;> (intro hb; try exact dd hb) | apply ae | apply an | (apply sc_i <;> intro hb) | (apply bx_i; intro hbd) | (apply aj; first | exact h1) | (apply am (i := 0) rfl; first | exact h1) | (apply ab_i; intro bl) | (apply as_i; intro va vk vc hva) | (apply av_i; intro v) | (apply ac_i; intro bl cap hcap) | apply bo_l | (apply nx_i <;> intro hnx) | exact rt_w | exact True.intro | (apply bc_i; intro C hC) | apply bt_i | apply og_n | (apply og_a; exact rfl))
   all_goals try conv => whnf
   all_goals exact ⟨(), ⟨rfl, rfl, rfl, trivial⟩, rfl⟩
  intro _
  repeat' (first | (conv => whnf); first | refine .w ?_ | refine .v ?_ | refine sc_c ?_ ?_ <;> (intro hb; try exact dd hb) | apply ae | apply an | (apply sc_i <;> intro hb) | (apply bx_i; intro hbd) | (apply aj; first | exact h2 | exact h3) | (apply am (i := 0) rfl; first | exact h2 | exact h3) | (apply ab_i; intro bl) | (apply as_i; intro va vk vc hva) | (apply av_i; intro v) | (apply ac_i; intro bl cap hcap) | apply bo_l | (apply nx_i <;> intro hnx) | exact rt_w | exact True.intro | (apply bc_i; intro C hC) | apply bt_i | apply og_n | (apply og_a; exact rfl))
  all_goals try conv => whnf
  ·have hG := rg hf (by assumption)
   have hLF : (bg (whN (tlB t.y) (tlB t.m) (tlB t.d)).toNat ++ ([84] ++ clkF (whN (tlB t.h) (tlB t.i) (tlB t.s)).toNat)).length ≤ 15 := by first | (rw [List.length_append, List.length_append, List.length_singleton]; omega) | omega
   rw [← hA] at hG
   refine lp hC hGL (fun (x : Nat × List UInt8 × List UInt8) => [(1, .rop [.int .i64 t.y, .int .i64 t.m, .int .i64 t.d, .int .i64 t.h, .int .i64 t.i, .int .i64 t.s, .bool t.z, .int .i64 t.o] 0), (3, .str x.2.2), (8, .str x.2.1), (73, .own 0 (.slice (some ⟨bl, 0, none⟩) (bg (whN (tlB t.y) (tlB t.m) (tlB t.d)).toNat ++ ([84] ++ clkF (whN (tlB t.h) (tlB t.i) (tlB t.s)).toNat)).length cap)), (74, .int .i64 ((bg (whN (tlB t.y) (tlB t.m) (tlB t.d)).toNat ++ ([84] ++ clkF (whN (tlB t.h) (tlB t.i) (tlB t.s)).toNat)).length : Nat)), (75, .int .i64 (x.1 : Nat))]) (fun _ => [.buf bl (bg (whN (tlB t.y) (tlB t.m) (tlB t.d)).toNat ++ ([84] ++ clkF (whN (tlB t.h) (tlB t.i) (tlB t.s)).toNat)) cap]) (fun x => fp (bg (whN (tlB t.y) (tlB t.m) (tlB t.d)).toNat ++ ([84] ++ clkF (whN (tlB t.h) (tlB t.i) (tlB t.s)).toNat)) A x.1 x.2.1 x.2.2) (fun x => (bg (whN (tlB t.y) (tlB t.m) (tlB t.d)).toNat ++ ([84] ++ clkF (whN (tlB t.h) (tlB t.i) (tlB t.s)).toNat)).length - x.1) (0, [], A) (jn hG.1 hl) (by repeat (first | exact trivial | refine And.intro rfl ?_)) rfl ?_
   rintro ⟨i, out, all⟩ hI
   have hI : fp (bg (whN (tlB t.y) (tlB t.m) (tlB t.d)).toNat ++ ([84] ++ clkF (whN (tlB t.h) (tlB t.i) (tlB t.s)).toNat)) A i out all := hI
   have hI1 := hI.1
   have hI2 := hI.2.1
   have hI3 := hI.2.2.1
   have hI0 := fun h => iL hI h
   repeat' (first | (conv => whnf); first | refine .w ?_ | refine .v ?_ | refine sc_c ?_ ?_ <;> (intro hb; try exact dd hb) | apply ae | apply an | (apply sc_i <;> intro hb) | (apply bx_i; intro hbd) | (apply aj; first | exact h3) | (apply am (i := 0) rfl; first | exact h3) | (apply ab_i; intro bl) | (apply as_i; intro va vk vc hva) | (apply av_i; intro v) | (apply ac_i; intro bl cap hcap) | apply bo_l | (apply nx_i <;> intro hnx) | exact rt_w | apply dw_q mixed hC hGL (by kernel_rfl) | (apply cq; assumption; (first | exact h3); exact rfl))
   all_goals try conv => whnf
   ·refine aI hC hGL (bp [_] rfl (by intro v hv; obtain rfl := List.mem_singleton.1 hv; exact ⟨Int.natCast_nonneg _, by exact_mod_cast aL _ _⟩) rfl rfl rfl rfl rfl rfl) rfl rfl ?_
    repeat' (first | (conv => whnf); first | refine .w ?_ | refine Ix.v ?_ | refine Sd.v ?_ | refine Sl.v ?_ | apply au | refine sc_d ?_ ?_ <;> (intro hb; try exact dd hb) | apply ae | (apply sc_i <;> intro hb) | (apply bx_i; intro hbd) | (apply aj; first | fail) | (apply ab_i; intro bl) | exact rt_w | exact True.intro | (apply bc_i; intro C hC) | apply bt_i | apply og_n | (apply og_a; exact rfl))
    all_goals try conv => whnf
    refine sp_i (show out.length + 1 ≤ 9223372036854775807 by omega) ?_
    repeat' (first | (conv => whnf); first | refine .w ?_ | refine Ix.v ?_ | refine Sd.v ?_ | refine Sl.v ?_ | apply au | refine sc_d ?_ ?_ <;> (intro hb; try exact dd hb) | apply ae | (apply sc_i <;> intro hb) | (apply bx_i; intro hbd) | (apply aj; first | fail) | (apply ab_i; intro bl) | exact rt_w | exact True.intro | (apply bc_i; intro C hC) | apply bt_i | apply og_n | (apply og_a; exact rfl))
    all_goals try conv => whnf
    refine nxt (i + 1, out ++ aU [(aa all 0 : Int)], all.drop 1) ?_ ?_ (by repeat (first | exact trivial | refine And.intro rfl ?_)) rfl
    ·exact jo hI (by omega) (by assumption)
    ·show _ - (i + 1) < _ - i
     omega
   ·refine aI hC hGL (bp [_] rfl (by intro v hv; obtain rfl := List.mem_singleton.1 hv; exact ⟨Int.natCast_nonneg _, by exact_mod_cast aL _ _⟩) rfl rfl rfl rfl rfl rfl) rfl rfl ?_
    repeat' (first | (conv => whnf); first | refine .w ?_ | refine Ix.v ?_ | refine Sd.v ?_ | refine Sl.v ?_ | apply au | refine sc_d ?_ ?_ <;> (intro hb; try exact dd hb) | apply ae | (apply sc_i <;> intro hb) | (apply bx_i; intro hbd) | (apply aj; first | fail) | (apply ab_i; intro bl) | exact rt_w | exact True.intro | (apply bc_i; intro C hC) | apply bt_i | apply og_n | (apply og_a; exact rfl))
    all_goals try conv => whnf
    refine sp_i (show out.length + 1 ≤ 9223372036854775807 by omega) ?_
    repeat' (first | (conv => whnf); first | refine .w ?_ | refine Ix.v ?_ | refine Sd.v ?_ | refine Sl.v ?_ | apply au | refine sc_d ?_ ?_ <;> (intro hb; try exact dd hb) | apply ae | (apply sc_i <;> intro hb) | (apply bx_i; intro hbd) | (apply aj; first | fail) | (apply ab_i; intro bl) | exact rt_w | exact True.intro | (apply bc_i; intro C hC) | apply bt_i | apply og_n | (apply og_a; exact rfl))
    all_goals try conv => whnf
    refine nxt (i + 1, out ++ aU [(aa (bg (whN (tlB t.y) (tlB t.m) (tlB t.d)).toNat ++ ([84] ++ clkF (whN (tlB t.h) (tlB t.i) (tlB t.s)).toNat)) i : Int)], all) ?_ ?_ (by repeat (first | exact trivial | refine And.intro rfl ?_)) rfl
    ·exact jp hI (by omega) (by assumption)
    ·show _ - (i + 1) < _ - i
     omega
   all_goals
    apply al
    refine congrArg AVal.str ?_
    have e := lb hI (by omega)
    rw [hG.2] at e
    first
     | (rw [if_pos (by assumption), ← e])
     | (rw [if_neg (by simp only [Bool.not_eq_true]; assumption), ← e, List.append_nil])
  ·have hG := rh hf (by assumption)
   have hLF : (bg (whN (tlB t.y) (tlB t.m) (tlB t.d)).toNat).length ≤ 15 := by first | (rw [List.length_append, List.length_append, List.length_singleton]; omega) | omega
   rw [← hA] at hG
   refine lp hC hGL (fun (x : Nat × List UInt8 × List UInt8) => [(1, .rop [.int .i64 t.y, .int .i64 t.m, .int .i64 t.d, .int .i64 t.h, .int .i64 t.i, .int .i64 t.s, .bool t.z, .int .i64 t.o] 0), (3, .str x.2.2), (8, .str x.2.1), (73, .own 0 (.slice (some ⟨bl, 0, none⟩) (bg (whN (tlB t.y) (tlB t.m) (tlB t.d)).toNat).length cap)), (74, .int .i64 ((bg (whN (tlB t.y) (tlB t.m) (tlB t.d)).toNat).length : Nat)), (75, .int .i64 (x.1 : Nat))]) (fun _ => [.buf bl (bg (whN (tlB t.y) (tlB t.m) (tlB t.d)).toNat) cap]) (fun x => fp (bg (whN (tlB t.y) (tlB t.m) (tlB t.d)).toNat) A x.1 x.2.1 x.2.2) (fun x => (bg (whN (tlB t.y) (tlB t.m) (tlB t.d)).toNat).length - x.1) (0, [], A) (jn hG.1 hl) (by repeat (first | exact trivial | refine And.intro rfl ?_)) rfl ?_
   rintro ⟨i, out, all⟩ hI
   have hI : fp (bg (whN (tlB t.y) (tlB t.m) (tlB t.d)).toNat) A i out all := hI
   have hI1 := hI.1
   have hI2 := hI.2.1
   have hI3 := hI.2.2.1
   have hI0 := fun h => iL hI h
   repeat' (first | (conv => whnf); first | refine .w ?_ | refine .v ?_ | refine sc_c ?_ ?_ <;> (intro hb; try exact dd hb) | apply ae | apply an | (apply sc_i <;> intro hb) | (apply bx_i; intro hbd) | (apply aj; first | exact h3) | (apply am (i := 0) rfl; first | exact h3) | (apply ab_i; intro bl) | (apply as_i; intro va vk vc hva) | (apply av_i; intro v) | (apply ac_i; intro bl cap hcap) | apply bo_l | (apply nx_i <;> intro hnx) | exact rt_w | apply dw_q mixed hC hGL (by kernel_rfl) | (apply cq; assumption; (first | exact h3); exact rfl))
   all_goals try conv => whnf
   ·refine aI hC hGL (bp [_] rfl (by intro v hv; obtain rfl := List.mem_singleton.1 hv; exact ⟨Int.natCast_nonneg _, by exact_mod_cast aL _ _⟩) rfl rfl rfl rfl rfl rfl) rfl rfl ?_
    repeat' (first | (conv => whnf); first | refine .w ?_ | refine Ix.v ?_ | refine Sd.v ?_ | refine Sl.v ?_ | apply au | refine sc_d ?_ ?_ <;> (intro hb; try exact dd hb) | apply ae | (apply sc_i <;> intro hb) | (apply bx_i; intro hbd) | (apply aj; first | fail) | (apply ab_i; intro bl) | exact rt_w | exact True.intro | (apply bc_i; intro C hC) | apply bt_i | apply og_n | (apply og_a; exact rfl))
    all_goals try conv => whnf
    refine sp_i (show out.length + 1 ≤ 9223372036854775807 by omega) ?_
    repeat' (first | (conv => whnf); first | refine .w ?_ | refine Ix.v ?_ | refine Sd.v ?_ | refine Sl.v ?_ | apply au | refine sc_d ?_ ?_ <;> (intro hb; try exact dd hb) | apply ae | (apply sc_i <;> intro hb) | (apply bx_i; intro hbd) | (apply aj; first | fail) | (apply ab_i; intro bl) | exact rt_w | exact True.intro | (apply bc_i; intro C hC) | apply bt_i | apply og_n | (apply og_a; exact rfl))
    all_goals try conv => whnf
    refine nxt (i + 1, out ++ aU [(aa all 0 : Int)], all.drop 1) ?_ ?_ (by repeat (first | exact trivial | refine And.intro rfl ?_)) rfl
    ·exact jo hI (by omega) (by assumption)
    ·show _ - (i + 1) < _ - i
     omega
   ·refine aI hC hGL (bp [_] rfl (by intro v hv; obtain rfl := List.mem_singleton.1 hv; exact ⟨Int.natCast_nonneg _, by exact_mod_cast aL _ _⟩) rfl rfl rfl rfl rfl rfl) rfl rfl ?_
    repeat' (first | (conv => whnf); first | refine .w ?_ | refine Ix.v ?_ | refine Sd.v ?_ | refine Sl.v ?_ | apply au | refine sc_d ?_ ?_ <;> (intro hb; try exact dd hb) | apply ae | (apply sc_i <;> intro hb) | (apply bx_i; intro hbd) | (apply aj; first | fail) | (apply ab_i; intro bl) | exact rt_w | exact True.intro | (apply bc_i; intro C hC) | apply bt_i | apply og_n | (apply og_a; exact rfl))
    all_goals try conv => whnf
    refine sp_i (show out.length + 1 ≤ 9223372036854775807 by omega) ?_
    repeat' (first | (conv => whnf); first | refine .w ?_ | refine Ix.v ?_ | refine Sd.v ?_ | refine Sl.v ?_ | apply au | refine sc_d ?_ ?_ <;> (intro hb; try exact dd hb) | apply ae | (apply sc_i <;> intro hb) | (apply bx_i; intro hbd) | (apply aj; first | fail) | (apply ab_i; intro bl) | exact rt_w | exact True.intro | (apply bc_i; intro C hC) | apply bt_i | apply og_n | (apply og_a; exact rfl))
    all_goals try conv => whnf
    refine nxt (i + 1, out ++ aU [(aa (bg (whN (tlB t.y) (tlB t.m) (tlB t.d)).toNat) i : Int)], all) ?_ ?_ (by repeat (first | exact trivial | refine And.intro rfl ?_)) rfl
    ·exact jp hI (by omega) (by assumption)
    ·show _ - (i + 1) < _ - i
     omega
   all_goals
    apply al
    refine congrArg AVal.str ?_
    have e := lb hI (by omega)
    rw [hG.2] at e
    first
     | (rw [if_pos (by assumption), ← e])
     | (rw [if_neg (by simp only [Bool.not_eq_true]; assumption), ← e, List.append_nil])
end
section
open Go Go.RowKit
set_option maxHeartbeats 8000000
theorem Stm.three (t : Stm) : (t.frm = true ∧ t.rng = true ∧ t.E = .none ∧ t.e = 0 ∧ t.T = t.txt) ∨ (t.E = .errno 2 ∧ t.e = 2 ∧ t.T = []) ∨ (t.E = .errno 3 ∧ t.e = 3 ∧ t.T = []) := by
 unfold Stm.E Stm.e Stm.T
 cases t.frm <;> cases t.rng <;> simp
attribute [local irreducible] AWp AOps az OrOk ad ah aa Stm.txt dayN
theorem pX {G : Glo} (hS : ad G shapesTy) (hP : co G) (t : Stm) : FnIs Tryz.prog G 92 [t.A] (.tuple [.str t.T, .int .i64 t.e]) := by
 have h1 := fN hS t
 rcases Stm.three t with ⟨hf, hr, h2, h3, h4⟩ | ⟨h2, h3, h4⟩ | ⟨h2, h3, h4⟩
 ·have h5 := r9 hS hP t hf hr
  rw [h3] at h1
  rw [h3, h4]
  have hGL : ad G [] := ab
  refine fn_x Tryz.func92 Tryz.call92 rfl rfl rfl rfl hGL ?_
  intro C hC
  repeat' (first | (conv => whnf); first | refine .w ?_ | refine .v ?_ | refine sc_c ?_ ?_ <;> (intro hb; try exact dd hb) | apply ae | apply an | (apply sc_i <;> intro hb) | (apply bx_i; intro hbd) | (apply aj; first | exact h1 | exact h5) | (apply am (i := 0) rfl; first | exact h1 | exact h5) | (apply ab_i; intro bl) | (apply as_i; intro va vk vc hva) | (apply av_i; intro v) | (apply ac_i; intro bl cap hcap) | apply bo_l | (apply nx_i <;> intro hnx) | exact rt_w | apply dw_q mixed hC hGL (by kernel_rfl) | (apply cq; assumption; (first | exact h1 | exact h5); exact rfl))
  all_goals try conv => whnf
 ·rw [h3] at h1
  rw [h3, h4]
  have hGL : ad G [] := ab
  refine fn_x Tryz.func92 Tryz.call92 rfl rfl rfl rfl hGL ?_
  intro C hC
  repeat' (first | (conv => whnf); first | refine .w ?_ | refine .v ?_ | refine sc_c ?_ ?_ <;> (intro hb; try exact dd hb) | apply ae | apply an | (apply sc_i <;> intro hb) | (apply bx_i; intro hbd) | (apply aj; first | exact h1) | (apply am (i := 0) rfl; first | exact h1) | (apply ab_i; intro bl) | (apply as_i; intro va vk vc hva) | (apply av_i; intro v) | (apply ac_i; intro bl cap hcap) | apply bo_l | (apply nx_i <;> intro hnx) | exact rt_w | apply dw_q mixed hC hGL (by kernel_rfl) | (apply cq; assumption; (first | exact h1); exact rfl))
  all_goals try conv => whnf
 ·rw [h3] at h1
  rw [h3, h4]
  have hGL : ad G [] := ab
  refine fn_x Tryz.func92 Tryz.call92 rfl rfl rfl rfl hGL ?_
  intro C hC
  repeat' (first | (conv => whnf); first | refine .w ?_ | refine .v ?_ | refine sc_c ?_ ?_ <;> (intro hb; try exact dd hb) | apply ae | apply an | (apply sc_i <;> intro hb) | (apply bx_i; intro hbd) | (apply aj; first | exact h1) | (apply am (i := 0) rfl; first | exact h1) | (apply ab_i; intro bl) | (apply as_i; intro va vk vc hva) | (apply av_i; intro v) | (apply ac_i; intro bl cap hcap) | apply bo_l | (apply nx_i <;> intro hnx) | exact rt_w | apply dw_q mixed hC hGL (by kernel_rfl) | (apply cq; assumption; (first | exact h1); exact rfl))
  all_goals try conv => whnf
end
section
open Go Go.RowKit
attribute [local irreducible] AWp AOps aa az OrOk ad ah
theorem iO {G : Glo} (v : Int) : FnIs Tryz.prog G 24 [.int .i64 v] (.bool (eqB v 4)) := by
 have hGL : ad G [] := ab
 refine fn_x Tryz.func24 Tryz.call24 rfl rfl rfl rfl hGL ?_
 intro C hC
 exact xw0
end
section
open Go Go.RowKit
def mapE (L : List (List UInt8 × Int)) : List (AVal × AVal) := L.map fun x => (.str x.1, .int .i64 x.2)
def bT (s : List UInt8) : List (List UInt8 × Int) → Nat → Option (Nat × Int)
 | [], _ => none
 | x :: L, i => if seqB s x.1 then some (i, x.2) else bT s L (i + 1)
def numL (s : List UInt8) (L : List (List UInt8 × Int)) : Int := match bT s L 0 with
 | some (_, n) => n
 | none => 0
theorem ea (s : List UInt8) : ∀ (L : List (List UInt8 × Int)) (i : Nat), bT s L i = (bT s L 0).map fun x => (x.1 + i, x.2)
 | [], _ => rfl
 | x :: L, i => by
  simp only [bT]
  split
  ·simp
  ·rw [ea s L (i + 1), ea s L (0 + 1)]
   cases bT s L 0 with
   | none => rfl
   | some y => simp only [Option.map_some]; congr 2; omega
theorem dG (s : List UInt8) (x : List UInt8 × Int) (L : List (List UInt8 × Int)) : numL s (x :: L) = if seqB s x.1 then x.2 else numL s L := by
 cases h : seqB s x.1 with
 | true =>
  unfold numL
  simp only [bT, h, if_true]
 | false =>
  unfold numL
  simp only [bT, h, Bool.false_eq_true, if_false]
  rw [ea s L (0 + 1)]
  cases bT s L 0 with
  | none => rfl
  | some y => rfl
theorem qH {s t : List UInt8} {n : Int} : ∀ {L : List (List UInt8 × Int)}, bT t L 0 = none → numL s (L ++ [(t, n)]) = if seqB s t then n else numL s L
 | [], _ => by rw [List.nil_append, dG]
 | x :: L, h => by
  simp only [bT] at h
  split at h
  ·cases h
  ·rename_i hx
   rw [ea t L (0 + 1)] at h
   have h0 : bT t L 0 = none := by
    cases h1 : bT t L 0 with
    | none => rfl
    | some y => rw [h1] at h; cases h
   rw [List.cons_append, dG, qH h0, dG]
   cases h1 : seqB s x.1 with
   | false => rfl
   | true =>
    have e1 := a7.1 h1
    cases h2 : seqB s t with
    | false => rfl
    | true =>
     have e2 := a7.1 h2
     exact absurd (a7.2 (e2.symm.trans e1)) hx
theorem uC {s t : List UInt8} {n m : Int} : ∀ {L : List (List UInt8 × Int)} {j : Nat}, bT t L 0 = some (j, m) → numL s (L.set j (t, n)) = if seqB s t then n else numL s L
 | [], _, h => by cases h
 | x :: L, j, h => by
  simp only [bT] at h
  split at h
  ·rename_i hx
   cases h
   rw [List.set_cons_zero, dG, dG]
   dsimp only
   rw [a7.1 hx]
   split <;> rfl
  ·rename_i hx
   rw [ea t L (0 + 1)] at h
   cases h1 : bT t L 0 with
   | none => rw [h1] at h; cases h
   | some y =>
    rw [h1] at h
    simp only [Option.map_some, Option.some.injEq, Prod.mk.injEq] at h
    obtain ⟨rfl, rfl⟩ := h
    rw [show y.1 + (0 + 1) = y.1 + 1 by omega, List.set_cons_succ, dG, uC (m := y.2) h1, dG]
    cases h2 : seqB s x.1 with
    | false => rfl
    | true =>
     have e1 := a7.1 h2
     cases h3 : seqB s t with
     | false => rfl
     | true => exact absurd (a7.2 ((a7.1 h3).symm.trans e1)) hx
theorem mc (L : List (List UInt8 × Int)) (s : List UInt8) (n : Int) : mapE L ++ [(AVal.str s, AVal.int .i64 n)] = mapE (L ++ [(s, n)]) := by
 unfold mapE
 rw [List.map_append]
 rfl
theorem oM (L : List (List UInt8 × Int)) (j : Nat) (s : List UInt8) (n : Int) : (mapE L).set j (AVal.str s, AVal.int .i64 n) = mapE (L.set j (s, n)) := by
 unfold mapE
 rw [List.map_set]
def updL (s : List UInt8) (n : Int) (L : List (List UInt8 × Int)) : List (List UInt8 × Int) := match bT s L 0 with
 | some (j, _) => L.set j (s, n)
 | none => L ++ [(s, n)]
theorem Cn (s t : List UInt8) (n : Int) (L : List (List UInt8 × Int)) : numL s (updL t n L) = if seqB s t then n else numL s L := by
 unfold updL
 cases h : bT t L 0 with
 | none => exact qH h
 | some y => exact uC (m := y.2) h
end
section
open Go Go.RowKit
attribute [local irreducible] AWp AOps aa az OrOk ad ah
theorem sv {G : Glo} (c : Crd) (ho : ∀ x ∈ c.l, Itm.OK 1048576 x) (hl : c.l.length ≤ 1048576) : ah Tryz.prog G 6 [c.A] [] (fun r H => (∃ a, r = .ret a ∧ ∃ b, a = .bool b ∧ (b = false → c.fine)) ∧ H = []) := by
  obtain ⟨v, l⟩ := c
  dsimp only at ho hl
  have hGL : ad G [] := ab
  refine fn_x Tryz.func6 Tryz.call6 rfl rfl rfl rfl hGL ?_
  intro C hC
  refine xw ?_
  repeat' (first | exact Le.n | refine Lc.mk ?_ ?_)
  all_goals intros
  · exact ⟨[], List.nil_sublist _, ⟨_, rfl, true, rfl, fun h => by cases h⟩, rfl⟩
  have h70 : l.length ≤ 70 := by have : (l.length : Int) ≤ 70 := by assumption
                                 omega
  refine lp hC hGL (fun k : Nat => [(10, .list 15 l.length (itsF l)), (11, .int .i64 (l.length : Nat)), (12, .int .i64 (k : Nat))]) (fun _ => []) (fun k => k ≤ l.length ∧ ∀ j, j < k → Itm.OK 2500 (l.getD j Itm.z)) (fun k => l.length - k) 0 ⟨Nat.zero_le _, fun j h => absurd h (Nat.not_lt_zero _)⟩ ak rfl ?_
  rintro k ⟨h1, h2⟩
  by_cases hk : k < l.length
  · have hx := eZ ho hk
    have hw := CH (G := G) (l.getD k Itm.z).p hx.p
    have ht := Aw (G := G) (l.getD k Itm.z).2 (by have := hx.s; omega) hx.L
    refine xw1 ?_
    intros
    refine mt hw ?_
    rintro _ ⟨b, rfl, hb⟩
    cases b with
    | true =>
      refine xw1 ?_
      exact ⟨[], List.nil_sublist _, ⟨_, rfl, true, rfl, fun h => by cases h⟩, rfl⟩
    | false =>
      refine xw1 ?_
      refine mt ht ?_
      rintro _ ⟨b, rfl, hb2⟩
      cases b with
      | true =>
        refine xw1 ?_
        exact ⟨[], List.nil_sublist _, ⟨_, rfl, true, rfl, fun h => by cases h⟩, rfl⟩
      | false =>
        refine xw1 ?_
        intros
        refine nxs (k + 1) ⟨hk, fun j hj => ?_⟩ (by omega) ak aS
        rcases Nat.lt_or_eq_of_le (Nat.le_of_lt_succ hj) with h | rfl
        · exact h2 j h
        · exact ⟨hb rfl, hb2 rfl, hx.L⟩
  · refine xw1 ?_
    intros
    exact ⟨[], List.nil_sublist _, ⟨_, rfl, false, rfl, fun _ => ⟨h70, y6 fun j hj => h2 j (by dsimp only at hj; omega)⟩⟩, rfl⟩
end
section
open Go.ChangeShapes Go.WideShapes Go.ChangeAt Go.RowKit Go.WideMaps Go.WideElems
theorem Dv {H : Type} (d : DataW H) : 1 ≤ Rows.uptoBulk d := by
 cases d with
 | lit l => cases l <;> simp [Rows.uptoBulk]
 | _ => simp [Rows.uptoBulk]
theorem iQ {H : Type} : ∀ l : List (DataW H), l.length ≤ Rows.uptoBulkAll l
 | [] => Nat.zero_le _
 | x :: r => by
  have h1 := Dv x
  have h2 := iQ r
  simp only [Rows.uptoBulkAll, List.length_cons]
  omega
theorem iP {H : Type} {d : DataW H} : ∀ {l : List (DataW H)}, d ∈ l → Rows.uptoBulk d ≤ Rows.uptoBulkAll l
 | [], h => by cases h
 | x :: r, h => by
  simp only [Rows.uptoBulkAll]
  rcases List.mem_cons.1 h with rfl | h
  ·omega
  ·have := iP h; omega
theorem rl {H : Type} : ∀ l : List (List UInt8), Rows.uptoBulkAll (H := H) (l.map fun s => .lit (.string s)) = Lib.lens l + l.length
 | [] => rfl
 | s :: r => by
  have e1 : Lib.lens (s :: r) = s.length + Lib.lens r := by simp [Lib.lens]
  have h := rl (H := H) r
  simp only [List.map_cons, Rows.uptoBulkAll, Rows.uptoBulk, h, e1, List.length_cons]
  omega
section
variable {H : Type} {enc : TypeId × Value → H} {W : World}
theorem ul {m : Nat} {f : Nat → AVal} {a : Addr} {cap : Nat} (hm : m ≤ cap) {V : Nat → Value} (hV : ∀ i, i < m → W.cell? (a.add i) = some (V i) ∧ RelC (ay W W.heap.size) (f i) [V i]) :
  Rel (ay W W.heap.size) (.list 1 m f) (.slice (some a) m cap) := by
 refine ⟨⟨some a, cap, rfl, hm, ?_⟩, rfl⟩
 rcases Nat.eq_zero_or_pos m with h0 | h0
 ·exact .inl h0
 ·refine .inr ?_
  obtain ⟨b, o, sp⟩ := a
  have h1 := (hV 0 h0).1
  rw [show (⟨b, o, sp⟩ : Addr).add 0 = ⟨b, o, sp⟩ from rfl] at h1
  unfold World.cell? at h1
  dsimp only at h1
  cases hW : W.heap[b]? with
  | none => rw [hW] at h1; cases h1
  | some ob =>
   cases ob with
   | cells C e fz =>
    rw [hW] at h1
    cases sp with
    | some s => simp at h1
    | none =>
     refine ⟨b, o, C, e, fz, rfl, ?_, fun i hi => ?_⟩
     ·unfold ay
      rw [if_pos (Array.getElem?_eq_some_iff.1 hW).1]
      exact hW
     ·obtain ⟨h2, h3⟩ := hV i hi
      have ha : (⟨b, o, none⟩ : Addr).add i = ⟨b, o + i, none⟩ := by
       unfold Addr.add
       split
       ·rename_i h; rw [h]; rfl
       ·rfl
      rw [ha] at h2
      have hci : C[o + i]? = some (V i) := by
       unfold World.cell? at h2
       simpa [hW] using h2
      have hlt : o + i < C.toList.length := by simpa using (Array.getElem?_eq_some_iff.1 hci).1
      have e1 : (C.toList.drop (o + i * 1)).take 1 = [V i] := by
       rw [Nat.mul_one, List.drop_eq_getElem_cons hlt, List.take_succ_cons, List.take_zero]
       have : C.toList[o + i]? = some (V i) := by rw [Array.getElem?_toList]; exact hci
       rw [List.getElem?_eq_getElem hlt] at this
       rw [Option.some.inj this]
      rw [e1]
      exact h3
   | _ => rw [hW] at h1; cases h1
theorem uj {fuel : Nat} {spare : Nat → Bool} {held : Bool} {v : Value} {x : DataW H × List MemPlace} (h : DataW.trod enc Tryz.prog W 0 spare held fuel 67 [v] = some x) :
  ∃ l : List (List UInt8), Rel (ay W W.heap.size) (.list 1 l.length (aG l)) v ∧ l.length ≤ Rows.uptoBulk x.1 ∧ Lib.lens l ≤ Rows.uptoBulk x.1 := by
 rcases Go.Deep.open_strs Tryz.underlying67 Tryz.underlying9 (by kernel_rfl) h with ⟨hv, rfl⟩ | ⟨a, len, cap, m, Sx, hv, _, hl, _, hm, rfl, hx⟩
 ·obtain rfl : v = .slice none 0 0 := by simpa using hv
  exact ⟨[], ⟨⟨none, 0, rfl, Nat.le_refl _, .inl rfl⟩, rfl⟩, Nat.zero_le _, Nat.zero_le _⟩
 ·obtain rfl : v = .slice (some a) len cap := by simpa using hv
  have hlm : len ≤ m := by rw [hm]; split <;> omega
  let l : List (List UInt8) := (List.range len).map fun i => (Sx i).data.toList
  have hll : l.length = len := by simp [l]
  have hget : ∀ i, i < len → l.getD i [] = (Sx i).data.toList := fun i hi => by simp [l, List.getD, hi]
  refine ⟨l, ?_, ?_⟩
  ·rw [hll]
   refine ul hl (V := fun i => .string (Sx i)) (fun i hi => ⟨(hx i (by omega)).1, ?_⟩)
   have := (aC (R := ay W W.heap.size) (s := l.getD i []) (v := .string (Sx i))).2 (by rw [hget i hi, io])
   exact this.1
  ·have e1 : ((List.range len).map fun i => (DataW.lit (.string (Sx i).data.toList) : DataW H)) = l.map fun s => .lit (.string s) := by simp [l, List.map_map, Function.comp_def]
   have h1 := rl (H := H) l
   simp only [Rows.uptoBulk]
   rw [e1, h1]
   omega
theorem Ae {fuel : Nat} {spare : Nat → Bool} {held : Bool} {v : Value} {x : DataW H × List MemPlace} (h : DataW.trod enc Tryz.prog W 0 spare held fuel 27 [v] = some x) (hb : Rows.uptoBulk x.1 ≤ 1048576) :
  ∃ L : List (List (List UInt8)), Rel (ay W W.heap.size) (.list 1 L.length (cC L)) v ∧ Small L := by
 rcases Go.Deep.open_slice1 Tryz.underlying27 (by kernel_rfl) h with ⟨hv, rfl⟩ | ⟨a, len, cap, m, n, V, D, Pl, hv, _, hl, _, hm, rfl, hx⟩
 ·obtain rfl : v = .slice none 0 0 := by simpa using hv
  refine ⟨[], ⟨⟨none, 0, rfl, Nat.le_refl _, .inl rfl⟩, rfl⟩, ⟨by simp, fun k => ?_⟩⟩
  rw [List.getD_nil]
  exact ⟨by simp, by simp [Lib.lens]⟩
 ·obtain rfl : v = .slice (some a) len cap := by simpa using hv
  have hlm : len ≤ m := by rw [hm]; split <;> omega
  obtain ⟨Lx, hLx⟩ := Go.Deep.choose_lt (α := List (List UInt8)) (n := len) (p := fun i l => Rel (ay W W.heap.size) (.list 1 l.length (aG l)) (V i) ∧ l.length ≤ Rows.uptoBulk (D i) ∧ Lib.lens l ≤ Rows.uptoBulk (D i)) (fun i hi => uj (hx i (by omega)).2)
  let L : List (List (List UInt8)) := (List.range len).map Lx
  have hll : L.length = len := by simp [L]
  have hget : ∀ i, i < len → L.getD i [] = Lx i := fun i hi => by simp [L, List.getD, hi]
  simp only [Rows.uptoBulk] at hb
  have h1 := iQ ((List.range len).map D)
  rw [List.length_map, List.length_range] at h1
  refine ⟨L, ?_, ⟨by omega, fun k => ?_⟩⟩
  ·rw [hll]
   refine ul hl (V := V) (fun i hi => ⟨(hx i (by omega)).1, ?_⟩)
   have h2 := (hLx i hi).1
   unfold cC
   rw [hget i hi]
   have h3 := h2.1
   obtain ⟨c, cp, e, h4⟩ := h3
   have e2 : [V i] = [.slice c (Lx i).length cp] := by
    obtain ⟨c2, cp2, e3, _⟩ := aQ h2 rfl
    have e4 : V i = .slice c2 (Lx i).length cp2 := by simpa using e3
    rw [e4] at e ⊢
    exact e
   exact ⟨c, cp, e2, h4⟩
  ·by_cases hk : k < len
   ·rw [hget k hk]
    have h2 := (hLx k hk).2
    have h3 := iP (d := D k) (l := (List.range len).map D) (List.mem_map.2 ⟨k, List.mem_range.2 hk, rfl⟩)
    omega
   ·rw [List.getD_eq_getElem?_getD, List.getElem?_eq_none (by omega)]
    exact ⟨by simp, by simp [Lib.lens]⟩
end
end
section
open Go Go.ChangeShapes Go.WideShapes Go.ChangeAt Go.RowKit Go.WideMaps Go.WideElems
theorem lC {α : Type} {l : List α} (h : l.length = 2) : ∃ a b, l = [a, b] := by
 match l, h with
 | [a, b], _ => exact ⟨a, b, rfl⟩
theorem EN {α : Type} {l : List α} (h : l.length = 4) : ∃ a b c d, l = [a, b, c, d] := by
 match l, h with
 | [a, b, c, d], _ => exact ⟨a, b, c, d, rfl⟩
theorem vS (b o n : Nat) : (⟨b, o, none⟩ : Addr).add n = ⟨b, o + n, none⟩ := by
 unfold Addr.add
 split
 ·rename_i h; rw [h]; rfl
 ·rfl
theorem AS {W : World} {b o : Nat} {C : Array Value} {e : TypeId} {fz : Nat × Nat} (h : W.heap[b]? = some (.cells C e fz)) : W.cell? ⟨b, o, none⟩ = C[o]? := by
 unfold World.cell?
 simp [h]
section
variable {H : Type} {enc : TypeId × Value → H} {W : World}
theorem lR {sz m : Nat} (hz : 0 < sz) {f : Nat → AVal} {a : Addr} {cap : Nat} (hm : m ≤ cap) {cs : Nat → List Value} (hV : ∀ i, i < m → W.cells? 0 (a.add (i * sz)) sz = some (cs i) ∧ RelC (ay W W.heap.size) (f i) (cs i)) :
  Rel (ay W W.heap.size) (.list sz m f) (.slice (some a) m cap) := by
 refine ⟨⟨some a, cap, rfl, hm, ?_⟩, rfl⟩
 rcases Nat.eq_zero_or_pos m with h0 | h0
 ·exact .inl h0
 ·refine .inr ?_
  obtain ⟨b, o, sp⟩ := a
  obtain ⟨_, hl0, hc0⟩ := World.cells?_some (hV 0 h0).1
  have h1 := hc0 0 hz
  rw [Nat.zero_mul, show (⟨b, o, sp⟩ : Addr).add 0 = ⟨b, o, sp⟩ from rfl, show (⟨b, o, sp⟩ : Addr).add 0 = ⟨b, o, sp⟩ from rfl, List.getElem?_eq_getElem (by omega)] at h1
  unfold World.cell? at h1
  dsimp only at h1
  cases hW : W.heap[b]? with
  | none => rw [hW] at h1; cases h1
  | some ob =>
   cases ob with
   | cells C e fz =>
    rw [hW] at h1
    cases sp with
    | some s => simp at h1
    | none =>
     refine ⟨b, o, C, e, fz, rfl, ?_, fun i hi => ?_⟩
     ·unfold ay
      rw [if_pos (Array.getElem?_eq_some_iff.1 hW).1]
      exact hW
     ·obtain ⟨h2, h3⟩ := hV i hi
      obtain ⟨_, hl, hc⟩ := World.cells?_some h2
      have e1 : (C.toList.drop (o + i * sz)).take sz = cs i := by
       refine List.ext_getElem? fun k => ?_
       by_cases hk : k < sz
       ·have h4 := hc k hk
        rw [vS, vS, AS hW] at h4
        rw [← h4, List.getElem?_take_of_lt hk, List.getElem?_drop, Array.getElem?_toList]
       ·rw [List.getElem?_eq_none (by rw [List.length_take]; omega), List.getElem?_eq_none (by omega)]
      rw [e1]
      exact h3
   | _ => rw [hW] at h1; cases h1
theorem Af {fuel : Nat} {spare : Nat → Bool} {held : Bool} {cs : List Value} {x : DataW H × List MemPlace} (h : DataW.trod enc Tryz.prog W 0 spare held fuel 103 cs = some x) :
  ∃ q : Pr, RelC (ay W W.heap.size) (.agg [.str q.n, .list 1 q.vs.length (aG q.vs)]) cs ∧ q.n.length ≤ Rows.uptoBulk x.1 ∧ q.vs.length ≤ Rows.uptoBulk x.1 ∧ Lib.lens q.vs ≤ Rows.uptoBulk x.1 := by
 obtain ⟨xs, n, _, hx, hl, hxl, hf⟩ := DataW.trod_struct Tryz.underlying103 h
 have hc : Tryz.prog.cellsOf 103 = 2 := by kernel_rfl
 have hcs : Tryz.prog.cellsOf 9 = 1 := by kernel_rfl
 have hcp : Tryz.prog.cellsOf 67 = 1 := by kernel_rfl
 rw [hc] at hl
 have hxl : xs.length = 2 := hxl
 obtain ⟨x0, x1, rfl⟩ := lC hxl
 obtain ⟨u0, u1, rfl⟩ := lC hl
 have g0 : DataW.trod enc Tryz.prog W 0 spare held n 9 (([u0, u1].drop 0).take (Tryz.prog.cellsOf 9)) = some x0 := hf 0 _ rfl
 have g1 : DataW.trod enc Tryz.prog W 0 spare held n 67 (([u0, u1].drop 1).take (Tryz.prog.cellsOf 67)) = some x1 := hf 1 _ rfl
 rw [hcs] at g0
 rw [hcp] at g1
 simp only [List.drop_zero, List.drop_succ_cons, List.take_succ_cons, List.take_zero] at g0 g1
 obtain ⟨s0, q0, e0, _⟩ := DataW.trod_string Tryz.underlying9 g0
 obtain ⟨l, r1, hb1, hb2⟩ := uj g1
 obtain rfl := List.singleton_inj.1 q0
 rw [hx]
 simp only [List.map_cons, List.map_nil, Rows.uptoBulk, Rows.uptoBulkAll]
 refine ⟨⟨s0.data.toList, l⟩, ⟨_, _, rfl, by rw [RelC, io], _, _, rfl, aQ r1 rfl, rfl⟩, ?_, by dsimp only; omega, by dsimp only; omega⟩
 rw [e0]
 simp only [Rows.uptoBulk]
 omega
theorem wK {fuel : Nat} {spare : Nat → Bool} {held : Bool} {v : Value} {x : DataW H × List MemPlace} (h : DataW.trod enc Tryz.prog W 0 spare held fuel 26 [v] = some x) :
  ∃ L : List Pr, Rel (ay W W.heap.size) (.list 2 L.length (prF L)) v ∧ L.length ≤ Rows.uptoBulk x.1 ∧ ∀ k, (L.getD k Pr.z).n.length ≤ Rows.uptoBulk x.1 ∧ (L.getD k Pr.z).vs.length ≤ Rows.uptoBulk x.1 ∧ Lib.lens (L.getD k Pr.z).vs ≤ Rows.uptoBulk x.1 := by
 have hc : Tryz.prog.cellsOf 103 = 2 := by kernel_rfl
 rcases Go.Deep.open_slice Tryz.underlying26 h with ⟨hv, rfl⟩ | ⟨a, len, cap, m, n, D, Pl, hv, _, hl, _, hm, rfl, hx⟩
 ·obtain rfl : v = .slice none 0 0 := by simpa using hv
  refine ⟨[], ⟨⟨none, 0, rfl, Nat.le_refl _, .inl rfl⟩, rfl⟩, Nat.zero_le _, fun k => ?_⟩
  rw [List.getD_nil]
  exact ⟨by simp [Pr.z], by simp [Pr.z], by simp [Pr.z, Lib.lens]⟩
 ·obtain rfl : v = .slice (some a) len cap := by simpa using hv
  rw [hc] at hx
  have hlm : len ≤ m := by rw [hm]; split <;> omega
  obtain ⟨Cx, hCx⟩ := Go.Deep.choose_lt (α := List Value) (n := len) (p := fun i cs => W.cells? 0 (a.add (i * 2)) 2 = some cs ∧ DataW.trod enc Tryz.prog W 0 spare held n 103 cs = some (D i, Pl i)) (fun i hi => hx i (by omega))
  obtain ⟨Lx, hLx⟩ := Go.Deep.choose_lt (α := Pr) (n := len) (p := fun i q => RelC (ay W W.heap.size) (.agg [.str q.n, .list 1 q.vs.length (aG q.vs)]) (Cx i) ∧ q.n.length ≤ Rows.uptoBulk (D i) ∧ q.vs.length ≤ Rows.uptoBulk (D i) ∧ Lib.lens q.vs ≤ Rows.uptoBulk (D i)) (fun i hi => Af (hCx i hi).2)
  let L : List Pr := (List.range len).map Lx
  have hll : L.length = len := by simp [L]
  have hget : ∀ i, i < len → L.getD i Pr.z = Lx i := fun i hi => by simp [L, List.getD, hi]
  have h1 := iQ ((List.range len).map D)
  rw [List.length_map, List.length_range] at h1
  simp only [Rows.uptoBulk]
  refine ⟨L, ?_, by omega, fun k => ?_⟩
  ·rw [hll]
   refine lR (by decide) hl (cs := Cx) (fun i hi => ⟨(hCx i hi).1, ?_⟩)
   unfold prF
   rw [hget i hi]
   exact (hLx i hi).1
  ·by_cases hk : k < len
   ·rw [hget k hk]
    have h2 := (hLx k hk).2
    have h3 := iP (d := D k) (l := (List.range len).map D) (List.mem_map.2 ⟨k, List.mem_range.2 hk, rfl⟩)
    omega
   ·rw [List.getD_eq_getElem?_getD, List.getElem?_eq_none (by omega)]
    exact ⟨by simp [Pr.z], by simp [Pr.z], by simp [Pr.z, Lib.lens]⟩
end
end
section
open Go Go.ChangeShapes Go.WideShapes
theorem py {W : World} {a : Addr} {v : Value} (h : W.cell? a = some v) : ∃ b o C e fz, a = ⟨b, o, none⟩ ∧ W.heap[b]? = some (.cells C e fz) := by
 obtain ⟨b, o, sp⟩ := a
 unfold World.cell? at h
 dsimp only at h
 cases hW : W.heap[b]? with
 | none => rw [hW] at h; cases h
 | some ob =>
  cases ob with
  | cells C e fz =>
   rw [hW] at h
   cases sp with
   | some s => simp at h
   | none => exact ⟨b, o, C, e, fz, rfl, hW⟩
  | _ => rw [hW] at h; cases h
theorem vT (b o i : Nat) : (⟨b, o, none⟩ : Addr).add i = ⟨b, o + i, none⟩ := by
 unfold Addr.add
 split
 ·rename_i h; rw [h]; rfl
 ·rfl
theorem E0 {W : World} {b o : Nat} {C : Array Value} {e : TypeId} {fz : Nat × Nat} (hW : W.heap[b]? = some (.cells C e fz)) : W.cell? ⟨b, o, none⟩ = C.toList[o]? := by
 unfold World.cell?
 simp [hW]
theorem yd {W : World} {base b o n : Nat} {C : Array Value} {e : TypeId} {fz : Nat × Nat} (hW : W.heap[b]? = some (.cells C e fz)) {cs : List Value} (h : W.cells? base ⟨b, o, none⟩ n = some cs) : (C.toList.drop o).take n = cs := by
 obtain ⟨_, hl, hi⟩ := World.cells?_some h
 have hx : ∀ i, i < n → C.toList[o + i]? = cs[i]? := fun i k => by
  have := hi i k
  rwa [vT, E0 hW] at this
 apply List.ext_getElem?
 intro i
 by_cases k : i < n
 ·rw [List.getElem?_take_of_lt k, List.getElem?_drop, hx i k]
 ·rw [List.getElem?_eq_none (by rw [List.length_take]; omega), List.getElem?_eq_none (by omega)]
theorem ui {R : Seal} {x y z : List UInt8} {cs : List Value} {s0 s1 s2 : ByteArray} (h : cs = [.string s0, .string s1, .string s2]) (h0 : s0.data.toList = x) (h1 : s1.data.toList = y) (h2 : s2.data.toList = z) : RelC R (.agg [.str x, .str y, .str z]) cs := by
 subst h h0 h1 h2
 exact ⟨_, _, rfl, by rw [RelC, io], _, _, rfl, by rw [RelC, io], _, _, rfl, by rw [RelC, io], rfl⟩
theorem Bq {α : Type} {l : List α} (h : l.length = 3) : ∃ a b c, l = [a, b, c] := by
 match l, h with
 | [a, b, c], _ => exact ⟨a, b, c, rfl⟩
theorem vx {α : Type} {l : List α} (h : l.length = 8) : ∃ a b c d e f g i, l = [a, b, c, d, e, f, g, i] := by
 match l, h with
 | [a, b, c, d, e, f, g, i], _ => exact ⟨a, b, c, d, e, f, g, i, rfl⟩
def n8 {H : Type} (i : Nat) : DataW H := .agg [.lit (.string (Fl i)), .lit (.string (bg i)), .lit (.string (clkF i))]
theorem tI {W : World} {laid : List (String × DataW Unit)} (hL : laidMetH Tryz.prog laid W) (hm : ("visitingcard/visitingcardref.shapes", Rows.laid_visitingcard_visitingcardref_shapes) ∈ laid) : bY (ay W W.heap.size) 3 0 [.list 3 7 rJ] := by
 obtain ⟨C0, e0, fz0, fuel, p, hW0, hd⟩ := gM hL hm (by kernel_rfl) (g := 3) (t := 254) (by kernel_rfl) (by kernel_rfl)
 rcases Go.Deep.open_slice Tryz.underlying254 hd with ⟨_, hx⟩ | ⟨a, len, cap, m, n, D, Pl, hv, _, hl, _, hm2, hx, hi⟩
 ·cases hx
 have e1 : (List.range 7).map (fun i => (n8 i : DataW Unit)) = (List.range len).map D := by
  have := (DataW.slice.inj (Prod.mk.inj hx).1).1
  rw [← this]
  rfl
 have hlen : len = 7 := by
  have := congrArg List.length e1
  simpa using this.symm
 subst hlen
 have hD : ∀ i, i < 7 → D i = n8 i := fun i k => by
  have h1 : ((List.range 7).map D)[i]? = some (D i) := by simp [k]
  have h2 : ((List.range 7).map (fun i => (n8 i : DataW Unit)))[i]? = some (n8 i) := by simp [k]
  rw [e1, h1] at h2
  exact Option.some.inj h2
 have hm7 : 7 ≤ m := by rw [hm2]; split <;> omega
 have hc3 : Tryz.prog.cellsOf 255 = 3 := by kernel_rfl
 have hc1 : Tryz.prog.cellsOf 9 = 1 := by kernel_rfl
 rw [hc3] at hi
 obtain ⟨c0, hc0, _⟩ := hi 0 (by omega)
 have hcell : ∃ v, W.cell? a = some v := by
  obtain ⟨_, h1, h2⟩ := World.cells?_some hc0
  have h3 := h2 0 (by decide)
  rw [Nat.zero_mul, show (a.add 0).add 0 = a from rfl, List.getElem?_eq_getElem (by omega)] at h3
  exact ⟨_, h3⟩
 obtain ⟨v, hv0⟩ := hcell
 obtain ⟨b, o, C, e, fz, rfl, hWb⟩ := py hv0
 refine di (iS hW0) hW0 ?_
 rw [hv]
 refine ⟨_, _, rfl, ⟨some ⟨b, o, none⟩, cap, rfl, hl, .inr ⟨b, o, C, e, fz, rfl, ?_, fun i k => ?_⟩⟩, rfl⟩
 ·unfold ay
  rw [if_pos (iS hWb)]
  exact hWb
 ·obtain ⟨cs, h1, h2⟩ := hi i (by omega)
  rw [vT] at h1
  have h3 := yd hWb h1
  rw [h3]
  rw [hD i k] at h2
  obtain ⟨y0, y1, y2, n2, hy, hcl, g0, g1, g2⟩ := Go.Deep.trod_struct3 Tryz.underlying255 h2
  rw [hc3] at hcl
  obtain ⟨s0, q0, r0, _⟩ := DataW.trod_string Tryz.underlying9 g0
  obtain ⟨s1, q1, r1, _⟩ := DataW.trod_string Tryz.underlying9 g1
  obtain ⟨s2, q2, r2, _⟩ := DataW.trod_string Tryz.underlying9 g2
  have hy1 := (Prod.mk.inj hy).1
  rw [r0, r1, r2] at hy1
  unfold n8 at hy1
  simp only [DataW.agg.injEq, List.cons.injEq, DataW.lit.injEq, Lit.string.injEq, and_true] at hy1
  refine ui (s0 := s0) (s1 := s1) (s2 := s2) ?_ hy1.1.symm hy1.2.1.symm hy1.2.2.symm
  obtain ⟨u0, u1, u2, rfl⟩ := Bq hcl
  have q0 : ([u0, u1, u2].drop 0).take (Tryz.prog.cellsOf 9) = [.string s0] := q0
  have q1 : ([u0, u1, u2].drop 1).take (Tryz.prog.cellsOf 9) = [.string s1] := q1
  have q2 : ([u0, u1, u2].drop 2).take (Tryz.prog.cellsOf 9) = [.string s2] := q2
  rw [hc1] at q0 q1 q2
  simp at q0 q1 q2
  rw [q0, q1, q2]
theorem Ad {H : Type} {enc : TypeId × Value → H} {W : World} {base : Nat} {spare : Nat → Bool} {held : Bool} {R : Seal} {v : Value} {d : DataW H} {ps : List MemPlace} (h : DataW.Trod enc Tryz.prog W base spare held 29 v d ps) :
  ∃ t : Stm, Rel R t.A v := by
 obtain ⟨fuel, h⟩ := h
 obtain ⟨xs, n, _, hx, hl, hxl, hf⟩ := DataW.trod_struct Tryz.underlying29 h
 have hc : Tryz.prog.cellsOf 29 = 8 := by kernel_rfl
 have hci : Tryz.prog.cellsOf 3 = 1 := by kernel_rfl
 have hcb : Tryz.prog.cellsOf 4 = 1 := by kernel_rfl
 rw [hc] at hl
 have hxl : xs.length = 8 := hxl
 obtain ⟨x0, x1, x2, x3, x4, x5, x6, x7, rfl⟩ := vx hxl
 obtain ⟨u0, u1, u2, u3, u4, u5, u6, u7, hu⟩ := vx hl
 rw [hu] at hf
 have g0 : DataW.trod enc Tryz.prog W base spare held n 3 (([u0, u1, u2, u3, u4, u5, u6, u7].drop 0).take (Tryz.prog.cellsOf 3)) = some x0 := hf 0 _ rfl
 have g1 : DataW.trod enc Tryz.prog W base spare held n 3 (([u0, u1, u2, u3, u4, u5, u6, u7].drop 1).take (Tryz.prog.cellsOf 3)) = some x1 := hf 1 _ rfl
 have g2 : DataW.trod enc Tryz.prog W base spare held n 3 (([u0, u1, u2, u3, u4, u5, u6, u7].drop 2).take (Tryz.prog.cellsOf 3)) = some x2 := hf 2 _ rfl
 have g3 : DataW.trod enc Tryz.prog W base spare held n 3 (([u0, u1, u2, u3, u4, u5, u6, u7].drop 3).take (Tryz.prog.cellsOf 3)) = some x3 := hf 3 _ rfl
 have g4 : DataW.trod enc Tryz.prog W base spare held n 3 (([u0, u1, u2, u3, u4, u5, u6, u7].drop 4).take (Tryz.prog.cellsOf 3)) = some x4 := hf 4 _ rfl
 have g5 : DataW.trod enc Tryz.prog W base spare held n 3 (([u0, u1, u2, u3, u4, u5, u6, u7].drop 5).take (Tryz.prog.cellsOf 3)) = some x5 := hf 5 _ rfl
 have g6 : DataW.trod enc Tryz.prog W base spare held n 4 (([u0, u1, u2, u3, u4, u5, u6, u7].drop 6).take (Tryz.prog.cellsOf 4)) = some x6 := hf 6 _ rfl
 have g7 : DataW.trod enc Tryz.prog W base spare held n 3 (([u0, u1, u2, u3, u4, u5, u6, u7].drop 7).take (Tryz.prog.cellsOf 3)) = some x7 := hf 7 _ rfl
 rw [hci] at g0 g1 g2 g3 g4 g5 g7
 rw [hcb] at g6
 simp only [List.drop_zero, List.drop_succ_cons, List.take_succ_cons, List.take_zero] at g0 g1 g2 g3 g4 g5 g6 g7
 obtain ⟨n0, q0, _, _⟩ := DataW.trod_int Tryz.underlying3 g0
 obtain ⟨n1, q1, _, _⟩ := DataW.trod_int Tryz.underlying3 g1
 obtain ⟨n2, q2, _, _⟩ := DataW.trod_int Tryz.underlying3 g2
 obtain ⟨n3, q3, _, _⟩ := DataW.trod_int Tryz.underlying3 g3
 obtain ⟨n4, q4, _, _⟩ := DataW.trod_int Tryz.underlying3 g4
 obtain ⟨n5, q5, _, _⟩ := DataW.trod_int Tryz.underlying3 g5
 obtain ⟨n6, q6, _⟩ := DataW.trod_bool Tryz.underlying4 g6
 obtain ⟨n7, q7, _, _⟩ := DataW.trod_int Tryz.underlying3 g7
 refine ⟨⟨n0, n1, n2, n3, n4, n5, n6, n7⟩, ?_, ?_⟩
 ·rw [hu]
  obtain rfl := List.singleton_inj.1 q0
  obtain rfl := List.singleton_inj.1 q1
  obtain rfl := List.singleton_inj.1 q2
  obtain rfl := List.singleton_inj.1 q3
  obtain rfl := List.singleton_inj.1 q4
  obtain rfl := List.singleton_inj.1 q5
  obtain rfl := List.singleton_inj.1 q6
  obtain rfl := List.singleton_inj.1 q7
  exact ⟨_, _, rfl, rfl, _, _, rfl, rfl, _, _, rfl, rfl, _, _, rfl, rfl, _, _, rfl, rfl, _, _, rfl, rfl, _, _, rfl, rfl, _, _, rfl, rfl, rfl⟩
 ·cases v with
  | agg cs => rfl
  | _ => exact absurd (congrArg List.length hu) (by simp [Value.cells])
theorem EZ {W : World} {g : Nat} {v : Value} (h : W.cell? ⟨g, 0, none⟩ = some v) : g < W.heap.size := by
 obtain ⟨b, o, C, e, fz, ha, hW⟩ := py h
 cases ha
 exact iS hW
end
section
open Go Go.ChangeShapes Go.WideShapes
theorem EO {α : Type} {l : List α} (h : l.length = 5) : ∃ a b c d e, l = [a, b, c, d, e] := by
 match l, h with
 | [a, b, c, d, e], _ => exact ⟨a, b, c, d, e, rfl⟩
theorem zL {α : Type} {l : List α} (h : l.length = 12) : ∃ a b c d e f g i j k m n, l = [a, b, c, d, e, f, g, i, j, k, m, n] := by
 match l, h with
 | [a, b, c, d, e, f, g, i, j, k, m, n], _ => exact ⟨a, b, c, d, e, f, g, i, j, k, m, n, rfl⟩
theorem CF {l : List (List UInt8)} {j : Nat} : (l.getD j []).length ≤ Lib.lens l := cJ
theorem Aa {H : Type} {enc : TypeId × Value → H} {W : World} {spare : Nat → Bool} {held : Bool} {v : Value} {d : DataW H} {ps : List MemPlace} (h : DataW.Trod enc Tryz.prog W 0 spare held 31 v d ps) (hb : Rows.uptoBulk d ≤ 1048576) :
  ∃ u : Vl, Rel (ay W W.heap.size) u.A v ∧ u.s.length ≤ 1048576 ∧ Small u.L ∧ u.OK := by
 obtain ⟨fuel, h⟩ := h
 obtain ⟨xs, n, _, hx, hl, hxl, hf⟩ := DataW.trod_struct Tryz.underlying31 h
 have hc : Tryz.prog.cellsOf 31 = 12 := by kernel_rfl
 have hci : Tryz.prog.cellsOf 3 = 1 := by kernel_rfl
 have hcs : Tryz.prog.cellsOf 9 = 1 := by kernel_rfl
 have hcp : Tryz.prog.cellsOf 27 = 1 := by kernel_rfl
 have hct : Tryz.prog.cellsOf 29 = 8 := by kernel_rfl
 rw [hc] at hl
 have hxl : xs.length = 5 := hxl
 obtain ⟨x0, x1, x2, x3, x4, rfl⟩ := EO hxl
 obtain ⟨u0, u1, u2, u3, u4, u5, u6, u7, u8, u9, u10, u11, hu⟩ := zL hl
 rw [hu] at hf
 have g0 : DataW.trod enc Tryz.prog W 0 spare held n 3 (([u0, u1, u2, u3, u4, u5, u6, u7, u8, u9, u10, u11].drop 0).take (Tryz.prog.cellsOf 3)) = some x0 := hf 0 _ rfl
 have g1 : DataW.trod enc Tryz.prog W 0 spare held n 9 (([u0, u1, u2, u3, u4, u5, u6, u7, u8, u9, u10, u11].drop 1).take (Tryz.prog.cellsOf 9)) = some x1 := hf 1 _ rfl
 have g2 : DataW.trod enc Tryz.prog W 0 spare held n 27 (([u0, u1, u2, u3, u4, u5, u6, u7, u8, u9, u10, u11].drop 2).take (Tryz.prog.cellsOf 27)) = some x2 := hf 2 _ rfl
 have g3 : DataW.trod enc Tryz.prog W 0 spare held n 29 (([u0, u1, u2, u3, u4, u5, u6, u7, u8, u9, u10, u11].drop 3).take (Tryz.prog.cellsOf 29)) = some x3 := hf 3 _ rfl
 have g4 : DataW.trod enc Tryz.prog W 0 spare held n 3 (([u0, u1, u2, u3, u4, u5, u6, u7, u8, u9, u10, u11].drop 11).take (Tryz.prog.cellsOf 3)) = some x4 := hf 4 _ rfl
 rw [hci] at g0 g4
 rw [hcs] at g1
 rw [hcp] at g2
 rw [hct] at g3
 simp only [List.drop_zero, List.drop_succ_cons, List.take_succ_cons, List.take_zero] at g0 g1 g2 g3 g4
 obtain rfl : d = .agg ([x0, x1, x2, x3, x4].map (·.1)) := (Prod.mk.inj hx).1
 simp only [List.map_cons, List.map_nil, Rows.uptoBulk, Rows.uptoBulkAll] at hb
 obtain ⟨n0, q0, _, _⟩ := DataW.trod_int Tryz.underlying3 g0
 obtain ⟨n4, q4, _, _⟩ := DataW.trod_int Tryz.underlying3 g4
 obtain ⟨s1, q1, e1, _⟩ := DataW.trod_string Tryz.underlying9 g1
 obtain ⟨L, r2, hs⟩ := Ae g2 (by omega)
 obtain ⟨t, r3⟩ := Ad (R := ay W W.heap.size) (v := .agg #[u3, u4, u5, u6, u7, u8, u9, u10]) (d := x3.1) (ps := x3.2) ⟨n, g3⟩
 have hbs : s1.data.toList.length ≤ 1048576 := by
  rw [e1] at hb
  simp only [Rows.uptoBulk] at hb
  omega
 have hLk := hs.k
 refine ⟨⟨n0, s1.data.toList, L, t, n4⟩, ⟨?_, ?_⟩, hbs, hs, ⟨by dsimp only; omega, hs.n, fun k => (hLk k).1, fun k j => by have h1 := CF (l := L.getD k []) (j := j); have h2 := (hLk k).2; dsimp only; omega⟩⟩
 ·rw [hu]
  obtain rfl := List.singleton_inj.1 q0
  obtain rfl := List.singleton_inj.1 q1
  obtain rfl := List.singleton_inj.1 q4
  have h3 : RelL (ay W W.heap.size) _ [u3, u4, u5, u6, u7, u8, u9, u10] := r3.1
  exact ⟨_, _, rfl, rfl, _, _, rfl, by rw [RelC, io], _, _, rfl, aQ r2 rfl, aZ h3 ⟨_, _, rfl, rfl, rfl⟩⟩
 ·cases v with
  | agg cs => rfl
  | _ => exact absurd (congrArg List.length hu) (by simp [Value.cells])
end
section
open Go Go.ChangeShapes Go.WideShapes Go.ChangeAt Go.RowKit Go.WideMaps Go.WideElems
section
variable {H : Type} {enc : TypeId × Value → H} {W : World}
theorem Bt {α : Type} {l : List α} {n : Nat} (h : l.length = n) : l.take n = l := by rw [← h, List.take_length]
theorem B2 {fuel : Nat} {spare : Nat → Bool} {held : Bool} {cs : List Value} {x : DataW H × List MemPlace} (h : DataW.trod enc Tryz.prog W 0 spare held fuel 33 cs = some x) (hb : Rows.uptoBulk x.1 ≤ 1048576) :
  ∃ u : Itm, RelC (ay W W.heap.size) (itR u) cs ∧ Itm.OK 1048576 u := by
 obtain ⟨xs, n, _, hx, hl, hxl, hf⟩ := DataW.trod_struct Tryz.underlying33 h
 have hc : Tryz.prog.cellsOf 33 = 15 := by kernel_rfl
 have hcs : Tryz.prog.cellsOf 9 = 1 := by kernel_rfl
 have hcp : Tryz.prog.cellsOf 26 = 1 := by kernel_rfl
 have hcv : Tryz.prog.cellsOf 31 = 12 := by kernel_rfl
 rw [hc] at hl
 have hxl : xs.length = 4 := hxl
 obtain ⟨x0, x1, x2, x3, rfl⟩ := EN hxl
 obtain ⟨u0, u1, u2, cv, hu⟩ : ∃ u0 u1 u2 cv, cs = u0 :: u1 :: u2 :: cv := by
  rcases cs with _ | ⟨u0, _ | ⟨u1, _ | ⟨u2, cv⟩⟩⟩
  ·simp at hl
  ·simp at hl
  ·simp at hl
  ·exact ⟨u0, u1, u2, cv, rfl⟩
 rw [hu] at hf hl
 have hlv : cv.length = 12 := by simpa using hl
 have g0 : DataW.trod enc Tryz.prog W 0 spare held n 9 (((u0 :: u1 :: u2 :: cv).drop 0).take (Tryz.prog.cellsOf 9)) = some x0 := hf 0 _ rfl
 have g1 : DataW.trod enc Tryz.prog W 0 spare held n 9 (((u0 :: u1 :: u2 :: cv).drop 1).take (Tryz.prog.cellsOf 9)) = some x1 := hf 1 _ rfl
 have g2 : DataW.trod enc Tryz.prog W 0 spare held n 26 (((u0 :: u1 :: u2 :: cv).drop 2).take (Tryz.prog.cellsOf 26)) = some x2 := hf 2 _ rfl
 have g3 : DataW.trod enc Tryz.prog W 0 spare held n 31 (((u0 :: u1 :: u2 :: cv).drop 3).take (Tryz.prog.cellsOf 31)) = some x3 := hf 3 _ rfl
 rw [hcs] at g0 g1
 rw [hcp] at g2
 rw [hcv] at g3
 simp only [List.drop_zero, List.drop_succ_cons, List.take_succ_cons, List.take_zero] at g0 g1 g2 g3
 rw [Bt hlv] at g3
 obtain ⟨d, pl⟩ := x
 obtain rfl : d = .agg ([x0, x1, x2, x3].map (·.1)) := (Prod.mk.inj hx).1
 simp only [List.map_cons, List.map_nil, Rows.uptoBulk, Rows.uptoBulkAll] at hb
 obtain ⟨s0, q0, e0, _⟩ := DataW.trod_string Tryz.underlying9 g0
 obtain ⟨s1, q1, e1, _⟩ := DataW.trod_string Tryz.underlying9 g1
 obtain ⟨L, r2, hn, hk⟩ := wK g2
 obtain ⟨u, r3, h1, h2, _⟩ := Aa (v := .agg cv.toArray) (d := x3.1) (ps := x3.2) ⟨n, by simpa [Value.cells] using g3⟩ (by omega)
 rw [e0, e1] at hb
 simp only [Rows.uptoBulk] at hb
 refine ⟨(⟨s0.data.toList, s1.data.toList, L, []⟩, u), ?_, ⟨⟨?_, ?_, Nat.zero_le _, ?_, fun k => ?_⟩, h1, h2⟩⟩
 ·rw [hu]
  obtain rfl := List.singleton_inj.1 q0
  obtain rfl := List.singleton_inj.1 q1
  have r3' : RelC (ay W W.heap.size) u.A cv := by
   have := r3.1
   rwa [show (Value.agg cv.toArray).cells.toList = cv by simp [Value.cells]] at this
  exact ⟨_, _, rfl, by rw [RelC, io], _, _, rfl, by rw [RelC, io], _, _, rfl, aQ r2 rfl, r3'⟩
 ·show s0.data.toList.length ≤ _; omega
 ·show s1.data.toList.length ≤ _; omega
 ·show L.length ≤ _; omega
 ·have := hk k
  show (L.getD k Pr.z).n.length ≤ _ ∧ (L.getD k Pr.z).vs.length ≤ _ ∧ Lib.lens (L.getD k Pr.z).vs ≤ _
  omega
theorem qy {fuel : Nat} {spare : Nat → Bool} {held : Bool} {v : Value} {x : DataW H × List MemPlace} (h : DataW.trod enc Tryz.prog W 0 spare held fuel 22 [v] = some x) (hb : Rows.uptoBulk x.1 ≤ 1048576) :
  ∃ L : List Itm, Rel (ay W W.heap.size) (.list 15 L.length (itsF L)) v ∧ L.length ≤ 1048576 ∧ ∀ y ∈ L, Itm.OK 1048576 y := by
 have hc : Tryz.prog.cellsOf 33 = 15 := by kernel_rfl
 rcases Go.Deep.open_slice Tryz.underlying22 h with ⟨hv, rfl⟩ | ⟨a, len, cap, m, n, D, Pl, hv, _, hl, _, hm, rfl, hx⟩
 ·obtain rfl : v = .slice none 0 0 := by simpa using hv
  exact ⟨[], ⟨⟨none, 0, rfl, Nat.le_refl _, .inl rfl⟩, rfl⟩, Nat.zero_le _, fun y hy => by cases hy⟩
 ·obtain rfl : v = .slice (some a) len cap := by simpa using hv
  rw [hc] at hx
  have hlm : len ≤ m := by rw [hm]; split <;> omega
  simp only [Rows.uptoBulk] at hb
  have h1 := iQ ((List.range len).map D)
  rw [List.length_map, List.length_range] at h1
  have hD : ∀ i, i < len → Rows.uptoBulk (D i) ≤ 1048576 := fun i hi => by
   have := iP (d := D i) (l := (List.range len).map D) (List.mem_map.2 ⟨i, List.mem_range.2 hi, rfl⟩)
   omega
  obtain ⟨Cx, hCx⟩ := Go.Deep.choose_lt (α := List Value) (n := len) (p := fun i cs => W.cells? 0 (a.add (i * 15)) 15 = some cs ∧ DataW.trod enc Tryz.prog W 0 spare held n 33 cs = some (D i, Pl i)) (fun i hi => hx i (by omega))
  obtain ⟨Lx, hLx⟩ := Go.Deep.choose_lt (α := Itm) (n := len) (p := fun i q => RelC (ay W W.heap.size) (itR q) (Cx i) ∧ Itm.OK 1048576 q) (fun i hi => B2 (hCx i hi).2 (hD i hi))
  let L : List Itm := (List.range len).map Lx
  have hll : L.length = len := by simp [L]
  have hget : ∀ i, i < len → L.getD i Itm.z = Lx i := fun i hi => by simp [L, List.getD, hi]
  refine ⟨L, ?_, by omega, y6 fun k hk => ?_⟩
  ·rw [hll]
   refine lR (by decide) hl (cs := Cx) (fun i hi => ⟨(hCx i hi).1, ?_⟩)
   unfold itsF
   rw [hget i hi]
   exact (hLx i hi).1
  ·rw [hget k (by omega)]
   exact (hLx k (by omega)).2
theorem um {spare : Nat → Bool} {held : Bool} {v : Value} {d : DataW H} {ps : List MemPlace} (h : DataW.Trod enc Tryz.prog W 0 spare held 24 v d ps) (hb : Rows.uptoBulk d ≤ 1048576) :
  ∃ c : Crd, Rel (ay W W.heap.size) c.A v ∧ c.l.length ≤ 1048576 ∧ ∀ y ∈ c.l, Itm.OK 1048576 y := by
 obtain ⟨fuel, h⟩ := h
 obtain ⟨xs, n, _, hx, hl, hxl, hf⟩ := DataW.trod_struct Tryz.underlying24 h
 have hc : Tryz.prog.cellsOf 24 = 2 := by kernel_rfl
 have hci : Tryz.prog.cellsOf 3 = 1 := by kernel_rfl
 have hcl : Tryz.prog.cellsOf 22 = 1 := by kernel_rfl
 rw [hc] at hl
 have hxl : xs.length = 2 := hxl
 obtain ⟨x0, x1, rfl⟩ := lC hxl
 obtain ⟨u0, u1, hu⟩ := lC hl
 rw [hu] at hf
 have g0 : DataW.trod enc Tryz.prog W 0 spare held n 3 (([u0, u1].drop 0).take (Tryz.prog.cellsOf 3)) = some x0 := hf 0 _ rfl
 have g1 : DataW.trod enc Tryz.prog W 0 spare held n 22 (([u0, u1].drop 1).take (Tryz.prog.cellsOf 22)) = some x1 := hf 1 _ rfl
 rw [hci] at g0
 rw [hcl] at g1
 simp only [List.drop_zero, List.drop_succ_cons, List.take_succ_cons, List.take_zero] at g0 g1
 obtain rfl : d = .agg ([x0, x1].map (·.1)) := (Prod.mk.inj hx).1
 simp only [List.map_cons, List.map_nil, Rows.uptoBulk, Rows.uptoBulkAll] at hb
 obtain ⟨n0, q0, _, _⟩ := DataW.trod_int Tryz.underlying3 g0
 obtain ⟨L, r1, h1, h2⟩ := qy g1 (by omega)
 refine ⟨⟨n0, L⟩, ⟨?_, ?_⟩, h1, h2⟩
 ·rw [hu]
  obtain rfl := List.singleton_inj.1 q0
  exact ⟨_, _, rfl, rfl, _, _, rfl, aQ r1 rfl, rfl⟩
 ·cases v with
  | agg cs => rfl
  | _ => exact absurd (congrArg List.length hu) (by simp [Value.cells])
end
end
section
open Go Go.ChangeShapes Go.WideShapes
def Fs : Glo := ⟨fun R => ∃ e fz, R 0 = some (.cells (Lib.asciiSpaceTab.map fun z => Value.int .u8 z).toArray e fz), fun _ _ hle ⟨e, fz, h⟩ => ⟨e, fz, hle _ _ h⟩⟩
theorem D9 {W : World} {k : Nat} (hk : 0 < k) {laid : List (String × DataW Unit)} (hL : laidMetH Tryz.prog laid W) (hm : ("strings.asciiSpace", Rows.laid_strings_asciiSpace) ∈ laid) : Fs.p (ay W k) := by
 obtain ⟨C, e, fz, fuel, p, hW, hd⟩ := gM hL hm (by kernel_rfl) (g := 0) (t := 160) (by kernel_rfl) (by kernel_rfl)
 have e0 : (Rows.laid_strings_asciiSpace : DataW Unit) = .agg (((List.range 256).map fun i => if Lib.isSp (UInt8.ofNat i) then 1 else 0).map fun x : Nat => .lit (.int .u8 (x : Int))) := by kernel_rfl
 rw [e0] at hd
 have hc := lD (n := 256) Tryz.underlying160 Tryz.underlying5 (by kernel_rfl) (by kernel_rfl) hd (by rw [List.length_map, List.length_range])
 have e1 : C = (Lib.asciiSpaceTab.map fun z => Value.int .u8 z).toArray := by
  apply Array.ext'
  rw [hc]
  kernel_rfl
 refine ⟨e, fz, ?_⟩
 unfold ay
 rw [if_pos hk, hW, e1]
end
section
open Go Go.ChangeShapes Go.WideShapes Go.ChangeAt Go.RowKit Go.WideMaps Go.WideElems
theorem Bn {H : Type} {enc : TypeId × Value → H} {P : Program} {W : World} {base : Nat} {spare : Nat → Bool} {fuel : Nat} {t : TypeId} {ms : Array (String × TypeId)} {cs : List Value} {nm : String} {x : DataW H} {p : List MemPlace} (ht : P.underlying t = some (.interface ms)) (h : DataW.trod enc P W base spare false fuel t cs = some (.iface nm x, p)) : ∃ u v, cs = [.iface u v] := by
 cases fuel with
 | zero => simp [DataW.trod] at h
 | succ n =>
  rcases cs with _ | ⟨c, _ | ⟨c2, r⟩⟩
  ·simp [DataW.trod, ht] at h
  ·cases c with
   | iface u v => exact ⟨_, _, rfl⟩
   | _ => simp [DataW.trod, ht] at h
  ·simp [DataW.trod, ht] at h
theorem vq {W : World} {laid : List (String × DataW Unit)} (hL : laidMetH Tryz.prog laid W) {n nm : String} {x : DataW Unit} (hm : (n, .iface nm x) ∈ laid) (hn : (DataW.iface nm x).handleName?.isNone = true) {g : Nat} (hg : Tryz.prog.globalNamed n = some g) (ht : (Tryz.prog.globals[g]?).map (·.type) = some 38) : rA g (ay W W.heap.size) := by
 obtain ⟨C, e, fz, fuel, p, hW, hd⟩ := gM hL hm hn hg ht
 obtain ⟨u, v, h⟩ := Bn Tryz.underlying38 hd
 refine ⟨u, v, e, fz, ?_⟩
 unfold ay
 rw [if_pos (iS hW), hW]
 obtain ⟨l⟩ := C
 obtain rfl := h
 rfl
def EI : Glo := ⟨fun R => rA 5 R ∧ rA 6 R, fun _ _ hle ⟨⟨t, v, e, fz, h⟩, ⟨t2, v2, e2, fz2, h2⟩⟩ => ⟨⟨t, v, e, fz, hle _ _ h⟩, ⟨t2, v2, e2, fz2, hle _ _ h2⟩⟩⟩
noncomputable def mS (m : Int) : Glo := sE (Ft (utfTy ++ errTy ++ bI m ++ shapesTy)) (sE CV (sE EI Fs))
theorem xV {m : Int} : ad (mS m) utfTy := kY (jj fun x h => List.mem_append_left _ (List.mem_append_left _ (List.mem_append_left _ h)))
theorem xZ {m : Int} : ad (mS m) errTy := kY (jj fun x h => List.mem_append_left _ (List.mem_append_left _ (List.mem_append_right _ h)))
theorem xY {m : Int} : ad (mS m) (bI m) := kY (jj fun x h => List.mem_append_left _ (List.mem_append_right _ h))
theorem xW {m : Int} : ad (mS m) shapesTy := kY (jj fun x h => List.mem_append_right _ h)
theorem xX {m : Int} : co (mS m) := fun _ h => h.2.1
theorem sZ {m : Int} : ik (mS m) := fun _ h => h.2.2.1
theorem Dl {m : Int} : SpIs (mS m) := fun _ h => h.2.2.2
theorem xy {W : World} {m : Int} (hm : W.cell? ⟨4, 0, none⟩ = some (.int .i64 m)) {laid : List (String × DataW Unit)} (h0 : ("unicode/utf8.first", Rows.laid_unicode_utf8_first) ∈ laid) (h4 : ("unicode/utf8.acceptRanges", Rows.laid_unicode_utf8_acceptRanges) ∈ laid) (h1 : ("errors.errorType", Rows.laid_errors_errorType) ∈ laid)
  (h3 : ("visitingcard/visitingcardref.shapes", Rows.laid_visitingcard_visitingcardref_shapes) ∈ laid) (h2 : ("strings.asciiSpace", Rows.laid_strings_asciiSpace) ∈ laid) (h5 : ("internal/strconv.uint64pow10", Rows.laid_internal_strconv_uint64pow10) ∈ laid) (h6 : ("strconv.ErrSyntax", Rows.laid_strconv_ErrSyntax) ∈ laid) (h7 : ("strconv.ErrRange", Rows.laid_strconv_ErrRange) ∈ laid) (hL : laidMetH Tryz.prog laid W) : (mS m).p (ay W W.heap.size) := by
 refine ⟨fun x hx => ?_, Cb (nv hL h5 (by kernel_rfl) (g := 7) (t := 277) (by kernel_rfl) (by kernel_rfl)) hL h5, ⟨vq hL h6 (by kernel_rfl) (by kernel_rfl) (by kernel_rfl), vq hL h7 (by kernel_rfl) (by kernel_rfl) (by kernel_rfl)⟩, D9 (nv hL h2 (by kernel_rfl) (g := 0) (t := 160) (by kernel_rfl) (by kernel_rfl)) hL h2⟩
 simp only [List.cons_append, List.nil_append, List.mem_cons, List.not_mem_nil, or_false] at hx
 rcases hx with rfl | rfl | rfl | rfl | hx
 ·exact xE (nv hL h0 (by kernel_rfl) (g := 8) (t := 160) (by kernel_rfl) (by kernel_rfl)) hL h0
 ·exact vU (nv hL h4 (by kernel_rfl) (g := 9) (t := 297) (by kernel_rfl) (by kernel_rfl)) hL h4
 ·exact xM (GB hL h1) hL h1
 ·exact wY (EZ hm) hm
 ·obtain rfl := List.mem_singleton.1 (show x ∈ [(3, [AVal.list 3 7 rJ])] from hx)
  exact tI hL h3
end
end Go.Proofs.YtahebkecmlmlfaaGreatDoor
