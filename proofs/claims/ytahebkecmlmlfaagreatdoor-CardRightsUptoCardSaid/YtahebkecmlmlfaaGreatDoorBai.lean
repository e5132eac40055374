/- Parts of the proof of prints_root: Uri, Mx0, Shc, Spl, Spm, App, Bu, Uf, Ug, Bv, Vr, Bw, Bx, Crl. -/
import Derived.Lib.ItoaNum
import Derived.Lib.Join
import Derived.Lib.Split
import Derived.Lib.Builder
import Derived.Lib.UnsafeStr
import Derived.Scope
import Derived.Lib.IndexAny
import Derived.Test.YtahebkecmlmlfaaGreatDoorBah
import Derived.Test.YtahebkecmlmlfaaGreatDoorBae
import Derived.Test.YtahebkecmlmlfaaGreatDoorBad
set_option linter.unusedVariables false
set_option linter.unusedSimpArgs false
set_option linter.unusedSectionVars false
namespace Go.Proofs.YtahebkecmlmlfaaGreatDoor
set_option maxRecDepth 20000
set_option maxHeartbeats 4000000
section
open Go
theorem jg {c : Int} : ∀ (t : List UInt8) (k : Nat), (idxF c t k = -1 ∧ ∀ j, j < t.length → (aa t j : Int) ≠ c) ∨ ∃ m, m < t.length ∧ idxF c t k = ((k + m : Nat) : Int) ∧ (aa t m : Int) = c ∧ ∀ j, j < m → (aa t j : Int) ≠ c
 | [], _ => .inl ⟨rfl, fun j h => absurd h (Nat.not_lt_zero _)⟩
 | x :: t, k => by
  by_cases e : (x.toNat : Int) = c
  ·refine .inr ⟨0, by simp, by simp [idxF, e], by simpa [aa] using e, fun j h => absurd h (Nat.not_lt_zero _)⟩
  ·have e1 : idxF c (x :: t) k = idxF c t (k + 1) := by simp [idxF, e]
   have h0 : ∀ {p : Prop}, (∀ j, j < t.length → (aa t j : Int) ≠ c) → ∀ j, j < (x :: t).length → (aa (x :: t) j : Int) ≠ c := by
    intro _ h j hj
    cases j with
    | zero => simpa [aa] using e
    | succ j => simpa [aa] using h j (by simpa using hj)
   rcases jg (c := c) t (k + 1) with ⟨h1, h2⟩ | ⟨m, h1, h2, h3, h4⟩
   ·exact .inl ⟨by rw [e1, h1], h0 (p := True) h2⟩
   ·refine .inr ⟨m + 1, by simpa using h1, by rw [e1, h2]; omega, by simpa [aa] using h3, fun j hj => ?_⟩
    cases j with
    | zero => simpa [aa] using e
    | succ j => simpa [aa] using h4 j (by omega)
theorem sG {s : List UInt8} {c : Int} {i : Nat} (hi : i < s.length) (h : (aa s i : Int) = c) (h0 : ∀ j, j < i → (aa s j : Int) ≠ c) : idxB s c = i := by
 rcases jg (c := c) s 0 with ⟨h1, h2⟩ | ⟨m, h1, h2, h3, h4⟩
 ·exact absurd h (h2 i hi)
 ·unfold idxB
  rw [h2]
  have : m = i := by
   rcases Nat.lt_trichotomy m i with h5 | h5 | h5
   ·exact absurd h3 (h0 m h5)
   ·exact h5
   ·exact absurd h (h4 i h5)
  omega
theorem q9 {s : List UInt8} {c : Int} (h0 : ∀ j, j < s.length → (aa s j : Int) ≠ c) : idxB s c = -1 := by
 rcases jg (c := c) s 0 with ⟨h1, h2⟩ | ⟨m, h1, h2, h3, h4⟩
 ·exact h1
 ·exact absurd h3 (h0 m h1)
theorem gM (s : List UInt8) (c : Int) : (idxB s c = -1 ∧ ∀ j, j < s.length → (aa s j : Int) ≠ c) ∨ ∃ m, m < s.length ∧ idxB s c = (m : Int) ∧ (aa s m : Int) = c ∧ ∀ j, j < m → (aa s j : Int) ≠ c := by
 rcases jg (c := c) s 0 with h | ⟨m, h1, h2, h3⟩
 ·exact .inl h
 ·exact .inr ⟨m, h1, by unfold idxB; rw [h2]; omega, h3⟩
def schB (i : Nat) (c : Int) : Bool := decide ((97 ≤ c ∧ c ≤ 122) ∨ (65 ≤ c ∧ c ≤ 90) ∨ (0 < i ∧ ((48 ≤ c ∧ c ≤ 57) ∨ c = 43 ∨ c = 45 ∨ c = 46)))
theorem wy {i : Nat} {c : Int} : schB i c = true ↔ ((97 ≤ c ∧ c ≤ 122) ∨ (65 ≤ c ∧ c ≤ 90) ∨ (0 < i ∧ ((48 ≤ c ∧ c ≤ 57) ∨ c = 43 ∨ c = 45 ∨ c = 46))) := by simp [schB]
theorem FJ {i : Nat} {c : Int} : schB i c = false ↔ ¬ ((97 ≤ c ∧ c ≤ 122) ∨ (65 ≤ c ∧ c ≤ 90) ∨ (0 < i ∧ ((48 ≤ c ∧ c ≤ 57) ∨ c = 43 ∨ c = 45 ∨ c = 46))) := by simp [schB]
def begN (s : List UInt8) : Nat := if idxB s 58 < 1 then 0 else if ∀ j, j < (idxB s 58).toNat → schB j (aa s j) = true then (idxB s 58).toNat else 0
theorem EU {s : List UInt8} {i : Nat} (hi : i < s.length) (h : (aa s i : Int) = 58) (h0 : ∀ j, j < i → (aa s j : Int) ≠ 58 ∧ schB j (aa s j) = true) : begN s = i := by
 have e := sG hi h fun j hj => (h0 j hj).1
 unfold begN
 rw [e]
 by_cases h1 : (i : Int) < 1
 ·rw [if_pos h1]; omega
 ·rw [if_neg h1, if_pos (fun j hj => (h0 j (by omega)).2)]
  omega
theorem Du {s : List UInt8} {i : Nat} (hi : i < s.length) (h : (aa s i : Int) ≠ 58) (hb : schB i (aa s i) = false) (h0 : ∀ j, j < i → (aa s j : Int) ≠ 58 ∧ schB j (aa s j) = true) : begN s = 0 := by
 rcases gM s 58 with ⟨h1, _⟩ | ⟨m, h1, h2, h3, h4⟩
 ·unfold begN; rw [h1]; rfl
 ·have : i < m := by
   rcases Nat.lt_trichotomy m i with h5 | h5 | h5
   ·exact absurd h3 (h0 m h5).1
   ·subst h5; exact absurd h3 h
   ·exact h5
  unfold begN
  rw [h2]
  split
  ·rfl
  ·rw [if_neg]
   intro hh
   have := hh i (by omega)
   rw [hb] at this
   cases this
theorem AY {s : List UInt8} (h0 : ∀ j, j < s.length → (aa s j : Int) ≠ 58) : begN s = 0 := by
 unfold begN; rw [q9 h0]; rfl
theorem td {s : List UInt8} (h : begN s ≠ 0) : begN s < s.length ∧ aa s (begN s) = 58 ∧ idxB s 58 = begN s := by
 rcases gM s 58 with ⟨h1, _⟩ | ⟨m, h1, h2, h3, h4⟩
 ·unfold begN at h; rw [h1] at h; exact absurd rfl h
 ·have e : begN s = m := by
   unfold begN at *
   generalize idxB s 58 = z at *
   subst h2
   by_cases e1 : (m : Int) < 1
   ·rw [if_pos e1] at h; exact absurd rfl h
   ·rw [if_neg e1] at h ⊢
    by_cases e2 : ∀ j, j < (m : Int).toNat → schB j (aa s j) = true
    ·rw [if_pos e2]; omega
    ·rw [if_neg e2] at h; exact absurd rfl h
  rw [e]
  exact ⟨h1, by omega, h2⟩
attribute [local irreducible] AWp AOps aa ax OrOk ad ae
attribute [local irreducible] idxB begN schB
theorem wf {G : Glo} (s : List UInt8) (hl : s.length ≤ 9223372036854775807) : FnIs Tryz.prog G 150 [.str s] (.int .i64 (begN s)) := by
  have hGL : ad G [] := ab
  refine fn_x Tryz.func150 Tryz.call150 rfl rfl rfl rfl hGL ?_
  intro C hC
  refine xw1 ?_
  intros
  refine lp hC hGL (fun (i : Nat) => [(0, .str s), (6, .int .i64 s.length), (7, .int .i64 i)]) (fun _ => []) (fun i => i ≤ s.length ∧ ∀ j, j < i → (aa s j : Int) ≠ 58 ∧ schB j (aa s j) = true) (fun i => s.length - i) 0 ?_ ai rfl ?_
  · exact ⟨Nat.zero_le _, by intro j hj; omega⟩
  rintro i ⟨hi, hb0⟩
  refine xw ?_
  repeat' (first | exact Le.n | refine Lc.mk ?_ ?_)
  all_goals intros
  all_goals first
    | (apply aj; refine congrArg (AVal.int .i64) ?_; rw [EU (i := i) (by omega) (by omega) hb0]; first | done | rfl)
    | (apply aj; refine congrArg (AVal.int .i64) ?_; rw [Du (i := i) (by omega) (by omega) (FJ.2 (by omega)) hb0]; first | done | rfl)
    | (apply aj; refine congrArg (AVal.int .i64) ?_; rw [AY (fun j hj => (hb0 j (by omega)).1)]; first | done | rfl)
    | (refine nxt (i + 1) ?_ ?_ ai rfl
       · exact ⟨by omega, bF hb0 ⟨by omega, wy.2 (by omega)⟩⟩
       · omega)
def schE (s : List UInt8) : Int := if begN s = 0 then 8 else 0
def kb (c : Int) : Bool := decide (33 ≤ c ∧ c ≤ 126)
theorem pd {c : Int} : kb c = true ↔ (33 ≤ c ∧ c ≤ 126) := by simp [kb]
theorem CQ {c : Int} : kb c = false ↔ ¬ (33 ≤ c ∧ c ≤ 126) := by simp [kb]
def fstG (f : Int → Bool) : List UInt8 → Nat → Int
 | [], _ => -1
 | x :: t, k => if f (x.toNat : Int) then k else fstG f t (k + 1)
def fstB (f : Int → Bool) (s : List UInt8) : Int := fstG f s 0
theorem jl {f : Int → Bool} : ∀ (t : List UInt8) (k : Nat), (fstG f t k = -1 ∧ ∀ j, j < t.length → f (aa t j : Int) = false) ∨ ∃ m, m < t.length ∧ fstG f t k = ((k + m : Nat) : Int) ∧ f (aa t m : Int) = true ∧ ∀ j, j < m → f (aa t j : Int) = false
 | [], _ => .inl ⟨rfl, fun j h => absurd h (Nat.not_lt_zero _)⟩
 | x :: t, k => by
  by_cases e : f (x.toNat : Int) = true
  ·refine .inr ⟨0, by simp, by simp [fstG, e], by simpa [aa] using e, fun j h => absurd h (Nat.not_lt_zero _)⟩
  ·have e1 : fstG f (x :: t) k = fstG f t (k + 1) := by simp [fstG, e]
   rcases jl (f := f) t (k + 1) with ⟨h1, h2⟩ | ⟨m, h1, h2, h3, h4⟩
   ·refine .inl ⟨by rw [e1, h1], fun j hj => ?_⟩
    cases j with
    | zero => simpa [aa] using e
    | succ j => simpa [aa] using h2 j (by simpa using hj)
   ·refine .inr ⟨m + 1, by simpa using h1, by rw [e1, h2]; omega, by simpa [aa] using h3, fun j hj => ?_⟩
    cases j with
    | zero => simpa [aa] using e
    | succ j => simpa [aa] using h4 j (by omega)
theorem gP {f : Int → Bool} {s : List UInt8} {i : Nat} (hi : i < s.length) (h : f (aa s i : Int) = true) (h0 : ∀ j, j < i → f (aa s j : Int) = false) : fstB f s = i := by
 rcases jl (f := f) s 0 with ⟨h1, h2⟩ | ⟨m, h1, h2, h3, h4⟩
 ·rw [h2 i hi] at h; cases h
 ·unfold fstB
  rw [h2]
  have : m = i := by
   rcases Nat.lt_trichotomy m i with h5 | h5 | h5
   ·rw [h0 m h5] at h3; cases h3
   ·exact h5
   ·rw [h4 i h5] at h; cases h
  omega
theorem dH {f : Int → Bool} {s : List UInt8} (h0 : ∀ j, j < s.length → f (aa s j : Int) = false) : fstB f s = -1 := by
 rcases jl (f := f) s 0 with ⟨h1, h2⟩ | ⟨m, h1, h2, h3, h4⟩
 ·exact h1
 ·rw [h0 m h1] at h3; cases h3
theorem gO (f : Int → Bool) (s : List UInt8) : (fstB f s = -1 ∧ ∀ j, j < s.length → f (aa s j : Int) = false) ∨ ∃ m, m < s.length ∧ fstB f s = (m : Int) ∧ f (aa s m : Int) = true ∧ ∀ j, j < m → f (aa s j : Int) = false := by
 rcases jl (f := f) s 0 with h | ⟨m, h1, h2, h3⟩
 ·exact .inl h
 ·exact .inr ⟨m, h1, by unfold fstB; rw [h2]; omega, h3⟩
attribute [local irreducible] kb fstB
theorem iw {G : Glo} (s : List UInt8) (f : Nat) (p : Int → Bool) (hl : s.length ≤ 9223372036854775807) (hp : ∀ c : Nat, c < 256 → FnIs Tryz.prog G f [.int .u8 (c : Int)] (.bool (p c))) : FnIs Tryz.prog G 95 [.str s, .func (.func f) [] []] (.int .i64 (fstB p s)) := by
 have hGL : ad G [] := ab
 refine fn_x Tryz.func95 Tryz.call95 rfl rfl rfl rfl hGL ?_
 intro C hC
 repeat' (first | (conv => whnf); first | refine .w ?_ | refine .v ?_ | refine sc_c ?_ ?_ <;> (intro hb; try exact dd hb) | apply an | apply az | (apply sc_i <;> intro hb) | (apply bx_i; intro hbd) | (apply ar; first | fail) | (apply ap (i := 0) rfl; first | fail) | (apply ab_i; intro bl) | (apply as_i; intro va vk vc hva) | (apply av_i; intro v) | (apply ac_i; intro bl cap hcap) | apply bo_l | (apply nx_i <;> intro hnx) | exact rt_w | apply dw_q mixed hC hGL (by kernel_rfl) | (apply cq; assumption; (first | fail); exact rfl))
 all_goals try conv => whnf
 refine lp hC hGL (fun (i : Nat) => [(1, .func (.func f) [] []), (8, .own 0 (.slice (some ⟨bl, 0, none⟩) s.length cap)), (9, .int .i64 s.length), (10, .int .i64 i)]) (fun _ => [.buf bl s cap]) (fun i => i ≤ s.length ∧ ∀ j, j < i → p (aa s j : Int) = false) (fun i => s.length - i) 0 ?_ ai rfl ?_
 ·exact ⟨Nat.zero_le _, by intro j hj; omega⟩
 rintro i ⟨hi, hb0⟩
 repeat' (first | (conv => whnf); first | refine .w ?_ | refine .v ?_ | refine sc_c ?_ ?_ <;> (intro hb; try exact dd hb) | apply an | apply az | (apply sc_i <;> intro hb) | (apply bx_i; intro hbd) | (apply ar; first | exact hp _ (by omega)) | (apply ap (i := 0) rfl; first | exact hp _ (by omega)) | (apply ab_i; intro bl) | (apply as_i; intro va vk vc hva) | (apply av_i; intro v) | (apply ac_i; intro bl cap hcap) | apply bo_l | (apply nx_i <;> intro hnx) | exact rt_w | apply dw_q mixed hC hGL (by kernel_rfl) | (apply cq; assumption; (first | exact hp _ (by omega)); exact rfl))
 all_goals try conv => whnf
 ·apply aj
  rw [gP (i := i) (by omega) hb hb0]
 ·refine nxt (i + 1) ?_ ?_ ai rfl
  ·exact ⟨by omega, bF hb0 hb⟩
  ·omega
 ·apply aj
  rw [dH (fun j hj => hb0 j (by omega))]
  rfl
theorem uY {c : Int} (h0 : 0 ≤ c) (h1 : c ≤ 255) : decide (idxB ((abcU ++ abcL) ++ []) c < 0) = !schB 0 c := by
 have := gt (p := fun c => decide (idxB ((abcU ++ abcL) ++ []) c < 0) == !schB 0 c) (by decide +kernel) h0 h1
 simpa using this
def schD : List UInt8 := [48, 49, 50, 51, 52, 53, 54, 55, 56, 57, 43, 45, 46]
theorem uX {c : Int} (h0 : 0 ≤ c) (h1 : c ≤ 255) : decide (idxB ((abcU ++ abcL) ++ schD) c < 0) = !schB 1 c := by
 have := gt (p := fun c => decide (idxB ((abcU ++ abcL) ++ schD) c < 0) == !schB 1 c) (by decide +kernel) h0 h1
 simpa using this
theorem qy {i : Nat} {c : Int} (h : i = 0) : schB i c = schB 0 c := by rw [h]
theorem qz {i : Nat} {c : Int} (h : 0 < i) : schB i c = schB 1 c := by
 rw [Bool.eq_iff_iff, wy, wy]; omega
theorem Dv {s : List UInt8} {m : Nat} (hm : idxB s 58 = m) (h1 : 0 < m) (h : ∀ j, j < m → schB j (aa s j) = true) : begN s = m := by
 unfold begN
 rw [hm, if_neg (by omega), if_pos (fun j hj => h j (by omega))]
 omega
theorem Dt {s : List UInt8} {m : Nat} (hm : idxB s 58 = m) {i : Nat} (hi : i < m) (h : schB i (aa s i) = false) : begN s = 0 := by
 unfold begN
 rw [hm]
 split
 ·rfl
 ·rw [if_neg]
  intro hh
  have := hh i (by omega)
  rw [h] at this
  cases this
theorem wQ {G : Glo} (s : List UInt8) (hl : s.length ≤ 9223372036854775807) : FnIs Tryz.prog G 140 [.str s] (.tuple [.str (s.take (begN s)), .int .i64 (schE s)]) := by
 have hGL : ad G [] := ab
 refine fn_x Tryz.func140 Tryz.call140 rfl rfl rfl rfl hGL ?_
 intro C hC
 have hI := aL (G := G) s 58 (by decide) (by decide)
 have hT := fo (G := G)
 have hJ0 := fun c h0 h1 => aL (G := G) ((abcU ++ abcL) ++ []) c h0 h1
 have hJ1 := fun c h0 h1 => aL (G := G) ((abcU ++ abcL) ++ schD) c h0 h1
 have hle : idxB s 58 < s.length := by
  rcases gM s 58 with ⟨h1, _⟩ | ⟨m, h1, h2, _⟩ <;> omega
 repeat' (first | (conv => whnf); first | refine .w ?_ | refine .v ?_ | refine sc_c ?_ ?_ <;> (intro hb; try exact dd hb) | apply an | apply az | (apply sc_i <;> intro hb) | (apply bx_i; intro hbd) | (apply ar; first | exact hI) | (apply ap (i := 0) rfl; first | exact hI) | (apply ab_i; intro bl) | (apply as_i; intro va vk vc hva) | (apply av_i; intro v) | (apply ac_i; intro bl cap hcap) | apply bo_l | (apply nx_i <;> intro hnx) | exact rt_w | apply dw_q mixed hC hGL (by kernel_rfl) | (apply cq; assumption; (first | exact hI); exact rfl))
 all_goals try conv => whnf
 ·apply aj
  have e : begN s = 0 := by unfold begN; rw [if_pos (by omega)]
  rw [schE, if_pos e, e]
  rfl
 have hm0 : ∃ m : Nat, idxB s 58 = m ∧ 0 < m ∧ m < s.length := ⟨(idxB s 58).toNat, by omega, by omega, by omega⟩
 obtain ⟨m, hm, hm1, hm2⟩ := hm0
 have hA := Dv hm hm1
 have hN := fun i hi h => Dt (i := i) hm hi h
 have hbt := fun j (hj : j < m) => fE (s := s) hj
 rw [hm] at *
 rw [show (m : Int).toNat = m from rfl] at *
 have ht : (s.take m).length = m := by rw [List.length_take]; omega
 rw [ht] at *
 refine lp hC hGL (fun (i : Nat) => [(0, .str s), (4, .int .i64 m), (15, .own 0 (.slice (some ⟨bl, 0, none⟩) m cap)), (16, .int .i64 m), (17, .int .i64 i)]) (fun _ => [.buf bl (s.take m) cap]) (fun i => i ≤ m ∧ ∀ j, j < i → schB j (aa s j) = true) (fun i => m - i) 0 ?_ ai rfl ?_
 ·exact ⟨Nat.zero_le _, by intro j hj; omega⟩
 rintro i ⟨hi, hb0⟩
 repeat' (first | (conv => whnf); first | refine .w ?_ | refine .v ?_ | refine sc_c ?_ ?_ <;> (intro hb; try exact dd hb) | apply an | apply az | (apply sc_i <;> intro hb) | (apply bx_i; intro hbd) | (apply ar; first | exact hT | (exact hJ0 _ (by omega) (by omega)) | (exact hJ1 _ (by omega) (by omega))) | (apply ap (i := 0) rfl; first | exact hT | (exact hJ0 _ (by omega) (by omega)) | (exact hJ1 _ (by omega) (by omega))) | (apply ab_i; intro bl) | (apply as_i; intro va vk vc hva) | (apply av_i; intro v) | (apply ac_i; intro bl cap hcap) | apply bo_l | (apply nx_i <;> intro hnx) | exact rt_w | apply dw_q mixed hC hGL (by kernel_rfl) | (apply cq; assumption; (first | exact hT | (exact hJ0 _ (by omega) (by omega)) | (exact hJ1 _ (by omega) (by omega))); exact rfl))
 all_goals try conv => whnf
 ·apply aj
  have hx := uY (c := (aa (s.take m) i : Int)) (by omega) (by omega)
  rw [decide_eq_true hb, hbt i (by omega)] at hx
  have e := hN i (by omega) (by rw [qy (by omega)]; simpa using hx.symm)
  rw [schE, if_pos e, e]
  rfl
 ·have hx := uY (c := (aa (s.take m) i : Int)) (by omega) (by omega)
  rw [decide_eq_false (by omega), hbt i (by omega)] at hx
  refine nxt (i + 1) ?_ ?_ ai rfl
  ·exact ⟨by omega, bF hb0 (by rw [qy (by omega)]; simpa using hx.symm)⟩
  ·omega
 ·apply aj
  have hx := uX (c := (aa (s.take m) i : Int)) (by omega) (by omega)
  rw [decide_eq_true hb, hbt i (by omega)] at hx
  have e := hN i (by omega) (by rw [qz (by omega)]; simpa using hx.symm)
  rw [schE, if_pos e, e]
  rfl
 ·have hx := uX (c := (aa (s.take m) i : Int)) (by omega) (by omega)
  rw [decide_eq_false (by omega), hbt i (by omega)] at hx
  refine nxt (i + 1) ?_ ?_ ai rfl
  ·exact ⟨by omega, bF hb0 (by rw [qz (by omega)]; simpa using hx.symm)⟩
  ·omega
 ·apply aj
  have e := hA (fun j hj => hb0 j (by omega))
  rw [schE, if_neg (by omega), e]
  rfl
def cx (c : Int) : Bool := !kb c
theorem oJ {c : Int} : cx c = true ↔ ¬ (33 ≤ c ∧ c ≤ 126) := by simp [cx, pd, CQ]
theorem oK {c : Int} : cx c = false ↔ (33 ≤ c ∧ c ≤ 126) := by simp [cx, pd]
def uriE (s : List UInt8) : Err := if begN s = 0 then .errno 8 else if 0 ≤ fstB cx s then .at 3 (fstB cx s) else if begN s + 1 = s.length then .at 7 s.length else .none
attribute [local irreducible] cx
theorem zH {G : Glo} (s : List UInt8) (hl : s.length ≤ 9223372036854775807) : FnIs Tryz.prog G 106 [.str s] (uriE s).A := by
 have hGL : ad G [] := ab
 refine fn_x Tryz.func106 Tryz.call106 rfl rfl rfl rfl hGL ?_
 intro C hC
 have hb0 := wf (G := G) s hl
 have hlt : begN s ≠ 0 → begN s < s.length := fun h => (td h).1
 refine xw ?_
 repeat' (first | exact Le.n | refine Lc.mk ?_ ?_)
 all_goals intros
 ·apply aj
  rw [uriE, if_pos (by omega)]
  rfl
 refine lp hC hGL (fun (i : Nat) => [(0, .str s), (3, .int .i64 (begN s)), (11, .int .i64 s.length), (12, .int .i64 i)]) (fun _ => []) (fun i => i ≤ s.length ∧ ∀ j, j < i → cx (aa s j) = false) (fun i => s.length - i) 0 ?_ ai rfl ?_
 ·exact ⟨Nat.zero_le _, by intro j hj; omega⟩
 rintro i ⟨hi, hg0⟩
 refine xw ?_
 repeat' (first | exact Le.n | refine Lc.mk ?_ ?_)
 all_goals intros
 ·apply aj
  rw [uriE, if_neg (by omega), gP (i := i) (by omega) (oJ.2 (by omega)) hg0, if_pos (by omega)]
  rfl
 ·apply aj
  rw [uriE, if_neg (by omega), gP (i := i) (by omega) (oJ.2 (by omega)) hg0, if_pos (by omega)]
  rfl
 ·refine nxt (i + 1) ?_ ?_ ai rfl
  ·exact ⟨by omega, bF hg0 (oK.2 (by omega))⟩
  ·omega
 ·apply aj
  rw [uriE, if_neg (by omega), dH (fun j hj => hg0 j (by omega)), if_neg (by omega), if_pos (by omega)]
  rfl
 ·apply aj
  rw [uriE, if_neg (by omega), dH (fun j hj => hg0 j (by omega)), if_neg (by omega), if_neg (by omega)]
  rfl
theorem Ag {G : Glo} (c : Int) (h0 : 0 ≤ c) (h1 : c ≤ 255) : FnIs Tryz.prog G 142 [.int .u8 c] (.bool (kb c)) := by
 have hGL : ad G [] := ab
 refine fn_x Tryz.func142 Tryz.call142 rfl rfl rfl rfl hGL ?_
 intro C hC
 have hw := cr (G := G) c 33 126
 refine xw1 ?_
 intros
 apply aj
 refine congrArg AVal.bool ?_
 rw [Bool.eq_iff_iff, pd]
 simp
theorem sg {G : Glo} (c : Int) (h0 : 0 ≤ c) (h1 : c ≤ 255) : FnIs Tryz.prog G 141 [.int .u8 c] (.bool (cx c)) := by
 have hGL : ad G [] := ab
 refine fn_x Tryz.func141 Tryz.call141 rfl rfl rfl rfl hGL ?_
 intro C hC
 have hw := Ag (G := G) c h0 h1
 refine xw1 ?_
 intros
 apply aj
 unfold cx
 rfl
theorem si {G : Glo} (s : List UInt8) (hl : s.length ≤ 9223372036854775807) : FnIs Tryz.prog G 87 [.str s] (.agg [.int .i64 (uriE s).e, .int .i64 (uriE s).p]) := by
 have hGL : ad G [] := ab
 refine fn_x Tryz.func87 Tryz.call87 rfl rfl rfl rfl hGL ?_
 intro C hC
 have h1 := wQ (G := G) s hl
 have h2 := iw (G := G) s 141 cx hl (fun c hc => sg (G := G) c (by omega) (by omega))
 have h3 := dj (G := G)
 have h4 := di (G := G)
 have hn : schE s = 0 → begN s < s.length ∧ begN s ≠ 0 := fun h => by
  unfold schE at h
  split at h
  ·cases h
  ·exact ⟨(td (by assumption)).1, by assumption⟩
 have hln : schE s = 0 → (s.take (begN s)).length = begN s := fun h => by
  have := (hn h).1
  rw [List.length_take]; omega
 have hs58 : schE s = 0 → (s = s.take (begN s) ++ [58] ↔ begN s + 1 = s.length) := fun h => by
  have h1 := hn h
  have h2 := hln h
  have h3 := (td h1.2).2.1
  constructor
  ·intro e
   have := congrArg List.length e
   rw [List.length_append, h2] at this
   simpa using this.symm
  ·intro e
   refine List.ext_getElem (by rw [List.length_append, h2]; simpa using e.symm) (fun j j1 j2 => ?_)
   by_cases hj : j < begN s
   ·rw [List.getElem_append_left (by omega), List.getElem_take]
   ·rw [List.getElem_append_right (by omega)]
    have ej : j = begN s := by omega
    subst ej
    rw [bm (by omega)] at h3
    have : s[begN s] = 58 := UInt8.toNat_inj.1 (by simpa using h3)
    simp [h2, this]
 repeat' (first | (conv => whnf); first | refine .w ?_ | refine .v ?_ | refine sc_c ?_ ?_ <;> (intro hb; try exact dd hb) | apply an | apply az | (apply sc_i <;> intro hb) | (apply bx_i; intro hbd) | (apply ar; first | exact h1 | exact h2 | exact h3 _ | exact h4) | (apply ap (i := 0) rfl; first | exact h1 | exact h2 | exact h3 _ | exact h4) | (apply ab_i; intro bl) | (apply as_i; intro va vk vc hva) | (apply av_i; intro v) | (apply ac_i; intro bl cap hcap) | apply bo_l | (apply nx_i <;> intro hnx) | exact rt_w | apply dw_q mixed hC hGL (by kernel_rfl) | (apply cq; assumption; (first | exact h1 | exact h2 | exact h3 _ | exact h4); exact rfl))
 all_goals try conv => whnf
 ·apply aj
  have e : begN s = 0 := by unfold schE at hb; split at hb; assumption; exact absurd rfl hb
  rw [uriE, schE, if_pos e, if_pos e]
  rfl
 ·apply aj
  rw [uriE, if_neg (hn (by assumption)).2, if_pos (by omega)]
  rfl
 ·apply aj
  rw [uriE, if_neg (hn (by assumption)).2, if_neg (by omega), if_pos ((hs58 (by assumption)).1 hb)]
  rfl
 ·apply aj
  rw [uriE, if_neg (hn (by assumption)).2, if_neg (by omega), if_neg (fun h => hb ((hs58 (by assumption)).2 h))]
  rfl
end
section
open Go Go.RowKit
noncomputable abbrev bI (m : Int) : List (Nat × List AVal) := [(4, [.int .i64 m])]
theorem oN {G : Glo} {m : Int} (hU : ad G (bI m)) {R : Seal} {w : World} (hG : G.p R) (hs : cH R w) : w.cell? ⟨4, 0, none⟩ = some (.int .i64 m) := by
 obtain ⟨v, hc, hr⟩ := bY.cell hs (hU 4 [.int .i64 m] rfl R hG) (i := 0) rfl
 have hr : [v] = [Value.int .i64 m] := hr
 rw [(List.cons.inj hr).1] at hc
 exact hc
def co (G : Glo) : Prop := ∀ R, G.p R → ∃ e fz, R 7 = some (.cells (Lib.pow10Tab.map fun z => Value.int .u64 z).toArray e fz)
end
section
open Go Go.RowKit
theorem MS.below {C : Ctx} {R : Seal} {H : Heap} {w w' : World} (h : MS C R H w) (hb : Below w.heap.size w w') : MS C R H w' := by
 have hlt : ∀ {b : Nat} {o : Obj}, w.heap[b]? = some o → b < w.heap.size := fun {b o} h1 => by
  rcases Nat.lt_or_ge b w.heap.size with h | h
  ·exact h
  ·rw [Array.getElem?_eq_none h] at h1; cases h1
 refine ⟨fun b o ho => ?_, h.ge, h.fresh, ⟨fun x hx => ?_, h.heap.nodup, h.heap.apart⟩, h.own, ?_⟩
 ·have h1 := h.sealed b o ho
  rw [hb.block b (hlt h1), h1]
 ·exact HEnt.holds_mono (h.heap.holds x hx) (Seal.le_refl R) (fun b hbk => hb.block b (HEnt.blk_lt (h.heap.holds x hx) hbk))
 ·exact ⟨hb.os.trans h.ext.os, hb.tape.trans h.ext.tape, hb.output.trans h.ext.output, Nat.le_trans h.ext.size hb.size, fun b hlt hn => by
   rw [hb.block b (Nat.lt_of_lt_of_le hlt h.ext.size)]; exact h.ext.block b hlt hn⟩
theorem nh {P : Program} {G : Glo} {f : FuncId} {avs : List AVal} {H : Heap} {v : AVal} (u : Value) (hu : ∀ R, Rel R v u) (hc : ∀ args w, (callFunc f args).run P w = .ok (.enter f args) w)
  (h : ∀ C R args, RelV R avs args.toList → ∀ w, G.p R → MS C R H w → Calls P f args w fun e w' => e = .returned u ∧ Below w.heap.size w w') : ae P G f avs H (fun r H' => r = .ret v ∧ H' = H) := by
 intro R w args hG hm ha
 refine .inl ⟨hc args w, (h _ R args ha w hG hm).mono ?_⟩
 rintro e w' ⟨rfl, hb⟩
 exact ⟨.ret v, H, R, ⟨rfl, rfl⟩, ⟨_, rfl, hu R⟩, hm.below hb⟩
def aN (l : List (List UInt8)) : List AVal := l.map .str
def aF (l : List (List UInt8)) (i : Nat) : AVal := .str (l.getD i [])
theorem ks (l : List (List UInt8)) : ∀ i, i < l.length → (aF l i).cells = ((aN l).drop (i * 1)).take 1 ∧ (aF l i).plain = true := by
 intro i hi
 refine ⟨?_, rfl⟩
 have : i < (aN l).length := by simpa [aN] using hi
 rw [Nat.mul_one, List.drop_eq_getElem_cons this]
 simp [aF, AVal.cells, aN, List.getD, hi]
theorem bS (l : List (List UInt8)) (s : List UInt8) : aN l ++ [.str s] = aN (l ++ [s]) := by simp [aN]
theorem qv (l : List (List UInt8)) : (aN l).length = l.length := by simp [aN]
def baS (l : List (List UInt8)) : List ByteArray := l.map fun s => ⟨s.toArray⟩
theorem vR (l : List (List UInt8)) : (baS l).map (·.data.toList) = l := by
 unfold baS
 rw [List.map_map]
 refine (List.map_congr_left (g := id) fun x _ => ?_).trans (List.map_id l)
 simp
theorem nG (l : List (List UInt8)) : (baS l).length = l.length := by simp [baS]
theorem jD {R : Seal} : ∀ {l : List (List UInt8)} {vs : List Value}, RelL R (aN l) vs → vs = l.map fun s => Value.string ⟨s.toArray⟩
 | [], _, h => h
 | s :: l, _, h => by
  obtain ⟨v, t, rfl, h1, h2⟩ := h
  have h1 : [v] = [.string ⟨s.toArray⟩] := h1
  rw [List.cons.injEq] at h1
  rw [jD h2, h1.1]
  rfl
theorem zL {R : Seal} {w : World} {bl o : Nat} {Cs : Array Value} {e : TypeId} {fz : Nat × Nat} {l : List (List UInt8)} (hb : w.heap[bl]? = some (.cells Cs e fz)) (hl : RelL R (aN l) ((Cs.toList.drop o).take l.length)) :
  ∀ (j : Nat) x, (baS l)[j]? = some x → w.cell? ⟨bl, o + j, none⟩ = some (.string x) := by
 intro j x hx
 have hj : j < l.length := by have := (List.getElem?_eq_some_iff.1 hx).1; rwa [nG] at this
 have := jD hl
 simp only [World.cell?, hb]
 have h2 : ((Cs.toList.drop o).take l.length)[j]? = (l.map fun s => Value.string ⟨s.toArray⟩)[j]? := by rw [this]
 rw [List.getElem?_take_of_lt hj, List.getElem?_drop] at h2
 have hx : x = ⟨(l[j]).toArray⟩ := by
  unfold baS at hx
  rw [List.getElem?_map, List.getElem?_eq_getElem hj] at hx
  simpa using hx.symm
 rw [hx]
 simpa [List.getElem?_eq_getElem hj] using h2
theorem Am {R : Seal} {w : World} (hs : cH R w) {l : List (List UInt8)} {v : Value} (h : Rel R (.list 1 l.length (aF l)) v) : ∃ a cap, v = .slice a l.length cap ∧ l.length ≤ cap ∧ (l = [] ∨ ∃ b o C e fz, a = some ⟨b, o, none⟩ ∧ w.heap[b]? = some (.cells C e fz) ∧ RelL R (aN l) ((C.toList.drop o).take l.length)) := by
 obtain ⟨a, cap, e1, hle, h7⟩ := aP h rfl
 simp only [List.cons.injEq, and_true] at e1
 refine ⟨a, cap, e1, hle, ?_⟩
 rcases h7 with h7 | ⟨b, o, C, e, fz, ha, hR, hall⟩
 ·exact .inl (List.eq_nil_of_length_eq_zero h7)
 ·refine .inr ⟨b, o, C, e, fz, ha, hs _ _ hR, ?_⟩
  have key : ∀ (m : Nat) (l' : List (List UInt8)) (o' : Nat), l'.length = m → (∀ i, i < m → RelC R (aF l' i) ((C.toList.drop (o' + i * 1)).take 1)) → RelL R (aN l') ((C.toList.drop o').take m) := by
   intro m
   induction m with
   | zero => intro l' o' hl _; rw [List.eq_nil_of_length_eq_zero hl]; simp [aN, RelL]
   | succ m ih =>
    intro l' o' hl hi
    match l', hl with
    | s :: t, hl =>
     have h0 := hi 0 (by omega)
     have h0 : (C.toList.drop (o' + 0 * 1)).take 1 = [.string ⟨s.toArray⟩] := h0
     rw [Nat.zero_mul, Nat.add_zero] at h0
     have hlt : o' < C.toList.length := by
      rcases Nat.lt_or_ge o' C.toList.length with h | h
      ·exact h
      ·rw [List.drop_eq_nil_of_le h] at h0; cases h0
     rw [List.drop_eq_getElem_cons hlt] at h0 ⊢
     simp only [List.take_succ_cons, List.take_zero, List.cons.injEq, and_true] at h0
     rw [List.take_succ_cons, h0]
     refine ⟨_, _, rfl, rfl, ih t (o' + 1) (by simpa using hl) (fun i h => ?_)⟩
     have := hi (i + 1) (by omega)
     rw [show o' + (i + 1) * 1 = o' + 1 + i * 1 by omega] at this
     exact this
  exact key _ l o rfl hall
theorem o5 {l : List (List UInt8)} {sep : List UInt8} {w : World} {b o cap : Nat} {C : Array Value} {e : TypeId} {fz : Nat × Nat} {R : Seal} (hb : w.heap[b]? = some (.cells C e fz)) (hl : RelL R (aN l) ((C.toList.drop o).take l.length)) (hcap : l.length ≤ cap) (hN : l.length ≤ 140737488355328) (hlen : (Lib.join l sep).length ≤ 140737488355328) :
  Calls Tryz.prog 71 #[.slice (some ⟨b, o, none⟩) l.length cap, .string ⟨sep.toArray⟩] w fun e w' => e = .returned (.string ⟨(Lib.join l sep).toArray⟩) ∧ Below w.heap.size w w' := by
 have hlt : b < w.heap.size := by
  rcases Nat.lt_or_ge b w.heap.size with h | h
  ·exact h
  ·rw [Array.getElem?_eq_none h] at hb; cases hb
 have := Tryz.strings_Join b o cap (baS l) ⟨sep.toArray⟩ w (zL hb hl) hlt (by rw [nG]; exact hN) (by rw [nG]; exact hcap) (by rw [vR]; simpa using hlen)
 rw [nG, vR] at this
 simpa using this
theorem qX {sep : List UInt8} {w : World} {a : Option Addr} {cap : Nat} : Calls Tryz.prog 71 #[.slice a 0 cap, .string ⟨sep.toArray⟩] w fun e w' => e = .returned (.string ⟨#[]⟩) ∧ Below w.heap.size w w' := by
 refine (Tryz.strings_Join_none a cap ⟨sep.toArray⟩ w).mono ?_
 rintro e w' ⟨rfl, rfl⟩
 exact ⟨rfl, Below.refl _ _⟩
theorem bP {G : Glo} {eT : Option TypeId} (l : List (List UInt8)) (sep : List UInt8) (v : Value) (hN : l.length ≤ 140737488355328) (hlen : (Lib.join l sep).length ≤ 140737488355328) :
  ae Tryz.prog G 71 [.raw v, .str sep] [.row v eT 1 l.length (aN l)] (fun r H => r = .ret (.str (Lib.join l sep)) ∧ H = [.row v eT 1 l.length (aN l)]) := by
 refine nh (.string ⟨(Lib.join l sep).toArray⟩) (fun R => aB.2 rfl) Tryz.call71 ?_
 rintro C R args ⟨x, t, e, hx, y, t', e', hy, rfl⟩ w hG hm
 obtain rfl := ao.1 hx
 obtain rfl := aB.1 hy
 subst e'
 obtain rfl := dK e
 obtain ⟨hlen', hx'⟩ := hm.heap.holds _ (List.mem_singleton.2 rfl)
 rcases hx' with ⟨rfl, h0⟩ | ⟨bl, cap, Cs, el, fz, rfl, hb, hcs, hnc, hl, hfz⟩
 ·have : l = [] := List.eq_nil_of_length_eq_zero h0
  subst this
  exact qX
 ·exact o5 (o := 0) hb (by simpa using hl) hnc hN hlen
theorem strings_Join {G : Glo} (l : List (List UInt8)) (sep : List UInt8) (hN : l.length ≤ 140737488355328) (hlen : (Lib.join l sep).length ≤ 140737488355328) :
  FnIs Tryz.prog G 71 [.list 1 l.length (aF l), .str sep] (.str (Lib.join l sep)) := by
 refine bi rfl Tryz.call71 ?_
 rintro R args ⟨x, t, e, hx, y, t', e', hy, rfl⟩ w hG hs
 obtain rfl := aB.1 hy
 subst e'
 obtain ⟨a, cap, rfl, hcap, h7⟩ := Am hs hx
 obtain rfl := dK e
 rcases h7 with rfl | ⟨b, o, C, e, fz, rfl, hb, hl⟩
 ·exact qX
 ·exact o5 hb hl hcap hN hlen
end
section
open Go Go.RowKit
def splS (c : UInt8) : List UInt8 → List (List UInt8)
 | [] => [[]]
 | x :: t => if x = c then [] :: splS c t else match splS c t with
  | [] => [[x]]
  | p :: ps => (x :: p) :: ps
theorem kx (c : UInt8) : ∀ s : List UInt8, splS c s ≠ []
 | [] => by simp [splS]
 | x :: t => by
  unfold splS
  split
  ·simp
  ·split <;> simp
theorem xr (c : UInt8) : Lib.index [] [c] = -1 := rfl
theorem xt {x c : UInt8} {t : List UInt8} (h : x = c) : Lib.index (x :: t) [c] = 0 := by
 subst h
 simp [Lib.index, List.isPrefixOf]
theorem uW {x c : UInt8} {t : List UInt8} (h : x ≠ c) : Lib.index (x :: t) [c] = if Lib.index t [c] == -1 then -1 else Lib.index t [c] + 1 := by
 have : (c == x) = false := by simpa using Ne.symm h
 simp [Lib.index, List.isPrefixOf, this]
theorem gz {sep s : List UInt8} {k i : Nat} (h : Lib.index s sep = i) : Lib.splitK sep 0 (k + 1) s = s.take i :: Lib.splitK sep 0 k (s.drop (i + sep.length)) := by
 have hm : ¬ (Lib.index s sep == -1) = true := fun e => by have := beq_iff_eq.1 e; omega
 rw [Lib.splitK, if_neg hm, h]
 simp
theorem gy (c : UInt8) : ∀ s : List UInt8, Lib.splitK [c] 0 (Lib.count s [c]) s = splS c s
 | [] => by rw [Lib.count_miss (xr c)]; rfl
 | x :: t => by
  have ih := gy c t
  by_cases hx : x = c
  ·have h0 : Lib.index (x :: t) [c] = (0 : Nat) := xt hx
   rw [Lib.count_hit (by simp) h0, Nat.add_comm, gz h0]
   simp only [List.take_zero, List.length_cons, List.length_nil, Nat.zero_add, List.drop_succ_cons, List.drop_zero]
   rw [ih, splS, if_pos hx]
  ·have h1 := uW (t := t) hx
   rcases Lib.index_spec t [c] with ⟨h2, _⟩ | ⟨i, h2, _⟩
   ·rw [h2] at h1
    have h1 : Lib.index (x :: t) [c] = -1 := by simpa using h1
    rw [Lib.count_miss h2] at ih
    rw [Lib.count_miss h1, splS, if_neg hx, ← ih]
    rfl
   ·have hne : ¬ ((i : Int) == -1) = true := fun e => by have := beq_iff_eq.1 e; omega
    rw [h2, if_neg hne] at h1
    have h1 : Lib.index (x :: t) [c] = ((i + 1 : Nat) : Int) := by rw [h1]; omega
    rw [Lib.count_hit (by simp) h2, Nat.add_comm, gz h2] at ih
    rw [Lib.count_hit (by simp) h1, Nat.add_comm, gz h1, splS, if_neg hx, ← ih]
    rfl
theorem iI {P : Program} {G : Glo} {f : FuncId} {avs : List AVal} {H : Heap} {sz m : Nat} {cs : List AVal} {T : TypeId} (hc : ∀ args w, (callFunc f args).run P w = .ok (.enter f args) w)
  (hlen : cs.length = m * sz)
  (h : ∀ C R args, RelV R avs args.toList → ∀ w, G.p R → MS C R H w → Calls P f args w fun e w' => ∃ (w1 : World) (Cs : Array Value), Below w.heap.size w w1 ∧ e = .returned (.slice (some ⟨w1.heap.size, 0, none⟩) m m) ∧ w' = w1.alloc (.cells Cs T) ∧ Cs.size = m * sz ∧ ∀ R, RelL R cs Cs.toList) :
  ae P G f avs H (fun r H' => ∃ b, r = .ret (.own H.length (.slice (some ⟨b, 0, none⟩) m m)) ∧ H' = H ++ [.row (.slice (some ⟨b, 0, none⟩) m m) (some T) sz m cs]) := by
 intro R w args hG hm ha
 refine .inl ⟨hc args w, (h _ R args ha w hG hm).mono ?_⟩
 rintro e w' ⟨w1, Cs, hb, rfl, rfl, hsz, hr⟩
 have hm1 := hm.below hb
 have hm2 := hm1.alloc (.cells Cs T) (.row (.slice (some ⟨w1.heap.size, 0, none⟩) m m) (some T) sz m cs) rfl ?_
 ·exact ⟨_, _, R, ⟨w1.heap.size, rfl, rfl⟩, ⟨_, rfl, aI.2 ⟨rfl, rfl⟩⟩, hm2.perm (List.perm_append_singleton _ _).symm⟩
 ·refine ⟨hlen, .inr ⟨w1.heap.size, m, Cs, T, (0, 0), rfl, cK _ _, hsz, Nat.le_refl _, ?_, .inl (Nat.le_refl _), fun t ht => Option.some.inj ht⟩⟩
  have := hr R
  have hl := ay this
  rwa [List.take_of_length_le (by omega)]
theorem lV (R : Seal) : ∀ l : List (List UInt8), RelL R (aN l) (l.map fun s => Value.string ⟨s.toArray⟩)
 | [] => rfl
 | _ :: l => ⟨_, _, rfl, rfl, lV R l⟩
theorem zN {G : Glo} {m : Int} (hU : ad G (bI m)) (H : Heap) (s : List UInt8) (c : UInt8) (hl : s.length < 100000) :
  ae Tryz.prog G 84 [.str s, .str [c]] H (fun r H' => ∃ b, r = .ret (.own H.length (.slice (some ⟨b, 0, none⟩) (splS c s).length (splS c s).length)) ∧ H' = H ++ [.row (.slice (some ⟨b, 0, none⟩) (splS c s).length (splS c s).length) (some 9) 1 (splS c s).length (aN (splS c s))]) := by
 refine iI Tryz.call84 (by rw [qv, Nat.mul_one]) ?_
 rintro C R args ⟨x, t, e, hx, y, t', e', hy, rfl⟩ w hG hm
 obtain rfl := aB.1 hx
 obtain rfl := aB.1 hy
 subst e'
 obtain rfl := dK e
 refine (Tryz.strings_Split ⟨s.toArray⟩ ⟨#[c]⟩ m w (by rw [aY]; omega) (oN hU hG hm.sealed) (Nat.le_refl 1)).mono ?_
 rintro e w' ⟨rfl, rfl⟩
 have hd := Lib.splitB_data ⟨#[c]⟩ 0 (Lib.countB ⟨s.toArray⟩ ⟨#[c]⟩) ⟨s.toArray⟩
 have hd : (Lib.splitB ⟨#[c]⟩ 0 (Lib.countB ⟨s.toArray⟩ ⟨#[c]⟩) ⟨s.toArray⟩).map (·.data.toList) = splS c s := hd.trans (gy c s)
 have hn : (splS c s).length = Lib.countB ⟨s.toArray⟩ ⟨#[c]⟩ + 1 := by
  have h1 := Lib.splitB_all ⟨#[c]⟩ (Nat.le_refl 1) 0 _ ⟨s.toArray⟩ rfl
  rw [← hd, List.length_map, h1]
 rw [hn]
 have hm2 : (Lib.splitB ⟨#[c]⟩ 0 (Lib.countB ⟨s.toArray⟩ ⟨#[c]⟩) ⟨s.toArray⟩).map Value.string = (splS c s).map fun s => Value.string ⟨s.toArray⟩ := by
  rw [← hd, List.map_map]
  refine List.map_congr_left fun x _ => ?_
  simp
 refine ⟨w, _, Below.refl _ _, rfl, rfl, ?_, fun R => ?_⟩
 ·rw [hm2]; simp [hn]
 ·rw [hm2]
  exact lV R _
theorem n8 {G : Glo} {m : Int} (hU : ad G (bI m)) (s : List UInt8) (c : UInt8) (hl : s.length < 100000) :
  FnIs Tryz.prog G 84 [.str s, .str [c]] (.list 1 (splS c s).length (aF (splS c s))) :=
 nB (fun a => a) Fg (aF (splS c s)) (ks _) ((zN hU [] s c hl).mono fun _ _ ⟨_, h1, h2⟩ => ⟨_, _, h1, h2⟩)
end
section
open Go Go.RowKit
theorem qw {c : UInt8} : ∀ {s : List UInt8}, c ∉ s → splS c s = [s]
 | [], _ => rfl
 | x :: t, h => by
  simp only [List.mem_cons, not_or] at h
  rw [splS, if_neg (Ne.symm h.1), qw h.2]
theorem n9 {c : UInt8} : ∀ {u : List UInt8} {v : List UInt8}, c ∉ u → ∃ p ps, splS c v = p :: ps ∧ splS c (u ++ v) = (u ++ p) :: ps
 | [], v, _ => by
  cases h : splS c v with
  | nil => exact absurd h (kx c v)
  | cons p ps => exact ⟨p, ps, rfl, h⟩
 | x :: u, v, h => by
  simp only [List.mem_cons, not_or] at h
  obtain ⟨p, ps, h1, h2⟩ := n9 (v := v) h.2
  refine ⟨p, ps, h1, ?_⟩
  rw [List.cons_append, splS, if_neg (Ne.symm h.1), h2]
  rfl
theorem BG {c : UInt8} {u v : List UInt8} (h : c ∉ u) : splS c (u ++ c :: v) = u :: splS c v := by
 obtain ⟨p, ps, h1, h2⟩ := n9 (v := c :: v) h
 rw [splS, if_pos rfl] at h1
 cases h1
 rw [h2, List.append_nil]
end
section
open Go Go.RowKit
abbrev mA (s : List UInt8) : List AVal := s.map fun c => .int .u8 (c.toNat : Int)
section
variable {P : Program} [Tab P] {C : Ctx} {n : Nat} {env : Env} {H : Heap} {Q : AExit → Env → Heap → Prop} {ops : Array Oper} {rest : List Oper} {G : Glo} {GL : List (Nat × List AVal)}
variable {d : Nat} {t : TypeId} {p : String} {af : Array Edge} {g : Option (Nat × Bool)} {b : Bool}
variable {x y : Operand} {T : TypeId} {xT : TI} {tx ty : TypeId}
theorem Cf {i n0 : Nat} {v : Value} {s : List UInt8} {cs z : List AVal} {eT : Option TypeId} {e : TypeId} {xe xx : TI} (hC : C.G = G) (hGL : ad G GL) (hg : aE ops env g = some (b, b)) (hdn : Nat.ble (d + 1) n = true)
  (hx : ah env x = some (.own i v)) (hi : H[i]? = some (.row v eT 1 n0 cs)) (hy : ah env y = some (.str s))
  (h1 : tab P T = some xT) (h2 : xT.desc = .slice e) (h3 : tab P e = some xe) (h4 : xe.size = 1) (h6 : Nat.ble xe.bytes 1024 = true) (h7 : aQ xe.zero = some z) (h8 : z.length = 1) (h9 : tab P tx = some xx) (h10 : xx.desc = .string)
  (hlen : n0 + s.length ≤ 137438953472) (hty : tyOK eT e = true)
  (h : ∀ a k c, opsX P C n G GL ops Q rest ((d, .own i (.slice a k c)) :: env) (H.set i (.row (.slice a k c) eT 1 (n0 + s.length) (cs ++ mA s)))) :
  Op1 P C n ops ({ dst := some d, op := .call { callee := .builtin .append, args := [x, y].toArray, argTypes := [T, tx].toArray }, type := t, pos := p, after := af, guard := g } :: rest) env H Q :=
 ⟨qK hg hdn hx hi hy h1 h2 h3 h4 rfl h6 h7 h8 (fun R v hv => DX hv h9 h10) hlen (yC hty) fun v' => fH (jk hi) fun ⟨a, k, c, e, _⟩ => by subst e; exact cw hC hGL _ _ _ (h a k c)⟩
end
end
section
open Go
attribute [local irreducible] AWp AOps aa ax OrOk ad ae
abbrev ptrA (b : Nat) : Value := .pointer (some ⟨b, 0, none⟩)
abbrev bldC (b : Nat) (p : Value) (j : Nat) (v : Value) : HEnt := .cells b (some 94) [.raw p, .own j v]
abbrev bldR (v : Value) (s : List UInt8) : HEnt := .row v (some 5) 1 s.length (mA s)
theorem pk {P : Program} [Tab P] {G : Glo} {GL : List (Nat × List AVal)} {n : Nat} {H : Heap} {v : Value} (i : Nat) {f : FuncId} {fn : Func} {c : Code} {avs : List AVal} {Qf : ARes → Heap → Prop} {rs : List ResultVar} (hf : P.funcs[f]? = some fn)
  (hc : ∀ args w, (callFunc f args).run P w = .ok (.enter f args) w) (hb : fn.body = some c) (hn : fn.ntmps = n) (hrs : fn.results = rs.toArray) (hlen : Nat.ble (AVal.raw v :: avs).length n = true) (hGL : ad G GL) (hv : vAgg v = false)
  (h : ∀ C : Ctx, C.G = G → dA P C n G GL c ((0, .own i v) :: cX 0 (.raw v :: avs)) H (RetX P rs Qf)) : ae P G f (.raw v :: avs) H Qf :=
 la hf hb hc hn hrs hlen fun w0 R0 hG => (uD (C := ⟨w0, R0, blks H, G, hG, []⟩) (k := 0) i rfl hGL hv rfl (h ⟨w0, R0, blks H, G, hG, []⟩ rfl)).mono fun _ _ _ q => fI q
theorem mc {G : Glo} (b : Nat) : FnIs Tryz.prog G 131 [.raw (ptrA b)] (.raw (ptrA b)) := by
 refine bN Tryz.func131 (by kernel_rfl) (by kernel_rfl) (by kernel_rfl) (e := Go.Extern.AbiNoEscape.same) (by kernel_rfl) ?_
 rintro R args ⟨x, t, e, h1, h2⟩ w
 obtain rfl : t = [] := h2
 obtain ⟨l⟩ := args
 obtain rfl : l = [x] := e
 exact ⟨x, rfl, h1⟩
theorem uL {C : Ctx} {R : Seal} {H : Heap} {w : World} (hm : MS C R H w) {i b : Nat} {e : TypeId} {cs : List AVal} (hi : H[i]? = some (.cells b (some e) cs)) : w.shape? b = some (e, cs.length) := by
 obtain ⟨Cs, el, fz, hb, hl, _, ht⟩ := eK hm hi
 have := ay hl
 simp only [Array.length_toList] at this
 simp [World.shape?, hb, this, ht e rfl]
section
variable {C : Ctx} {H : Heap} {env : Env} {x y : Operand} {i j b : Nat} {c0 c1 : AVal}
theorem D1 (hx : ah env x = some (.own i (ptrA b))) (hi : H[j]? = some (.cells b (some 94) [c0, c1])) : RunV Tryz.prog C H env (.convert 91 174 x) (.own i (ptrA b)) := by
 intro R ρ w hm hf dst t p af g
 refine ⟨ptrA b, ?_, aI.2 ⟨rfl, rfl⟩⟩
 obtain ⟨ie, hie, hs1, _⟩ := dg (P := Tryz.prog) (t := 94) rfl
 have hr := Lib.run_to_unsafe (P := Tryz.prog) w (src := 91) (dst := 174) (t := 94) (j := ie) ⟨b, 0, none⟩ Tryz.underlying91 Tryz.underlying174 hie (by rw [hs1]; exact Nat.succ_ne_zero _) (uL hm hi) (Nat.zero_lt_succ _)
 simp only [execOp, (aI.1 (hf _ _ hx)).1, Sem.run_bind, hr, Result.andThen_ok, Sem.run_pure]
theorem D4 (hx : ah env x = some (.raw (ptrA b))) (hi : H[j]? = some (.cells b (some 94) [c0, c1])) : RunV Tryz.prog C H env (.convert 174 91 x) (.raw (ptrA b)) := by
 intro R ρ w hm hf dst t p af g
 refine ⟨ptrA b, ?_, ao.2 rfl⟩
 obtain ⟨ie, hie, hs1, _⟩ := dg (P := Tryz.prog) (t := 94) rfl
 have hr := Lib.run_from_unsafe (P := Tryz.prog) w (src := 174) (dst := 91) (u := 94) (j := ie) ⟨b, 0, none⟩ Tryz.underlying174 Tryz.underlying91 hie (uL hm hi) (by kernel_rfl)
 simp only [execOp, ao.1 (hf _ _ hx), Sem.run_bind, hr, Result.andThen_ok, Sem.run_pure]
theorem BQ (hx : ah env x = some (.raw (ptrA b))) (hy : ah env y = some (.own i (ptrA b))) : RunV Tryz.prog C H env (.binOp .neq 91 x y 91) (.bool false) := by
 intro R ρ w hm hf dst t p af g
 refine ⟨.bool false, ?_, aD.2 rfl⟩
 obtain ⟨ie, hie, hs1, _⟩ := dg (P := Tryz.prog) (t := 94) rfl
 have hr := Lib.run_neq_ptr_same (P := Tryz.prog) w (tp := 91) (te := 94) (j := ie) ⟨b, 0, none⟩ Tryz.underlying91 hie
 have hg : (eqGuard BinOp.neq 91 x y (ptrA b) (ptrA b)).run Tryz.prog w = .ok () w := rfl
 simp only [execOp, ao.1 (hf _ _ hx), (aI.1 (hf _ _ hy)).1, Sem.run_bind, hg, hr, Result.andThen_ok, Sem.run_pure]
end
theorem qj {G : Glo} (b : Nat) (j : Nat) (v : Value) : ae Tryz.prog G 75 [.raw (ptrA b)] [bldC b (.pointer none) j v] (fun r H => r = .ret (.tuple []) ∧ H = [bldC b (ptrA b) j v]) := by
 have hGL : ad G [] := ab
 refine pk 0 Tryz.func75 Tryz.call75 rfl rfl rfl rfl hGL rfl ?_
 intro C hC
 refine xw1 ?_
 intros
 refine aH hC hGL (D1 (j := 0) rfl rfl) rfl rfl ?_
 repeat' (first | (conv => whnf); first | refine .w ?_ | refine .v ?_ | refine sc_c ?_ ?_ <;> (intro hb; try exact dd hb) | apply an | apply az | (apply sc_i <;> intro hb) | (apply bx_i; intro hbd) | (apply ar; first | exact mc _) | (apply ap (i := 0) rfl; first | exact mc _) | (apply ab_i; intro bl) | (apply as_i; intro va vk vc hva) | (apply av_i; intro v) | (apply ac_i; intro bl cap hcap) | apply bo_l | (apply nx_i <;> intro hnx) | exact rt_w | apply dw_q mixed hC hGL (by kernel_rfl) | (apply cq; assumption; (first | exact mc _); exact rfl))
 all_goals try conv => whnf
 refine aH hC hGL (D4 (j := 0) rfl rfl) rfl rfl ?_
 exact xw0
theorem qi {G : Glo} (b : Nat) (j : Nat) (v : Value) : ae Tryz.prog G 75 [.raw (ptrA b)] [bldC b (ptrA b) j v] (fun r H => r = .ret (.tuple []) ∧ H = [bldC b (ptrA b) j v]) := by
 have hGL : ad G [] := ab
 refine pk 0 Tryz.func75 Tryz.call75 rfl rfl rfl rfl hGL rfl ?_
 intro C hC
 refine xw1 ?_
 intros
 refine aH hC hGL (BQ rfl rfl) rfl rfl ?_
 exact xw0
def mE (b : Nat) (p : Value) : Prop := p = .pointer none ∨ p = ptrA b
theorem fP {G : Glo} {b : Nat} {p : Value} (hp : mE b p) (j : Nat) (v : Value) : ae Tryz.prog G 75 [.raw (ptrA b)] [bldC b p j v] (fun r H => r = .ret (.tuple []) ∧ H = [bldC b (ptrA b) j v]) := by
 rcases hp with rfl | rfl
 ·exact qj b j v
 ·exact qi b j v
theorem Ds (v : Value) (s t : List UInt8) : HEnt.row v (some 5) 1 (s.length + t.length) (mA s ++ mA t) = bldR v (s ++ t) := by
 simp only [bldR, mA, List.length_append, List.map_append]
theorem nV {H : Heap} {i j : Nat} {x0 y0 : HEnt} (hne : i ≠ j) (hi : H[i]? = some x0) (hj : H[j]? = some y0) : ∃ rest : Heap, H.Perm ([x0, y0] ++ rest) ∧ ∀ x y, ((H.set i x).set j y).Perm ([x, y] ++ rest) := by
 have key : ∃ rest : Heap, ∀ x y, ((H.set i x).set j y).Perm ([x, y] ++ rest) := by
  rcases Nat.lt_or_gt_of_ne hne with h | h
  ·refine ⟨(H.eraseIdx j).eraseIdx i, fun x y => ?_⟩
   have h1 := f8 (H := H.set i x) (i := j) (x := y0) y (by rw [List.getElem?_set_ne (by omega)]; exact hj)
   rw [List.eraseIdx_set_gt h] at h1
   have h2 := f8 (H := H.eraseIdx j) (i := i) (x := x0) x (by rw [List.getElem?_eraseIdx_of_lt h]; exact hi)
   refine h1.symm.trans ?_
   refine (List.Perm.append_left [y] h2.symm).trans ?_
   exact List.Perm.swap x y _
  ·refine ⟨(H.eraseIdx j).eraseIdx (i - 1), fun x y => ?_⟩
   have h1 := f8 (H := H.set i x) (i := j) (x := y0) y (by rw [List.getElem?_set_ne (by omega)]; exact hj)
   rw [List.eraseIdx_set_lt h] at h1
   have h2 := f8 (H := H.eraseIdx j) (i := i - 1) (x := x0) x (by rw [List.getElem?_eraseIdx_of_ge (by omega), show i - 1 + 1 = i by omega]; exact hi)
   refine h1.symm.trans ?_
   refine (List.Perm.append_left [y] h2.symm).trans ?_
   exact List.Perm.swap x y _
 obtain ⟨rest, h⟩ := key
 refine ⟨rest, ?_, h⟩
 have := h x0 y0
 have e1 : H.set i x0 = H := by
  obtain ⟨hl, he⟩ := List.getElem?_eq_some_iff.1 hi
  rw [← he]; exact List.set_getElem_self hl
 have e2 : H.set j y0 = H := by
  obtain ⟨hl, he⟩ := List.getElem?_eq_some_iff.1 hj
  rw [← he]; exact List.set_getElem_self hl
 rw [e1, e2] at this
 exact this
theorem sv {C : Ctx} {R : Seal} {H : Heap} {w : World} {b j : Nat} {p v : Value} (k : Nat) (h : MS C R (bldC b p j v :: H) w) : MS C R (bldC b p k v :: H) w :=
 h.swap (i := 0) (x := bldC b p j v) (y := bldC b p k v) rfl rfl (h.heap.holds (bldC b p j v) List.mem_cons_self)
theorem zk {P : Program} {G : Glo} {f : FuncId} {avs : List AVal} {H H0 : Heap} {Qf Qf' : ARes → Heap → Prop} (hb : ∀ k, k ∈ blks H ↔ k ∈ blks H0) (hpre : ∀ C R w, MS C R H0 w → MS C R H w) (h : ae P G f avs H Qf)
  (hq : ∀ r H', Qf r H' → ∃ H'', Qf' r H'' ∧ ∀ C R w, MS C R H' w → MS C R H'' w) : ae P G f avs H0 Qf' := by
 unfold ae at h ⊢
 intro R w args hG hm ha
 rcases h R w args hG ((hpre _ _ _ hm).blks_iff fun k => (hb k).symm) ha with ⟨h1, h2⟩ | ⟨v, w', h1, res, H', R', q, er, hm'⟩
 ·exact .inl ⟨h1, h2.mono fun e w' ⟨res, H', R', q, er, hm'⟩ => let ⟨H'', q', hc⟩ := hq _ _ q; ⟨res, H'', R', q', er, hc _ _ _ (hm'.blks_iff hb)⟩⟩
 ·obtain ⟨H'', q', hc⟩ := hq _ _ q
  exact .inr ⟨v, w', h1, res, H'', R', q', er, hc _ _ _ (hm'.blks_iff hb)⟩
theorem sP {P : Program} {G : Glo} {f : FuncId} {avs : List AVal} {b j k : Nat} {p v : Value} {H : Heap} {Qf Qf' : ARes → Heap → Prop} (h : ae P G f avs (bldC b p k v :: H) Qf)
  (hq : ∀ r H', Qf r H' → ∃ H'', Qf' r H'' ∧ ∀ C R w, MS C R H' w → MS C R H'' w) : ae P G f avs (bldC b p j v :: H) Qf' :=
 zk (H := bldC b p k v :: H) (H0 := bldC b p j v :: H) (fun _ => Iff.rfl) (fun _ _ _ h => sv k h) h hq
abbrev cU : HEnt := .row (.slice none 0 0) none 1 0 []
theorem MS.spoil {C : Ctx} {R : Seal} {H : Heap} {w w' : World} {i b : Nat} {x : HEnt} {o : Obj} (h : MS C R H w) (hi : H[i]? = some x) (hb : x.blk = some b) (hw : OneBlk w b o w') : MS C R (H.set i cU) w' := by
 obtain ⟨a, c, rfl, hset⟩ := i6 (y := cU) hi
 rw [hset]
 have hx : x ∈ a ++ x :: c := by simp
 have hRb := h.heap.apart x hx b hb
 have hnd := h.heap.nodup
 rw [List.filterMap_append, List.filterMap_cons, hb] at hnd
 have hd := List.nodup_append.1 hnd
 have hother : ∀ z, z ∈ a ∨ z ∈ c → ∀ k, z.blk = some k → k ≠ b := by
  rintro z hz k hk rfl
  rcases hz with hz | hz
  ·exact hd.2.2 k (List.mem_filterMap.2 ⟨z, hz, hk⟩) k (by simp) rfl
  ·exact (List.nodup_cons.1 hd.2.1).1 (List.mem_filterMap.2 ⟨z, hz, hk⟩)
 have hmem : ∀ z, z ∈ a ++ cU :: c → z = cU ∨ ((z ∈ a ∨ z ∈ c) ∧ z ∈ a ++ x :: c) := by
  intro z hz
  simp only [List.mem_append, List.mem_cons] at hz ⊢
  rcases hz with hz | hz | hz
  ·exact .inr ⟨.inl hz, .inl hz⟩
  ·exact .inl hz
  ·exact .inr ⟨.inr hz, .inr (.inr hz)⟩
 refine ⟨?_, h.ge, h.fresh, ⟨?_, ?_, ?_⟩, ?_, ?_⟩
 ·intro k o' hk
  rw [hw.other k (by rintro rfl; rw [hRb] at hk; cases hk)]
  exact h.sealed k o' hk
 ·intro z hz
  rcases hmem z hz with rfl | ⟨hz', hz''⟩
  ·exact ⟨rfl, .inl ⟨rfl, rfl⟩⟩
  ·exact HEnt.holds_mono (h.heap.holds z hz'') (Seal.le_refl R) fun k hk => hw.other k (hother z hz' k hk)
 ·rw [List.filterMap_append, List.filterMap_cons]
  refine List.nodup_append.2 ⟨hd.1, (List.nodup_cons.1 hd.2.1).2, fun k hk l hl => hd.2.2 k hk l (List.mem_cons_of_mem _ hl)⟩
 ·intro z hz k hk
  rcases hmem z hz with rfl | ⟨_, hz''⟩
  ·cases hk
  ·exact h.heap.apart z hz'' k hk
 ·intro z hz k hk
  rcases hmem z hz with rfl | ⟨_, hz''⟩
  ·cases hk
  ·exact h.own z hz'' k hk
 ·have hob := h.own x hx b hb
  refine ⟨hw.os.trans h.ext.os, hw.tape.trans h.ext.tape, hw.output.trans h.ext.output, by rw [hw.size]; exact h.ext.size, fun k hk hB => ?_⟩
  rw [hw.other k (by rintro rfl; rcases hob with h1 | h1; omega; exact hB h1)]
  exact h.ext.block k hk hB
theorem dI {P : Program} [Tab P] {G : Glo} {f : FuncId} {avs : List AVal} {H : Heap} {K Kp : AVal → Heap → Prop} {i j b : Nat} {p v : Value} {s s' : List UInt8} {r : AVal} (hi : H[i]? = some (bldC b p j v)) (hj : H[j]? = some (bldR v s)) (hne : i ≠ j)
  (hs : ae P G f avs [bldC b p 1 v, bldR v s] (fun x H => ∃ va vk vc, x = .ret r ∧ H = [bldC b (ptrA b) 1 (.slice va vk vc), bldR (.slice va vk vc) s']))
  (k : ∀ va vk vc, bU ((H.set i (bldC b (ptrA b) j (.slice va vk vc))).set j (bldR (.slice va vk vc) s')) (K r)) : Cx P G f avs H K Kp := by
 obtain ⟨rest, hp, hp2⟩ := nV hne hi hj
 have h1 : ae P G f avs [bldC b p j v, bldR v s] (fun x H => ∃ va vk vc, x = .ret r ∧ H = [bldC b (ptrA b) j (.slice va vk vc), bldR (.slice va vk vc) s']) := by
  refine sP hs ?_
  rintro x H' ⟨va, vk, vc, rfl, rfl⟩
  exact ⟨_, ⟨va, vk, vc, rfl, rfl⟩, fun C R w h => sv j h⟩
 refine ⟨fun x H' => ∃ va vk vc, x = .ret r ∧ H' = (H.set i (bldC b (ptrA b) j (.slice va vk vc))).set j (bldR (.slice va vk vc) s'), dP (dO (H1 := [bldC b p j v, bldR v s] ++ rest) hp.symm (fa rest h1)) ?_, ?_, ?_⟩
 ·rintro x H' ⟨H1', ⟨va, vk, vc, rfl, rfl⟩, rfl⟩
  exact ⟨_, (hp2 _ _).symm, va, vk, vc, rfl, rfl⟩
 ·rintro v' H' ⟨va, vk, vc, e, rfl⟩
  cases e
  have := k va vk vc
  rw [aO] at this
  exact this
 ·rintro v' H' ⟨va, vk, vc, e, rfl⟩; cases e
theorem s3 {P : Program} [Tab P] {G : Glo} {f : FuncId} {avs : List AVal} {H : Heap} {K Kp : AVal → Heap → Prop} {i j b : Nat} {p v : Value} {s : List UInt8} {r : AVal} (hi : H[i]? = some (bldC b p j v)) (hj : H[j]? = some (bldR v s)) (hne : i ≠ j)
  (hs : ae P G f avs [bldC b p 1 v, bldR v s] (fun x H => x = .ret r ∧ H = []))
  (k : bU ((H.set i cU).set j cU) (K r)) : Cx P G f avs H K Kp := by
 obtain ⟨rest, hp, hp2⟩ := nV hne hi hj
 have h1 : ae P G f avs [bldC b p j v, bldR v s] (fun x H => x = .ret r ∧ H = [cU, cU]) := by
  refine sP hs ?_
  rintro x H' ⟨rfl, rfl⟩
  exact ⟨_, ⟨rfl, rfl⟩, fun C R w h => (h.ghost 1).ghost 1⟩
 refine ⟨fun x H' => x = .ret r ∧ H' = (H.set i cU).set j cU, dP (dO (H1 := [bldC b p j v, bldR v s] ++ rest) hp.symm (fa rest h1)) ?_, ?_, ?_⟩
 ·rintro x H' ⟨H1', ⟨rfl, rfl⟩, rfl⟩
  exact ⟨_, (hp2 _ _).symm, rfl, rfl⟩
 ·rintro v' H' ⟨e, rfl⟩
  cases e
  rw [aO] at k
  exact k
 ·rintro v' H' ⟨e, rfl⟩; cases e
theorem aU {G : Glo} {b : Nat} {p : Value} (hp : mE b p) (v : Value) (s t : List UInt8) (hl : s.length + t.length ≤ 137438953472) : ae Tryz.prog G 40 [.raw (ptrA b), .str t] [bldC b p 1 v, bldR v s]
  (fun r H => ∃ va vk vc, r = .ret (.tuple [.int .i64 t.length, .raw .nilIface]) ∧ H = [bldC b (ptrA b) 1 (.slice va vk vc), bldR (.slice va vk vc) (s ++ t)]) := by
 have hGL : ad G [] := ab
 refine pk 0 Tryz.func40 Tryz.call40 rfl rfl rfl rfl hGL rfl ?_
 intro C hC
 repeat' (first | (conv => whnf); first | refine .w ?_ | refine .v ?_ | refine sc_c ?_ ?_ <;> (intro hb; try exact dd hb) | apply an | apply az | (apply sc_i <;> intro hb) | (apply bx_i; intro hbd) | (apply ar; first | exact fP hp _ _) | (apply ap (i := 0) rfl; first | exact fP hp _ _) | (apply ab_i; intro bl) | (apply as_i; intro va vk vc hva) | (apply av_i; intro v) | (apply ac_i; intro bl cap hcap) | apply bo_l | (apply nx_i <;> intro hnx) | exact rt_w | apply dw_q mixed hC hGL (by kernel_rfl) | (apply cq; assumption; (first | exact fP hp _ _); exact rfl))
 all_goals try conv => whnf
 refine Cf hC hGL rfl rfl rfl rfl rfl rfl rfl rfl rfl rfl rfl rfl rfl rfl hl rfl ?_
 intro va vk vc
 refine xw1 ?_
 intros
 exact ⟨_, List.Sublist.refl _, va, vk, vc, rfl, by rw [Ds]⟩
theorem Gk {P : Program} {G : Glo} {f : FuncId} {avs : List AVal} {H : Heap} {Qf : ARes → Heap → Prop} {i sz m : Nat} {v : Value} {eT : Option TypeId} {cs : List AVal} (hi : H[i]? = some (.row v eT sz m cs))
  (h : ((v = .slice none 0 0 ∧ m = 0) ∨ ∃ g cap, v = .slice (some ⟨g, 0, none⟩) m cap ∧ m ≤ cap) → ae P G f avs H Qf) : ae P G f avs H Qf := by
 unfold ae at h ⊢
 intro R w args hG hm ha
 obtain ⟨_, hh⟩ := hm.heap.holds _ (List.mem_of_getElem? hi)
 refine h ?_ R w args hG hm ha
 rcases hh with ⟨rfl, rfl⟩ | ⟨g, cap, _, _, _, rfl, _, _, hle, _⟩
 ·exact .inl ⟨rfl, rfl⟩
 ·exact .inr ⟨g, cap, rfl, hle⟩
section
variable {P : Program} [Tab P] {C : Ctx} {n : Nat} {env : Env} {H : Heap} {Q : AExit → Env → Heap → Prop} {ops : Array Oper} {rest : List Oper} {G : Glo} {GL : List (Nat × List AVal)}
variable {d : Nat} {t : TypeId} {p : String} {af : Array Edge} {g : Option (Nat × Bool)} {b : Bool} {x y : Operand}
omit [Tab P] in
theorem BO {i k c : Nat} {a : Addr} {ts : Array TypeId} (hx : ah env x = some (.own i (.slice (some a) k c))) (hc : c ≠ 0) : RunV P C H env (.call { callee := .builtin .unsafeSliceData, args := #[x], argTypes := ts }) (.raw (.pointer (some a))) := by
 intro R ρ w hm hf dst t p af g
 refine ⟨.pointer (some a), ?_, ao.2 rfl⟩
 have hr := Lib.run_unsafeSliceData_row (P := P) w ts t a k c hc
 have e : (#[x].map ρ) = #[.slice (some a) k c] := by simp [(aI.1 (hf _ _ hx)).1]
 simp only [execOp, resolve, Sem.run_bind, Sem.run_pure, Result.andThen_ok, invoke, builtin, e, hr]
theorem Ce {i0 gb cap : Nat} {s : List UInt8} {pt it : TypeId} {e : TypeId} (hC : C.G = G) (hGL : ad G GL) (hg : aE ops env g = some (b, b)) (hdn : Nat.ble (d + 1) n = true)
  (hx : ah env x = some (.raw (ptrA gb))) (hy : ah env y = some (.int .i64 s.length)) (hi : H[i0]? = some (.row (.slice (some ⟨gb, 0, none⟩) s.length cap) (some e) 1 s.length (mA s))) (hs : s ≠ []) (hlen : s.length ≤ 137438953472)
  (hp : P.underlying pt = some (.pointer e)) (hce : P.cellsOf e = 1) (k : opsX P C n G GL ops Q rest ((d, .str s) :: env) (H.set i0 cU)) :
  Op1 P C n ops ({ dst := some d, op := .call { callee := .builtin .unsafeString, args := #[x, y], argTypes := #[pt, it] }, type := t, pos := p, after := af, guard := g } :: rest) env H Q := by
 refine ⟨cR (X := Unit) (av := fun _ => .str s) (H' := fun _ => H.set i0 cU) hg rfl hdn (fun R ρ w hm hf => ?_) fun _ => cw hC hGL _ _ _ k⟩
 obtain ⟨_, hh⟩ := hm.heap.holds _ (List.mem_of_getElem? hi)
 rcases hh with ⟨h, _⟩ | ⟨g', cap', Cs, el, fz, h, hb, hcs, hle, hl, hfz, ht⟩
 ·cases h
 ·cases h
  obtain rfl := ht e rfl
  rw [Nat.mul_one] at hcs hl
  have hcell : ∀ j x, s[j]? = some x → w.cell? ((⟨gb, 0, none⟩ : Addr).add j) = some (.int .u8 x.toNat) := by
   intro j x hj
   obtain ⟨hj1, hj2⟩ := List.getElem?_eq_some_iff.1 hj
   have := pI (s := s) (o := 0) hb (by rw [List.drop_zero]; exact hl) j hj1
   rw [hj2] at this
   exact this
  have hsh : w.shape? gb = some (el, Cs.size) := by simp [World.shape?, hb]
  have hr := Lib.run_unsafeString_row (P := P) w pt it t el hp hce gb Cs.size hsh s hs (by omega) (by omega) hcell
  have e2 : (#[x, y].map ρ) = #[ptrA gb, .int .i64 s.length] := by simp [ao.1 (hf _ _ hx), am.1 (hf _ _ hy)]
  have hone : ∃ o, OneBlk w gb o (w.freeze ⟨gb, 0, none⟩ s.length) := by
   have h0 : s.length ≠ 0 := by simpa using hs
   unfold World.freeze
   rw [if_neg h0]
   obtain ⟨lo, hi⟩ := fz
   refine ⟨.cells Cs el (if lo == hi then (0, 0 + s.length) else (min lo 0, max hi (0 + s.length))), rfl, rfl, rfl, by simp, ?_, ?_⟩
   ·simp [Array.getElem?_modify, hb]
   ·intro k hk; simp [Array.getElem?_modify, Ne.symm hk]
  obtain ⟨o, hone⟩ := hone
  refine ⟨(), .string ⟨s.toArray⟩, w.freeze ⟨gb, 0, none⟩ s.length, R, ?_, Seal.le_refl R, aB.2 rfl, hm.spoil hi rfl hone⟩
  simp only [execOp, resolve, Sem.run_bind, Sem.run_pure, Result.andThen_ok, invoke, builtin, e2, hr]
omit [Tab P] in
theorem FK {i k c : Nat} {ts : Array TypeId} (hx : ah env x = some (.own i (.slice none k c))) : RunV P C H env (.call { callee := .builtin .unsafeSliceData, args := #[x], argTypes := ts }) (.raw (.pointer none)) := by
 intro R ρ w hm hf dst t p af g
 refine ⟨.pointer none, ?_, ao.2 rfl⟩
 have hr := Lib.run_unsafeSliceData_nil (P := P) w ts t k c
 have e : (#[x].map ρ) = #[.slice none k c] := by simp [(aI.1 (hf _ _ hx)).1]
 simp only [execOp, resolve, Sem.run_bind, Sem.run_pure, Result.andThen_ok, invoke, builtin, e, hr]
omit [Tab P] in
theorem rR {pt it : TypeId} {a : Option Addr} (hx : ah env x = some (.raw (.pointer a))) (hy : ah env y = some (.int .i64 0)) : RunV P C H env (.call { callee := .builtin .unsafeString, args := #[x, y], argTypes := #[pt, it] }) (.str []) := by
 intro R ρ w hm hf dst t p af g
 refine ⟨.string .empty, ?_, aB.2 rfl⟩
 have hr := Lib.run_unsafeString_none (P := P) w pt it t a
 have e : (#[x, y].map ρ) = #[.pointer a, .int .i64 0] := by simp [ao.1 (hf _ _ hx), am.1 (hf _ _ hy)]
 simp only [execOp, resolve, Sem.run_bind, Sem.run_pure, Result.andThen_ok, invoke, builtin, e, hr]
theorem Eg {i0 i k gb : Nat} {ts : Array TypeId} {e : TypeId} {eT : Option TypeId} {cs : List AVal} (hC : C.G = G) (hGL : ad G GL) (hg : aE ops env g = some (b, b)) (hdn : Nat.ble (d + 1) n = true)
  (hx : ah env x = some (.own i (.slice (some ⟨gb, 0, none⟩) k 0))) (hi : H[i0]? = some (.row (.slice (some ⟨gb, 0, none⟩) k 0) eT 1 k cs)) (hp : P.underlying t = some (.pointer e))
  (kk : ∀ bl, opsX P C n G GL ops Q rest ((d, .raw (ptrA bl)) :: env) H) :
  Op1 P C n ops ({ dst := some d, op := .call { callee := .builtin .unsafeSliceData, args := #[x], argTypes := ts }, type := t, pos := p, after := af, guard := g } :: rest) env H Q := by
 refine ⟨cR (X := Nat) (av := fun bl => .raw (ptrA bl)) (H' := fun _ => H) hg rfl hdn (fun R ρ w hm hf => ?_) fun bl => cw hC hGL _ _ _ (kk bl)⟩
 obtain ⟨_, hh⟩ := hm.heap.holds _ (List.mem_of_getElem? hi)
 rcases hh with ⟨h, _⟩ | ⟨g', cap', Cs, el, fz, h, hb, hcs, hle, hl, hfz, ht⟩
 ·cases h
 ·cases h
  have hr := Lib.run_unsafeSliceData_zero (P := P) w ts t e hp ⟨gb, 0, none⟩ k (el, Cs.size) (by simp [World.shape?, hb])
  have e2 : (#[x].map ρ) = #[.slice (some ⟨gb, 0, none⟩) k 0] := by simp [(aI.1 (hf _ _ hx)).1]
  refine ⟨w.heap.size, ptrA w.heap.size, _, R.put w.heap.size (.view ⟨gb, 0, none⟩ e), ?_, Seal.put_le hm.seal_free, ao.2 rfl, hm.alloc_sealed _⟩
  simp only [execOp, resolve, Sem.run_bind, Sem.run_pure, Result.andThen_ok, invoke, builtin, e2, hr]
  rfl
end
theorem np {G : Glo} {b : Nat} {p : Value} (g cap : Nat) (s : List UInt8) (hs : s ≠ []) (hlen : s.length ≤ 137438953472) (hc0 : cap ≠ 0) : ae Tryz.prog G 42 [.raw (ptrA b)] [bldC b p 1 (.slice (some ⟨g, 0, none⟩) s.length cap), bldR (.slice (some ⟨g, 0, none⟩) s.length cap) s] (fun r H => r = .ret (.str s) ∧ H = [bldC b p 1 (.slice (some ⟨g, 0, none⟩) s.length cap)]) := by
 have hGL : ad G [] := ab
 refine pk 0 Tryz.func42 Tryz.call42 rfl rfl rfl rfl hGL rfl ?_
 intro C hC
 refine xn1 ?_
 intros
 refine dw_p mixed hC hGL false (fun (_ : Unit) => [(2, .str s)]) (fun _ => [bldC b p 1 (.slice (some ⟨g, 0, none⟩) s.length cap), cU]) (.take 0 (.take 1 (.take 2 (.take 5 (.take 6 (.take 7 (.br 3 (.br 4 (.br 8 (.br 9 (.br 10 (.take 11 (.done)) (.nil)) (.nil)) (.nil)) (.br 8 (.br 4 (.br 9 (.br 10 (.take 11 (.done)) (.nil)) (.nil)) (.br 9 (.br 4 (.br 10 (.take 11 (.done)) (.nil)) (.nil)) (.nil))) (.nil))) (.br 8 (.br 3 (.br 4 (.br 9 (.br 10 (.take 11 (.done)) (.nil)) (.nil)) (.br 9 (.br 4 (.br 10 (.take 11 (.done)) (.nil)) (.nil)) (.nil))) (.br 9 (.br 3 (.br 4 (.br 10 (.take 11 (.done)) (.nil)) (.nil)) (.nil)) (.nil))) (.nil))))))))) (by kernel_rfl) ?_ ?_
 ·repeat' (first | (conv => whnf); first | refine .w ?_ | refine Ix.v ?_ | refine Sd.v ?_ | refine Sl.v ?_ | apply aW | refine sc_d ?_ ?_ <;> (intro hb; try exact dd hb) | apply an | (apply sc_i <;> intro hb) | (apply bx_i; intro hbd) | (apply ar; first | fail) | (apply ab_i; intro bl) | exact rt_w | exact True.intro | (apply bc_i; intro C hC) | apply bt_i | apply og_n | (apply og_a; exact rfl))
  all_goals try conv => whnf
  all_goals (apply aH hC hGL; exact BO rfl hc0; exact rfl; exact rfl)
  all_goals (
   repeat' (first | (conv => whnf); first | refine .w ?_ | refine Ix.v ?_ | refine Sd.v ?_ | refine Sl.v ?_ | apply aW | refine sc_d ?_ ?_ <;> (intro hb; try exact dd hb) | apply an | (apply sc_i <;> intro hb) | (apply bx_i; intro hbd) | (apply ar; first | fail) | (apply ab_i; intro bl) | exact rt_w | exact True.intro | (apply bc_i; intro C hC) | apply bt_i | apply og_n | (apply og_a; exact rfl))
   all_goals try conv => whnf
  )
  all_goals (apply Ce (i0 := 1) (s := s) (cap := cap) (gb := g) hC hGL; exact rfl; exact rfl; exact rfl; exact rfl; exact rfl; exact hs; exact hlen; exact Tryz.underlying137; kernel_rfl)
  all_goals (
   repeat' (first | (conv => whnf); first | refine .w ?_ | refine Ix.v ?_ | refine Sd.v ?_ | refine Sl.v ?_ | apply aW | refine sc_d ?_ ?_ <;> (intro hb; try exact dd hb) | apply an | (apply sc_i <;> intro hb) | (apply bx_i; intro hbd) | (apply ar; first | fail) | (apply ab_i; intro bl) | exact rt_w | exact True.intro | (apply bc_i; intro C hC) | apply bt_i | apply og_n | (apply og_a; exact rfl))
   all_goals try conv => whnf
  )
  all_goals (exact ⟨(), ⟨rfl, trivial⟩, rfl⟩)
 ·intro _
  exact xn0
theorem no {G : Glo} {b : Nat} {p : Value} (g cap : Nat) (hc0 : cap ≠ 0) : ae Tryz.prog G 42 [.raw (ptrA b)] [bldC b p 1 (.slice (some ⟨g, 0, none⟩) 0 cap), bldR (.slice (some ⟨g, 0, none⟩) 0 cap) []] (fun r H => r = .ret (.str []) ∧ H = [bldC b p 1 (.slice (some ⟨g, 0, none⟩) 0 cap)]) := by
 have hGL : ad G [] := ab
 refine pk 0 Tryz.func42 Tryz.call42 rfl rfl rfl rfl hGL rfl ?_
 intro C hC
 refine xn1 ?_
 intros
 refine dw_p mixed hC hGL false (fun (_ : Unit) => [(2, .str [])]) (fun _ => [bldC b p 1 (.slice (some ⟨g, 0, none⟩) 0 cap), bldR (.slice (some ⟨g, 0, none⟩) 0 cap) []]) (.take 0 (.take 1 (.take 2 (.take 5 (.take 6 (.take 7 (.br 3 (.br 4 (.br 8 (.br 9 (.br 10 (.take 11 (.done)) (.nil)) (.nil)) (.nil)) (.br 8 (.br 4 (.br 9 (.br 10 (.take 11 (.done)) (.nil)) (.nil)) (.br 9 (.br 4 (.br 10 (.take 11 (.done)) (.nil)) (.nil)) (.nil))) (.nil))) (.br 8 (.br 3 (.br 4 (.br 9 (.br 10 (.take 11 (.done)) (.nil)) (.nil)) (.br 9 (.br 4 (.br 10 (.take 11 (.done)) (.nil)) (.nil)) (.nil))) (.br 9 (.br 3 (.br 4 (.br 10 (.take 11 (.done)) (.nil)) (.nil)) (.nil)) (.nil))) (.nil))))))))) (by kernel_rfl) ?_ ?_
 ·repeat' (first | (conv => whnf); first | refine .w ?_ | refine Ix.v ?_ | refine Sd.v ?_ | refine Sl.v ?_ | apply aW | refine sc_d ?_ ?_ <;> (intro hb; try exact dd hb) | apply an | (apply sc_i <;> intro hb) | (apply bx_i; intro hbd) | (apply ar; first | fail) | (apply ab_i; intro bl) | exact rt_w | exact True.intro | (apply bc_i; intro C hC) | apply bt_i | apply og_n | (apply og_a; exact rfl))
  all_goals try conv => whnf
  all_goals (apply aH hC hGL; exact BO rfl hc0; exact rfl; exact rfl)
  all_goals (
   repeat' (first | (conv => whnf); first | refine .w ?_ | refine Ix.v ?_ | refine Sd.v ?_ | refine Sl.v ?_ | apply aW | refine sc_d ?_ ?_ <;> (intro hb; try exact dd hb) | apply an | (apply sc_i <;> intro hb) | (apply bx_i; intro hbd) | (apply ar; first | fail) | (apply ab_i; intro bl) | exact rt_w | exact True.intro | (apply bc_i; intro C hC) | apply bt_i | apply og_n | (apply og_a; exact rfl))
   all_goals try conv => whnf
  )
  all_goals (apply aH hC hGL; exact rR rfl rfl; exact rfl; exact rfl)
  all_goals (
   repeat' (first | (conv => whnf); first | refine .w ?_ | refine Ix.v ?_ | refine Sd.v ?_ | refine Sl.v ?_ | apply aW | refine sc_d ?_ ?_ <;> (intro hb; try exact dd hb) | apply an | (apply sc_i <;> intro hb) | (apply bx_i; intro hbd) | (apply ar; first | fail) | (apply ab_i; intro bl) | exact rt_w | exact True.intro | (apply bc_i; intro C hC) | apply bt_i | apply og_n | (apply og_a; exact rfl))
   all_goals try conv => whnf
  )
  all_goals (exact ⟨(), ⟨rfl, trivial⟩, rfl⟩)
 ·intro _
  exact xn0
theorem nn {G : Glo} {b : Nat} {p : Value}  : ae Tryz.prog G 42 [.raw (ptrA b)] [bldC b p 1 (.slice none 0 0), bldR (.slice none 0 0) []] (fun r H => r = .ret (.str []) ∧ H = [bldC b p 1 (.slice none 0 0)]) := by
 have hGL : ad G [] := ab
 refine pk 0 Tryz.func42 Tryz.call42 rfl rfl rfl rfl hGL rfl ?_
 intro C hC
 refine xn1 ?_
 intros
 refine dw_p mixed hC hGL false (fun (_ : Unit) => [(2, .str [])]) (fun _ => [bldC b p 1 (.slice none 0 0), bldR (.slice none 0 0) []]) (.take 0 (.take 1 (.take 2 (.take 5 (.take 6 (.take 7 (.br 3 (.br 4 (.br 8 (.br 9 (.br 10 (.take 11 (.done)) (.nil)) (.nil)) (.nil)) (.br 8 (.br 4 (.br 9 (.br 10 (.take 11 (.done)) (.nil)) (.nil)) (.br 9 (.br 4 (.br 10 (.take 11 (.done)) (.nil)) (.nil)) (.nil))) (.nil))) (.br 8 (.br 3 (.br 4 (.br 9 (.br 10 (.take 11 (.done)) (.nil)) (.nil)) (.br 9 (.br 4 (.br 10 (.take 11 (.done)) (.nil)) (.nil)) (.nil))) (.br 9 (.br 3 (.br 4 (.br 10 (.take 11 (.done)) (.nil)) (.nil)) (.nil)) (.nil))) (.nil))))))))) (by kernel_rfl) ?_ ?_
 ·repeat' (first | (conv => whnf); first | refine .w ?_ | refine Ix.v ?_ | refine Sd.v ?_ | refine Sl.v ?_ | apply aW | refine sc_d ?_ ?_ <;> (intro hb; try exact dd hb) | apply an | (apply sc_i <;> intro hb) | (apply bx_i; intro hbd) | (apply ar; first | fail) | (apply ab_i; intro bl) | exact rt_w | exact True.intro | (apply bc_i; intro C hC) | apply bt_i | apply og_n | (apply og_a; exact rfl))
  all_goals try conv => whnf
  all_goals (apply aH hC hGL; exact FK rfl; exact rfl; exact rfl)
  all_goals (
   repeat' (first | (conv => whnf); first | refine .w ?_ | refine Ix.v ?_ | refine Sd.v ?_ | refine Sl.v ?_ | apply aW | refine sc_d ?_ ?_ <;> (intro hb; try exact dd hb) | apply an | (apply sc_i <;> intro hb) | (apply bx_i; intro hbd) | (apply ar; first | fail) | (apply ab_i; intro bl) | exact rt_w | exact True.intro | (apply bc_i; intro C hC) | apply bt_i | apply og_n | (apply og_a; exact rfl))
   all_goals try conv => whnf
  )
  all_goals (apply aH hC hGL; exact rR rfl rfl; exact rfl; exact rfl)
  all_goals (
   repeat' (first | (conv => whnf); first | refine .w ?_ | refine Ix.v ?_ | refine Sd.v ?_ | refine Sl.v ?_ | apply aW | refine sc_d ?_ ?_ <;> (intro hb; try exact dd hb) | apply an | (apply sc_i <;> intro hb) | (apply bx_i; intro hbd) | (apply ar; first | fail) | (apply ab_i; intro bl) | exact rt_w | exact True.intro | (apply bc_i; intro C hC) | apply bt_i | apply og_n | (apply og_a; exact rfl))
   all_goals try conv => whnf
  )
  all_goals (exact ⟨(), ⟨rfl, trivial⟩, rfl⟩)
 ·intro _
  exact xn0
theorem nl {G : Glo} {b : Nat} {p : Value} (g : Nat) : ae Tryz.prog G 42 [.raw (ptrA b)] [bldC b p 1 (.slice (some ⟨g, 0, none⟩) 0 0), bldR (.slice (some ⟨g, 0, none⟩) 0 0) []] (fun r H => r = .ret (.str []) ∧ H = [bldC b p 1 (.slice (some ⟨g, 0, none⟩) 0 0)]) := by
 have hGL : ad G [] := ab
 refine pk 0 Tryz.func42 Tryz.call42 rfl rfl rfl rfl hGL rfl ?_
 intro C hC
 refine xn1 ?_
 intros
 refine dw_p mixed hC hGL false (fun (_ : Unit) => [(2, .str [])]) (fun _ => [bldC b p 1 (.slice (some ⟨g, 0, none⟩) 0 0), bldR (.slice (some ⟨g, 0, none⟩) 0 0) []]) (.take 0 (.take 1 (.take 2 (.take 5 (.take 6 (.take 7 (.br 3 (.br 4 (.br 8 (.br 9 (.br 10 (.take 11 (.done)) (.nil)) (.nil)) (.nil)) (.br 8 (.br 4 (.br 9 (.br 10 (.take 11 (.done)) (.nil)) (.nil)) (.br 9 (.br 4 (.br 10 (.take 11 (.done)) (.nil)) (.nil)) (.nil))) (.nil))) (.br 8 (.br 3 (.br 4 (.br 9 (.br 10 (.take 11 (.done)) (.nil)) (.nil)) (.br 9 (.br 4 (.br 10 (.take 11 (.done)) (.nil)) (.nil)) (.nil))) (.br 9 (.br 3 (.br 4 (.br 10 (.take 11 (.done)) (.nil)) (.nil)) (.nil)) (.nil))) (.nil))))))))) (by kernel_rfl) ?_ ?_
 ·repeat' (first | (conv => whnf); first | refine .w ?_ | refine Ix.v ?_ | refine Sd.v ?_ | refine Sl.v ?_ | apply aW | refine sc_d ?_ ?_ <;> (intro hb; try exact dd hb) | apply an | (apply sc_i <;> intro hb) | (apply bx_i; intro hbd) | (apply ar; first | fail) | (apply ab_i; intro bl) | exact rt_w | exact True.intro | (apply bc_i; intro C hC) | apply bt_i | apply og_n | (apply og_a; exact rfl))
  all_goals try conv => whnf
  all_goals (apply Eg (i0 := 1) hC hGL; exact rfl; exact rfl; exact rfl; exact rfl; exact Tryz.underlying137; intro bl)
  all_goals (
   repeat' (first | (conv => whnf); first | refine .w ?_ | refine Ix.v ?_ | refine Sd.v ?_ | refine Sl.v ?_ | apply aW | refine sc_d ?_ ?_ <;> (intro hb; try exact dd hb) | apply an | (apply sc_i <;> intro hb) | (apply bx_i; intro hbd) | (apply ar; first | fail) | (apply ab_i; intro bl) | exact rt_w | exact True.intro | (apply bc_i; intro C hC) | apply bt_i | apply og_n | (apply og_a; exact rfl))
   all_goals try conv => whnf
  )
  all_goals (apply aH hC hGL; exact rR rfl rfl; exact rfl; exact rfl)
  all_goals (
   repeat' (first | (conv => whnf); first | refine .w ?_ | refine Ix.v ?_ | refine Sd.v ?_ | refine Sl.v ?_ | apply aW | refine sc_d ?_ ?_ <;> (intro hb; try exact dd hb) | apply an | (apply sc_i <;> intro hb) | (apply bx_i; intro hbd) | (apply ar; first | fail) | (apply ab_i; intro bl) | exact rt_w | exact True.intro | (apply bc_i; intro C hC) | apply bt_i | apply og_n | (apply og_a; exact rfl))
   all_goals try conv => whnf
  )
  all_goals (exact ⟨(), ⟨rfl, trivial⟩, rfl⟩)
 ·intro _
  exact xn0
theorem s9 {G : Glo} {b : Nat} {p v : Value} (s : List UInt8) (hlen : s.length ≤ 137438953472) : ae Tryz.prog G 42 [.raw (ptrA b)] [bldC b p 1 v, bldR v s] (fun r H => r = .ret (.str s) ∧ H = [bldC b p 1 v]) := by
 refine Gk (i := 1) rfl ?_
 rintro (⟨rfl, h0⟩ | ⟨g, cap, rfl, hc⟩)
 ·obtain rfl : s = [] := List.eq_nil_of_length_eq_zero h0
  exact nn
 ·by_cases hs : s = []
  ·subst hs
   by_cases hc0 : cap = 0
   ·subst hc0; exact nl g
   ·exact no g cap hc0
  ·have h1 : s.length ≠ 0 := by simpa using hs
   exact np g cap s hs hlen (by omega)
theorem du {G : Glo} {b : Nat} {p v : Value} (s : List UInt8) (hlen : s.length ≤ 137438953472) : ae Tryz.prog G 42 [.raw (ptrA b)] [bldC b p 1 v, bldR v s] (fun r H => r = .ret (.str s) ∧ H = []) :=
 zk (fun _ => Iff.rfl) (fun _ _ _ h => h) (s9 s hlen) fun r H' ⟨e, eH⟩ => ⟨[], ⟨e, rfl⟩, fun _ _ _ h => h.drop (List.nil_sublist _)⟩
end
section
open Go
attribute [local irreducible] AWp AOps aa ax OrOk ad ae
attribute [local irreducible] aq badI badS aS cutS rngR ownB
def mayZ (r : Int) : Bool := decide (0 ≤ r ∧ r ≤ 1114111 ∧ (r < 55296 ∨ 57343 < r))
theorem gK {r : Int} : mayZ r = true ↔ (0 ≤ r ∧ r ≤ 1114111 ∧ (r < 55296 ∨ 57343 < r)) := by simp [mayZ]
theorem F5 {r : Int} : mayZ r = false ↔ ¬ (0 ≤ r ∧ r ≤ 1114111 ∧ (r < 55296 ∨ 57343 < r)) := by simp [mayZ]
attribute [local irreducible] mayZ
theorem iY {G : Glo} (r : Int) : FnIs Tryz.prog G 177 [.int .i64 r] (.bool (mayZ r)) := by
 have hGL : ad G [] := ab
 refine fn_x Tryz.func177 Tryz.call177 rfl rfl rfl rfl hGL ?_
 intro C hC
 repeat' (first | (conv => whnf); first | refine .w ?_ | refine .v ?_ | refine sc_c ?_ ?_ <;> (intro hb; try exact dd hb) | apply an | apply az | (apply sc_i <;> intro hb) | (apply bx_i; intro hbd) | (apply ar; first | fail) | (apply ap (i := 0) rfl; first | fail) | (apply ab_i; intro bl) | (apply as_i; intro va vk vc hva) | (apply av_i; intro v) | (apply ac_i; intro bl cap hcap) | apply bo_l | (apply nx_i <;> intro hnx) | exact rt_w | apply dw_q mixed hC hGL (by kernel_rfl) | (apply cq; assumption; (first | fail); exact rfl))
 all_goals try conv => whnf
 all_goals (apply aj)
 all_goals (refine congrArg AVal.bool ?_)
 all_goals (rw [Bool.eq_iff_iff]; simp [gK, jM, g8, Bool.not_eq_true'] <;> omega)
theorem tup2 {k j : IntKind} {a b c e : Int} {H' : Heap} (h : c = a ∧ e = b) : Rt (fun (x : ARes) (H : Heap) => x = .ret (.tuple [.int k c, .int j e]) ∧ H = []) (.tuple [.int k a, .int j b]) H' := by
 obtain ⟨rfl, rfl⟩ := h
 exact aj rfl
theorem kj {G : Glo} (s : List UInt8) : FnIs Tryz.prog G 126 [.str s] (.tuple [.int .i64 ((aq s).1 : Int), .int .i64 ((aq s).2 : Int)]) := by
 have hGL : ad G [] := ab
 refine fn_x Tryz.func126 Tryz.call126 rfl rfl rfl rfl hGL ?_
 intro C hC
 repeat' (first | (conv => whnf); first | refine .w ?_ | refine .v ?_ | refine sc_c ?_ ?_ <;> (intro hb; try exact dd hb) | apply an | apply az | (apply sc_i <;> intro hb) | (apply bx_i; intro hbd) | (apply ar; first | exact iY _) | (apply ap (i := 0) rfl; first | exact iY _) | (apply ab_i; intro bl) | (apply as_i; intro va vk vc hva) | (apply av_i; intro v) | (apply ac_i; intro bl cap hcap) | apply bo_l | (apply nx_i <;> intro hnx) | exact rt_w | apply dw_q mixed hC hGL (by kernel_rfl) | (apply cq; assumption; (first | exact iY _); exact rfl))
 all_goals try conv => whnf
 any_goals (refine rds hC hGL 4 ?_)
 repeat' (first | (conv => whnf); first | refine .w ?_ | refine .v ?_ | refine sc_c ?_ ?_ <;> (intro hb; try exact dd hb) | apply an | apply az | (apply sc_i <;> intro hb) | (apply bx_i; intro hbd) | (apply ar; first | exact iY _) | (apply ap (i := 0) rfl; first | exact iY _) | (apply ab_i; intro bl) | (apply as_i; intro va vk vc hva) | (apply av_i; intro v) | (apply ac_i; intro bl cap hcap) | apply bo_l | (apply nx_i <;> intro hnx) | exact rt_w | apply dw_q mixed hC hGL (by kernel_rfl) | (apply cq; assumption; (first | exact iY _); exact rfl))
 all_goals try conv => whnf
 all_goals (refine tup2 ?_)
 all_goals (
  try simp only [show Int.toNat 0 = 0 from rfl, show Int.toNat 1 = 1 from rfl, show Int.toNat (1 + 1) = 2 from rfl, show Int.toNat (1 + 1 + 1) = 3 from rfl, Int.ofNat_toNat, gK, F5, jM, g8] at *
  generalize hz : aq s = z
  unfold aq aV mayN cp2 cp3 cp4 at hz
  generalize aa s 0 = b0 at *
  generalize aa s 1 = b1 at *
  generalize aa s 2 = b2 at *
  generalize aa s 3 = b3 at *
  generalize s.length = l at *)
 all_goals (
  repeat' (split at hz; try (exfalso; omega))
  all_goals (try subst z)
  all_goals (first
   | exact ⟨rfl, rfl⟩
   | (simp only [Bool.and_eq_true, Bool.or_eq_true, decide_eq_true_eq, beq_iff_eq] at *; first | (exfalso; omega) | omega)))
end
section
open Go
attribute [local irreducible] AWp AOps aa ax OrOk ad ae
attribute [local irreducible] aq badI badS aS cutS rngR ownB
theorem nr {G : Glo} (s : List UInt8) (hl : s.length ≤ 9223372036854775807) : FnIs Tryz.prog G 72 [.str s] (.int .i64 (badI s)) := by
 have hGL : ad G [] := ab
 refine fn_x Tryz.func72 Tryz.call72 rfl rfl rfl rfl hGL ?_
 intro C hC
 have hle := fun k => dZ (s.drop k)
 have k1 := @kj
 refine xw1 ?_
 intros
 refine lp hC hGL (fun (i : Nat) => [(0, .str s), (3, .int .i64 i)]) (fun _ => []) (fun i => i ≤ s.length ∧ badS s = (badS (s.drop i)).map (· + i)) (fun i => s.length - i) 0 ?_ ai rfl ?_
 ·exact ⟨Nat.zero_le _, by simp⟩
 rintro i ⟨hi, hb0⟩
 have hn := hle i
 rw [List.length_drop] at hn
 have k1 := @kj
 refine xw ?_
 repeat' (first | exact Le.n | refine Lc.mk ?_ ?_)
 all_goals intros
 ·apply aj
  refine congrArg (AVal.int .i64) ?_
  have h1 := jx (s.drop i) (by rw [List.length_drop]; omega)
  rw [if_pos (by omega)] at h1
  rw [h1] at hb0
  simp only [badI, hb0, Option.map_some, Nat.zero_add]
 ·have h1 := jx (s.drop i) (by rw [List.length_drop]; omega)
  rw [if_neg (by omega)] at h1
  refine nxt (i + (aq (s.drop i)).2) ?_ ?_ ai rfl
  ·refine ⟨by omega, ?_⟩
   rw [hb0, h1, List.drop_drop]
   cases badS (s.drop (i + (aq (s.drop i)).2)) <;> simp <;> omega
  ·omega
 ·apply aj
  refine congrArg (AVal.int .i64) ?_
  rw [vQ (s.drop i) (by rw [List.length_drop]; omega)] at hb0
  simp only [badI, hb0, Option.map_none]
theorem eq {G : Glo} (s : List UInt8) (n : Int) (hl : s.length ≤ 9223372036854775807) : FnIs Tryz.prog G 74 [.str s, .int .i64 n] (.int .i64 (cutS s 0 n)) := by
 have hGL : ad G [] := ab
 refine fn_x Tryz.func74 Tryz.call74 rfl rfl rfl rfl hGL ?_
 intro C hC
 have hle := fun k => dZ (s.drop k)
 have k1 := @kj
 refine xw1 ?_
 intros
 refine lp hC hGL (fun (i : Nat) => [(0, .str s), (1, .int .i64 n), (5, .int .i64 i)]) (fun _ => []) (fun i => i ≤ s.length ∧ cutS s 0 n = cutS (s.drop i) i n) (fun i => s.length - i) 0 ?_ ai rfl ?_
 ·exact ⟨Nat.zero_le _, by simp⟩
 rintro i ⟨hi, hb0⟩
 have hn := hle i
 rw [List.length_drop] at hn
 have hst : (aS (s.drop i) : Int) = max ((aq (s.drop i)).2 : Int) 1 := by unfold aS; split <;> omega
 have k1 := @kj
 refine xw ?_
 repeat' (first | exact Le.n | refine Lc.mk ?_ ?_)
 all_goals intros
 ·apply aj
  refine congrArg (AVal.int .i64) ?_
  have h1 := gm (s.drop i) i n (by rw [List.length_drop]; omega)
  rw [if_pos (by omega)] at h1
  omega
 ·have h1 := gm (s.drop i) i n (by rw [List.length_drop]; omega)
  rw [if_neg (by omega)] at h1
  have h2 := nY (s.drop i) (by rw [List.length_drop]; omega)
  rw [List.length_drop] at h2
  have h3 := eI (s.drop i)
  refine nxt (i + aS (s.drop i)) ⟨by omega, ?_⟩ (by omega) ⟨rfl, rfl, congrArg (fun z => some (AVal.int .i64 z)) (by omega), trivial⟩ rfl
  rw [hb0, h1, List.drop_drop]
 ·apply aj
  refine congrArg (AVal.int .i64) ?_
  rw [lj (s.drop i) _ _ (by rw [List.length_drop]; omega)] at hb0
  omega
end
section
open Go
attribute [local irreducible] AWp AOps aa ax OrOk ad ae
attribute [local irreducible] aq badI badS aS cutS rngR ownB
theorem xg {P : Program} [Tab P] {C : Ctx} {n : Nat} {env : Env} {H : Heap} {Q : AExit → Env → Heap → Prop} {c : Code} (i : Nat) {b : Nat} (hi : H[i]? = some (.cells b (some 94) [.raw (.pointer none), .raw (.slice none 0 0)]))
  (h : Lp P C n c env (H.set i (bldC b (.pointer none) H.length (.slice none 0 0)) ++ [bldR (.slice none 0 0) []]) Q) : Lp P C n c env H Q := by
 refine ⟨gU (eT := some 5) 1 ?_⟩
 have h := h.h
 unfold AWp at h ⊢
 intro R a w hm hf
 obtain ⟨Cs, e, fz, hb, hl, hr⟩ := hm.heap.holds (.cells b (some 94) [.raw (.pointer none), .raw (.slice none 0 0)]) (List.mem_cons_of_mem _ (List.mem_of_getElem? hi))
 obtain ⟨v1, t1, e1, r1, v2, t2, e2, r2, e3⟩ := hl
 have r2' : RelC R (.own H.length (.slice none 0 0)) [v2] := by
  have : v2 = .slice none 0 0 := by simpa [RelC, Value.cells] using r2
  subst this
  simp [RelC, vAgg]
 have h1 := hm.swap (i := i + 1) (x := .cells b (some 94) [.raw (.pointer none), .raw (.slice none 0 0)]) (y := bldC b (.pointer none) H.length (.slice none 0 0)) (by rw [List.getElem?_cons_succ]; exact hi) rfl
  ⟨Cs, e, fz, hb, ⟨v1, t1, e1, r1, v2, t2, e2, r2', e3⟩, hr⟩
 rw [List.set_cons_succ] at h1
 exact h R a w (h1.perm (List.perm_append_singleton _ _).symm) hf
/-! ## A line in pieces -/
theorem lk (s : List UInt8) (a : Nat) (n : Int) : a ≤ cutS s a n ∧ cutS s a n ≤ a + s.length ∧ ((cutS s a n : Int) ≤ n ∨ cutS s a n = a) := by
 have key : ∀ k (s : List UInt8) (a : Nat), s.length ≤ k → a ≤ cutS s a n ∧ cutS s a n ≤ a + s.length ∧ ((cutS s a n : Int) ≤ n ∨ cutS s a n = a) := by
  intro k
  induction k with
  | zero => intro s a h; rw [lj s a n (by omega)]; omega
  | succ k ih =>
   intro s a h
   by_cases h0 : s.length = 0
   ·rw [lj s a n h0]; omega
   ·rw [gm s a n h0]
    have h1 := eI s
    have h2 := nY s h0
    split
    ·omega
    ·have := ih (s.drop (aS s)) (a + aS s) (by rw [List.length_drop]; omega)
     rw [List.length_drop] at this
     omega
 exact key _ s a (Nat.le_refl _)
theorem py (s : List UInt8) (n : Int) (h0 : s.length ≠ 0) (hn : 4 ≤ n) : 1 ≤ cutS s 0 n := by
 rw [gm s 0 n h0]
 have h1 := eI s
 have h2 : aS s ≤ 4 := by have := dZ s; unfold aS; split <;> omega
 rw [if_neg (by omega)]
 have := (lk (s.drop (aS s)) (0 + aS s) n).1
 omega
def bh (s : List UInt8) (r q : Int) : List (List UInt8) :=
 s.take (cutS s 0 r) :: (if h : (s.drop (cutS s 0 r)).length = 0 ∨ cutS s 0 r = 0 then [] else bh (s.drop (cutS s 0 r)) q q)
termination_by s.length
decreasing_by simp only [List.length_drop] at *; omega
theorem fq {s : List UInt8} {r q : Int} (h : (s.drop (cutS s 0 r)).length = 0) : bh s r q = [s.take (cutS s 0 r)] := by
 rw [bh, dif_pos (.inl h)]
theorem iB {s : List UInt8} {r q : Int} (h : (s.drop (cutS s 0 r)).length ≠ 0) (hn : cutS s 0 r ≠ 0) : bh s r q = s.take (cutS s 0 r) :: bh (s.drop (cutS s 0 r)) q q := by
 rw [bh, dif_neg (by omega)]
theorem ma (s : List UInt8) (r q : Int) : bh s r q ≠ [] := by rw [bh]; simp
def k9 : List (List UInt8) → List UInt8
 | [] => []
 | [p] => p ++ [13, 10]
 | p :: ps => p ++ [13, 10] ++ [32] ++ k9 ps
theorem pi (p : List UInt8) {ps : List (List UInt8)} (h : ps ≠ []) : k9 (p :: ps) = p ++ [13, 10] ++ [32] ++ k9 ps := by
 cases ps with
 | nil => exact absurd rfl h
 | cons a b => rfl
theorem AE {G : Glo} (s0 : List UInt8) (w : Int) (hw : 10 ≤ w ∧ w ≤ 75) (hl : s0.length ≤ 1500) (hb : badS s0 = none) (hI : FnIs Tryz.prog G 73 [.str s0, .str [13, 10]] (.int .i64 (-1))) :
  FnIs Tryz.prog G 39 [.str s0, .int .i64 w] (.tuple [.str (k9 (bh s0 w (w - 1))), .raw .nilIface]) := by
 have hB := nr (G := G) s0 (by omega)
 have hbI : badI s0 = -1 := by unfold badI; rw [hb]
 rw [hbI] at hB
 have hGL : ad G [] := ab
 refine fn_x Tryz.func39 Tryz.call39 rfl rfl rfl rfl hGL ?_
 intro C hC
 repeat' (first | (conv => whnf); first | refine .w ?_ | refine .v ?_ | refine sc_c ?_ ?_ <;> (intro hb; try exact dd hb) | apply an | apply az | (apply sc_i <;> intro hb) | (apply bx_i; intro hbd) | (apply ar; first | exact hB | exact hI | exact eq _ _ (by omega)) | (apply ap (i := 0) rfl; first | exact hB | exact hI | exact eq _ _ (by omega)) | (apply ab_i; intro bl) | (apply as_i; intro va vk vc hva) | (apply av_i; intro v) | (apply ac_i; intro bl cap hcap) | apply bo_l | (apply nx_i <;> intro hnx) | exact rt_w | apply dw_q mixed hC hGL (by kernel_rfl) | (apply cq; assumption; (first | exact hB | exact hI | exact eq _ _ (by omega)); exact rfl))
 all_goals try conv => whnf
 refine xg 0 rfl ?_
 refine lp hC hGL (fun (x : List UInt8 × Int × List UInt8 × Value × Value) => [(0, .str x.1), (1, .int .i64 w), (8, .own 0 (ptrA bl)), (9, .int .i64 x.2.1)]) (fun x => [bldC bl x.2.2.2.1 1 x.2.2.2.2, bldR x.2.2.2.2 x.2.2.1]) (fun x => mE bl x.2.2.2.1 ∧ (x.2.1 = w ∨ x.2.1 = w - 1) ∧ x.2.2.1 ++ k9 (bh x.1 x.2.1 (w - 1)) = k9 (bh s0 w (w - 1)) ∧ x.2.2.1.length + 4 * x.1.length ≤ 4 * s0.length + 4) (fun x => x.1.length) (s0, w, [], .pointer none, .slice none 0 0) ?_ ai rfl ?_
 ·exact ⟨.inl rfl, .inl rfl, rfl, by simp⟩
 rintro ⟨s, r, out, p, v⟩ ⟨hp, hr, he, hlen⟩
 dsimp only at hp hr he hlen ⊢
 have hc := lk s 0 r
 rw [Nat.zero_add] at hc
 repeat' (first | (conv => whnf); first | refine .w ?_ | refine .v ?_ | refine sc_c ?_ ?_ <;> (intro hb; try exact dd hb) | apply an | apply az | (apply sc_i <;> intro hb) | (apply bx_i; intro hbd) | (apply ar; first | exact eq _ _ (by omega)) | (apply ap (i := 0) rfl; first | exact eq _ _ (by omega)) | (apply ab_i; intro bl) | (apply as_i; intro va vk vc hva) | (apply av_i; intro v) | (apply ac_i; intro bl cap hcap) | apply bo_l | (apply nx_i <;> intro hnx) | exact rt_w | apply dw_q mixed hC hGL (by kernel_rfl) | (apply cq; assumption; (first | exact eq _ _ (by omega)); exact rfl))
 all_goals try conv => whnf
 apply dI (i := 0) (j := 1) rfl rfl (by decide) (aU hp v out (s.take (cutS s 0 r) ++ [13, 10]) (by simp only [List.length_append, List.length_take, List.length_cons, List.length_nil]; omega))
 intro va vk vc
 repeat' (first | (conv => whnf); first | refine .w ?_ | refine .v ?_ | refine sc_c ?_ ?_ <;> (intro hb; try exact dd hb) | apply an | apply az | (apply sc_i <;> intro hb) | (apply bx_i; intro hbd) | (apply ar; first | exact eq _ _ (by omega)) | (apply ap (i := 0) rfl; first | exact eq _ _ (by omega)) | (apply ab_i; intro bl) | (apply as_i; intro va vk vc hva) | (apply av_i; intro v) | (apply ac_i; intro bl cap hcap) | apply bo_l | (apply nx_i <;> intro hnx) | exact rt_w | apply dw_q mixed hC hGL (by kernel_rfl) | (apply cq; assumption; (first | exact eq _ _ (by omega)); exact rfl))
 all_goals try conv => whnf
 ·apply s3 (i := 0) (j := 1) rfl rfl (by decide) (du (out ++ (s.take (cutS s 0 r) ++ [13, 10])) (by simp only [List.length_append, List.length_take, List.length_cons, List.length_nil]; omega))
  repeat' (first | (conv => whnf); first | refine .w ?_ | refine .v ?_ | refine sc_c ?_ ?_ <;> (intro hb; try exact dd hb) | apply an | apply az | (apply sc_i <;> intro hb) | (apply bx_i; intro hbd) | (apply ar; first | fail) | (apply ap (i := 0) rfl; first | fail) | (apply ab_i; intro bl) | (apply as_i; intro va vk vc hva) | (apply av_i; intro v) | (apply ac_i; intro bl cap hcap) | apply bo_l | (apply nx_i <;> intro hnx) | exact rt_w | apply dw_q mixed hC hGL (by kernel_rfl) | (apply cq; assumption; (first | fail); exact rfl))
  all_goals try conv => whnf
  refine ⟨[], List.nil_sublist _, ?_, rfl⟩
  have e2 := fq (q := w - 1) hb
  rw [e2] at he
  rw [← he]
  rfl
 ·apply dI (i := 0) (j := 1) rfl rfl (by decide) (aU (.inr rfl) (.slice va vk vc) (out ++ (s.take (cutS s 0 r) ++ [13, 10])) [32] (by simp only [List.length_append, List.length_take, List.length_cons, List.length_nil]; omega))
  intro wa wk wc
  repeat' (first | (conv => whnf); first | refine .w ?_ | refine .v ?_ | refine sc_c ?_ ?_ <;> (intro hb; try exact dd hb) | apply an | apply az | (apply sc_i <;> intro hb) | (apply bx_i; intro hbd) | (apply ar; first | fail) | (apply ap (i := 0) rfl; first | fail) | (apply ab_i; intro bl) | (apply as_i; intro va vk vc hva) | (apply av_i; intro v) | (apply ac_i; intro bl cap hcap) | apply bo_l | (apply nx_i <;> intro hnx) | exact rt_w | apply dw_q mixed hC hGL (by kernel_rfl) | (apply cq; assumption; (first | fail); exact rfl))
  all_goals try conv => whnf
  have hs0 : s.length ≠ 0 := by rw [List.length_drop] at hb; omega
  have hn := py s r hs0 (by omega)
  refine nxt (s.drop (cutS s 0 r), w - 1, out ++ (s.take (cutS s 0 r) ++ [13, 10]) ++ [32], ptrA bl, .slice wa wk wc) ⟨.inr rfl, .inr rfl, ?_, ?_⟩ ?_ ⟨rfl, rfl, rfl, rfl, trivial⟩ rfl
  ·dsimp only
   rw [iB hb (by omega), pi _ (ma _ _ _)] at he
   rw [← he]
   simp only [List.append_assoc]
  ·simp only [List.length_append, List.length_take, List.length_drop, List.length_cons, List.length_nil]
   omega
  ·simp only [List.length_drop]
   omega
end
section
open Go
attribute [local irreducible] AWp AOps aa ax OrOk ad ae
attribute [local irreducible] aq badI badS aS cutS rngR ownB mayZ
theorem nS {G : Glo} (r : Int) : FnIs Tryz.prog G 178 [.int .i32 r] (.bool (mayZ r)) := by
 have hGL : ad G [] := ab
 refine fn_x Tryz.func178 Tryz.call178 rfl rfl rfl rfl hGL ?_
 intro C hC
 repeat' (first | (conv => whnf); first | refine .w ?_ | refine .v ?_ | refine sc_c ?_ ?_ <;> (intro hb; try exact dd hb) | apply an | apply az | (apply sc_i <;> intro hb) | (apply bx_i; intro hbd) | (apply ar; first | fail) | (apply ap (i := 0) rfl; first | fail) | (apply ab_i; intro bl) | (apply as_i; intro va vk vc hva) | (apply av_i; intro v) | (apply ac_i; intro bl cap hcap) | apply bo_l | (apply nx_i <;> intro hnx) | exact rt_w | apply dw_q mixed hC hGL (by kernel_rfl) | (apply cq; assumption; (first | fail); exact rfl))
 all_goals try conv => whnf
 all_goals (apply aj; refine congrArg AVal.bool ?_)
 all_goals (rw [Bool.eq_iff_iff]; simp [gK, jM, g8, Bool.not_eq_true'] <;> omega)
theorem zq {r : Int} (hz : 0 ≤ r ∧ r ≤ 1114111 ∧ (r < 55296 ∨ 57343 < r)) : (Utf8.encode r).data.toList =
  if r.toNat < 128 then [UInt8.ofNat r.toNat] else if r.toNat < 2048 then [UInt8.ofNat (192 + r.toNat / 64), UInt8.ofNat (128 + r.toNat % 64)]
  else if r.toNat < 65536 then [UInt8.ofNat (224 + r.toNat / 4096), UInt8.ofNat (128 + r.toNat / 64 % 64), UInt8.ofNat (128 + r.toNat % 64)]
  else [UInt8.ofNat (240 + r.toNat / 262144), UInt8.ofNat (128 + r.toNat / 4096 % 64), UInt8.ofNat (128 + r.toNat / 64 % 64), UInt8.ofNat (128 + r.toNat % 64)] := by
 have hv : Utf8.valid r = true := by simp [Utf8.valid]; omega
 unfold Utf8.encode
 simp only [hv, if_true]
 (repeat' split) <;> first | rfl | omega
end
section
open Go
theorem Em {x : UInt8} {t : List UInt8} (h : x.toNat < 128) : aq (x :: t) = (x.toNat, 1) := by
 unfold aq
 simp [aa, h]
theorem jW {x : UInt8} {t : List UInt8} (h : x.toNat < 128) : rngR (x :: t) = x.toNat ∧ aS (x :: t) = 1 := by
 unfold rngR aS
 rw [Em h]
 simp
theorem GN {a b : UInt8} (ha : a.toNat < 128) (hb : b.toNat < 128) : rngR [a, b] = a.toNat ∧ aS [a, b] = 1 ∧ rngR [b] = b.toNat ∧ aS [b] = 1 := ⟨(jW ha).1, (jW ha).2, (jW hb).1, (jW hb).2⟩
theorem two1 {a b : UInt8} : aa [a, b] 1 = b.toNat := rfl
def noGo (Q : AExit → Env → Heap → Prop) : AExit → Env → Heap → Prop
 | .goto _, _, _ => False
 | x, e, h => Q x e h
theorem fj {P : Program} [Tab P] {C : Ctx} {n : Nat} {env : Env} {H : Heap} {Q : AExit → Env → Heap → Prop} {c : Code} {G : Glo} {GL : List (Nat × List AVal)} (hC : C.G = G) (hGL : ad G GL) (h : dA P C n G GL c env H (noGo Q)) : Cd P C n (.scope c) env H Q := by
 refine ⟨fun R a w hm hf => wp_scope_straight (wp_mono (bJ hC hGL c _ _ _ h R a w hm hf) ?_)⟩
 rintro ex a w ⟨x, e, h, R, hq, hr, hm, hf⟩
 cases x with
 | goto l => exact hq.elim
 | normal => simp only [aC] at hr; subst hr; exact ⟨.normal, e, h, R, hq, rfl, hm, hf⟩
 | exit i => simp only [aC] at hr; subst hr; exact ⟨.exit i, e, h, R, hq, rfl, hm, hf⟩
 | ret => simp only [aC] at hr; subst hr; exact ⟨.ret, e, h, R, hq, rfl, hm, hf⟩
 | panic v =>
  obtain ⟨x, rfl, hx⟩ := hr
  exact ⟨.panic v, e, h, R, hq, ⟨x, rfl, hx⟩, hm, hf⟩
attribute [local irreducible] AWp AOps aa ax OrOk ad ae
attribute [local irreducible] aq badI badS aS cutS rngR ownB mayZ
theorem Gq {r : Int} (h1 : 128 ≤ r) (hv : mayZ r = true) : ∃ e : List UInt8, (Utf8.encode r).data.toList = e ∧ 2 ≤ e.length ∧ e.length ≤ 4 ∧ 128 ≤ aa e 1 ∧ aa e 1 < 256 := by
 refine ⟨_, rfl, ?_⟩
 rw [gK] at hv
 rw [zq hv]
 have hb : ∀ k : Nat, 128 ≤ ((UInt8.ofNat (128 + k % 64)).toNat) ∧ ((UInt8.ofNat (128 + k % 64)).toNat) < 256 := by
  intro k
  have e : 128 + k % 64 < 256 := by omega
  rw [UInt8.toNat_ofNat_of_lt' (by simpa using e)]
  omega
 split
 ·omega
 ·split
  ·refine ⟨by simp, by simp, ?_⟩; simpa [aa] using hb _
  ·split
   ·refine ⟨by simp, by simp, ?_⟩; simpa [aa] using hb _
   ·refine ⟨by simp, by simp, ?_⟩; simpa [aa] using hb _
theorem sE {G : Glo} {a b : UInt8} (ha : a.toNat < 128) (hb' : b.toNat < 128) (r : Int) (h1 : 128 ≤ r) (hv : mayZ r = true) (hne : r ≠ 65533) : FnIs Tryz.prog G 127 [.str [a, b], .int .i32 r] (.int .i64 (-1)) := by
 have hGL : ad G [] := ab
 refine fn_x Tryz.func127 Tryz.call127 rfl rfl rfl rfl hGL ?_
 intro C hC
 have hV := nS (G := G) r
 rw [hv] at hV
 refine xw1 ?_
 intros
 apply fj hC hGL
 refine xw1 ?_
 intros
 obtain ⟨e, he, e1, e2, e3, e4⟩ := Gq h1 hv
 refine aH hC hGL (nt rfl rfl rfl rfl) rfl rfl ?_
 rw [he]
 refine xw1 ?_
 intros
 refine rds hC hGL 1 ?_
 have hix : ∀ c : Int, 0 ≤ c → c ≤ 255 → FnIs Tryz.prog G 121 [.str [], .int .u8 c] (.int .i64 (-1)) := fun c h0 h1 => aL [] c h0 h1
 repeat' (first | (conv => whnf); first | refine .w ?_ | refine .v ?_ | refine sc_c ?_ ?_ <;> (intro hb; try exact dd hb) | apply an | apply az | (apply sc_i <;> intro hb) | (apply bx_i; intro hbd) | (apply ar; first | exact hV | exact hix _ (by omega) (by omega)) | (apply ap (i := 0) rfl; first | exact hV | exact hix _ (by omega) (by omega)) | (apply ab_i; intro bl) | (apply as_i; intro va vk vc hva) | (apply av_i; intro v) | (apply ac_i; intro bl cap hcap) | apply bo_l | (apply nx_i <;> intro hnx) | exact rt_w | apply dw_q mixed hC hGL (by kernel_rfl) | (apply cq; assumption; (first | exact hV | exact hix _ (by omega) (by omega)); exact rfl))
 all_goals try conv => whnf
 have hl2 : e.length = 2 := by simp only [List.length_cons, List.length_nil] at hb; omega
 have ht1 : ((e.length : Int) - 1).toNat = 1 := by omega
 have ht2 : ((e.length : Int) - 1 + 1).toNat = 2 := by omega
 have hcall := Tryz.call121
 have hix2 : ∀ c : Int, 0 ≤ c → c ≤ 255 → FnIs Tryz.prog G 121 [.str (List.drop ((e.length : Int) - 1 + 1).toNat [a, b]), .int .u8 c] (.int .i64 (-1)) := by rw [ht2]; exact hix
 have h10 : aa [a, b] ((e.length : Int) - 1).toNat = b.toNat := by rw [ht1]; exact two1
 have h128 : 128 ≤ aa e ((e.length : Int) - 1).toNat := by rw [ht1]; exact e3
 apply fj hC hGL
 repeat' (first | (conv => whnf); first | refine .w ?_ | refine .v ?_ | refine sc_c ?_ ?_ <;> (intro hb; try exact dd hb) | apply an | apply az | (apply sc_i <;> intro hb) | (apply bx_i; intro hbd) | (apply ar; first | exact hV | exact hix2 _ (by omega) (by omega)) | (apply ap (i := 0) rfl; first | exact hV | exact hix2 _ (by omega) (by omega)) | (apply ab_i; intro bl) | (apply as_i; intro va vk vc hva) | (apply av_i; intro v) | (apply ac_i; intro bl cap hcap) | apply bo_l | (apply nx_i <;> intro hnx) | exact rt_w | apply dw_q mixed hC hGL (by kernel_rfl) | (apply cq; assumption; (first | exact hV | exact hix2 _ (by omega) (by omega)); exact rfl))
 all_goals try conv => whnf
theorem qb {G : Glo} {a b : UInt8} (ha : a.toNat < 128) (hb' : b.toNat < 128) : FnIs Tryz.prog G 127 [.str [a, b], .int .i32 65533] (.int .i64 (-1)) := by
 have hGL : ad G [] := ab
 refine fn_x Tryz.func127 Tryz.call127 rfl rfl rfl rfl hGL ?_
 intro C hC
 refine xw1 ?_
 intros
 refine rds hC hGL 3 ?_
 refine xw ?_
 repeat' (first | exact Le.n | refine Lc.mk ?_ ?_)
 all_goals intros
 all_goals (
  exfalso
  obtain ⟨f1, f2, f3, f4⟩ := GN ha hb'
  simp only [List.drop_zero, f1, f2, Nat.zero_add, List.drop_succ_cons, f3, f4, List.length_cons, List.length_nil] at *
  omega)
theorem sD {G : Glo} {a b : UInt8} (r : Int) (h0 : 0 ≤ r) (h1 : r < 128) : FnIs Tryz.prog G 127 [.str [a, b], .int .i32 r] (.int .i64 (idxB [a, b] r)) := by
 have hGL : ad G [] := ab
 refine fn_x Tryz.func127 Tryz.call127 rfl rfl rfl rfl hGL ?_
 intro C hC
 have hI := aL (G := G) [a, b] r h0 (by omega)
 exact xw0
end
section
open Go Go.RowKit
theorem uJ (t : List UInt8) (h : (aq t).2 ≠ 0) : ((aq t).1 < 128 → (aq t).2 = 1 ∧ aa t 0 = (aq t).1) ∧ (128 ≤ (aq t).1 → ∀ j, j < (aq t).2 → 128 ≤ aa t j) ∧ mayZ (aq t).1 = true := by
 have hb := aK t 0
 rw [gK]
 revert h
 unfold aq
 repeat' split
 all_goals (intro h; try (exact absurd rfl h))
 all_goals (simp only [aV, mayN, Bool.and_eq_true, Bool.or_eq_true, decide_eq_true_eq, beq_iff_eq] at *)
 ·refine ⟨fun _ => by simp, fun h => by omega, by omega⟩
 ·refine ⟨fun h => by omega, fun _ j hj => ?_, by omega⟩
  obtain rfl | rfl : j = 0 ∨ j = 1 := by omega
  all_goals omega
 ·refine ⟨fun h => by omega, fun _ j hj => ?_, by omega⟩
  obtain rfl | rfl | rfl : j = 0 ∨ j = 1 ∨ j = 2 := by omega
  all_goals omega
 ·refine ⟨fun h => by omega, fun _ j hj => ?_, by omega⟩
  obtain rfl | rfl | rfl | rfl : j = 0 ∨ j = 1 ∨ j = 2 ∨ j = 3 := by omega
  all_goals omega
theorem wZ (t : List UInt8) (h : (aq t).2 = 0) (h0 : t.length ≠ 0) : 128 ≤ aa t 0 := by
 rcases Nat.lt_or_ge (aa t 0) 128 with h1 | h1
 ·exfalso
  revert h
  unfold aq
  rw [if_neg h0, if_pos h1]
  simp
 ·exact h1
theorem rJ {a b : UInt8} (x : UInt8) : ([a, b] : List UInt8).contains x = true ↔ (x.toNat = a.toNat ∨ x.toNat = b.toNat) := by
 simp only [List.contains_cons, List.contains_nil, Bool.or_false, Bool.or_eq_true, beq_iff_eq]
 exact ⟨fun h => h.imp (fun h => by rw [h]) (fun h => by rw [h]), fun h => h.imp UInt8.toNat_inj.1 UInt8.toNat_inj.1⟩
theorem yE {a b : UInt8} {x : UInt8} (h : x.toNat ≠ a.toNat ∧ x.toNat ≠ b.toNat) : ([a, b] : List UInt8).contains x = false := by
 cases hc : ([a, b] : List UInt8).contains x with
 | false => rfl
 | true => rcases (rJ x).1 hc with h1 | h1; exact absurd h1 h.1; exact absurd h1 h.2
theorem bu {s : List UInt8} {i : Nat} {x : UInt8} (h : s[i]? = some x) : x.toNat = aa s i := by simp [aa, List.getD, h]
attribute [local irreducible] AWp AOps aa ax OrOk ad ae
attribute [local irreducible] aq badI badS aS cutS rngR ownB mayZ
theorem oc {G : Glo} (n : Int) : FnIs Tryz.prog G 128 [.int .i64 n] (.bool (ltB 8 n)) := by
 have hGL : ad G [] := ab
 refine fn_x Tryz.func128 Tryz.call128 rfl rfl rfl rfl hGL ?_
 intro C hC
 repeat' (first | (conv => whnf); first | refine .w ?_ | refine .v ?_ | refine sc_c ?_ ?_ <;> (intro hb; try exact dd hb) | apply an | apply az | (apply sc_i <;> intro hb) | (apply bx_i; intro hbd) | (apply ar; first | fail) | (apply ap (i := 0) rfl; first | fail) | (apply ab_i; intro bl) | (apply as_i; intro va vk vc hva) | (apply av_i; intro v) | (apply ac_i; intro bl cap hcap) | apply bo_l | (apply nx_i <;> intro hnx) | exact rt_w | apply dw_q mixed hC hGL (by kernel_rfl) | (apply cq; assumption; (first | fail); exact rfl))
 all_goals try conv => whnf
theorem Ew {a b : UInt8} (r : Int) : (0 ≤ idxB [a, b] r ↔ r = a.toNat ∨ r = b.toNat) := by
 unfold idxB
 simp only [idxF]
 split
 ·omega
 ·split <;> omega
theorem qe {G : Glo} {a b : UInt8} (ha : a.toNat < 128) (hb' : b.toNat < 128) (r : Int) (hv : mayZ r = true) : ∃ z : Int, FnIs Tryz.prog G 127 [.str [a, b], .int .i32 r] (.int .i64 z) ∧ (0 ≤ z ↔ r = a.toNat ∨ r = b.toNat) := by
 have hm := hv
 rw [gK] at hm
 by_cases h1 : r < 128
 ·exact ⟨_, sD r hm.1 h1, Ew r⟩
 ·by_cases h2 : r = 65533
  ·subst h2; exact ⟨-1, qb ha hb', by omega⟩
  ·exact ⟨-1, sE ha hb' r (by omega) hv h2, by omega⟩
theorem qC (t : List UInt8) (h0 : t.length ≠ 0) : mayZ (rngR t : Int) = true ∧ 0 < aS t ∧ aS t ≤ t.length ∧ ((rngR t : Int) < 128 → aS t = 1 ∧ (aa t 0 : Int) = rngR t) ∧ (128 ≤ (rngR t : Int) → ∀ j, j < aS t → 128 ≤ aa t j) := by
 have hle := dZ t
 by_cases hn : (aq t).2 = 0
 ·have h1 := wZ t hn h0
  unfold rngR aS
  rw [if_pos hn, if_pos hn]
  refine ⟨by rw [gK]; omega, by omega, by omega, fun h => by omega, fun _ j hj => by rw [show j = 0 by omega]; exact h1⟩
 ·have h1 := uJ t hn
  unfold rngR aS
  rw [if_neg hn, if_neg hn]
  refine ⟨h1.2.2, by omega, hle.1, fun h => ?_, fun h => h1.2.1 (by omega)⟩
  have := h1.1 (by omega)
  omega
theorem o8 {G : Glo} {a b : UInt8} (ha : a.toNat < 128) (hb' : b.toNat < 128) (s : List UInt8) (hl : s.length ≤ 8) : FnIs Tryz.prog G 73 [.str s, .str [a, b]] (.int .i64 (Lib.indexAny s [a, b])) := by
 have hGL : ad G [] := ab
 refine fn_x Tryz.func73 Tryz.call73 rfl rfl rfl rfl hGL ?_
 intro C hC
 have hS := oc (G := G) s.length
 have hlen2 : ([a, b] : List UInt8).length = 2 := rfl
 repeat' (first | (conv => whnf); first | refine .w ?_ | refine .v ?_ | refine sc_c ?_ ?_ <;> (intro hb; try exact dd hb) | apply an | apply az | (apply sc_i <;> intro hb) | (apply bx_i; intro hbd) | (apply ar; first | exact hS) | (apply ap (i := 0) rfl; first | exact hS) | (apply ab_i; intro bl) | (apply as_i; intro va vk vc hva) | (apply av_i; intro v) | (apply ac_i; intro bl cap hcap) | apply bo_l | (apply nx_i <;> intro hnx) | exact rt_w | apply dw_q mixed hC hGL (by kernel_rfl) | (apply cq; assumption; (first | exact hS); exact rfl))
 all_goals try conv => whnf
 refine lp hC hGL (fun (i : Nat) => [(1, .str [a, b]), (45, .own 0 (.pointer (some ⟨bl, 0, none⟩)))]) (fun i => [.iter bl s i]) (fun i => i ≤ s.length ∧ Lib.NoAny s [a, b] i) (fun i => s.length - i) 0 ?_ ai rfl ?_
 ·exact ⟨Nat.zero_le _, Lib.NoAny.zero _ _⟩
 rintro i ⟨hi, hno⟩
 have hz := fun (h : i < s.length) => qC (s.drop i) (by rw [List.length_drop]; omega)
 have hR : ∃ z : Int, i < s.length → FnIs Tryz.prog G 127 [.str [a, b], .int .i32 (rngR (s.drop i))] (.int .i64 z) ∧ (0 ≤ z ↔ (rngR (s.drop i) : Int) = a.toNat ∨ (rngR (s.drop i) : Int) = b.toNat) := by
  by_cases h : i < s.length
  ·obtain ⟨z, h1, h2⟩ := qe (G := G) ha hb' (rngR (s.drop i)) (hz h).1
   exact ⟨z, fun _ => ⟨h1, h2⟩⟩
  ·exact ⟨0, fun h' => absurd h' h⟩
 obtain ⟨z, hR⟩ := hR
 repeat' (first | (conv => whnf); first | refine .w ?_ | refine .v ?_ | refine sc_c ?_ ?_ <;> (intro hb; try exact dd hb) | apply an | apply az | (apply sc_i <;> intro hb) | (apply bx_i; intro hbd) | (apply ar; first | exact (hR (by omega)).1) | (apply ap (i := 0) rfl; first | exact (hR (by omega)).1) | (apply ab_i; intro bl) | (apply as_i; intro va vk vc hva) | (apply av_i; intro v) | (apply ac_i; intro bl cap hcap) | apply bo_l | (apply nx_i <;> intro hnx) | exact rt_w | apply dw_q mixed hC hGL (by kernel_rfl) | (apply cq; assumption; (first | exact (hR (by omega)).1); exact rfl))
 all_goals try conv => whnf
 ·obtain ⟨z1, z2, z3, z4, z5⟩ := hz hnx
  have hr := (hR hnx).2.1 hb
  have h1 := z4 (by omega)
  have hx : s[i]? = some s[i] := List.getElem?_eq_getElem hnx
  have h2 := bu hx
  rw [bA, Nat.add_zero] at h1
  refine aj ?_
  rw [Lib.indexAny_hit hno hx ((rJ _).2 (by omega))]
 ·obtain ⟨z1, z2, z3, z4, z5⟩ := hz hnx
  rw [List.length_drop] at z3
  have hr : ¬ ((rngR (s.drop i) : Int) = a.toNat ∨ (rngR (s.drop i) : Int) = b.toNat) := fun h => by have := (hR hnx).2.2 h; omega
  refine nxt (i + aS (s.drop i)) ⟨by omega, ?_⟩ (by omega) ⟨rfl, rfl, trivial⟩ rfl
  intro j x hj hx
  by_cases h : j < i
  ·exact hno j x h hx
  ·have h2 := bu hx
   apply yE
   by_cases h128 : (rngR (s.drop i) : Int) < 128
   ·have h3 := z4 h128
    rw [bA, Nat.add_zero] at h3
    have : j = i := by omega
    subst this
    omega
   ·have h3 := z5 (by omega) (j - i) (by omega)
    rw [bA, show i + (j - i) = j by omega] at h3
    omega
 ·have : i = s.length := by omega
  subst this
  refine aj ?_
  rw [Lib.indexAny_none hno]
  rfl
theorem qf {G : Glo} {a b : UInt8} (ha : a.toNat < 128) (hb' : b.toNat < 128) (s : List UInt8) (h8 : 8 < s.length) (hl : s.length < 100000) : FnIs Tryz.prog G 73 [.str s, .str [a, b]] (.int .i64 (Lib.indexAny s [a, b])) := by
 refine bi rfl Tryz.call73 ?_
 rintro R args ⟨x, t, e, hx, y, t', e', hy, rfl⟩ w _ _
 obtain rfl := aB.1 hx
 obtain rfl := aB.1 hy
 subst e'
 obtain rfl := dK e
 refine (Tryz.strings_IndexAny_long (fun w => by kernel_rfl) ⟨s.toArray⟩ ⟨#[a, b]⟩ w (by show 2 ≤ 2; omega) (by rw [aY]; exact h8) (by rw [aY]; omega) (by show 2 < 4294967281; omega) ?_).mono ?_
 ·intro j x hx
  match j with
  | 0 => cases hx; exact ha
  | 1 => cases hx; exact hb'
  | j + 2 => simp at hx
 ·rintro e w' ⟨rfl, rfl⟩
  exact ⟨rfl, ((Below.refl w.heap.size w).alloc (Nat.le_refl _) _).alloc (by show w.heap.size ≤ (w.heap.push _).size; simp) _⟩
theorem sF {G : Glo} {a b : UInt8} (ha : a.toNat < 128) (hb' : b.toNat < 128) (s : List UInt8) (hl : s.length < 100000) : FnIs Tryz.prog G 73 [.str s, .str [a, b]] (.int .i64 (Lib.indexAny s [a, b])) := by
 by_cases h : s.length ≤ 8
 ·exact o8 ha hb' s h
 ·exact qf ha hb' s (by omega) hl
end
section
open Go Go.RowKit
def dt (s : List UInt8) : Int := Lib.indexAny s [13, 10]
theorem EN {s : List UInt8} (h : dt s < 0) : dt s = -1 := by
 have := Lib.indexAny_ge [13, 10] s
 unfold dt at *
 omega
theorem wY {s : List UInt8} {i : Nat} (h : Lib.NoAny s [13, 10] i) (hi : i < s.length) (h1 : aa s i ≠ 10 ∧ aa s i ≠ 13) : Lib.NoAny s [13, 10] (i + 1) := by
 intro j x hj hx
 by_cases e : j = i
 ·subst e
  have := bu hx
  exact yE (by simp; omega)
 ·exact h j x (by omega) hx
theorem EO {s : List UInt8} {i : Nat} (h : Lib.NoAny s [13, 10] i) (hi : i < s.length) (h1 : aa s i = 10 ∨ aa s i = 13) : dt s = i := by
 have hx : s[i]? = some s[i] := List.getElem?_eq_getElem hi
 have h2 := bu hx
 unfold dt
 exact Lib.indexAny_hit h hx ((rJ _).2 (by simp; omega))
theorem vE {s : List UInt8} (h : Lib.NoAny s [13, 10] s.length) : dt s = -1 := by
 unfold dt
 exact Lib.indexAny_none h
attribute [local irreducible] AWp AOps aa ax OrOk ad ae
end
end Go.Proofs.YtahebkecmlmlfaaGreatDoor
