/- Parts of the proof of cardItems_card: Uri, Uf, Ug, Hda, Shc, Def, Deg, Deh, Syn, Onc, Ond, Mak, Byt, Rpl, Rpn, Prm, Lna, Rpd. -/
import Derived.Lib.Join
import Derived.Defers
import Derived.Recover
import Derived.Laws.LoneSync
import Derived.Laws.MakeOwn
import Derived.Laws.IdiomCopy
import Derived.Test.YtkelbglfhigmiaaGreatDoorBae
import Derived.Test.YtkelbglfhigmiaaGreatDoorBad
import Derived.Test.YtkelbglfhigmiaaGreatDoorBaa
set_option linter.unusedVariables false
set_option linter.unusedSimpArgs false
set_option linter.unusedSectionVars false
namespace Go.Proofs.YtkelbglfhigmiaaGreatDoor
set_option maxRecDepth 20000
set_option maxHeartbeats 4000000
section
open Go
theorem jf {c : Int} : ∀ (t : List UInt8) (k : Nat), (idxF c t k = -1 ∧ ∀ j, j < t.length → (aa t j : Int) ≠ c) ∨ ∃ m, m < t.length ∧ idxF c t k = ((k + m : Nat) : Int) ∧ (aa t m : Int) = c ∧ ∀ j, j < m → (aa t j : Int) ≠ c
 | [], _ => .inl ⟨rfl, fun j h => absurd h (Nat.not_lt_zero _)⟩
 | x :: t, k => by
  by_cases e : (x.toNat : Int) = c
  ·refine .inr ⟨0, by simp, by simp [idxF, e], by simpa [aa] using e, fun j h => absurd h (Nat.not_lt_zero _)⟩
  ·have e1 : idxF c (x :: t) k = idxF c t (k + 1) := by simp [idxF, e]
   have h0 : ∀ {p : Prop}, (∀ j, j < t.length → (aa t j : Int) ≠ c) → ∀ j, j < (x :: t).length → (aa (x :: t) j : Int) ≠ c := by
    intro _ h j hj
    cases j with
    | zero => simpa [aa] using e
    | succ j => simpa [aa] using h j (by simpa using hj)
   rcases jf (c := c) t (k + 1) with ⟨h1, h2⟩ | ⟨m, h1, h2, h3, h4⟩
   ·exact .inl ⟨by rw [e1, h1], h0 (p := True) h2⟩
   ·refine .inr ⟨m + 1, by simpa using h1, by rw [e1, h2]; omega, by simpa [aa] using h3, fun j hj => ?_⟩
    cases j with
    | zero => simpa [aa] using e
    | succ j => simpa [aa] using h4 j (by omega)
theorem qY {s : List UInt8} {c : Int} {i : Nat} (hi : i < s.length) (h : (aa s i : Int) = c) (h0 : ∀ j, j < i → (aa s j : Int) ≠ c) : idxB s c = i := by
 rcases jf (c := c) s 0 with ⟨h1, h2⟩ | ⟨m, h1, h2, h3, h4⟩
 ·exact absurd h (h2 i hi)
 ·unfold idxB
  rw [h2]
  have : m = i := by
   rcases Nat.lt_trichotomy m i with h5 | h5 | h5
   ·exact absurd h3 (h0 m h5)
   ·exact h5
   ·exact absurd h (h4 i h5)
  omega
theorem pO {s : List UInt8} {c : Int} (h0 : ∀ j, j < s.length → (aa s j : Int) ≠ c) : idxB s c = -1 := by
 rcases jf (c := c) s 0 with ⟨h1, h2⟩ | ⟨m, h1, h2, h3, h4⟩
 ·exact h1
 ·exact absurd h3 (h0 m h1)
theorem fO (s : List UInt8) (c : Int) : (idxB s c = -1 ∧ ∀ j, j < s.length → (aa s j : Int) ≠ c) ∨ ∃ m, m < s.length ∧ idxB s c = (m : Int) ∧ (aa s m : Int) = c ∧ ∀ j, j < m → (aa s j : Int) ≠ c := by
 rcases jf (c := c) s 0 with h | ⟨m, h1, h2, h3⟩
 ·exact .inl h
 ·exact .inr ⟨m, h1, by unfold idxB; rw [h2]; omega, h3⟩
def schB (i : Nat) (c : Int) : Bool := decide ((97 ≤ c ∧ c ≤ 122) ∨ (65 ≤ c ∧ c ≤ 90) ∨ (0 < i ∧ ((48 ≤ c ∧ c ≤ 57) ∨ c = 43 ∨ c = 45 ∨ c = 46)))
theorem uT {i : Nat} {c : Int} : schB i c = true ↔ ((97 ≤ c ∧ c ≤ 122) ∨ (65 ≤ c ∧ c ≤ 90) ∨ (0 < i ∧ ((48 ≤ c ∧ c ≤ 57) ∨ c = 43 ∨ c = 45 ∨ c = 46))) := by simp [schB]
theorem Fr {i : Nat} {c : Int} : schB i c = false ↔ ¬ ((97 ≤ c ∧ c ≤ 122) ∨ (65 ≤ c ∧ c ≤ 90) ∨ (0 < i ∧ ((48 ≤ c ∧ c ≤ 57) ∨ c = 43 ∨ c = 45 ∨ c = 46))) := by simp [schB]
def begN (s : List UInt8) : Nat := if idxB s 58 < 1 then 0 else if ∀ j, j < (idxB s 58).toNat → schB j (aa s j) = true then (idxB s 58).toNat else 0
theorem Ev {s : List UInt8} {i : Nat} (hi : i < s.length) (h : (aa s i : Int) = 58) (h0 : ∀ j, j < i → (aa s j : Int) ≠ 58 ∧ schB j (aa s j) = true) : begN s = i := by
 have e := qY hi h fun j hj => (h0 j hj).1
 unfold begN
 rw [e]
 by_cases h1 : (i : Int) < 1
 ·rw [if_pos h1]; omega
 ·rw [if_neg h1, if_pos (fun j hj => (h0 j (by omega)).2)]
  omega
theorem CL {s : List UInt8} {i : Nat} (hi : i < s.length) (h : (aa s i : Int) ≠ 58) (hb : schB i (aa s i) = false) (h0 : ∀ j, j < i → (aa s j : Int) ≠ 58 ∧ schB j (aa s j) = true) : begN s = 0 := by
 rcases fO s 58 with ⟨h1, _⟩ | ⟨m, h1, h2, h3, h4⟩
 ·unfold begN; rw [h1]; rfl
 ·have : i < m := by
   rcases Nat.lt_trichotomy m i with h5 | h5 | h5
   ·exact absurd h3 (h0 m h5).1
   ·subst h5; exact absurd h3 h
   ·exact h5
  unfold begN
  rw [h2]
  split
  ·rfl
  ·rw [if_neg]
   intro hh
   have := hh i (by omega)
   rw [hb] at this
   cases this
theorem zH {s : List UInt8} (h0 : ∀ j, j < s.length → (aa s j : Int) ≠ 58) : begN s = 0 := by
 unfold begN; rw [pO h0]; rfl
theorem rp {s : List UInt8} (h : begN s ≠ 0) : begN s < s.length ∧ aa s (begN s) = 58 ∧ idxB s 58 = begN s := by
 rcases fO s 58 with ⟨h1, _⟩ | ⟨m, h1, h2, h3, h4⟩
 ·unfold begN at h; rw [h1] at h; exact absurd rfl h
 ·have e : begN s = m := by
   unfold begN at *
   generalize idxB s 58 = z at *
   subst h2
   by_cases e1 : (m : Int) < 1
   ·rw [if_pos e1] at h; exact absurd rfl h
   ·rw [if_neg e1] at h ⊢
    by_cases e2 : ∀ j, j < (m : Int).toNat → schB j (aa s j) = true
    ·rw [if_pos e2]; omega
    ·rw [if_neg e2] at h; exact absurd rfl h
  rw [e]
  exact ⟨h1, by omega, h2⟩
attribute [local irreducible] AWp AOps aa ax OrOk ab ae
attribute [local irreducible] idxB begN schB
theorem uA {G : Glo} (s : List UInt8) (hl : s.length ≤ 9223372036854775807) : FnIs Tryz.prog G 105 [.str s] (.int .i64 (begN s)) := by
  have hGL : ab G [] := ad
  refine fn_x Tryz.func105 Tryz.call105 rfl rfl rfl rfl hGL ?_
  intro C hC
  refine xw1 ?_
  intros
  refine lp hC hGL (fun (i : Nat) => [(0, .str s), (6, .int .i64 s.length), (7, .int .i64 i)]) (fun _ => []) (fun i => i ≤ s.length ∧ ∀ j, j < i → (aa s j : Int) ≠ 58 ∧ schB j (aa s j) = true) (fun i => s.length - i) 0 ?_ aj rfl ?_
  · exact ⟨Nat.zero_le _, by intro j hj; omega⟩
  rintro i ⟨hi, hb0⟩
  refine xw ?_
  repeat' (first | exact Le.n | refine Lc.mk ?_ ?_)
  all_goals intros
  all_goals first
    | (apply ar; refine congrArg (AVal.int .i64) ?_; rw [Ev (i := i) (by omega) (by omega) hb0]; first | done | rfl)
    | (apply ar; refine congrArg (AVal.int .i64) ?_; rw [CL (i := i) (by omega) (by omega) (Fr.2 (by omega)) hb0]; first | done | rfl)
    | (apply ar; refine congrArg (AVal.int .i64) ?_; rw [zH (fun j hj => (hb0 j (by omega)).1)]; first | done | rfl)
    | (refine nxt (i + 1) ?_ ?_ aj rfl
       · exact ⟨by omega, bK hb0 ⟨by omega, uT.2 (by omega)⟩⟩
       · omega)
def schE (s : List UInt8) : Int := if begN s = 0 then 8 else 0
def jQ (c : Int) : Bool := decide (33 ≤ c ∧ c ≤ 126)
theorem n7 {c : Int} : jQ c = true ↔ (33 ≤ c ∧ c ≤ 126) := by simp [jQ]
theorem BU {c : Int} : jQ c = false ↔ ¬ (33 ≤ c ∧ c ≤ 126) := by simp [jQ]
def fstG (f : Int → Bool) : List UInt8 → Nat → Int
 | [], _ => -1
 | x :: t, k => if f (x.toNat : Int) then k else fstG f t (k + 1)
def fstB (f : Int → Bool) (s : List UInt8) : Int := fstG f s 0
theorem jk {f : Int → Bool} : ∀ (t : List UInt8) (k : Nat), (fstG f t k = -1 ∧ ∀ j, j < t.length → f (aa t j : Int) = false) ∨ ∃ m, m < t.length ∧ fstG f t k = ((k + m : Nat) : Int) ∧ f (aa t m : Int) = true ∧ ∀ j, j < m → f (aa t j : Int) = false
 | [], _ => .inl ⟨rfl, fun j h => absurd h (Nat.not_lt_zero _)⟩
 | x :: t, k => by
  by_cases e : f (x.toNat : Int) = true
  ·refine .inr ⟨0, by simp, by simp [fstG, e], by simpa [aa] using e, fun j h => absurd h (Nat.not_lt_zero _)⟩
  ·have e1 : fstG f (x :: t) k = fstG f t (k + 1) := by simp [fstG, e]
   rcases jk (f := f) t (k + 1) with ⟨h1, h2⟩ | ⟨m, h1, h2, h3, h4⟩
   ·refine .inl ⟨by rw [e1, h1], fun j hj => ?_⟩
    cases j with
    | zero => simpa [aa] using e
    | succ j => simpa [aa] using h2 j (by simpa using hj)
   ·refine .inr ⟨m + 1, by simpa using h1, by rw [e1, h2]; omega, by simpa [aa] using h3, fun j hj => ?_⟩
    cases j with
    | zero => simpa [aa] using e
    | succ j => simpa [aa] using h4 j (by omega)
theorem gf {f : Int → Bool} {s : List UInt8} {i : Nat} (hi : i < s.length) (h : f (aa s i : Int) = true) (h0 : ∀ j, j < i → f (aa s j : Int) = false) : fstB f s = i := by
 rcases jk (f := f) s 0 with ⟨h1, h2⟩ | ⟨m, h1, h2, h3, h4⟩
 ·rw [h2 i hi] at h; cases h
 ·unfold fstB
  rw [h2]
  have : m = i := by
   rcases Nat.lt_trichotomy m i with h5 | h5 | h5
   ·rw [h0 m h5] at h3; cases h3
   ·exact h5
   ·rw [h4 i h5] at h; cases h
  omega
theorem dO {f : Int → Bool} {s : List UInt8} (h0 : ∀ j, j < s.length → f (aa s j : Int) = false) : fstB f s = -1 := by
 rcases jk (f := f) s 0 with ⟨h1, h2⟩ | ⟨m, h1, h2, h3, h4⟩
 ·exact h1
 ·rw [h0 m h1] at h3; cases h3
theorem gZ (f : Int → Bool) (s : List UInt8) : (fstB f s = -1 ∧ ∀ j, j < s.length → f (aa s j : Int) = false) ∨ ∃ m, m < s.length ∧ fstB f s = (m : Int) ∧ f (aa s m : Int) = true ∧ ∀ j, j < m → f (aa s j : Int) = false := by
 rcases jk (f := f) s 0 with h | ⟨m, h1, h2, h3⟩
 ·exact .inl h
 ·exact .inr ⟨m, h1, by unfold fstB; rw [h2]; omega, h3⟩
attribute [local irreducible] jQ fstB
theorem lT {G : Glo} (s : List UInt8) (f : Nat) (p : Int → Bool) (hl : s.length ≤ 9223372036854775807) (hp : ∀ c : Nat, c < 256 → FnIs Tryz.prog G f [.int .u8 (c : Int)] (.bool (p c))) : FnIs Tryz.prog G 38 [.str s, .func (.func f) [] []] (.int .i64 (fstB p s)) := by
 have hGL : ab G [] := ad
 refine fn_x Tryz.func38 Tryz.call38 rfl rfl rfl rfl hGL ?_
 intro C hC
 repeat' (first | (conv => whnf); first | refine .w ?_ | refine .v ?_ | refine sc_c ?_ ?_ <;> (intro hb; try exact dd hb) | apply ah | apply aq | (apply sc_i <;> intro hb) | (apply bx_i; intro hbd) | (apply ak; first | fail) | (apply ap (i := 0) rfl; first | fail) | (apply ab_i; intro bl) | (apply as_i; intro va vk vc hva) | (apply av_i; intro v) | (apply ac_i; intro bl cap hcap) | apply bo_l | (apply nx_i <;> intro hnx) | exact rt_w | apply dw_q mixed hC hGL (by kernel_rfl) | (apply cq; assumption; (first | fail); exact rfl))
 all_goals try conv => whnf
 refine lp hC hGL (fun (i : Nat) => [(1, .func (.func f) [] []), (8, .own 0 (.slice (some ⟨bl, 0, none⟩) s.length cap)), (9, .int .i64 s.length), (10, .int .i64 i)]) (fun _ => [.buf bl s cap]) (fun i => i ≤ s.length ∧ ∀ j, j < i → p (aa s j : Int) = false) (fun i => s.length - i) 0 ?_ aj rfl ?_
 ·exact ⟨Nat.zero_le _, by intro j hj; omega⟩
 rintro i ⟨hi, hb0⟩
 repeat' (first | (conv => whnf); first | refine .w ?_ | refine .v ?_ | refine sc_c ?_ ?_ <;> (intro hb; try exact dd hb) | apply ah | apply aq | (apply sc_i <;> intro hb) | (apply bx_i; intro hbd) | (apply ak; first | exact hp _ (by omega)) | (apply ap (i := 0) rfl; first | exact hp _ (by omega)) | (apply ab_i; intro bl) | (apply as_i; intro va vk vc hva) | (apply av_i; intro v) | (apply ac_i; intro bl cap hcap) | apply bo_l | (apply nx_i <;> intro hnx) | exact rt_w | apply dw_q mixed hC hGL (by kernel_rfl) | (apply cq; assumption; (first | exact hp _ (by omega)); exact rfl))
 all_goals try conv => whnf
 ·apply ar
  rw [gf (i := i) (by omega) hb hb0]
 ·refine nxt (i + 1) ?_ ?_ aj rfl
  ·exact ⟨by omega, bK hb0 hb⟩
  ·omega
 ·apply ar
  rw [dO (fun j hj => hb0 j (by omega))]
  rfl
theorem tw {c : Int} (h0 : 0 ≤ c) (h1 : c ≤ 255) : decide (idxB ((abcU ++ abcL) ++ []) c < 0) = !schB 0 c := by
 have := jr (p := fun c => decide (idxB ((abcU ++ abcL) ++ []) c < 0) == !schB 0 c) (by decide +kernel) h0 h1
 simpa using this
def schD : List UInt8 := [48, 49, 50, 51, 52, 53, 54, 55, 56, 57, 43, 45, 46]
theorem tv {c : Int} (h0 : 0 ≤ c) (h1 : c ≤ 255) : decide (idxB ((abcU ++ abcL) ++ schD) c < 0) = !schB 1 c := by
 have := jr (p := fun c => decide (idxB ((abcU ++ abcL) ++ schD) c < 0) == !schB 1 c) (by decide +kernel) h0 h1
 simpa using this
theorem pj {i : Nat} {c : Int} (h : i = 0) : schB i c = schB 0 c := by rw [h]
theorem pk {i : Nat} {c : Int} (h : 0 < i) : schB i c = schB 1 c := by
 rw [Bool.eq_iff_iff, uT, uT]; omega
theorem CM {s : List UInt8} {m : Nat} (hm : idxB s 58 = m) (h1 : 0 < m) (h : ∀ j, j < m → schB j (aa s j) = true) : begN s = m := by
 unfold begN
 rw [hm, if_neg (by omega), if_pos (fun j hj => h j (by omega))]
 omega
theorem CK {s : List UInt8} {m : Nat} (hm : idxB s 58 = m) {i : Nat} (hi : i < m) (h : schB i (aa s i) = false) : begN s = 0 := by
 unfold begN
 rw [hm]
 split
 ·rfl
 ·rw [if_neg]
  intro hh
  have := hh i (by omega)
  rw [h] at this
  cases this
theorem vl {G : Glo} (s : List UInt8) (hl : s.length ≤ 9223372036854775807) : FnIs Tryz.prog G 85 [.str s] (.tuple [.str (s.take (begN s)), .int .i64 (schE s)]) := by
 have hGL : ab G [] := ad
 refine fn_x Tryz.func85 Tryz.call85 rfl rfl rfl rfl hGL ?_
 intro C hC
 have hI := aL (G := G) s 58 (by decide) (by decide)
 have hT := iq (G := G)
 have hJ0 := fun c h0 h1 => aL (G := G) ((abcU ++ abcL) ++ []) c h0 h1
 have hJ1 := fun c h0 h1 => aL (G := G) ((abcU ++ abcL) ++ schD) c h0 h1
 have hle : idxB s 58 < s.length := by
  rcases fO s 58 with ⟨h1, _⟩ | ⟨m, h1, h2, _⟩ <;> omega
 repeat' (first | (conv => whnf); first | refine .w ?_ | refine .v ?_ | refine sc_c ?_ ?_ <;> (intro hb; try exact dd hb) | apply ah | apply aq | (apply sc_i <;> intro hb) | (apply bx_i; intro hbd) | (apply ak; first | exact hI) | (apply ap (i := 0) rfl; first | exact hI) | (apply ab_i; intro bl) | (apply as_i; intro va vk vc hva) | (apply av_i; intro v) | (apply ac_i; intro bl cap hcap) | apply bo_l | (apply nx_i <;> intro hnx) | exact rt_w | apply dw_q mixed hC hGL (by kernel_rfl) | (apply cq; assumption; (first | exact hI); exact rfl))
 all_goals try conv => whnf
 ·apply ar
  have e : begN s = 0 := by unfold begN; rw [if_pos (by omega)]
  rw [schE, if_pos e, e]
  rfl
 have hm0 : ∃ m : Nat, idxB s 58 = m ∧ 0 < m ∧ m < s.length := ⟨(idxB s 58).toNat, by omega, by omega, by omega⟩
 obtain ⟨m, hm, hm1, hm2⟩ := hm0
 have hA := CM hm hm1
 have hN := fun i hi h => CK (i := i) hm hi h
 have hbt := fun j (hj : j < m) => cg (s := s) hj
 rw [hm] at *
 rw [show (m : Int).toNat = m from rfl] at *
 have ht : (s.take m).length = m := by rw [List.length_take]; omega
 rw [ht] at *
 refine lp hC hGL (fun (i : Nat) => [(0, .str s), (4, .int .i64 m), (15, .own 0 (.slice (some ⟨bl, 0, none⟩) m cap)), (16, .int .i64 m), (17, .int .i64 i)]) (fun _ => [.buf bl (s.take m) cap]) (fun i => i ≤ m ∧ ∀ j, j < i → schB j (aa s j) = true) (fun i => m - i) 0 ?_ aj rfl ?_
 ·exact ⟨Nat.zero_le _, by intro j hj; omega⟩
 rintro i ⟨hi, hb0⟩
 repeat' (first | (conv => whnf); first | refine .w ?_ | refine .v ?_ | refine sc_c ?_ ?_ <;> (intro hb; try exact dd hb) | apply ah | apply aq | (apply sc_i <;> intro hb) | (apply bx_i; intro hbd) | (apply ak; first | exact hT | (exact hJ0 _ (by omega) (by omega)) | (exact hJ1 _ (by omega) (by omega))) | (apply ap (i := 0) rfl; first | exact hT | (exact hJ0 _ (by omega) (by omega)) | (exact hJ1 _ (by omega) (by omega))) | (apply ab_i; intro bl) | (apply as_i; intro va vk vc hva) | (apply av_i; intro v) | (apply ac_i; intro bl cap hcap) | apply bo_l | (apply nx_i <;> intro hnx) | exact rt_w | apply dw_q mixed hC hGL (by kernel_rfl) | (apply cq; assumption; (first | exact hT | (exact hJ0 _ (by omega) (by omega)) | (exact hJ1 _ (by omega) (by omega))); exact rfl))
 all_goals try conv => whnf
 ·apply ar
  have hx := tw (c := (aa (s.take m) i : Int)) (by omega) (by omega)
  rw [decide_eq_true hb, hbt i (by omega)] at hx
  have e := hN i (by omega) (by rw [pj (by omega)]; simpa using hx.symm)
  rw [schE, if_pos e, e]
  rfl
 ·have hx := tw (c := (aa (s.take m) i : Int)) (by omega) (by omega)
  rw [decide_eq_false (by omega), hbt i (by omega)] at hx
  refine nxt (i + 1) ?_ ?_ aj rfl
  ·exact ⟨by omega, bK hb0 (by rw [pj (by omega)]; simpa using hx.symm)⟩
  ·omega
 ·apply ar
  have hx := tv (c := (aa (s.take m) i : Int)) (by omega) (by omega)
  rw [decide_eq_true hb, hbt i (by omega)] at hx
  have e := hN i (by omega) (by rw [pk (by omega)]; simpa using hx.symm)
  rw [schE, if_pos e, e]
  rfl
 ·have hx := tv (c := (aa (s.take m) i : Int)) (by omega) (by omega)
  rw [decide_eq_false (by omega), hbt i (by omega)] at hx
  refine nxt (i + 1) ?_ ?_ aj rfl
  ·exact ⟨by omega, bK hb0 (by rw [pk (by omega)]; simpa using hx.symm)⟩
  ·omega
 ·apply ar
  have e := hA (fun j hj => hb0 j (by omega))
  rw [schE, if_neg (by omega), e]
  rfl
def cE (c : Int) : Bool := !jQ c
theorem nF {c : Int} : cE c = true ↔ ¬ (33 ≤ c ∧ c ≤ 126) := by simp [cE, n7, BU]
theorem vw {c : Int} : cE c = false ↔ (33 ≤ c ∧ c ≤ 126) := by simp [cE, n7]
def uriE (s : List UInt8) : Err := if begN s = 0 then .errno 8 else if 0 ≤ fstB cE s then .at 3 (fstB cE s) else if begN s + 1 = s.length then .at 7 s.length else .none
attribute [local irreducible] cE
theorem yz {G : Glo} (s : List UInt8) (hl : s.length ≤ 9223372036854775807) : FnIs Tryz.prog G 67 [.str s] (uriE s).A := by
 have hGL : ab G [] := ad
 refine fn_x Tryz.func67 Tryz.call67 rfl rfl rfl rfl hGL ?_
 intro C hC
 have hb0 := uA (G := G) s hl
 have hlt : begN s ≠ 0 → begN s < s.length := fun h => (rp h).1
 refine xw ?_
 repeat' (first | exact Le.n | refine Lc.mk ?_ ?_)
 all_goals intros
 ·apply ar
  rw [uriE, if_pos (by omega)]
  rfl
 refine lp hC hGL (fun (i : Nat) => [(0, .str s), (3, .int .i64 (begN s)), (11, .int .i64 s.length), (12, .int .i64 i)]) (fun _ => []) (fun i => i ≤ s.length ∧ ∀ j, j < i → cE (aa s j) = false) (fun i => s.length - i) 0 ?_ aj rfl ?_
 ·exact ⟨Nat.zero_le _, by intro j hj; omega⟩
 rintro i ⟨hi, hg0⟩
 refine xw ?_
 repeat' (first | exact Le.n | refine Lc.mk ?_ ?_)
 all_goals intros
 ·apply ar
  rw [uriE, if_neg (by omega), gf (i := i) (by omega) (nF.2 (by omega)) hg0, if_pos (by omega)]
  rfl
 ·apply ar
  rw [uriE, if_neg (by omega), gf (i := i) (by omega) (nF.2 (by omega)) hg0, if_pos (by omega)]
  rfl
 ·refine nxt (i + 1) ?_ ?_ aj rfl
  ·exact ⟨by omega, bK hg0 (vw.2 (by omega))⟩
  ·omega
 ·apply ar
  rw [uriE, if_neg (by omega), dO (fun j hj => hg0 j (by omega)), if_neg (by omega), if_pos (by omega)]
  rfl
 ·apply ar
  rw [uriE, if_neg (by omega), dO (fun j hj => hg0 j (by omega)), if_neg (by omega), if_neg (by omega)]
  rfl
theorem y3 {G : Glo} (c : Int) (h0 : 0 ≤ c) (h1 : c ≤ 255) : FnIs Tryz.prog G 87 [.int .u8 c] (.bool (jQ c)) := by
 have hGL : ab G [] := ad
 refine fn_x Tryz.func87 Tryz.call87 rfl rfl rfl rfl hGL ?_
 intro C hC
 have hw := cY (G := G) c 33 126
 refine xw1 ?_
 intros
 apply ar
 refine congrArg AVal.bool ?_
 rw [Bool.eq_iff_iff, n7]
 simp
theorem qE {G : Glo} (c : Int) (h0 : 0 ≤ c) (h1 : c ≤ 255) : FnIs Tryz.prog G 86 [.int .u8 c] (.bool (cE c)) := by
 have hGL : ab G [] := ad
 refine fn_x Tryz.func86 Tryz.call86 rfl rfl rfl rfl hGL ?_
 intro C hC
 have hw := y3 (G := G) c h0 h1
 refine xw1 ?_
 intros
 apply ar
 unfold cE
 rfl
theorem qG {G : Glo} (s : List UInt8) (hl : s.length ≤ 9223372036854775807) : FnIs Tryz.prog G 49 [.str s] (.agg [.int .i64 (uriE s).e, .int .i64 (uriE s).p]) := by
 have hGL : ab G [] := ad
 refine fn_x Tryz.func49 Tryz.call49 rfl rfl rfl rfl hGL ?_
 intro C hC
 have h1 := vl (G := G) s hl
 have h2 := lT (G := G) s 86 cE hl (fun c hc => qE (G := G) c (by omega) (by omega))
 have h3 := nr (G := G)
 have h4 := fK (G := G)
 have hn : schE s = 0 → begN s < s.length ∧ begN s ≠ 0 := fun h => by
  unfold schE at h
  split at h
  ·cases h
  ·exact ⟨(rp (by assumption)).1, by assumption⟩
 have hln : schE s = 0 → (s.take (begN s)).length = begN s := fun h => by
  have := (hn h).1
  rw [List.length_take]; omega
 have hs58 : schE s = 0 → (s = s.take (begN s) ++ [58] ↔ begN s + 1 = s.length) := fun h => by
  have h1 := hn h
  have h2 := hln h
  have h3 := (rp h1.2).2.1
  constructor
  ·intro e
   have := congrArg List.length e
   rw [List.length_append, h2] at this
   simpa using this.symm
  ·intro e
   refine List.ext_getElem (by rw [List.length_append, h2]; simpa using e.symm) (fun j j1 j2 => ?_)
   by_cases hj : j < begN s
   ·rw [List.getElem_append_left (by omega), List.getElem_take]
   ·rw [List.getElem_append_right (by omega)]
    have ej : j = begN s := by omega
    subst ej
    rw [aW (by omega)] at h3
    have : s[begN s] = 58 := UInt8.toNat_inj.1 (by simpa using h3)
    simp [h2, this]
 repeat' (first | (conv => whnf); first | refine .w ?_ | refine .v ?_ | refine sc_c ?_ ?_ <;> (intro hb; try exact dd hb) | apply ah | apply aq | (apply sc_i <;> intro hb) | (apply bx_i; intro hbd) | (apply ak; first | exact h1 | exact h2 | exact h3 _ | exact h4) | (apply ap (i := 0) rfl; first | exact h1 | exact h2 | exact h3 _ | exact h4) | (apply ab_i; intro bl) | (apply as_i; intro va vk vc hva) | (apply av_i; intro v) | (apply ac_i; intro bl cap hcap) | apply bo_l | (apply nx_i <;> intro hnx) | exact rt_w | apply dw_q mixed hC hGL (by kernel_rfl) | (apply cq; assumption; (first | exact h1 | exact h2 | exact h3 _ | exact h4); exact rfl))
 all_goals try conv => whnf
 ·apply ar
  have e : begN s = 0 := by unfold schE at hb; split at hb; assumption; exact absurd rfl hb
  rw [uriE, schE, if_pos e, if_pos e]
  rfl
 ·apply ar
  rw [uriE, if_neg (hn (by assumption)).2, if_pos (by omega)]
  rfl
 ·apply ar
  rw [uriE, if_neg (hn (by assumption)).2, if_neg (by omega), if_pos ((hs58 (by assumption)).1 hb)]
  rfl
 ·apply ar
  rw [uriE, if_neg (hn (by assumption)).2, if_neg (by omega), if_neg (fun h => hb ((hs58 (by assumption)).2 h))]
  rfl
end
section
open Go
attribute [local irreducible] AWp AOps aa ax OrOk ab ae
attribute [local irreducible] aB badI badS cm rngR ownB
def mayZ (r : Int) : Bool := decide (0 ≤ r ∧ r ≤ 1114111 ∧ (r < 55296 ∨ 57343 < r))
theorem jN {r : Int} : mayZ r = true ↔ (0 ≤ r ∧ r ≤ 1114111 ∧ (r < 55296 ∨ 57343 < r)) := by simp [mayZ]
theorem FN {r : Int} : mayZ r = false ↔ ¬ (0 ≤ r ∧ r ≤ 1114111 ∧ (r < 55296 ∨ 57343 < r)) := by simp [mayZ]
attribute [local irreducible] mayZ
theorem iW {G : Glo} (r : Int) : FnIs Tryz.prog G 127 [.int .i64 r] (.bool (mayZ r)) := by
 have hGL : ab G [] := ad
 refine fn_x Tryz.func127 Tryz.call127 rfl rfl rfl rfl hGL ?_
 intro C hC
 repeat' (first | (conv => whnf); first | refine .w ?_ | refine .v ?_ | refine sc_c ?_ ?_ <;> (intro hb; try exact dd hb) | apply ah | apply aq | (apply sc_i <;> intro hb) | (apply bx_i; intro hbd) | (apply ak; first | fail) | (apply ap (i := 0) rfl; first | fail) | (apply ab_i; intro bl) | (apply as_i; intro va vk vc hva) | (apply av_i; intro v) | (apply ac_i; intro bl cap hcap) | apply bo_l | (apply nx_i <;> intro hnx) | exact rt_w | apply dw_q mixed hC hGL (by kernel_rfl) | (apply cq; assumption; (first | fail); exact rfl))
 all_goals try conv => whnf
 all_goals (apply ar)
 all_goals (refine congrArg AVal.bool ?_)
 all_goals (rw [Bool.eq_iff_iff]; simp [jN, lZ, kD, Bool.not_eq_true'] <;> omega)
theorem tup2 {k j : IntKind} {a b c e : Int} {H' : Heap} (h : c = a ∧ e = b) : Rt (fun (x : ARes) (H : Heap) => x = .ret (.tuple [.int k c, .int j e]) ∧ H = []) (.tuple [.int k a, .int j b]) H' := by
 obtain ⟨rfl, rfl⟩ := h
 exact ar rfl
theorem gr {G : Glo} (s : List UInt8) : FnIs Tryz.prog G 89 [.str s] (.tuple [.int .i64 ((aB s).1 : Int), .int .i64 ((aB s).2 : Int)]) := by
 have hGL : ab G [] := ad
 refine fn_x Tryz.func89 Tryz.call89 rfl rfl rfl rfl hGL ?_
 intro C hC
 repeat' (first | (conv => whnf); first | refine .w ?_ | refine .v ?_ | refine sc_c ?_ ?_ <;> (intro hb; try exact dd hb) | apply ah | apply aq | (apply sc_i <;> intro hb) | (apply bx_i; intro hbd) | (apply ak; first | exact iW _) | (apply ap (i := 0) rfl; first | exact iW _) | (apply ab_i; intro bl) | (apply as_i; intro va vk vc hva) | (apply av_i; intro v) | (apply ac_i; intro bl cap hcap) | apply bo_l | (apply nx_i <;> intro hnx) | exact rt_w | apply dw_q mixed hC hGL (by kernel_rfl) | (apply cq; assumption; (first | exact iW _); exact rfl))
 all_goals try conv => whnf
 any_goals (refine rds hC hGL 4 ?_)
 repeat' (first | (conv => whnf); first | refine .w ?_ | refine .v ?_ | refine sc_c ?_ ?_ <;> (intro hb; try exact dd hb) | apply ah | apply aq | (apply sc_i <;> intro hb) | (apply bx_i; intro hbd) | (apply ak; first | exact iW _) | (apply ap (i := 0) rfl; first | exact iW _) | (apply ab_i; intro bl) | (apply as_i; intro va vk vc hva) | (apply av_i; intro v) | (apply ac_i; intro bl cap hcap) | apply bo_l | (apply nx_i <;> intro hnx) | exact rt_w | apply dw_q mixed hC hGL (by kernel_rfl) | (apply cq; assumption; (first | exact iW _); exact rfl))
 all_goals try conv => whnf
 all_goals (refine tup2 ?_)
 all_goals (
  try simp only [show Int.toNat 0 = 0 from rfl, show Int.toNat 1 = 1 from rfl, show Int.toNat (1 + 1) = 2 from rfl, show Int.toNat (1 + 1 + 1) = 3 from rfl, Int.ofNat_toNat, jN, FN, lZ, kD] at *
  generalize hz : aB s = z
  unfold aB dc mayN cp2 cp3 cp4 at hz
  generalize aa s 0 = b0 at *
  generalize aa s 1 = b1 at *
  generalize aa s 2 = b2 at *
  generalize aa s 3 = b3 at *
  generalize s.length = l at *)
 all_goals (
  repeat' (split at hz; try (exfalso; omega))
  all_goals (try subst z)
  all_goals (first
   | exact ⟨rfl, rfl⟩
   | (simp only [Bool.and_eq_true, Bool.or_eq_true, decide_eq_true_eq, beq_iff_eq] at *; first | (exfalso; omega) | omega)))
end
section
open Go
attribute [local irreducible] AWp AOps aa ax OrOk ab ae
attribute [local irreducible] aB badI badS cm rngR ownB
theorem wO {G : Glo} (s : List UInt8) (hl : s.length ≤ 9223372036854775807) : FnIs Tryz.prog G 51 [.str s] (.int .i64 (badI s)) := by
 have hGL : ab G [] := ad
 refine fn_x Tryz.func51 Tryz.call51 rfl rfl rfl rfl hGL ?_
 intro C hC
 have hle := fun k => kB (s.drop k)
 repeat' (first | (conv => whnf); first | refine .w ?_ | refine .v ?_ | refine sc_c ?_ ?_ <;> (intro hb; try exact dd hb) | apply ah | apply aq | (apply sc_i <;> intro hb) | (apply bx_i; intro hbd) | (apply ak; first | exact gr _) | (apply ap (i := 0) rfl; first | exact gr _) | (apply ab_i; intro bl) | (apply as_i; intro va vk vc hva) | (apply av_i; intro v) | (apply ac_i; intro bl cap hcap) | apply bo_l | (apply nx_i <;> intro hnx) | exact rt_w | apply dw_q mixed hC hGL (by kernel_rfl) | (apply cq; assumption; (first | exact gr _); exact rfl))
 all_goals try conv => whnf
 refine lp hC hGL (fun (i : Nat) => [(0, .str s), (3, .int .i64 i)]) (fun _ => []) (fun i => i ≤ s.length ∧ badS s = (badS (s.drop i)).map (· + i)) (fun i => s.length - i) 0 ?_ aj rfl ?_
 ·exact ⟨Nat.zero_le _, by simp⟩
 rintro i ⟨hi, hb0⟩
 have hn := hle i
 rw [List.length_drop] at hn
 repeat' (first | (conv => whnf); first | refine .w ?_ | refine .v ?_ | refine sc_c ?_ ?_ <;> (intro hb; try exact dd hb) | apply ah | apply aq | (apply sc_i <;> intro hb) | (apply bx_i; intro hbd) | (apply ak; first | exact gr _) | (apply ap (i := 0) rfl; first | exact gr _) | (apply ab_i; intro bl) | (apply as_i; intro va vk vc hva) | (apply av_i; intro v) | (apply ac_i; intro bl cap hcap) | apply bo_l | (apply nx_i <;> intro hnx) | exact rt_w | apply dw_q mixed hC hGL (by kernel_rfl) | (apply cq; assumption; (first | exact gr _); exact rfl))
 all_goals try conv => whnf
 ·apply ar
  refine congrArg (AVal.int .i64) ?_
  have h1 := jq (s.drop i) (by rw [List.length_drop]; omega)
  rw [if_pos (by omega)] at h1
  rw [h1] at hb0
  simp only [badI, hb0, Option.map_some, Nat.zero_add]
 ·have h1 := jq (s.drop i) (by rw [List.length_drop]; omega)
  rw [if_neg (by omega)] at h1
  refine nxt (i + (aB (s.drop i)).2) ?_ ?_ aj rfl
  ·refine ⟨by omega, ?_⟩
   rw [hb0, h1, List.drop_drop]
   cases badS (s.drop (i + (aB (s.drop i)).2)) <;> simp <;> omega
  ·omega
 ·apply ar
  refine congrArg (AVal.int .i64) ?_
  rw [ue (s.drop i) (by rw [List.length_drop]; omega)] at hb0
  simp only [badI, hb0, Option.map_none]
end
section
open Go Go.RowKit
def hdC (lines : Bool) (c : Int) : Bool := decide ((c < 32 ∧ c ≠ 9 ∧ (c ≠ 10 ∨ lines = false)) ∨ c = 127)
def hdB (lines : Bool) (s : List UInt8) : Bool := decide (badI s < 0 ∧ fstB (hdC lines) s < 0)
end
section
open Go Go.RowKit
theorem MS.below {C : Ctx} {R : Seal} {H : Heap} {w w' : World} (h : MS C R H w) (hb : Below w.heap.size w w') : MS C R H w' := by
 have hlt : ∀ {b : Nat} {o : Obj}, w.heap[b]? = some o → b < w.heap.size := fun {b o} h1 => by
  rcases Nat.lt_or_ge b w.heap.size with h | h
  ·exact h
  ·rw [Array.getElem?_eq_none h] at h1; cases h1
 refine ⟨fun b o ho => ?_, h.ge, h.fresh, ⟨fun x hx => ?_, h.heap.nodup, h.heap.apart⟩, h.own, ?_⟩
 ·have h1 := h.sealed b o ho
  rw [hb.block b (hlt h1), h1]
 ·exact HEnt.holds_mono (h.heap.holds x hx) (Seal.le_refl R) (fun b hbk => hb.block b (HEnt.blk_lt (h.heap.holds x hx) hbk))
 ·exact ⟨hb.os.trans h.ext.os, hb.tape.trans h.ext.tape, hb.output.trans h.ext.output, Nat.le_trans h.ext.size hb.size, fun b hlt hn => by
   rw [hb.block b (Nat.lt_of_lt_of_le hlt h.ext.size)]; exact h.ext.block b hlt hn⟩
def bM (l : List (List UInt8)) : List AVal := l.map .str
def aO (l : List (List UInt8)) (i : Nat) : AVal := .str (l.getD i [])
theorem dS (l : List (List UInt8)) : ∀ i, i < l.length → (aO l i).cells = ((bM l).drop (i * 1)).take 1 ∧ (aO l i).plain = true := by
 intro i hi
 refine ⟨?_, rfl⟩
 have : i < (bM l).length := by simpa [bM] using hi
 rw [Nat.mul_one, List.drop_eq_getElem_cons this]
 simp [aO, AVal.cells, bM, List.getD, hi]
theorem cx (l : List (List UInt8)) (s : List UInt8) : bM l ++ [.str s] = bM (l ++ [s]) := by simp [bM]
theorem pg (l : List (List UInt8)) : (bM l).length = l.length := by simp [bM]
end
section
open Go Go.RowKit
/-! ## Values that are known whole -/
def Cu : AVal → Option Value
 | .own _ v => some v
 | .raw v => some v
 | .int k n => some (.int k n)
 | .bool b => some (.bool b)
 | _ => none
def on : List AVal → Option (List Value)
 | [] => some []
 | a :: t => match Cu a, on t with
  | some v, some r => some (v :: r)
  | _, _ => none
theorem Eo {R : Seal} {a : AVal} {v x : Value} (h : Cu a = some v) (hr : Rel R a x) : x = v := by
 cases a <;> simp only [Cu, Option.some.injEq, reduceCtorEq] at h <;> subst h
 ·exact aE.1 hr
 ·exact ao.1 hr
 ·exact an.1 hr
 ·exact (aA.1 hr).1
theorem kP {R : Seal} : ∀ {l : List AVal} {vs xs : List Value}, on l = some vs → RelV R l xs → xs = vs
 | [], vs, xs, h, hr => by
  simp only [on, Option.some.injEq] at h
  subst h
  simpa [RelV] using hr
 | a :: t, vs, xs, h, hr => by
  simp only [on] at h
  split at h
  ·rename_i v r hv ht
   simp only [Option.some.injEq] at h
   subst h
   obtain ⟨x, ys, rfl, h1, h2⟩ := hr
   rw [Eo hv h1, kP ht h2]
  ·cases h
def Cb (env : Env) (fv : Operand) (args : List Operand) : Option Deferred :=
 match ai env fv with
 | some (.func (.func f) l1 l2) => match on l1, eX env args, on l2 with
  | some x1, some avs, some x2 => match on avs with
   | some xs => some { target := .fn (.func f) x2.toArray, args := (x1 ++ xs).toArray }
   | none => none
  | _, _, _ => none
 | _ => none
theorem rQ {P : Program} {o : Oper} {a : Act} {next next' : Act → World → Prop} {Q Q' : Exit → Act → World → Prop} {r : Result Next} (hn : ∀ a w, next a w → next' a w)
  (hp : ∀ ch a w, Q (.panic ch) a w → Q' (.panic ch) a w) (ho : LetsOut Q → LetsOut Q') (hh : o.upon P a next Q r) : o.upon P a next' Q' r := by
 cases r with
 | ok n w' =>
  cases n <;> simp only [Oper.upon] at hh ⊢ <;>
   first
    | exact hn _ _ hh
    | exact Calls.mono hh (fun e w'' he => by cases e <;> first | exact hn _ _ he | exact hp _ _ _ he | exact ho he)
    | exact Rows.mono hh (fun _ _ he => hn _ _ he)
 | halt x w' => cases x <;> simp only [Oper.upon] at hh ⊢ <;> exact hp _ _ _ hh
def Ap (P : Program) (ops : Array Oper) (l : List Oper) (Q : Exit → Act → World → Prop) : Exit → Act → World → Prop
 | .normal, a, w => wpList P ops Q l a w
 | e, a, w => Q e a w
theorem jI {P : Program} {ops : Array Oper} {l : List Oper} {Q : Exit → Act → World → Prop} : ∀ {pre : List Oper} {a : Act} {w : World}, wpList P ops (Ap P ops l Q) pre a w → wpList P ops Q (pre ++ l) a w
 | [], a, w, h => h
 | o :: pre, a, w, h => by
  simp only [List.cons_append, wpList] at h ⊢
  split
  ·rename_i hw
   rw [if_pos hw] at h
   rcases h with h | ⟨h1, h2⟩
   ·exact .inl (rQ (fun _ _ => jI) (fun _ _ _ => id) (fun ⟨a, w, q⟩ => ⟨a, w, q⟩) h)
   ·exact .inr ⟨h1, h2⟩
  ·rename_i hw
   rw [if_neg hw] at h
   exact jI h
/-! ## The spine -/
def withD (C : Ctx) (D : List Deferred) : Ctx := ⟨C.w0, C.R0, C.B0, C.G, C.hG, D⟩
theorem MS.withD {C : Ctx} {R : Seal} {H : Heap} {w : World} (h : MS C R H w) (D : List Deferred) : MS (withD C D) R H w := ⟨h.sealed, h.ge, h.fresh, h.heap, h.own, h.ext⟩
theorem MS.ofD {C : Ctx} {R : Seal} {H : Heap} {w : World} {D : List Deferred} (h : MS (Proofs.YtkelbglfhigmiaaGreatDoor.withD C D) R H w) : MS C R H w := ⟨h.sealed, h.ge, h.fresh, h.heap, h.own, h.ext⟩
def C6 (C : Ctx) (n : Nat) (Q : List Deferred → AExit → Env → Heap → Prop) (e : Exit) (a : Act) (w : World) : Prop :=
 ∃ D x env H R, Q D x env H ∧ au R x e ∧ MS C R H w ∧ FS D n R env a
def AWpD (P : Program) (C : Ctx) (n : Nat) (c : Code) (env : Env) (H : Heap) (Q : List Deferred → AExit → Env → Heap → Prop) : Prop :=
 ∀ R a w, MS C R H w → FS C.D n R env a → c.wp P (C6 C n Q) a w
section
variable {P : Program} {C : Ctx} {n : Nat} {env : Env} {H : Heap} {Q : List Deferred → AExit → Env → Heap → Prop} {G : Glo} {GL : List (Nat × List AVal)}
theorem CO {c : Code} (h : AWp P C n c env H (Q C.D)) : AWpD P C n c env H Q :=
 fun R a w hm hf => wp_mono (h R a w hm hf) fun _ _ _ ⟨x, en, H', R', q, r⟩ => ⟨C.D, x, en, H', R', q, r⟩
theorem ec [Tab P] (hC : C.G = G) (hGL : ab G GL) {c : Code} (h : dv P C n G GL c env H (Q C.D)) : AWpD P C n c env H Q := CO (bD hC hGL _ _ _ _ h)
def GM (K : List Deferred → Env → Heap → Prop) (Q : List Deferred → AExit → Env → Heap → Prop) : List Deferred → AExit → Env → Heap → Prop
 | D, .normal, e, h => K D e h
 | D, x, e, h => Q D x e h
theorem fw {x y : Code} (h : AWpD P C n x env H (GM (fun D e h => AWpD P (withD C D) n y e h Q) Q)) : AWpD P C n (.seq x y) env H Q := by
 intro R a w hm hf
 refine wp_seq (wp_mono (h R a w hm hf) ?_)
 rintro e a' w' ⟨D, x, en, H', R', q, er, hm', hf'⟩
 cases x with
 | normal =>
  simp only [au] at er; subst er
  exact wp_mono (q R' a' w' (hm'.withD D) hf') fun _ _ _ ⟨D2, x, en, H', R', q, er, hm2, hf2⟩ => ⟨D2, x, en, H', R', q, er, hm2.ofD, hf2⟩
 | exit i => simp only [au] at er; subst er; exact ⟨D, .exit i, en, H', R', q, rfl, hm', hf'⟩
 | goto i => simp only [au] at er; subst er; exact ⟨D, .goto i, en, H', R', q, rfl, hm', hf'⟩
 | ret => simp only [au] at er; subst er; exact ⟨D, .ret, en, H', R', q, rfl, hm', hf'⟩
 | panic v => obtain ⟨y, rfl, hr⟩ := er; exact ⟨D, .panic v, en, H', R', q, ⟨y, rfl, hr⟩, hm', hf'⟩
theorem CP {c : Operand} {x y : Code} {b : Bool} (hc : ai env c = some (.bool b)) (ht : b = true → AWpD P C n x env H Q) (hf : b = false → AWpD P C n y env H Q) : AWpD P C n (.cond c x y) env H Q := by
 intro R a w hm hfs
 refine wp_cond (aE.1 (hfs.eval hc)) ?_
 cases b with
 | true => exact ht rfl R a w hm hfs
 | false => exact hf rfl R a w hm hfs
structure Df (d : Option Deferred) (K : Deferred → Prop) : Prop where
 h : ∃ x, d = some x ∧ K x
def defQ (C : Ctx) (fv : Operand) (args : List Operand) (Q : List Deferred → AExit → Env → Heap → Prop) : AExit → Env → Heap → Prop
 | .normal, e, h => Df (Cb e fv args) fun d => Q (d :: C.D) .normal e h
 | x, e, h => Q C.D x e h
theorem gH [Tab P] {id : Nat} {ops : Array Oper} {fv : Operand} {args : Array Operand} {ts : Array TypeId} {ty : TypeId} {pos : String} {af : Array Edge} (hC : C.G = G) (hGL : ab G GL)
  (hl : ops.toList = ops.toList.dropLast ++ [{ dst := none, op := .defer { callee := .value fv, args := args, argTypes := ts }, type := ty, pos := pos, after := af, guard := none }])
  (h : opsX P C n G GL ops (defQ C fv args.toList Q) ops.toList.dropLast env H) : AWpD P C n (.region id ops false) env H Q := by
 intro R a w hm hf
 refine wp_region_list ?_
 rw [hl]
 refine jI ?_
 have h1 := cP (C := C) hC hGL _ _ _ h R a w hm hf
 have key : ∀ {l : List Oper} {a w}, wpList P ops (Post C n (defQ C fv args.toList Q)) l a w → wpList P ops (Ap P ops [{ dst := none, op := .defer { callee := .value fv, args := args, argTypes := ts }, type := ty, pos := pos, after := af, guard := none }] (C6 C n Q)) l a w := by
  have hq : ∀ e a w, Post C n (defQ C fv args.toList Q) e a w → Ap P ops [{ dst := none, op := .defer { callee := .value fv, args := args, argTypes := ts }, type := ty, pos := pos, after := af, guard := none }] (C6 C n Q) e a w := by
   rintro e a' w' ⟨x, en, H', R', q, er, hm', hf'⟩
   cases x with
   | normal =>
    simp only [au] at er; subst er
    obtain ⟨d, hd, q⟩ := Df.h q
    refine wpList_plain rfl fun K hK => ?_
    have hrun : (execOp a'.eval { dst := none, op := .defer { callee := .value fv, args := args, argTypes := ts }, type := ty, pos := pos, after := af, guard := none : Oper }).run P w' = .ok (.defer d) w' := by
     unfold Cb at hd
     split at hd
     ·rename_i f l1 l2 hfv
      split at hd
      ·rename_i x1 avs x2 h1 h2 h3
       split at hd
       ·rename_i xs h4
        simp only [Option.some.injEq] at hd
        subst hd
        obtain ⟨⟨y1, y2, ey, r1, r2⟩, _⟩ := aT (hf'.eval hfv) rfl, trivial
        simp only [List.cons.injEq, and_true] at ey
        have e1 := kP h1 r1
        have e2 := kP h3 r2
        have e3 := kP h4 (dP (fun x av h => hf'.eval h) h2)
        have e3' : (args.map a'.eval) = xs.toArray := by
         apply Array.ext'
         simpa using e3
        have e1' : y1 = x1.toArray := by apply Array.ext'; simpa using e1
        have e2' : y2 = x2.toArray := by apply Array.ext'; simpa using e2
        simp only [execOp, resolve, ey, e3', e1', e2', Deferred.ofValue, Sem.run_bind, Sem.run_pure, Result.andThen_ok]
        simp
       ·cases hd
      ·cases hd
     ·cases hd
    rw [Oper.wp, hrun, Oper.upon_defer]
    refine hK _ _ (wpList_nil ⟨_, .normal, en, H', R', q, rfl, hm', ?_⟩)
    exact ⟨fun k v x => hf'.fr k v x, hf'.size, by show _ :: a'.defers = _; rw [hf'.defers]⟩
   | exit i => simp only [au] at er; subst er; exact ⟨C.D, .exit i, en, H', R', q, rfl, hm', hf'⟩
   | goto i => simp only [au] at er; subst er; exact ⟨C.D, .goto i, en, H', R', q, rfl, hm', hf'⟩
   | ret => simp only [au] at er; subst er; exact ⟨C.D, .ret, en, H', R', q, rfl, hm', hf'⟩
   | panic v => obtain ⟨y, rfl, hr⟩ := er; exact ⟨C.D, .panic v, en, H', R', q, ⟨y, rfl, hr⟩, hm', hf'⟩
  intro l
  induction l with
  | nil => exact fun {a w} h => hq _ _ _ h
  | cons o r ih =>
   intro a w h
   simp only [wpList] at h ⊢
   split
   ·rename_i hw
    rw [if_pos hw] at h
    rcases h with h | ⟨h1, b, w2, x, en, H', R', q, er, _⟩
    ·exact .inl (rQ (fun _ _ => ih) (fun _ _ _ => hq _ _ _) (fun ⟨a, w, q⟩ => ⟨a, w, hq _ _ _ q⟩) h)
    ·exact .inr ⟨h1, b, w2, hq _ _ _ ⟨x, en, H', R', q, er, by assumption⟩⟩
   ·rename_i hw
    rw [if_neg hw] at h
    exact ih h
 exact key h1
end
end
section
open Go Go.RowKit
inductive AMode where
 | ret
 | pan (v : AVal)
 | rcv (v : AVal)
def cC (R : Seal) : AMode → FrameMode → Prop
 | .ret, u => u = .returning
 | .pan v, u => ∃ x, u = .panicking [{ v := x, recovered := false }] ∧ Rel R v x
 | .rcv v, u => ∃ x, u = .panicking [{ v := x, recovered := true }] ∧ Rel R v x
theorem cC.mono {R R' : Seal} (h : R.le R') : ∀ {m : AMode} {u : FrameMode}, cC R m u → cC R' m u
 | .ret, _, x => x
 | .pan _, _, ⟨y, e, r⟩ => ⟨y, e, cD h r⟩
 | .rcv _, _, ⟨y, e, r⟩ => ⟨y, e, cD h r⟩
def AMode.settle : AMode → AMode
 | .ret => .ret
 | .pan v => .pan v
 | .rcv _ => .ret
theorem uS {R : Seal} : ∀ {m : AMode} {u : FrameMode}, cC R m u → cC R m.settle (Go.settle u)
 | .ret, _, rfl => rfl
 | .pan _, _, ⟨y, rfl, r⟩ => ⟨y, rfl, r⟩
 | .rcv _, _, ⟨y, rfl, _⟩ => rfl
theorem s6 {R : Seal} : ∀ {m : AMode} {u : FrameMode}, cC R m u → u ≠ .run
 | .ret, _, rfl => by simp
 | .pan _, _, ⟨_, rfl, _⟩ => by simp
 | .rcv _, _, ⟨_, rfl, _⟩ => by simp
def cj (P : Program) (G : Glo) (f : FuncId) (avs : List AVal) (m : AMode) (H : Heap) (Qd : ARes → AMode → Heap → Prop) : Prop :=
 ∀ R w args u (hG : G.p R), MS ⟨w, R, blks H, G, hG, []⟩ R H w → RelV R avs args.toList → cC R m u →
  CallsD P f args u w fun e u' w' => ∃ res m' H' R', Qd res m' H' ∧ eJ R' res e ∧ cC R' m' u' ∧ MS ⟨w, R, blks H, G, hG, []⟩ R' H' w'
section
variable {P : Program} [Tab P] {G : Glo} {GL : List (Nat × List AVal)} {n : Nat} {H : Heap} {m : AMode}
theorem rv {R : Seal} {avs : List AVal} {args : Array Value} {n : Nat} (hlen : Nat.ble avs.length n = true) (ha : RelV R avs args.toList) :
  FS [] n R (cA 0 avs) { tmps := args ++ Array.replicate (n - args.size) undef, defers := [] } := by
 have hl := fZ ha
 have hlen := Nat.le_of_ble_eq_true hlen
 simp only [Array.length_toList] at hl
 refine ⟨fun k v hk => ?_, ?_, rfl⟩
 ·obtain ⟨_, x, hx, hr⟩ := jX ha hk
  refine ⟨x, ?_, hr⟩
  simp only [Nat.sub_zero, Array.getElem?_toList] at hx
  have := Array.getElem?_eq_some_iff.1 hx
  rw [Array.getElem?_append_left this.1]
  exact hx
 ·simp only [Array.size_append, Array.size_replicate]; omega
theorem rc {f : FuncId} {fn : Func} {c : Code} {avs : List AVal} {Qf : ARes → Heap → Prop} {rs : List ResultVar} (hf : P.funcs[f]? = some fn)
  (hb : fn.body = some c) (hn : fn.ntmps = n) (hrs : fn.results = rs.toArray) (hlen : Nat.ble avs.length n = true) (hGL : ab G GL)
  (h : ∀ C : Ctx, C.G = G → dv P C n G GL c (cA 0 avs) H (RetX P rs Qf)) : cj P G f avs m H (fun res m' H' => m' = m ∧ Qf res H') := by
 intro R w args u hG hm ha hu
 have h1 := (bD (C := ⟨w, R, blks H, G, hG, []⟩) rfl hGL _ _ _ _ (h ⟨w, R, blks H, G, hG, []⟩ rfl)).mono fun _ _ _ q => eO q
 have h2 : c.wp P (bodyPost P fn (fun e w' => ∃ res H' R', Qf res H' ∧ eJ R' res e ∧ R.le R' ∧ MS ⟨w, R, blks H, G, hG, []⟩ R' H' w')) { tmps := args ++ Array.replicate (fn.ntmps - args.size) undef, defers := [] } w := by
  subst hn
  refine wp_mono (h1 R _ w hm (rv hlen ha)) ?_
  have hrs' : fn.results.toList = rs := by rw [hrs]
  rintro e a' w' ⟨x, env', H', R', q, er, hm', hf'⟩
  cases x with
  | normal =>
   simp only [au] at er; subst er
   obtain ⟨vs, H'', hv, hs, q⟩ := q
   obtain ⟨y, hy, hr⟩ := cd (fn := fn) hm' hf' (by rw [hrs']; exact hv)
   exact ⟨hf'.defers, y, hy, _, H'', R', q, ⟨y, rfl, hr⟩, hm'.ge, hm'.drop hs⟩
  | ret =>
   simp only [au] at er; subst er
   obtain ⟨vs, H'', hv, hs, q⟩ := q
   obtain ⟨y, hy, hr⟩ := cd (fn := fn) hm' hf' (by rw [hrs']; exact hv)
   exact ⟨hf'.defers, y, hy, _, H'', R', q, ⟨y, rfl, hr⟩, hm'.ge, hm'.drop hs⟩
  | panic v =>
   obtain ⟨y, rfl, hr⟩ := er
   obtain ⟨H'', hs, q⟩ := q
   exact ⟨hf'.defers, _, H'', R', q, ⟨y, rfl, hr⟩, hm'.ge, hm'.drop hs⟩
  | exit i => exact q.elim
  | goto i => exact q.elim
 refine (callsD_of_wp (u := u) hf hb h2).mono ?_
 rintro e u' w' ⟨rfl, res, H', R', q, er, hle, hm'⟩
 exact ⟨res, m, H', R', ⟨rfl, q⟩, er, hu.mono hle, hm'⟩
def recV : AMode → AVal
 | .pan v => v
 | _ => .raw .nilIface
def recM : AMode → AMode
 | .ret => .ret
 | .pan v => .rcv v
 | .rcv v => .rcv v
theorem rb {f : FuncId} {fn : Func} {c : Code} {avs : List AVal} {Qf : ARes → Heap → Prop} {rs : List ResultVar} {id d0 d1 : Nat} {ts : Array TypeId} {t0 t1 : TypeId} {p0 p1 : String} {a0 a1 : Array Edge} (hf : P.funcs[f]? = some fn)
  (hb : fn.body = some (.seq (.region id #[{ dst := some d0, op := .call { callee := .builtin .recover, args := #[], argTypes := ts }, type := t0, pos := p0, after := a0, guard := none }, { dst := some d1, op := .assign (.tmp d0), type := t1, pos := p1, after := a1, guard := none }] false) c))
  (hn : fn.ntmps = n) (hrs : fn.results = rs.toArray) (hlen : Nat.ble avs.length n = true) (hd0 : Nat.ble (d0 + 1) n = true) (hd1 : Nat.ble (d1 + 1) n = true) (hGL : ab G GL)
  (h : ∀ C : Ctx, C.G = G → dv P C n G GL c ((d1, recV m) :: (d0, recV m) :: cA 0 avs) H (RetX P rs Qf)) : cj P G f avs m H (fun res m' H' => m' = recM m ∧ Qf res H') := by
 intro R w args u hG hm ha hu
 have h1 := (bD (C := ⟨w, R, blks H, G, hG, []⟩) rfl hGL _ _ _ _ (h ⟨w, R, blks H, G, hG, []⟩ rfl)).mono fun _ _ _ q => eO q
 refine callsD_of_wpS hf hb fun c₀ cs hc => ?_
 subst hn
 have hfs := rv hlen ha
 have main : ∀ (x : Value) (u' : FrameMode), Rel R (recV m) x → cC R (recM m) u' → c.wpS P (bodyPostS P fn c₀ cs (fun e u' w' => ∃ res m' H' R', (m' = recM m ∧ Qf res H') ∧ eJ R' res e ∧ cC R' m' u' ∧ MS ⟨w, R, blks H, G, hG, []⟩ R' H' w'))
   ((({ tmps := args ++ Array.replicate (fn.ntmps - args.size) undef, defers := [] } : Act).put (some d0) x).put (some d1) x) ({ c₀ with mode := u' } :: cs) w := by
  intro x u' hx hu'
  refine wpS_of_wp ?_
  refine wp_mono (h1 R _ w hm ((hfs.put hd0 hx).put hd1 hx)) ?_
  have hrs' : fn.results.toList = rs := by rw [hrs]
  rintro e a' w' ⟨x, env', H', R', q, er, hm', hf'⟩
  cases x with
  | normal =>
   simp only [au] at er; subst er
   obtain ⟨vs, H'', hv, hs, q⟩ := q
   obtain ⟨y, hy, hr⟩ := cd (fn := fn) hm' hf' (by rw [hrs']; exact hv)
   exact ⟨hf'.defers, u', rfl, y, hy, _, _, H'', R', ⟨rfl, q⟩, ⟨y, rfl, hr⟩, hu'.mono hm'.ge, hm'.drop hs⟩
  | ret =>
   simp only [au] at er; subst er
   obtain ⟨vs, H'', hv, hs, q⟩ := q
   obtain ⟨y, hy, hr⟩ := cd (fn := fn) hm' hf' (by rw [hrs']; exact hv)
   exact ⟨hf'.defers, u', rfl, y, hy, _, _, H'', R', ⟨rfl, q⟩, ⟨y, rfl, hr⟩, hu'.mono hm'.ge, hm'.drop hs⟩
  | panic v =>
   obtain ⟨y, rfl, hr⟩ := er
   obtain ⟨H'', hs, q⟩ := q
   exact ⟨hf'.defers, u', rfl, _, _, H'', R', ⟨rfl, q⟩, ⟨y, rfl, hr⟩, hu'.mono hm'.ge, hm'.drop hs⟩
  | exit i => exact q.elim
  | goto i => exact q.elim
 refine wpS_seq (wpS_region ?_)
 have hev : ∀ (x : Value), (({ tmps := args ++ Array.replicate (fn.ntmps - args.size) undef, defers := [] } : Act).put (some d0) x).eval (.tmp d0) = x := by
  intro x
  have hsz : (args ++ Array.replicate (fn.ntmps - args.size) undef).size = fn.ntmps := hfs.size
  have := Nat.le_of_ble_eq_true hd0
  simp only [Act.eval, Act.put]
  rw [Array.getD_eq_getD_getElem?, Array.getElem?_setIfInBounds_self_of_lt (by omega)]
  rfl
 have run0 : ∀ ρ, (execOp ρ { dst := some d0, op := .call { callee := .builtin .recover, args := #[], argTypes := ts }, type := t0, pos := p0, after := a0, guard := none : Oper }).run P w = .ok .recover w := fun ρ => rfl
 have wanted : ∀ (o : Oper) y, o.guard = none → Region.wanted o y = true := fun o y h => by simp [Region.wanted, h]
 show wpOpsS P _ _ [0, 1] _ _ _
 have tail : ∀ (x : Value) (u' : FrameMode), Rel R (recV m) x → cC R (recM m) u' → wpOpsS P #[{ dst := some d0, op := .call { callee := .builtin .recover, args := #[], argTypes := ts }, type := t0, pos := p0, after := a0, guard := none }, { dst := some d1, op := .assign (.tmp d0), type := t1, pos := p1, after := a1, guard := none }]
   (Exit.thenS (c.wpS P (bodyPostS P fn c₀ cs (fun e u' w' => ∃ res m' H' R', (m' = recM m ∧ Qf res H') ∧ eJ R' res e ∧ cC R' m' u' ∧ MS ⟨w, R, blks H, G, hG, []⟩ R' H' w'))) (bodyPostS P fn c₀ cs (fun e u' w' => ∃ res m' H' R', (m' = recM m ∧ Qf res H') ∧ eJ R' res e ∧ cC R' m' u' ∧ MS ⟨w, R, blks H, G, hG, []⟩ R' H' w'))) [1]
   (({ tmps := args ++ Array.replicate (fn.ntmps - args.size) undef, defers := [] } : Act).put (some d0) x) ({ c₀ with mode := u' } :: cs) w := by
  intro x u' hx hu'
  simp only [wpOpsS, List.getElem?_toArray, List.getElem?_cons_succ, List.getElem?_cons_zero]
  rw [if_pos (wanted _ _ rfl)]
  simp only [execOp, hev, Sem.run_pure, Oper.upon]
  exact main x u' hx hu'
 rw [wpOpsS]
 simp only [List.getElem?_toArray, List.getElem?_cons_zero]
 rw [if_pos (wanted _ _ rfl), run0]
 simp only [recoverD, hc]
 cases m with
 | ret =>
  obtain rfl : u = .returning := hu
  have e : c₀ = { c₀ with mode := FrameMode.returning } := by rw [← hc]
  rw [e]
  exact tail .nilIface .returning (an.2 rfl) rfl
 | pan v =>
  obtain ⟨x, rfl, hx⟩ := hu
  exact tail x _ hx ⟨x, rfl, hx⟩
 | rcv v =>
  obtain ⟨x, rfl, hx⟩ := hu
  have e : c₀ = { c₀ with mode := FrameMode.panicking [{ v := x, recovered := true }] } := by rw [← hc]
  rw [e]
  exact tail .nilIface _ (an.2 rfl) ⟨x, rfl, hx⟩
omit [Tab P] in
theorem tM {f : FuncId} {avs : List AVal} {H1 : Heap} (H2 : Heap) {Qd : ARes → AMode → Heap → Prop} (h : cj P G f avs m H1 Qd) : cj P G f avs m (H1 ++ H2) (fun r m' H' => ∃ H1', Qd r m' H1' ∧ H' = H1' ++ H2) := by
 intro R w args u hG hm ha hu
 exact (h R w args u hG hm.enter ha hu).mono fun e u' w' ⟨res, m', H', R', q, er, hu', hm'⟩ => ⟨res, m', H' ++ H2, R', ⟨H', q, rfl⟩, er, hu', MS.call hm hm'⟩
omit [Tab P] in
theorem Ek {f : FuncId} {avs : List AVal} {H1 H2 : Heap} {Qd : ARes → AMode → Heap → Prop} (hp : H1.Perm H2) (h : cj P G f avs m H1 Qd) : cj P G f avs m H2 Qd := by
 have hb : ∀ k, k ∈ blks H2 ↔ k ∈ blks H1 := fun k => by
  have := (hp.filterMap HEnt.blk).mem_iff (a := k)
  exact this.symm
 intro R w args u hG hm ha hu
 exact (h R w args u hG ((hm.perm hp.symm).blks_iff hb) ha hu).mono fun e u' w' ⟨res, m', H', R', q, er, hu', hm'⟩ => ⟨res, m', H', R', q, er, hu', hm'.blks_iff fun k => (hb k).symm⟩
omit [Tab P] in
theorem yf {f : FuncId} {avs : List AVal} {Qd Qd' : ARes → AMode → Heap → Prop} (h : cj P G f avs m H Qd) (hq : ∀ r m' H', Qd r m' H' → ∃ H'', H'.Perm H'' ∧ Qd' r m' H'') : cj P G f avs m H Qd' := by
 intro R w args u hG hm ha hu
 exact (h R w args u hG hm ha hu).mono fun e u' w' ⟨res, m', H', R', q, er, hu', hm'⟩ => let ⟨H'', hp, q'⟩ := hq _ _ _ q; ⟨res, m', H'', R', q', er, hu', hm'.perm hp⟩
omit [Tab P] in
theorem E4 {f : FuncId} {avs : List AVal} {i : Nat} {x y : HEnt} {r : ARes} {m' : AMode} (hi : H[i]? = some x) (hs : cj P G f avs m [x] (fun r2 m2 H2 => m2 = m' ∧ r2 = r ∧ H2 = [y])) :
  cj P G f avs m H (fun r2 m2 H2 => m2 = m' ∧ r2 = r ∧ H2 = H.set i y) := by
 have hp := cZ hi
 refine yf (Ek (H1 := [x] ++ H.eraseIdx i) (by simpa using hp.symm) (tM (H.eraseIdx i) hs)) ?_
 rintro r2 m2 H' ⟨H1', ⟨rfl, rfl, rfl⟩, rfl⟩
 exact ⟨_, eQ y hi, rfl, rfl, rfl⟩
omit [Tab P] in
theorem lI {f : FuncId} {avs : List AVal} {H1 H1' : Heap} {r : ARes} {m' : AMode} (H2 : Heap) (hs : cj P G f avs m H1 (fun r2 m2 H2 => m2 = m' ∧ r2 = r ∧ H2 = H1')) :
  cj P G f avs m (H1 ++ H2) (fun r2 m2 H' => m2 = m' ∧ r2 = r ∧ H' = H1' ++ H2) := by
 refine yf (tM H2 hs) ?_
 rintro r2 m2 H' ⟨H3, ⟨rfl, rfl, rfl⟩, rfl⟩
 exact ⟨_, List.Perm.refl _, rfl, rfl, rfl⟩
/-! ## As a function leaves -/
def Lv (P : Program) (G : Glo) (n : Nat) (rs : List ResultVar) (env : Env) (D : List Deferred) (m : AMode) (H : Heap) (Qf : ARes → Heap → Prop) : Prop :=
 ∀ (C : Ctx) (R : Seal) (a : Act) (w : World) (fn : Func) (u : FrameMode) (D0 : List Deferred), C.G = G → fn.results.toList = rs → MS C R H w → FS D0 n R env a → cC R m u →
  Leaves P fn a.tmps (fun e w' => ∃ res H' R', Qf res H' ∧ eJ R' res e ∧ MS C R' H' w') D u w
variable {rs : List ResultVar} {env : Env} {Qf : ARes → Heap → Prop} {D : List Deferred}
theorem FU (h : RetX P rs Qf .ret env H) : Lv P G n rs env [] .ret H Qf := by
 rintro C R a w fn u D0 hC hrs hm hf rfl
 obtain ⟨vs, H'', hv, hs, q⟩ := eO h
 obtain ⟨y, hy, hr⟩ := cd (fn := fn) hm hf (by rw [hrs]; exact hv)
 exact ⟨y, hy, _, H'', R, q, ⟨y, rfl, hr⟩, hm.drop hs⟩
omit [Tab P] in
omit [Tab P] in
theorem f9 {f : FuncId} {avs : List AVal} {cap args : Array Value} {v : AVal} {m' : AMode} {H' : Heap} (hs : cj P G f avs m H (fun r2 m2 H2 => m2 = m' ∧ r2 = .ret v ∧ H2 = H')) (ha : ∀ R, RelV R avs (args ++ cap).toList)
  (hc : ∀ args w, (callFunc f args).run P w = .ok (.enter f args) w) (k : Lv P G n rs env D m'.settle H' Qf) : Lv P G n rs env ({ target := .fn (.func f) cap, args := args } :: D) m H Qf := by
 intro C R a w fn u D0 hC hrs hm hf hu
 subst hC
 refine leaves_cons (f := f) (args := args ++ cap) (s6 hu) (by simp only [invoke]; exact hc _ _) ?_
 refine (hs R w _ u hm.glo (MS.enter (H2 := []) (by simpa using hm)) (ha R) hu).mono ?_
 rintro e u' w' ⟨res, m2, H2, R', ⟨rfl, rfl, rfl⟩, ⟨y, rfl, hr⟩, hu', hm'⟩
 have hm2 : MS C R' H2 w' := by simpa using MS.call (H2 := []) (by simpa using hm) hm'
 exact k C R' a w' fn _ D0 rfl hrs hm2 (hf.mono hm'.ge) (uS hu')
def LvQ (P : Program) (G : Glo) (n : Nat) (rs : List ResultVar) (Qf : ARes → Heap → Prop) : List Deferred → AExit → Env → Heap → Prop
 | D, .ret, e, H | D, .normal, e, H => Lv P G n rs e D .ret H Qf
 | D, .panic v, e, H => Lv P G n rs e D (.pan v) H Qf
 | _, _, _, _ => False
omit [Tab P] in
theorem fn_d {f : FuncId} {fn : Func} {c : Code} {avs : List AVal} (hf : P.funcs[f]? = some fn)
  (hc : ∀ args w, (callFunc f args).run P w = .ok (.enter f args) w) (hb : fn.body = some c) (hn : fn.ntmps = n) (hrs : fn.results = rs.toArray) (hlen : Nat.ble avs.length n = true)
  (h : ∀ C : Ctx, C.G = G → C.D = [] → AWpD P C n c (cA 0 avs) H (LvQ P G n rs Qf)) : ae P G f avs H Qf := by
 intro R w args hG hm ha
 refine .inl ⟨hc args w, calls_of_wp_defers hf hb ?_⟩
 subst hn
 have hrs' : fn.results.toList = rs := by rw [hrs]
 refine wp_mono (h ⟨w, R, blks H, G, hG, []⟩ rfl rfl R _ w hm (rv hlen ha)) ?_
 rintro e a' w' ⟨D, x, env', H', R', q, er, hm', hf'⟩
 cases x with
 | normal =>
  simp only [au] at er; subst er
  have := q _ R' a' w' fn .returning D rfl hrs' hm' hf' rfl
  rwa [← hf'.defers] at this
 | ret =>
  simp only [au] at er; subst er
  have := q _ R' a' w' fn .returning D rfl hrs' hm' hf' rfl
  rwa [← hf'.defers] at this
 | panic v =>
  obtain ⟨y, rfl, hr⟩ := er
  have := q _ R' a' w' fn (.panicking [{ v := y, recovered := false }]) D rfl hrs' hm' hf' ⟨y, rfl, hr⟩
  rwa [← hf'.defers] at this
 | exit i => exact q.elim
 | goto i => exact q.elim
end
end
section
open Go Go.RowKit
theorem jE {α β : Type} {f : α → Option β} {x y : α} (hf : f y = f x) : ∀ {h : List α} {i : Nat}, h[i]? = some x → (h.set i y).filterMap f = h.filterMap f
 | [], i, e => by simp at e
 | z :: h, 0, e => by
  simp only [List.getElem?_cons_zero, Option.some.injEq] at e
  subst e
  simp [List.filterMap_cons, hf]
 | z :: h, i + 1, e => by
  simp only [List.getElem?_cons_succ] at e
  simp only [List.set_cons_succ, List.filterMap_cons, jE hf e]
theorem MS.setEnt {C : Ctx} {R : Seal} {H : Heap} {w : World} {i : Nat} {x y : HEnt} (h : MS C R H w) (hi : H[i]? = some x) (hb : y.blk = x.blk) (hy : y.holds R w) : MS C R (H.set i y) w := by
 have hx : x ∈ H := List.mem_of_getElem? hi
 have hm : ∀ z, z ∈ H.set i y → z ∈ H ∨ z = y := fun z hz => List.mem_or_eq_of_mem_set hz
 refine ⟨h.sealed, h.ge, h.fresh, ⟨fun z hz => ?_, ?_, fun z hz b hzb => ?_⟩, fun z hz b hzb => ?_, h.ext⟩
 ·rcases hm z hz with h1 | rfl
  ·exact h.heap.holds z h1
  ·exact hy
 ·rw [jE hb hi]; exact h.heap.nodup
 ·rcases hm z hz with h1 | rfl
  ·exact h.heap.apart z h1 b hzb
  ·exact h.heap.apart x hx b (by rw [← hb]; exact hzb)
 ·rcases hm z hz with h1 | rfl
  ·exact h.own z h1 b hzb
  ·exact h.own x hx b (by rw [← hb]; exact hzb)
theorem ku {R : Seal} {a a' : AVal} (ht : ∀ v, RelC R a [v] → RelC R a' [v]) : ∀ {cs : List AVal} {vs : List Value} {p : Nat}, RelL R cs vs → cs[p]? = some a → RelL R (cs.set p a') vs
 | [], _, _, _, e => by simp at e
 | c :: cs, _, 0, ⟨v, t, rfl, h1, h2⟩, e => by
  simp only [List.getElem?_cons_zero, Option.some.injEq] at e
  subst e
  exact ⟨v, t, rfl, ht v h1, h2⟩
 | c :: cs, _, p + 1, ⟨v, t, rfl, h1, h2⟩, e => by
  simp only [List.getElem?_cons_succ] at e
  exact ⟨v, t, rfl, h1, ku ht h2 e⟩
inductive CellTo (R : Seal) (p : Nat) (a' : AVal) : HEnt → HEnt → Prop
 | cells {b eT cs a} (hp : cs[p]? = some a) (ht : ∀ v, RelC R a [v] → RelC R a' [v]) : CellTo R p a' (.cells b eT cs) (.cells b eT (cs.set p a'))
 | row {v eT sz n cs a} (hp : cs[p]? = some a) (ht : ∀ v, RelC R a [v] → RelC R a' [v]) : CellTo R p a' (.row v eT sz n cs) (.row v eT sz n (cs.set p a'))
theorem CellTo.holds {R : Seal} {p : Nat} {a' : AVal} {x y : HEnt} {w : World} (h : CellTo R p a' x y) (hx : x.holds R w) : y.holds R w ∧ y.blk = x.blk := by
 cases h with
 | cells hp ht =>
  obtain ⟨C, e, fz, hb, hl, hf⟩ := hx
  exact ⟨⟨C, e, fz, hb, ku ht hl hp, hf⟩, rfl⟩
 | row hp ht =>
  rename_i v eT sz n cs a
  obtain ⟨hlen, y⟩ := hx
  refine ⟨⟨by rw [List.length_set]; exact hlen, ?_⟩, by cases v with | slice a l c => cases a <;> rfl | _ => rfl⟩
  rcases y with ⟨h1, h2⟩ | ⟨b, cap, C, e, fz, rfl, hb, hs, hn, hl, hf⟩
  ·exact .inl ⟨h1, h2⟩
  ·exact .inr ⟨b, cap, C, e, fz, rfl, hb, hs, hn, ku ht hl hp, hf⟩
def To (C : Ctx) (n : Nat) (e : Env) (h : Heap) (e' : Env) (h' : Heap) : Prop :=
 ∀ R a w, MS C R h w → FS C.D n R e a → ∃ R', R.le R' ∧ MS C R' h' w ∧ FS C.D n R' e' a
section
variable {C : Ctx} {n : Nat} {e e' e'' : Env} {h h' h'' : Heap}
theorem aN (a : To C n e h e' h') (b : To C n e' h' e'' h'') : To C n e h e'' h'' := fun R x w hm hf =>
 let ⟨R1, l1, m1, f1⟩ := a R x w hm hf
 let ⟨R2, l2, m2, f2⟩ := b R1 x w m1 f1
 ⟨R2, Seal.le_trans l1 l2, m2, f2⟩
theorem dl (hs : Env.sub e e') (hh : h'.Sublist h) : To C n e h e' h' := fun R _ _ hm hf => ⟨R, Seal.le_refl R, hm.drop hh, hf.sub hs⟩
theorem Fg {k i : Nat} {v : Value} (hv : vAgg v = false) (hk : Env.get e k = some (.raw v)) : To C n e h ((k, .own i v) :: e) h := fun R _ _ hm hf => ⟨R, Seal.le_refl R, hm, lD hv hk hf⟩
theorem j7 (sz : Nat) : To C n e h e (h ++ [.row (.slice none 0 0) none sz 0 []]) := fun R a w hm hf => by
 refine ⟨R, Seal.le_refl R, MS.perm (H := .row (.slice none 0 0) none sz 0 [] :: h) ?_ (List.perm_append_singleton _ h).symm, hf⟩
 refine ⟨hm.sealed, hm.ge, hm.fresh, ⟨fun z hz => ?_, hm.heap.nodup, fun z hz b hb => ?_⟩, fun z hz b hb => ?_, hm.ext⟩
 ·rcases List.mem_cons.1 hz with rfl | hz
  ·exact ⟨by simp, .inl ⟨rfl, rfl⟩⟩
  ·exact hm.heap.holds z hz
 ·rcases List.mem_cons.1 hz with rfl | hz
  ·cases hb
  ·exact hm.heap.apart z hz b hb
 ·rcases List.mem_cons.1 hz with rfl | hz
  ·cases hb
  ·exact hm.own z hz b hb
theorem qd {i p : Nat} {a' : AVal} {x y : HEnt} (hi : h[i]? = some x) (hc : ∀ R, CellTo R p a' x y) : To C n e h e (h.set i y) := fun R a w hm hf => by
 obtain ⟨h1, h2⟩ := (hc R).holds (hm.heap.holds x (List.mem_of_getElem? hi))
 exact ⟨R, Seal.le_refl R, hm.setEnt hi h2 h1, hf⟩
theorem qc {i k p sz m : Nat} {v : Value} {eT : Option TypeId} {cs : List AVal} {x y : HEnt} (f : Nat → AVal) (hi : h[i]? = some (.row v eT sz m cs)) (hk : (h.eraseIdx i)[k]? = some x)
  (hf : ∀ j, j < m → (f j).cells = (cs.drop (j * sz)).take sz ∧ (f j).plain = true) (hc : ∀ R, Rel R (.list sz m f) v → CellTo R p (.list sz m f) x y) : To C n e h e ((h.eraseIdx i).set k y) := fun R a w hm hfs => by
 obtain ⟨R', hle, hm', hr⟩ := MS.seal_row (hm.perm (cZ hi)) hf
 obtain ⟨h1, h2⟩ := (hc R' hr).holds (hm'.heap.holds x (List.mem_of_getElem? hk))
 exact ⟨R', hle, hm'.setEnt hk h2 h1, hfs.mono hle⟩
theorem gC {R : Seal} {j sz m : Nat} {u v : Value} {f : Nat → AVal} (hr : Rel R (.list sz m f) v) : RelC R (.own j v) [u] → RelC R (.list sz m f) [u] := by
 rintro ⟨e, _⟩
 simp only [List.cons.injEq, and_true] at e
 subst e
 exact aT hr rfl
theorem mF {R : Seal} {j : Nat} {u : Value} : RelC R (.raw (.slice none 0 0)) [u] → RelC R (.own j (.slice none 0 0)) [u] := by
 intro e
 have e : [u] = [.slice none 0 0] := e
 exact ⟨e, rfl⟩
theorem iF {R : Seal} {sz : Nat} {f : Nat → AVal} {u : Value} : RelC R (.raw (.slice none 0 0)) [u] → RelC R (.list sz 0 f) [u] := by
 intro e
 have e : [u] = [.slice none 0 0] := e
 exact ⟨none, 0, e, Nat.le_refl _, .inl rfl⟩
end
section
variable {P : Program} [Tab P] {C : Ctx} {n : Nat} {env : Env} {H : Heap} {Q : AExit → Env → Heap → Prop} {G : Glo} {GL : List (Nat × List AVal)}
structure NxT {X : Type} (C : Ctx) (n : Nat) (I : X → Env) (J : X → Heap) (Inv : X → Prop) (μ : X → Nat) (x : X) (e : Env) (h : Heap) : Prop where
 h : ∃ x', Inv x' ∧ μ x' < μ x ∧ To C n e h (I x') (J x')
theorem nxT {X : Type} {I : X → Env} {J : X → Heap} {Inv : X → Prop} {μ : X → Nat} {x : X} {e : Env} {h : Heap} (x' : X) (h1 : Inv x') (h2 : μ x' < μ x) (h3 : To C n e h (I x') (J x')) : NxT C n I J Inv μ x e h := ⟨⟨x', h1, h2, h3⟩⟩
theorem lpT {c : Code} {X : Type} (hC : C.G = G) (hGL : ab G GL) (I : X → Env) (J : X → Heap) (Inv : X → Prop) (μ : X → Nat) (x0 : X) (h0 : Inv x0) (hto : To C n env H (I x0) (J x0))
  (round : ∀ x, Inv x → dv P C n G GL c (I x) (J x) (ei (fun e h => NxT C n I J Inv μ x e h) Q)) : Lp P C n c env H Q := by
 refine ⟨fun R a w hm hf => ?_⟩
 obtain ⟨R0, _, hm, hf⟩ := hto R a w hm hf
 refine wp_loop_ghost (fun m a w => ∃ x R, Inv x ∧ μ x = m ∧ MS C R (J x) w ∧ FS C.D n R (I x) a) (μ x0) ⟨x0, R0, h0, rfl, hm, hf⟩ ?_
 rintro m a w ⟨x, R, hx, rfl, hm, hf⟩
 refine wp_mono (bD hC hGL _ _ _ _ (round x hx) R a w hm hf) ?_
 rintro e a' w' ⟨x', en, H', R', q, er, hm', hf'⟩
 cases x' with
 | normal =>
  simp only [au] at er; subst er
  obtain ⟨x', hx', hlt, hto⟩ := NxT.h q
  obtain ⟨R2, _, hm2, hf2⟩ := hto R' a' w' hm' hf'
  exact ⟨μ x', hlt, x', R2, hx', rfl, hm2, hf2⟩
 | exit i => simp only [au] at er; subst er; exact ⟨.exit i, en, H', R', q, rfl, hm', hf'⟩
 | goto i => simp only [au] at er; subst er; exact ⟨.goto i, en, H', R', q, rfl, hm', hf'⟩
 | ret => simp only [au] at er; subst er; exact ⟨.ret, en, H', R', q, rfl, hm', hf'⟩
 | panic v => obtain ⟨y, rfl, hr⟩ := er; exact ⟨.panic v, en, H', R', q, ⟨y, rfl, hr⟩, hm', hf'⟩
omit [Tab P] in
theorem EV {c : Code} {e' : Env} {h' : Heap} (hto : To C n env H e' h') (k : Lp P C n c e' h' Q) : Lp P C n c env H Q := by
 refine ⟨fun R a w hm hf => ?_⟩
 obtain ⟨R0, _, hm, hf⟩ := hto R a w hm hf
 exact k.h R0 a w hm hf
omit [Tab P] in
theorem eq {id : Nat} {ops : Array Oper} {e' : Env} {h' : Heap} (hto : To C n env H e' h') (k : Dw P C n id ops e' h' Q) : Dw P C n id ops env H Q := by
 refine ⟨fun R a w hm hf => ?_⟩
 obtain ⟨R0, _, hm, hf⟩ := hto R a w hm hf
 exact k.h R0 a w hm hf
def yu (res : ARes) (H : Heap) (v : AVal) : Prop := ∀ (C : Ctx) (R : Seal) (w : World) (e : Ending), MS C R H w → eJ R res e → ∃ R', MS C R' [] w ∧ eJ R' (.ret v) e
omit [Tab P] in
theorem dz {f : FuncId} {avs : List AVal} {H : Heap} {Qf : ARes → Heap → Prop} {v : AVal} (h : ae P G f avs H Qf) (hq : ∀ r H', Qf r H' → yu r H' v) : ae P G f avs H (fun r H' => r = .ret v ∧ H' = []) := by
 intro R w args hG hm ha
 rcases h R w args hG hm ha with ⟨h1, h2⟩ | ⟨x, w', h1, res, H', R', q, er, hm'⟩
 ·exact .inl ⟨h1, h2.mono fun e w' ⟨res, H', R', q, er, hm'⟩ => let ⟨R2, m2, e2⟩ := hq _ _ q _ _ _ _ hm' er; ⟨.ret v, [], R2, ⟨rfl, rfl⟩, e2, m2⟩⟩
 ·obtain ⟨R2, m2, e2⟩ := hq _ _ q _ _ _ _ hm' er
  exact .inr ⟨x, w', h1, .ret v, [], R2, ⟨rfl, rfl⟩, e2, m2⟩
end
end
section
open Go Go.RowKit
theorem gL {P : Program} [Tab P] {G : Glo} {f : FuncId} {avs : List AVal} {b : Nat} {eT : Option TypeId} {cs cs' : List AVal} {v : AVal}
  (hrun : ∀ R w Cs e fz args, w.heap[b]? = some (.cells Cs e fz) → RelL R cs Cs.toList → iU fz Cs.size → RelV R avs args.toList → ∃ x w' Cs', (callFunc f args).run P w = .ok (.value x) w' ∧ Rel R v x ∧ OneBlk w b (.cells Cs' e fz) w' ∧ RelL R cs' Cs'.toList ∧ Cs'.size = Cs.size) :
  ae P G f avs [.cells b eT cs] (fun r H => r = .ret v ∧ H = [.cells b eT cs']) := by
 intro R w args hG hm ha
 obtain ⟨Cs, e, fz, hb, hl, hfz, het⟩ := hm.heap.holds _ (List.mem_cons_self ..)
 obtain ⟨x, w', Cs', h1, h2, h3, h4, h5⟩ := hrun R w Cs e fz args hb hl hfz ha
 refine .inr ⟨x, w', h1, .ret v, [.cells b eT cs'], R, ⟨rfl, rfl⟩, ⟨x, rfl, h2⟩, ?_⟩
 exact hm.write (i := 0) rfl rfl h3 rfl ⟨Cs', e, fz, h3.at_, h4, by rw [h5]; exact hfz, het⟩
theorem sW {w : World} {b : Nat} {o : Obj} (h : w.heap[b]? = some o) : OneBlk w b o w := ⟨rfl, rfl, rfl, rfl, h, fun _ _ => rfl⟩
theorem jK {w : World} {b off e : Nat} {Cs : Array Value} {fz : Nat × Nat} {v : Value} (h : w.heap[b]? = some (.cells Cs e fz)) (ho : off < Cs.size) : OneBlk w b (.cells (Cs.setIfInBounds off v) e fz) (w.setCell ⟨b, off, none⟩ v) := by
 have hlt : b < w.heap.size := by
  rcases Nat.lt_or_ge b w.heap.size with h1 | h1
  ·exact h1
  ·simp [Array.getElem?_eq_none h1] at h
 refine ⟨rfl, rfl, rfl, by simp [World.setCell], ?_, fun k hk => ?_⟩
 ·simp only [World.setCell, Array.getElem?_modify, if_true, h, Option.map_some, Option.isSome_none, Bool.false_eq_true, if_false]
 ·simp only [World.setCell, Array.getElem?_modify]
  rw [if_neg (fun e => hk e.symm)]
theorem kw {R : Seal} {a : AVal} {v : Value} (ha : RelC R a [v]) : ∀ {cs : List AVal} {vs : List Value} {p : Nat}, RelL R cs vs → p < cs.length → RelL R (cs.set p a) (vs.set p v)
 | [], _, _, _, h => absurd h (Nat.not_lt_zero _)
 | c :: cs, _, 0, ⟨u, t, rfl, h1, h2⟩, _ => ⟨v, t, rfl, ha, h2⟩
 | c :: cs, _, p + 1, ⟨u, t, rfl, h1, h2⟩, hp => ⟨u, _, rfl, h1, kw ha h2 (by simpa using hp)⟩
theorem arg1 {R : Seal} {v : Value} {args : Array Value} (h : RelV R [.raw v] args.toList) : args = #[v] := by
 obtain ⟨x, t, e, hx, rfl⟩ := h
 obtain rfl := an.1 (show Rel R (.raw v) x from hx)
 exact Array.ext' e
theorem arg2 {R : Seal} {v : Value} {k : IntKind} {n : Int} {args : Array Value} (h : RelV R [.raw v, .int k n] args.toList) : args = #[v, .int k n] := by
 obtain ⟨x, t, e, hx, y, t2, rfl, hy, rfl⟩ := h
 obtain rfl := an.1 (show Rel R (.raw v) x from hx)
 obtain rfl := ao.1 (show Rel R (.int k n) y from hy)
 exact Array.ext' e
theorem arg3 {R : Seal} {v : Value} {k k2 : IntKind} {n m : Int} {args : Array Value} (h : RelV R [.raw v, .int k n, .int k2 m] args.toList) : args = #[v, .int k n, .int k2 m] := by
 obtain ⟨x, t, e, hx, y, t2, rfl, hy, z, t3, rfl, hz, rfl⟩ := h
 obtain rfl := an.1 (show Rel R (.raw v) x from hx)
 obtain rfl := ao.1 (show Rel R (.int k n) y from hy)
 obtain rfl := ao.1 (show Rel R (.int k2 m) z from hz)
 exact Array.ext' e
section
variable {G : Glo} {b off : Nat} {eT : Option TypeId} {cs : List AVal}
abbrev pv (b off : Nat) : Value := .pointer (some ⟨b, off, none⟩)
theorem kQ {R : Seal} {w : World} {Cs : Array Value} {e : Nat} {fz : Nat × Nat} {k : IntKind} {n : Int} (hb : w.heap[b]? = some (.cells Cs e fz)) (hl : RelL R cs Cs.toList) (hc : cs[off]? = some (.int k n)) : w.cell? ⟨b, off, none⟩ = some (.int k n) ∧ off < Cs.size := by
 obtain ⟨v, hv, hr⟩ := cn hl hc
 simp only [RelC, List.cons.injEq, and_true] at hr
 subst hr
 refine ⟨by simp only [World.cell?, hb]; simpa using hv, ?_⟩
 have := (List.getElem?_eq_some_iff.1 hv).1
 simpa using this
theorem jL {w : World} {Cs : Array Value} {e : Nat} {fz : Nat × Nat} (hb : w.heap[b]? = some (.cells Cs e fz)) (hfz : iU fz Cs.size) (ho : off < Cs.size) : w.frozen? ⟨b, off, none⟩ = false := by
 obtain ⟨lo, hi⟩ := fz
 simp only [World.frozen?, hb, iU] at hfz ⊢
 simp
 omega
theorem EC {n : Int} (hc : cs[off]? = some (.int .u32 n)) : ae Tryz.prog G 199 [.raw (pv b off)] [.cells b eT cs] (fun r H => r = .ret (.int .u32 n) ∧ H = [.cells b eT cs]) := by
 refine gL fun R w Cs e fz args hb hl hfz ha => ?_
 obtain rfl := arg1 ha
 obtain ⟨h1, _⟩ := kQ hb hl hc
 exact ⟨_, _, Cs, run_call_load Tryz.func199 (by kernel_rfl) (by kernel_rfl) (by kernel_rfl) .u32 (by kernel_rfl) h1, ao.2 rfl, sW hb, hl, rfl⟩
theorem CS {n y : Int} (hc : cs[off]? = some (.int .u32 n)) : ae Tryz.prog G 211 [.raw (pv b off), .int .u32 y] [.cells b eT cs] (fun r H => r = .ret (.tuple []) ∧ H = [.cells b eT (cs.set off (.int .u32 y))]) := by
 refine gL fun R w Cs e fz args hb hl hfz ha => ?_
 obtain rfl := arg2 ha
 obtain ⟨h1, ho⟩ := kQ hb hl hc
 have hlen := aw hl
 rw [Array.length_toList] at hlen
 refine ⟨_, _, Cs.setIfInBounds off (.int .u32 y), run_call_store Tryz.func211 (by kernel_rfl) (by kernel_rfl) (by kernel_rfl) (by kernel_rfl) h1 (jL hb hfz ho), ⟨⟨#[], rfl, rfl⟩, rfl⟩, jK hb ho, ?_, by simp⟩
 rw [Array.toList_setIfInBounds]
 exact kw (show RelC R (.int .u32 y) [.int .u32 y] from rfl) hl (by omega)
theorem Gp {n y : Int} (hc : cs[off]? = some (.int .i32 n)) : ae Tryz.prog G 221 [.raw (pv b off), .int .i32 n, .int .i32 y] [.cells b eT cs] (fun r H => r = .ret (.bool true) ∧ H = [.cells b eT (cs.set off (.int .i32 y))]) := by
 refine gL fun R w Cs e fz args hb hl hfz ha => ?_
 obtain rfl := arg3 ha
 obtain ⟨h1, ho⟩ := kQ hb hl hc
 have hlen := aw hl
 rw [Array.length_toList] at hlen
 refine ⟨_, _, Cs.setIfInBounds off (.int .i32 y), run_call_cas_hit Tryz.func221 (by kernel_rfl) (by kernel_rfl) (by kernel_rfl) .i32 (by kernel_rfl) h1 (jL hb hfz ho), aE.2 rfl, jK hb ho, ?_, by simp⟩
 rw [Array.toList_setIfInBounds]
 exact kw (show RelC R (.int .i32 y) [.int .i32 y] from rfl) hl (by omega)
theorem Gn (hc : cs[off]? = some (.int .i32 1)) : ae Tryz.prog G 226 [.raw (pv b off), .int .i32 (-1)] [.cells b eT cs] (fun r H => r = .ret (.int .i32 0) ∧ H = [.cells b eT (cs.set off (.int .i32 0))]) := by
 refine gL fun R w Cs e fz args hb hl hfz ha => ?_
 obtain rfl := arg2 ha
 obtain ⟨h1, ho⟩ := kQ hb hl hc
 have hlen := aw hl
 rw [Array.length_toList] at hlen
 refine ⟨_, _, Cs.setIfInBounds off (.int .i32 0), run_call_add Tryz.func226 (by kernel_rfl) (by kernel_rfl) (by kernel_rfl) .i32 (by kernel_rfl) (s := 0) h1 (jL hb hfz ho) (by simp [go_sem]; rfl), ao.2 rfl, jK hb ho, ?_, by simp⟩
 rw [Array.toList_setIfInBounds]
 exact kw (show RelC R (.int .i32 0) [.int .i32 0] from rfl) hl (by omega)
end
end
section
open Go Go.RowKit
theorem fQ {P : Program} [Tab P] {G : Glo} {GL : List (Nat × List AVal)} {n : Nat} {H : Heap} {v : Value} (i : Nat) {f : FuncId} {fn : Func} {c : Code} {avs : List AVal} {Qf : ARes → Heap → Prop} {rs : List ResultVar} (hf : P.funcs[f]? = some fn)
  (hc : ∀ args w, (callFunc f args).run P w = .ok (.enter f args) w) (hb : fn.body = some c) (hn : fn.ntmps = n) (hrs : fn.results = rs.toArray) (hlen : Nat.ble (AVal.raw v :: avs).length n = true) (hGL : ab G GL) (hv : vAgg v = false)
  (h : ∀ C : Ctx, C.G = G → dv P C n G GL c ((0, .own i v) :: cA 0 (.raw v :: avs)) H (RetX P rs Qf)) : ae P G f (.raw v :: avs) H Qf :=
 jm hf hb hc hn hrs hlen fun w0 R0 hG => (nC (C := ⟨w0, R0, blks H, G, hG, []⟩) (k := 0) i rfl hGL hv rfl (h ⟨w0, R0, blks H, G, hG, []⟩ rfl)).mono fun _ _ _ q => eO q
section
variable {P : Program} [Tab P] {C : Ctx} {n : Nat} {env : Env} {H : Heap} {G : Glo} {x : Operand} {S T u : TypeId} {xS xT xu : TI}
theorem AG {i j b off : Nat} {eT : Option TypeId} {cs : List AVal} {a : AVal} (hx : ai env x = some (.own i (pv b off))) (hj : H[j]? = some (.cells b eT cs)) (hc : cs[off]? = some a) (h1 : tab P S = some xS) (h2 : xS.desc = .pointer u) (h3 : tab P T = some xT) (h4 : xT.desc = .unsafePointer) (h5 : tab P u = some xu) (h6 : Nat.ble 1 xu.size = true) :
  RunV P C H env (.convert S T x) (.raw (pv b off)) := by
 intro R ρ w hm hf dst t p af g
 obtain ⟨Cs, el, fz, hb, hl, _⟩ := fB hm hj
 obtain ⟨v, hv, _⟩ := cn hl hc
 have hcell : w.cell? ⟨b, off, none⟩ = some v := by simp only [World.cell?, hb]; simpa using hv
 obtain ⟨iu, hiu, his, _⟩ := dR h5
 have h6 := Nat.le_of_ble_eq_true h6
 have hr := run_convert_to_unsafe (P := P) (src := S) (dst := T) (by rw [aZ h1, h2]) (by rw [aZ h3, h4]) (by rw [hiu]; simp [his]; omega) hcell
 exact ⟨_, by simp only [execOp, (aA.1 (hf _ _ hx)).1, Sem.run_bind, hr, Result.andThen_ok, Sem.run_pure], an.2 rfl⟩
end
section
variable {G : Glo}
theorem pE {f : FuncId} (h : ∀ w, (callFunc f #[]).run Tryz.prog w = .ok (.value (.tuple #[])) w) : FnIs Tryz.prog G f [] (.tuple []) := by
 intro R w args hG hm ha
 have e : args = #[] := by
  have : args.toList = [] := ha
  exact Array.ext' this
 subst e
 exact .inr ⟨_, w, h w, _, [], R, ⟨rfl, rfl⟩, ⟨_, rfl, ⟨#[], rfl, rfl⟩, rfl⟩, hm⟩
theorem lW {f : FuncId} {a : Addr} (h : ∀ w, (callFunc f #[.pointer (some a)]).run Tryz.prog w = .ok (.value (.tuple #[])) w) : FnIs Tryz.prog G f [.raw (.pointer (some a))] (.tuple []) := by
 intro R w args hG hm ha
 obtain rfl := arg1 ha
 exact .inr ⟨_, w, h w, _, [], R, ⟨rfl, rfl⟩, ⟨_, rfl, ⟨#[], rfl, rfl⟩, rfl⟩, hm⟩
theorem gz : FnIs Tryz.prog G 220 [] (.tuple []) := pE fun w => run_call_mark0 Tryz.func220 (by kernel_rfl) (by kernel_rfl) (by kernel_rfl) .disable (by kernel_rfl) w
theorem jb : FnIs Tryz.prog G 222 [] (.tuple []) := pE fun w => run_call_mark0 Tryz.func222 (by kernel_rfl) (by kernel_rfl) (by kernel_rfl) .enable (by kernel_rfl) w
theorem nt (a : Addr) : FnIs Tryz.prog G 223 [.raw (.pointer (some a))] (.tuple []) := lW fun w => run_call_marked Tryz.func223 (by kernel_rfl) (by kernel_rfl) (by kernel_rfl) .acquire (by kernel_rfl) a w
theorem ns (a : Addr) : FnIs Tryz.prog G 225 [.raw (.pointer (some a))] (.tuple []) := lW fun w => run_call_marked Tryz.func225 (by kernel_rfl) (by kernel_rfl) (by kernel_rfl) .releaseMerge (by kernel_rfl) a w
attribute [local irreducible] AWp AOps aa ax OrOk ab ae
theorem BN {b off : Nat} {eT : Option TypeId} {cs : List AVal} (hc : cs[off]? = some (.int .i32 0)) : ae Tryz.prog G 209 [.raw (pv b off)] [.cells b eT cs] (fun r H => r = .ret (.tuple []) ∧ H = [.cells b eT (cs.set off (.int .i32 1))]) := by
 have hGL : ab G [] := ad
 have e1 := Gp (G := G) (b := b) (eT := eT) (y := 1) hc
 have hlt := (List.getElem?_eq_some_iff.1 hc).1
 refine fQ 0 Tryz.func209 Tryz.call209 rfl rfl rfl rfl hGL rfl ?_
 intro C hC
 repeat' (first | (conv => whnf); first | refine .w ?_ | refine .v ?_ | refine sc_c ?_ ?_ <;> (intro hb; try exact dd hb) | apply ah | apply aq | (apply sc_i <;> intro hb) | (apply bx_i; intro hbd) | (apply ak; first | exact gz | exact jb | exact e1) | (apply ap (i := 0) rfl; first | exact gz | exact jb | exact e1) | (apply ab_i; intro bl) | (apply as_i; intro va vk vc hva) | (apply av_i; intro v) | (apply ac_i; intro bl cap hcap) | apply bo_l | (apply nx_i <;> intro hnx) | exact rt_w | apply dw_q mixed hC hGL (by kernel_rfl) | (apply cq; assumption; (first | exact gz | exact jb | exact e1); exact rfl))
 all_goals try conv => whnf
 refine bF hC hGL (AG (j := 0) rfl rfl (List.getElem?_set_self hlt) rfl rfl rfl rfl rfl rfl) rfl rfl ?_
 repeat' (first | (conv => whnf); first | refine .w ?_ | refine .v ?_ | refine sc_c ?_ ?_ <;> (intro hb; try exact dd hb) | apply ah | apply aq | (apply sc_i <;> intro hb) | (apply bx_i; intro hbd) | (apply ak; first | exact nt _) | (apply ap (i := 0) rfl; first | exact nt _) | (apply ab_i; intro bl) | (apply as_i; intro va vk vc hva) | (apply av_i; intro v) | (apply ac_i; intro bl cap hcap) | apply bo_l | (apply nx_i <;> intro hnx) | exact rt_w | apply dw_q mixed hC hGL (by kernel_rfl) | (apply cq; assumption; (first | exact nt _); exact rfl))
 all_goals try conv => whnf
theorem vN {b off : Nat} {eT : Option TypeId} {cs : List AVal} (hc : cs[off]? = some (.int .i32 1)) : ae Tryz.prog G 210 [.raw (pv b off)] [.cells b eT cs] (fun r H => r = .ret (.tuple []) ∧ H = [.cells b eT (cs.set off (.int .i32 0))]) := by
 have hGL : ab G [] := ad
 have e1 := Gn (G := G) (b := b) (eT := eT) hc
 refine fQ 0 Tryz.func210 Tryz.call210 rfl rfl rfl rfl hGL rfl ?_
 intro C hC
 refine xw1 ?_
 intros
 erw [hc]
 refine xw1 ?_
 intros
 refine bF hC hGL (AG (j := 0) rfl rfl hc rfl rfl rfl rfl rfl rfl) rfl rfl ?_
 repeat' (first | (conv => whnf); first | refine .w ?_ | refine .v ?_ | refine sc_c ?_ ?_ <;> (intro hb; try exact dd hb) | apply ah | apply aq | (apply sc_i <;> intro hb) | (apply bx_i; intro hbd) | (apply ak; first | exact ns _ | exact gz | exact jb | exact e1) | (apply ap (i := 0) rfl; first | exact ns _ | exact gz | exact jb | exact e1) | (apply ab_i; intro bl) | (apply as_i; intro va vk vc hva) | (apply av_i; intro v) | (apply ac_i; intro bl cap hcap) | apply bo_l | (apply nx_i <;> intro hnx) | exact rt_w | apply dw_q mixed hC hGL (by kernel_rfl) | (apply cq; assumption; (first | exact ns _ | exact gz | exact jb | exact e1); exact rfl))
 all_goals try conv => whnf
theorem lock {b off : Nat} {eT : Option TypeId} {cs : List AVal} (hc : cs[off]? = some (.int .i32 0)) : ae Tryz.prog G 200 [.raw (pv b off)] [.cells b eT cs] (fun r H => r = .ret (.tuple []) ∧ H = [.cells b eT (cs.set off (.int .i32 1))]) := by
 have hGL : ab G [] := ad
 have e1 := BN (G := G) (b := b) (eT := eT) hc
 refine fQ 0 Tryz.func200 Tryz.call200 rfl rfl rfl rfl hGL rfl ?_
 intro C hC
 exact xw0
theorem Fd {b off : Nat} {eT : Option TypeId} {cs : List AVal} (hc : cs[off]? = some (.int .i32 1)) (m : AMode) : cj Tryz.prog G 201 [.own 0 (pv b off)] m [.cells b eT cs] (fun r m' H => m' = m ∧ r = .ret (.tuple []) ∧ H = [.cells b eT (cs.set off (.int .i32 0))]) := by
 have hGL : ab G [] := ad
 have e1 := vN (G := G) (b := b) (eT := eT) hc
 refine rc (rs := []) (GL := []) Tryz.func201 rfl rfl rfl rfl hGL ?_
 intro C hC
 exact xw0
theorem p6 {b off : Nat} {eT : Option TypeId} {cs : List AVal} {n : Int} (hc : cs[off]? = some (.int .u32 n)) : ae Tryz.prog G 195 [.raw (pv b off)] [.cells b eT cs] (fun r H => r = .ret (.bool (!eqB n 0)) ∧ H = [.cells b eT cs]) := by
 have hGL : ab G [] := ad
 have e1 := EC (G := G) (b := b) (eT := eT) hc
 refine fQ 0 Tryz.func195 Tryz.call195 rfl rfl rfl rfl hGL rfl ?_
 intro C hC
 exact xw0
theorem uf : FnIs Tryz.prog G 212 [.bool true] (.int .u32 1) := by
 have hGL : ab G [] := ad
 refine fn_x Tryz.func212 Tryz.call212 rfl rfl rfl rfl hGL ?_
 intro C hC
 exact xw0
theorem wA {b off : Nat} {eT : Option TypeId} {cs : List AVal} {n : Int} (hc : cs[off]? = some (.int .u32 n)) (m : AMode) : cj Tryz.prog G 202 [.own 0 (pv b off), .bool true] m [.cells b eT cs] (fun r m' H => m' = m ∧ r = .ret (.tuple []) ∧ H = [.cells b eT (cs.set off (.int .u32 1))]) := by
 have hGL : ab G [] := ad
 have e1 := CS (G := G) (b := b) (eT := eT) (y := 1) hc
 refine rc (rs := []) (GL := []) Tryz.func202 rfl rfl rfl rfl hGL ?_
 intro C hC
 refine xn1 ?_
 intros
 refine dw_p mixed hC hGL false (fun (_ : Unit) => []) (fun _ => [.cells b eT (cs.set off (.int .u32 1))]) (.take 0 (.take 1 (.take 2 (.take 3 (.br 4 (.br 5 (.done) (.nil)) (.nil)))))) (by kernel_rfl) ?_ ?_
 ·repeat' (first | (conv => whnf); first | refine .w ?_ | refine .v ?_ | refine sc_c ?_ ?_ <;> (intro hb; try exact dd hb) | apply ah | apply aq | (apply sc_i <;> intro hb) | (apply bx_i; intro hbd) | (apply ak; first | exact e1 | exact uf) | (apply ap (i := 0) rfl; first | exact e1 | exact uf) | (apply ab_i; intro bl) | (apply as_i; intro va vk vc hva) | (apply av_i; intro v) | (apply ac_i; intro bl cap hcap) | apply bo_l | (apply nx_i <;> intro hnx) | exact rt_w | exact True.intro | (apply bc_i; intro C hC) | apply bt_i | apply og_n | (apply og_a; exact rfl))
  all_goals try conv => whnf
  all_goals exact ⟨(), trivial, rfl⟩
 ·intro _
  exact xn0
end
end
section
open Go Go.RowKit
theorem Ey {P : Program} {C : Ctx} {n : Nat} {c : Code} {env : Env} {H : Heap} {Q : List Deferred → AExit → Env → Heap → Prop} {k : Nat} (i : Nat) {v : Value} (hv : vAgg v = false) (hk : Env.get env k = some (.raw v)) (h : AWpD P C n c ((k, .own i v) :: env) H Q) : AWpD P C n c env H Q :=
 fun R a w hm hf => h R a w hm (lD hv hk hf)
theorem Cl {P : Program} [Tab P] {G : Glo} {f : FuncId} {avs : List AVal} {H H' : Heap} {v : AVal} {K Kp : AVal → Heap → Prop} (hs : ae P G f avs H (fun r H2 => r = .ret v ∧ H2 = H')) (k : K v H') : Cx P G f avs H K Kp := by
 refine ⟨_, hs, ?_, ?_⟩
 ·rintro v' H2 ⟨e, rfl⟩; cases e; exact k
 ·rintro v' H2 ⟨e, rfl⟩; cases e
attribute [local irreducible] AWp AOps aa ax OrOk ab ae
attribute [local irreducible] cj Lv AWpD To
theorem zg {G : Glo} {b off fid : Nat} {eT : Option TypeId} {cs : List AVal} {T : Heap} {Y : Type} {cs2 : Y → List AVal} {T2 : Y → Heap} {l1 l2 : List AVal} (h0 : cs[off]? = some (.int .u32 0)) (h1 : cs[off + 1]? = some (.int .i32 0)) (k0 : ∀ y, (cs2 y)[off]? = some (.int .u32 0)) (k1 : ∀ y, (cs2 y)[off + 1]? = some (.int .i32 1))
  (hf : ae Tryz.prog G fid (ez (l1 ++ ([] ++ l2))) (.cells b eT (cs.set (off + 1) (.int .i32 1)) :: T) (fun r H => ∃ y, r = .ret (.tuple []) ∧ H = .cells b eT (cs2 y) :: T2 y)) :
  ae Tryz.prog G 196 [.raw (pv b off), .func (.func fid) l1 l2] (.cells b eT cs :: T) (fun r H => ∃ y, r = .ret (.tuple []) ∧ H = .cells b eT (((cs2 y).set off (.int .u32 1)).set (off + 1) (.int .i32 0)) :: T2 y) := by
 have hGL : ab G [] := ad
 have e1 := lock (G := G) (b := b) (eT := eT) h1
 have h0' : (cs.set (off + 1) (.int .i32 1))[off]? = some (.int .u32 0) := by rw [List.getElem?_set_ne (by omega)]; exact h0
 have e2 := p6 (G := G) (b := b) (eT := eT) h0'
 refine fn_d (rs := []) Tryz.func196 Tryz.call196 rfl rfl rfl rfl ?_
 intro C hC hD
 refine Ey (k := 0) (v := pv b off) 0 rfl rfl ?_
 refine fw (ec hC hGL ?_)
 repeat' (first | (conv => whnf); first | refine .w ?_ | refine .v ?_ | refine sc_c ?_ ?_ <;> (intro hb; try exact dd hb) | apply ah | apply aq | (apply sc_i <;> intro hb) | (apply bx_i; intro hbd) | (apply ak; first | exact e1) | (apply ap (i := 0) rfl; first | exact e1) | (apply ab_i; intro bl) | (apply as_i; intro va vk vc hva) | (apply av_i; intro v) | (apply ac_i; intro bl cap hcap) | apply bo_l | (apply nx_i <;> intro hnx) | exact rt_w | apply dw_q mixed hC hGL (by kernel_rfl) | (apply cq; assumption; (first | exact e1); exact rfl))
 all_goals try conv => whnf
 rw [aP]
 repeat' (first | (conv => whnf); first | refine .w ?_ | refine .v ?_ | refine sc_c ?_ ?_ <;> (intro hb; try exact dd hb) | apply ah | apply aq | (apply sc_i <;> intro hb) | (apply bx_i; intro hbd) | (apply ak; first | fail) | (apply ap (i := 0) rfl; first | fail) | (apply ab_i; intro bl) | (apply as_i; intro va vk vc hva) | (apply av_i; intro v) | (apply ac_i; intro bl cap hcap) | apply bo_l | (apply nx_i <;> intro hnx) | exact rt_w | apply dw_q mixed hC hGL (by kernel_rfl) | (apply cq; assumption; (first | fail); exact rfl))
 all_goals try conv => whnf
 refine fw (gH hC hGL rfl ?_)
 repeat' (first | (conv => whnf); first | refine .w ?_ | refine .v ?_ | refine sc_c ?_ ?_ <;> (intro hb; try exact dd hb) | apply ah | apply aq | (apply sc_i <;> intro hb) | (apply bx_i; intro hbd) | (apply ak; first | fail) | (apply ap (i := 0) rfl; first | fail) | (apply ab_i; intro bl) | (apply as_i; intro va vk vc hva) | (apply av_i; intro v) | (apply ac_i; intro bl cap hcap) | apply bo_l | (apply nx_i <;> intro hnx) | exact rt_w | apply dw_q mixed hC hGL (by kernel_rfl) | (apply cq; assumption; (first | fail); exact rfl))
 all_goals try conv => whnf
 refine ⟨_, rfl, ?_⟩
 refine (fun (h : ∀ C2 : Ctx, C2.G = G → C2.D = [{ target := .fn (.func 201) #[], args := #[pv b (off + 1)] }] → AWpD Tryz.prog C2 _ _ _ _ _) => h (withD C ({ target := .fn (.func 201) #[], args := #[pv b (off + 1)] } :: C.D)) hC (by show _ :: C.D = _; rw [hD])) ?_
 clear hC hD C
 intro C hC hD
 refine fw (ec hC hGL ?_)
 repeat' (first | (conv => whnf); first | refine .w ?_ | refine .v ?_ | refine sc_c ?_ ?_ <;> (intro hb; try exact dd hb) | apply ah | apply aq | (apply sc_i <;> intro hb) | (apply bx_i; intro hbd) | (apply ak; first | exact e2) | (apply ap (i := 0) rfl; first | exact e2) | (apply ab_i; intro bl) | (apply as_i; intro va vk vc hva) | (apply av_i; intro v) | (apply ac_i; intro bl cap hcap) | apply bo_l | (apply nx_i <;> intro hnx) | exact rt_w | apply dw_q mixed hC hGL (by kernel_rfl) | (apply cq; assumption; (first | exact e2); exact rfl))
 all_goals try conv => whnf
 rw [aP]
 repeat' (first | (conv => whnf); first | refine .w ?_ | refine .v ?_ | refine sc_c ?_ ?_ <;> (intro hb; try exact dd hb) | apply ah | apply aq | (apply sc_i <;> intro hb) | (apply bx_i; intro hbd) | (apply ak; first | exact e2) | (apply ap (i := 0) rfl; first | exact e2) | (apply ab_i; intro bl) | (apply as_i; intro va vk vc hva) | (apply av_i; intro v) | (apply ac_i; intro bl cap hcap) | apply bo_l | (apply nx_i <;> intro hnx) | exact rt_w | apply dw_q mixed hC hGL (by kernel_rfl) | (apply cq; assumption; (first | exact e2); exact rfl))
 all_goals try conv => whnf
 refine CP rfl (fun _ => ?_) (fun hb => absurd hb (by simp [eqB]))
 refine fw (gH hC hGL rfl ?_)
 repeat' (first | (conv => whnf); first | refine .w ?_ | refine .v ?_ | refine sc_c ?_ ?_ <;> (intro hb; try exact dd hb) | apply ah | apply aq | (apply sc_i <;> intro hb) | (apply bx_i; intro hbd) | (apply ak; first | fail) | (apply ap (i := 0) rfl; first | fail) | (apply ab_i; intro bl) | (apply as_i; intro va vk vc hva) | (apply av_i; intro v) | (apply ac_i; intro bl cap hcap) | apply bo_l | (apply nx_i <;> intro hnx) | exact rt_w | apply dw_q mixed hC hGL (by kernel_rfl) | (apply cq; assumption; (first | fail); exact rfl))
 all_goals try conv => whnf
 refine ⟨_, rfl, ?_⟩
 refine ec (P := Tryz.prog) (C := withD C ({ target := .fn (.func 202) #[], args := #[pv b off, .bool true] } :: C.D)) (G := G) hC hGL ?_
 repeat' (first | (conv => whnf); first | refine .w ?_ | refine .v ?_ | refine sc_c ?_ ?_ <;> (intro hb; try exact dd hb) | apply ah | apply aq | (apply sc_i <;> intro hb) | (apply bx_i; intro hbd) | (apply ak; first | fail) | (apply ap (i := 0) rfl; first | fail) | (apply ab_i; intro bl) | (apply as_i; intro va vk vc hva) | (apply av_i; intro v) | (apply ac_i; intro bl cap hcap) | apply bo_l | (apply nx_i <;> intro hnx) | exact rt_w | apply dw_q mixed hC hGL (by kernel_rfl) | (apply cq; assumption; (first | fail); exact rfl))
 all_goals try conv => whnf
 rw [bz]
 refine ⟨_, hf, ?_, fun v' H2 ⟨y, e, _⟩ => by cases e⟩
 rintro v' H2 ⟨y, e, rfl⟩
 cases e
 show Lv Tryz.prog _ _ _ _ ({ target := .fn (.func 202) #[], args := #[pv b off, .bool true] } :: C.D) _ _ _
 rw [hD]
 refine f9 (lI (T2 y) (wA (k0 y) .ret)) (fun R => ⟨_, _, rfl, aA.2 ⟨rfl, rfl⟩, _, _, rfl, aE.2 rfl, rfl⟩) Tryz.call202 ?_
 have k1' : ((cs2 y).set off (.int .u32 1))[off + 1]? = some (.int .i32 1) := by rw [List.getElem?_set_ne (by omega)]; exact k1 y
 refine f9 (lI (T2 y) (Fd k1' .ret)) (fun R => ⟨_, _, rfl, aA.2 ⟨rfl, rfl⟩, rfl⟩) Tryz.call201 ?_
 refine FU (P := Tryz.prog) ?_
 exact ⟨_, List.Sublist.refl _, y, rfl, rfl⟩
theorem DR {G : Glo} {b off fid : Nat} {eT : Option TypeId} {cs : List AVal} {T : Heap} {Y : Type} {cs2 : Y → List AVal} {T2 : Y → Heap} {l1 l2 : List AVal} (h0 : cs[off]? = some (.int .u32 0)) (h1 : cs[off + 1]? = some (.int .i32 0)) (k0 : ∀ y, (cs2 y)[off]? = some (.int .u32 0)) (k1 : ∀ y, (cs2 y)[off + 1]? = some (.int .i32 1))
  (hl1 : ez l1 = l1) (hl2 : ez l2 = l2)
  (hf : ae Tryz.prog G fid (ez (l1 ++ ([] ++ l2))) (.cells b eT (cs.set (off + 1) (.int .i32 1)) :: T) (fun r H => ∃ y, r = .ret (.tuple []) ∧ H = .cells b eT (cs2 y) :: T2 y)) :
  ae Tryz.prog G 185 [.raw (pv b off), .func (.func fid) l1 l2] (.cells b eT cs :: T) (fun r H => ∃ y, r = .ret (.tuple []) ∧ H = .cells b eT (((cs2 y).set off (.int .u32 1)).set (off + 1) (.int .i32 0)) :: T2 y) := by
 have hGL : ab G [] := ad
 have e1 := p6 (G := G) (b := b) (eT := eT) h0
 have e2 := zg h0 h1 k0 k1 hf
 refine fQ 0 Tryz.func185 Tryz.call185 rfl rfl rfl rfl hGL rfl ?_
 intro C hC
 repeat' (first | (conv => whnf); first | refine .w ?_ | refine .v ?_ | refine sc_c ?_ ?_ <;> (intro hb; try exact dd hb) | apply ah | apply aq | (apply sc_i <;> intro hb) | (apply bx_i; intro hbd) | (apply ak; first | exact e1) | (apply ap (i := 0) rfl; first | exact e1) | (apply ab_i; intro bl) | (apply as_i; intro va vk vc hva) | (apply av_i; intro v) | (apply ac_i; intro bl cap hcap) | apply bo_l | (apply nx_i <;> intro hnx) | exact rt_w | apply dw_q mixed hC hGL (by kernel_rfl) | (apply cq; assumption; (first | exact e1); exact rfl))
 all_goals try conv => whnf
 rw [aP]
 repeat' (first | (conv => whnf); first | refine .w ?_ | refine .v ?_ | refine sc_c ?_ ?_ <;> (intro hb; try exact dd hb) | apply ah | apply aq | (apply sc_i <;> intro hb) | (apply bx_i; intro hbd) | (apply ak; first | exact e1) | (apply ap (i := 0) rfl; first | exact e1) | (apply ab_i; intro bl) | (apply as_i; intro va vk vc hva) | (apply av_i; intro v) | (apply ac_i; intro bl cap hcap) | apply bo_l | (apply nx_i <;> intro hnx) | exact rt_w | apply dw_q mixed hC hGL (by kernel_rfl) | (apply cq; assumption; (first | exact e1); exact rfl))
 all_goals try conv => whnf
 rw [show ii (.func (.func fid) l1 l2) = .func (.func fid) l1 l2 by simp [ii, hl1, hl2]]
 refine ⟨_, e2, ?_, fun v' H2 ⟨y, e, _⟩ => by cases e⟩
 rintro v' H2 ⟨y, e, rfl⟩
 cases e
 exact ⟨_, List.Sublist.refl _, y, rfl, rfl⟩
end
section
open Go Go.RowKit
theorem s9 (v : Value) (n : Nat) : (madeCells #[v] n).toList = List.replicate n v := by
 unfold madeCells
 refine List.ext_getElem (by simp) (fun i h1 h2 => ?_)
 simp [Nat.mod_one]
section
variable {P : Program} [Tab P] {C : Ctx} {n : Nat} {env : Env} {H : Heap} {Q : AExit → Env → Heap → Prop} {ops : Array Oper} {rest : List Oper} {G : Glo} {GL : List (Nat × List AVal)}
variable {d : Nat} {t : TypeId} {p : String} {af : Array Edge} {g : Option (Nat × Bool)} {b : Bool}
variable {x y : Operand} {T e : TypeId} {xT xe : TI}
theorem iz {ρ : Operand → Value} {w w' : World} {a c u : Value} (ha : ρ x = a) (hc : ρ y = c) (hr : (Instr.makeSlice T a c).run P w = .ok u w') :
  (execOp ρ { dst := some d, op := .makeSlice T x y, type := t, pos := p, after := af, guard := g }).run P w = .ok (.value u) w' := by
 simp only [execOp, ha, hc, Sem.run_bind, hr, Result.andThen_ok, Sem.run_pure]
theorem zf {k1 k2 : IntKind} {m : Nat} (hC : C.G = G) (hGL : ab G GL) (hx : ai env x = some (.int k1 (m : Int))) (hy : ai env y = some (.int k2 (m : Int))) (hm0 : m ≤ 1000000000000) (ht : tab P T = some xT) (hd : xT.desc = .slice e) (he : tab P e = some xe) (hz : xe.zero = some (.int .u8 0)) (hs : xe.size = 1) (hb : xe.bytes = 1)
  (hg : aF ops env g = some (b, b)) (hdn : Nat.ble (d + 1) n = true)
  (k : ∀ bl, opsX P C n G GL ops Q rest ((d, .own H.length (.slice (some ⟨bl, 0, none⟩) m m)) :: env) (H ++ [.buf bl (List.replicate m 0) m])) :
  Op1 P C n ops ({ dst := some d, op := .makeSlice T x y, type := t, pos := p, after := af, guard := g } :: rest) env H Q := by
 refine ⟨di (X := Nat) (av := fun bl => .raw (.slice (some ⟨bl, 0, none⟩) m m)) (H' := fun bl => .buf bl (List.replicate m 0) m :: H) hg rfl hdn (fun R ρ w hm hf => ?_)
  (fun bl => gn (cB (i := H.length) rfl (cP hC hGL _ _ _ (k bl))))⟩
 obtain ⟨i, hi, his, hib, hiz, _⟩ := dR he
 have hr := run_make (P := P) w T e i (.int .u8 0) (by rw [aZ ht, hd]) hi (by rw [hiz, hz]) k1 k2 (m : Int) (m : Int) (by omega) (by omega) (by rw [hib, hb]; omega) (by omega)
 simp only [Int.toNat_natCast] at hr
 have hrun := iz (d := d) (t := t) (p := p) (af := af) (g := g) (ao.1 (hf _ _ hx)) (ao.1 (hf _ _ hy)) hr
 refine ⟨w.heap.size, _, _, R, hrun, Seal.le_refl R, an.2 rfl, ?_⟩
 ·rw [fP]
  refine hm.alloc _ _ rfl ⟨by simp, _, _, _, cU w _, ?_, .inl (Nat.le_refl _)⟩
  rw [his, hs, Nat.mul_one, show (Value.int .u8 0).cells = #[.int .u8 0] from rfl, s9]
  have : ownB (List.replicate m 0) m = List.replicate m (.int .u8 0) := by simp [ownB, byteA]
  rw [this]
  exact d6 (show RelC R (.int .u8 0) [.int .u8 0] from rfl) _
theorem ze {k1 k2 : IntKind} {m : Nat} (hC : C.G = G) (hGL : ab G GL) (hx : ai env x = some (.int k1 0)) (hy : ai env y = some (.int k2 (m : Int))) (hm0 : m ≤ 1000000000) (ht : tab P T = some xT) (hd : xT.desc = .slice e) (he : tab P e = some xe) {z : Value} (hz : xe.zero = some z) (hb : Nat.ble xe.bytes 1024 = true)
  (hg : aF ops env g = some (b, b)) (hdn : Nat.ble (d + 1) n = true)
  (k : ∀ bl, opsX P C n G GL ops Q rest ((d, .own H.length (.slice (some ⟨bl, 0, none⟩) 0 m)) :: env) (H ++ [.row (.slice (some ⟨bl, 0, none⟩) 0 m) (some e) xe.size 0 []])) :
  Op1 P C n ops ({ dst := some d, op := .makeSlice T x y, type := t, pos := p, after := af, guard := g } :: rest) env H Q := by
 refine ⟨di (X := Nat) (av := fun bl => .raw (.slice (some ⟨bl, 0, none⟩) 0 m)) (H' := fun bl => .row (.slice (some ⟨bl, 0, none⟩) 0 m) (some e) xe.size 0 [] :: H) hg rfl hdn (fun R ρ w hm hf => ?_)
  (fun bl => gn (cB (i := H.length) rfl (cP hC hGL _ _ _ (k bl))))⟩
 obtain ⟨i, hi, his, hib, hiz, _⟩ := dR he
 have hb := Nat.le_of_ble_eq_true hb
 have hmul : xe.bytes * m ≤ 1024 * 1000000000 := Nat.mul_le_mul hb hm0
 have hr := run_make (P := P) w T e i z (by rw [aZ ht, hd]) hi (by rw [hiz, hz]) k1 k2 0 (m : Int) (by omega) (by omega) (by rw [hib, ← Int.natCast_mul]; omega) (by omega)
 simp only [Int.toNat_natCast, Int.toNat_zero] at hr
 have hrun := iz (d := d) (t := t) (p := p) (af := af) (g := g) (ao.1 (hf _ _ hx)) (ao.1 (hf _ _ hy)) hr
 refine ⟨w.heap.size, _, _, R, hrun, Seal.le_refl R, an.2 rfl, ?_⟩
 ·rw [fP]
  refine hm.alloc _ _ rfl ⟨by simp, .inr ⟨_, _, _, _, _, rfl, cU w _, ?_, Nat.zero_le _, ?_, .inl (Nat.le_refl _), fun t ht => by cases ht; rfl⟩⟩
  ·rw [size_madeCells, his]
  ·simp [RelL]
end
end
section
open Go
attribute [local irreducible] AWp AOps aa ax OrOk ab ae
def xB : Nat → List Int → List (Nat × AVal)
 | _, [] => []
 | k, v :: vs => (k, .int .u8 v) :: xB (k + 1) vs
theorem sQ : ∀ (vs : List Int) (k i : Nat) (h : i < vs.length), (xB k vs)[i]? = some (k + i, .int .u8 vs[i])
 | [], _, _, h => absurd h (Nat.not_lt_zero _)
 | v :: vs, k, 0, _ => rfl
 | v :: vs, k, i + 1, h => by
  have := sQ vs (k + 1) i (by simpa using h)
  simp only [xB, List.getElem?_cons_succ, List.getElem_cons_succ]
  rw [this, show k + 1 + i = k + (i + 1) by omega]
def eI (vs : List Int) : List UInt8 := vs.map fun v => UInt8.ofNat v.toNat
theorem AK {P : Program} [Tab P] {C : Ctx} {H : Heap} {env : Env} (vs : List Int) {S T e : TypeId} {xS xT xe : TI} {x : Operand} (hx : ai env x = some (.list 1 vs.length (aV (xB 0 vs)))) (hv : ∀ v, v ∈ vs → 0 ≤ v ∧ v < 256)
  (h1 : tab P S = some xS) (h2 : xS.desc = .slice e) (h5 : tab P e = some xe) (h6 : xe.desc = .int .u8) (h3 : tab P T = some xT) (h4 : xT.desc = .string) : RunV P C H env (.convert S T x) (.str (eI vs)) := by
 refine sc (eI vs) hx (by simp [eI]) (fun i hi => ?_) h1 h2 h5 h6 h3 h4
 have hi : i < vs.length := by simpa [eI] using hi
 have := hv _ (List.getElem_mem hi)
 unfold aV
 rw [sQ vs 0 i hi]
 simp only [byteA, eI, List.getD, List.getElem?_map, List.getElem?_eq_getElem hi, Option.map_some, Option.getD_some]
 generalize vs[i] = v at *
 congr 1
 have e : v.toNat < 256 := by omega
 rw [UInt8.toNat_ofNat_of_lt' (by simpa using e)]
 omega
end
section
open Go Go.RowKit
attribute [local irreducible] AWp AOps ax OrOk ab ae
attribute [local irreducible] cj Lv AWpD To
def hO (u : Value) : List AVal := [.int .u32 0, .int .i32 0, .int .u32 0, .raw .nilIface, .own 0 u]
theorem mr {G : Glo} (m : Nat) (f : Nat → AVal) (hm : m ≤ 1000) (h2 : m % 2 = 0) (hs : ax 1 m f) : ae Tryz.prog G 168 [.list 1 m f] [] (fun r H => ∃ bl va vk vc, RowV m va vk ∧ r = .ret (.own 1 (pv bl 0)) ∧ H = [.row (.slice va vk vc) none 1 m (dZ m f), .cells bl (some 280) (hO (.slice va vk vc))]) := by
 have hGL : ab G [] := ad
 refine fn_x Tryz.func168 Tryz.call168 rfl rfl rfl rfl hGL ?_
 intro C hC
 repeat' (first | (conv => whnf); first | refine .w ?_ | refine .v ?_ | refine sc_c ?_ ?_ <;> (intro hb; try exact dd hb) | apply ah | apply aq | (apply sc_i <;> intro hb) | (apply bx_i; intro hbd) | (apply ak; first | fail) | (apply ap (i := 0) rfl; first | fail) | (apply ab_i; intro bl) | (apply as_i; intro va vk vc hva) | (apply av_i; intro v) | (apply ac_i; intro bl cap hcap) | apply bo_r | (apply nx_i <;> intro hnx) | exact rt_w | exact True.intro | (apply bc_i; intro C hC) | apply bt_i | apply og_n | (apply og_a; exact rfl))
 all_goals try conv => whnf
 exact ⟨_, List.Sublist.refl _, bl, va, vk, vc, hva, rfl, rfl⟩
end
section
open Go Go.RowKit
theorem dh {s : List UInt8} {j : Nat} (h : j < s.length) : aa s j = s[j].toNat := by
 simp [aa, List.getD, h]
def encF (c : UInt8) : List UInt8 := if c = 94 then [94, 94] else if c = 10 then [94, 110] else if c = 34 then [94, 39] else [c]
def encS (s : List UInt8) : List UInt8 := s.flatMap encF
end
section
open Go Go.RowKit
structure Pr where
 n : List UInt8
 vs : List (List UInt8)
def Pr.z : Pr := ⟨[], []⟩
instance : Inhabited Pr := ⟨Pr.z⟩
structure Ln where
 g : List UInt8
 n : List UInt8
 ps : List Pr
 v : List UInt8
def prF (ps : List Pr) (i : Nat) : AVal := .agg [.str (ps.getD i Pr.z).n, .list 1 (ps.getD i Pr.z).vs.length (aO (ps.getD i Pr.z).vs)]
def Ln.A (p : Ln) : AVal := .agg [.str p.g, .str p.n, .list 2 p.ps.length (prF p.ps), .str p.v]
theorem ov {p : Nat → Prop} {k : Nat} (h : ∀ j, j < k → p j) (hk : p k) : ∀ j, j < k + 1 → p j := fun j hj => by
 rcases Nat.lt_or_ge j k with g | g
 ·exact h j g
 ·rw [show j = k by omega]; exact hk
end
section
open Go Go.RowKit
def eIf (c : Bool) (s : List UInt8) : List UInt8 := if c then encS s else s
def mayV (c : Bool) (s : List UInt8) : Bool := hdB false (eIf c s) && decide (idxB (eIf c s) 34 < 0)
def prE (c : Bool) (q : Pr) : Int := if isS q.n = false then 5 else if q.vs.length = 0 then 8 else if q.vs.all (mayV c) then 0 else 3
def firE (c : Bool) : List Pr → Nat → Err
 | [], _ => .none
 | q :: l, i => if prE c q = 0 then firE c l (i + 1) else .at (prE c q) i
def Ln.E (c : Bool) (p : Ln) : Err := if isS p.n = false ∨ (p.g.length ≠ 0 ∧ isS p.g = false) then .errno 5
 else if 20 < p.ps.length then .errno 4
 else match firE c p.ps 0 with
  | .none => if hdB false p.v then .none else .errno 3
  | x => x
def quoC (c : Int) : Bool := decide (c = 44 ∨ c = 59 ∨ c = 58)
def quoS (c : Bool) (s : List UInt8) : List UInt8 := if fstB quoC (eIf c s) < 0 then eIf c s else 34 :: eIf c s ++ [34]
def prT (c : Bool) (q : Pr) : List UInt8 := 59 :: q.n ++ [61] ++ Lib.join (q.vs.map (quoS c)) [44]
def hdT (p : Ln) : List UInt8 := if p.g.length = 0 then p.n else p.g ++ [46] ++ p.n
def Ln.txt (c : Bool) (p : Ln) : List UInt8 := hdT p ++ p.ps.flatMap (prT c) ++ [58] ++ p.v
def Ln.T (c : Bool) (p : Ln) : List UInt8 := match p.E c with
 | .none => p.txt c
 | _ => []
theorem pT {c : Bool} : ∀ {l : List Pr} (i k : Nat), (∀ j, j < k → j < l.length → prE c (l.getD j Pr.z) = 0) → (k < l.length → prE c (l.getD k Pr.z) ≠ 0) → firE c l i = if k < l.length then .at (prE c (l.getD k Pr.z)) ((i + k : Nat) : Int) else .none
 | [], i, k, _, _ => by simp [firE]
 | q :: l, i, 0, _, h => by
  have h := h (by simp)
  rw [if_pos (by simp)]
  simp only [firE]
  rw [if_neg (by simpa using h)]
  simp
 | q :: l, i, k + 1, h1, h2 => by
  have h0 : prE c q = 0 := by simpa using h1 0 (by omega) (by simp)
  simp only [firE]
  rw [if_pos h0, pT (i + 1) k (fun j hj hl => by simpa using h1 (j + 1) (by omega) (by simpa using hl)) (fun h => by simpa using h2 (by simpa using h))]
  have e : i + 1 + k = i + (k + 1) := by omega
  simp only [List.length_cons, List.getD_cons_succ, Nat.add_lt_add_iff_right, e]
theorem pU {c : Bool} {l : List Pr} {k : Nat} (hk : l.length ≤ k) (h : ∀ j, j < k → prE c (l.getD j Pr.z) = 0) : firE c l 0 = .none := by
 rw [pT 0 k (fun j hj _ => h j hj) (fun h => absurd h (by omega)), if_neg (by omega)]
theorem Ln.E_f {c : Bool} {p : Ln} (h1 : isS p.n = true) (h2 : p.g.length = 0 ∨ isS p.g = true) (h : p.ps.length ≤ 20) : p.E c = match firE c p.ps 0 with
  | .none => if hdB false p.v then .none else .errno 3
  | x => x := by
 unfold Ln.E
 rw [if_neg (by rintro (k | ⟨k1, k2⟩); rw [h1] at k; cases k; rcases h2 with h2 | h2; exact k1 h2; rw [h2] at k2; cases k2), if_neg (by omega)]
theorem Ln.E_3 {c : Bool} {p : Ln} (h1 : isS p.n = true) (h2 : p.g.length = 0 ∨ isS p.g = true) (h : p.ps.length ≤ 20) {k : Nat} (hk : p.ps.length ≤ k) (hj : ∀ j, j < k → prE c (p.ps.getD j Pr.z) = 0) (hv : hdB false p.v = false) : p.E c = .errno 3 := by
 rw [Ln.E_f h1 h2 h, pU hk hj]
 simp only [hv, Bool.false_eq_true, if_false]
theorem Ln.E_0 {c : Bool} {p : Ln} (h1 : isS p.n = true) (h2 : p.g.length = 0 ∨ isS p.g = true) (h : p.ps.length ≤ 20) {k : Nat} (hk : p.ps.length ≤ k) (hj : ∀ j, j < k → prE c (p.ps.getD j Pr.z) = 0) (hv : hdB false p.v = true) : p.E c = .none := by
 rw [Ln.E_f h1 h2 h, pU hk hj]
 simp only [hv, if_true]
end
section
open Go Go.RowKit
def decT (d : UInt8) : Option UInt8 := if d = 94 then some 94 else if d = 110 then some 10 else if d = 39 then some 34 else none
def decS : List UInt8 → List UInt8
 | [] => []
 | [c] => [c]
 | c :: d :: t => match (if c = 94 then decT d else none) with
  | some e => e :: decS t
  | none => c :: decS (d :: t)
theorem tN : decS [] = [] := rfl
theorem zx {c d : UInt8} {t : List UInt8} (h : c ≠ 94 ∨ decT d = none) : decS (c :: d :: t) = c :: decS (d :: t) := by
 have : (if c = 94 then decT d else none) = none := by
  rcases h with h | h
  ·rw [if_neg h]
  ·rw [h]; split <;> rfl
 rw [decS, this]
theorem zw {d e : UInt8} {t : List UInt8} (h : decT d = some e) : decS (94 :: d :: t) = e :: decS t := by
 have : (if (94 : UInt8) = 94 then decT d else none) = some e := by rw [if_pos rfl, h]
 rw [decS, this]
theorem wQ {c : UInt8} {k : Nat} (hk : k < 256) : c = UInt8.ofNat k ↔ c.toNat = k := by
 constructor
 ·rintro rfl
  rw [UInt8.toNat_ofNat_of_lt' hk]
 ·intro h
  rw [← h, UInt8.ofNat_toNat]
theorem g8 {s : List UInt8} {i : Nat} (h : i < s.length) (hn : aa s i ≠ 94 ∨ s.length ≤ i + 1 ∨ (aa s (i + 1) ≠ 94 ∧ aa s (i + 1) ≠ 110 ∧ aa s (i + 1) ≠ 39)) :
  decS (s.drop i) = (s.drop i).take 1 ++ decS (s.drop (i + 1)) := by
 rw [List.drop_eq_getElem_cons h]
 rcases Nat.lt_or_ge (i + 1) s.length with h2 | h2
 ·rw [List.drop_eq_getElem_cons h2]
  rw [dh h, dh h2] at hn
  rw [zx]
  ·rfl
  ·rcases hn with hn | hn | ⟨h3, h4, h5⟩
   ·left
    intro e
    rw [e] at hn
    exact hn rfl
   ·omega
   ·right
    unfold decT
    rw [if_neg (fun e => h3 (by rw [e]; rfl)), if_neg (fun e => h4 (by rw [e]; rfl)), if_neg (fun e => h5 (by rw [e]; rfl))]
 ·rw [List.drop_eq_nil_of_le h2]
  rfl
theorem mJ {s : List UInt8} {i : Nat} (h : i + 1 < s.length) (h0 : aa s i = 94) {e : UInt8} (h1 : (aa s (i + 1) = 94 ∧ e = 94) ∨ (aa s (i + 1) = 110 ∧ e = 10) ∨ (aa s (i + 1) = 39 ∧ e = 34)) :
  decS (s.drop i) = e :: decS (s.drop (i + 2)) := by
 rw [List.drop_eq_getElem_cons (by omega : i < s.length), List.drop_eq_getElem_cons h]
 rw [dh (by omega)] at h0
 rw [dh h] at h1
 have e0 : s[i] = 94 := (wQ (by decide)).2 h0
 rw [e0]
 refine zw ?_
 rcases h1 with ⟨h1, rfl⟩ | ⟨h1, rfl⟩ | ⟨h1, rfl⟩
 ·rw [show s[i + 1] = 94 from (wQ (by decide)).2 h1]; rfl
 ·rw [show s[i + 1] = 110 from (wQ (by decide)).2 h1]; rfl
 ·rw [show s[i + 1] = 39 from (wQ (by decide)).2 h1]; rfl
theorem oh : ∀ s : List UInt8, (decS s).length ≤ s.length
 | [] => Nat.le_refl _
 | [_] => Nat.le_refl _
 | c :: d :: t => by
  have h1 := oh t
  have h2 := oh (d :: t)
  rw [decS]
  split
  ·simp only [List.length_cons] at *; omega
  ·simp only [List.length_cons] at *; omega
end
end Go.Proofs.YtkelbglfhigmiaaGreatDoor
