/- What a text's first code point is, where a text is bad: plain functions, no program. -/
import GoSem.Core.Utf8
import Derived.Laws.Strings
namespace Go.Proofs.YtlmihggafbmkaaaGreatDoor
open Go
set_option linter.unusedSimpArgs false

/-- Byte k of a text, as a number. -/
def byteAt (s : List UInt8) (k : Nat) : Nat := (s.getD k 0).toNat
theorem byteAt_lt (s : List UInt8) (k : Nat) : byteAt s k < 256 := UInt8.toNat_lt _
def contAt (s : List UInt8) (k : Nat) : Bool := decide (k < s.length) && (byteAt s k / 64 == 2)
def mayN (r : Nat) : Bool := decide (r ≤ 1114111) && (decide (r < 55296) || decide (57343 < r))
def cp2 (s : List UInt8) : Nat := byteAt s 0 % 32 * 64 + byteAt s 1 % 64
def cp3 (s : List UInt8) : Nat := (byteAt s 0 % 16 * 64 + byteAt s 1 % 64) * 64 + byteAt s 2 % 64
def cp4 (s : List UInt8) : Nat := ((byteAt s 0 % 8 * 64 + byteAt s 1 % 64) * 64 + byteAt s 2 % 64) * 64 + byteAt s 3 % 64
/-- The first code point, and its bytes; 0, 0: none. -/
def nextS (s : List UInt8) : Nat × Nat :=
  if s.length = 0 then (0, 0)
  else if byteAt s 0 < 128 then (byteAt s 0, 1)
  else if byteAt s 0 / 32 = 6 then (if contAt s 1 && decide (128 ≤ cp2 s) && mayN (cp2 s) then (cp2 s, 2) else (0, 0))
  else if byteAt s 0 / 16 = 14 then (if contAt s 1 && contAt s 2 && decide (2048 ≤ cp3 s) && mayN (cp3 s) then (cp3 s, 3) else (0, 0))
  else if byteAt s 0 / 8 = 30 then (if contAt s 1 && contAt s 2 && contAt s 3 && decide (65536 ≤ cp4 s) && mayN (cp4 s) then (cp4 s, 4) else (0, 0))
  else (0, 0)
theorem nextS_le (s : List UInt8) : (nextS s).2 ≤ s.length ∧ (nextS s).2 ≤ 4 ∧ (nextS s).1 ≤ 1114111 := by
  have h := byteAt_lt s 0
  unfold nextS
  split
  · simp
  split
  · simp only []; omega
  split
  · split
    · rename_i h; simp only [Bool.and_eq_true, contAt, mayN, decide_eq_true_eq] at h; simp only []; omega
    · simp
  split
  · split
    · rename_i h; simp only [Bool.and_eq_true, contAt, mayN, decide_eq_true_eq] at h; simp only []; omega
    · simp
  split
  · split
    · rename_i h; simp only [Bool.and_eq_true, contAt, mayN, decide_eq_true_eq] at h; simp only []; omega
    · simp
  · simp
/-- Where a text is bad; its length: nowhere. With fuel. -/
def badF : Nat → List UInt8 → Option Nat
  | 0, _ => none
  | k + 1, s => if s.length = 0 then none else if (nextS s).2 = 0 then some 0 else (badF k (s.drop (nextS s).2)).map (· + (nextS s).2)
def badS (s : List UInt8) : Option Nat := badF s.length s
def badI (s : List UInt8) : Int := match badS s with | some i => (i : Int) | none => -1
theorem badF_mono : ∀ (k : Nat) (s : List UInt8), s.length ≤ k → badF k s = badF s.length s := by
  intro k
  induction k using Nat.strongRecOn with
  | _ k ih =>
    intro s hs
    cases k with
    | zero => have : s.length = 0 := by omega
              rw [this]
    | succ k =>
      by_cases h0 : s.length = 0
      · rw [h0]; simp [badF, h0]
      · obtain ⟨m, hm⟩ : ∃ m, s.length = m + 1 := ⟨s.length - 1, by omega⟩
        rw [hm]
        simp only [badF, if_neg h0]
        by_cases hn : (nextS s).2 = 0
        · rw [if_pos hn, if_pos hn]
        · rw [if_neg hn, if_neg hn]
          have hl : (s.drop (nextS s).2).length ≤ m := by rw [List.length_drop]; omega
          rw [ih k (by omega) _ (by omega), ih m (by omega) _ hl]
/-- One step on. -/
theorem badS_step (s : List UInt8) (h0 : s.length ≠ 0) : badS s = if (nextS s).2 = 0 then some 0 else (badS (s.drop (nextS s).2)).map (· + (nextS s).2) := by
  obtain ⟨m, hm⟩ : ∃ m, s.length = m + 1 := ⟨s.length - 1, by omega⟩
  unfold badS
  rw [hm]
  simp only [badF, if_neg h0]
  by_cases hn : (nextS s).2 = 0
  · rw [if_pos hn, if_pos hn]
  · rw [if_neg hn, if_neg hn, badF_mono]
    rw [List.length_drop]; omega
theorem badS_nil (s : List UInt8) (h0 : s.length = 0) : badS s = none := by unfold badS; rw [h0]; rfl
theorem badS_lt : ∀ (k : Nat) (s : List UInt8), s.length ≤ k → ∀ i, badS s = some i → i < s.length := by
  intro k
  induction k with
  | zero => intro s hs i hi; rw [badS_nil s (by omega)] at hi; cases hi
  | succ k ih =>
    intro s hs i hi
    by_cases h0 : s.length = 0
    · rw [badS_nil s h0] at hi; cases hi
    · rw [badS_step s h0] at hi
      split at hi
      · simp only [Option.some.injEq] at hi; omega
      · rename_i hn
        cases hb : badS (s.drop (nextS s).2) with
        | none => rw [hb] at hi; cases hi
        | some j =>
          rw [hb] at hi
          simp only [Option.map_some, Option.some.injEq] at hi
          have := ih _ (by rw [List.length_drop]; omega) j hb
          rw [List.length_drop] at this
          omega
/-- How far one steps: where nothing can be read, one byte. -/
def stepS (s : List UInt8) : Nat := if (nextS s).2 = 0 then 1 else (nextS s).2
theorem stepS_pos (s : List UInt8) : 0 < stepS s := by unfold stepS; split <;> omega
theorem stepS_le (s : List UInt8) (h : s.length ≠ 0) : stepS s ≤ s.length := by
  have := nextS_le s
  unfold stepS; split <;> omega
/-- What a range over a text tells of the first rune. -/
def rngR (s : List UInt8) : Nat := if (nextS s).2 = 0 then 65533 else (nextS s).1
def cutF : Nat → List UInt8 → Nat → Int → Nat
  | 0, _, a, _ => a
  | k + 1, s, a, n => if s.length = 0 then a else if n < (a : Int) + (stepS s : Int) then a else cutF k (s.drop (stepS s)) (a + stepS s) n
def cutS (s : List UInt8) (a : Nat) (n : Int) : Nat := cutF s.length s a n
theorem cutF_mono : ∀ (k : Nat) (s : List UInt8) (a : Nat) (n : Int), s.length ≤ k → cutF k s a n = cutF s.length s a n := by
  intro k
  induction k using Nat.strongRecOn with
  | _ k ih =>
    intro s a n hs
    cases k with
    | zero => have : s.length = 0 := by omega
              rw [this]
    | succ k =>
      by_cases h0 : s.length = 0
      · rw [h0]; simp [cutF, h0]
      · obtain ⟨m, hm⟩ : ∃ m, s.length = m + 1 := ⟨s.length - 1, by omega⟩
        rw [hm]
        simp only [cutF, if_neg h0]
        have hp := stepS_pos s
        have hl : (s.drop (stepS s)).length ≤ m := by rw [List.length_drop]; omega
        split
        · rfl
        · rw [ih k (by omega) _ _ _ (by omega), ih m (by omega) _ _ _ hl]
theorem cutS_step (s : List UInt8) (a : Nat) (n : Int) (h0 : s.length ≠ 0) :
    cutS s a n = if n < (a : Int) + (stepS s : Int) then a else cutS (s.drop (stepS s)) (a + stepS s) n := by
  obtain ⟨m, hm⟩ : ∃ m, s.length = m + 1 := ⟨s.length - 1, by omega⟩
  unfold cutS
  rw [hm]
  simp only [cutF, if_neg h0]
  split
  · rfl
  · rw [cutF_mono]
    have := stepS_pos s
    rw [List.length_drop]; omega
theorem cutS_nil (s : List UInt8) (a : Nat) (n : Int) (h0 : s.length = 0) : cutS s a n = a := by unfold cutS; rw [h0]; rfl
/-- The model's own decoding. -/
theorem drop_byteAt (s : List UInt8) (p k : Nat) : byteAt (s.drop p) k = byteAt s (p + k) := by
  simp [byteAt, List.getElem?_drop]
theorem get_byteAt (s : List UInt8) (i : Nat) : ((⟨s.toArray⟩ : ByteArray).get! i).toNat = byteAt s i := by
  simp only [byteAt, ByteArray.get!]
  congr 1
  simp [List.getD]
  rfl
theorem valid_mayN (c : Nat) : Utf8.valid (c : Int) = mayN c := by
  rw [Bool.eq_iff_iff]
  simp only [Utf8.valid, mayN, Bool.or_eq_true, Bool.and_eq_true, decide_eq_true_eq]
  omega
theorem contAt_drop (s : List UInt8) (p k : Nat) : contAt (s.drop p) k = (decide (p + k < s.length) && (byteAt s (p + k) / 64 == 2)) := by
  rw [Bool.eq_iff_iff]
  simp only [contAt, drop_byteAt, List.length_drop, Bool.and_eq_true, decide_eq_true_eq]
  constructor <;> rintro ⟨h1, h2⟩ <;> exact ⟨by omega, h2⟩
theorem lin4 (a b c d : Nat) : a * 262144 + b * 4096 + c * 64 + d = ((a * 64 + b) * 64 + c) * 64 + d := by omega
theorem lin3 (a b c : Nat) : a * 4096 + b * 64 + c = (a * 64 + b) * 64 + c := by omega
theorem decode_nextS (s : List UInt8) (p : Nat) (hp : p < s.length) :
    Utf8.decode ⟨s.toArray⟩ p = if (nextS (s.drop p)).2 = 0 then (65533, 1) else nextS (s.drop p) := by
  have hsz : (⟨s.toArray⟩ : ByteArray).size = s.length := by simp [ByteArray.size]
  have h0 : ¬ (s.drop p).length = 0 := by rw [List.length_drop]; omega
  simp only [Utf8.decode, get_byteAt, hsz, Utf8.runeError, nextS, if_neg h0, contAt_drop, cp2, cp3, cp4, drop_byteAt, Nat.add_zero, lin3, lin4, valid_mayN]
  generalize byteAt s p = b0
  generalize (decide (p + 1 < s.length) && (byteAt s (p + 1) / 64 == 2)) = k1
  generalize (decide (p + 2 < s.length) && (byteAt s (p + 2) / 64 == 2)) = k2
  generalize (decide (p + 3 < s.length) && (byteAt s (p + 3) / 64 == 2)) = k3
  generalize byteAt s (p + 1) = b1
  generalize byteAt s (p + 2) = b2
  generalize byteAt s (p + 3) = b3
  by_cases c1 : b0 < 128
  · simp only [if_pos c1]; rfl
  simp only [if_neg c1]
  by_cases c2 : b0 / 32 = 6
  · have c3 : ¬ b0 / 16 = 14 := by omega
    have c4 : ¬ b0 / 8 = 30 := by omega
    have hm : 128 ≤ b0 % 32 * 64 + b1 % 64 → mayN (b0 % 32 * 64 + b1 % 64) = true := by
      intro h; simp only [mayN, Bool.and_eq_true, Bool.or_eq_true, decide_eq_true_eq]; omega
    cases k1 <;> by_cases h : 128 ≤ b0 % 32 * 64 + b1 % 64 <;> simp [c2, c3, c4, h, hm]
  by_cases c3 : b0 / 16 = 14
  · have c4 : ¬ b0 / 8 = 30 := by omega
    generalize (b0 % 16 * 64 + b1 % 64) * 64 + b2 % 64 = r
    cases k1 <;> cases k2 <;> cases hm : mayN r <;> by_cases h : 2048 ≤ r <;> simp [c2, c3, c4, h, hm]
  by_cases c4 : b0 / 8 = 30
  · generalize ((b0 % 8 * 64 + b1 % 64) * 64 + b2 % 64) * 64 + b3 % 64 = r
    cases k1 <;> cases k2 <;> cases k3 <;> cases hm : mayN r <;> by_cases h : 65536 ≤ r <;> simp [c2, c3, c4, h, hm]
  · simp [c2, c3, c4]
end Go.Proofs.YtlmihggafbmkaaaGreatDoor
