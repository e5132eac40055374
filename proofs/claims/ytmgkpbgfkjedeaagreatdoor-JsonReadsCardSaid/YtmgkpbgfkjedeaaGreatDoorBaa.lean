/- Parts of the proof of jsonReads_card: PlUtf, Jsa, Abs, Mem, Ops, Call, Tab, Str. -/
import GoSem.Core.Utf8
import Derived.Laws.Strings
import Derived.WalkKit
import Derived.Below
import Derived.Deep.LoopGhost
import Derived.LoopN
import Derived.Test.YtmgkpbgfkjedeaaGreatDoorProg
set_option linter.unusedVariables false
set_option linter.unusedSimpArgs false
namespace Go.Proofs.YtmgkpbgfkjedeaaGreatDoor
open Go
set_option linter.unusedSimpArgs false
/-- Byte k of a text, as a number. -/
def byteAt (s : List UInt8) (k : Nat) : Nat := (s.getD k 0).toNat
theorem byteAt_lt (s : List UInt8) (k : Nat) : byteAt s k < 256 := UInt8.toNat_lt _
def contAt (s : List UInt8) (k : Nat) : Bool := decide (k < s.length) && (byteAt s k / 64 == 2)
def mayN (r : Nat) : Bool := decide (r ≤ 1114111) && (decide (r < 55296) || decide (57343 < r))
def cp2 (s : List UInt8) : Nat := byteAt s 0 % 32 * 64 + byteAt s 1 % 64
def cp3 (s : List UInt8) : Nat := (byteAt s 0 % 16 * 64 + byteAt s 1 % 64) * 64 + byteAt s 2 % 64
def cp4 (s : List UInt8) : Nat := ((byteAt s 0 % 8 * 64 + byteAt s 1 % 64) * 64 + byteAt s 2 % 64) * 64 + byteAt s 3 % 64
/-- The first code point, and its bytes; 0, 0: none. -/
def nextS (s : List UInt8) : Nat × Nat :=
  if s.length = 0 then (0, 0)
  else if byteAt s 0 < 128 then (byteAt s 0, 1)
  else if byteAt s 0 / 32 = 6 then (if contAt s 1 && decide (128 ≤ cp2 s) && mayN (cp2 s) then (cp2 s, 2) else (0, 0))
  else if byteAt s 0 / 16 = 14 then (if contAt s 1 && contAt s 2 && decide (2048 ≤ cp3 s) && mayN (cp3 s) then (cp3 s, 3) else (0, 0))
  else if byteAt s 0 / 8 = 30 then (if contAt s 1 && contAt s 2 && contAt s 3 && decide (65536 ≤ cp4 s) && mayN (cp4 s) then (cp4 s, 4) else (0, 0))
  else (0, 0)
theorem nextS_le (s : List UInt8) : (nextS s).2 ≤ s.length ∧ (nextS s).2 ≤ 4 ∧ (nextS s).1 ≤ 1114111 := by
  have h := byteAt_lt s 0
  unfold nextS
  split
  · simp
  split
  · simp only []; omega
  split
  · split
    · rename_i h; simp only [Bool.and_eq_true, contAt, mayN, decide_eq_true_eq] at h; simp only []; omega
    · simp
  split
  · split
    · rename_i h; simp only [Bool.and_eq_true, contAt, mayN, decide_eq_true_eq] at h; simp only []; omega
    · simp
  split
  · split
    · rename_i h; simp only [Bool.and_eq_true, contAt, mayN, decide_eq_true_eq] at h; simp only []; omega
    · simp
  · simp
/-- Where a text is bad; its length: nowhere. With fuel. -/
def badF : Nat → List UInt8 → Option Nat
  | 0, _ => none
  | k + 1, s => if s.length = 0 then none else if (nextS s).2 = 0 then some 0 else (badF k (s.drop (nextS s).2)).map (· + (nextS s).2)
def badS (s : List UInt8) : Option Nat := badF s.length s
def badI (s : List UInt8) : Int := match badS s with | some i => (i : Int) | none => -1
theorem badF_mono : ∀ (k : Nat) (s : List UInt8), s.length ≤ k → badF k s = badF s.length s := by
  intro k
  induction k using Nat.strongRecOn with
  | _ k ih =>
    intro s hs
    cases k with
    | zero => have : s.length = 0 := by omega
              rw [this]
    | succ k =>
      by_cases h0 : s.length = 0
      · rw [h0]; simp [badF, h0]
      · obtain ⟨m, hm⟩ : ∃ m, s.length = m + 1 := ⟨s.length - 1, by omega⟩
        rw [hm]
        simp only [badF, if_neg h0]
        by_cases hn : (nextS s).2 = 0
        · rw [if_pos hn, if_pos hn]
        · rw [if_neg hn, if_neg hn]
          have hl : (s.drop (nextS s).2).length ≤ m := by rw [List.length_drop]; omega
          rw [ih k (by omega) _ (by omega), ih m (by omega) _ hl]
/-- One step on. -/
theorem badS_step (s : List UInt8) (h0 : s.length ≠ 0) : badS s = if (nextS s).2 = 0 then some 0 else (badS (s.drop (nextS s).2)).map (· + (nextS s).2) := by
  obtain ⟨m, hm⟩ : ∃ m, s.length = m + 1 := ⟨s.length - 1, by omega⟩
  unfold badS
  rw [hm]
  simp only [badF, if_neg h0]
  by_cases hn : (nextS s).2 = 0
  · rw [if_pos hn, if_pos hn]
  · rw [if_neg hn, if_neg hn, badF_mono]
    rw [List.length_drop]; omega
theorem badS_nil (s : List UInt8) (h0 : s.length = 0) : badS s = none := by unfold badS; rw [h0]; rfl
/-- How far one steps: where nothing can be read, one byte. -/
def stepS (s : List UInt8) : Nat := if (nextS s).2 = 0 then 1 else (nextS s).2
/-- What a range over a text tells of the first rune. -/
def rngR (s : List UInt8) : Nat := if (nextS s).2 = 0 then 65533 else (nextS s).1
/-- The model's own decoding. -/
theorem drop_byteAt (s : List UInt8) (p k : Nat) : byteAt (s.drop p) k = byteAt s (p + k) := by
  simp [byteAt, List.getElem?_drop]
theorem get_byteAt (s : List UInt8) (i : Nat) : ((⟨s.toArray⟩ : ByteArray).get! i).toNat = byteAt s i := by
  simp only [byteAt, ByteArray.get!]
  congr 1
  simp [List.getD]
  rfl
theorem valid_mayN (c : Nat) : Utf8.valid (c : Int) = mayN c := by
  rw [Bool.eq_iff_iff]
  simp only [Utf8.valid, mayN, Bool.or_eq_true, Bool.and_eq_true, decide_eq_true_eq]
  omega
theorem contAt_drop (s : List UInt8) (p k : Nat) : contAt (s.drop p) k = (decide (p + k < s.length) && (byteAt s (p + k) / 64 == 2)) := by
  rw [Bool.eq_iff_iff]
  simp only [contAt, drop_byteAt, List.length_drop, Bool.and_eq_true, decide_eq_true_eq]
  constructor <;> rintro ⟨h1, h2⟩ <;> exact ⟨by omega, h2⟩
theorem lin4 (a b c d : Nat) : a * 262144 + b * 4096 + c * 64 + d = ((a * 64 + b) * 64 + c) * 64 + d := by omega
theorem lin3 (a b c : Nat) : a * 4096 + b * 64 + c = (a * 64 + b) * 64 + c := by omega
theorem decode_nextS (s : List UInt8) (p : Nat) (hp : p < s.length) :
    Utf8.decode ⟨s.toArray⟩ p = if (nextS (s.drop p)).2 = 0 then (65533, 1) else nextS (s.drop p) := by
  have hsz : (⟨s.toArray⟩ : ByteArray).size = s.length := by simp [ByteArray.size]
  have h0 : ¬ (s.drop p).length = 0 := by rw [List.length_drop]; omega
  simp only [Utf8.decode, get_byteAt, hsz, Utf8.runeError, nextS, if_neg h0, contAt_drop, cp2, cp3, cp4, drop_byteAt, Nat.add_zero, lin3, lin4, valid_mayN]
  generalize byteAt s p = b0
  generalize (decide (p + 1 < s.length) && (byteAt s (p + 1) / 64 == 2)) = k1
  generalize (decide (p + 2 < s.length) && (byteAt s (p + 2) / 64 == 2)) = k2
  generalize (decide (p + 3 < s.length) && (byteAt s (p + 3) / 64 == 2)) = k3
  generalize byteAt s (p + 1) = b1
  generalize byteAt s (p + 2) = b2
  generalize byteAt s (p + 3) = b3
  by_cases c1 : b0 < 128
  · simp only [if_pos c1]; rfl
  simp only [if_neg c1]
  by_cases c2 : b0 / 32 = 6
  · have c3 : ¬ b0 / 16 = 14 := by omega
    have c4 : ¬ b0 / 8 = 30 := by omega
    have hm : 128 ≤ b0 % 32 * 64 + b1 % 64 → mayN (b0 % 32 * 64 + b1 % 64) = true := by
      intro h; simp only [mayN, Bool.and_eq_true, Bool.or_eq_true, decide_eq_true_eq]; omega
    cases k1 <;> by_cases h : 128 ≤ b0 % 32 * 64 + b1 % 64 <;> simp [c2, c3, c4, h, hm]
  by_cases c3 : b0 / 16 = 14
  · have c4 : ¬ b0 / 8 = 30 := by omega
    generalize (b0 % 16 * 64 + b1 % 64) * 64 + b2 % 64 = r
    cases k1 <;> cases k2 <;> cases hm : mayN r <;> by_cases h : 2048 ≤ r <;> simp [c2, c3, c4, h, hm]
  by_cases c4 : b0 / 8 = 30
  · generalize ((b0 % 8 * 64 + b1 % 64) * 64 + b2 % 64) * 64 + b3 % 64 = r
    cases k1 <;> cases k2 <;> cases k3 <;> cases hm : mayN r <;> by_cases h : 65536 ≤ r <;> simp [c2, c3, c4, h, hm]
  · simp [c2, c3, c4]
end Go.Proofs.YtmgkpbgfkjedeaaGreatDoor
namespace Go.Proofs.YtmgkpbgfkjedeaaGreatDoor
open Go
def isDg (b : Nat) : Bool := decide (48 ≤ b) && decide (b ≤ 57)
theorem isDg_t {b : Nat} : isDg b = true ↔ 48 ≤ b ∧ b ≤ 57 := by unfold isDg; simp
/-- Where digits end that begin at a place. -/
def dgE (s : List UInt8) (i : Nat) : Nat := if h : i < s.length ∧ isDg (byteAt s i) = true then dgE s (i + 1) else i
termination_by s.length - i
decreasing_by omega
theorem dgE_go {s : List UInt8} {i : Nat} (h : i < s.length) (h1 : 48 ≤ byteAt s i) (h2 : byteAt s i ≤ 57) : dgE s i = dgE s (i + 1) := by rw [dgE, dif_pos ⟨h, isDg_t.2 ⟨h1, h2⟩⟩]
theorem dgE_no {s : List UInt8} {i : Nat} (h : ¬ (i < s.length ∧ 48 ≤ byteAt s i ∧ byteAt s i ≤ 57)) : dgE s i = i := by
  rw [dgE, dif_neg]
  rintro ⟨h1, h2⟩
  exact h ⟨h1, isDg_t.1 h2⟩
theorem dgE_ge (s : List UInt8) (i : Nat) : i ≤ dgE s i ∧ (i ≤ s.length → dgE s i ≤ s.length) := by
  by_cases h : i < s.length ∧ isDg (byteAt s i) = true
  · rw [dgE, dif_pos h]
    have := dgE_ge s (i + 1)
    omega
  · rw [dgE, dif_neg h]
    omega
termination_by s.length - i
decreasing_by omega
def sgS (s : List UInt8) (d : Nat) : Nat := if d < s.length ∧ (byteAt s d = 43 ∨ byteAt s d = 45) then d + 1 else d
def exS (s : List UInt8) (c : Nat) : Nat := if c < s.length ∧ (byteAt s c = 101 ∨ byteAt s c = 69) then if dgE s (sgS s (c + 1)) = sgS s (c + 1) then c else dgE s (sgS s (c + 1)) else c
def frS (s : List UInt8) (b : Nat) : Nat := if b < s.length ∧ byteAt s b = 46 then if dgE s (b + 1) = b + 1 then b else exS s (dgE s (b + 1)) else exS s b
def mnS (s : List UInt8) : Nat := if 0 < s.length ∧ byteAt s 0 = 45 then 1 else 0
/-- How many bytes of a number a text begins with. -/
def numI (s : List UInt8) : Nat := if mnS s < s.length ∧ byteAt s (mnS s) = 48 then frS s (mnS s + 1) else if dgE s (mnS s) = mnS s then 0 else frS s (dgE s (mnS s))
theorem sgS_le (s : List UInt8) (d : Nat) : d ≤ sgS s d ∧ sgS s d ≤ d + 1 ∧ (d ≤ s.length → sgS s d ≤ s.length) := by unfold sgS; split <;> omega
theorem exS_le (s : List UInt8) (c : Nat) (h : c ≤ s.length) : c ≤ exS s c ∧ exS s c ≤ s.length := by
  have h1 := sgS_le s (c + 1)
  have h2 := dgE_ge s (sgS s (c + 1))
  unfold exS
  (repeat' split) <;> omega
theorem frS_le (s : List UInt8) (b : Nat) (h : b ≤ s.length) : b ≤ frS s b ∧ frS s b ≤ s.length := by
  have h2 := dgE_ge s (b + 1)
  unfold frS
  split
  · have h3 := exS_le s (dgE s (b + 1))
    split <;> omega
  · exact exS_le s b h
theorem mnS_le (s : List UInt8) : mnS s ≤ 1 ∧ mnS s ≤ s.length := by unfold mnS; split <;> omega
theorem numI_le (s : List UInt8) : numI s ≤ s.length := by
  have h1 := mnS_le s
  have h2 := dgE_ge s (mnS s)
  unfold numI
  split
  · have := frS_le s (mnS s + 1); omega
  · have := frS_le s (dgE s (mnS s))
    split <;> omega
/-! ## The reference's machine -/
/-- The next state: 0 start, 1 minus, 2 zero, 3 int, 4 dot, 5 frac, 6 e, 7 sign, 8 exp; 9: none. -/
def nmT (t c : Nat) : Nat :=
  if t = 0 ∧ c = 45 then 1
  else if (t = 0 ∨ t = 1) ∧ c = 48 then 2
  else if (t = 0 ∨ t = 1 ∨ t = 3) ∧ 48 ≤ c ∧ c ≤ 57 then 3
  else if (t = 2 ∨ t = 3) ∧ c = 46 then 4
  else if (t = 4 ∨ t = 5) ∧ 48 ≤ c ∧ c ≤ 57 then 5
  else if (t = 2 ∨ t = 3 ∨ t = 5) ∧ (c = 101 ∨ c = 69) then 6
  else if t = 6 ∧ (c = 43 ∨ c = 45) then 7
  else if (t = 6 ∨ t = 7 ∨ t = 8) ∧ 48 ≤ c ∧ c ≤ 57 then 8
  else 9
def nmB (t i best : Nat) : Nat := if t = 2 ∨ t = 3 ∨ t = 5 ∨ t = 8 then i + 1 else best
def nmR (s : List UInt8) (i t best : Nat) : Nat := if h : i < s.length then if nmT t (byteAt s i) = 9 then best else nmR s (i + 1) (nmT t (byteAt s i)) (nmB (nmT t (byteAt s i)) i best) else best
termination_by s.length - i
decreasing_by omega
theorem nmR_end {s : List UInt8} {i t best : Nat} (h : ¬ i < s.length) : nmR s i t best = best := by rw [nmR, dif_neg h]
theorem nmR_stop {s : List UInt8} {i t best : Nat} (h : i < s.length) (h1 : nmT t (byteAt s i) = 9) : nmR s i t best = best := by rw [nmR, dif_pos h, if_pos h1]
theorem nmR_go {s : List UInt8} {i t best t' : Nat} (h : i < s.length) (h1 : nmT t (byteAt s i) = t') (h2 : t' ≠ 9) : nmR s i t best = nmR s (i + 1) t' (nmB t' i best) := by rw [nmR, dif_pos h, h1, if_neg h2]
theorem nm_8 (s : List UInt8) : ∀ (n i : Nat), s.length - i ≤ n → nmR s i 8 i = dgE s i
  | n, i, hn => by
    by_cases h : i < s.length ∧ 48 ≤ byteAt s i ∧ byteAt s i ≤ 57
    · rw [dgE_go h.1 h.2.1 h.2.2, nmR_go (t' := 8) h.1 (by unfold nmT; (repeat' split) <;> omega) (by decide)]
      cases n with
      | zero => omega
      | succ n => exact nm_8 s n (i + 1) (by omega)
    · rw [dgE_no h]
      by_cases hi : i < s.length
      · exact nmR_stop hi (by unfold nmT; (repeat' split) <;> omega)
      · exact nmR_end hi
theorem nm_7 (s : List UInt8) (i best : Nat) : nmR s i 7 best = if dgE s i = i then best else dgE s i := by
  by_cases h : i < s.length ∧ 48 ≤ byteAt s i ∧ byteAt s i ≤ 57
  · have h1 := dgE_go h.1 h.2.1 h.2.2
    have h2 := (dgE_ge s (i + 1)).1
    rw [if_neg (by omega), h1, nmR_go (t' := 8) h.1 (by unfold nmT; (repeat' split) <;> omega) (by decide)]
    exact nm_8 s _ (i + 1) (Nat.le_refl _)
  · rw [if_pos (dgE_no h)]
    by_cases hi : i < s.length
    · exact nmR_stop hi (by unfold nmT; (repeat' split) <;> omega)
    · exact nmR_end hi
theorem nm_6 (s : List UInt8) (i best : Nat) : nmR s i 6 best = if dgE s (sgS s i) = sgS s i then best else dgE s (sgS s i) := by
  by_cases hs : i < s.length ∧ (byteAt s i = 43 ∨ byteAt s i = 45)
  · rw [show sgS s i = i + 1 from if_pos hs, nmR_go (t' := 7) hs.1 (by unfold nmT; (repeat' split) <;> omega) (by decide)]
    exact nm_7 s (i + 1) best
  · rw [show sgS s i = i from if_neg hs]
    by_cases h : i < s.length ∧ 48 ≤ byteAt s i ∧ byteAt s i ≤ 57
    · have h1 := dgE_go h.1 h.2.1 h.2.2
      have h2 := (dgE_ge s (i + 1)).1
      rw [if_neg (by omega), h1, nmR_go (t' := 8) h.1 (by unfold nmT; (repeat' split) <;> omega) (by decide)]
      exact nm_8 s _ (i + 1) (Nat.le_refl _)
    · rw [if_pos (dgE_no h)]
      by_cases hi : i < s.length
      · exact nmR_stop hi (by unfold nmT; (repeat' split) <;> omega)
      · exact nmR_end hi
/-- What may stand behind digits, or behind what is behind a point. -/
theorem nm_ex (s : List UInt8) (i t : Nat) (ht : t = 2 ∨ t = 3 ∨ t = 5) (hd : t ≠ 2 → ¬ (i < s.length ∧ 48 ≤ byteAt s i ∧ byteAt s i ≤ 57)) (hp : t ≠ 5 → ¬ (i < s.length ∧ byteAt s i = 46)) : nmR s i t i = exS s i := by
  unfold exS
  by_cases h : i < s.length ∧ (byteAt s i = 101 ∨ byteAt s i = 69)
  · rw [if_pos h, nmR_go (t' := 6) h.1 (by obtain ⟨_, h1 | h1⟩ := h <;> rw [h1] <;> rcases ht with rfl | rfl | rfl <;> rfl) (by decide)]
    exact nm_6 s (i + 1) i
  · rw [if_neg h]
    by_cases hi : i < s.length
    · refine nmR_stop hi ?_
      have hp' : t = 5 ∨ byteAt s i ≠ 46 := by rcases ht with h | h | h <;> first | exact .inl h | exact .inr fun k => hp (by omega) ⟨hi, k⟩
      have hd' : t = 2 ∨ ¬ (48 ≤ byteAt s i ∧ byteAt s i ≤ 57) := by rcases ht with h | h | h <;> first | exact .inl h | exact .inr fun k => hd (by omega) ⟨hi, k⟩
      have h1 : byteAt s i ≠ 101 ∧ byteAt s i ≠ 69 := by omega
      clear h hp hd
      generalize byteAt s i = c at *
      unfold nmT
      rcases ht with rfl | rfl | rfl <;> (repeat' split) <;> omega
    · exact nmR_end hi
theorem nm_5 (s : List UInt8) : ∀ (n i : Nat), s.length - i ≤ n → nmR s i 5 i = exS s (dgE s i)
  | n, i, hn => by
    by_cases h : i < s.length ∧ 48 ≤ byteAt s i ∧ byteAt s i ≤ 57
    · rw [dgE_go h.1 h.2.1 h.2.2, nmR_go (t' := 5) h.1 (by unfold nmT; (repeat' split) <;> omega) (by decide)]
      cases n with
      | zero => omega
      | succ n => exact nm_5 s n (i + 1) (by omega)
    · rw [dgE_no h]
      exact nm_ex s i 5 (by omega) (fun _ => h) (fun h => absurd rfl h)
theorem nm_4 (s : List UInt8) (i best : Nat) : nmR s i 4 best = if dgE s i = i then best else exS s (dgE s i) := by
  by_cases h : i < s.length ∧ 48 ≤ byteAt s i ∧ byteAt s i ≤ 57
  · have h1 := dgE_go h.1 h.2.1 h.2.2
    have h2 := (dgE_ge s (i + 1)).1
    rw [if_neg (by omega), h1, nmR_go (t' := 5) h.1 (by unfold nmT; (repeat' split) <;> omega) (by decide)]
    exact nm_5 s _ (i + 1) (Nat.le_refl _)
  · rw [if_pos (dgE_no h)]
    by_cases hi : i < s.length
    · exact nmR_stop hi (by unfold nmT; (repeat' split) <;> omega)
    · exact nmR_end hi
theorem nm_fr (s : List UInt8) (i t : Nat) (ht : t = 2 ∨ t = 3) (hd : t ≠ 2 → ¬ (i < s.length ∧ 48 ≤ byteAt s i ∧ byteAt s i ≤ 57)) : nmR s i t i = frS s i := by
  unfold frS
  by_cases h : i < s.length ∧ byteAt s i = 46
  · rw [if_pos h, nmR_go (t' := 4) h.1 (by unfold nmT; (repeat' split) <;> omega) (by decide)]
    exact nm_4 s (i + 1) i
  · rw [if_neg h]
    exact nm_ex s i t (by omega) hd (fun _ => h)
theorem nm_3 (s : List UInt8) : ∀ (n i : Nat), s.length - i ≤ n → nmR s i 3 i = frS s (dgE s i)
  | n, i, hn => by
    by_cases h : i < s.length ∧ 48 ≤ byteAt s i ∧ byteAt s i ≤ 57
    · rw [dgE_go h.1 h.2.1 h.2.2, nmR_go (t' := 3) h.1 (by unfold nmT; (repeat' split) <;> omega) (by decide)]
      cases n with
      | zero => omega
      | succ n => exact nm_3 s n (i + 1) (by omega)
    · rw [dgE_no h]
      exact nm_fr s i 3 (by omega) (fun _ => h)
theorem nm_1 (s : List UInt8) (i t : Nat) (ht : t = 0 ∨ t = 1) (hm : t = 0 → ¬ (i < s.length ∧ byteAt s i = 45)) : nmR s i t 0 = if i < s.length ∧ byteAt s i = 48 then frS s (i + 1) else if dgE s i = i then 0 else frS s (dgE s i) := by
  by_cases h : i < s.length ∧ byteAt s i = 48
  · rw [if_pos h, nmR_go (t' := 2) h.1 (by unfold nmT; (repeat' split) <;> omega) (by decide)]
    exact nm_fr s (i + 1) 2 (by omega) (fun k => absurd rfl k)
  · rw [if_neg h]
    by_cases hd : i < s.length ∧ 48 ≤ byteAt s i ∧ byteAt s i ≤ 57
    · have h1 := dgE_go hd.1 hd.2.1 hd.2.2
      have h2 := (dgE_ge s (i + 1)).1
      rw [if_neg (by omega), h1, nmR_go (t' := 3) hd.1 (by unfold nmT; (repeat' split) <;> omega) (by decide)]
      exact nm_3 s _ (i + 1) (Nat.le_refl _)
    · rw [if_pos (dgE_no hd)]
      by_cases hi : i < s.length
      · refine nmR_stop hi ?_
        have hm' : t = 1 ∨ byteAt s i ≠ 45 := by rcases ht with k | k <;> first | exact .inl k | exact .inr fun g => hm k ⟨hi, g⟩
        unfold nmT
        (repeat' split) <;> omega
      · exact nmR_end hi
theorem nm_0 (s : List UInt8) : nmR s 0 0 0 = numI s := by
  unfold numI
  by_cases h : 0 < s.length ∧ byteAt s 0 = 45
  · rw [show mnS s = 1 from if_pos h, nmR_go (t' := 1) h.1 (by unfold nmT; (repeat' split) <;> omega) (by decide)]
    exact nm_1 s 1 1 (by omega) (fun k => by cases k)
  · rw [show mnS s = 0 from if_neg h]
    exact nm_1 s 0 0 (by omega) (fun _ => h)
/-! ## Texts -/
end Go.Proofs.YtmgkpbgfkjedeaaGreatDoor
namespace Go.Proofs.YtmgkpbgfkjedeaaGreatDoor
open Go
/-! ## Abstract values -/
inductive AVal where
  | bool (b : Bool)
  | int (k : IntKind) (n : Int)
  | str (s : List UInt8)
  | raw (v : Value)
  | list (sz n : Nat) (f : Nat → AVal)
  | rop (cs : List AVal) (off : Nat)
  | agg (cs : List AVal)
  | tuple (cs : List AVal)
  | iface (t : TypeId) (v : AVal)
  | func (fn : Fn) (first captured : List AVal)
  | own (i : Nat) (v : Value)
def AVal.isAgg : AVal → Bool
  | .agg _ => true
  | .raw (.agg _) => true
  | _ => false
def vAgg : Value → Bool
  | .agg _ => true
  | _ => false
def AVal.cells : AVal → List AVal
  | .agg cs => cs
  | v => [v]
abbrev Seal := Nat → Option Obj
mutual
def RelC (R : Seal) : AVal → List Value → Prop
  | .bool b, vs => vs = [.bool b]
  | .int k n, vs => vs = [.int k n]
  | .str s, vs => vs = [.string ⟨s.toArray⟩]
  | .raw x, vs => vs = x.cells.toList
  | .list sz n f, vs => ∃ a cap, vs = [.slice a n cap] ∧ n ≤ cap ∧ (n = 0 ∨ ∃ b o C e fz, a = some ⟨b, o, none⟩ ∧ R b = some (.cells C e fz) ∧
      ∀ i, i < n → RelC R (f i) ((C.toList.drop (o + i * sz)).take sz))
  | .rop cs off, vs => ∃ b o C e fz, vs = [.pointer (some ⟨b, o, none⟩)] ∧ off ≤ o ∧ R b = some (.cells C e fz) ∧
      RelL R cs ((C.toList.drop (o - off)).take cs.length)
  | .agg cs, vs => RelL R cs vs
  | .tuple cs, vs => ∃ ws, vs = [.tuple ws] ∧ RelV R cs ws.toList
  | .iface t v, vs => ∃ w, vs = [.iface t w] ∧ RelC R v w.cells.toList ∧ v.isAgg = vAgg w
  | .func fn l1 l2, vs => ∃ a b, vs = [.func fn a b] ∧ RelV R l1 a.toList ∧ RelV R l2 b.toList
  | .own _ x, vs => vs = [x] ∧ vAgg x = false
def RelL (R : Seal) : List AVal → List Value → Prop
  | [], vs => vs = []
  | c :: cs, vs => ∃ v t, vs = v :: t ∧ RelC R c [v] ∧ RelL R cs t
def RelV (R : Seal) : List AVal → List Value → Prop
  | [], vs => vs = []
  | c :: cs, vs => ∃ v t, vs = v :: t ∧ (RelC R c v.cells.toList ∧ c.isAgg = vAgg v) ∧ RelV R cs t
end
def Rel (R : Seal) (a : AVal) (v : Value) : Prop := RelC R a v.cells.toList ∧ a.isAgg = vAgg v
def Seal.le (R R' : Seal) : Prop := ∀ b o, R b = some o → R' b = some o
theorem Seal.le_refl (R : Seal) : R.le R := fun _ _ h => h
theorem Seal.le_trans {R R' R'' : Seal} (h : R.le R') (k : R'.le R'') : R.le R'' := fun b o x => k b o (h b o x)
mutual
theorem relC_mono {R R' : Seal} (h : R.le R') : ∀ (a : AVal) (vs : List Value), RelC R a vs → RelC R' a vs
  | .bool _, _, x => x
  | .int _ _, _, x => x
  | .str _, _, x => x
  | .raw _, _, x => x
  | .list sz n f, vs, x => by
    obtain ⟨a, cap, e, hle, y⟩ := x
    refine ⟨a, cap, e, hle, ?_⟩
    rcases y with y | ⟨b, o, C, el, fz, ha, hR, hi⟩
    · exact .inl y
    · exact .inr ⟨b, o, C, el, fz, ha, h _ _ hR, fun i hn => relC_mono h (f i) _ (hi i hn)⟩
  | .rop cs off, vs, x => by
    obtain ⟨b, o, C, e, fz, hv, ho, hR, hl⟩ := x
    exact ⟨b, o, C, e, fz, hv, ho, h _ _ hR, relL_mono h cs _ hl⟩
  | .agg cs, vs, x => relL_mono h cs vs x
  | .tuple cs, vs, x => by
    obtain ⟨ws, e, y⟩ := x
    exact ⟨ws, e, relV_mono h cs _ y⟩
  | .iface t v, vs, x => by
    obtain ⟨w, e, y, z⟩ := x
    exact ⟨w, e, relC_mono h v _ y, z⟩
  | .func fn l1 l2, vs, x => by
    obtain ⟨a, b, e, y, z⟩ := x
    exact ⟨a, b, e, relV_mono h l1 _ y, relV_mono h l2 _ z⟩
  | .own _ _, _, x => x
theorem relL_mono {R R' : Seal} (h : R.le R') : ∀ (a : List AVal) (vs : List Value), RelL R a vs → RelL R' a vs
  | [], _, x => x
  | c :: cs, _, x => by
    obtain ⟨v, t, e, y, z⟩ := x
    exact ⟨v, t, e, relC_mono h c _ y, relL_mono h cs _ z⟩
theorem relV_mono {R R' : Seal} (h : R.le R') : ∀ (a : List AVal) (vs : List Value), RelV R a vs → RelV R' a vs
  | [], _, x => x
  | c :: cs, _, x => by
    obtain ⟨v, t, e, y, z⟩ := x
    exact ⟨v, t, e, ⟨relC_mono h c _ y.1, y.2⟩, relV_mono h cs _ z⟩
end
theorem rel_mono {R R' : Seal} (h : R.le R') {a : AVal} {v : Value} (x : Rel R a v) : Rel R' a v := ⟨relC_mono h a _ x.1, x.2⟩
/-- A scalar: one cell, no aggregate. -/
theorem rel_one {R : Seal} {a : AVal} {v : Value} (x : Rel R a v) (ha : a.isAgg = false) : RelC R a [v] := by
  obtain ⟨x, y⟩ := x
  rw [ha] at y
  cases v <;> first | exact x | (simp [vAgg] at y)
theorem rel_of_one {R : Seal} {a : AVal} {v : Value} (x : RelC R a [v]) (ha : a.isAgg = false) (hv : vAgg v = false) : Rel R a v := by
  refine ⟨?_, by rw [ha, hv]⟩
  cases v <;> first | exact x | (simp [vAgg] at hv)
/-! What a related value is. -/
theorem rel_bool {R : Seal} {b : Bool} {v : Value} : Rel R (.bool b) v ↔ v = .bool b := by
  constructor
  · intro x; have := rel_one x rfl; simpa [RelC] using this
  · rintro rfl; exact ⟨rfl, rfl⟩
theorem rel_int {R : Seal} {k : IntKind} {n : Int} {v : Value} : Rel R (.int k n) v ↔ v = .int k n := by
  constructor
  · intro x; have := rel_one x rfl; simpa [RelC] using this
  · rintro rfl; exact ⟨rfl, rfl⟩
theorem rel_str {R : Seal} {s : List UInt8} {v : Value} : Rel R (.str s) v ↔ v = .string ⟨s.toArray⟩ := by
  constructor
  · intro x; have := rel_one x rfl; simpa [RelC] using this
  · rintro rfl; exact ⟨rfl, rfl⟩
theorem rel_raw {R : Seal} {x v : Value} : Rel R (.raw x) v ↔ v = x := by
  constructor
  · rintro ⟨h, k⟩
    cases v <;> cases x <;> simp_all [RelC, AVal.isAgg, vAgg, Value.cells]
  · rintro rfl; exact ⟨rfl, by cases v <;> rfl⟩
/-- A value at the place i of what is owned: the number is a hint alone. -/
theorem rel_own {R : Seal} {i : Nat} {x v : Value} : Rel R (.own i x) v ↔ v = x ∧ vAgg x = false := by
  constructor
  · intro h
    have := rel_one h rfl
    simp only [RelC, List.cons.injEq, and_true] at this
    exact this
  · rintro ⟨rfl, h⟩
    refine ⟨?_, h.symm⟩
    cases v <;> first | exact ⟨rfl, rfl⟩ | (simp [vAgg] at h)
/-- Bytes of the call's own, and room behind them. -/
def byteA (c : UInt8) : AVal := .int .u8 (c.toNat : Int)
def ownB (s : List UInt8) (cap : Nat) : List AVal := s.map byteA ++ List.replicate (cap - s.length) (.int .u8 0)
/-! ## Memory -/
def Sealed (R : Seal) (w : World) : Prop := ∀ b o, R b = some o → w.heap[b]? = some o
/-- No cell of the block lies in its frozen range. -/
def Loose (fz : Nat × Nat) (n : Nat) : Prop := fz.2 ≤ fz.1 ∨ n ≤ fz.1
/-- A map's entries. -/
def MapRel (R : Seal) : List (AVal × AVal) → List MapEntry → Prop
  | [], es => es = []
  | a :: l, es => ∃ e t, es = e :: t ∧ (Rel R a.1 e.key ∧ Rel R a.2 e.val) ∧ MapRel R l t
theorem mapRel_mono {R R' : Seal} (h : R.le R') : ∀ (l : List (AVal × AVal)) (es : List MapEntry), MapRel R l es → MapRel R' l es
  | [], _, x => x
  | a :: l, _, x => by
    obtain ⟨e, t, q, y, z⟩ := x
    exact ⟨e, t, q, ⟨rel_mono h y.1, rel_mono h y.2⟩, mapRel_mono h l _ z⟩
inductive HEnt where
  | cells (b : Nat) (e : Option TypeId) (cs : List AVal)
  | row (v : Value) (e : Option TypeId) (sz n : Nat) (cs : List AVal)
  | iter (b : Nat) (s : List UInt8) (pos : Nat)
  | buf (b : Nat) (s : List UInt8) (cap : Nat)
  | mp (b : Nat) (es : List (AVal × AVal))
  | obj (b : Nat) (o : Obj)
def HEnt.blk : HEnt → Option Nat
  | .cells b _ _ => some b
  | .row (.slice (some a) _ _) _ _ _ _ => some a.block
  | .row _ _ _ _ _ => none
  | .iter b _ _ => some b
  | .buf b _ _ => some b
  | .mp b _ => some b
  | .obj b _ => some b
def HEnt.holds (R : Seal) (w : World) : HEnt → Prop
  | .cells b eT cs => ∃ C e fz, w.heap[b]? = some (.cells C e fz) ∧ RelL R cs C.toList ∧ Loose fz C.size ∧ ∀ t, eT = some t → e = t
  | .row v eT sz n cs => cs.length = n * sz ∧ ((v = .slice none 0 0 ∧ n = 0) ∨
      ∃ b cap C e fz, v = .slice (some ⟨b, 0, none⟩) n cap ∧ w.heap[b]? = some (.cells C e fz) ∧ C.size = cap * sz ∧ n ≤ cap ∧
        RelL R cs (C.toList.take (n * sz)) ∧ Loose fz C.size ∧ ∀ t, eT = some t → e = t)
  | .iter b s pos => w.heap[b]? = some (.stringIter ⟨s.toArray⟩ pos)
  | .buf b s cap => s.length ≤ cap ∧ ∃ C e fz, w.heap[b]? = some (.cells C e fz) ∧ RelL R (ownB s cap) C.toList ∧ Loose fz C.size
  | .mp b es => ∃ E cl, w.heap[b]? = some (.map E cl) ∧ MapRel R es E.toList
  | .obj b o => w.heap[b]? = some o
abbrev Heap := List HEnt
structure HeapRel (R : Seal) (w : World) (H : Heap) : Prop where
  holds : ∀ h ∈ H, h.holds R w
  nodup : (H.filterMap HEnt.blk).Nodup
  apart : ∀ h ∈ H, ∀ b, h.blk = some b → R b = none
theorem HEnt.holds_mono {R R' : Seal} {w w' : World} {h : HEnt} (x : h.holds R w) (hR : R.le R')
    (hw : ∀ b, h.blk = some b → w'.heap[b]? = w.heap[b]?) : h.holds R' w' := by
  cases h with
  | cells b eT cs =>
    obtain ⟨C, e, fz, hb, hl, hf⟩ := x
    exact ⟨C, e, fz, by rw [hw b rfl]; exact hb, relL_mono hR _ _ hl, hf⟩
  | row v eT sz n cs =>
    obtain ⟨hlen, y⟩ := x
    refine ⟨hlen, ?_⟩
    rcases y with y | ⟨b, cap, C, e, fz, rfl, hb, hs, hn, hl, hf⟩
    · exact .inl y
    · exact .inr ⟨b, cap, C, e, fz, rfl, by rw [hw b rfl]; exact hb, hs, hn, relL_mono hR _ _ hl, hf⟩
  | iter b s pos => simp only [HEnt.holds] at *; rw [hw b rfl]; exact x
  | buf b s cap =>
    obtain ⟨hc, C, e, fz, hb, hl, hf⟩ := x
    exact ⟨hc, C, e, fz, by rw [hw b rfl]; exact hb, relL_mono hR _ _ hl, hf⟩
  | mp b es =>
    obtain ⟨E, cl, hb, hl⟩ := x
    exact ⟨E, cl, by rw [hw b rfl]; exact hb, mapRel_mono hR _ _ hl⟩
  | obj b o => simp only [HEnt.holds] at *; rw [hw b rfl]; exact x
/-- A block that holds something is there. -/
theorem HEnt.blk_lt {R : Seal} {w : World} {h : HEnt} (x : h.holds R w) {b : Nat} (hb : h.blk = some b) : b < w.heap.size := by
  have key : ∀ (o : Obj), w.heap[b]? = some o → b < w.heap.size := by
    intro o ho
    rcases Nat.lt_or_ge b w.heap.size with h | h
    · exact h
    · simp [Array.getElem?_eq_none h] at ho
  cases h with
  | cells b' eT cs =>
    obtain ⟨C, e, fz, hb', _⟩ := x
    simp only [HEnt.blk, Option.some.injEq] at hb; subst hb
    exact key _ hb'
  | row v eT sz n cs =>
    obtain ⟨_, y⟩ := x
    rcases y with ⟨rfl, _⟩ | ⟨b', cap, C, e, fz, rfl, hb', _⟩
    · simp [HEnt.blk] at hb
    · simp only [HEnt.blk, Option.some.injEq] at hb; subst hb
      exact key _ hb'
  | iter b' s pos =>
    simp only [HEnt.blk, Option.some.injEq] at hb; subst hb
    exact key _ x
  | buf b' s cap =>
    obtain ⟨_, C, e, fz, hb', _⟩ := x
    simp only [HEnt.blk, Option.some.injEq] at hb; subst hb
    exact key _ hb'
  | mp b' es =>
    obtain ⟨E, cl, hb', _⟩ := x
    simp only [HEnt.blk, Option.some.injEq] at hb; subst hb
    exact key _ hb'
  | obj b' o =>
    simp only [HEnt.blk, Option.some.injEq] at hb; subst hb
    exact key _ x
/-! ## The state -/
/-- What is known of the package-level variables: it stays true as more is sealed. -/
structure Glo where
  p : Seal → Prop
  mono : ∀ R R' : Seal, R.le R' → p R → p R'
structure Ctx where
  w0 : World
  R0 : Seal
  B0 : List Nat
  G : Glo
  hG : G.p R0
  D : List Deferred
structure Ext (w0 : World) (B0 : List Nat) (w : World) : Prop where
  os : w.os = w0.os
  tape : w.tape = w0.tape
  output : w.output = w0.output
  size : w0.heap.size ≤ w.heap.size
  block : ∀ b, b < w0.heap.size → b ∉ B0 → w.heap[b]? = w0.heap[b]?
theorem Ext.refl (w : World) (B : List Nat) : Ext w B w := ⟨rfl, rfl, rfl, Nat.le_refl _, fun _ _ _ => rfl⟩
/-- The memory's side. -/
structure MS (C : Ctx) (R : Seal) (H : Heap) (w : World) : Prop where
  sealed : Sealed R w
  ge : C.R0.le R
  fresh : ∀ b, R b ≠ none → C.R0 b ≠ none ∨ C.w0.heap.size ≤ b ∨ b ∈ C.B0
  heap : HeapRel R w H
  own : ∀ h ∈ H, ∀ b, h.blk = some b → C.w0.heap.size ≤ b ∨ b ∈ C.B0
  ext : Ext C.w0 C.B0 w
abbrev Env := List (Nat × AVal)
def Env.get : Env → Nat → Option AVal
  | [], _ => none
  | (k, v) :: t, n => match Nat.beq k n with
    | true => some v
    | false => Env.get t n
/-- The frame's side. -/
structure FSa (D : List Deferred) (n : Nat) (R : Seal) (env : Env) (a : Act) : Prop where
  fr : ∀ k v, Env.get env k = some v → ∃ x, a.tmps[k]? = some x ∧ Rel R v x
  size : a.tmps.size = n
  defers : a.defers = D
theorem FSa.mono {D : List Deferred} {n : Nat} {R R' : Seal} {env : Env} {a : Act} (h : FSa D n R env a) (hR : R.le R') : FSa D n R' env a :=
  ⟨fun k v x => let ⟨y, hy, hr⟩ := h.fr k v x; ⟨y, hy, rel_mono hR hr⟩, h.size, h.defers⟩
theorem FSa.put {D : List Deferred} {n : Nat} {R : Seal} {env : Env} {a : Act} (h : FSa D n R env a) {d : Nat} (hd : Nat.ble (d + 1) n = true) {av : AVal} {v : Value} (hv : Rel R av v) :
    FSa D n R ((d, av) :: env) (a.put (some d) v) := by
  have hd : d < n := by have := Nat.le_of_ble_eq_true hd; omega
  refine ⟨fun k x hk => ?_, by simp [Act.put, h.size], h.defers⟩
  simp only [Env.get] at hk
  by_cases e : d = k
  · subst e
    rw [Nat.beq_refl] at hk
    simp only [Option.some.injEq] at hk
    subst hk
    exact ⟨v, by simp [Act.put, h.size, hd], hv⟩
  · have hb : Nat.beq d k = false := by
      cases hb : Nat.beq d k with
      | false => rfl
      | true => exact absurd (Nat.eq_of_beq_eq_true hb) e
    rw [hb] at hk
    obtain ⟨y, hy, hr⟩ := h.fr k x hk
    refine ⟨y, ?_, hr⟩
    simp only [Act.put]
    rw [Array.getElem?_setIfInBounds_ne e]
    exact hy
/-- The operand's abstract value. -/
def ofV : Value → AVal
  | .bool b => .bool b
  | .int k n => .int k n
  | .string s => .str s.data.toList
  | v => .raw v
def forceB {β : Type} : List UInt8 → (List UInt8 → β) → β
  | [], k => k []
  | c :: cs, k => forceB cs (fun r => k (c :: r))
theorem forceB_eq {β : Type} : ∀ (l : List UInt8) (k : List UInt8 → β), forceB l k = k l
  | [], _ => rfl
  | _ :: cs, k => forceB_eq cs _
def evalA (env : Env) : Operand → Option AVal
  | .tmp t => Env.get env t
  | .const (.string s) => forceB s.data.toList fun l => some (.str l)
  | .const v => some (ofV v)
  | .global g => some (.raw (.pointer (some ⟨g, 0, none⟩)))
  | .func f => some (.func (.func f) [] [])
theorem rel_ofV (R : Seal) (v : Value) : Rel R (ofV v) v := by
  cases v <;> first | exact rel_raw.2 rfl | exact rel_bool.2 rfl | exact rel_int.2 rfl | skip
  exact rel_str.2 rfl
theorem evalA_const (env : Env) (v : Value) : evalA env (.const v) = some (ofV v) := by cases v <;> first | rfl | (simp only [evalA, forceB_eq]; rfl)
theorem FSa.eval {D : List Deferred} {n : Nat} {R : Seal} {env : Env} {a : Act} (h : FSa D n R env a) {x : Operand} {av : AVal} (hx : evalA env x = some av) : Rel R av (a.eval x) := by
  cases x with
  | tmp t =>
    obtain ⟨y, hy, hr⟩ := h.fr t av hx
    simp only [Act.eval, Array.getD_eq_getD_getElem?, hy]
    exact hr
  | const v =>
    rw [evalA_const] at hx
    simp only [Option.some.injEq] at hx; subst hx; exact rel_ofV R v
  | global g => simp only [evalA, Option.some.injEq] at hx; subst hx; exact rel_raw.2 rfl
  | func f =>
    simp only [evalA, Option.some.injEq] at hx; subst hx
    exact ⟨⟨#[], #[], rfl, rfl, rfl⟩, rfl⟩
inductive AExit where
  | normal
  | exit (id : Nat)
  | goto (l : Nat)
  | ret
  | panic (v : AVal)
def ExitRel (R : Seal) : AExit → Exit → Prop
  | .normal, e => e = .normal
  | .exit i, e => e = .exit i
  | .goto i, e => e = .goto i
  | .ret, e => e = .ret
  | .panic v, e => ∃ x, e = .panic [{ v := x, recovered := false }] ∧ Rel R v x
/-- What the concrete post says. -/
def Post (C : Ctx) (n : Nat) (Q : AExit → Env → Heap → Prop) (e : Exit) (a : Act) (w : World) : Prop :=
  ∃ x env H R, Q x env H ∧ ExitRel R x e ∧ MS C R H w ∧ FSa C.D n R env a
/-- From each state that fits, the code comes to one that meets Q. -/
def AWp (P : Program) (C : Ctx) (n : Nat) (c : Code) (env : Env) (H : Heap) (Q : AExit → Env → Heap → Prop) : Prop :=
  ∀ R a w, MS C R H w → FSa C.D n R env a → c.wp P (Post C n Q) a w
def AOps (P : Program) (C : Ctx) (n : Nat) (ops : Array Oper) (l : List Oper) (env : Env) (H : Heap) (Q : AExit → Env → Heap → Prop) : Prop :=
  ∀ R a w, MS C R H w → FSa C.D n R env a → wpList P ops (Post C n Q) l a w
section
variable {P : Program} {C : Ctx} {n : Nat} {env : Env} {H : Heap} {Q : AExit → Env → Heap → Prop}
theorem AWp.mono {c : Code} {Q' : AExit → Env → Heap → Prop} (h : AWp P C n c env H Q) (hq : ∀ x e h, Q x e h → Q' x e h) : AWp P C n c env H Q' :=
  fun R a w hm hf => wp_mono (h R a w hm hf) fun _ _ _ ⟨x, en, H', R', q, r⟩ => ⟨x, en, H', R', hq _ _ _ q, r⟩
theorem aw_skip (h : Q .normal env H) : AWp P C n .skip env H Q :=
  fun R _ _ hm hf => wp_skip ⟨.normal, env, H, R, h, rfl, hm, hf⟩
theorem aw_exit {id : Nat} (h : Q (.exit id) env H) : AWp P C n (.exit id) env H Q :=
  fun R _ _ hm hf => wp_exit ⟨.exit id, env, H, R, h, rfl, hm, hf⟩
theorem aw_ret (h : Q .ret env H) : AWp P C n .ret env H Q :=
  fun R _ _ hm hf => wp_ret ⟨.ret, env, H, R, h, rfl, hm, hf⟩
def thenQ (K : Env → Heap → Prop) (Q : AExit → Env → Heap → Prop) : AExit → Env → Heap → Prop
  | .normal, e, h => K e h
  | x, e, h => Q x e h
theorem aw_seq {x y : Code} (h : AWp P C n x env H (thenQ (fun e h => AWp P C n y e h Q) Q)) : AWp P C n (.seq x y) env H Q := by
  intro R a w hm hf
  refine wp_seq (wp_mono (h R a w hm hf) ?_)
  rintro e a' w' ⟨x', en, H', R', q, er, hm', hf'⟩
  cases x' with
  | normal => simp only [ExitRel] at er; subst er; exact q R' a' w' hm' hf'
  | exit i => simp only [ExitRel] at er; subst er; exact ⟨.exit i, en, H', R', q, rfl, hm', hf'⟩
  | goto i => simp only [ExitRel] at er; subst er; exact ⟨.goto i, en, H', R', q, rfl, hm', hf'⟩
  | ret => simp only [ExitRel] at er; subst er; exact ⟨.ret, en, H', R', q, rfl, hm', hf'⟩
  | panic v => obtain ⟨y, rfl, hr⟩ := er; exact ⟨.panic v, en, H', R', q, ⟨y, rfl, hr⟩, hm', hf'⟩
theorem aw_cond {c : Operand} {x y : Code} {b : Bool} (hc : evalA env c = some (.bool b)) (ht : b = true → AWp P C n x env H Q) (hf : b = false → AWp P C n y env H Q) :
    AWp P C n (.cond c x y) env H Q := by
  intro R a w hm hfr
  exact wp_cond_split (rel_bool.1 (hfr.eval hc)) (fun e => ht e R a w hm hfr) (fun e => hf e R a w hm hfr)
def blockQ (id : Nat) (Q : AExit → Env → Heap → Prop) : AExit → Env → Heap → Prop
  | .exit i, e, h => (i = id → Q .normal e h) ∧ (i ≠ id → Q (.exit i) e h)
  | x, e, h => Q x e h
theorem aw_block {id : Nat} {c : Code} (h : AWp P C n c env H (blockQ id Q)) : AWp P C n (.block id c) env H Q := by
  intro R a w hm hf
  refine wp_block (wp_mono (h R a w hm hf) ?_)
  rintro e a' w' ⟨x', en, H', R', q, er, hm', hf'⟩
  cases x' with
  | normal => simp only [ExitRel] at er; subst er; exact ⟨.normal, en, H', R', q, rfl, hm', hf'⟩
  | exit i =>
    simp only [ExitRel] at er; subst er
    simp only [Exit.inBlock]
    by_cases e : i = id
    · rw [if_pos e]; exact ⟨.normal, en, H', R', q.1 e, rfl, hm', hf'⟩
    · rw [if_neg e]; exact ⟨.exit i, en, H', R', q.2 e, rfl, hm', hf'⟩
  | goto i => simp only [ExitRel] at er; subst er; exact ⟨.goto i, en, H', R', q, rfl, hm', hf'⟩
  | ret => simp only [ExitRel] at er; subst er; exact ⟨.ret, en, H', R', q, rfl, hm', hf'⟩
  | panic v => obtain ⟨y, rfl, hr⟩ := er; exact ⟨.panic v, en, H', R', q, ⟨y, rfl, hr⟩, hm', hf'⟩
/-- The state that is asked for says no more than the one at hand. -/
def Env.sub (env : Env) : Env → Prop
  | [] => True
  | (k, v) :: t => Env.get env k = some v ∧ Env.sub env t
theorem Env.sub_get {env : Env} : ∀ {t : Env}, Env.sub env t → ∀ k v, Env.get t k = some v → Env.get env k = some v
  | [], _, k, v, h => by simp [Env.get] at h
  | (j, x) :: t, hs, k, v, h => by
    simp only [Env.get] at h
    cases hb : Nat.beq j k with
    | true =>
      rw [hb] at h
      simp only [Option.some.injEq] at h
      subst h
      have := Nat.eq_of_beq_eq_true hb
      subst this
      exact hs.1
    | false => rw [hb] at h; exact Env.sub_get hs.2 k v h
theorem FSa.sub {D : List Deferred} {R : Seal} {a : Act} {t : Env} (h : FSa D n R env a) (hs : Env.sub env t) : FSa D n R t a :=
  ⟨fun k v x => h.fr k v (Env.sub_get hs k v x), h.size, h.defers⟩
theorem aw_sub {c : Code} {env' : Env} (hs : Env.sub env env') (h : AWp P C n c env' H Q) : AWp P C n c env H Q :=
  fun R a w hm hf => h R a w hm (hf.sub hs)
/-- So many rounds at most. -/
def ARounds (P : Program) (C : Ctx) (n : Nat) (c : Code) (Q : AExit → Env → Heap → Prop) : Nat → Env → Heap → Prop
  | 0, _, _ => False
  | k + 1, e, h => AWp P C n c e h (thenQ (ARounds P C n c Q k) Q)
theorem aw_rounds {c : Code} (k : Nat) (h : ARounds P C n c Q k env H) : AWp P C n (.loop c) env H Q := by
  intro R a w hm hf
  refine wp_loop_rounds k ?_
  induction k generalizing env H R a w with
  | zero => exact h.elim
  | succ k ih =>
    rw [rounds_succ]
    refine wp_mono (h R a w hm hf) ?_
    rintro e a' w' ⟨x', en, H', R', q, er, hm', hf'⟩
    cases x' with
    | normal => simp only [ExitRel] at er; subst er; exact ih q R' a' w' hm' hf'
    | exit i => simp only [ExitRel] at er; subst er; exact ⟨.exit i, en, H', R', q, rfl, hm', hf'⟩
    | goto i => simp only [ExitRel] at er; subst er; exact ⟨.goto i, en, H', R', q, rfl, hm', hf'⟩
    | ret => simp only [ExitRel] at er; subst er; exact ⟨.ret, en, H', R', q, rfl, hm', hf'⟩
    | panic v => obtain ⟨y, rfl, hr⟩ := er; exact ⟨.panic v, en, H', R', q, ⟨y, rfl, hr⟩, hm', hf'⟩
theorem ar_succ {c : Code} {k : Nat} (h : AWp P C n c env H (thenQ (ARounds P C n c Q k) Q)) : ARounds P C n c Q (k + 1) env H := h
end
end Go.Proofs.YtmgkpbgfkjedeaaGreatDoor
namespace Go.Proofs.YtmgkpbgfkjedeaaGreatDoor
open Go
theorem heap_lt {w : World} {b : Nat} {o : Obj} (h : w.heap[b]? = some o) : b < w.heap.size := by
  rcases Nat.lt_or_ge b w.heap.size with k | k
  · exact k
  · simp [Array.getElem?_eq_none k] at h
/-- A world that has one block more. -/
def grow (w : World) (o : Obj) : World := { w with heap := w.heap.push o }
theorem grow_at (w : World) (o : Obj) : (grow w o).heap[w.heap.size]? = some o := by
  show (w.heap.push o)[w.heap.size]? = some o
  simp
theorem grow_lt {w : World} {o : Obj} {b : Nat} (h : b < w.heap.size) : (grow w o).heap[b]? = w.heap[b]? := by
  simp only [grow, Array.getElem?_push]; rw [if_neg (by omega)]
theorem Ext.grow {w0 w : World} {B : List Nat} (h : Ext w0 B w) (o : Obj) : Ext w0 B (grow w o) :=
  ⟨h.os, h.tape, h.output, by have := h.size; simp only [Go.Proofs.YtmgkpbgfkjedeaaGreatDoor.grow, Array.size_push]; omega,
   fun b hb hB => by rw [grow_lt (by have := h.size; omega)]; exact h.block b hb hB⟩
theorem Sealed.grow {R : Seal} {w : World} (h : Sealed R w) (o : Obj) : Sealed R (grow w o) := fun b o' hb => by
  have := h b o' hb
  rw [grow_lt (heap_lt this)]; exact this
theorem HeapRel.blk_lt {R : Seal} {w : World} {H : Heap} (h : HeapRel R w H) {b : Nat} (hb : b ∈ H.filterMap HEnt.blk) : b < w.heap.size := by
  obtain ⟨e, he, hb⟩ := List.mem_filterMap.1 hb
  exact HEnt.blk_lt (h.holds e he) hb
/-- A new block that is owned. -/
theorem MS.alloc {C : Ctx} {R : Seal} {H : Heap} {w : World} (h : MS C R H w) (o : Obj) (x : HEnt) (hb : x.blk = some w.heap.size)
    (hx : x.holds R (grow w o)) : MS C R (x :: H) (grow w o) where
  sealed := h.sealed.grow o
  ge := h.ge
  fresh := h.fresh
  heap := by
    refine ⟨fun y hy => ?_, ?_, fun y hy b hyb => ?_⟩
    · rcases List.mem_cons.1 hy with rfl | hy
      · exact hx
      · refine HEnt.holds_mono (h.heap.holds y hy) (Seal.le_refl R) fun b hyb => ?_
        exact grow_lt (HEnt.blk_lt (h.heap.holds y hy) hyb)
    · simp only [List.filterMap_cons, hb]
      refine List.nodup_cons.2 ⟨fun hm => ?_, h.heap.nodup⟩
      exact absurd (h.heap.blk_lt hm) (Nat.lt_irrefl _)
    · rcases List.mem_cons.1 hy with rfl | hy
      · rw [hb] at hyb
        simp only [Option.some.injEq] at hyb
        subst hyb
        cases hR : R w.heap.size with
        | none => rfl
        | some o' => exact absurd (heap_lt (h.sealed _ _ hR)) (Nat.lt_irrefl _)
      · exact h.heap.apart y hy b hyb
  own := fun y hy b hyb => by
    rcases List.mem_cons.1 hy with rfl | hy
    · rw [hb] at hyb
      simp only [Option.some.injEq] at hyb
      subst hyb
      exact .inl h.ext.size
    · exact h.own y hy b hyb
  ext := h.ext.grow o
/-- A new block that is sealed at once. -/
def Seal.put (R : Seal) (b : Nat) (o : Obj) : Seal := fun k => if k = b then some o else R k
theorem Seal.put_le {R : Seal} {b : Nat} {o : Obj} (h : R b = none) : R.le (R.put b o) := fun k o' hk => by
  simp only [Seal.put]
  by_cases e : k = b
  · subst e; rw [h] at hk; cases hk
  · rw [if_neg e]; exact hk
theorem Seal.put_at (R : Seal) (b : Nat) (o : Obj) : R.put b o b = some o := by simp [Seal.put]
theorem MS.seal_free {C : Ctx} {R : Seal} {H : Heap} {w : World} (h : MS C R H w) : R w.heap.size = none := by
  cases hR : R w.heap.size with
  | none => rfl
  | some o' => exact absurd (heap_lt (h.sealed _ _ hR)) (Nat.lt_irrefl _)
theorem MS.alloc_sealed {C : Ctx} {R : Seal} {H : Heap} {w : World} (h : MS C R H w) (o : Obj) : MS C (R.put w.heap.size o) H (grow w o) where
  sealed := fun b o' hb => by
    simp only [Seal.put] at hb
    by_cases e : b = w.heap.size
    · subst e; rw [if_pos rfl] at hb; rw [grow_at]; exact hb
    · rw [if_neg e] at hb; exact h.sealed.grow o b o' hb
  ge := Seal.le_trans h.ge (Seal.put_le h.seal_free)
  fresh := fun b hb => by
    simp only [Seal.put] at hb
    by_cases e : b = w.heap.size
    · subst e; exact .inr (.inl h.ext.size)
    · rw [if_neg e] at hb; exact h.fresh b hb
  heap := by
    refine ⟨fun y hy => ?_, h.heap.nodup, fun y hy b hyb => ?_⟩
    · refine HEnt.holds_mono (h.heap.holds y hy) (Seal.put_le h.seal_free) fun b hyb => ?_
      exact grow_lt (HEnt.blk_lt (h.heap.holds y hy) hyb)
    · have := HEnt.blk_lt (h.heap.holds y hy) hyb
      simp only [Seal.put]
      rw [if_neg (by omega)]
      exact h.heap.apart y hy b hyb
  own := h.own
  ext := h.ext.grow o
/-- Two worlds that differ in one block. -/
structure OneBlk (w : World) (b : Nat) (o : Obj) (w' : World) : Prop where
  os : w'.os = w.os
  tape : w'.tape = w.tape
  output : w'.output = w.output
  size : w'.heap.size = w.heap.size
  at_ : w'.heap[b]? = some o
  other : ∀ k, k ≠ b → w'.heap[k]? = w.heap[k]?
theorem set_split {α : Type} {l : List α} {i : Nat} {x y : α} (h : l[i]? = some x) : ∃ a c, l = a ++ x :: c ∧ l.set i y = a ++ y :: c := by
  induction l generalizing i with
  | nil => simp at h
  | cons z t ih =>
    cases i with
    | zero => simp only [List.getElem?_cons_zero, Option.some.injEq] at h; subst h; exact ⟨[], t, rfl, rfl⟩
    | succ i =>
      simp only [List.getElem?_cons_succ] at h
      obtain ⟨a, c, h1, h2⟩ := ih h
      exact ⟨z :: a, c, by rw [h1]; rfl, by simp [h2]⟩
/-- A write to an owned block. -/
theorem MS.write {C : Ctx} {R : Seal} {H : Heap} {w w' : World} {i b : Nat} {x y : HEnt} {o : Obj} (h : MS C R H w) (hi : H[i]? = some x) (hb : x.blk = some b)
    (hw : OneBlk w b o w') (hyb : y.blk = some b) (hy : y.holds R w') : MS C R (H.set i y) w' := by
  obtain ⟨a, c, rfl, hset⟩ := set_split (y := y) hi
  rw [hset]
  have hx : x ∈ a ++ x :: c := by simp
  have hlt := HEnt.blk_lt (h.heap.holds x hx) hb
  have hRb := h.heap.apart x hx b hb
  have hnd := h.heap.nodup
  rw [List.filterMap_append, List.filterMap_cons, hb] at hnd
  have hother : ∀ z, z ∈ a ∨ z ∈ c → ∀ k, z.blk = some k → k ≠ b := by
    rintro z hz k hk rfl
    have hd := List.nodup_append.1 hnd
    rcases hz with hz | hz
    · exact hd.2.2 k (List.mem_filterMap.2 ⟨z, hz, hk⟩) k (by simp) rfl
    · exact (List.nodup_cons.1 hd.2.1).1 (List.mem_filterMap.2 ⟨z, hz, hk⟩)
  have hmem : ∀ z, z ∈ a ++ y :: c → z = y ∨ ((z ∈ a ∨ z ∈ c) ∧ z ∈ a ++ x :: c) := by
    intro z hz
    simp only [List.mem_append, List.mem_cons] at hz ⊢
    rcases hz with hz | hz | hz
    · exact .inr ⟨.inl hz, .inl hz⟩
    · exact .inl hz
    · exact .inr ⟨.inr hz, .inr (.inr hz)⟩
  refine ⟨?_, h.ge, h.fresh, ⟨?_, ?_, ?_⟩, ?_, ?_⟩
  · intro k o' hk
    rw [hw.other k (by rintro rfl; rw [hRb] at hk; cases hk)]
    exact h.sealed k o' hk
  · intro z hz
    rcases hmem z hz with rfl | ⟨hz', hz''⟩
    · exact hy
    · exact HEnt.holds_mono (h.heap.holds z hz'') (Seal.le_refl R) fun k hk => hw.other k (hother z hz' k hk)
  · rw [List.filterMap_append, List.filterMap_cons, hyb]; exact hnd
  · intro z hz k hk
    rcases hmem z hz with rfl | ⟨_, hz''⟩
    · rw [hyb] at hk; simp only [Option.some.injEq] at hk; subst hk; exact hRb
    · exact h.heap.apart z hz'' k hk
  · intro z hz k hk
    rcases hmem z hz with rfl | ⟨_, hz''⟩
    · rw [hyb] at hk; simp only [Option.some.injEq] at hk; subst hk; exact h.own x hx b hb
    · exact h.own z hz'' k hk
  · have hob := h.own x hx b hb
    refine ⟨hw.os.trans h.ext.os, hw.tape.trans h.ext.tape, hw.output.trans h.ext.output, by rw [hw.size]; exact h.ext.size, fun k hk hB => ?_⟩
    rw [hw.other k (by rintro rfl; rcases hob with h1 | h1; omega; exact hB h1)]
    exact h.ext.block k hk hB
/-- Some of what is owned is let go. -/
theorem MS.drop {C : Ctx} {R : Seal} {H H' : Heap} {w : World} (h : MS C R H w) (hs : H'.Sublist H) : MS C R H' w :=
  ⟨h.sealed, h.ge, h.fresh, ⟨fun y hy => h.heap.holds y (hs.subset hy), h.heap.nodup.sublist (hs.filterMap _), fun y hy => h.heap.apart y (hs.subset hy)⟩,
   fun y hy => h.own y (hs.subset hy), h.ext⟩
/-- The order of what is owned is of no account. -/
theorem MS.perm {C : Ctx} {R : Seal} {H H' : Heap} {w : World} (h : MS C R H w) (hs : H.Perm H') : MS C R H' w :=
  ⟨h.sealed, h.ge, h.fresh, ⟨fun y hy => h.heap.holds y (hs.mem_iff.2 hy), (hs.filterMap _).nodup_iff.1 h.heap.nodup, fun y hy => h.heap.apart y (hs.mem_iff.2 hy)⟩,
   fun y hy => h.own y (hs.mem_iff.2 hy), h.ext⟩
/-- An owned block is sealed. -/
theorem MS.fixed {C : Ctx} {R : Seal} {H : Heap} {w : World} {x : HEnt} {b : Nat} {o : Obj} (h : MS C R (x :: H) w) (hb : x.blk = some b) (ho : w.heap[b]? = some o) :
    MS C (R.put b o) H w ∧ R.le (R.put b o) := by
  have hx : x ∈ x :: H := by simp
  have hRb := h.heap.apart x hx b hb
  have hle := Seal.put_le (o := o) hRb
  have hnd := h.heap.nodup
  rw [List.filterMap_cons, hb] at hnd
  refine ⟨⟨?_, Seal.le_trans h.ge hle, ?_, ⟨fun y hy => ?_, (List.nodup_cons.1 hnd).2, fun y hy k hk => ?_⟩, fun y hy => h.own y (by simp [hy]), h.ext⟩, hle⟩
  · intro k o' hk
    simp only [Seal.put] at hk
    by_cases e : k = b
    · subst e; rw [if_pos rfl] at hk; rw [ho]; exact hk
    · rw [if_neg e] at hk; exact h.sealed k o' hk
  · intro k hk
    simp only [Seal.put] at hk
    by_cases e : k = b
    · subst e; exact .inr (h.own x hx k hb)
    · rw [if_neg e] at hk; exact h.fresh k hk
  · exact HEnt.holds_mono (h.heap.holds y (by simp [hy])) hle fun _ _ => rfl
  · have : k ≠ b := by
      rintro rfl
      exact (List.nodup_cons.1 hnd).1 (List.mem_filterMap.2 ⟨y, hy, hk⟩)
    simp only [Seal.put]
    rw [if_neg this]
    exact h.heap.apart y (by simp [hy]) k hk
def blks (H : Heap) : List Nat := H.filterMap HEnt.blk
theorem MS.glo {C : Ctx} {R : Seal} {H : Heap} {w : World} (h : MS C R H w) : C.G.p R := C.G.mono _ _ h.ge C.hG
/-- BEHIND A CALL: the callee had the first part of what is owned. -/
theorem MS.call {C : Ctx} {R R' : Seal} {H1 H1' H2 : Heap} {w w' : World} {G : Glo} {hG : G.p R} (h : MS C R (H1 ++ H2) w) (h' : MS ⟨w, R, blks H1, G, hG, []⟩ R' H1' w') : MS C R' (H1' ++ H2) w' := by
  have hnd := h.heap.nodup
  rw [List.filterMap_append] at hnd
  have hd := List.nodup_append.1 hnd
  have hB1 : ∀ b, b ∈ blks H1 → C.w0.heap.size ≤ b ∨ b ∈ C.B0 := by
    intro b hb
    obtain ⟨e, he, hb⟩ := List.mem_filterMap.1 hb
    exact h.own e (by simp [he]) b hb
  have h2 : ∀ z ∈ H2, ∀ b, z.blk = some b → b < w.heap.size ∧ b ∉ blks H1 := by
    intro z hz b hb
    refine ⟨HEnt.blk_lt (h.heap.holds z (by simp [hz])) hb, fun hm => ?_⟩
    exact hd.2.2 b hm b (List.mem_filterMap.2 ⟨z, hz, hb⟩) rfl
  refine ⟨h'.sealed, Seal.le_trans h.ge h'.ge, ?_, ⟨?_, ?_, ?_⟩, ?_, ?_⟩
  · intro b hb
    rcases h'.fresh b hb with h1 | h1 | h1
    · exact h.fresh b h1
    · exact .inr (.inl (Nat.le_trans h.ext.size h1))
    · exact .inr (hB1 b h1)
  · intro z hz
    rcases List.mem_append.1 hz with hz | hz
    · exact h'.heap.holds z hz
    · exact HEnt.holds_mono (h.heap.holds z (by simp [hz])) h'.ge fun b hb => h'.ext.block b (h2 z hz b hb).1 (h2 z hz b hb).2
  · rw [List.filterMap_append]
    refine List.nodup_append.2 ⟨h'.heap.nodup, hd.2.1, ?_⟩
    rintro b hb k hk rfl
    obtain ⟨e, he, hb⟩ := List.mem_filterMap.1 hb
    obtain ⟨z, hz, hk⟩ := List.mem_filterMap.1 hk
    have := h2 z hz b hk
    rcases h'.own e he b hb with h1 | h1
    · exact absurd (show w.heap.size ≤ b from h1) (by have := this.1; omega)
    · exact this.2 h1
  · intro z hz b hb
    rcases List.mem_append.1 hz with hz | hz
    · exact h'.heap.apart z hz b hb
    · cases hR : R' b with
      | none => rfl
      | some o =>
        have := h2 z hz b hb
        rcases h'.fresh b (by simp [hR]) with h1 | h1 | h1
        · exact absurd (h.heap.apart z (by simp [hz]) b hb) h1
        · exact absurd h1 (by have := this.1; show ¬ w.heap.size ≤ b; omega)
        · exact absurd h1 this.2
  · intro z hz b hb
    rcases List.mem_append.1 hz with hz | hz
    · rcases h'.own z hz b hb with h1 | h1
      · exact .inl (Nat.le_trans h.ext.size h1)
      · exact hB1 b h1
    · exact h.own z (by simp [hz]) b hb
  · refine ⟨h'.ext.os.trans h.ext.os, h'.ext.tape.trans h.ext.tape, h'.ext.output.trans h.ext.output, Nat.le_trans h.ext.size h'.ext.size, fun b hb hB => ?_⟩
    rw [h'.ext.block b (Nat.lt_of_lt_of_le hb h.ext.size) (fun hm => by rcases hB1 b hm with h1 | h1; omega; exact hB h1)]
    exact h.ext.block b hb hB
/-- At a call's begin. -/
theorem MS.enter {C : Ctx} {R : Seal} {H1 H2 : Heap} {w : World} {G : Glo} {hG : G.p R} (h : MS C R (H1 ++ H2) w) : MS ⟨w, R, blks H1, G, hG, []⟩ R H1 w :=
  have hd := h.drop (H' := H1) (by simp)
  ⟨h.sealed, Seal.le_refl R, fun _ hb => .inl hb, hd.heap, fun z hz b hb => .inr (List.mem_filterMap.2 ⟨z, hz, hb⟩), Ext.refl w _⟩
end Go.Proofs.YtmgkpbgfkjedeaaGreatDoor
namespace Go.Proofs.YtmgkpbgfkjedeaaGreatDoor
open Go
set_option linter.unusedSimpArgs false
section
variable {P : Program} {C : Ctx} {n : Nat} {env : Env} {H : Heap} {Q : AExit → Env → Heap → Prop} {ops : Array Oper} {rest : List Oper}
/-! ## Regions -/
theorem aw_region {id : Nat} {l : List Oper} (h : AOps P C n l.toArray l env H Q) : AWp P C n (.region id l.toArray false) env H Q :=
  fun R a w hm hf => wp_region_lit (h R a w hm hf)
theorem ao_nil (h : Q .normal env H) : AOps P C n ops [] env H Q :=
  fun R _ _ hm hf => wpList_nil ⟨.normal, env, H, R, h, rfl, hm, hf⟩
/-! ## Guards -/
def guardA (ops : Array Oper) (env : Env) : Option (Nat × Bool) → Option (Bool × Bool)
  | none => some (true, true)
  | some (j, want) =>
    match ops[j]? with
    | some o => match o.dst with
      | some d => match Env.get env d with
        | some (.bool b) => some (b, want)
        | _ => none
      | none => none
    | none => none
theorem wanted_of {D : List Deferred} {R : Seal} {a : Act} {o : Oper} {b want : Bool} (hf : FSa D n R env a) (hg : guardA ops env o.guard = some (b, want)) :
    Region.wanted o (yielded ops a.tmps) = (b == want) := by
  unfold guardA at hg
  unfold Region.wanted
  split at hg
  · rename_i h; rw [h]; simp only [Option.some.injEq, Prod.mk.injEq] at hg; simp [hg.1.symm, hg.2.symm]
  · rename_i j wt h
    rw [h]
    split at hg
    · rename_i o' ho
      split at hg
      · rename_i d hd
        split at hg
        · rename_i b' hb
          simp only [Option.some.injEq, Prod.mk.injEq] at hg
          obtain ⟨rfl, rfl⟩ := hg
          obtain ⟨x, hx, hr⟩ := hf.fr d _ hb
          rw [rel_bool.1 hr] at hx
          simp [yielded, ho, hd, hx]
        · simp at hg
      · simp at hg
    · simp at hg
/-- The slot that a guard looks at. -/
def guardSlot (ops : Array Oper) : Option (Nat × Bool) → Option Nat
  | some (j, _) => match ops[j]? with
    | some o => o.dst
    | none => none
  | none => none
/-- An operation that is not carried out. -/
theorem ao_skip {o : Oper} {d : Nat} (hg : guardA ops env o.guard = some (true, false)) (hd : o.dst = some d) (hdn : Nat.ble (d + 1) n = true)
    (h : AOps P C n ops rest ((d, .raw undef) :: env) H Q) : AOps P C n ops (o :: rest) env H Q := by
  intro R a w hm hf
  refine wpList_step fun K hK => ?_
  rw [wanted_of hf hg, if_neg (by simp), hd]
  exact hK _ _ (h R _ w hm (hf.put hdn (rel_raw.2 rfl)))
theorem ao_skip' {o : Oper} {d : Nat} (hg : guardA ops env o.guard = some (false, true)) (hd : o.dst = some d) (hdn : Nat.ble (d + 1) n = true)
    (h : AOps P C n ops rest ((d, .raw undef) :: env) H Q) : AOps P C n ops (o :: rest) env H Q := by
  intro R a w hm hf
  refine wpList_step fun K hK => ?_
  rw [wanted_of hf hg, if_neg (by simp), hd]
  exact hK _ _ (h R _ w hm (hf.put hdn (rel_raw.2 rfl)))
theorem ao_skip_none {o : Oper} {b want : Bool} (hg : guardA ops env o.guard = some (b, want)) (hb : (b == want) = false) (hd : o.dst = none)
    (h : AOps P C n ops rest env H Q) : AOps P C n ops (o :: rest) env H Q := by
  intro R a w hm hf
  refine wpList_step fun K hK => ?_
  rw [wanted_of hf hg, hb, if_neg (by simp), hd]
  exact hK _ _ (h R _ w hm hf)
/-- The operation behind the guard was not carried out itself. -/
theorem ao_skip_undef {o : Oper} {d e : Nat} (hs : guardSlot ops o.guard = some e) (hv : Env.get env e = some (.raw undef)) (hd : o.dst = some d) (hdn : Nat.ble (d + 1) n = true)
    (h : AOps P C n ops rest ((d, .raw undef) :: env) H Q) : AOps P C n ops (o :: rest) env H Q := by
  intro R a w hm hf
  refine wpList_step fun K hK => ?_
  have hw : Region.wanted o (yielded ops a.tmps) = false := by
    unfold guardSlot at hs
    unfold Region.wanted
    split at hs
    · rename_i j want h
      rw [h]
      split at hs
      · rename_i o' ho
        obtain ⟨x, hx, hr⟩ := hf.fr e _ hv
        rw [rel_raw.1 hr] at hx
        simp [yielded, ho, hs, hx, undef]
      · cases hs
    · cases hs
  rw [hw, if_neg (by simp), hd]
  exact hK _ _ (h R _ w hm (hf.put hdn (rel_raw.2 rfl)))
/-- A guard that is not decided parts the way. -/
theorem ao_split {o : Oper} {b want : Bool} {d : Nat} (_hg : guardA ops env o.guard = some (b, want)) (_hs : guardSlot ops o.guard = some d) (hv : Env.get env d = some (.bool b))
    (ht : b = true → AOps P C n ops (o :: rest) ((d, .bool true) :: env) H Q) (hf : b = false → AOps P C n ops (o :: rest) ((d, .bool false) :: env) H Q) :
    AOps P C n ops (o :: rest) env H Q := by
  have key : ∀ x, b = x → ∀ {D : List Deferred} R a, FSa D n R env a → FSa D n R ((d, .bool x) :: env) a := by
    rintro x rfl D R a hfr
    refine ⟨fun k v hk => ?_, hfr.size, hfr.defers⟩
    simp only [Env.get] at hk
    cases hb : Nat.beq d k with
    | true =>
      rw [hb] at hk
      have := Nat.eq_of_beq_eq_true hb
      subst this
      simp only [Option.some.injEq] at hk
      subst hk
      exact hfr.fr d _ hv
    | false => rw [hb] at hk; exact hfr.fr k v hk
  intro R a w hm hfr
  cases hb : b with
  | true => exact ht hb R a w hm (key true hb R a hfr)
  | false => exact hf hb R a w hm (key false hb R a hfr)
/-! ## An operation that hands back a value -/
def Evals (R : Seal) (env : Env) (ρ : Operand → Value) : Prop := ∀ x av, evalA env x = some av → Rel R av (ρ x)
theorem ao_val {o : Oper} {d : Nat} {av : AVal} {H' : Heap} {b : Bool} (hg : guardA ops env o.guard = some (b, b)) (hd : o.dst = some d) (hdn : Nat.ble (d + 1) n = true)
    (hx : ∀ R ρ w, MS C R H w → Evals R env ρ → ∃ v w' R', (execOp ρ o).run P w = .ok (.value v) w' ∧ R.le R' ∧ Rel R' av v ∧ MS C R' H' w')
    (h : AOps P C n ops rest ((d, av) :: env) H' Q) : AOps P C n ops (o :: rest) env H Q := by
  intro R a w hm hf
  refine wpList_step fun K hK => ?_
  rw [wanted_of hf hg, if_pos (by simp)]
  obtain ⟨v, w', R', hr, hR, hv, hm'⟩ := hx R a.eval w hm (fun x av h => hf.eval h)
  rw [Oper.wp, hr, Oper.upon_value, hd]
  exact hK _ _ (h R' _ w' hm' ((hf.mono hR).put hdn hv))
/-- The same where what comes back is not known beforehand. -/
theorem ao_valX {X : Type} {o : Oper} {d : Nat} {av : X → AVal} {H' : X → Heap} {b : Bool} (hg : guardA ops env o.guard = some (b, b)) (hd : o.dst = some d) (hdn : Nat.ble (d + 1) n = true)
    (hx : ∀ R ρ w, MS C R H w → Evals R env ρ → ∃ x v w' R', (execOp ρ o).run P w = .ok (.value v) w' ∧ R.le R' ∧ Rel R' (av x) v ∧ MS C R' (H' x) w')
    (h : ∀ x, AOps P C n ops rest ((d, av x) :: env) (H' x) Q) : AOps P C n ops (o :: rest) env H Q := by
  intro R a w hm hf
  refine wpList_step fun K hK => ?_
  rw [wanted_of hf hg, if_pos (by simp)]
  obtain ⟨x, v, w', R', hr, hR, hv, hm'⟩ := hx R a.eval w hm (fun x av h => hf.eval h)
  rw [Oper.wp, hr, Oper.upon_value, hd]
  exact hK _ _ (h x R' _ w' hm' ((hf.mono hR).put hdn hv))
/-- The same, memory as it was. -/
theorem ao_pure {o : Oper} {d : Nat} {av : AVal} {b : Bool} (hg : guardA ops env o.guard = some (b, b)) (hd : o.dst = some d) (hdn : Nat.ble (d + 1) n = true)
    (hx : ∀ R ρ w, MS C R H w → Evals R env ρ → ∃ v, (execOp ρ o).run P w = .ok (.value v) w ∧ Rel R av v)
    (h : AOps P C n ops rest ((d, av) :: env) H Q) : AOps P C n ops (o :: rest) env H Q :=
  ao_val hg hd hdn (fun R ρ w hm hf => let ⟨v, hr, hv⟩ := hx R ρ w hm hf; ⟨v, w, R, hr, Seal.le_refl R, hv, hm⟩) h
variable {d : Nat} {t : TypeId} {p : String} {af : Array Edge} {g : Option (Nat × Bool)} {b : Bool} {av : AVal}
theorem ao_move {x : Operand} (hg : guardA ops env g = some (b, b)) (hdn : Nat.ble (d + 1) n = true) (hx : evalA env x = some av)
    (h : AOps P C n ops rest ((d, av) :: env) H Q) : AOps P C n ops ({ dst := some d, op := .move x, type := t, pos := p, after := af, guard := g } :: rest) env H Q :=
  ao_pure hg rfl hdn (fun _ ρ _ _ hf => ⟨ρ x, rfl, hf _ _ hx⟩) h
/-! ### Integers -/
/-- The comparisons, each behind a name that nothing opens by itself. -/
def ltB (x y : Int) : Bool := decide (x < y)
def eqB (x y : Int) : Bool := decide (x = y)
theorem ltB_t {x y : Int} : ltB x y = true ↔ x < y := by simp [ltB]
theorem ltB_f {x y : Int} : ltB x y = false ↔ y ≤ x := by simp [ltB]
theorem eqB_t {x y : Int} : eqB x y = true ↔ x = y := by simp [eqB]
theorem eqB_f {x y : Int} : eqB x y = false ↔ x ≠ y := by simp [eqB]
theorem ltB_def {x y : Int} : ltB x y = decide (x < y) := rfl
theorem eqB_def {x y : Int} : eqB x y = decide (x = y) := rfl
theorem le_ltB {x y : Int} : decide (x ≤ y) = !ltB y x := by rw [Bool.eq_iff_iff]; simp [ltB]
theorem ge_ltB {x y : Int} : decide (x ≥ y) = !ltB x y := by rw [Bool.eq_iff_iff]; simp [ltB]
attribute [irreducible] ltB eqB
/-- '+', '-', '*', the bits, the comparisons. -/
def intBin (op : BinOp) (k : IntKind) (x y : Int) : Option AVal :=
  match op with
  | .add => some (.int k (k.wrap (x + y)))
  | .sub => some (.int k (k.wrap (x - y)))
  | .mul => some (.int k (k.wrap (x * y)))
  | .and => some (.int k (k.wrap (BitVec.ofInt k.bits x &&& BitVec.ofInt k.bits y).toNat))
  | .or => some (.int k (k.wrap (BitVec.ofInt k.bits x ||| BitVec.ofInt k.bits y).toNat))
  | .xor => some (.int k (k.wrap (BitVec.ofInt k.bits x ^^^ BitVec.ofInt k.bits y).toNat))
  | .andNot => some (.int k (k.wrap (BitVec.ofInt k.bits x &&& ~~~ BitVec.ofInt k.bits y).toNat))
  | .eql => some (.bool (eqB x y))
  | .neq => some (.bool (!eqB x y))
  | .lss => some (.bool (ltB x y))
  | .leq => some (.bool (!ltB y x))
  | .gtr => some (.bool (ltB y x))
  | .geq => some (.bool (!ltB x y))
  | _ => none
theorem run_intBin {op : BinOp} {k : IntKind} {m q : Int} {tx : TypeId} {x y : Operand} {w : World} (ho : intBin op k m q = some av) :
    ∃ v, Sem.run P (do eqGuard op tx x y (.int k m) (.int k q); Go.binOp op tx (.int k m) (.int k q)) w = .ok v w ∧ ∀ R, Rel R av v := by
  cases op <;> simp only [intBin, Option.some.injEq] at ho <;>
    first
      | (cases ho; done)
      | (subst ho; refine ⟨.int k _, ?_, fun _ => rel_int.2 rfl⟩; simp only [Go.binOp, eqGuard, ne_eq, not_true_eq_false, if_false, Op.intArith, Op.intBits, Op.intCmp]; rfl)
      | (subst ho; refine ⟨.bool _, ?_, fun _ => rel_bool.2 rfl⟩; simp only [Go.binOp, eqGuard, ne_eq, not_true_eq_false, if_false, Op.intArith, Op.intBits, Op.intCmp, ltB_def, eqB_def]; rfl)
      | (subst ho; refine ⟨.bool _, ?_, fun _ => rel_bool.2 rfl⟩; simp only [Go.binOp, eqGuard, ne_eq, not_true_eq_false, if_false, Op.intArith, Op.intBits, Op.intCmp, le_ltB, ge_ltB]; rfl)
end
end Go.Proofs.YtmgkpbgfkjedeaaGreatDoor
namespace Go.Proofs.YtmgkpbgfkjedeaaGreatDoor
open Go
/-! ## What the model's tables say of the types -/
structure TI where
  desc : TypeDesc
  size : Nat
  bytes : Nat
  zero : Option Value
  cmp : Bool
def TabOK (P : Program) : List TI → Nat → Prop
  | [], _ => True
  | x :: r, t => (P.underlying t = some x.desc ∧ ∃ i, P.info? t = some i ∧ i.size = x.size ∧ i.bytes = x.bytes ∧ i.zero = x.zero ∧ i.comparable = x.cmp) ∧ TabOK P r (t + 1)
class Tab (P : Program) where
  list : List TI
  ok : TabOK P list 0
def nth {α : Type} : List α → Nat → Option α
  | [], _ => none
  | x :: _, 0 => some x
  | _ :: r, n + 1 => nth r n
def tab (P : Program) [T : Tab P] (t : Nat) : Option TI := nth T.list t
theorem tabOK_nth {P : Program} : ∀ {l : List TI} {t k : Nat} {x : TI}, TabOK P l t → nth l k = some x →
    P.underlying (t + k) = some x.desc ∧ ∃ i, P.info? (t + k) = some i ∧ i.size = x.size ∧ i.bytes = x.bytes ∧ i.zero = x.zero ∧ i.comparable = x.cmp
  | [], _, _, _, _, h => by simp [nth] at h
  | y :: r, t, 0, x, ho, h => by simp only [nth, Option.some.injEq] at h; subst h; exact ho.1
  | y :: r, t, k + 1, x, ho, h => by
    have := tabOK_nth (l := r) (t := t + 1) (k := k) ho.2 h
    rw [show t + (k + 1) = t + 1 + k by omega]
    exact this
section
variable {P : Program} [T : Tab P] {t : TypeId} {x : TI} (h : tab P t = some x)
include h
theorem tab_und : P.underlying t = some x.desc := by have := (tabOK_nth T.ok h).1; rwa [Nat.zero_add] at this
theorem tab_info : ∃ i, P.info? t = some i ∧ i.size = x.size ∧ i.bytes = x.bytes ∧ i.zero = x.zero ∧ i.comparable = x.cmp := by
  have := (tabOK_nth T.ok h).2; rwa [Nat.zero_add] at this
theorem tab_run_und (w : World) : (underlying t).run P w = .ok x.desc w := run_underlying (tab_und h) w
theorem tab_run_info (w : World) : ∃ i, (typeInfo t).run P w = .ok i w ∧ i.size = x.size ∧ i.bytes = x.bytes ∧ i.zero = x.zero ∧ i.comparable = x.cmp := by
  obtain ⟨i, hi, r⟩ := tab_info h
  refine ⟨i, ?_, r⟩
  simp only [typeInfo, Sem.run_bind, run_program, Result.andThen_ok, hi, Sem.run_pure]
theorem tab_run_size (w : World) : (sizeOf t).run P w = .ok x.size w := by
  obtain ⟨i, hi, hs, _⟩ := tab_run_info h w
  simp only [sizeOf, Sem.run_bind, hi, Result.andThen_ok, Sem.run_pure, hs]
theorem tab_run_zero {v : Value} (hz : x.zero = some v) (w : World) : (zeroValue t).run P w = .ok v w := by
  obtain ⟨i, hi, _, _, h0, _⟩ := tab_run_info h w
  simp only [zeroValue, Sem.run_bind, hi, Result.andThen_ok, h0, hz, Sem.run_pure]
/-- Is it a struct or an array? -/
def descAgg : TypeDesc → Bool
  | .struct _ => true
  | .array _ _ => true
  | _ => false
theorem tab_run_agg (w : World) : (isAgg t).run P w = .ok (descAgg x.desc) w := by
  simp only [isAgg, Sem.run_bind, tab_run_und h w, Result.andThen_ok]
  cases x.desc <;> rfl
end
/-! ## A function's contract -/
inductive ARes where
  | ret (v : AVal)
  | panic (v : AVal)
def EndRel (R : Seal) : ARes → Ending → Prop
  | .ret v, e => ∃ x, e = .returned x ∧ Rel R v x
  | .panic v, e => ∃ x, e = .panicked [{ v := x, recovered := false }] ∧ Rel R v x
/-- The call of a function, whether it has a body or the model answers it. -/
def CallsX (P : Program) (f : FuncId) (args : Array Value) (w : World) (R : Ending → World → Prop) : Prop :=
  ((callFunc f args).run P w = .ok (.enter f args) w ∧ Calls P f args w R) ∨ ∃ v w', (callFunc f args).run P w = .ok (.value v) w' ∧ R (.returned v) w'
def FnSpec (P : Program) (G : Glo) (f : FuncId) (avs : List AVal) (H : Heap) (Qf : ARes → Heap → Prop) : Prop :=
  ∀ R w args (hG : G.p R), MS ⟨w, R, blks H, G, hG, []⟩ R H w → RelV R avs args.toList →
    CallsX P f args w fun e w' => ∃ res H' R', Qf res H' ∧ EndRel R' res e ∧ MS ⟨w, R, blks H, G, hG, []⟩ R' H' w'
theorem FnSpec.mono {P : Program} {G : Glo} {f : FuncId} {avs : List AVal} {H : Heap} {Qf Qf' : ARes → Heap → Prop} (h : FnSpec P G f avs H Qf) (hq : ∀ r H', Qf r H' → Qf' r H') :
    FnSpec P G f avs H Qf' := by
  intro R w args hG hm ha
  rcases h R w args hG hm ha with ⟨h1, h2⟩ | ⟨v, w', h1, res, H', R', q, r⟩
  · exact .inl ⟨h1, h2.mono fun e w' ⟨res, H', R', q, r⟩ => ⟨res, H', R', hq _ _ q, r⟩⟩
  · exact .inr ⟨v, w', h1, res, H', R', hq _ _ q, r⟩
/-- Loading a variable that an owned block holds. -/
theorem loadCellsFrom_run {P : Program} {w : World} {b : Nat} {C : Array Value} {e : TypeId} {fz : Nat × Nat} (hb : w.heap[b]? = some (.cells C e fz)) (o : Nat) :
    ∀ (n i : Nat) (acc : Array Value), o + i + n ≤ C.size → (loadCellsFrom ⟨b, o, none⟩ i n acc).run P w = .ok (acc.toList ++ (C.toList.drop (o + i)).take n).toArray w
  | 0, i, acc, _ => by simp [loadCellsFrom]
  | n + 1, i, acc, h => by
    have hc : w.cell? ((⟨b, o, none⟩ : Addr).add i) = some C[o + i] := by
      simp only [World.cell?, Addr.add]
      by_cases hi : i = 0
      · subst hi; simp [hb]
      · simp [hi, hb]
    simp only [loadCellsFrom, Sem.run_bind, run_load, hc, Result.andThen_ok]
    rw [loadCellsFrom_run hb o n (i + 1) _ (by omega)]
    have : (C.toList.drop (o + i)).take (n + 1) = C[o + i] :: (C.toList.drop (o + (i + 1))).take n := by
      rw [List.drop_eq_getElem_cons (by simp; omega), List.take_succ_cons]
      simp [Nat.add_assoc]
    rw [this]
    simp
theorem relL_length {R : Seal} : ∀ {cs : List AVal} {vs : List Value}, RelL R cs vs → vs.length = cs.length
  | [], _, h => by simp only [RelL] at h; subst h; rfl
  | c :: cs, _, h => by
    obtain ⟨v, t, rfl, _, h⟩ := h
    simp [relL_length h]
theorem relL_get {R : Seal} : ∀ {cs : List AVal} {vs : List Value} {i : Nat} {c : AVal}, RelL R cs vs → cs[i]? = some c → ∃ v, vs[i]? = some v ∧ RelC R c [v]
  | [], _, _, _, _, h => by simp at h
  | c :: cs, _, 0, x, h, hi => by
    obtain ⟨v, t, rfl, hv, h⟩ := h
    simp only [List.getElem?_cons_zero, Option.some.injEq] at hi
    subst hi
    exact ⟨v, rfl, hv⟩
  | c :: cs, _, i + 1, x, h, hi => by
    obtain ⟨v, t, rfl, _, h⟩ := h
    exact relL_get (cs := cs) (vs := t) (i := i) h (by simpa using hi)
theorem relL_append {R : Seal} : ∀ {a b : List AVal} {vs ws : List Value}, RelL R a vs → RelL R b ws → RelL R (a ++ b) (vs ++ ws)
  | [], _, _, _, h, k => by simp only [RelL] at h; subst h; exact k
  | c :: cs, _, _, _, h, k => by
    obtain ⟨v, t, rfl, hv, h⟩ := h
    exact ⟨v, _, rfl, hv, relL_append h k⟩
theorem relL_take {R : Seal} : ∀ {a : List AVal} {vs : List Value} (n : Nat), RelL R a vs → RelL R (a.take n) (vs.take n)
  | [], _, n, h => by simp only [RelL] at h; subst h; simp [RelL]
  | c :: cs, _, 0, h => by simp [RelL]
  | c :: cs, _, n + 1, h => by
    obtain ⟨v, t, rfl, hv, h⟩ := h
    exact ⟨v, _, rfl, hv, relL_take n h⟩
theorem relL_drop {R : Seal} : ∀ {a : List AVal} {vs : List Value} (n : Nat), RelL R a vs → RelL R (a.drop n) (vs.drop n)
  | [], _, n, h => by simp only [RelL] at h; subst h; simp [RelL]
  | c :: cs, _, 0, h => h
  | c :: cs, _, n + 1, h => by
    obtain ⟨v, t, rfl, hv, h⟩ := h
    exact relL_drop n h
theorem relC_scalar {R : Seal} {a : AVal} {v : Value} (h : RelC R a [v]) (ha : a.isAgg = false) : vAgg v = false := by
  cases a <;> simp only [RelC] at h
  case bool => simp only [List.cons.injEq] at h; rw [h.1]; rfl
  case int => simp only [List.cons.injEq] at h; rw [h.1]; rfl
  case str => simp only [List.cons.injEq] at h; rw [h.1]; rfl
  case raw x => cases x <;> simp_all [Value.cells, vAgg, AVal.isAgg]
  case list => obtain ⟨_, _, h, _⟩ := h; simp only [List.cons.injEq] at h; rw [h.1]; rfl
  case rop => obtain ⟨_, _, _, _, _, h, _⟩ := h; simp only [List.cons.injEq] at h; rw [h.1]; rfl
  case agg => simp [AVal.isAgg] at ha
  case tuple => obtain ⟨_, h, _⟩ := h; simp only [List.cons.injEq] at h; rw [h.1]; rfl
  case iface => obtain ⟨_, h, _⟩ := h; simp only [List.cons.injEq] at h; rw [h.1]; rfl
  case func => obtain ⟨_, _, h, _⟩ := h; simp only [List.cons.injEq] at h; rw [h.1]; rfl
  case own => obtain ⟨h, h2⟩ := h; simp only [List.cons.injEq] at h; rw [h.1]; exact h2
theorem relC_rel {R : Seal} {a : AVal} {v : Value} (h : RelC R a [v]) (ha : a.isAgg = false) : Rel R a v := rel_of_one h ha (relC_scalar h ha)
def argEnv : Nat → List AVal → Env
  | _, [] => []
  | i, a :: t => (i, a) :: argEnv (i + 1) t
theorem argEnv_get {R : Seal} : ∀ {avs : List AVal} {vs : List Value} {i k : Nat} {v : AVal}, RelV R avs vs → Env.get (argEnv i avs) k = some v → i ≤ k ∧ ∃ x, vs[k - i]? = some x ∧ Rel R v x
  | [], _, _, _, _, _, h => by simp [argEnv, Env.get] at h
  | a :: t, _, i, k, v, hr, h => by
    obtain ⟨x, s, rfl, hx, hr⟩ := hr
    simp only [argEnv, Env.get] at h
    cases hb : Nat.beq i k with
    | true =>
      rw [hb] at h
      have := Nat.eq_of_beq_eq_true hb
      subst this
      simp only [Option.some.injEq] at h
      subst h
      exact ⟨Nat.le_refl _, x, by simp, hx⟩
    | false =>
      rw [hb] at h
      obtain ⟨h1, y, hy, hr⟩ := argEnv_get hr h
      refine ⟨by omega, y, ?_, hr⟩
      rw [show k - i = (k - (i + 1)) + 1 by omega]
      exact hy
theorem relV_length {R : Seal} : ∀ {cs : List AVal} {vs : List Value}, RelV R cs vs → vs.length = cs.length
  | [], _, h => by simp only [RelV] at h; subst h; rfl
  | c :: cs, _, h => by
    obtain ⟨v, t, rfl, _, h⟩ := h
    simp [relV_length h]
/-! What comes back. -/
def resOne (P : Program) [Tab P] (env : Env) (H : Heap) : ResultVar → AVal → Prop
  | .tmp t, v => Env.get env t = some v
  | .cell a ty, v => ∃ (b i : Nat) (eT : Option TypeId) (cs : List AVal) (x : TI), (Env.get env a = some (.raw (.pointer (some ⟨b, 0, none⟩))) ∨ ∃ j, Env.get env a = some (.own j (.pointer (some ⟨b, 0, none⟩)))) ∧ H[i]? = some (HEnt.cells b eT cs) ∧ tab P ty = some x ∧ x.size = cs.length ∧
      ((descAgg x.desc = true ∧ v = .agg cs) ∨ (descAgg x.desc = false ∧ cs = [v] ∧ v.isAgg = false))
def resAll (P : Program) [Tab P] (env : Env) (H : Heap) : List ResultVar → List AVal → Prop
  | [], vs => vs = []
  | r :: rs, vs => ∃ v t, vs = v :: t ∧ resOne P env H r v ∧ resAll P env H rs t
def resVal : List AVal → AVal
  | [v] => v
  | vs => .tuple vs
def RetQ (P : Program) [Tab P] (rs : List ResultVar) (Qf : ARes → Heap → Prop) : AExit → Env → Heap → Prop
  | .ret, env, H | .normal, env, H => ∃ vs H', resAll P env H rs vs ∧ H'.Sublist H ∧ Qf (.ret (resVal vs)) H'
  | .panic v, _, H => ∃ H', H'.Sublist H ∧ Qf (.panic v) H'
  | _, _, _ => False
def oneRes (tmps : Array Value) : ResultVar → Sem Value
  | .tmp t => pure (tmps.getD t undef)
  | .cell a t => do loadVar t (← asAddr (tmps.getD a undef))
theorem results_eq (fn : Func) (tmps : Array Value) : results fn tmps = (do
    let vs ← fn.results.mapM (oneRes tmps)
    pure (if h : vs.size = 1 then vs[0] else .tuple vs)) := rfl
theorem resOne_run {P : Program} {D : List Deferred} [Tab P] {C : Ctx} {n : Nat} {env : Env} {H : Heap} {R : Seal} {w : World} {a : Act} {r : ResultVar} {v : AVal} (hm : MS C R H w) (hf : FSa D n R env a)
    (h : resOne P env H r v) : ∃ x, (oneRes a.tmps r).run P w = .ok x w ∧ Rel R v x := by
  cases r with
  | tmp t =>
    obtain ⟨x, hx, hr⟩ := hf.fr t v h
    exact ⟨x, by simp [oneRes, hx], hr⟩
  | cell c ty =>
    obtain ⟨b, i, eT, cs, x, hc, hi, ht, hs, hk⟩ := h
    have hc' : ∃ y, a.tmps[c]? = some y ∧ y = .pointer (some ⟨b, 0, none⟩) := by
      rcases hc with hc | ⟨j, hc⟩
      · obtain ⟨y, hy, hr⟩ := hf.fr c _ hc; exact ⟨y, hy, rel_raw.1 hr⟩
      · obtain ⟨y, hy, hr⟩ := hf.fr c _ hc; exact ⟨y, hy, (rel_own.1 hr).1⟩
    obtain ⟨y, hy, hr⟩ := hc'
    subst hr
    obtain ⟨Cs, e, fz, hb, hl, _⟩ := hm.heap.holds _ (List.mem_of_getElem? hi)
    have hlen := relL_length hl
    simp only [oneRes, Array.getD_eq_getD_getElem?, hy, Option.getD_some, Sem.run_bind, asAddr, Sem.run_pure, Result.andThen_ok, loadVar, tab_run_agg ht]
    rcases hk with ⟨ha, rfl⟩ | ⟨ha, rfl, hv⟩
    · rw [ha]
      simp only [if_true, Sem.run_bind, tab_run_size ht, Result.andThen_ok, loadCells]
      rw [loadCellsFrom_run hb 0 x.size 0 _ (by simp at hlen; omega)]
      refine ⟨_, rfl, ?_, rfl⟩
      simp at hlen
      simp only [Value.cells, RelC]
      rw [List.take_of_length_le (by simp; omega)]
      simpa using hl
    · rw [ha]
      simp only [Bool.false_eq_true, if_false, run_load]
      obtain ⟨z, hz, hrz⟩ := relL_get hl (i := 0) (c := v) rfl
      have : w.cell? ⟨b, 0, none⟩ = some z := by simp only [World.cell?, hb]; simpa using hz
      simp only [this]
      exact ⟨z, rfl, relC_rel hrz hv⟩
theorem resAll_run {P : Program} {D : List Deferred} [Tab P] {C : Ctx} {n : Nat} {env : Env} {H : Heap} {R : Seal} {w : World} {a : Act} (hm : MS C R H w) (hf : FSa D n R env a) :
    ∀ {rs : List ResultVar} {vs : List AVal}, resAll P env H rs vs → ∃ xs : List Value, (rs.mapM (oneRes a.tmps)).run P w = .ok xs w ∧ RelV R vs xs
  | [], vs, h => by simp only [resAll] at h; subst h; exact ⟨[], rfl, rfl⟩
  | r :: rs, vs, h => by
    obtain ⟨v, t, rfl, h1, h2⟩ := h
    obtain ⟨x, hx, hr⟩ := resOne_run (P := P) hm hf h1
    obtain ⟨xs, hxs, hrs⟩ := resAll_run hm hf h2
    refine ⟨x :: xs, ?_, x, xs, rfl, hr, hrs⟩
    simp only [List.mapM_cons, Sem.run_bind, hx, Result.andThen_ok, hxs, Sem.run_pure]
theorem results_run {P : Program} {D : List Deferred} [Tab P] {C : Ctx} {n : Nat} {env : Env} {H : Heap} {R : Seal} {w : World} {a : Act} {fn : Func} {vs : List AVal} (hm : MS C R H w) (hf : FSa D n R env a)
    (h : resAll P env H fn.results.toList vs) : ∃ x, (results fn a.tmps).run P w = .ok x w ∧ Rel R (resVal vs) x := by
  obtain ⟨xs, hxs, hr⟩ := resAll_run hm hf h
  have hlen := relV_length hr
  refine ⟨_, by rw [results_eq]; simp only [Sem.run_bind, Array.mapM_eq_mapM_toList, Sem.run_map, hxs, Result.andThen_ok, Sem.run_pure]; rfl, ?_⟩
  match vs, xs, hlen, hr with
  | [], [], _, _ => exact ⟨⟨#[], rfl, rfl⟩, rfl⟩
  | [v], [x], _, hr =>
    obtain ⟨y, t, e, hy, _⟩ := hr
    simp only [List.cons.injEq] at e
    obtain ⟨rfl, rfl⟩ := e
    exact hy
  | v :: v' :: t, x :: x' :: s, _, hr => exact ⟨⟨_, by simp [Value.cells], hr⟩, rfl⟩
/-- FROM THE CODE TO THE CONTRACT. -/
theorem fn_spec {P : Program} [Tab P] {G : Glo} {f : FuncId} {fn : Func} {c : Code} {avs : List AVal} {H : Heap} {Qf : ARes → Heap → Prop} {n : Nat} {rs : List ResultVar} (hf : P.funcs[f]? = some fn)
    (hb : fn.body = some c) (hc : ∀ args w, (callFunc f args).run P w = .ok (.enter f args) w) (hn : fn.ntmps = n) (hrs : fn.results = rs.toArray) (hlen : Nat.ble avs.length n = true)
    (h : ∀ w0 R0 hG, AWp P ⟨w0, R0, blks H, G, hG, []⟩ n c (argEnv 0 avs) H (RetQ P rs Qf)) : FnSpec P G f avs H Qf := by
  intro R w args hG hm ha
  refine .inl ⟨hc args w, calls_of_wp hf hb ?_⟩
  have hl := relV_length ha
  have hlen := Nat.le_of_ble_eq_true hlen
  simp only [Array.length_toList] at hl
  refine wp_mono (h w R hG R _ w hm ⟨fun k v hk => ?_, ?_, rfl⟩) ?_
  · obtain ⟨_, x, hx, hr⟩ := argEnv_get ha hk
    refine ⟨x, ?_, hr⟩
    simp only [Nat.sub_zero, Array.getElem?_toList] at hx
    have := Array.getElem?_eq_some_iff.1 hx
    rw [Array.getElem?_append_left this.1]
    exact hx
  · simp only [Array.size_append, Array.size_replicate]; omega
  · rintro e a' w' ⟨x, env', H', R', q, er, hm', hf'⟩
    have hrs' : fn.results.toList = rs := by rw [hrs]
    cases x with
    | normal =>
      simp only [ExitRel] at er; subst er
      obtain ⟨vs, H'', hv, hs, q⟩ := q
      obtain ⟨y, hy, hr⟩ := results_run (fn := fn) hm' hf' (by rw [hrs']; exact hv)
      exact ⟨hf'.defers, y, hy, _, H'', R', q, ⟨y, rfl, hr⟩, hm'.drop hs⟩
    | ret =>
      simp only [ExitRel] at er; subst er
      obtain ⟨vs, H'', hv, hs, q⟩ := q
      obtain ⟨y, hy, hr⟩ := results_run (fn := fn) hm' hf' (by rw [hrs']; exact hv)
      exact ⟨hf'.defers, y, hy, _, H'', R', q, ⟨y, rfl, hr⟩, hm'.drop hs⟩
    | panic v =>
      obtain ⟨y, rfl, hr⟩ := er
      obtain ⟨H'', hs, q⟩ := q
      exact ⟨hf'.defers, _, H'', R', q, ⟨y, rfl, hr⟩, hm'.drop hs⟩
    | exit i => exact q.elim
    | goto i => exact q.elim
/-! ## At a call -/
def argsA (env : Env) : List Operand → Option (List AVal)
  | [] => some []
  | x :: t => match evalA env x, argsA env t with
    | some v, some r => some (v :: r)
    | _, _ => none
theorem argsA_rel {R : Seal} {env : Env} {ρ : Operand → Value} (hf : ∀ x av, evalA env x = some av → Rel R av (ρ x)) :
    ∀ {l : List Operand} {avs : List AVal}, argsA env l = some avs → RelV R avs (l.map ρ)
  | [], avs, h => by simp only [argsA, Option.some.injEq] at h; subst h; rfl
  | x :: t, avs, h => by
    simp only [argsA] at h
    split at h
    · rename_i v r hv hr
      simp only [Option.some.injEq] at h
      subst h
      exact ⟨_, _, rfl, hf x v hv, argsA_rel hf hr⟩
    · cases h
theorem relV_append {R : Seal} : ∀ {a b : List AVal} {vs ws : List Value}, RelV R a vs → RelV R b ws → RelV R (a ++ b) (vs ++ ws)
  | [], _, _, _, h, k => by simp only [RelV] at h; subst h; exact k
  | c :: cs, _, _, _, h, k => by
    obtain ⟨v, t, rfl, hv, h⟩ := h
    exact ⟨v, _, rfl, hv, relV_append h k⟩
section
variable {P : Program} {C : Ctx} {n : Nat} {env : Env} {H : Heap} {Q : AExit → Env → Heap → Prop} {ops : Array Oper} {rest : List Oper}
variable {d : Nat} {t : TypeId} {p : String} {af : Array Edge} {g : Option (Nat × Bool)} {b : Bool}
theorem ao_call {fv : Operand} {args : List Operand} {ts : Array TypeId} {f : FuncId} {l1 l2 avs : List AVal} {H1 H2 : Heap} {Qf : ARes → Heap → Prop}
    (hg : guardA ops env g = some (b, b)) (hdn : Nat.ble (d + 1) n = true) (hfv : evalA env fv = some (.func (.func f) l1 l2)) (ha : argsA env args = some avs)
    (hs : FnSpec P C.G f (l1 ++ (avs ++ l2)) H1 Qf) (hH : H = H1 ++ H2)
    (hret : ∀ v H', Qf (.ret v) H' → AOps P C n ops rest ((d, v) :: env) (H' ++ H2) Q)
    (hpan : ∀ v H', Qf (.panic v) H' → Q (.panic v) env (H' ++ H2)) :
    AOps P C n ops ({ dst := some d, op := .call { callee := .value fv, args := args.toArray, argTypes := ts }, type := t, pos := p, after := af, guard := g } :: rest) env H Q := by
  subst hH
  intro R a w hm hf
  refine wpList_step fun K hK => ?_
  rw [wanted_of hf hg, if_pos (by simp)]
  obtain ⟨⟨x1, x2, e, r1, r2⟩, _⟩ := rel_one (hf.eval hfv) rfl, trivial
  simp only [List.cons.injEq, and_true] at e
  have hrel : RelV R (l1 ++ (avs ++ l2)) (x1 ++ args.toArray.map a.eval ++ x2).toList := by
    have := relV_append r1 (relV_append (argsA_rel (fun x av h => hf.eval h) ha) r2)
    simpa using this
  have hrun : (execOp a.eval { dst := some d, op := .call { callee := .value fv, args := args.toArray, argTypes := ts }, type := t, pos := p, after := af, guard := g : Oper }).run P w =
      (callFunc f (x1 ++ args.toArray.map a.eval ++ x2)).run P w := by
    simp only [execOp, resolve, e, Deferred.ofValue, Sem.run_bind, Sem.run_pure, Result.andThen_ok, invoke]
  rcases hs R w _ hm.glo hm.enter hrel with ⟨h1, h2⟩ | ⟨v, w', h1, res, H', R', q, er, hm'⟩
  · rw [Oper.wp, hrun, h1, Oper.upon_enter]
    refine h2.mono ?_
    rintro en w' ⟨res, H', R', q, er, hm'⟩
    have hm'' := hm.call hm'
    have hf' := hf.mono hm'.ge
    cases res with
    | ret v =>
      obtain ⟨y, rfl, hr⟩ := er
      exact hK _ _ (hret v H' q R' _ w' hm'' (hf'.put hdn hr))
    | panic v =>
      obtain ⟨y, rfl, hr⟩ := er
      exact ⟨.panic v, env, _, R', hpan v H' q, ⟨y, rfl, hr⟩, hm'', hf'⟩
  · rw [Oper.wp, hrun, h1, Oper.upon_value]
    have hm'' := hm.call hm'
    have hf' := hf.mono hm'.ge
    cases res with
    | ret v' =>
      obtain ⟨y, e, hr⟩ := er
      simp only [Ending.returned.injEq] at e
      subst e
      exact hK _ _ (hret v' H' q R' _ w' hm'' (hf'.put hdn hr))
    | panic v' => obtain ⟨y, e, _⟩ := er; cases e
end
end Go.Proofs.YtmgkpbgfkjedeaaGreatDoor
namespace Go.Proofs.YtmgkpbgfkjedeaaGreatDoor
open Go
set_option maxRecDepth 100000
def tyI (d i : TypeInfo) : TI := ⟨d.desc, i.size, i.bytes, i.zero, i.comparable⟩
theorem tabI {P : Program} {l : List TI} {t : Nat} {d i : TypeInfo} (h : P.underlying t = some d.desc) (k : P.info? t = some i) (r : TabOK P l (t + 1)) : TabOK P (tyI d i :: l) t := ⟨⟨h, i, k, rfl, rfl, rfl, rfl⟩, r⟩
noncomputable def tabList : List TI := [tyI Tryz.t0 Tryz.t0, tyI Tryz.t1 Tryz.t1, tyI Tryz.t2 Tryz.t2, tyI Tryz.t3 Tryz.t3, tyI Tryz.t4 Tryz.t4, tyI Tryz.t5 Tryz.t5, tyI Tryz.t5 Tryz.t6, tyI Tryz.t7 Tryz.t7, tyI Tryz.t7 Tryz.t8, tyI Tryz.t9 Tryz.t9, tyI Tryz.t9 Tryz.t10, tyI Tryz.t9 Tryz.t11, tyI Tryz.t12 Tryz.t12, tyI Tryz.t13 Tryz.t13, tyI Tryz.t13 Tryz.t14, tyI Tryz.t15 Tryz.t15, tyI Tryz.t16 Tryz.t16, tyI Tryz.t17 Tryz.t17, tyI Tryz.t18 Tryz.t18, tyI Tryz.t18 Tryz.t19, tyI Tryz.t20 Tryz.t20, tyI Tryz.t21 Tryz.t21, tyI Tryz.t22 Tryz.t22, tyI Tryz.t23 Tryz.t23, tyI Tryz.t24 Tryz.t24, tyI Tryz.t24 Tryz.t25, tyI Tryz.t3 Tryz.t26, tyI Tryz.t27 Tryz.t27, tyI Tryz.t27 Tryz.t28, tyI Tryz.t29 Tryz.t29, tyI Tryz.t30 Tryz.t30, tyI Tryz.t31 Tryz.t31, tyI Tryz.t31 Tryz.t32, tyI Tryz.t33 Tryz.t33, tyI Tryz.t34 Tryz.t34, tyI Tryz.t35 Tryz.t35, tyI Tryz.t36 Tryz.t36, tyI Tryz.t37 Tryz.t37, tyI Tryz.t38 Tryz.t38, tyI Tryz.t39 Tryz.t39, tyI Tryz.t40 Tryz.t40, tyI Tryz.t41 Tryz.t41, tyI Tryz.t42 Tryz.t42, tyI Tryz.t43 Tryz.t43, tyI Tryz.t44 Tryz.t44, tyI Tryz.t45 Tryz.t45, tyI Tryz.t46 Tryz.t46, tyI Tryz.t47 Tryz.t47, tyI Tryz.t48 Tryz.t48, tyI Tryz.t49 Tryz.t49, tyI Tryz.t49 Tryz.t50, tyI Tryz.t51 Tryz.t51, tyI Tryz.t51 Tryz.t52, tyI Tryz.t53 Tryz.t53, tyI Tryz.t54 Tryz.t54, tyI Tryz.t55 Tryz.t55, tyI Tryz.t55 Tryz.t56, tyI Tryz.t57 Tryz.t57, tyI Tryz.t58 Tryz.t58, tyI Tryz.t59 Tryz.t59, tyI Tryz.t60 Tryz.t60, tyI Tryz.t60 Tryz.t61, tyI Tryz.t62 Tryz.t62, tyI Tryz.t63 Tryz.t63, tyI Tryz.t64 Tryz.t64, tyI Tryz.t65 Tryz.t65, tyI Tryz.t66 Tryz.t66, tyI Tryz.t67 Tryz.t67, tyI Tryz.t68 Tryz.t68, tyI Tryz.t69 Tryz.t69, tyI Tryz.t70 Tryz.t70, tyI Tryz.t71 Tryz.t71, tyI Tryz.t72 Tryz.t72, tyI Tryz.t73 Tryz.t73, tyI Tryz.t74 Tryz.t74, tyI Tryz.t75 Tryz.t75, tyI Tryz.t76 Tryz.t76, tyI Tryz.t77 Tryz.t77, tyI Tryz.t78 Tryz.t78, tyI Tryz.t79 Tryz.t79, tyI Tryz.t80 Tryz.t80, tyI Tryz.t81 Tryz.t81, tyI Tryz.t82 Tryz.t82, tyI Tryz.t83 Tryz.t83, tyI Tryz.t84 Tryz.t84, tyI Tryz.t85 Tryz.t85, tyI Tryz.t86 Tryz.t86, tyI Tryz.t87 Tryz.t87, tyI Tryz.t88 Tryz.t88, tyI Tryz.t89 Tryz.t89, tyI Tryz.t90 Tryz.t90, tyI Tryz.t91 Tryz.t91, tyI Tryz.t91 Tryz.t92, tyI Tryz.t93 Tryz.t93, tyI Tryz.t94 Tryz.t94, tyI Tryz.t95 Tryz.t95, tyI Tryz.t96 Tryz.t96, tyI Tryz.t97 Tryz.t97, tyI Tryz.t98 Tryz.t98, tyI Tryz.t99 Tryz.t99, tyI Tryz.t100 Tryz.t100, tyI Tryz.t101 Tryz.t101, tyI Tryz.t102 Tryz.t102, tyI Tryz.t103 Tryz.t103, tyI Tryz.t104 Tryz.t104, tyI Tryz.t105 Tryz.t105, tyI Tryz.t106 Tryz.t106, tyI Tryz.t107 Tryz.t107, tyI Tryz.t108 Tryz.t108, tyI Tryz.t109 Tryz.t109, tyI Tryz.t12 Tryz.t110, tyI Tryz.t111 Tryz.t111, tyI Tryz.t111 Tryz.t112, tyI Tryz.t113 Tryz.t113, tyI Tryz.t114 Tryz.t114, tyI Tryz.t114 Tryz.t115, tyI Tryz.t116 Tryz.t116, tyI Tryz.t5 Tryz.t117, tyI Tryz.t118 Tryz.t118, tyI Tryz.t119 Tryz.t119, tyI Tryz.t120 Tryz.t120, tyI Tryz.t121 Tryz.t121, tyI Tryz.t122 Tryz.t122, tyI Tryz.t122 Tryz.t123, tyI Tryz.t124 Tryz.t124, tyI Tryz.t125 Tryz.t125, tyI Tryz.t126 Tryz.t126, tyI Tryz.t127 Tryz.t127, tyI Tryz.t127 Tryz.t128, tyI Tryz.t129 Tryz.t129, tyI Tryz.t130 Tryz.t130, tyI Tryz.t131 Tryz.t131, tyI Tryz.t132 Tryz.t132, tyI Tryz.t133 Tryz.t133, tyI Tryz.t134 Tryz.t134, tyI Tryz.t135 Tryz.t135, tyI Tryz.t136 Tryz.t136, tyI Tryz.t137 Tryz.t137, tyI Tryz.t138 Tryz.t138, tyI Tryz.t3 Tryz.t139, tyI Tryz.t140 Tryz.t140, tyI Tryz.t141 Tryz.t141, tyI Tryz.t142 Tryz.t142, tyI Tryz.t143 Tryz.t143, tyI Tryz.t144 Tryz.t144, tyI Tryz.t145 Tryz.t145, tyI Tryz.t146 Tryz.t146, tyI Tryz.t147 Tryz.t147, tyI Tryz.t148 Tryz.t148, tyI Tryz.t148 Tryz.t149, tyI Tryz.t150 Tryz.t150, tyI Tryz.t151 Tryz.t151, tyI Tryz.t152 Tryz.t152, tyI Tryz.t152 Tryz.t153, tyI Tryz.t154 Tryz.t154, tyI Tryz.t155 Tryz.t155, tyI Tryz.t156 Tryz.t156, tyI Tryz.t157 Tryz.t157, tyI Tryz.t158 Tryz.t158, tyI Tryz.t159 Tryz.t159, tyI Tryz.t160 Tryz.t160, tyI Tryz.t161 Tryz.t161, tyI Tryz.t162 Tryz.t162, tyI Tryz.t163 Tryz.t163, tyI Tryz.t164 Tryz.t164, tyI Tryz.t165 Tryz.t165, tyI Tryz.t166 Tryz.t166, tyI Tryz.t167 Tryz.t167, tyI Tryz.t168 Tryz.t168, tyI Tryz.t168 Tryz.t169, tyI Tryz.t170 Tryz.t170, tyI Tryz.t171 Tryz.t171, tyI Tryz.t171 Tryz.t172, tyI Tryz.t173 Tryz.t173, tyI Tryz.t5 Tryz.t174, tyI Tryz.t175 Tryz.t175, tyI Tryz.t21 Tryz.t176, tyI Tryz.t21 Tryz.t177, tyI Tryz.t178 Tryz.t178, tyI Tryz.t178 Tryz.t179, tyI Tryz.t180 Tryz.t180, tyI Tryz.t181 Tryz.t181, tyI Tryz.t182 Tryz.t182, tyI Tryz.t182 Tryz.t183, tyI Tryz.t184 Tryz.t184, tyI Tryz.t185 Tryz.t185, tyI Tryz.t186 Tryz.t186, tyI Tryz.t187 Tryz.t187, tyI Tryz.t187 Tryz.t188, tyI Tryz.t189 Tryz.t189, tyI Tryz.t21 Tryz.t190, tyI Tryz.t191 Tryz.t191, tyI Tryz.t191 Tryz.t192, tyI Tryz.t193 Tryz.t193]
theorem tabList_ok : TabOK Tryz.prog tabList 0 := tabI Tryz.underlying0 Tryz.type0 <| tabI Tryz.underlying1 Tryz.type1 <| tabI Tryz.underlying2 Tryz.type2 <| tabI Tryz.underlying3 Tryz.type3 <| tabI Tryz.underlying4 Tryz.type4 <| tabI Tryz.underlying5 Tryz.type5 <| tabI Tryz.underlying6 Tryz.type6 <| tabI Tryz.underlying7 Tryz.type7 <| tabI Tryz.underlying8 Tryz.type8 <| tabI Tryz.underlying9 Tryz.type9 <| tabI Tryz.underlying10 Tryz.type10 <| tabI Tryz.underlying11 Tryz.type11 <| tabI Tryz.underlying12 Tryz.type12 <| tabI Tryz.underlying13 Tryz.type13 <| tabI Tryz.underlying14 Tryz.type14 <| tabI Tryz.underlying15 Tryz.type15 <| tabI Tryz.underlying16 Tryz.type16 <| tabI Tryz.underlying17 Tryz.type17 <| tabI Tryz.underlying18 Tryz.type18 <| tabI Tryz.underlying19 Tryz.type19 <| tabI Tryz.underlying20 Tryz.type20 <| tabI Tryz.underlying21 Tryz.type21 <| tabI Tryz.underlying22 Tryz.type22 <| tabI Tryz.underlying23 Tryz.type23 <| tabI Tryz.underlying24 Tryz.type24 <| tabI Tryz.underlying25 Tryz.type25 <| tabI Tryz.underlying26 Tryz.type26 <| tabI Tryz.underlying27 Tryz.type27 <| tabI Tryz.underlying28 Tryz.type28 <| tabI Tryz.underlying29 Tryz.type29 <| tabI Tryz.underlying30 Tryz.type30 <| tabI Tryz.underlying31 Tryz.type31 <| tabI Tryz.underlying32 Tryz.type32 <| tabI Tryz.underlying33 Tryz.type33 <| tabI Tryz.underlying34 Tryz.type34 <| tabI Tryz.underlying35 Tryz.type35 <| tabI Tryz.underlying36 Tryz.type36 <| tabI Tryz.underlying37 Tryz.type37 <| tabI Tryz.underlying38 Tryz.type38 <| tabI Tryz.underlying39 Tryz.type39 <| tabI Tryz.underlying40 Tryz.type40 <| tabI Tryz.underlying41 Tryz.type41 <| tabI Tryz.underlying42 Tryz.type42 <| tabI Tryz.underlying43 Tryz.type43 <| tabI Tryz.underlying44 Tryz.type44 <| tabI Tryz.underlying45 Tryz.type45 <| tabI Tryz.underlying46 Tryz.type46 <| tabI Tryz.underlying47 Tryz.type47 <| tabI Tryz.underlying48 Tryz.type48 <| tabI Tryz.underlying49 Tryz.type49 <| tabI Tryz.underlying50 Tryz.type50 <| tabI Tryz.underlying51 Tryz.type51 <| tabI Tryz.underlying52 Tryz.type52 <| tabI Tryz.underlying53 Tryz.type53 <| tabI Tryz.underlying54 Tryz.type54 <| tabI Tryz.underlying55 Tryz.type55 <| tabI Tryz.underlying56 Tryz.type56 <| tabI Tryz.underlying57 Tryz.type57 <| tabI Tryz.underlying58 Tryz.type58 <| tabI Tryz.underlying59 Tryz.type59 <| tabI Tryz.underlying60 Tryz.type60 <| tabI Tryz.underlying61 Tryz.type61 <| tabI Tryz.underlying62 Tryz.type62 <| tabI Tryz.underlying63 Tryz.type63 <| tabI Tryz.underlying64 Tryz.type64 <| tabI Tryz.underlying65 Tryz.type65 <| tabI Tryz.underlying66 Tryz.type66 <| tabI Tryz.underlying67 Tryz.type67 <| tabI Tryz.underlying68 Tryz.type68 <| tabI Tryz.underlying69 Tryz.type69 <| tabI Tryz.underlying70 Tryz.type70 <| tabI Tryz.underlying71 Tryz.type71 <| tabI Tryz.underlying72 Tryz.type72 <| tabI Tryz.underlying73 Tryz.type73 <| tabI Tryz.underlying74 Tryz.type74 <| tabI Tryz.underlying75 Tryz.type75 <| tabI Tryz.underlying76 Tryz.type76 <| tabI Tryz.underlying77 Tryz.type77 <| tabI Tryz.underlying78 Tryz.type78 <| tabI Tryz.underlying79 Tryz.type79 <| tabI Tryz.underlying80 Tryz.type80 <| tabI Tryz.underlying81 Tryz.type81 <| tabI Tryz.underlying82 Tryz.type82 <| tabI Tryz.underlying83 Tryz.type83 <| tabI Tryz.underlying84 Tryz.type84 <| tabI Tryz.underlying85 Tryz.type85 <| tabI Tryz.underlying86 Tryz.type86 <| tabI Tryz.underlying87 Tryz.type87 <| tabI Tryz.underlying88 Tryz.type88 <| tabI Tryz.underlying89 Tryz.type89 <| tabI Tryz.underlying90 Tryz.type90 <| tabI Tryz.underlying91 Tryz.type91 <| tabI Tryz.underlying92 Tryz.type92 <| tabI Tryz.underlying93 Tryz.type93 <| tabI Tryz.underlying94 Tryz.type94 <| tabI Tryz.underlying95 Tryz.type95 <| tabI Tryz.underlying96 Tryz.type96 <| tabI Tryz.underlying97 Tryz.type97 <| tabI Tryz.underlying98 Tryz.type98 <| tabI Tryz.underlying99 Tryz.type99 <| tabI Tryz.underlying100 Tryz.type100 <| tabI Tryz.underlying101 Tryz.type101 <| tabI Tryz.underlying102 Tryz.type102 <| tabI Tryz.underlying103 Tryz.type103 <| tabI Tryz.underlying104 Tryz.type104 <| tabI Tryz.underlying105 Tryz.type105 <| tabI Tryz.underlying106 Tryz.type106 <| tabI Tryz.underlying107 Tryz.type107 <| tabI Tryz.underlying108 Tryz.type108 <| tabI Tryz.underlying109 Tryz.type109 <| tabI Tryz.underlying110 Tryz.type110 <| tabI Tryz.underlying111 Tryz.type111 <| tabI Tryz.underlying112 Tryz.type112 <| tabI Tryz.underlying113 Tryz.type113 <| tabI Tryz.underlying114 Tryz.type114 <| tabI Tryz.underlying115 Tryz.type115 <| tabI Tryz.underlying116 Tryz.type116 <| tabI Tryz.underlying117 Tryz.type117 <| tabI Tryz.underlying118 Tryz.type118 <| tabI Tryz.underlying119 Tryz.type119 <| tabI Tryz.underlying120 Tryz.type120 <| tabI Tryz.underlying121 Tryz.type121 <| tabI Tryz.underlying122 Tryz.type122 <| tabI Tryz.underlying123 Tryz.type123 <| tabI Tryz.underlying124 Tryz.type124 <| tabI Tryz.underlying125 Tryz.type125 <| tabI Tryz.underlying126 Tryz.type126 <| tabI Tryz.underlying127 Tryz.type127 <| tabI Tryz.underlying128 Tryz.type128 <| tabI Tryz.underlying129 Tryz.type129 <| tabI Tryz.underlying130 Tryz.type130 <| tabI Tryz.underlying131 Tryz.type131 <| tabI Tryz.underlying132 Tryz.type132 <| tabI Tryz.underlying133 Tryz.type133 <| tabI Tryz.underlying134 Tryz.type134 <| tabI Tryz.underlying135 Tryz.type135 <| tabI Tryz.underlying136 Tryz.type136 <| tabI Tryz.underlying137 Tryz.type137 <| tabI Tryz.underlying138 Tryz.type138 <| tabI Tryz.underlying139 Tryz.type139 <| tabI Tryz.underlying140 Tryz.type140 <| tabI Tryz.underlying141 Tryz.type141 <| tabI Tryz.underlying142 Tryz.type142 <| tabI Tryz.underlying143 Tryz.type143 <| tabI Tryz.underlying144 Tryz.type144 <| tabI Tryz.underlying145 Tryz.type145 <| tabI Tryz.underlying146 Tryz.type146 <| tabI Tryz.underlying147 Tryz.type147 <| tabI Tryz.underlying148 Tryz.type148 <| tabI Tryz.underlying149 Tryz.type149 <| tabI Tryz.underlying150 Tryz.type150 <| tabI Tryz.underlying151 Tryz.type151 <| tabI Tryz.underlying152 Tryz.type152 <| tabI Tryz.underlying153 Tryz.type153 <| tabI Tryz.underlying154 Tryz.type154 <| tabI Tryz.underlying155 Tryz.type155 <| tabI Tryz.underlying156 Tryz.type156 <| tabI Tryz.underlying157 Tryz.type157 <| tabI Tryz.underlying158 Tryz.type158 <| tabI Tryz.underlying159 Tryz.type159 <| tabI Tryz.underlying160 Tryz.type160 <| tabI Tryz.underlying161 Tryz.type161 <| tabI Tryz.underlying162 Tryz.type162 <| tabI Tryz.underlying163 Tryz.type163 <| tabI Tryz.underlying164 Tryz.type164 <| tabI Tryz.underlying165 Tryz.type165 <| tabI Tryz.underlying166 Tryz.type166 <| tabI Tryz.underlying167 Tryz.type167 <| tabI Tryz.underlying168 Tryz.type168 <| tabI Tryz.underlying169 Tryz.type169 <| tabI Tryz.underlying170 Tryz.type170 <| tabI Tryz.underlying171 Tryz.type171 <| tabI Tryz.underlying172 Tryz.type172 <| tabI Tryz.underlying173 Tryz.type173 <| tabI Tryz.underlying174 Tryz.type174 <| tabI Tryz.underlying175 Tryz.type175 <| tabI Tryz.underlying176 Tryz.type176 <| tabI Tryz.underlying177 Tryz.type177 <| tabI Tryz.underlying178 Tryz.type178 <| tabI Tryz.underlying179 Tryz.type179 <| tabI Tryz.underlying180 Tryz.type180 <| tabI Tryz.underlying181 Tryz.type181 <| tabI Tryz.underlying182 Tryz.type182 <| tabI Tryz.underlying183 Tryz.type183 <| tabI Tryz.underlying184 Tryz.type184 <| tabI Tryz.underlying185 Tryz.type185 <| tabI Tryz.underlying186 Tryz.type186 <| tabI Tryz.underlying187 Tryz.type187 <| tabI Tryz.underlying188 Tryz.type188 <| tabI Tryz.underlying189 Tryz.type189 <| tabI Tryz.underlying190 Tryz.type190 <| tabI Tryz.underlying191 Tryz.type191 <| tabI Tryz.underlying192 Tryz.type192 <| tabI Tryz.underlying193 Tryz.type193 <| trivial
noncomputable instance theTab : Tab Tryz.prog := ⟨tabList, tabList_ok⟩
end Go.Proofs.YtmgkpbgfkjedeaaGreatDoor
namespace Go.Proofs.YtmgkpbgfkjedeaaGreatDoor
open Go
set_option linter.unusedSimpArgs false
theorem str_mk (b : ByteArray) : (⟨b.data.toList.toArray⟩ : ByteArray) = b := by cases b; simp
theorem str_size (l : List UInt8) : (⟨l.toArray⟩ : ByteArray).size = l.length := by simp [ByteArray.size]
theorem str_append (a b : List UInt8) : (⟨a.toArray⟩ : ByteArray) ++ ⟨b.toArray⟩ = ⟨(a ++ b).toArray⟩ := by
  ext1; simp
theorem str_extract (l : List UInt8) (i j : Nat) : (⟨l.toArray⟩ : ByteArray).extract i j = ⟨((l.take j).drop i).toArray⟩ := by
  apply ByteArray.ext
  simp [List.drop_take]
theorem str_get (l : List UInt8) (i : Nat) (h : i < l.length) : (⟨l.toArray⟩ : ByteArray)[i]? = some l[i] := by
  have hs : i < (⟨l.toArray⟩ : ByteArray).size := by rw [str_size]; exact h
  rw [getElem?_pos _ i hs]
  exact congrArg some (show l.toArray[i] = l[i] by simp)
/-- Two's powers, written out. -/
def pwL : List Int := [1, 2, 4, 8, 16, 32, 64, 128, 256, 512, 1024, 2048, 4096, 8192, 16384, 32768, 65536, 131072, 262144, 524288, 1048576, 2097152, 4194304, 8388608, 16777216, 33554432, 67108864, 134217728, 268435456, 536870912, 1073741824, 2147483648, 4294967296]
def pwChk : List Int → Nat → Bool
  | [], _ => true
  | c :: r, i => decide (((2 ^ i : Nat) : Int) = c) && pwChk r (i + 1)
theorem pwChk_nth : ∀ {l : List Int} {i k : Nat} {c : Int}, pwChk l i = true → nth l k = some c → ((2 ^ (i + k) : Nat) : Int) = c
  | [], _, _, _, _, h => by simp [nth] at h
  | x :: r, i, 0, c, ho, h => by
    simp only [nth, Option.some.injEq] at h
    subst h
    simp only [pwChk, Bool.and_eq_true, decide_eq_true_eq] at ho
    exact ho.1
  | x :: r, i, k + 1, c, ho, h => by
    simp only [pwChk, Bool.and_eq_true] at ho
    rw [show i + (k + 1) = (i + 1) + k by omega]
    exact pwChk_nth ho.2 h
theorem pw_ok {e : Nat} {c : Int} (h : nth pwL e = some c) : ((2 ^ e : Nat) : Int) = c := by
  have := pwChk_nth (l := pwL) (i := 0) (by decide +kernel) h
  rwa [Nat.zero_add] at this
/-- A number fits its kind. -/
def Fits : IntKind → Int → Prop
  | .i8, n => -128 ≤ n ∧ n ≤ 127
  | .i16, n => -32768 ≤ n ∧ n ≤ 32767
  | .i32, n => -2147483648 ≤ n ∧ n ≤ 2147483647
  | .i64, n => -9223372036854775808 ≤ n ∧ n ≤ 9223372036854775807
  | .u8, n => 0 ≤ n ∧ n ≤ 255
  | .u16, n => 0 ≤ n ∧ n ≤ 65535
  | .u32, n => 0 ≤ n ∧ n ≤ 4294967295
  | .u64, n => 0 ≤ n ∧ n ≤ 18446744073709551615
theorem wrap_fits {k : IntKind} {n : Int} (h : Fits k n) : k.wrap n = n := by
  cases k
  · exact IntWalk.i8_in n h
  · exact IntWalk.i16_in n h
  · exact IntWalk.i32_in n h
  · exact IntWalk.i64_in n h
  · exact IntWalk.u8_in n h
  · exact IntWalk.u16_in n h
  · exact IntWalk.u32_in n h
  · exact IntWalk.u64_in n h
def boundsK : IntKind → Int × Int
  | .i8 => (-128, 127)
  | .i16 => (-32768, 32767)
  | .i32 => (-2147483648, 2147483647)
  | .i64 => (-9223372036854775808, 9223372036854775807)
  | .u8 => (0, 255)
  | .u16 => (0, 65535)
  | .u32 => (0, 4294967295)
  | .u64 => (0, 18446744073709551615)
theorem fitsK {k : IntKind} {n lo hi : Int} (hk : boundsK k = (lo, hi)) (h1 : lo ≤ n) (h2 : n ≤ hi) : Fits k n := by
  cases k <;> (simp only [boundsK, Prod.mk.injEq] at hk; obtain ⟨rfl, rfl⟩ := hk; exact ⟨h1, h2⟩)
section
variable {P : Program} {C : Ctx} {n : Nat} {env : Env} {H : Heap} {Q : AExit → Env → Heap → Prop} {ops : Array Oper} {rest : List Oper}
variable {d : Nat} {t : TypeId} {p : String} {af : Array Edge} {g : Option (Nat × Bool)} {b : Bool} {av : AVal}
variable {x y : Operand} {tx ty : TypeId}
/-! ### Integers that stay in their kind -/
theorem bits_nn {k : IntKind} {m q : Int} (f : (w : Nat) → BitVec w → BitVec w → BitVec w) (f' : Nat → Nat → Nat)
    (hff : ∀ a c, (f k.bits (BitVec.ofNat k.bits a) (BitVec.ofNat k.bits c)).toNat = f' (a % 2 ^ k.bits) (c % 2 ^ k.bits))
    (hlt : ∀ a c e, a < 2 ^ e → c < 2 ^ e → f' a c < 2 ^ e) (hm : 0 ≤ m) (hq : 0 ≤ q) (hm' : Fits k m) (hq' : Fits k q) :
    k.wrap ((f k.bits (BitVec.ofInt k.bits m) (BitVec.ofInt k.bits q)).toNat : Int) = (f' m.toNat q.toNat : Nat) := by
  obtain ⟨a, rfl⟩ := Int.eq_ofNat_of_zero_le hm
  obtain ⟨c, rfl⟩ := Int.eq_ofNat_of_zero_le hq
  have h1 : ∀ a : Nat, BitVec.ofInt k.bits (a : Int) = BitVec.ofNat k.bits a := fun a => by simp
  rw [h1, h1, hff]
  have key : ∀ e, e ≤ k.bits → (∀ z : Nat, z < 2 ^ e → Fits k z) → a < 2 ^ e → c < 2 ^ e →
      k.wrap ((f' (a % 2 ^ k.bits) (c % 2 ^ k.bits) : Nat) : Int) = (f' a c : Nat) := by
    intro e he hz ha hc
    have hle : 2 ^ e ≤ 2 ^ k.bits := Nat.pow_le_pow_right (by omega) he
    rw [Nat.mod_eq_of_lt (by omega), Nat.mod_eq_of_lt (by omega)]
    exact wrap_fits (hz _ (hlt _ _ _ ha hc))
  simp only [Int.toNat_natCast]
  cases k <;> simp only [Fits] at hm' hq'
  · exact key 7 (by decide) (fun z hz => by simp only [Fits]; omega) (by omega) (by omega)
  · exact key 15 (by decide) (fun z hz => by simp only [Fits]; omega) (by omega) (by omega)
  · exact key 31 (by decide) (fun z hz => by simp only [Fits]; omega) (by omega) (by omega)
  · exact key 63 (by decide) (fun z hz => by simp only [Fits]; omega) (by omega) (by omega)
  · exact key 8 (by decide) (fun z hz => by simp only [Fits]; omega) (by omega) (by omega)
  · exact key 16 (by decide) (fun z hz => by simp only [Fits]; omega) (by omega) (by omega)
  · exact key 32 (by decide) (fun z hz => by simp only [Fits]; omega) (by omega) (by omega)
  · exact key 64 (by decide) (fun z hz => by simp only [Fits]; omega) (by omega) (by omega)
/-! ### Integers of one kind to another -/
/-! ### Strings -/
def seqB (x y : List UInt8) : Bool := x == y
theorem seqB_t {x y : List UInt8} : seqB x y = true ↔ x = y := by simp [seqB]
theorem seqB_f {x y : List UInt8} : seqB x y = false ↔ x ≠ y := by simp [seqB]
theorem seqB_def {x y : List UInt8} : seqB x y = (x == y) := rfl
attribute [irreducible] seqB
def sltB (x y : List UInt8) : Bool := Op.bytesLess x y
theorem sltB_def {x y : List UInt8} : sltB x y = Op.bytesLess x y := rfl
attribute [irreducible] sltB
def strBin (op : BinOp) (x y : List UInt8) : Option AVal :=
  match op with
  | .eql => some (.bool (seqB x y))
  | .neq => some (.bool (!(seqB x y)))
  | .lss => some (.bool (sltB x y))
  | .leq => some (.bool (sltB x y || seqB x y))
  | .gtr => some (.bool (!(sltB x y || seqB x y)))
  | .geq => some (.bool (!sltB x y))
  | _ => none
/-- A slice of a string: what stands for the bounds. -/
def boundA (env : Env) (dflt : Int) : Option Operand → Option Int
  | none => some dflt
  | some x => match evalA env x with
    | some (.int _ i) => some i
    | _ => none
theorem bound_run {R : Seal} {ρ : Operand → Value} (hf : Evals R env ρ) {dflt i : Int} {lo : Option Operand} (hlo : boundA env dflt lo = some i) :
    (lo = none ∧ i = dflt) ∨ ∃ z k, lo = some z ∧ ρ z = .int k i := by
  cases lo with
  | none => simp only [boundA, Option.some.injEq] at hlo; exact .inl ⟨rfl, hlo.symm⟩
  | some z =>
    simp only [boundA] at hlo
    split at hlo
    · rename_i k j hz
      simp only [Option.some.injEq] at hlo
      subst hlo
      exact .inr ⟨z, k, rfl, rel_int.1 (hf _ _ hz)⟩
    · cases hlo
theorem bounds_run {P : Program} {R : Seal} {ρ : Operand → Value} (hf : Evals R env ρ) {isS : Bool} {len cap : Nat} {lo hi : Option Operand} {i j : Int} (hlo : boundA env 0 lo = some i) (hhi : boundA env len hi = some j)
    (h0 : 0 ≤ i) (hij : i ≤ j) (hj : j ≤ cap) (_hlc : len ≤ cap) (w : World) :
    (Instr.sliceBounds isS len cap (lo.map ρ) (hi.map ρ) none).run P w = .ok (i.toNat, j.toNat, cap) w := by
  have hb : ∀ (k : IntKind) (u : Int) (y : Nat) (c : BoundsCode), 0 ≤ u → u ≤ y → (Instr.sliceBound (.int k u) y c).run P w = .ok u.toNat w := by
    intro k u y c h1 h2
    simp only [Instr.sliceBound, asIntOf, Sem.run_bind, Sem.run_pure, Result.andThen_ok]
    rw [if_pos ⟨h1, h2⟩]
    rfl
  rcases bound_run hf hlo with ⟨rfl, rfl⟩ | ⟨z, k, rfl, hz⟩ <;> rcases bound_run hf hhi with ⟨rfl, rfl⟩ | ⟨z', k', rfl, hz'⟩
  · simp only [Instr.sliceBounds, Option.map_none, Sem.run_bind, Sem.run_pure, Result.andThen_ok]
    simp
  · simp only [Instr.sliceBounds, Option.map_none, Option.map_some, hz', Sem.run_bind, Sem.run_pure, Result.andThen_ok]
    rw [hb k' j cap _ (by omega) hj]
    simp
  · simp only [Instr.sliceBounds, Option.map_none, Option.map_some, hz, Sem.run_bind, Sem.run_pure, Result.andThen_ok, Option.isSome_none, Bool.false_eq_true, if_false]
    rw [hb k i len _ h0 hij]
    simp
  · simp only [Instr.sliceBounds, Option.map_none, Option.map_some, hz, hz', Sem.run_bind, Sem.run_pure, Result.andThen_ok, Option.isSome_none, Bool.false_eq_true, if_false]
    rw [hb k' j cap _ (by omega) hj]
    simp only [Result.andThen_ok]
    rw [hb k i j.toNat _ h0 (by omega)]
    simp
/-! ### Several results -/
end
end Go.Proofs.YtmgkpbgfkjedeaaGreatDoor
