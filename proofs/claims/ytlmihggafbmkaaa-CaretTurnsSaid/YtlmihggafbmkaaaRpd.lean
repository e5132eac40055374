/- The plain law of decoding (3.1). -/
import Derived.Test.YtlmihggafbmkaaaRpn
namespace Go.Proofs.Ytlmihggafbmkaaa
open Go Go.RowKit
/-- What stands for a byte behind a caret. -/
def decT (d : UInt8) : Option UInt8 := if d = 94 then some 94 else if d = 110 then some 10 else if d = 39 then some 34 else none
def decS : List UInt8 → List UInt8
  | [] => []
  | [c] => [c]
  | c :: d :: t => match (if c = 94 then decT d else none) with
    | some e => e :: decS t
    | none => c :: decS (d :: t)
theorem decS_nil : decS [] = [] := rfl
theorem decS_none {c d : UInt8} {t : List UInt8} (h : c ≠ 94 ∨ decT d = none) : decS (c :: d :: t) = c :: decS (d :: t) := by
  have : (if c = 94 then decT d else none) = none := by
    rcases h with h | h
    · rw [if_neg h]
    · rw [h]; split <;> rfl
  rw [decS, this]
theorem decS_some {d e : UInt8} {t : List UInt8} (h : decT d = some e) : decS (94 :: d :: t) = e :: decS t := by
  have : (if (94 : UInt8) = 94 then decT d else none) = some e := by rw [if_pos rfl, h]
  rw [decS, this]
theorem u8_of {c : UInt8} {k : Nat} (hk : k < 256) : c = UInt8.ofNat k ↔ c.toNat = k := by
  constructor
  · rintro rfl
    rw [UInt8.toNat_ofNat_of_lt' hk]
  · intro h
    rw [← h, UInt8.ofNat_toNat]
/-- A byte that stands for itself. -/
theorem dec_one {s : List UInt8} {i : Nat} (h : i < s.length) (hn : byteAt s i ≠ 94 ∨ s.length ≤ i + 1 ∨ (byteAt s (i + 1) ≠ 94 ∧ byteAt s (i + 1) ≠ 110 ∧ byteAt s (i + 1) ≠ 39)) :
    decS (s.drop i) = (s.drop i).take 1 ++ decS (s.drop (i + 1)) := by
  rw [List.drop_eq_getElem_cons h]
  rcases Nat.lt_or_ge (i + 1) s.length with h2 | h2
  · rw [List.drop_eq_getElem_cons h2]
    rw [byteAt_ge h, byteAt_ge h2] at hn
    rw [decS_none]
    · rfl
    · rcases hn with hn | hn | ⟨h3, h4, h5⟩
      · left
        intro e
        rw [e] at hn
        exact hn rfl
      · omega
      · right
        unfold decT
        rw [if_neg (fun e => h3 (by rw [e]; rfl)), if_neg (fun e => h4 (by rw [e]; rfl)), if_neg (fun e => h5 (by rw [e]; rfl))]
  · rw [List.drop_eq_nil_of_le h2]
    rfl
/-- A caret and what stands behind it. -/
theorem dec_two {s : List UInt8} {i : Nat} (h : i + 1 < s.length) (h0 : byteAt s i = 94) {e : UInt8} (h1 : (byteAt s (i + 1) = 94 ∧ e = 94) ∨ (byteAt s (i + 1) = 110 ∧ e = 10) ∨ (byteAt s (i + 1) = 39 ∧ e = 34)) :
    decS (s.drop i) = e :: decS (s.drop (i + 2)) := by
  rw [List.drop_eq_getElem_cons (by omega : i < s.length), List.drop_eq_getElem_cons h]
  rw [byteAt_ge (by omega)] at h0
  rw [byteAt_ge h] at h1
  have e0 : s[i] = 94 := (u8_of (by decide)).2 h0
  rw [e0]
  refine decS_some ?_
  rcases h1 with ⟨h1, rfl⟩ | ⟨h1, rfl⟩ | ⟨h1, rfl⟩
  · rw [show s[i + 1] = 94 from (u8_of (by decide)).2 h1]; rfl
  · rw [show s[i + 1] = 110 from (u8_of (by decide)).2 h1]; rfl
  · rw [show s[i + 1] = 39 from (u8_of (by decide)).2 h1]; rfl
theorem decS_len : ∀ s : List UInt8, (decS s).length ≤ s.length
  | [] => Nat.le_refl _
  | [_] => Nat.le_refl _
  | c :: d :: t => by
    have h1 := decS_len t
    have h2 := decS_len (d :: t)
    rw [decS]
    split
    · simp only [List.length_cons] at *; omega
    · simp only [List.length_cons] at *; omega
end Go.Proofs.Ytlmihggafbmkaaa
