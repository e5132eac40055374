/- Bytes replaced by strings: the plain law, and what the 257 cells hold. -/
import Derived.Test.YtlmihggafbmkaaaRpm
namespace Go.Proofs.Ytlmihggafbmkaaa
open Go Go.RowKit
theorem byteAt_ge {s : List UInt8} {j : Nat} (h : j < s.length) : byteAt s j = s[j].toNat := by
  simp [byteAt, List.getD, h]
/-- What a byte is written as (3.1). -/
def encF (c : UInt8) : List UInt8 := if c = 94 then [94, 94] else if c = 10 then [94, 110] else if c = 34 then [94, 39] else [c]
def encS (s : List UInt8) : List UInt8 := s.flatMap encF
theorem enc_94 : encF 94 = [94, 94] := rfl
theorem enc_10 : encF 10 = [94, 110] := rfl
theorem enc_34 : encF 34 = [94, 39] := rfl
theorem enc_else {c : UInt8} (h1 : c.toNat ≠ 94) (h2 : c.toNat ≠ 10) (h3 : c.toNat ≠ 34) : encF c = [c] := by
  unfold encF
  rw [if_neg (by rintro rfl; exact h1 rfl), if_neg (by rintro rfl; exact h2 rfl), if_neg (by rintro rfl; exact h3 rfl)]
theorem encS_nil : encS [] = [] := rfl
theorem encS_cons (c : UInt8) (s : List UInt8) : encS (c :: s) = encF c ++ encS s := rfl
theorem encS_app (s t : List UInt8) : encS (s ++ t) = encS s ++ encS t := by simp [encS]
theorem encF_len (c : UInt8) : 1 ≤ (encF c).length ∧ (encF c).length ≤ 2 := by
  unfold encF
  (repeat' split) <;> simp
theorem encS_len (s : List UInt8) : s.length ≤ (encS s).length ∧ (encS s).length ≤ 2 * s.length := by
  induction s with
  | nil => exact ⟨Nat.le_refl _, Nat.le_refl _⟩
  | cons c t ih =>
    have := encF_len c
    rw [encS_cons, List.length_append, List.length_cons]
    omega
def tabN (N : Nat) (v : AVal) (i j k : Nat) (a b c t : AVal) : List AVal := (((List.replicate N v).set i a).set j b).set k c ++ [t]
theorem tabN_len (N : Nat) (v : AVal) (i j k : Nat) (a b c t : AVal) : (tabN N v i j k a b c t).length = N + 1 := by simp [tabN]
theorem tabN_end (N : Nat) (v : AVal) (i j k : Nat) (a b c t : AVal) : (tabN N v i j k a b c t)[N]? = some t := by
  unfold tabN
  rw [List.getElem?_append_right (by simp)]
  simp
theorem tabN_get {N : Nat} {v : AVal} {i j k n : Nat} {a b c t : AVal} (hn : n < N) : (tabN N v i j k a b c t)[n]? = some (if n = k then c else if n = j then b else if n = i then a else v) := by
  unfold tabN
  rw [List.getElem?_append_left (by simpa using hn)]
  by_cases h1 : n = k
  · subst h1; rw [List.getElem?_set_self (by simpa using hn), if_pos rfl]
  · rw [if_neg h1, List.getElem?_set_ne (Ne.symm h1)]
    by_cases h2 : n = j
    · subst h2; rw [List.getElem?_set_self (by simpa using hn), if_pos rfl]
    · rw [if_neg h2, List.getElem?_set_ne (Ne.symm h2)]
      by_cases h3 : n = i
      · subst h3; rw [List.getElem?_set_self (by simpa using hn), if_pos rfl]
      · rw [if_neg h3, List.getElem?_set_ne (Ne.symm h3)]
        simp [hn]
theorem tabC_len (i j k : Nat) (a b c t : AVal) : (tabC i j k a b c t).length = 257 := tabN_len 256 _ i j k a b c t
theorem tabC_end (i j k : Nat) (a b c t : AVal) : (tabC i j k a b c t)[256]? = some t := tabN_end 256 _ i j k a b c t
theorem tabC_get {i j k n : Nat} {a b c t : AVal} (hn : n < 256) : (tabC i j k a b c t)[n]? = some (if n = k then c else if n = j then b else if n = i then a else .raw (.slice none 0 0)) := tabN_get (N := 256) hn
end Go.Proofs.Ytlmihggafbmkaaa
