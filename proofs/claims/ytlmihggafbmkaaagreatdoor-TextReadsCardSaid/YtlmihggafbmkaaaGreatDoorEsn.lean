/- Bytes escaped: the plain law (6.1), and what the 257 cells hold. -/
import Derived.Test.YtlmihggafbmkaaaGreatDoorExd
namespace Go.Proofs.YtlmihggafbmkaaaGreatDoor
open Go Go.RowKit
theorem byteAt_ge {s : List UInt8} {j : Nat} (h : j < s.length) : byteAt s j = s[j].toNat := by
  simp [byteAt, List.getD, h]
theorem u8_k {c : UInt8} {k : Nat} (hk : k < 256) : c = UInt8.ofNat k ↔ c.toNat = k := by
  constructor
  · rintro rfl
    rw [UInt8.toNat_ofNat_of_lt' hk]
  · intro h
    rw [← h, UInt8.ofNat_toNat]
/-- What a byte is written as. -/
def escF (c : UInt8) : List UInt8 := if c = 92 then [92, 92] else if c = 44 then [92, 44] else if c = 59 then [92, 59] else if c = 10 then [92, 110] else [c]
def escS (s : List UInt8) : List UInt8 := s.flatMap escF
theorem esc_92 : escF 92 = [92, 92] := rfl
theorem esc_44 : escF 44 = [92, 44] := rfl
theorem esc_59 : escF 59 = [92, 59] := rfl
theorem esc_10 : escF 10 = [92, 110] := rfl
theorem esc_else {c : UInt8} (h0 : c.toNat ≠ 92) (h1 : c.toNat ≠ 44) (h2 : c.toNat ≠ 59) (h3 : c.toNat ≠ 10) : escF c = [c] := by
  unfold escF
  rw [if_neg (by rintro rfl; exact h0 rfl), if_neg (by rintro rfl; exact h1 rfl), if_neg (by rintro rfl; exact h2 rfl), if_neg (by rintro rfl; exact h3 rfl)]
theorem escS_nil : escS [] = [] := rfl
theorem escS_cons (c : UInt8) (s : List UInt8) : escS (c :: s) = escF c ++ escS s := rfl
theorem escS_app (s t : List UInt8) : escS (s ++ t) = escS s ++ escS t := by simp [escS]
theorem escF_len (c : UInt8) : 1 ≤ (escF c).length ∧ (escF c).length ≤ 2 := by
  unfold escF
  (repeat' split) <;> simp
theorem escS_len (s : List UInt8) : s.length ≤ (escS s).length ∧ (escS s).length ≤ 2 * s.length := by
  induction s with
  | nil => exact ⟨Nat.le_refl _, Nat.le_refl _⟩
  | cons c t ih =>
    have := escF_len c
    rw [escS_cons, List.length_append, List.length_cons]
    omega
theorem escS_take {s : List UInt8} {i : Nat} (h : i < s.length) : escS (s.take (i + 1)) = escS (s.take i) ++ escF s[i] := by
  rw [List.take_succ_eq_append_getElem h, escS_app]
  simp [escS]
theorem escS_all {s : List UInt8} {i : Nat} (h : s.length ≤ i) : escS (s.take i) = escS s := by rw [List.take_of_length_le h]
theorem escS_le {s : List UInt8} {i : Nat} : (escS (s.take i)).length + (escS (s.drop i)).length = (escS s).length := by
  rw [← List.length_append, ← escS_app, List.take_append_drop]
theorem escS_id {s : List UInt8} (h : (escS s).length = s.length) : escS s = s := by
  induction s with
  | nil => rfl
  | cons c t ih =>
    have h1 := escF_len c
    have h2 := escS_len t
    rw [escS_cons, List.length_append, List.length_cons] at h
    have h3 : (escF c).length = 1 := by omega
    rw [escS_cons, ih (by omega)]
    revert h3
    unfold escF
    (repeat' split) <;> simp
theorem escS_count (s : List UInt8) : (escS s).length = s.length + (s.countP (· == 10) + s.countP (· == 59) + s.countP (· == 44) + s.countP (· == 92)) := by
  induction s with
  | nil => rfl
  | cons c t ih =>
    rw [escS_cons, List.length_append, ih, List.countP_cons, List.countP_cons, List.countP_cons, List.countP_cons, List.length_cons]
    unfold escF
    by_cases h0 : c = 92
    · subst h0; simp; omega
    · by_cases h1 : c = 44
      · subst h1; simp; omega
      · by_cases h2 : c = 59
        · subst h2; simp; omega
        · by_cases h3 : c = 10
          · subst h3; simp; omega
          · simp [h0, h1, h2, h3]; omega
/-- The cells: the slices by bytes, then toReplace. -/
def tabN (N : Nat) (a0 a1 a2 a3 t : AVal) : List AVal := (((((List.replicate N (.raw (.slice none 0 0))).set 10 a0).set 59 a1).set 44 a2).set 92 a3) ++ [t]
def tabE (a0 a1 a2 a3 t : AVal) : List AVal := tabN 256 a0 a1 a2 a3 t
theorem tabN_end (N : Nat) (a0 a1 a2 a3 t : AVal) : (tabN N a0 a1 a2 a3 t)[N]? = some t := by
  unfold tabN
  rw [List.getElem?_append_right (by simp)]
  simp
theorem tabE_end (a0 a1 a2 a3 t : AVal) : (tabE a0 a1 a2 a3 t)[256]? = some t := tabN_end 256 a0 a1 a2 a3 t
theorem tabN_get {N n : Nat} {a0 a1 a2 a3 t : AVal} (hn : n < N) : (tabN N a0 a1 a2 a3 t)[n]? = some (if n = 92 then a3 else if n = 44 then a2 else if n = 59 then a1 else if n = 10 then a0 else .raw (.slice none 0 0)) := by
  unfold tabN
  rw [List.getElem?_append_left (by simpa using hn)]
  by_cases h3 : n = 92
  · subst h3; rw [List.getElem?_set_self (by simpa using hn), if_pos rfl]
  · rw [if_neg h3, List.getElem?_set_ne (Ne.symm h3)]
    by_cases h2 : n = 44
    · subst h2; rw [List.getElem?_set_self (by simpa using hn), if_pos rfl]
    · rw [if_neg h2, List.getElem?_set_ne (Ne.symm h2)]
      by_cases h1 : n = 59
      · subst h1; rw [List.getElem?_set_self (by simpa using hn), if_pos rfl]
      · rw [if_neg h1, List.getElem?_set_ne (Ne.symm h1)]
        by_cases h0 : n = 10
        · subst h0; rw [List.getElem?_set_self (by simpa using hn), if_pos rfl]
        · rw [if_neg h0, List.getElem?_set_ne (Ne.symm h0)]
          simp [hn]
theorem tabE_get {n : Nat} {a0 a1 a2 a3 t : AVal} (hn : n < 256) : (tabE a0 a1 a2 a3 t)[n]? = some (if n = 92 then a3 else if n = 44 then a2 else if n = 59 then a1 else if n = 10 then a0 else .raw (.slice none 0 0)) := tabN_get (N := 256) hn
theorem buf_put {A e : List UInt8} {N j : Nat} {c : UInt8} (hj : j = A.length) (h : A.length + e.length ≤ N) : (A ++ List.replicate (N - A.length) c).take j ++ e ++ (A ++ List.replicate (N - A.length) c).drop (j + e.length) = A ++ e ++ List.replicate (N - (A ++ e).length) c := by
  subst hj
  rw [List.take_left, List.drop_append, List.drop_eq_nil_of_le (by omega), List.nil_append, List.drop_replicate, List.length_append]
  congr 2
  omega
theorem buf_set {A : List UInt8} {N j : Nat} {c d : UInt8} (hj : j = A.length) (h : A.length < N) : (A ++ List.replicate (N - A.length) c).set j d = A ++ [d] ++ List.replicate (N - (A ++ [d]).length) c := by
  subst hj
  rw [List.set_append_right _ _ (Nat.le_refl _), Nat.sub_self, show N - A.length = (N - (A ++ [d]).length) + 1 by rw [List.length_append, List.length_singleton]; omega, List.replicate_succ, List.set_cons_zero, List.append_assoc]
  rfl
end Go.Proofs.YtlmihggafbmkaaaGreatDoor
