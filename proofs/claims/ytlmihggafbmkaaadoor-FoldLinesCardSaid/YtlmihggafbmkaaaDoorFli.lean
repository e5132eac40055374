/- Lines of a text: what they are (2.1). -/
import Derived.Test.YtlmihggafbmkaaaDoorCrl
import Derived.Test.YtlmihggafbmkaaaDoorPlc
import Derived.Test.YtlmihggafbmkaaaDoorExh
namespace Go.Proofs.YtlmihggafbmkaaaDoor
open Go Go.RowKit
structure LineS where
  t : List UInt8
  a : Nat
  f : List Int
def lineA (l : LineS) : AVal := .agg [.str l.t, .int .i64 l.a, .list 1 l.f.length (intsF l.f)]
def linesC (L : List LineS) : List AVal := L.flatMap fun l => [.str l.t, .int .i64 l.a, .list 1 l.f.length (intsF l.f)]
def linesF (L : List LineS) (i : Nat) : AVal := lineA (L.getD i ⟨[], 0, []⟩)
theorem linesC_len (L : List LineS) : (linesC L).length = L.length * 3 := by
  induction L with
  | nil => rfl
  | cons l L ih =>
    have e : linesC (l :: L) = [.str l.t, .int .i64 l.a, .list 1 l.f.length (intsF l.f)] ++ linesC L := rfl
    rw [e, List.length_append, ih, List.length_cons]
    simp only [List.length_cons, List.length_nil]
    omega
theorem linesC_app (L M : List LineS) : linesC (L ++ M) = linesC L ++ linesC M := by simp [linesC]
theorem linesF_ok (L : List LineS) : ∀ i, i < L.length → (linesF L i).cells = ((linesC L).drop (i * 3)).take 3 ∧ (linesF L i).plain = true := by
  intro i hi
  refine ⟨?_, rfl⟩
  have h1 : L = L.take i ++ L[i] :: L.drop (i + 1) := by rw [← List.drop_eq_getElem_cons hi, List.take_append_drop]
  have h2 : linesC L = linesC (L.take i) ++ ([.str L[i].t, .int .i64 L[i].a, .list 1 L[i].f.length (intsF L[i].f)] ++ linesC (L.drop (i + 1))) := by
    conv => lhs; rw [h1, linesC_app]
    rfl
  have h3 : (linesC (L.take i)).length = i * 3 := by rw [linesC_len, List.length_take]; omega
  rw [h2, List.drop_append_of_le_length (by omega), List.drop_eq_nil_of_le (by omega)]
  simp [linesF, lineA, AVal.cells, List.getD, List.getElem?_eq_getElem hi]
/-- Does a piece go on with the line before it? -/
def isFold (p : List UInt8) : Bool := !(p.length == 0) && (byteAt p 0 == 32 || byteAt p 0 == 9)
/-- A piece is laid on. -/
def addP (L : List LineS) (p : List UInt8) (a : Nat) : Err × List LineS :=
  if isFold p then match L.getLast? with
    | none => (.at 10 0, [])
    | some l => if 1500 < l.t.length + (p.length - 1) then (.at 4 l.a, []) else (.none, L.dropLast ++ [⟨l.t ++ p.drop 1, l.a, l.f ++ [(l.t.length : Int)]⟩])
  else if 1500 < p.length then (.at 4 a, []) else (.none, L ++ [⟨p, a, []⟩])
def crlfAt (t : List UInt8) (i : Nat) : Bool := byteAt t i == 13 && decide (i + 1 < t.length) && byteAt t (i + 1) == 10
def linesG (t : List UInt8) (a : Nat) (L : List LineS) : Err × List LineS :=
  if h : a < t.length then
    if crlfI (t.drop a) < 0 then (.at 7 t.length, [])
    else if crlfAt t (a + (crlfI (t.drop a)).toNat) then
      match addP L ((t.drop a).take (crlfI (t.drop a)).toNat) a with
      | (.none, L') => linesG t (a + (crlfI (t.drop a)).toNat + 2) L'
      | (e, _) => (e, [])
    else (.at 3 (a + crlfI (t.drop a)), [])
  else (.none, L)
termination_by t.length - a
def linesE (t : List UInt8) : Err := if 20000 < t.length then .errno 4 else (linesG t 0 []).1
def linesL (t : List UInt8) : List LineS := if 20000 < t.length then [] else (linesG t 0 []).2
/-! ### The first break -/
theorem noAny_of {s : List UInt8} : ∀ {n : Nat}, n ≤ s.length → (∀ j, j < n → byteAt s j ≠ 10 ∧ byteAt s j ≠ 13) → Lib.NoAny s [13, 10] n
  | 0, _, _ => Lib.NoAny.zero _ _
  | n + 1, hn, h => noAny_crlf (noAny_of (by omega) fun j hj => h j (by omega)) (by omega) (h n (by omega))
theorem crlf_first (s : List UInt8) : ∀ k, k ≤ s.length → (∀ j, j < k → byteAt s j ≠ 10 ∧ byteAt s j ≠ 13) ∨ ∃ n, n < k ∧ (byteAt s n = 10 ∨ byteAt s n = 13) ∧ ∀ j, j < n → byteAt s j ≠ 10 ∧ byteAt s j ≠ 13
  | 0, _ => .inl fun j h => absurd h (Nat.not_lt_zero _)
  | k + 1, hk => by
    rcases crlf_first s k (by omega) with h | ⟨n, h1, h2⟩
    · by_cases hb : byteAt s k = 10 ∨ byteAt s k = 13
      · exact .inr ⟨k, by omega, hb, h⟩
      · refine .inl fun j hj => ?_
        by_cases e : j = k
        · subst e; omega
        · exact h j (by omega)
    · exact .inr ⟨n, by omega, h2⟩
theorem crlf_cases (s : List UInt8) : (crlfI s = -1 ∧ ∀ j, j < s.length → byteAt s j ≠ 10 ∧ byteAt s j ≠ 13) ∨ ∃ n, n < s.length ∧ crlfI s = (n : Int) ∧ (byteAt s n = 10 ∨ byteAt s n = 13) ∧ ∀ j, j < n → byteAt s j ≠ 10 ∧ byteAt s j ≠ 13 := by
  rcases crlf_first s s.length (Nat.le_refl _) with h | ⟨n, h1, h2, h3⟩
  · exact .inl ⟨crlf_end (noAny_of (Nat.le_refl _) h), h⟩
  · exact .inr ⟨n, h1, crlf_at (noAny_of (by omega) h3) h1 h2, h2, h3⟩
theorem crlf_is {s : List UInt8} {n : Nat} (h1 : n < s.length) (h2 : byteAt s n = 10 ∨ byteAt s n = 13) (h3 : ∀ j, j < n → byteAt s j ≠ 10 ∧ byteAt s j ≠ 13) : crlfI s = n := crlf_at (noAny_of (by omega) h3) h1 h2
theorem lines_end {t : List UInt8} {a : Nat} {L : List LineS} (h : ¬ a < t.length) : linesG t a L = (.none, L) := by
  rw [linesG, dif_neg h]
theorem lines_none {t : List UInt8} {a : Nat} {L : List LineS} (h : a < t.length) (hc : crlfI (t.drop a) = -1) : linesG t a L = (.at 7 t.length, []) := by
  rw [linesG, dif_pos h, if_pos (by omega)]
theorem lines_bad {t : List UInt8} {a n : Nat} {L : List LineS} (h : a < t.length) (hc : crlfI (t.drop a) = (n : Int)) (hb : crlfAt t (a + n) = false) : linesG t a L = (.at 3 ((a : Int) + n), []) := by
  rw [linesG, dif_pos h, if_neg (by omega), hc, Int.toNat_natCast, hb]
  rfl
theorem lines_piece {t : List UInt8} {a n : Nat} {L : List LineS} (h : a < t.length) (hc : crlfI (t.drop a) = (n : Int)) (hb : crlfAt t (a + n) = true) :
    linesG t a L = match addP L ((t.drop a).take n) a with
      | (.none, L') => linesG t (a + n + 2) L'
      | (e, _) => (e, []) := by
  rw [linesG, dif_pos h, if_neg (by omega), hc, Int.toNat_natCast, hb, if_pos rfl]
theorem crlf_prefix (t : List UInt8) (k : Nat) (hk : k < t.length) : ([13, 10] : List UInt8).isPrefixOf (t.drop k) = crlfAt t k := by
  unfold crlfAt
  rw [List.drop_eq_getElem_cons hk]
  simp only [List.isPrefixOf]
  have e1 : ((13 : UInt8) == t[k]) = (byteAt t k == 13) := by
    rw [byteAt_getElem hk, Bool.eq_iff_iff, beq_iff_eq, beq_iff_eq, ← UInt8.toNat_inj]
    exact eq_comm
  rw [e1]
  by_cases h2 : k + 1 < t.length
  · rw [List.drop_eq_getElem_cons h2]
    have e2 : ((10 : UInt8) == t[k + 1]) = (byteAt t (k + 1) == 10) := by
      rw [byteAt_getElem h2, Bool.eq_iff_iff, beq_iff_eq, beq_iff_eq, ← UInt8.toNat_inj]
      exact eq_comm
    simp [List.isPrefixOf, e2, h2]
  · rw [List.drop_eq_nil_of_le (by omega)]
    simp [List.isPrefixOf, h2]
theorem isFold_t {p : List UInt8} : isFold p = true ↔ 0 < p.length ∧ (byteAt p 0 = 32 ∨ byteAt p 0 = 9) := by
  unfold isFold
  simp [Nat.pos_iff_ne_zero]
theorem isFold_f {p : List UInt8} : isFold p = false ↔ (p.length = 0 ∨ (byteAt p 0 ≠ 32 ∧ byteAt p 0 ≠ 9)) := by
  rw [← Bool.not_eq_true, isFold_t]
  omega
theorem isFold_y1 {p : List UInt8} (h0 : p.length ≠ 0) (h : (byteAt p 0 : Int) = 32) : isFold p = true := isFold_t.2 ⟨by omega, by omega⟩
theorem isFold_y2 {p : List UInt8} (h0 : p.length ≠ 0) (h : (byteAt p 0 : Int) = 9) : isFold p = true := isFold_t.2 ⟨by omega, by omega⟩
theorem isFold_n {p : List UInt8} (h1 : (byteAt p 0 : Int) ≠ 32) (h2 : (byteAt p 0 : Int) ≠ 9) : isFold p = false := isFold_f.2 (.inr ⟨by omega, by omega⟩)
theorem isFold_n0 {p : List UInt8} (h0 : p.length = 0) : isFold p = false := isFold_f.2 (.inl h0)
theorem addP_fold_nil {p : List UInt8} {a : Nat} (h : isFold p = true) : addP [] p a = (.at 10 0, []) := by
  unfold addP; rw [if_pos h]; rfl
theorem addP_fold_long {I : List LineS} {l : LineS} {p : List UInt8} {a : Nat} (h : isFold p = true) (hl : 1500 < l.t.length + (p.length - 1)) : addP (I ++ [l]) p a = (.at 4 l.a, []) := by
  unfold addP; rw [if_pos h]; simp [hl]
theorem addP_fold {I : List LineS} {l : LineS} {p : List UInt8} {a : Nat} (h : isFold p = true) (hl : ¬ 1500 < l.t.length + (p.length - 1)) : addP (I ++ [l]) p a = (.none, I ++ [⟨l.t ++ p.drop 1, l.a, l.f ++ [(l.t.length : Int)]⟩]) := by
  unfold addP; rw [if_pos h]; simp [hl]
theorem addP_long {L : List LineS} {p : List UInt8} {a : Nat} (h : isFold p = false) (hl : 1500 < p.length) : addP L p a = (.at 4 a, []) := by
  unfold addP; rw [h, if_neg (by decide), if_pos hl]
theorem addP_new {L : List LineS} {p : List UInt8} {a : Nat} (h : isFold p = false) (hl : ¬ 1500 < p.length) : addP L p a = (.none, L ++ [⟨p, a, []⟩]) := by
  unfold addP; rw [h, if_neg (by decide), if_neg hl]
end Go.Proofs.YtlmihggafbmkaaaDoor
