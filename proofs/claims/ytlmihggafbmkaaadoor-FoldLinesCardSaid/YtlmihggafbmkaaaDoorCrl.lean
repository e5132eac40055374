/- The first break of a line; prefixes. -/
import Derived.Test.YtlmihggafbmkaaaDoorBx
namespace Go.Proofs.YtlmihggafbmkaaaDoor
open Go Go.RowKit
def crlfI (s : List UInt8) : Int := Lib.indexAny s [13, 10]
theorem crlf_lo {s : List UInt8} (h : crlfI s < 0) : crlfI s = -1 := by
  have := Lib.indexAny_ge [13, 10] s
  unfold crlfI at *
  omega
theorem noAny_crlf {s : List UInt8} {i : Nat} (h : Lib.NoAny s [13, 10] i) (hi : i < s.length) (h1 : byteAt s i ≠ 10 ∧ byteAt s i ≠ 13) : Lib.NoAny s [13, 10] (i + 1) := by
  intro j x hj hx
  by_cases e : j = i
  · subst e
    have := get_of_byteAt hx
    exact two_not (by simp; omega)
  · exact h j x (by omega) hx
theorem crlf_at {s : List UInt8} {i : Nat} (h : Lib.NoAny s [13, 10] i) (hi : i < s.length) (h1 : byteAt s i = 10 ∨ byteAt s i = 13) : crlfI s = i := by
  have hx : s[i]? = some s[i] := List.getElem?_eq_getElem hi
  have h2 := get_of_byteAt hx
  unfold crlfI
  exact Lib.indexAny_hit h hx ((two_has _).2 (by simp; omega))
theorem crlf_end {s : List UInt8} (h : Lib.NoAny s [13, 10] s.length) : crlfI s = -1 := by
  unfold crlfI
  exact Lib.indexAny_none h
set_option maxRecDepth 20000
set_option maxHeartbeats 4000000
set_option linter.unusedSimpArgs false
set_option linter.unusedVariables false
attribute [local irreducible] AWp AOps byteAt SrcOK OrOk GloAll FnSpec
theorem has_prefix {G : Glo} (s p : List UInt8) : FnIs Tryd.prog G 68 [.str s, .str p] (.bool (p.isPrefixOf s)) := by
  refine fnis_of_calls rfl Tryd.call68 ?_
  rintro R args ⟨x, t, e, hx, y, t', e', hy, rfl⟩ w hG hs
  obtain rfl := rel_str.1 hx
  obtain rfl := rel_str.1 hy
  subst e'
  obtain rfl := arr_of e
  refine (Tryd.strings_HasPrefix ⟨s.toArray⟩ ⟨p.toArray⟩ w).mono ?_
  rintro e w' ⟨rfl, rfl⟩
  exact ⟨by simp [Lib.hasPrefix, AVal.conc], Below.refl _ _⟩
end Go.Proofs.YtlmihggafbmkaaaDoor
