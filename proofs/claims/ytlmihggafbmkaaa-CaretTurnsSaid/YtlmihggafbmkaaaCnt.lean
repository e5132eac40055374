/- strings.Count of one byte, strings.Index: contracts of the shelf. -/
import Derived.Test.YtlmihggafbmkaaaShb
import Derived.Test.YtlmihggafbmkaaaShelf
namespace Go.Proofs.Ytlmihggafbmkaaa
open Go Go.RowKit
theorem count_one {G : Glo} (s : List UInt8) (c : UInt8) : FnIs Try.prog G 86 [.str s, .str [c]] (.int .i64 (s.countP (· == c) : Nat)) := by
  refine fnis_of_calls rfl Try.call86 ?_
  rintro R args ⟨x, t, e, hx, y, t', e', hy, rfl⟩ w hG hs
  obtain rfl := rel_str.1 hx
  obtain rfl := rel_str.1 hy
  subst e'
  obtain rfl := arr_of e
  refine (Try.strings_Count_one ⟨s.toArray⟩ c w).mono ?_
  rintro e w' ⟨rfl, rfl⟩
  exact ⟨by simp [AVal.conc, Lib.countByte, List.count], Below.refl _ _⟩
/-- What is known of the bound that package bytealg keeps. -/
noncomputable abbrev maxTy (m : Int) : List (Nat × List AVal) := [(0, [.int .i64 m])]
theorem max_cell {G : Glo} {m : Int} (hU : GloAll G (maxTy m)) {R : Seal} {w : World} (hG : G.p R) (hs : Sealed R w) : w.cell? ⟨0, 0, none⟩ = some (.int .i64 m) := by
  obtain ⟨v, hc, hr⟩ := SealedAt.cell hs (hU 0 [.int .i64 m] rfl R hG) (i := 0) rfl
  have hr : [v] = [Value.int .i64 m] := hr
  rw [(List.cons.inj hr).1] at hc
  exact hc
theorem strings_index {G : Glo} {m : Int} (hU : GloAll G (maxTy m)) (s t : List UInt8) (hl : s.length < 100000) : FnIs Try.prog G 10 [.str s, .str t] (.int .i64 (Lib.index s t)) := by
  refine fnis_of_calls rfl Try.call10 ?_
  rintro R args ⟨x, u, e, hx, y, u', e', hy, rfl⟩ w hG hs
  obtain rfl := rel_str.1 hx
  obtain rfl := rel_str.1 hy
  subst e'
  obtain rfl := arr_of e
  refine (Try.strings_Index ⟨s.toArray⟩ ⟨t.toArray⟩ m w (by show s.toArray.size < _; simp; omega) (max_cell hU hG hs)).mono ?_
  rintro e w' ⟨rfl, rfl⟩
  exact ⟨by simp [AVal.conc], Below.refl _ _⟩
end Go.Proofs.Ytlmihggafbmkaaa
