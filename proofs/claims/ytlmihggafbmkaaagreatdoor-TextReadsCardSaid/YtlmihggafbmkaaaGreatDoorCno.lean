/- strings.Count of one byte: a contract of the shelf. -/
import Derived.Test.YtlmihggafbmkaaaGreatDoorShb
import Derived.Test.YtlmihggafbmkaaaGreatDoorShelf
namespace Go.Proofs.YtlmihggafbmkaaaGreatDoor
open Go Go.RowKit
theorem count_one {G : Glo} (s : List UInt8) (c : UInt8) : FnIs Tryz.prog G 121 [.str s, .str [c]] (.int .i64 (s.countP (· == c) : Nat)) := by
  refine fnis_of_calls rfl Tryz.call121 ?_
  rintro R args ⟨x, t, e, hx, y, t', e', hy, rfl⟩ w hG hs
  obtain rfl := rel_str.1 hx
  obtain rfl := rel_str.1 hy
  subst e'
  obtain rfl := arr_of e
  refine (Tryz.strings_Count_one ⟨s.toArray⟩ c w).mono ?_
  rintro e w' ⟨rfl, rfl⟩
  exact ⟨by simp [AVal.conc, Lib.countByte, List.count], Below.refl _ _⟩
end Go.Proofs.YtlmihggafbmkaaaGreatDoor
