/- Parts of the proof of cardItems_card: Rui. -/
import Derived.Test.YtkelbglfhigmiaaGreatDoorBan
import Derived.Test.YtkelbglfhigmiaaGreatDoorBai
set_option linter.unusedVariables false
set_option linter.unusedSimpArgs false
set_option linter.unusedSectionVars false
namespace Go.Proofs.YtkelbglfhigmiaaGreatDoor
set_option maxRecDepth 20000
set_option maxHeartbeats 4000000
section
open Go Go.ChangeShapes Go.WideShapes
def EZ : Glo := ⟨fun R => ∃ e fz, R 2 = some (.cells (Lib.asciiSpaceTab.map fun z => Value.int .u8 z).toArray e fz), fun _ _ hle ⟨e, fz, h⟩ => ⟨e, fz, hle _ _ h⟩⟩
theorem DB {W : World} {k : Nat} (hk : 2 < k) {laid : List (String × DataW Unit)} (hL : laidMetH Tryz.prog laid W) (hm : ("strings.asciiSpace", Rows.laid_strings_asciiSpace) ∈ laid) : EZ.p (bE W k) := by
 obtain ⟨C, e, fz, fuel, p, hW, hd⟩ := kF hL hm (by kernel_rfl) (g := 2) (t := 199) (by kernel_rfl) (by kernel_rfl)
 have e0 : (Rows.laid_strings_asciiSpace : DataW Unit) = .agg (((List.range 256).map fun i => if Lib.isSp (UInt8.ofNat i) then 1 else 0).map fun x : Nat => .lit (.int .u8 (x : Int))) := by kernel_rfl
 rw [e0] at hd
 have hc := pb (n := 256) Tryz.underlying199 Tryz.underlying5 (by kernel_rfl) (by kernel_rfl) hd (by rw [List.length_map, List.length_range])
 have e1 : C = (Lib.asciiSpaceTab.map fun z => Value.int .u8 z).toArray := by
  apply Array.ext'
  rw [hc]
  kernel_rfl
 refine ⟨e, fz, ?_⟩
 unfold bE
 rw [if_pos hk, hW, e1]
end
end Go.Proofs.YtkelbglfhigmiaaGreatDoor
