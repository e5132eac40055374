/- Texts of bytes given one by one. -/
import Derived.Test.YtlmihggafbmkaaaGreatDoorExh
import Derived.Test.YtlmihggafbmkaaaGreatDoorShb
namespace Go.Proofs.YtlmihggafbmkaaaGreatDoor
open Go
set_option maxRecDepth 20000
set_option maxHeartbeats 4000000
set_option linter.unusedSimpArgs false
set_option linter.unusedVariables false
attribute [local irreducible] AWp AOps byteAt SrcOK OrOk GloAll FnSpec
/-- Bytes given one by one. -/
def partB : Nat → List Int → List (Nat × AVal)
  | _, [] => []
  | k, v :: vs => (k, .int .u8 v) :: partB (k + 1) vs
theorem partB_at : ∀ (vs : List Int) (k i : Nat) (h : i < vs.length), (partB k vs)[i]? = some (k + i, .int .u8 vs[i])
  | [], _, _, h => absurd h (Nat.not_lt_zero _)
  | v :: vs, k, 0, _ => rfl
  | v :: vs, k, i + 1, h => by
    have := partB_at vs (k + 1) i (by simpa using h)
    simp only [partB, List.getElem?_cons_succ, List.getElem_cons_succ]
    rw [this, show k + 1 + i = k + (i + 1) by omega]
def bytesI (vs : List Int) : List UInt8 := vs.map fun v => UInt8.ofNat v.toNat
theorem rv_bytes {P : Program} [Tab P] {C : Ctx} {H : Heap} {env : Env} (vs : List Int) {S T e : TypeId} {xS xT xe : TI} {x : Operand} (hx : evalA env x = some (.list 1 vs.length (partElem (partB 0 vs)))) (hv : ∀ v, v ∈ vs → 0 ≤ v ∧ v < 256)
    (h1 : tab P S = some xS) (h2 : xS.desc = .slice e) (h5 : tab P e = some xe) (h6 : xe.desc = .int .u8) (h3 : tab P T = some xT) (h4 : xT.desc = .string) : RunV P C H env (.convert S T x) (.str (bytesI vs)) := by
  refine rv_str_list (bytesI vs) hx (by simp [bytesI]) (fun i hi => ?_) h1 h2 h5 h6 h3 h4
  have hi : i < vs.length := by simpa [bytesI] using hi
  have := hv _ (List.getElem_mem hi)
  unfold partElem
  rw [partB_at vs 0 i hi]
  simp only [byteA, bytesI, List.getD, List.getElem?_map, List.getElem?_eq_getElem hi, Option.map_some, Option.getD_some]
  generalize vs[i] = v at *
  congr 1
  have e : v.toNat < 256 := by omega
  rw [UInt8.toNat_ofNat_of_lt' (by simpa using e)]
  omega
theorem bytesI_cons (v : Int) (vs : List Int) : bytesI (v :: vs) = UInt8.ofNat v.toNat :: bytesI vs := rfl
theorem bytesI_nil : bytesI [] = [] := rfl
end Go.Proofs.YtlmihggafbmkaaaGreatDoor
