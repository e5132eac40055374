/- Bytes of a string appended to a call's own row of bytes; the row as a string. -/
import Derived.Test.YtlmihggafbmkaaaExd
namespace Go.Proofs.Ytlmihggafbmkaaa
open Go Go.RowKit
set_option linter.unusedSectionVars false
abbrev bytesC (s : List UInt8) : List AVal := s.map fun c => .int .u8 (c.toNat : Int)
/-- A row of bytes. -/
abbrev rowR (v : Value) (s : List UInt8) : HEnt := .row v (some 5) 1 s.length (bytesC s)
theorem rowR_app (v : Value) (s t : List UInt8) : HEnt.row v (some 5) 1 (s.length + t.length) (bytesC s ++ bytesC t) = rowR v (s ++ t) := by
  simp only [rowR, bytesC, List.length_append, List.map_append]
section
variable {P : Program} [Tab P] {C : Ctx} {n : Nat} {env : Env} {H : Heap} {Q : AExit → Env → Heap → Prop} {ops : Array Oper} {rest : List Oper} {G : Glo} {GL : List (Nat × List AVal)}
variable {d : Nat} {t : TypeId} {p : String} {af : Array Edge} {g : Option (Nat × Bool)} {b : Bool}
variable {x y : Operand} {T : TypeId} {xT : TI} {tx ty : TypeId}
theorem op1_apps {i n0 : Nat} {v : Value} {s : List UInt8} {cs z : List AVal} {eT : Option TypeId} {e : TypeId} {xe xx : TI} (hC : C.G = G) (hGL : GloAll G GL) (hg : guardA ops env g = some (b, b)) (hdn : Nat.ble (d + 1) n = true)
    (hx : evalA env x = some (.own i v)) (hi : H[i]? = some (.row v eT 1 n0 cs)) (hy : evalA env y = some (.str s))
    (h1 : tab P T = some xT) (h2 : xT.desc = .slice e) (h3 : tab P e = some xe) (h4 : xe.size = 1) (h6 : Nat.ble xe.bytes 1024 = true) (h7 : zeroCellsA xe.zero = some z) (h8 : z.length = 1) (h9 : tab P tx = some xx) (h10 : xx.desc = .string)
    (hlen : n0 + s.length ≤ 137438953472) (hty : tyOK eT e = true)
    (h : ∀ a k c, opsX P C n G GL ops Q rest ((d, .own i (.slice a k c)) :: env) (H.set i (.row (.slice a k c) eT 1 (n0 + s.length) (cs ++ bytesC s)))) :
    Op1 P C n ops ({ dst := some d, op := .call { callee := .builtin .append, args := [x, y].toArray, argTypes := [T, tx].toArray }, type := t, pos := p, after := af, guard := g } :: rest) env H Q :=
  ⟨ow_append hg hdn hx hi hy h1 h2 h3 h4 rfl h6 h7 h8 (fun R v hv => src_str hv h9 h10) hlen (tyOK_ok hty) fun v' => ao_rowslice (get_set hi) fun ⟨a, k, c, e, _⟩ => by subst e; exact opsX_ok hC hGL _ _ _ (h a k c)⟩
theorem rv_str_rowO {s : List UInt8} {i m : Nat} {v : Value} {eT : Option TypeId} {S e : TypeId} {xS xe : TI}
    (hx : evalA env x = some (.own i v)) (hi : H[i]? = some (.row v eT 1 m (bytesC s)))
    (h1 : tab P S = some xS) (h2 : xS.desc = .slice e) (h5 : tab P e = some xe) (h6 : xe.desc = .int .u8) (h3 : tab P T = some xT) (h4 : xT.desc = .string) : RunV P C H env (.convert S T x) (.str s) := by
  obtain ⟨k, rfl, hs⟩ := own_tmp hx
  exact rv_shadow hs (rv_str_row (by simp only [evalA]; exact get_hit) hi rfl h1 h2 h5 h6 h3 h4)
end
end Go.Proofs.Ytlmihggafbmkaaa
