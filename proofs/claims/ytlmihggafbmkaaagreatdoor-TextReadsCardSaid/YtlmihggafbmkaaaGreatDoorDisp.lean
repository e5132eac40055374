/- The kinds of operations, told apart; calls whose answer is one value. -/
import Derived.Test.YtlmihggafbmkaaaGreatDoorTab
import Derived.Test.YtlmihggafbmkaaaGreatDoorMisc
namespace Go.Proofs.YtlmihggafbmkaaaGreatDoor
open Go
set_option linter.unusedSimpArgs false

section
variable {P : Program} {C : Ctx} {n : Nat} {env : Env} {H : Heap} {Q : AExit → Env → Heap → Prop} {ops : Array Oper} {rest : List Oper}
variable {dst : Option Nat} {t : TypeId} {p : String} {af : Array Edge} {g : Option (Nat × Bool)} {d : Nat} {b : Bool}

theorem k_aw {c : Code} (h : AWp P C n c env H Q) : AWp P C n c env H Q := h
theorem k_ops {o : Oper} (h : AOps P C n ops (o :: rest) env H Q) : AOps P C n ops (o :: rest) env H Q := h
theorem k_bin {op : BinOp} {tx ty : TypeId} {x y : Operand} (h : AOps P C n ops ({ dst := dst, op := .binOp op tx x y ty, type := t, pos := p, after := af, guard := g } :: rest) env H Q) :
    AOps P C n ops ({ dst := dst, op := .binOp op tx x y ty, type := t, pos := p, after := af, guard := g } :: rest) env H Q := h
theorem k_call {c : Call} (h : AOps P C n ops ({ dst := dst, op := .call c, type := t, pos := p, after := af, guard := g } :: rest) env H Q) :
    AOps P C n ops ({ dst := dst, op := .call c, type := t, pos := p, after := af, guard := g } :: rest) env H Q := h
theorem ao_slice_from [Tab P] {x y : Operand} {m : List UInt8} {k : IntKind} {i : Nat} {T : TypeId} {xT : TI} (hg : guardA ops env g = some (b, b)) (hdn : Nat.ble (d + 1) n = true) (hx : evalA env x = some (.str m))
    (hy : evalA env y = some (.int k (i : Int))) (h1 : tab P T = some xT) (h2 : xT.desc = .string) (hij : i ≤ m.length)
    (h : AOps P C n ops rest ((d, .str (m.drop i)) :: env) H Q) :
    AOps P C n ops ({ dst := some d, op := .slice T x (some y) none none, type := t, pos := p, after := af, guard := g } :: rest) env H Q := by
  refine ao_slice_str (i := (i : Int)) (j := (m.length : Int)) hg hdn hx h1 h2 (by simp only [boundA, hy]) rfl (by omega) (by omega) (Int.le_refl _) ?_
  simpa using h
theorem ao_slice_to [Tab P] {x y : Operand} {m : List UInt8} {k : IntKind} {i : Nat} {T : TypeId} {xT : TI} (hg : guardA ops env g = some (b, b)) (hdn : Nat.ble (d + 1) n = true) (hx : evalA env x = some (.str m))
    (hy : evalA env y = some (.int k (i : Int))) (h1 : tab P T = some xT) (h2 : xT.desc = .string) (hij : i ≤ m.length)
    (h : AOps P C n ops rest ((d, .str (m.take i)) :: env) H Q) :
    AOps P C n ops ({ dst := some d, op := .slice T x none (some y) none, type := t, pos := p, after := af, guard := g } :: rest) env H Q := by
  refine ao_slice_str (i := 0) (j := (i : Int)) hg hdn hx h1 h2 rfl (by simp only [boundA, hy]) (Int.le_refl _) (by omega) (by omega) ?_
  simpa using h
theorem ao_index_nat [Tab P] {x y : Operand} {m : List UInt8} {k : IntKind} {i : Nat} {T : TypeId} {xT : TI} (hg : guardA ops env g = some (b, b)) (hdn : Nat.ble (d + 1) n = true) (hx : evalA env x = some (.str m)) (hy : evalA env y = some (.int k (i : Int)))
    (h1 : tab P T = some xT) (h2 : xT.desc = .string) (hi : i < m.length)
    (h : byteAt m i < 256 → AOps P C n ops rest ((d, .int .u8 (byteAt m i : Int)) :: env) H Q) :
    AOps P C n ops ({ dst := some d, op := .index T x y, type := t, pos := p, after := af, guard := g } :: rest) env H Q :=
  ao_index_str hg hdn hx hy h1 h2 (by omega) (by omega) (by simpa using h)
theorem ao_or_div {k : IntKind} {m q c : Int} {x y : Operand} {tx ty : TypeId} (e : Nat) (hg : guardA ops env g = some (b, b)) (hdn : Nat.ble (d + 1) n = true) (hc : nth pwL e = some c)
    (hx : evalA env x = some (.int k m)) (hy : evalA env y = some (.int k q)) (hm : 0 ≤ m) (hd : m % c = 0) (hq : 0 ≤ q) (hq' : q < c) (hw : Fits k (m + q))
    (h : AOps P C n ops rest ((d, .int k (m + q)) :: env) H Q) : AOps P C n ops ({ dst := some d, op := .binOp .or tx x y ty, type := t, pos := p, after := af, guard := g } :: rest) env H Q := by
  have e1 : m = m / c * c := by have := Int.mul_ediv_add_emod m c; rw [hd, Int.add_zero, Int.mul_comm] at this; exact this.symm
  have hc0 : 0 < c := by omega
  rw [e1] at hx hw h
  exact ao_or_add e hg hdn hc hx hy (Int.ediv_nonneg hm (by omega)) hq hq' hw h
theorem ao_next2 [Tab P] {i bl pos : Nat} {s : List UInt8} {x : Operand} (hg : guardA ops env g = some (b, b)) (hdn : Nat.ble (d + 1) n = true) (hx : evalA env x = some (.raw (.pointer (some ⟨bl, 0, none⟩)))) (hi : H[i]? = some (.iter bl s pos))
    (hmore : pos < s.length → AOps P C n ops rest ((d, .tuple [.bool true, .int .i64 (pos : Int), .int .i32 (rngR (s.drop pos) : Int)]) :: env) (H.set i (.iter bl s (pos + stepS (s.drop pos)))) Q)
    (hdone : s.length ≤ pos → AOps P C n ops rest ((d, .tuple [.bool false]) :: env) H Q) :
    AOps P C n ops ({ dst := some d, op := .next x true, type := t, pos := p, after := af, guard := g } :: rest) env H Q := by
  by_cases hlt : pos < s.length
  · refine ao_next_more hg hdn hx hi hlt ?_
    have e := decode_nextS s pos hlt
    have h := hmore hlt
    have e1 : (Utf8.decode ⟨s.toArray⟩ pos).1 = rngR (s.drop pos) := by rw [e]; unfold rngR; split <;> rfl
    have e2 : (Utf8.decode ⟨s.toArray⟩ pos).2 = stepS (s.drop pos) := by rw [e]; unfold stepS; split <;> rfl
    rw [e1, e2]
    exact h
  · exact ao_next_done hg hdn hx hi (by omega) (hdone (by omega))
theorem ao_shl_wrap {k j : IntKind} {m c : Int} {s : Nat} {x : Operand} {tx ty : TypeId} (hg : guardA ops env g = some (b, b)) (hdn : Nat.ble (d + 1) n = true)
    (hx : evalA env x = some (.int k m)) (hs : Nat.ble s k.bits = true) (hc : nth pwL s = some c)
    (h : AOps P C n ops rest ((d, .int k (k.wrap (m * c))) :: env) H Q) :
    AOps P C n ops ({ dst := some d, op := .binOp .shl tx x (.const (.int j (Int.ofNat s))) ty, type := t, pos := p, after := af, guard := g } :: rest) env H Q := by
  rw [← pw_ok hc] at *
  refine ao_pure hg rfl hdn (fun R ρ w hm hf => ⟨_, ?_, rel_int.2 rfl⟩) h
  have hs := Nat.le_of_ble_eq_true hs
  simp only [execOp, rel_int.1 (hf _ _ hx), rel_int.1 (hf (.const (.int j (Int.ofNat s))) _ rfl), Go.binOp, eqGuard, Op.shift]
  rw [if_neg (show ¬ (Int.ofNat s < 0) by simp only [Int.ofNat_eq_natCast]; omega)]
  simp only [Int.ofNat_eq_natCast, Int.toNat_natCast, Nat.min_eq_left hs]
  have : (m * 2 ^ s : Int) = m * ((2 ^ s : Nat) : Int) := by simp
  rw [this]
  rfl
/-- Comparisons alone. -/
def cmpBin (op : BinOp) (x y : Int) : Option AVal :=
  match op with
  | .eql => some (.bool (eqB x y))
  | .neq => some (.bool (!eqB x y))
  | .lss => some (.bool (ltB x y))
  | .leq => some (.bool (!ltB y x))
  | .gtr => some (.bool (ltB y x))
  | .geq => some (.bool (!ltB x y))
  | _ => none
theorem ao_cmp {op : BinOp} {k : IntKind} {x y : Operand} {tx ty : TypeId} {m q : Int} {av : AVal} (hg : guardA ops env g = some (b, b)) (hdn : Nat.ble (d + 1) n = true)
    (hx : evalA env x = some (.int k m)) (hy : evalA env y = some (.int k q)) (ho : cmpBin op m q = some av)
    (h : AOps P C n ops rest ((d, av) :: env) H Q) : AOps P C n ops ({ dst := some d, op := .binOp op tx x y ty, type := t, pos := p, after := af, guard := g } :: rest) env H Q := by
  refine ao_int hg hdn hx hy ?_ h
  cases op <;> simp only [cmpBin, reduceCtorEq] at ho <;> exact ho
/-- A function whose answer is one value, and which leaves nothing. -/
def FnIs (P : Program) (G : Glo) (f : FuncId) (args : List AVal) (v : AVal) : Prop := FnSpec P G f args [] (fun x H => x = .ret v ∧ H = [])
theorem ao_callv {fv : Operand} {args : List Operand} {ts : Array TypeId} {f : FuncId} {avs : List AVal} {v : AVal}
    (hg : guardA ops env g = some (b, b)) (hdn : Nat.ble (d + 1) n = true) (hfv : evalA env fv = some (.func (.func f) [] [])) (ha : argsA env args = some avs)
    (hs : FnIs P C.G f avs v) (h : AOps P C n ops rest ((d, v) :: env) H Q) :
    AOps P C n ops ({ dst := some d, op := .call { callee := .value fv, args := args.toArray, argTypes := ts }, type := t, pos := p, after := af, guard := g } :: rest) env H Q := by
  refine ao_call (H1 := []) (H2 := H) hg hdn hfv ha (by simpa [FnIs] using hs) rfl ?_ ?_
  · rintro _ _ ⟨e, rfl⟩
    cases e
    exact h
  · rintro _ _ ⟨e, _⟩
    cases e
end
end Go.Proofs.YtlmihggafbmkaaaGreatDoor
