/- Made by program (twin2.py): what an operation's run comes to, said of abstract states. -/
import Derived.Test.YtlmihggafbmkaaaGreatDoorDisp
import Derived.Test.YtlmihggafbmkaaaGreatDoorOwn
namespace Go.Proofs.YtlmihggafbmkaaaGreatDoor
open Go
set_option linter.unusedSimpArgs false
set_option linter.unusedSectionVars false
set_option linter.unusedVariables false
/-- The operation hands back this value, memory as it was. -/
def RunV (P : Program) (C : Ctx) (H : Heap) (env : Env) (op : Op) (av : AVal) : Prop :=
  ∀ (R : Seal) (ρ : Operand → Value) (w : World), MS C R H w → Evals R env ρ → ∀ (dst : Option Nat) (t : TypeId) (p : String) (af : Array Edge) (g : Option (Nat × Bool)),
    ∃ v, (execOp ρ { dst := dst, op := op, type := t, pos := p, after := af, guard := g }).run P w = .ok (.value v) w ∧ Rel R av v
section
variable {P : Program} [Tab P] {C : Ctx} {n : Nat} {env : Env} {H : Heap}
variable {eT : Option TypeId}
variable {av : AVal} {x y : Operand} {T : TypeId} {xT : TI} {tx ty : TypeId}
theorem rv_int {op : BinOp} {k : IntKind} {x y : Operand} {tx ty : TypeId} {m q : Int} 
    (hx : evalA env x = some (.int k m)) (hy : evalA env y = some (.int k q)) (ho : intBin op k m q = some av)
    : RunV P C H env (.binOp op tx x y ty) (av) := by
  intro R ρ w hm hf dst t p af g
  obtain ⟨v, hv, hr⟩ := run_intBin (P := P) (tx := tx) (x := x) (y := y) (w := w) ho
  refine ⟨v, ?_, hr R⟩
  simp only [execOp, rel_int.1 (hf _ _ hx), rel_int.1 (hf _ _ hy)]
  simp only [Sem.run_bind] at hv ⊢
  rw [hv]
  rfl
theorem rv_quo {k : IntKind} {m q : Int} 
    (hx : evalA env x = some (.int k m)) (hy : evalA env y = some (.int k q)) (hm : 0 ≤ m) (hq : 0 < q) (hw : Fits k m)
    : RunV P C H env (.binOp .quo tx x y ty) (.int k (m / q)) := by
  intro R ρ w _hm hf dst t p af g
  refine ⟨_, ?_, rel_int.2 rfl⟩
  have h1 : m.tdiv q = m / q := Int.tdiv_eq_ediv_of_nonneg hm
  have h2 : 0 ≤ m / q := Int.ediv_nonneg hm (by omega)
  have h3 : m / q ≤ m := Int.ediv_le_self q hm
  have hw' : Fits k (m / q) := by cases k <;> simp only [Fits] at hw ⊢ <;> omega
  simp only [execOp, rel_int.1 (hf _ _ hx), rel_int.1 (hf _ _ hy), Go.binOp, eqGuard, Op.intDiv, ne_eq, not_true_eq_false, if_false]
  rw [if_neg (show ¬ q = 0 by omega), h1, wrap_fits hw']
  rfl
theorem rv_rem {k : IntKind} {m q : Int} 
    (hx : evalA env x = some (.int k m)) (hy : evalA env y = some (.int k q)) (hm : 0 ≤ m) (hq : 0 < q)
    : RunV P C H env (.binOp .rem tx x y ty) (.int k (m % q)) := by
  intro R ρ w _hm hf dst t p af g
  refine ⟨_, ?_, rel_int.2 rfl⟩
  simp only [execOp, rel_int.1 (hf _ _ hx), rel_int.1 (hf _ _ hy), Go.binOp, eqGuard, Op.intDiv, ne_eq, not_true_eq_false, if_false]
  rw [if_neg (show ¬ q = 0 by omega), Int.tmod_eq_emod_of_nonneg hm]
  rfl
theorem rv_shl {k j : IntKind} {m c : Int} {s : Nat} 
    (hx : evalA env x = some (.int k m)) (hs : Nat.ble s k.bits = true) (hc : nth pwL s = some c) (hw : Fits k (m * c))
    : RunV P C H env (.binOp .shl tx x (.const (.int j (Int.ofNat s))) ty) (.int k (m * c)) := by
  rw [← pw_ok hc] at *
  intro R ρ w hm hf dst t p af g
  refine ⟨_, ?_, rel_int.2 rfl⟩
  have hs := Nat.le_of_ble_eq_true hs
  simp only [execOp, rel_int.1 (hf _ _ hx), rel_int.1 (hf (.const (.int j (Int.ofNat s))) _ rfl), Go.binOp, eqGuard, Op.shift]
  rw [if_neg (show ¬ (Int.ofNat s < 0) by simp only [Int.ofNat_eq_natCast]; omega)]
  simp only [Int.ofNat_eq_natCast, Int.toNat_natCast, Nat.min_eq_left hs]
  have : (m * 2 ^ s : Int) = m * ((2 ^ s : Nat) : Int) := by simp
  rw [this, wrap_fits hw]
  rfl
theorem rv_shr {k j : IntKind} {m c : Int} {s : Nat} 
    (hx : evalA env x = some (.int k m)) (hs : Nat.ble s k.bits = true) (hc : nth pwL s = some c)
    : RunV P C H env (.binOp .shr tx x (.const (.int j (Int.ofNat s))) ty) (.int k (m / c)) := by
  rw [← pw_ok hc] at *
  intro R ρ w hm hf dst t p af g
  refine ⟨_, ?_, rel_int.2 rfl⟩
  have hs := Nat.le_of_ble_eq_true hs
  simp only [execOp, rel_int.1 (hf _ _ hx), rel_int.1 (hf (.const (.int j (Int.ofNat s))) _ rfl), Go.binOp, eqGuard, Op.shift]
  rw [if_neg (show ¬ (Int.ofNat s < 0) by simp only [Int.ofNat_eq_natCast]; omega)]
  simp only [Int.ofNat_eq_natCast, Int.toNat_natCast, Nat.min_eq_left hs]
  have : (m.fdiv (2 ^ s) : Int) = m / ((2 ^ s : Nat) : Int) := by rw [Int.fdiv_eq_ediv_of_nonneg _ (by simpa using Int.natCast_nonneg (2 ^ s))]; simp
  rw [this]
  rfl
theorem rv_neg {k : IntKind} {m : Int} 
    (hx : evalA env x = some (.int k m)) (hw : Fits k (0 - m))
    : RunV P C H env (.unOp .neg tx x) (.int k (0 - m)) := by
  intro R ρ w hm hf dst t p af g
  refine ⟨_, ?_, rel_int.2 rfl⟩
  simp only [execOp, rel_int.1 (hf _ _ hx), Op.unary, Op.intArith, wrap_fits hw]
  rfl
theorem rv_not {c : Bool}  (hx : evalA env x = some (.bool c))
    : RunV P C H env (.unOp .not tx x) (.bool (!c)) := by
  intro R ρ w hm hf dst t p af g
  refine ⟨_, ?_, rel_bool.2 rfl⟩
  simp only [execOp, rel_bool.1 (hf _ _ hx), Op.unary]
  rfl
theorem rv_beq {c e : Bool}  (hx : evalA env x = some (.bool c)) (hy : evalA env y = some (.bool e))
    (hu : P.underlying tx = some .bool)
    : RunV P C H env (.binOp .eql tx x y ty) (.bool (c == e)) := by
  intro R ρ w hm hf dst t p af g
  refine ⟨_, ?_, rel_bool.2 rfl⟩
  have e1 : (Op.equal tx (.bool c) (.bool e)).run P w = .ok (c == e) w := by
    show (Op.equalIn (9999 + 1) tx (.bool c) (.bool e)).run P w = _
    rw [Op.equalIn]
    simp only [Sem.run_bind, run_underlying hu, Result.andThen_ok]
    rfl
  have e2 : (eqGuard .eql tx x y (.bool c) (.bool e)).run P w = .ok () w := rfl
  simp only [execOp, rel_bool.1 (hf _ _ hx), rel_bool.1 (hf _ _ hy), Go.binOp, Sem.run_bind, e1, e2, Result.andThen_ok, Sem.run_pure]
theorem rv_conv_int [Tab P] {k j : IntKind} {m : Int} {s e : TypeId} {xs xe : TI}  (hx : evalA env x = some (.int k m))
    (h1 : tab P s = some xs) (h2 : tab P e = some xe) (h3 : xe.desc = .int j) (hw : Fits j m)
    : RunV P C H env (.convert s e x) (.int j m) := by
  intro R ρ w hm hf dst t p af g
  refine ⟨_, ?_, rel_int.2 rfl⟩
  simp only [execOp, rel_int.1 (hf _ _ hx), convert, Sem.run_bind, tab_run_und h1, tab_run_und h2, Result.andThen_ok, h3, Conv.intToInt, wrap_fits hw]
  cases xs.desc <;> rfl
theorem rv_conv_wrap [Tab P] {k j : IntKind} {m : Int} {s e : TypeId} {xs xe : TI}  (hx : evalA env x = some (.int k m))
    (h1 : tab P s = some xs) (h2 : tab P e = some xe) (h3 : xe.desc = .int j)
    : RunV P C H env (.convert s e x) (.int j (j.wrap m)) := by
  intro R ρ w hm hf dst t p af g
  refine ⟨_, ?_, rel_int.2 rfl⟩
  simp only [execOp, rel_int.1 (hf _ _ hx), convert, Sem.run_bind, tab_run_und h1, tab_run_und h2, Result.andThen_ok, h3, Conv.intToInt]
  cases xs.desc <;> rfl
theorem rv_str {op : BinOp} {m q : List UInt8} 
    (hx : evalA env x = some (.str m)) (hy : evalA env y = some (.str q)) (ho : strBin op m q = some av)
    : RunV P C H env (.binOp op tx x y ty) (av) := by
  intro R ρ w hm hf dst t p af g
  simp only [execOp, rel_str.1 (hf _ _ hx), rel_str.1 (hf _ _ hy)]
  cases op <;> simp only [strBin, Option.some.injEq] at ho <;>
    first
      | (cases ho; done)
      | (subst ho; refine ⟨.bool _, ?_, rel_bool.2 rfl⟩; simp only [Go.binOp, eqGuard, Op.stringOp, ByteArray.toList_mk, seqB_def, sltB_def]; rfl)
theorem rv_cat {m q : List UInt8} 
    (hx : evalA env x = some (.str m)) (hy : evalA env y = some (.str q)) (hw : m.length + q.length ≤ 9223372036854775807)
    : RunV P C H env (.binOp .add tx x y ty) (.str (m ++ q)) := by
  intro R ρ w hm hf dst t p af g
  refine ⟨_, ?_, rel_str.2 rfl⟩
  simp only [execOp, rel_str.1 (hf _ _ hx), rel_str.1 (hf _ _ hy), Go.binOp, eqGuard, Op.stringOp, str_append, str_size]
  have hmx : IntKind.i64.max = 9223372036854775807 := by decide
  rw [if_neg (show ¬ ((m.length + q.length : Nat) : Int) > IntKind.i64.max by rw [hmx]; omega)]
  rfl
theorem rv_len_str [Tab P] {m : List UInt8} {T : TypeId} {xT : TI}  (hx : evalA env x = some (.str m))
    (h1 : tab P T = some xT) (h2 : xT.desc = .string)
    : RunV P C H env (.call { callee := .builtin .len, args := [x].toArray, argTypes := [T].toArray }) (.int .i64 (m.length : Int)) := by
  intro R ρ w hm hf dst t p af g
  refine ⟨_, ?_, rel_int.2 rfl⟩
  simp only [execOp, resolve, Sem.run_bind, Sem.run_pure, Result.andThen_ok, invoke, builtin, Builtin.len_, List.map_toArray, List.map_cons, List.map_nil, rel_str.1 (hf _ _ hx)]
  simp only [List.getElem?_toArray, List.getElem?_cons_zero, Sem.run_bind, tab_run_und h1, h2, Result.andThen_ok, Sem.run_pure, goInt, str_size]
theorem rv_index_str [Tab P] {m : List UInt8} {k : IntKind} {i : Int} {T : TypeId} {xT : TI}  (hx : evalA env x = some (.str m)) (hy : evalA env y = some (.int k i))
    (h1 : tab P T = some xT) (h2 : xT.desc = .string) (hi0 : 0 ≤ i) (hi : i < m.length)
    : RunV P C H env (.index T x y) (.int .u8 (byteAt m i.toNat : Int)) := by
  intro R ρ w hm hf dst t p af g
  refine ⟨_, ?_, rel_int.2 rfl⟩
  have hlt : i.toNat < m.length := by omega
  have e : (⟨m.toArray⟩ : ByteArray)[i.toNat]? = some m[i.toNat] := str_get m i.toNat hlt
  simp only [execOp, rel_str.1 (hf _ _ hx), rel_int.1 (hf _ _ hy), Instr.index, asIntOf, Sem.run_bind, Sem.run_pure, Result.andThen_ok, tab_run_und h1, h2, if_pos hi0, e]
  simp [hlt, byteAt]
theorem rv_slice_str [Tab P] {m : List UInt8} {lo hi : Option Operand} {i j : Int} {T : TypeId} {xT : TI}  (hx : evalA env x = some (.str m))
    (h1 : tab P T = some xT) (h2 : xT.desc = .string) (hlo : boundA env 0 lo = some i) (hhi : boundA env (m.length : Int) hi = some j) (h0 : 0 ≤ i) (hij : i ≤ j) (hj : j ≤ m.length)
    : RunV P C H env (.slice T x lo hi none) (.str ((m.take j.toNat).drop i.toNat)) := by
  intro R ρ w hm hf dst t p af g
  refine ⟨_, ?_, rel_str.2 rfl⟩
  have hb := bounds_run (P := P) (isS := false) (len := m.length) (cap := m.length) hf hlo hhi h0 hij hj (Nat.le_refl _) w
  simp only [execOp, rel_str.1 (hf _ _ hx), Instr.sliceAt, Instr.slice, Sem.run_bind, Sem.run_pure, Result.andThen_ok, tab_run_und h1, h2, str_size, Option.map_none, Option.isSome_none, Bool.false_eq_true, if_false, hb, str_extract]
theorem rv_extract {cs : List AVal} {i : Nat}  (hx : evalA env x = some (.tuple cs)) (hi : cs[i]? = some av)
    : RunV P C H env (.extract x i) (av) := by
  intro R ρ w hm hf dst t p af g
  obtain ⟨ws, e, hr⟩ := rel_one (hf _ _ hx) rfl
  simp only [List.cons.injEq, and_true] at e
  have key : ∀ {cs : List AVal} {vs : List Value} {i : Nat}, RelV R cs vs → cs[i]? = some av → ∃ v, vs[i]? = some v ∧ Rel R av v := by
    intro cs
    induction cs with
    | nil => intro vs i _ hi; simp at hi
    | cons c cs ih =>
      intro vs i hr hi
      obtain ⟨v, t, rfl, hv, hr⟩ := hr
      cases i with
      | zero => simp only [List.getElem?_cons_zero, Option.some.injEq] at hi; subst hi; exact ⟨v, rfl, hv⟩
      | succ i => exact ih (vs := t) (i := i) hr (by simpa using hi)
  obtain ⟨v, hv, hrv⟩ := key hr hi
  refine ⟨v, ?_, hrv⟩
  simp only [execOp, e, Instr.extract]
  have : ws[i]? = some v := by simpa using hv
  simp only [this]
  rfl
theorem rv_index_list {e : TypeId} {xe : TI} {sz m : Nat} {f : Nat → AVal} {k : IntKind} {i : Int} 
    (hx : evalA env x = some (.list sz m f)) (hy : evalA env y = some (.int k i)) (h1 : tab P T = some xT) (h2 : xT.desc = .slice e) (h3 : tab P e = some xe) (h4 : xe.size = sz)
    (hi0 : 0 ≤ i) (hi : i < m) (hp : (f i.toNat).plain = true)
    : RunV P C H env (.indexAddr T x y) (.rop (f i.toNat).cells 0) := by
  intro R ρ w hm hf dst t p af g
  obtain ⟨a, cap, e1, _, h5⟩ := rel_one (hf _ _ hx) rfl
  simp only [List.cons.injEq, and_true] at e1
  rcases h5 with h5 | ⟨bl, o, Cs, el, fz, rfl, hR, hall⟩
  · omega
  have hr := hall i.toNat (by omega)
  have hl := relC_cells hr hp
  have hlen := relL_length hl
  refine ⟨.pointer (some ⟨bl, o + i.toNat * sz, none⟩), ?_, relC_rop (Nat.zero_le _) ⟨Cs, el, fz, hR, ?_⟩⟩
  · simp only [execOp, e1, rel_int.1 (hf _ _ hy), Instr.indexAt, asIntOf, Sem.run_bind, Sem.run_pure, Result.andThen_ok, tab_run_und h1, h2]
    rw [if_pos (show 0 ≤ i ∧ i < (m : Int) from ⟨hi0, hi⟩)]
    simp only [Sem.run_bind, tab_run_size h3, h4, Result.andThen_ok, Sem.run_pure, Addr.add]
    by_cases h0 : i.toNat * sz = 0
    · simp [h0]
    · simp [h0]
  · rw [Nat.sub_zero, take_same hlen]; exact hl
theorem rv_load_rop {cs : List AVal} {off : Nat} 
    (hx : evalA env x = some (.rop cs off)) (h1 : tab P T = some xT) (h2 : descAgg xT.desc = false) (hc : cs[off]? = some av) (ha : av.isAgg = false)
    : RunV P C H env (.load T x) (av) := by
  intro R ρ w hm hf dst t p af g
  obtain ⟨bl, o, e1, ho, hs⟩ := rop_inv (hf _ _ hx)
  obtain ⟨v, hv, hr⟩ := hs.cell hm.sealed hc
  rw [Nat.sub_add_cancel ho] at hv
  refine ⟨v, ?_, relC_rel hr ha⟩
  simp only [execOp, e1, Instr.loadAt, Instr.sureAddr, Sem.run_bind, Sem.run_pure, Result.andThen_ok, load_scalar h1 h2 hv]
theorem rv_load_rop_agg {cs : List AVal} {off : Nat} 
    (hx : evalA env x = some (.rop cs off)) (h1 : tab P T = some xT) (h2 : descAgg xT.desc = true) (hc : off + xT.size ≤ cs.length)
    : RunV P C H env (.load T x) (.agg ((cs.drop off).take xT.size)) := by
  intro R ρ w hm hf dst t p af g
  obtain ⟨bl, o, e1, ho, Cs, el, fz, hR, hl⟩ := rop_inv (hf _ _ hx)
  have hlen := relL_length hl
  simp only [List.length_take, List.length_drop, Array.length_toList] at hlen
  refine ⟨.agg ((Cs.toList.drop o).take xT.size).toArray, ?_, ?_, rfl⟩
  · simp only [execOp, e1, Instr.loadAt, Instr.sureAddr, Sem.run_bind, Sem.run_pure, Result.andThen_ok]
    by_cases hz : xT.size = 0
    · simp only [loadVar, Sem.run_bind, tab_run_agg h1, h2, if_true, tab_run_size h1, loadCells, hz, loadCellsFrom, Result.andThen_ok]
      simp
    · rw [load_agg h1 h2 (hm.sealed _ _ hR) (by omega)]
      simp
  · have := relL_take xT.size (relL_drop off hl)
    simp only [Value.cells, RelC]
    rw [List.drop_take, List.drop_drop, Nat.sub_add_cancel ho, List.take_take] at this
    rw [Nat.min_eq_left (by omega)] at this
    simpa using this
theorem rv_fieldAddr_rop {cs : List AVal} {off k : Nat} {fs : Array Field} {f : Field} {xf : TI} 
    (hx : evalA env x = some (.rop cs off)) (h1 : tab P T = some xT) (h2 : xT.desc = .struct fs) (h3 : fs[k]? = some f) (h4 : tab P f.type = some xf) (h5 : Nat.ble 1 xf.size = true)
    : RunV P C H env (.fieldAddr T x k) (.rop cs (off + f.offset)) := by
  intro R ρ w hm hf dst t p af g
  have h5 := Nat.le_of_ble_eq_true h5
  obtain ⟨bl, o, e1, ho, hs⟩ := rop_inv (hf _ _ hx)
  refine ⟨.pointer (some ⟨bl, o + f.offset, none⟩), ?_, relC_rop (by omega) (by rw [Nat.add_sub_add_right]; exact hs)⟩
  simp only [execOp, e1, Instr.fieldAt, Sem.run_bind, tab_run_und h1, h2, Result.andThen_ok, h3, Instr.sureAddr, Sem.run_pure, fieldPlace, tab_run_size h4]
  rw [if_neg (by omega)]
  simp only [Addr.add]
  by_cases h0 : f.offset = 0
  · simp [h0]
  · simp [h0]
theorem rv_nilCheck_rop {cs : List AVal} {off : Nat}  (hx : evalA env x = some (.rop cs off))
    : RunV P C H env (.nilCheck x) (.rop cs off) := by
  intro R ρ w hm hf dst t p af g
  have hr := hf _ _ hx
  obtain ⟨bl, o, e1, ho, hs⟩ := rop_inv hr
  rw [e1] at hr
  exact ⟨_, by simp only [execOp, e1]; rfl, hr⟩
theorem rv_indexAddr_glob {gl len : Nat} {e : TypeId} {xe : TI} {cs : List AVal} {k : IntKind} {i : Int} (hG : GloAt C.G gl cs) 
    (hy : evalA env y = some (.int k i)) (h1 : tab P T = some xT) (h2 : xT.desc = .array len e) (h3 : tab P e = some xe)
    (hi0 : 0 ≤ i) (hi : i < len)
    : RunV P C H env (.indexAddr T (.global gl) y) (.rop cs (i.toNat * xe.size)) := by
  intro R ρ w hm hf dst t p af g
  have hr := rel_raw.1 (hf (.global gl) _ rfl)
  refine ⟨.pointer (some ⟨gl, i.toNat * xe.size, none⟩), ?_, relC_rop (Nat.le_refl _) (by rw [Nat.sub_self]; exact hG R hm.glo)⟩
  simp only [execOp, hr, rel_int.1 (hf _ _ hy), Instr.indexAt, asIntOf, Sem.run_bind, Sem.run_pure, Result.andThen_ok, tab_run_und h1, h2, Instr.sureAddr]
  rw [if_pos (show 0 ≤ i ∧ i < (len : Int) from ⟨hi0, hi⟩)]
  simp only [Sem.run_bind, tab_run_size h3, Result.andThen_ok, Sem.run_pure, Addr.add]
  by_cases h0 : i.toNat * xe.size = 0
  · simp [h0]
  · simp [h0]
theorem rv_load_glob {gl : Nat} {cs : List AVal} (hG : GloAt C.G gl cs) 
    (h1 : tab P T = some xT) (h2 : descAgg xT.desc = false) (hc : cs[0]? = some av) (ha : av.isAgg = false)
    : RunV P C H env (.load T (.global gl)) (av) := by
  intro R ρ w hm hf dst t p af g
  have hr := rel_raw.1 (hf (.global gl) _ rfl)
  obtain ⟨v, hv, hrv⟩ := (hG R hm.glo).cell hm.sealed hc
  refine ⟨v, ?_, relC_rel hrv ha⟩
  simp only [execOp, hr, Instr.loadAt, Instr.sureAddr, Sem.run_bind, Sem.run_pure, Result.andThen_ok, load_scalar h1 h2 hv]
theorem rv_load_own {i bl o : Nat} {cs : List AVal} 
    (hx : evalA env x = some (.raw (.pointer (some ⟨bl, o, none⟩)))) (hi : H[i]? = some (.cells bl eT cs)) (h1 : tab P T = some xT) (h2 : descAgg xT.desc = false) (hc : cs[o]? = some av) (ha : av.isAgg = false)
    : RunV P C H env (.load T x) (av) := by
  intro R ρ w hm hf dst t p af g
  obtain ⟨Cs, el, fz, hb, hl, _⟩ := own_cells hm hi
  obtain ⟨v, hv, hr⟩ := relL_get hl hc
  refine ⟨v, ?_, relC_rel hr ha⟩
  have hcell : w.cell? ⟨bl, o, none⟩ = some v := by simp only [World.cell?, hb]; simpa using hv
  simp only [execOp, rel_raw.1 (hf _ _ hx), Instr.loadAt, Instr.sureAddr, Sem.run_bind, Sem.run_pure, Result.andThen_ok, load_scalar h1 h2 hcell]
theorem rv_load_own_agg {i bl o : Nat} {cs : List AVal} 
    (hx : evalA env x = some (.raw (.pointer (some ⟨bl, o, none⟩)))) (hi : H[i]? = some (.cells bl eT cs)) (h1 : tab P T = some xT) (h2 : descAgg xT.desc = true) (hc : o + xT.size ≤ cs.length)
    : RunV P C H env (.load T x) (.agg ((cs.drop o).take xT.size)) := by
  intro R ρ w hm hf dst t p af g
  obtain ⟨Cs, el, fz, hb, hl, _⟩ := own_cells hm hi
  have hlen := relL_length hl
  simp only [Array.length_toList] at hlen
  refine ⟨.agg ((Cs.toList.drop o).take xT.size).toArray, ?_, ?_, rfl⟩
  · simp only [execOp, rel_raw.1 (hf _ _ hx), Instr.loadAt, Instr.sureAddr, Sem.run_bind, Sem.run_pure, Result.andThen_ok, load_agg h1 h2 hb (show o + xT.size ≤ Cs.size by omega)]
  · simpa [Value.cells, RelC] using relL_take xT.size (relL_drop o hl)
/-- A row's address. -/
def RowAt (v : Value) (b n : Nat) : Prop := ∃ cap, v = .slice (some ⟨b, 0, none⟩) n cap
theorem row_cells {R : Seal} {w : World} {i bl n0 sz : Nat} {v : Value} {cs : List AVal} (hm : MS C R H w) (hi : H[i]? = some (.row v eT sz n0 cs)) (hr : RowAt v bl n0) (h0 : 0 < n0) :
    cs.length = n0 * sz ∧ ∃ cap Cs e fz, v = .slice (some ⟨bl, 0, none⟩) n0 cap ∧ w.heap[bl]? = some (.cells Cs e fz) ∧ Cs.size = cap * sz ∧ n0 ≤ cap ∧ RelL R cs (Cs.toList.take (n0 * sz)) ∧ Loose fz Cs.size ∧ ∀ t, eT = some t → e = t := by
  obtain ⟨hlen, hx⟩ := hm.heap.holds _ (List.mem_of_getElem? hi)
  obtain ⟨cap0, rfl⟩ := hr
  refine ⟨hlen, ?_⟩
  rcases hx with ⟨h, hn⟩ | ⟨b', cap, Cs, e, fz, h, r⟩
  · omega
  · cases h
    exact ⟨_, Cs, e, fz, rfl, r⟩
theorem rv_load_row {i bl o n0 sz : Nat} {v : Value} {cs : List AVal} 
    (hx : evalA env x = some (.raw (.pointer (some ⟨bl, o, none⟩)))) (hi : H[i]? = some (.row v eT sz n0 cs)) (hr : RowAt v bl n0) (ho : o < n0 * sz) (h1 : tab P T = some xT) (h2 : descAgg xT.desc = false) (hc : cs[o]? = some av) (ha : av.isAgg = false)
    : RunV P C H env (.load T x) (av) := by
  intro R ρ w hm hf dst t p af g
  obtain ⟨hlen, cap, Cs, el, fz, _, hb, _, _, hl, _⟩ := row_cells hm hi hr (by rcases Nat.eq_zero_or_pos n0 with h | h; subst h; simp at ho; exact h)
  obtain ⟨u, hv, hr⟩ := relL_get hl hc
  refine ⟨u, ?_, relC_rel hr ha⟩
  rw [List.getElem?_take_of_lt ho] at hv
  have hcell : w.cell? ⟨bl, o, none⟩ = some u := by simp only [World.cell?, hb]; simpa using hv
  simp only [execOp, rel_raw.1 (hf _ _ hx), Instr.loadAt, Instr.sureAddr, Sem.run_bind, Sem.run_pure, Result.andThen_ok, load_scalar h1 h2 hcell]
theorem rv_load_row_agg {i bl o n0 sz : Nat} {v : Value} {cs c : List AVal} 
    (hx : evalA env x = some (.raw (.pointer (some ⟨bl, o, none⟩)))) (hi : H[i]? = some (.row v eT sz n0 cs)) (hr : RowAt v bl n0) (ho : o + xT.size ≤ n0 * sz) (h0 : 0 < n0) (h1 : tab P T = some xT) (h2 : descAgg xT.desc = true) (hc : (cs.drop o).take xT.size = c)
    : RunV P C H env (.load T x) (.agg c) := by
  subst hc
  intro R ρ w hm hf dst t p af g
  obtain ⟨hlen, cap, Cs, el, fz, _, hb, hsz, hnc, hl, _⟩ := row_cells hm hi hr h0
  have hmul : n0 * sz ≤ cap * sz := Nat.mul_le_mul_right _ hnc
  refine ⟨.agg ((Cs.toList.drop o).take xT.size).toArray, ?_, ?_, rfl⟩
  · simp only [execOp, rel_raw.1 (hf _ _ hx), Instr.loadAt, Instr.sureAddr, Sem.run_bind, Sem.run_pure, Result.andThen_ok, load_agg h1 h2 hb (show o + xT.size ≤ Cs.size by omega)]
  · have := relL_take xT.size (relL_drop o hl)
    rw [List.drop_take, List.take_take, Nat.min_eq_left (by omega)] at this
    simpa [Value.cells, RelC] using this
theorem rv_fieldAddr_raw {bl o k : Nat} {fs : Array Field} {f : Field} {xf : TI} 
    (hx : evalA env x = some (.raw (.pointer (some ⟨bl, o, none⟩)))) (h1 : tab P T = some xT) (h2 : xT.desc = .struct fs) (h3 : fs[k]? = some f) (h4 : tab P f.type = some xf) (h5 : Nat.ble 1 xf.size = true)
    : RunV P C H env (.fieldAddr T x k) (.raw (.pointer (some ⟨bl, o + f.offset, none⟩))) := by
  intro R ρ w hm hf dst t p af g
  refine ⟨_, ?_, rel_raw.2 rfl⟩
  have h5 := Nat.le_of_ble_eq_true h5
  simp only [execOp, rel_raw.1 (hf _ _ hx), Instr.fieldAt, Sem.run_bind, tab_run_und h1, h2, Result.andThen_ok, h3, Instr.sureAddr, Sem.run_pure, fieldPlace, tab_run_size h4]
  rw [if_neg (by omega)]
  simp only [Addr.add]
  by_cases h0 : f.offset = 0
  · simp [h0]
  · simp [h0]
theorem rv_indexAddr_raw {bl o len : Nat} {e : TypeId} {xe : TI} {k : IntKind} {i : Int} 
    (hx : evalA env x = some (.raw (.pointer (some ⟨bl, o, none⟩)))) (hy : evalA env y = some (.int k i)) (h1 : tab P T = some xT) (h2 : xT.desc = .array len e) (h3 : tab P e = some xe)
    (hi0 : 0 ≤ i) (hi : i < len)
    : RunV P C H env (.indexAddr T x y) (.raw (.pointer (some ⟨bl, o + i.toNat * xe.size, none⟩))) := by
  intro R ρ w hm hf dst t p af g
  refine ⟨_, ?_, rel_raw.2 rfl⟩
  simp only [execOp, rel_raw.1 (hf _ _ hx), rel_int.1 (hf _ _ hy), Instr.indexAt, asIntOf, Sem.run_bind, Sem.run_pure, Result.andThen_ok, tab_run_und h1, h2, Instr.sureAddr]
  rw [if_pos (show 0 ≤ i ∧ i < (len : Int) from ⟨hi0, hi⟩)]
  simp only [Sem.run_bind, tab_run_size h3, Result.andThen_ok, Sem.run_pure, Addr.add]
  by_cases h0 : i.toNat * xe.size = 0
  · simp [h0]
  · simp [h0]
theorem rv_nilCheck_raw {a : Addr}  (hx : evalA env x = some (.raw (.pointer (some a))))
    : RunV P C H env (.nilCheck x) (.raw (.pointer (some a))) := by
  intro R ρ w hm hf dst t p af g
  refine ⟨_, ?_, rel_raw.2 rfl⟩
  simp only [execOp, rel_raw.1 (hf _ _ hx)]
  rfl
theorem rv_field {cs : List AVal} {k : Nat} {fs : Array Field} {f : Field} {xf : TI} 
    (hx : evalA env x = some (.agg cs)) (h1 : tab P T = some xT) (h2 : xT.desc = .struct fs) (h3 : fs[k]? = some f) (h4 : tab P f.type = some xf) (h5 : descAgg xf.desc = false)
    (hc : cs[f.offset]? = some av) (ha : av.isAgg = false)
    : RunV P C H env (.field T x k) (av) := by
  intro R ρ w hm hf dst t p af g
  have hr := hf _ _ hx
  obtain ⟨vs, hvs⟩ : ∃ vs, ρ x = .agg vs := by
    have := hr.2
    cases hv : ρ x <;> rw [hv] at this <;> simp [AVal.isAgg, vAgg] at this
    exact ⟨_, rfl⟩
  rw [hvs] at hr
  obtain ⟨v, hv, hrv⟩ := relL_get (R := R) (cs := cs) (vs := vs.toList) hr.1 hc
  refine ⟨v, ?_, relC_rel hrv ha⟩
  have hv' : vs[f.offset]? = some v := by simpa using hv
  simp only [execOp, hvs, Instr.field, Sem.run_bind, tab_run_und h1, h2, Result.andThen_ok, h3, asAgg, Sem.run_pure, part, tab_run_agg h4, h5, Bool.false_eq_true, if_false, hv']
theorem rv_field_agg {cs : List AVal} {k : Nat} {fs : Array Field} {f : Field} {xf : TI} 
    (hx : evalA env x = some (.agg cs)) (h1 : tab P T = some xT) (h2 : xT.desc = .struct fs) (h3 : fs[k]? = some f) (h4 : tab P f.type = some xf) (h5 : descAgg xf.desc = true)
    : RunV P C H env (.field T x k) (.agg ((cs.drop f.offset).take xf.size)) := by
  intro R ρ w hm hf dst t p af g
  have hr := hf _ _ hx
  obtain ⟨vs, hvs⟩ : ∃ vs, ρ x = .agg vs := by
    have := hr.2
    cases hv : ρ x <;> rw [hv] at this <;> simp [AVal.isAgg, vAgg] at this
    exact ⟨_, rfl⟩
  rw [hvs] at hr
  refine ⟨.agg (vs.extract f.offset (f.offset + xf.size)), ?_, ?_, rfl⟩
  · simp only [execOp, hvs, Instr.field, Sem.run_bind, tab_run_und h1, h2, Result.andThen_ok, h3, asAgg, Sem.run_pure, part, tab_run_agg h4, h5, if_true, tab_run_size h4]
  · have := relL_take xf.size (relL_drop f.offset (vs := vs.toList) hr.1)
    simp only [Value.cells, RelC]
    rw [Array.toList_extract]
    simpa [List.extract_eq_take_drop] using this
theorem rv_build {l : List (Nat × Operand)} {ps : List (Nat × AVal)} {fs : List Field} {pl : List (Nat × Nat)} {z cs : List AVal} 
    (hl : partsA env l = some ps) (h1 : tab P T = some xT) (h2 : xT.desc = .struct fs.toArray) (h3 : placesA P fs = some pl) (h4 : zeroCellsA xT.zero = some z) (h5 : fillA pl z ps = some cs)
    : RunV P C H env (.build T l.toArray) (.agg cs) := by
  intro R ρ w hm hf dst t p af g
  obtain ⟨v, hv, hr⟩ := zeroCellsA_rel (R := R) h4
  obtain ⟨Cs, hC, hrC⟩ := fillA_run (place := (pl.toArray[·]?)) (fun i x hi => by simpa using hi) (partsA_rel hf hl) hr h5
  refine ⟨.agg Cs, ?_, hrC, rfl⟩
  have hmap : (l.toArray.map fun x => (x.1, ρ x.2)).toList = l.map fun x => (x.1, ρ x.2) := by simp
  simp only [execOp, Instr.build, Sem.run_bind, tab_run_zero h1 hv, Result.andThen_ok, tab_run_und h1, h2, Array.mapM_eq_mapM_toList, Sem.run_map, placesA_run h3]
  rw [show (Array.map (fun x : Nat × Operand => match x with | (i, x) => (i, ρ x)) l.toArray).toList = l.map fun x => (x.1, ρ x.2) from hmap, hC]
  rfl
/-- The places of an array's elements. -/
def arrPl : Nat → Nat → Nat → List (Nat × Nat)
  | 0, _, _ => []
  | m + 1, i, sz => (i * sz, sz) :: arrPl m (i + 1) sz
theorem arrPl_at : ∀ {m i sz k : Nat} {x : Nat × Nat}, (arrPl m i sz)[k]? = some x → x = ((i + k) * sz, sz)
  | 0, _, _, _, _, h => by simp [arrPl] at h
  | m + 1, i, sz, 0, x, h => by simpa [arrPl] using h.symm
  | m + 1, i, sz, k + 1, x, h => by
    have := arrPl_at (m := m) (i := i + 1) (sz := sz) (k := k) (by simpa [arrPl] using h)
    rw [this, show i + 1 + k = i + (k + 1) by omega]
theorem rv_build_arr {l : List (Nat × Operand)} {ps : List (Nat × AVal)} {m e : Nat} {xe : TI} {z cs : List AVal} 
    (hl : partsA env l = some ps) (h1 : tab P T = some xT) (h2 : xT.desc = .array m e) (h3 : tab P e = some xe) (h4 : zeroCellsA xT.zero = some z) (h5 : fillA (arrPl m 0 xe.size) z ps = some cs)
    : RunV P C H env (.build T l.toArray) (.agg cs) := by
  intro R ρ w hm hf dst t p af g
  obtain ⟨v, hv, hr⟩ := zeroCellsA_rel (R := R) h4
  obtain ⟨Cs, hC, hrC⟩ := fillA_run (place := fun i => some (i * xe.size, xe.size)) (fun i x hi => by rw [arrPl_at hi, Nat.zero_add]) (partsA_rel hf hl) hr h5
  refine ⟨.agg Cs, ?_, hrC, rfl⟩
  have hmap : (l.toArray.map fun x => (x.1, ρ x.2)).toList = l.map fun x => (x.1, ρ x.2) := by simp
  simp only [execOp, Instr.build, Sem.run_bind, tab_run_zero h1 hv, Result.andThen_ok, tab_run_und h1, h2, tab_run_size h3]
  rw [show (Array.map (fun x : Nat × Operand => match x with | (i, x) => (i, ρ x)) l.toArray).toList = l.map fun x => (x.1, ρ x.2) from hmap, hC]
  rfl
theorem rv_str_own {s : List UInt8} {i bl cap : Nat} {cs : List AVal} {S e : TypeId} {xS xe : TI} 
    (hx : evalA env x = some (.raw (.slice (some ⟨bl, 0, none⟩) s.length cap))) (hi : H[i]? = some (.cells bl eT cs)) (hc : cs.take s.length = s.map byteA)
    (h1 : tab P S = some xS) (h2 : xS.desc = .slice e) (h5 : tab P e = some xe) (h6 : xe.desc = .int .u8) (h3 : tab P T = some xT) (h4 : xT.desc = .string)
    : RunV P C H env (.convert S T x) (.str s) := by
  intro R ρ w hm hf dst t p af g
  refine ⟨_, ?_, rel_str.2 rfl⟩
  obtain ⟨Cs, el, fz, hb, hl, _⟩ := own_cells hm hi
  have hl' := relL_take s.length hl
  rw [hc] at hl'
  simp only [execOp, rel_raw.1 (hf _ _ hx), Sem.run_bind, bytes_back h1 h2 h5 h6 h3 h4 (bytes_cell (o := 0) hb (by simpa using hl')), Result.andThen_ok, Sem.run_pure]
theorem rv_str_row {s : List UInt8} {i m : Nat} {v : Value} {cs : List AVal} {S e : TypeId} {xS xe : TI} 
    (hx : evalA env x = some (.raw v)) (hi : H[i]? = some (.row v eT 1 m cs)) (hc : cs = s.map byteA)
    (h1 : tab P S = some xS) (h2 : xS.desc = .slice e) (h5 : tab P e = some xe) (h6 : xe.desc = .int .u8) (h3 : tab P T = some xT) (h4 : xT.desc = .string)
    : RunV P C H env (.convert S T x) (.str s) := by
  intro R ρ w hm hf dst t p af g
  refine ⟨_, ?_, rel_str.2 rfl⟩
  obtain ⟨hlen, hx'⟩ := hm.heap.holds _ (List.mem_of_getElem? hi)
  have hm' : m = s.length := by rw [hc] at hlen; simpa using hlen.symm
  subst hm'
  rcases hx' with ⟨rfl, h0⟩ | ⟨bl, cap, Cs, el, fz, rfl, hb, hcs, hnc, hl, hfz⟩
  · have : s = [] := List.eq_nil_of_length_eq_zero h0
    subst this
    simp only [execOp, rel_raw.1 (hf _ _ hx), Sem.run_bind]
    rw [run_convert_bytes_string w S T e none 0 0 (by rw [tab_und h1, h2]) (by rw [tab_und h5, h6]) (by rw [tab_und h3, h4])]
    rfl
  · rw [hc] at hl
    simp only [execOp, rel_raw.1 (hf _ _ hx), Sem.run_bind, bytes_back h1 h2 h5 h6 h3 h4 (bytes_cell (o := 0) hb (by simpa using hl)), Result.andThen_ok, Sem.run_pure]
theorem rv_str_list {m : Nat} (s : List UInt8) {f : Nat → AVal} {S e : TypeId} {xS xe : TI} 
    (hx : evalA env x = some (.list 1 m f)) (hl : s.length = m) (hc : ∀ i, i < s.length → f i = byteA (s.getD i 0))
    (h1 : tab P S = some xS) (h2 : xS.desc = .slice e) (h5 : tab P e = some xe) (h6 : xe.desc = .int .u8) (h3 : tab P T = some xT) (h4 : xT.desc = .string)
    : RunV P C H env (.convert S T x) (.str s) := by
  subst hl
  intro R ρ w hm hf dst t p af g
  refine ⟨_, ?_, rel_str.2 rfl⟩
  obtain ⟨a, cap, e1, _, h7⟩ := rel_one (hf _ _ hx) rfl
  simp only [List.cons.injEq, and_true] at e1
  rcases h7 with h7 | ⟨bl, o, Cs, el, fz, rfl, hR, hall⟩
  · have : s = [] := List.eq_nil_of_length_eq_zero h7
    subst this
    simp only [execOp, e1, Sem.run_bind, List.length_nil]
    rw [run_convert_bytes_string w S T e a 0 cap (by rw [tab_und h1, h2]) (by rw [tab_und h5, h6]) (by rw [tab_und h3, h4])]
    cases a with
    | none => rfl
    | some a => simp [Conv.bytesToString, loadCells, loadCellsFrom]; rfl
  · have hcell : ∀ j (hj : j < s.length), w.cell? ((⟨bl, o, none⟩ : Addr).add j) = some (.int .u8 (s[j].toNat : Int)) := by
      intro j hj
      have hr := hall j hj
      rw [hc j hj] at hr
      simp only [byteA, RelC, Nat.mul_one] at hr
      rw [add_off]
      simp only [World.cell?, hm.sealed _ _ hR]
      have : (List.take 1 (List.drop (o + j) Cs.toList))[0]? = some (Value.int .u8 ((s.getD j 0).toNat : Int)) := by rw [hr]; rfl
      rw [List.getElem?_take_of_lt (by omega), List.getElem?_drop] at this
      simpa [List.getElem?_eq_getElem hj] using this
    simp only [execOp, e1, Sem.run_bind, bytes_back h1 h2 h5 h6 h3 h4 hcell, Result.andThen_ok, Sem.run_pure]
theorem rv_makeIface {v : AVal}  (hx : evalA env x = some v) (h1 : tab P T = some xT) (h2 : descIface xT.desc = false)
    : RunV P C H env (.makeInterface T x) (.iface T v) := by
  intro R ρ w hm hf dst t p af g
  refine ⟨.iface T (ρ x), ?_, rel_iface (hf _ _ hx)⟩
  simp only [execOp, Instr.makeInterface, Sem.run_bind, tab_run_und h1, Result.andThen_ok]
  cases hd : xT.desc <;> first | rfl | (rw [hd] at h2; simp [descIface] at h2)
theorem rv_assert_hit {v : AVal} {S : TypeId} {ty : TypeId}  (hx : evalA env x = some (.iface ty v)) (h1 : tab P T = some xT) (h2 : descIface xT.desc = false) (he : ty = T)
    : RunV P C H env (.typeAssert x S T true) (.tuple [v, .bool true]) := by
  subst he
  intro R ρ w hm hf dst t p af g
  obtain ⟨u, e, h3, h4⟩ := rel_one (hf _ _ hx) rfl
  simp only [List.cons.injEq, and_true] at e
  refine ⟨.tuple #[u, .bool true], ?_, ⟨⟨_, rfl, _, _, rfl, ⟨h3, h4⟩, _, _, rfl, ⟨rfl, rfl⟩, rfl⟩, rfl⟩⟩
  simp only [execOp, e, Instr.typeAssert, Sem.run_bind, tab_run_und h1, Result.andThen_ok]
  cases hd : xT.desc <;> first | (simp; done) | (rw [hd] at h2; simp [descIface] at h2)
theorem rv_assert_miss {v z : AVal} {S : TypeId} {ty : TypeId}  (hx : evalA env x = some (.iface ty v)) (h1 : tab P T = some xT) (h2 : descIface xT.desc = false) (he : Nat.beq ty T = false)
    (hz : zeroA xT.zero = some z)
    : RunV P C H env (.typeAssert x S T true) (.tuple [z, .bool false]) := by
  have he : ty ≠ T := by rintro rfl; rw [Nat.beq_refl] at he; cases he
  intro R ρ w hm hf dst t p af g
  obtain ⟨u, e, h3, h4⟩ := rel_one (hf _ _ hx) rfl
  simp only [List.cons.injEq, and_true] at e
  obtain ⟨zv, hzv, hzr⟩ := zeroA_rel (R := R) hz
  refine ⟨.tuple #[zv, .bool false], ?_, ⟨⟨_, rfl, _, _, rfl, hzr, _, _, rfl, ⟨rfl, rfl⟩, rfl⟩, rfl⟩⟩
  simp only [execOp, e, Instr.typeAssert, Sem.run_bind, tab_run_und h1, Result.andThen_ok]
  cases hd : xT.desc <;> first | (simp [he, tab_run_zero h1 hzv]; done) | (rw [hd] at h2; simp [descIface] at h2)
theorem rv_assert_nil {z : AVal} {S : TypeId}  (hx : evalA env x = some (.raw .nilIface)) (h1 : tab P T = some xT)
    (hz : zeroA xT.zero = some z)
    : RunV P C H env (.typeAssert x S T true) (.tuple [z, .bool false]) := by
  intro R ρ w hm hf dst t p af g
  obtain ⟨zv, hzv, hzr⟩ := zeroA_rel (R := R) hz
  refine ⟨.tuple #[zv, .bool false], ?_, ⟨⟨_, rfl, _, _, rfl, hzr, _, _, rfl, ⟨rfl, rfl⟩, rfl⟩, rfl⟩⟩
  simp only [execOp, rel_raw.1 (hf _ _ hx), Instr.typeAssert, Sem.run_bind, tab_run_und h1, Result.andThen_ok]
  cases xT.desc <;> simp [tab_run_zero h1 hzv]
theorem rv_eq_nil {a : AVal} {c : Bool} {z : Value}  (hx : evalA env x = some a) (h1 : tab P T = some xT) (hn : isNilA xT.desc a = some c) (hz : nilOf xT.desc = some z) {ty : TypeId}
    : RunV P C H env (.binOp .eql T x (.const z) ty) (.bool c) := by
  intro R ρ w hm hf dst t p af g
  refine ⟨_, ?_, rel_bool.2 rfl⟩
  have hc : ρ (.const z) = z := by
    have := hf (.const z) _ (evalA_const env z)
    have hz' : ∀ z' : Value, nilOf xT.desc = some z' → ofV z' = .raw z' := by
      intro z' hz'
      cases hd : xT.desc <;> rw [hd] at hz' <;> simp only [nilOf, Option.some.injEq] at hz' <;> first | (cases hz'; done) | (subst hz'; rfl)
    rw [hz' z hz] at this
    exact rel_raw.1 this
  obtain ⟨h3, h4, h5⟩ := equal_nil (x := x) (w := w) (hf _ _ hx) h1 hn hz
  simp only [execOp, hc, Sem.run_bind, h4, Result.andThen_ok, h5 .eql (.inl rfl), if_true, h3, Sem.run_pure]
theorem rv_ne_nil {a : AVal} {c : Bool} {z : Value}  (hx : evalA env x = some a) (h1 : tab P T = some xT) (hn : isNilA xT.desc a = some c) (hz : nilOf xT.desc = some z) {ty : TypeId}
    : RunV P C H env (.binOp .neq T x (.const z) ty) (.bool (!c)) := by
  intro R ρ w hm hf dst t p af g
  refine ⟨_, ?_, rel_bool.2 rfl⟩
  have hc : ρ (.const z) = z := by
    have := hf (.const z) _ (evalA_const env z)
    have hz' : ∀ z' : Value, nilOf xT.desc = some z' → ofV z' = .raw z' := by
      intro z' hz'
      cases hd : xT.desc <;> rw [hd] at hz' <;> simp only [nilOf, Option.some.injEq] at hz' <;> first | (cases hz'; done) | (subst hz'; rfl)
    rw [hz' z hz] at this
    exact rel_raw.1 this
  obtain ⟨h3, h4, h5⟩ := equal_nil (x := x) (w := w) (hf _ _ hx) h1 hn hz
  have h6 := h5 .neq (.inr rfl)
  rw [if_neg (by decide)] at h6
  simp only [execOp, hc, Sem.run_bind, h4, Result.andThen_ok, h6, h3, Sem.run_pure]
theorem rv_len_list {sz m : Nat} {f : Nat → AVal} {e : TypeId}  (hx : evalA env x = some (.list sz m f)) (h1 : tab P T = some xT) (h2 : xT.desc = .slice e)
    : RunV P C H env (.call { callee := .builtin .len, args := [x].toArray, argTypes := [T].toArray }) (.int .i64 (m : Int)) := by
  intro R ρ w hm hf dst t p af g
  refine ⟨_, ?_, rel_int.2 rfl⟩
  obtain ⟨a, cap, e1, _⟩ := rel_one (hf _ _ hx) rfl
  simp only [List.cons.injEq, and_true] at e1
  simp only [execOp, resolve, Sem.run_bind, Sem.run_pure, Result.andThen_ok, invoke, builtin, Builtin.len_, List.map_toArray, List.map_cons, List.map_nil, e1]
  simp only [List.getElem?_toArray, List.getElem?_cons_zero, Sem.run_bind, tab_run_und h1, h2, Result.andThen_ok, Sem.run_pure, goInt]
theorem rv_len_raw {a : Option Addr} {m cap : Nat} {e : TypeId}  (hx : evalA env x = some (.raw (.slice a m cap))) (h1 : tab P T = some xT) (h2 : xT.desc = .slice e)
    : RunV P C H env (.call { callee := .builtin .len, args := [x].toArray, argTypes := [T].toArray }) (.int .i64 (m : Int)) := by
  intro R ρ w hm hf dst t p af g
  refine ⟨_, ?_, rel_int.2 rfl⟩
  simp only [execOp, resolve, Sem.run_bind, Sem.run_pure, Result.andThen_ok, invoke, builtin, Builtin.len_, List.map_toArray, List.map_cons, List.map_nil, rel_raw.1 (hf _ _ hx)]
  simp only [List.getElem?_toArray, List.getElem?_cons_zero, Sem.run_bind, tab_run_und h1, h2, Result.andThen_ok, Sem.run_pure, goInt]
theorem rv_len_row {i sz m : Nat} {v : Value} {cs : List AVal} {e : TypeId}  (hx : evalA env x = some (.raw v)) (hi : H[i]? = some (.row v eT sz m cs)) (h1 : tab P T = some xT) (h2 : xT.desc = .slice e)
    : RunV P C H env (.call { callee := .builtin .len, args := [x].toArray, argTypes := [T].toArray }) (.int .i64 (m : Int)) := by
  intro R ρ w hm hf dst t p af g
  refine ⟨_, ?_, rel_int.2 rfl⟩
  have hv := rel_raw.1 (hf _ _ hx)
  obtain ⟨_, hh⟩ := hm.heap.holds _ (List.mem_of_getElem? hi)
  rcases hh with ⟨rfl, rfl⟩ | ⟨bl, cap, Cs, el, fz, rfl, _⟩
  all_goals
    simp only [execOp, resolve, Sem.run_bind, Sem.run_pure, Result.andThen_ok, invoke, builtin, Builtin.len_, List.map_toArray, List.map_cons, List.map_nil, hv]
    simp only [List.getElem?_toArray, List.getElem?_cons_zero, Sem.run_bind, tab_run_und h1, h2, Result.andThen_ok, Sem.run_pure, goInt]
theorem rv_min {k : IntKind} {m q : Int} {ts : Array TypeId}  (hx : evalA env x = some (.int k m)) (hy : evalA env y = some (.int k q))
    : RunV P C H env (.call { callee := .builtin .min, args := [x, y].toArray, argTypes := ts }) (.int k (min m q)) := by
  intro R ρ w hm hf dst t p af g
  refine ⟨_, ?_, rel_int.2 rfl⟩
  have e : min m q = if q < m then q else m := by split <;> omega
  simp only [execOp, resolve, Sem.run_bind, Sem.run_pure, Result.andThen_ok, invoke, builtin, List.map_toArray, List.map_cons, List.map_nil, rel_int.1 (hf _ _ hx), rel_int.1 (hf _ _ hy), e]
  rfl
theorem rv_max {k : IntKind} {m q : Int} {ts : Array TypeId}  (hx : evalA env x = some (.int k m)) (hy : evalA env y = some (.int k q))
    : RunV P C H env (.call { callee := .builtin .max, args := [x, y].toArray, argTypes := ts }) (.int k (max m q)) := by
  intro R ρ w hm hf dst t p af g
  refine ⟨_, ?_, rel_int.2 rfl⟩
  have e : max m q = if m < q then q else m := by split <;> omega
  simp only [execOp, resolve, Sem.run_bind, Sem.run_pure, Result.andThen_ok, invoke, builtin, List.map_toArray, List.map_cons, List.map_nil, rel_int.1 (hf _ _ hx), rel_int.1 (hf _ _ hy), e]
  rfl
theorem rv_makeFunc {fn : Fn} {l1 l2 : List Operand} {a1 a2 : List AVal}  (h1 : argsA env l1 = some a1) (h2 : argsA env l2 = some a2)
    : RunV P C H env (.makeFunc fn l1.toArray l2.toArray) (.func fn a1 a2) := by
  intro R ρ w hm hf dst t p af g
  refine ⟨_, rfl, ?_⟩
  exact ⟨⟨_, _, rfl, by simpa using argsA_rel hf h1, by simpa using argsA_rel hf h2⟩, rfl⟩
theorem rv_slice_list {lo hi : Option Operand} {sz m : Nat} {f : Nat → AVal} {i j : Int} {e : TypeId} {xe : TI}  (hx : evalA env x = some (.list sz m f))
    (h1 : tab P T = some xT) (h2 : xT.desc = .slice e) (h3 : tab P e = some xe) (h4 : xe.size = sz) (hlo : boundA env 0 lo = some i) (hhi : boundA env (m : Int) hi = some j) (h0 : 0 ≤ i) (hij : i ≤ j) (hj : j ≤ m)
    : RunV P C H env (.slice T x lo hi none) (.list sz (j.toNat - i.toNat) (fun k => f (i.toNat + k))) := by
  intro R ρ w hm hf dst t p af g
  obtain ⟨a, cap, e1, hle, h5⟩ := rel_one (hf _ _ hx) rfl
  simp only [List.cons.injEq, and_true] at e1
  have hb := bounds_run (P := P) (isS := true) (len := m) (cap := cap) hf hlo hhi h0 hij (by omega) hle w
  refine ⟨.slice (if cap = i.toNat then a else a.map (·.add (i.toNat * sz))) (j.toNat - i.toNat) (cap - i.toNat), ?_, ⟨_, _, rfl, by omega, ?_⟩, rfl⟩
  · simp only [execOp, e1, Instr.sliceAt, Instr.slice, Sem.run_bind, Sem.run_pure, Result.andThen_ok, tab_run_und h1, h2, Option.map_none, hb, tab_run_size h3, h4]
  · by_cases hz : j.toNat - i.toNat = 0
    · exact .inl hz
    · rcases h5 with h5 | ⟨bl, o, Cs, el, fz, rfl, hR, hall⟩
      · omega
      refine .inr ⟨bl, o + i.toNat * sz, Cs, el, fz, ?_, hR, fun k hk => ?_⟩
      · rw [if_neg (by omega)]
        simp only [Option.map_some, add_off]
      · have := hall (i.toNat + k) (by omega)
        rw [Nat.add_mul, ← Nat.add_assoc] at this
        exact this
theorem rv_shl_wrap {k j : IntKind} {m c : Int} {s : Nat} {x : Operand} {tx ty : TypeId} 
    (hx : evalA env x = some (.int k m)) (hs : Nat.ble s k.bits = true) (hc : nth pwL s = some c)
    : RunV P C H env (.binOp .shl tx x (.const (.int j (Int.ofNat s))) ty) (.int k (k.wrap (m * c))) := by
  rw [← pw_ok hc] at *
  intro R ρ w hm hf dst t p af g
  refine ⟨_, ?_, rel_int.2 rfl⟩
  have hs := Nat.le_of_ble_eq_true hs
  simp only [execOp, rel_int.1 (hf _ _ hx), rel_int.1 (hf (.const (.int j (Int.ofNat s))) _ rfl), Go.binOp, eqGuard, Op.shift]
  rw [if_neg (show ¬ (Int.ofNat s < 0) by simp only [Int.ofNat_eq_natCast]; omega)]
  simp only [Int.ofNat_eq_natCast, Int.toNat_natCast, Nat.min_eq_left hs]
  have : (m * 2 ^ s : Int) = m * ((2 ^ s : Nat) : Int) := by simp
  rw [this]
  rfl
theorem rv_indexAddr_buf {bl len cap : Nat} {e : TypeId} {xe : TI} {k : IntKind} {i : Nat} 
    (hx : evalA env x = some (.raw (.slice (some ⟨bl, 0, none⟩) len cap))) (hy : evalA env y = some (.int k (i : Int))) (h1 : tab P T = some xT) (h2 : xT.desc = .slice e) (h3 : tab P e = some xe) (h4 : xe.size = 1)
    (hi : i < len)
    : RunV P C H env (.indexAddr T x y) (.raw (.pointer (some ⟨bl, i, none⟩))) := by
  intro R ρ w hm hf dst t p af g
  refine ⟨_, ?_, rel_raw.2 rfl⟩
  simp only [execOp, rel_raw.1 (hf _ _ hx), rel_int.1 (hf _ _ hy), Instr.indexAt, asIntOf, Sem.run_bind, Sem.run_pure, Result.andThen_ok, tab_run_und h1, h2, Instr.sureAddr]
  rw [if_pos (show 0 ≤ (i : Int) ∧ (i : Int) < (len : Int) from ⟨by omega, by omega⟩)]
  simp only [Sem.run_bind, tab_run_size h3, Result.andThen_ok, Sem.run_pure, Addr.add, h4, Int.toNat_natCast, Nat.mul_one]
  by_cases h0 : i = 0
  · simp [h0]
  · simp [h0]
end
end Go.Proofs.YtlmihggafbmkaaaGreatDoor
