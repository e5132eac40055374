/- Parts of the proof of prints_root: Tell, Telb, Plc, Nm, Shelf, Zon, Whp, Ext, Namr. -/
import Derived.Stop.Asserts
import Derived.Shelf.Strings.Builder1
import Derived.Shelf.Strings.Builder2
import Derived.Shelf.Strings.OnBuilder
import Derived.Shelf.Small.Utf8
import Derived.Shelf.Small.Strs
import Derived.Shelf.Strings.BuilderF
import Derived.Shelf.Strings.BuilderK
import Derived.Shelf.Strings.BuilderRune
import Derived.Shelf.Strings.Builder2Cap
import Derived.Shelf.Strconv.Atoi
import Derived.Shelf.Strconv.Itoa0
import Derived.Shelf.Strconv.Itoa1
import Derived.Shelf.LaysM
import Derived.Shelf.Strconv.Itoa2
import Derived.Shelf.Strconv.Itoa3
import Derived.Shelf.Strconv.Itoa4
import Derived.Shelf.Strconv.AtoiErrFast
import Derived.Shelf.Strconv.ParseIntEmpty
import Derived.Shelf.Strconv.AtoiFail
import Derived.Shelf.Strconv.Clone
import Derived.Shelf.Strconv.SyntaxError
import Derived.Shelf.LaysC
import Derived.Shelf.Strconv.ToError
import Derived.Shelf.Strconv.AtoiErr
import Derived.Shelf.Strconv.Lower
import Derived.Shelf.Strconv.ParseUint10
import Derived.Shelf.Strconv.ParseUint10Empty
import Derived.Shelf.Strconv.ParseUint10Any
import Derived.Shelf.Strconv.ParseInt10
import Derived.Shelf.Strconv.AtoiLong
import Derived.Shelf.Strconv.AtoiInnerAll
import Derived.Shelf.Strconv.RangeError
import Derived.Shelf.Strconv.ToErrorRange
import Derived.Shelf.Strconv.AtoiAll
import Derived.Shelf.Strconv.ErrVarAll
import Derived.Shelf.Strings.Search1
import Derived.Shelf.Strings.Search2
import Derived.Shelf.Strings.Search3
import Derived.Shelf.Strings.Cut
import Derived.Shelf.Strings.Count
import Derived.Shelf.Strings.Shaped
import Derived.Shelf.Strings.Prefix
import Derived.Shelf.Strings.Split
import Derived.Shelf.Strings.Fields
import Derived.Shelf.Strings.SplitShaped
import Derived.Shelf.Unicode.Latin
import Derived.Shelf.Unicode.Decode
import Derived.Shelf.Strings.Runes
import Derived.Shelf.Strings.RuneCount
import Derived.Shelf.Strings.IndexAny
import Derived.Shelf.Strings.AsciiSet
import Derived.Shelf.Strings.IndexAnyAll
import Derived.Shelf.Strings.Explode
import Derived.Shelf.Unicode.DecodeSlow
import Derived.Shelf.Unicode.DecodeAny
import Derived.Shelf.Unicode.Is16White
import Derived.Shelf.Unicode.IsSpaceAny
import Derived.Shelf.Unicode.CaseLookup
import Derived.Shelf.Unicode.CaseConvert
import Derived.Shelf.Unicode.CaseTo
import Derived.Shelf.Unicode.CaseLaid
import Derived.Shelf.Strings.MapAny
import Derived.Shelf.Unicode.Is16Any
import Derived.Shelf.Unicode.Is32Any
import Derived.Shelf.Unicode.ExclAny
import Derived.Shelf.Strings.BuilderCap
import Derived.Shelf.Strings.MapGrows
import Derived.Test.YtahebkecmlmlfaaGreatDoorProg
import Derived.Lib.ItoaNum
import Derived.Test.YtahebkecmlmlfaaGreatDoorBad
import Derived.Test.YtahebkecmlmlfaaGreatDoorBae
set_option linter.unusedVariables false
set_option linter.unusedSimpArgs false
set_option linter.unusedSectionVars false
namespace Go.Proofs.YtahebkecmlmlfaaGreatDoor
set_option maxRecDepth 20000
set_option maxHeartbeats 4000000
section
open Go Go.Extern
attribute [local irreducible] AWp AOps aa ax OrOk ad ae
/-! ### Types as the model's externs hand them about -/
noncomputable def hdl (t : TypeId) : Value := typeHandle Tryz.prog t
theorem na (t : Addr) (w : World) : (ReflectliteValue.unpack (.iface 139 (.pointer (some t)))).run Tryz.prog w
  = .ok (.agg #[hdl 139, .pointer (some ⟨w.heap.size, 0, none⟩), .int .u64 150]) (w.alloc (.cells #[.pointer (some t)] 139)) := by kernel_rfl
theorem kE (e : Int) (w : World) : (ReflectliteValue.unpack (.iface 34 (.int .i64 e))).run Tryz.prog w
  = .ok (.agg #[hdl 34, .pointer (some ⟨w.heap.size, 0, none⟩), .int .u64 130]) (w.alloc (.cells #[.int .i64 e] 34)) := by kernel_rfl
theorem ez {R : Seal} {a : AVal} {args : Array Value} (h : RelV R [a] args.toList) : ∃ v, args = #[v] ∧ Rel R a v := by
 obtain ⟨x, t, e, hx, rfl⟩ := h
 exact ⟨x, by cases args; simp_all, hx⟩
theorem kp {R : Seal} {a b : AVal} {args : Array Value} (h : RelV R [a, b] args.toList) : ∃ v u, args = #[v, u] ∧ Rel R a v ∧ Rel R b u := by
 obtain ⟨x, t, e, hx, y, t', e', hy, rfl⟩ := h
 exact ⟨x, y, by cases args; simp_all, hx, hy⟩
theorem gg {R : Seal} {t : TypeId} {a : AVal} {v : Value} (h : Rel R (.iface t a) v) : ∃ u, v = .iface t u ∧ Rel R a u := by
 obtain ⟨u, e, h1, h2⟩ := aP h rfl
 simp only [List.cons.injEq, and_true] at e
 exact ⟨u, e, h1, h2⟩
theorem tC {G : Glo} (bl : Nat) : FnIs Tryz.prog G 132 [.iface 139 (.raw (.pointer (some ⟨bl, 0, none⟩)))]
  (.agg [.raw (hdl 139), .rop [.raw (.pointer (some ⟨bl, 0, none⟩))] 0, .int .u64 150]) := by
 refine ib Tryz.func132 (by kernel_rfl) (by kernel_rfl) (by kernel_rfl) (e := fun args => ReflectliteValue.unpack (args.getD 0 (.tuple #[]))) (by kernel_rfl) ?_
 intro R args w ha
 obtain ⟨v, rfl, hv⟩ := ez ha
 obtain ⟨u, rfl, hu⟩ := gg hv
 obtain rfl := ao.1 hu
 refine ⟨_, _, _, na _ w, fun R' _ hR => ⟨⟨_, _, rfl, rfl, _, _, rfl, ?_, _, _, rfl, rfl, rfl⟩, rfl⟩⟩
 exact (cM (R := R') (cs := [.raw (.pointer (some ⟨bl, 0, none⟩))]) (off := 0) (Nat.le_refl _) ⟨_, _, _, hR, ⟨_, _, rfl, rfl, rfl⟩⟩).1
theorem jA {G : Glo} (e : Int) : FnIs Tryz.prog G 132 [.iface 34 (.int .i64 e)]
  (.agg [.raw (hdl 34), .rop [.int .i64 e] 0, .int .u64 130]) := by
 refine ib Tryz.func132 (by kernel_rfl) (by kernel_rfl) (by kernel_rfl) (e := fun args => ReflectliteValue.unpack (args.getD 0 (.tuple #[]))) (by kernel_rfl) ?_
 intro R args w ha
 obtain ⟨v, rfl, hv⟩ := ez ha
 obtain ⟨u, rfl, hu⟩ := gg hv
 obtain rfl := am.1 hu
 refine ⟨_, _, _, kE _ w, fun R' _ hR => ⟨⟨_, _, rfl, rfl, _, _, rfl, ?_, _, _, rfl, rfl, rfl⟩, rfl⟩⟩
 exact (cM (R := R') (cs := [.int .i64 e]) (off := 0) (Nat.le_refl _) ⟨_, _, _, hR, ⟨_, _, rfl, rfl, rfl⟩⟩).1
/-! ### Types -/
noncomputable abbrev rty (t : TypeId) : AVal := .iface 242 (.agg [.raw (hdl t)])
theorem kM {R : Seal} (t : TypeId) : Rel R (rty t) (.iface 242 (.agg #[hdl t])) := ⟨⟨_, rfl, ⟨_, _, rfl, rfl, rfl⟩, rfl⟩, rfl⟩
theorem dx {R : Seal} {x : Value} {v : Value} (hx : vAgg x = false) (h : Rel R (.agg [.raw x]) v) : v = .agg #[x] := by
 obtain ⟨h1, h2⟩ := h
 cases v <;> simp only [AVal.isAgg, vAgg, Bool.true_eq_false] at h2
 rename_i cs
 obtain ⟨a, t, e, ha, rfl⟩ := h1
 simp only [Value.cells] at e
 have ha : [a] = x.cells.toList := ha
 have : x.cells.toList = [x] := by cases x <;> first | rfl | (simp [vAgg] at hx)
 rw [this] at ha
 simp only [List.cons.injEq, and_true] at ha
 subst ha
 have : cs = #[a] := by cases cs; simp_all
 rw [this]
theorem r9 {R : Seal} {t : TypeId} {v : Value} (h : Rel R (rty t) v) : v = .iface 242 (.agg #[hdl t]) := by
 obtain ⟨u, rfl, hu⟩ := gg h
 rw [dx rfl hu]
theorem lC {R : Seal} {x : Value} {k : IntKind} {n : Int} {c : AVal} {v : Value} (hx : vAgg x = false) (h : Rel R (.agg [.raw x, .rop [c] 0, .int k n]) v) :
  ∃ b o, v = .agg #[x, .pointer (some ⟨b, o, none⟩), .int k n] ∧ bY R b o [c] := by
 obtain ⟨h1, h2⟩ := h
 cases v <;> simp only [AVal.isAgg, vAgg, Bool.true_eq_false] at h2
 rename_i cs
 obtain ⟨a, t, e, ha, a', t', e', ha', a'', t'', e'', ha'', rfl⟩ := h1
 simp only [Value.cells] at e
 have ha : [a] = x.cells.toList := ha
 have hxl : x.cells.toList = [x] := by cases x <;> first | rfl | (simp [vAgg] at hx)
 rw [hxl] at ha
 simp only [List.cons.injEq, and_true] at ha
 subst ha
 have ha'' : [a''] = [Value.int k n] := ha''
 simp only [List.cons.injEq, and_true] at ha''
 subst ha''
 obtain ⟨b, o, e2, ho, hs⟩ := cP (bG ha' rfl)
 subst e2
 refine ⟨b, o, ?_, by simpa using hs⟩
 have : cs = #[a, .pointer (some ⟨b, o, none⟩), .int k n] := by cases cs; simp_all
 rw [this]
theorem ko {G : Glo} (e : Int) : FnIs Tryz.prog G 181 [.iface 34 (.int .i64 e)] (rty 34) := by
 refine bN Tryz.func181 (by kernel_rfl) (by kernel_rfl) (by kernel_rfl) (e := ReflectliteType.typeOf) (by kernel_rfl) ?_
 intro R args ha w
 obtain ⟨v, rfl, hv⟩ := ez ha
 obtain ⟨u, rfl, hu⟩ := gg hv
 exact ⟨.iface 242 (.agg #[hdl 34]), by kernel_rfl, kM _⟩
theorem zI {G : Glo} (a : AVal) : FnIs Tryz.prog G 181 [.iface 70 a] (rty 70) := by
 refine bN Tryz.func181 (by kernel_rfl) (by kernel_rfl) (by kernel_rfl) (e := ReflectliteType.typeOf) (by kernel_rfl) ?_
 intro R args ha w
 obtain ⟨v, rfl, hv⟩ := ez ha
 obtain ⟨u, rfl, hu⟩ := gg hv
 exact ⟨.iface 242 (.agg #[hdl 70]), by kernel_rfl, kM _⟩
theorem Bh {G : Glo} (c : AVal) : FnIs Tryz.prog G 133 [.agg [.raw (hdl 139), .rop [c] 0, .int .u64 150]] (rty 139) := by
 refine bN Tryz.func133 (by kernel_rfl) (by kernel_rfl) (by kernel_rfl)
  (e := ReflectliteValue.methodAny (ReflectliteValue.valueError "reflectlite.Value.Type" 0) fun t _ _ _ => ReflectliteType.toType t) (by kernel_rfl) ?_
 intro R args ha w
 obtain ⟨v, rfl, hv⟩ := ez ha
 obtain ⟨b, o, rfl, _⟩ := lC rfl hv
 exact ⟨.iface 242 (.agg #[hdl 139]), by kernel_rfl, kM _⟩
theorem v6 {G : Glo} (t : TypeId) (k : Int) (h : ∀ w, (((ReflectliteType.abiMethod fun t => do pure (.int .u8 (← Rtype.kind t))) #[hdl t]).run Tryz.prog w) = .ok (.int .u8 k) w) : FnIs Tryz.prog G 264 [.raw (hdl t)] (.int .u8 k) := by
 refine bN Tryz.func264 (by kernel_rfl) (by kernel_rfl) (by kernel_rfl)
  (e := ReflectliteType.abiMethod fun t => do pure (.int .u8 (← Rtype.kind t))) (by kernel_rfl) ?_
 intro R args ha w
 obtain ⟨v, rfl, hv⟩ := ez ha
 obtain rfl := ao.1 hv
 exact ⟨.int .u8 k, h w, am.2 rfl⟩
theorem CG {G : Glo} : FnIs Tryz.prog G 264 [.raw (hdl 139)] (.int .u8 22) := v6 _ _ (fun w => by kernel_rfl)
theorem xl {G : Glo} : FnIs Tryz.prog G 264 [.raw (hdl 34)] (.int .u8 2) := v6 _ _ (fun w => by kernel_rfl)
theorem CY {G : Glo} : FnIs Tryz.prog G 280 [.agg [.raw (hdl 139)]] (rty 34) := by
 refine bN Tryz.func280 (by kernel_rfl) (by kernel_rfl) (by kernel_rfl) (e := ReflectliteType.method ReflectliteType.elem) (by kernel_rfl) ?_
 intro R args ha w
 obtain ⟨v, rfl, hv⟩ := ez ha
 obtain rfl := dx rfl hv
 exact ⟨.iface 242 (.agg #[hdl 34]), by kernel_rfl, kM _⟩
theorem ml {G : Glo} : FnIs Tryz.prog G 281 [.agg [.raw (hdl 34)], rty 38] (.bool true) := by
 refine bN Tryz.func281 (by kernel_rfl) (by kernel_rfl) (by kernel_rfl) (e := ReflectliteType.relation "Implements" ReflectliteType.implements_) (by kernel_rfl) ?_
 intro R args ha w
 obtain ⟨v, u, rfl, hv, hu⟩ := kp ha
 obtain rfl := dx rfl hv
 obtain rfl := r9 hu
 exact ⟨.bool true, by kernel_rfl, aD.2 rfl⟩
theorem gq {G : Glo} : FnIs Tryz.prog G 278 [.agg [.raw (hdl 34)], rty 34] (.bool true) := by
 refine bN Tryz.func278 (by kernel_rfl) (by kernel_rfl) (by kernel_rfl) (e := ReflectliteType.relation "AssignableTo" ReflectliteType.assignableTo) (by kernel_rfl) ?_
 intro R args ha w
 obtain ⟨v, u, rfl, hv, hu⟩ := kp ha
 obtain rfl := dx rfl hv
 obtain rfl := r9 hu
 exact ⟨.bool true, by kernel_rfl, aD.2 rfl⟩
theorem qk {G : Glo} : FnIs Tryz.prog G 278 [.agg [.raw (hdl 70)], rty 34] (.bool false) := by
 refine bN Tryz.func278 (by kernel_rfl) (by kernel_rfl) (by kernel_rfl) (e := ReflectliteType.relation "AssignableTo" ReflectliteType.assignableTo) (by kernel_rfl) ?_
 intro R args ha w
 obtain ⟨v, u, rfl, hv, hu⟩ := kp ha
 obtain rfl := dx rfl hv
 obtain rfl := r9 hu
 exact ⟨.bool false, by kernel_rfl, aD.2 rfl⟩
/-! ### What reads or writes memory -/
theorem rlm (z : Sem Value) (f : TypeId → Addr → Nat → Nat → Sem Value) (v : Value) :
  ReflectliteValue.method z f #[v] = (do match ← ReflectliteValue.parts v with | none => z | some (t, a, fl) => f t a fl (fl % 32)) := rfl
theorem qJ (a : Addr) (w : World) : (ReflectliteValue.parts (.agg #[hdl 139, .pointer (some a), .int .u64 150])).run Tryz.prog w = .ok (some (139, a, 150)) w := by kernel_rfl
theorem Aj (a : Addr) (w : World) : (ReflectliteValue.parts (.agg #[hdl 34, .pointer (some a), .int .u64 386])).run Tryz.prog w = .ok (some (34, a, 386)) w := by kernel_rfl
theorem uA (a : Addr) (w : World) : (ReflectliteValue.parts (.agg #[hdl 34, .pointer (some a), .int .u64 130])).run Tryz.prog w = .ok (some (34, a, 130)) w := by kernel_rfl
theorem xU (w : World) : (Rtype.elem? 139).run Tryz.prog w = .ok (some 34) w := by kernel_rfl
theorem F4 (p : Addr) (w : World) : (ReflectliteValue.mk 34 p ReflectliteValue.flagAddr).run Tryz.prog w = .ok (.agg #[hdl 34, .pointer (some p), .int .u64 386]) w := by kernel_rfl
theorem Ax {G : Glo} (bl : Nat) : FnIs Tryz.prog G 134 [.agg [.raw (hdl 139), .rop [.raw (.pointer (some ⟨bl, 0, none⟩))] 0, .int .u64 150]] (.bool false) := by
 refine dN Tryz.func134 (by kernel_rfl) (by kernel_rfl) (by kernel_rfl) (e := ReflectliteValue.method (ReflectliteValue.valueError "reflectlite.Value.IsNil" 0) ReflectliteValue.isNil) (by kernel_rfl) ?_
 intro C R args w hm ha
 obtain ⟨v, rfl, hv⟩ := ez ha
 obtain ⟨b, o, rfl, hs⟩ := lC rfl hv
 obtain ⟨u, hu, hr⟩ := hs.cell hm.sealed (i := 0) rfl
 rw [Nat.add_zero] at hu
 have hr : [u] = [Value.pointer (some ⟨bl, 0, none⟩)] := hr
 simp only [List.cons.injEq, and_true] at hr
 subst hr
 refine ⟨.bool false, w, R, ?_, Seal.le_refl R, aD.2 rfl, hm⟩
 rw [rlm]
 simp only [Sem.run_bind, qJ, Result.andThen]
 simp [ReflectliteValue.isNil, loadVar, isAgg, underlying, Tryz.underlying139, hu, Result.andThen]
theorem rn {G : Glo} (bl : Nat) : FnIs Tryz.prog G 182 [.agg [.raw (hdl 139), .rop [.raw (.pointer (some ⟨bl, 0, none⟩))] 0, .int .u64 150]] (.agg [.raw (hdl 34), .raw (.pointer (some ⟨bl, 0, none⟩)), .int .u64 386]) := by
 refine dN Tryz.func182 (by kernel_rfl) (by kernel_rfl) (by kernel_rfl) (e := ReflectliteValue.method (ReflectliteValue.valueError "reflectlite.Value.Elem" 0) ReflectliteValue.elem) (by kernel_rfl) ?_
 intro C R args w hm ha
 obtain ⟨v, rfl, hv⟩ := ez ha
 obtain ⟨b, o, rfl, hs⟩ := lC rfl hv
 obtain ⟨u, hu, hr⟩ := hs.cell hm.sealed (i := 0) rfl
 rw [Nat.add_zero] at hu
 have hr : [u] = [Value.pointer (some ⟨bl, 0, none⟩)] := hr
 simp only [List.cons.injEq, and_true] at hr
 subst hr
 refine ⟨.agg #[hdl 34, .pointer (some ⟨bl, 0, none⟩), .int .u64 386], w, R, ?_, Seal.le_refl R, ⟨⟨_, _, rfl, rfl, _, _, rfl, rfl, _, _, rfl, rfl, rfl⟩, rfl⟩, hm⟩
 rw [rlm]
 simp only [Sem.run_bind, qJ, Result.andThen]
 simp [ReflectliteValue.elem, loadVar, isAgg, underlying, Tryz.underlying139, hu, Result.andThen, xU, F4]
end
section
open Go Go.Extern
attribute [local irreducible] AWp AOps aa ax OrOk ad ae
theorem rls (v x : Value) : ReflectliteValue.set #[v, x] = (do
  let (some (dst, a, fl), some (src, b, _)) := (← ReflectliteValue.parts v, ← ReflectliteValue.parts x)
   | unsupported (.noEntry "extern/(internal/reflectlite.Value).Set.zeroValue")
  if fl / ReflectliteValue.flagAddr % 2 == 0 then unsupported (.noEntry "extern/(internal/reflectlite.Value).Set.unaddressable")
  let val ← loadVar src b
  if ← Rtype.directlyAssignable dst src then storeVar dst a val
  else if ← Rtype.implements dst src then
   if (← Rtype.kind src) == 20 then
    match val with
    | .nilIface => unsupported (.noEntry "extern/reflectlite: a nil value of one interface type handed on as a value of another")
    | _ => storeVar dst a val
   else storeVar dst a (.iface src val)
  else panicString ("reflectlite.Set: value of type " ++ (← Rtype.spelt src) ++ " is not assignable to type " ++ (← Rtype.spelt dst))
  pure (.tuple #[])) := rfl
theorem sY (w : World) : (Rtype.directlyAssignable 34 34).run Tryz.prog w = .ok true w := by kernel_rfl
theorem DL {R : Seal} {x y : Value} {k : IntKind} {n : Int} {v : Value} (hx : vAgg x = false) (hy : vAgg y = false) (h : Rel R (.agg [.raw x, .raw y, .int k n]) v) : v = .agg #[x, y, .int k n] := by
 obtain ⟨h1, h2⟩ := h
 cases v <;> simp only [AVal.isAgg, vAgg, Bool.true_eq_false] at h2
 rename_i cs
 obtain ⟨a, t, e, ha, a', t', e', ha', a'', t'', e'', ha'', rfl⟩ := h1
 simp only [Value.cells] at e
 have key : ∀ {z : Value}, vAgg z = false → z.cells.toList = [z] := by intro z hz; cases z <;> first | rfl | (simp [vAgg] at hz)
 have ha : [a] = x.cells.toList := ha
 have ha' : [a'] = y.cells.toList := ha'
 rw [key hx] at ha
 rw [key hy] at ha'
 have ha'' : [a''] = [Value.int k n] := ha''
 simp only [List.cons.injEq, and_true] at ha ha' ha''
 subst ha ha' ha''
 have : cs = #[a, a', .int k n] := by cases cs; simp_all
 rw [this]
theorem qx {G : Glo} (bl : Nat) (e old : Int) : ae Tryz.prog G 183 [.agg [.raw (hdl 34), .raw (.pointer (some ⟨bl, 0, none⟩)), .int .u64 386], .agg [.raw (hdl 34), .rop [.int .i64 e] 0, .int .u64 130]]
  [.cells bl (some 34) [.int .i64 old]] (fun r H => r = .ret (.tuple []) ∧ H = [.cells bl (some 34) [.int .i64 e]]) := by
 refine dN Tryz.func183 (by kernel_rfl) (by kernel_rfl) (by kernel_rfl) (e := ReflectliteValue.set) (by kernel_rfl) ?_
 intro C R args w hm ha
 obtain ⟨v, u, rfl, hv, hu⟩ := kp ha
 obtain rfl := DL rfl rfl hv
 obtain ⟨b, o, rfl, hs⟩ := lC rfl hu
 obtain ⟨u, hu, hr⟩ := hs.cell hm.sealed (i := 0) rfl
 rw [Nat.add_zero] at hu
 have hr : [u] = [Value.int .i64 e] := hr
 simp only [List.cons.injEq, and_true] at hr
 subst hr
 obtain ⟨Cs, el, fz, hb, hl, hfz⟩ := eK hm (i := 0) rfl
 have hlen := ay hl
 simp only [Array.length_toList, List.length_cons, List.length_nil] at hlen
 obtain ⟨w', hst, ho⟩ := cd (P := Tryz.prog) [Value.int .i64 e] 0 0 Cs w hb (by simp only [List.length_cons, List.length_nil]; omega) hfz.1 (by intro v hv; simp only [List.mem_singleton] at hv; subst hv; exact ⟨rfl, fun _ => by simp⟩)
 refine ⟨.tuple #[], w', R, ?_, Seal.le_refl R, ⟨⟨#[], rfl, rfl⟩, rfl⟩, ?_⟩
 ·rw [rls]
  simp only [Sem.run_bind, Aj, uA, Result.andThen]
  simp [ReflectliteValue.flagAddr, loadVar, isAgg, underlying, Tryz.underlying34, hu, Result.andThen, sY, storeVar, Value.cells]
  rw [hst]
 ·have hd : Cs.toList.drop (0 + 0 + [Value.int .i64 e].length) = [] := List.drop_eq_nil_of_le (by simp; omega)
  refine hm.write (i := 0) rfl rfl ho rfl ⟨_, _, _, ho.at_, ?_, ?_⟩
  ·rw [hd]; exact ⟨_, _, rfl, rfl, rfl⟩
  ·rw [hd]
   have : Cs.size = 1 := by omega
   rw [this] at hfz
   exact hfz
/-! ### Methods -/
section
variable (t : TypeId)
theorem Cz : ∀ R v, Rel R (.agg [.raw (hdl t)]) v → ∀ w, ∃ u, (Go.method (Tryz.prog.types.size + Made.depth) 242 v "Kind").run Tryz.prog w = .ok (264, u) w ∧ Rel R (.raw (hdl t)) u := by
 intro R v h w
 obtain rfl := dx rfl h
 exact ⟨hdl t, by kernel_rfl, ao.2 rfl⟩
theorem F7 : ∀ R v, Rel R (.agg [.raw (hdl t)]) v → ∀ w, ∃ u, (Go.method (Tryz.prog.types.size + Made.depth) 242 v "Elem").run Tryz.prog w = .ok (280, u) w ∧ Rel R (.agg [.raw (hdl t)]) u := by
 intro R v h w
 obtain rfl := dx rfl h
 exact ⟨.agg #[hdl t], by kernel_rfl, h⟩
theorem F6 : ∀ R v, Rel R (.agg [.raw (hdl t)]) v → ∀ w, ∃ u, (Go.method (Tryz.prog.types.size + Made.depth) 242 v "Implements").run Tryz.prog w = .ok (281, u) w ∧ Rel R (.agg [.raw (hdl t)]) u := by
 intro R v h w
 obtain rfl := dx rfl h
 exact ⟨.agg #[hdl t], by kernel_rfl, h⟩
theorem xd : ∀ R v, Rel R (.agg [.raw (hdl t)]) v → ∀ w, ∃ u, (Go.method (Tryz.prog.types.size + Made.depth) 242 v "AssignableTo").run Tryz.prog w = .ok (278, u) w ∧ Rel R (.agg [.raw (hdl t)]) u := by
 intro R v h w
 obtain rfl := dx rfl h
 exact ⟨.agg #[hdl t], by kernel_rfl, h⟩
end
theorem Cw (a : AVal) : ∀ R v, Rel R a v → ∀ w, ∃ u, (Go.method (Tryz.prog.types.size + Made.depth) 70 v "Unwrap").run Tryz.prog w = .ok (269, u) w ∧ Rel R a u := by
 intro R v h w
 exact ⟨v, by kernel_rfl, h⟩
theorem Ey : ∀ v w, (Instr.typeAssert (.iface 70 v) 38 247 true).run Tryz.prog w = .ok (.tuple #[.nilIface, .bool false]) w := fun v w => run_typeAssert_lacksB (z := .nilIface) Tryz.underlying247 (by kernel_rfl) (by kernel_rfl) v _ w
theorem vd : ∀ v w, (Instr.typeAssert (.iface 70 v) 38 118 true).run Tryz.prog w = .ok (.tuple #[.iface 70 v, .bool true]) w := by intro v w; kernel_rfl
theorem pc : ∀ v w, (Instr.typeAssert (.iface 34 v) 38 118 true).run Tryz.prog w = .ok (.tuple #[.nilIface, .bool false]) w := fun v w => run_typeAssert_lacksB (z := .nilIface) Tryz.underlying118 (by kernel_rfl) (by kernel_rfl) v _ w
/-! ### The walks -/
abbrev errA (e : Int) : AVal := .iface 34 (.int .i64 e)
abbrev atA (e p : Int) : AVal := .iface 70 (.rop [.int .i64 e, .int .i64 p] 0)
noncomputable abbrev tgtV (bl : Nat) : AVal := .agg [.raw (hdl 139), .rop [.raw (.pointer (some ⟨bl, 0, none⟩))] 0, .int .u64 150]
abbrev tgtA (bl : Nat) : AVal := .iface 139 (.raw (.pointer (some ⟨bl, 0, none⟩)))
theorem A6 {G : Glo} (e p : Int) : FnIs Tryz.prog G 269 [.rop [.int .i64 e, .int .i64 p] 0] (errA e) := by
 have hGL : ad G [] := ab
 refine fn_x Tryz.func269 Tryz.call269 rfl rfl rfl rfl hGL ?_
 intro C hC
 exact xw0
theorem ek {G : Glo} (bl : Nat) (e old : Int) : ae Tryz.prog G 135 [errA e, tgtA bl, tgtV bl, rty 34] [.cells bl (some 34) [.int .i64 old]] (fun r H => r = .ret (.bool true) ∧ H = [.cells bl (some 34) [.int .i64 e]]) := by
 have hGL : ad G [] := ab
 refine fn_x Tryz.func135 Tryz.call135 rfl rfl rfl rfl hGL ?_
 intro C hC
 have h1 := ko (G := G) e
 have h2 := rn (G := G) bl
 have h3 := jA (G := G) e
 have h4 := qx (G := G) bl e old
 have h5 := gq (G := G)
 have m1 := xd 34
 refine xw1 ?_
 intros
 refine rds hC hGL 1 ?_
 exact xw0
theorem gQ {G : Glo} (bl : Nat) (e p old : Int) : ae Tryz.prog G 135 [atA e p, tgtA bl, tgtV bl, rty 34] [.cells bl (some 34) [.int .i64 old]] (fun r H => r = .ret (.bool true) ∧ H = [.cells bl (some 34) [.int .i64 e]]) := by
 have hGL : ad G [] := ab
 refine fn_x Tryz.func135 Tryz.call135 rfl rfl rfl rfl hGL ?_
 intro C hC
 have h1 := ko (G := G) e
 have h2 := rn (G := G) bl
 have h3 := jA (G := G) e
 have h4 := qx (G := G) bl e old
 have h5 := gq (G := G)
 have h6 := qk (G := G)
 have h7 := zI (G := G) (.rop [.int .i64 e, .int .i64 p] 0)
 have h8 := A6 (G := G) e p
 have m1 := xd 34
 have m2 := xd 70
 have m3 := Cw (.rop [.int .i64 e, .int .i64 p] 0)
 have i1 := Ey
 have i2 := vd
 refine xw1 ?_
 intros
 refine rds hC hGL 2 ?_
 exact xw0
noncomputable abbrev errTy : List (Nat × List AVal) := [(1, [rty 38])]
theorem eN {G : Glo} (hGL : ad G errTy) (bl : Nat) (e : Int) {ty : TypeId} {a : AVal} (hs : ae Tryz.prog G 135 [.iface ty (fX a), tgtA bl, tgtV bl, rty 34] [.cells bl (some 34) [.int .i64 0]] (fun r H => r = .ret (.bool true) ∧ H = [.cells bl (some 34) [.int .i64 e]])) :
  ae Tryz.prog G 76 [.iface ty a, tgtA bl] [.cells bl (some 34) [.int .i64 0]] (fun r H => r = .ret (.bool true) ∧ H = [.cells bl (some 34) [.int .i64 e]]) := by
 refine fn_x Tryz.func76 Tryz.call76 rfl rfl rfl rfl hGL ?_
 intro C hC
 have h1 := tC (G := G) bl
 have h2 := Bh (G := G) (.raw (.pointer (some ⟨bl, 0, none⟩)))
 have h3 := Ax (G := G) bl
 have h4 := CG (G := G)
 have h5 := CY (G := G)
 have h6 := xl (G := G)
 have h7 := ml (G := G)
 have m1 := Cz 139
 have m2 := F7 139
 have m3 := Cz 34
 have m4 := F6 34
 exact xw0
theorem eF {G : Glo} : FnIs Tryz.prog G 43 [.raw .nilIface] (.int .i64 0) := by
 have hGL : ad G [] := ab
 refine fn_x Tryz.func43 Tryz.call43 rfl rfl rfl rfl hGL ?_
 intro C hC
 exact xw0
theorem dw {G : Glo} (hGL : ad G errTy) (e : Int) : FnIs Tryz.prog G 43 [errA e] (.int .i64 e) := by
 refine fn_x Tryz.func43 Tryz.call43 rfl rfl rfl rfl hGL ?_
 intro C hC
 repeat' (first | (conv => whnf); first | refine .w ?_ | refine .v ?_ | refine sc_c ?_ ?_ <;> (intro hb; try exact dd hb) | apply an | apply az | (apply sc_i <;> intro hb) | (apply bx_i; intro hbd) | (apply ar; first | exact eN hGL _ e (ek _ e 0)) | (apply ap (i := 0) rfl; first | exact eN hGL _ e (ek _ e 0)) | (apply ab_i; intro bl) | (apply as_i; intro va vk vc hva) | (apply av_i; intro v) | (apply ac_i; intro bl cap hcap) | apply bo_l | (apply nx_i <;> intro hnx) | exact rt_w | apply dw_q mixed hC hGL (by kernel_rfl) | (apply cq; assumption; (first | exact eN hGL _ e (ek _ e 0)); exact rfl))
 all_goals try conv => whnf
theorem fG {G : Glo} (hGL : ad G errTy) (e p : Int) : FnIs Tryz.prog G 43 [atA e p] (.int .i64 e) := by
 refine fn_x Tryz.func43 Tryz.call43 rfl rfl rfl rfl hGL ?_
 intro C hC
 repeat' (first | (conv => whnf); first | refine .w ?_ | refine .v ?_ | refine sc_c ?_ ?_ <;> (intro hb; try exact dd hb) | apply an | apply az | (apply sc_i <;> intro hb) | (apply bx_i; intro hbd) | (apply ar; first | exact eN hGL _ e (gQ _ e p 0)) | (apply ap (i := 0) rfl; first | exact eN hGL _ e (gQ _ e p 0)) | (apply ab_i; intro bl) | (apply as_i; intro va vk vc hva) | (apply av_i; intro v) | (apply ac_i; intro bl cap hcap) | apply bo_l | (apply nx_i <;> intro hnx) | exact rt_w | apply dw_q mixed hC hGL (by kernel_rfl) | (apply cq; assumption; (first | exact eN hGL _ e (gQ _ e p 0)); exact rfl))
 all_goals try conv => whnf
inductive Err
 | none
 | errno (e : Int)
 | at (e p : Int)
def Err.A : Err → AVal
 | .none => .raw .nilIface
 | .errno e => errA e
 | .at e p => atA e p
def Err.e : Err → Int
 | .none => 0
 | .errno e => e
 | .at e _ => e
def Err.p : Err → Int
 | .none => -1
 | .errno _ => -1
 | .at _ p => p
theorem lz {G : Glo} (hGL : ad G errTy) (x : Err) : FnIs Tryz.prog G 43 [x.A] (.int .i64 x.e) := by
 cases x with
 | none => exact eF
 | errno e => exact dw hGL e
 | «at» e p => exact fG hGL e p
theorem ne {G : Glo} : FnIs Tryz.prog G 25 [.raw .nilIface] (.tuple [.int .i64 0, .int .i64 (-1)]) := by
 have hGL : ad G [] := ab
 refine fn_x Tryz.func25 Tryz.call25 rfl rfl rfl rfl hGL ?_
 intro C hC
 repeat' (first | (conv => whnf); first | refine .w ?_ | refine .v ?_ | refine sc_c ?_ ?_ <;> (intro hb; try exact dd hb) | apply an | apply az | (apply sc_i <;> intro hb) | (apply bx_i; intro hbd) | (apply ar; first | exact eF) | (apply ap (i := 0) rfl; first | exact eF) | (apply ab_i; intro bl) | (apply as_i; intro va vk vc hva) | (apply av_i; intro v) | (apply ac_i; intro bl cap hcap) | apply bo_l | (apply nx_i <;> intro hnx) | exact rt_w | apply dw_q mixed hC hGL (by kernel_rfl) | (apply cq; assumption; (first | exact eF); exact rfl))
 all_goals try conv => whnf
 refine rds hC hGL 1 ?_
 exact xw0
theorem kR {G : Glo} (hGL : ad G errTy) (e : Int) : FnIs Tryz.prog G 25 [errA e] (.tuple [.int .i64 e, .int .i64 (-1)]) := by
 refine fn_x Tryz.func25 Tryz.call25 rfl rfl rfl rfl hGL ?_
 intro C hC
 have i1 := pc
 repeat' (first | (conv => whnf); first | refine .w ?_ | refine .v ?_ | refine sc_c ?_ ?_ <;> (intro hb; try exact dd hb) | apply an | apply az | (apply sc_i <;> intro hb) | (apply bx_i; intro hbd) | (apply ar; first | exact dw hGL e) | (apply ap (i := 0) rfl; first | exact dw hGL e) | (apply ab_i; intro bl) | (apply as_i; intro va vk vc hva) | (apply av_i; intro v) | (apply ac_i; intro bl cap hcap) | apply bo_l | (apply nx_i <;> intro hnx) | exact rt_w | apply dw_q mixed hC hGL (by kernel_rfl) | (apply cq; assumption; (first | exact dw hGL e); exact rfl))
 all_goals try conv => whnf
 refine rds hC hGL 1 ?_
 exact xw0
theorem oF {G : Glo} (hGL : ad G errTy) (e p : Int) : FnIs Tryz.prog G 25 [atA e p] (.tuple [.int .i64 e, .int .i64 p]) := by
 refine fn_x Tryz.func25 Tryz.call25 rfl rfl rfl rfl hGL ?_
 intro C hC
 repeat' (first | (conv => whnf); first | refine .w ?_ | refine .v ?_ | refine sc_c ?_ ?_ <;> (intro hb; try exact dd hb) | apply an | apply az | (apply sc_i <;> intro hb) | (apply bx_i; intro hbd) | (apply ar; first | exact fG hGL e p) | (apply ap (i := 0) rfl; first | exact fG hGL e p) | (apply ab_i; intro bl) | (apply as_i; intro va vk vc hva) | (apply av_i; intro v) | (apply ac_i; intro bl cap hcap) | apply bo_l | (apply nx_i <;> intro hnx) | exact rt_w | apply dw_q mixed hC hGL (by kernel_rfl) | (apply cq; assumption; (first | exact fG hGL e p); exact rfl))
 all_goals try conv => whnf
 refine rds hC hGL 1 ?_
 exact xw0
theorem mN {G : Glo} (hGL : ad G errTy) (x : Err) : FnIs Tryz.prog G 25 [x.A] (.tuple [.int .i64 x.e, .int .i64 x.p]) := by
 cases x with
 | none => exact ne
 | errno e => exact kR hGL e
 | «at» e p => exact oF hGL e p
theorem CE {G : Glo} (hGL : ad G errTy) (x : Err) (e : Int) : FnIs Tryz.prog G 9 [x.A, .int .i64 e] (.bool (eqB x.e e && eqB x.p (-1))) := by
 have hP := mN hGL x
 cases x
 all_goals (
  refine fn_x Tryz.func9 Tryz.call9 rfl rfl rfl rfl hGL ?_
  intro C hC
  refine xw ?_
  repeat' (first | exact Le.n | refine Lc.mk ?_ ?_)
  all_goals intros
  all_goals (rename_i hb; apply aj; refine congrArg AVal.bool ?_; first | (rw [dc.2 hb, Bool.true_and]; done) | (rw [jP.2 hb]; rfl) | (rw [dc.2 hb, Bool.true_and]; rfl)))
theorem xj {G : Glo} (hGL : ad G errTy) (x : Err) (e p : Int) : FnIs Tryz.prog G 10 [x.A, .agg [.int .i64 e, .int .i64 p]] (.bool (eqB x.e e && eqB x.p p)) := by
 have hP := mN hGL x
 cases x
 all_goals (
  refine fn_x Tryz.func10 Tryz.call10 rfl rfl rfl rfl hGL ?_
  intro C hC
  repeat' (first | (conv => whnf); first | refine .w ?_ | refine .v ?_ | refine sc_c ?_ ?_ <;> (intro hb; try exact dd hb) | apply an | apply az | (apply sc_i <;> intro hb) | (apply bx_i; intro hbd) | (apply ar; first | exact hP) | (apply ap (i := 0) rfl; first | exact hP) | (apply ab_i; intro bl) | (apply as_i; intro va vk vc hva) | (apply av_i; intro v) | (apply ac_i; intro bl cap hcap) | apply bo_l | (apply nx_i <;> intro hnx) | exact rt_w | apply dw_q mixed hC hGL (by kernel_rfl) | (apply cq; assumption; (first | exact hP); exact rfl))
  all_goals try conv => whnf
  all_goals (apply aj; refine congrArg AVal.bool ?_; first | (rw [dc.2 hb, Bool.true_and]; done) | (rw [jP.2 hb]; rfl) | (rw [dc.2 hb, Bool.true_and]; rfl)))
end
section
open Go
theorem bm {s : List UInt8} {j : Nat} (h : j < s.length) : aa s j = s[j].toNat := by
 simp [aa, List.getD, h]
theorem fE {s : List UInt8} {n j : Nat} (h : j < n) : aa (s.take n) j = aa s j := by
 unfold aa
 simp [List.getD, List.getElem?_take, h]
attribute [local irreducible] AWp AOps aa ax OrOk ad ae
theorem dj {G : Glo} (e : Int) : FnIs Tryz.prog G 30 [.int .i64 e] (.agg [.int .i64 e, .int .i64 (-1)]) := by
 have hGL : ad G [] := ab
 refine fn_x Tryz.func30 Tryz.call30 rfl rfl rfl rfl hGL ?_
 intro C hC
 repeat' (first | (conv => whnf); first | refine .w ?_ | refine .v ?_ | refine sc_c ?_ ?_ <;> (intro hb; try exact dd hb) | apply an | apply az | (apply sc_i <;> intro hb) | (apply bx_i; intro hbd) | (apply ar; first | fail) | (apply ap (i := 0) rfl; first | fail) | (apply ab_i; intro bl) | (apply as_i; intro va vk vc hva) | (apply av_i; intro v) | (apply ac_i; intro bl cap hcap) | apply bo_l | (apply nx_i <;> intro hnx) | exact rt_w | apply dw_q mixed hC hGL (by kernel_rfl) | (apply cq; assumption; (first | fail); exact rfl))
 all_goals try conv => whnf
theorem di {G : Glo} : FnIs Tryz.prog G 34 [] (.agg [.int .i64 0, .int .i64 (-1)]) := by
 have hGL : ad G [] := ab
 refine fn_x Tryz.func34 Tryz.call34 rfl rfl rfl rfl hGL ?_
 intro C hC
 repeat' (first | (conv => whnf); first | refine .w ?_ | refine .v ?_ | refine sc_c ?_ ?_ <;> (intro hb; try exact dd hb) | apply an | apply az | (apply sc_i <;> intro hb) | (apply bx_i; intro hbd) | (apply ar; first | fail) | (apply ap (i := 0) rfl; first | fail) | (apply ab_i; intro bl) | (apply as_i; intro va vk vc hva) | (apply av_i; intro v) | (apply ac_i; intro bl cap hcap) | apply bo_l | (apply nx_i <;> intro hnx) | exact rt_w | apply dw_q mixed hC hGL (by kernel_rfl) | (apply cq; assumption; (first | fail); exact rfl))
 all_goals try conv => whnf
theorem qp (x : Err) : fX x.A = x.A := by cases x <;> rfl
theorem EV {G : Glo} (hU2 : ad G errTy) (x : Err) (h : x.p = -1) : FnIs Tryz.prog G 9 [x.A, .int .i64 x.e] (.bool true) := by
 have := CE hU2 x x.e
 rwa [h, dc.2 rfl, dc.2 rfl] at this
theorem l0 {G : Glo} (hU2 : ad G errTy) (x : Err) : FnIs Tryz.prog G 10 [x.A, .agg [.int .i64 x.e, .int .i64 x.p]] (.bool true) := by
 have := xj hU2 x x.e x.p
 rwa [dc.2 rfl, dc.2 rfl] at this
end
section
open Go
attribute [local irreducible] AWp AOps aa ax OrOk ad ae
theorem xM {s t : List UInt8} (h : t.length = s.length) (hb : ∀ j, j < s.length → aa t j = aa s j) : t = s := by
 apply List.ext_getElem h
 intro i h1 h2
 have := hb i h2
 simp only [aa, List.getD, List.getElem?_eq_getElem h1, List.getElem?_eq_getElem h2, Option.getD_some] at this
 exact UInt8.toNat_inj.1 this
def bR (low high by_ : Int) (c : Nat) : Int := if low ≤ c ∧ (c : Int) ≤ high then c + by_ else c
def al (low high by_ : Int) (s : List UInt8) : List UInt8 := s.map fun c => UInt8.ofNat (bR low high by_ c.toNat).toNat
theorem vM {low high by_ : Int} (h1 : 0 ≤ low + by_) (h2 : high + by_ ≤ 255) {s : List UInt8} {j : Nat} (h : j < s.length) : (aa (al low high by_ s) j : Int) = bR low high by_ (aa s j) := by
 have e : (aa (al low high by_ s) j) = (UInt8.ofNat (bR low high by_ s[j].toNat).toNat).toNat := by
  simp [aa, al, List.getD, h]
 have e2 : aa s j = s[j].toNat := by simp [aa, List.getD, h]
 rw [e, e2, UInt8.toNat_ofNat']
 have := UInt8.toNat_lt s[j]
 unfold bR
 split <;> omega
def fR (low high by_ : Int) (s : List UInt8) (x : Nat × List UInt8) : Prop :=
 x.1 ≤ s.length ∧ x.2.length = s.length ∧ ∀ j, j < s.length → (aa x.2 j : Int) = if j < x.1 then bR low high by_ (aa s j) else aa s j
theorem nW {low high by_ : Int} {s : List UInt8} : fR low high by_ s (0, s) := ⟨Nat.zero_le _, rfl, fun j _ => by rw [if_neg (by simp)]⟩
theorem eG {low high by_ : Int} {s : List UInt8} {i : Nat} {t : List UInt8} (h : fR low high by_ s (i, t)) (hi : i < s.length) : aa t i = aa s i := by
 have := h.2.2 i hi
 rw [if_neg (by simp)] at this
 exact Int.ofNat.inj this
theorem jU {low high by_ : Int} {s : List UInt8} {i : Nat} {t : List UInt8} (h : fR low high by_ s (i, t)) (hi : i < s.length) {m : Int} (hm : m = bR low high by_ (aa s i)) (h0 : 0 ≤ m) (h1 : m ≤ 255) :
  fR low high by_ s (i + 1, t.set i (UInt8.ofNat m.toNat)) := by
 obtain ⟨h2, h3, h4⟩ := h
 refine ⟨hi, by simp only [List.length_set]; exact h3, fun j hj => ?_⟩
 dsimp only at *
 rw [yi (by omega) (by omega) (by omega)]
 by_cases e : j = i
 ·subst e
  rw [if_pos rfl, if_pos (by omega), hm]
 ·rw [if_neg e, h4 j hj]
  by_cases e2 : j < i
  ·rw [if_pos e2, if_pos (by omega)]
  ·rw [if_neg e2, if_neg (by omega)]
theorem im {low high by_ : Int} {s : List UInt8} {i : Nat} {t : List UInt8} (h : fR low high by_ s (i, t)) (hi : i < s.length) (hm : bR low high by_ (aa s i) = aa s i) :
  fR low high by_ s (i + 1, t) := by
 refine ⟨hi, h.2.1, fun j hj => ?_⟩
 have := h.2.2 j hj
 dsimp only at *
 rw [this]
 by_cases e : j = i
 ·subst e
  rw [if_neg (by omega), if_pos (by omega), hm]
 ·by_cases e2 : j < i
  ·rw [if_pos e2, if_pos (by omega)]
  ·rw [if_neg e2, if_neg (by omega)]
theorem jV {low high by_ : Int} (h1 : 0 ≤ low + by_) (h2 : high + by_ ≤ 255) {s : List UInt8} {i : Nat} {t : List UInt8} (h : fR low high by_ s (i, t)) (hi : s.length ≤ i) : t = al low high by_ s := by
 refine xM (by simp only [al, List.length_map]; exact h.2.1) (fun j hj => ?_)
 have hj' : j < s.length := by simpa [al] using hj
 have := h.2.2 j hj'
 rw [if_pos (show j < i by omega), ← vM h1 h2 hj'] at this
 exact Int.ofNat.inj this
theorem qO {G : Glo} (s : List UInt8) (low high by_ : Int) (h1 : 0 ≤ low + by_) (h2 : high + by_ ≤ 255) (h3 : 0 ≤ low) (h4 : high ≤ 255) (h5 : -300 ≤ by_) (h6 : by_ ≤ 300) (hl : s.length ≤ 9223372036854775807) :
  FnIs Tryz.prog G 63 [.str s, .int .u8 low, .int .u8 high, .int .i64 by_] (.str (al low high by_ s)) := by
 have hGL : ad G [] := ab
 refine fn_x Tryz.func63 Tryz.call63 rfl rfl rfl rfl hGL ?_
 intro C hC
 repeat' (first | (conv => whnf); first | refine .w ?_ | refine .v ?_ | refine sc_c ?_ ?_ <;> (intro hb; try exact dd hb) | apply an | apply az | (apply sc_i <;> intro hb) | (apply bx_i; intro hbd) | (apply ar; first | fail) | (apply ap (i := 0) rfl; first | fail) | (apply ab_i; intro bl) | (apply as_i; intro va vk vc hva) | (apply av_i; intro v) | (apply ac_i; intro bl cap hcap) | apply bo_l | (apply nx_i <;> intro hnx) | exact rt_w | apply dw_q mixed hC hGL (by kernel_rfl) | (apply cq; assumption; (first | fail); exact rfl))
 all_goals try conv => whnf
 refine lp hC hGL (fun (x : Nat × List UInt8) => [(1, .int .u8 low), (2, .int .u8 high), (3, .int .i64 by_), (9, .own 0 (.slice (some ⟨bl, 0, none⟩) s.length cap)), (14, .own 0 (.slice (some ⟨bl, 0, none⟩) s.length cap)), (15, .int .i64 s.length), (16, .int .i64 x.1)]) (fun x => [.buf bl x.2 cap]) (fR low high by_ s) (fun x => s.length - x.1) (0, s) ?_ ai rfl ?_
 ·exact nW
 rintro ⟨i, t⟩ hI
 have hi := hI.1
 have ht := hI.2.1
 dsimp only at hi ht ⊢
 refine xw ?_
 repeat' (first | exact Le.n | refine Lc.mk ?_ ?_)
 all_goals intros
 ·refine nxt (i + 1, t.set i (UInt8.ofNat ((aa t i : Int) + by_).toNat)) ?_ ?_ ai rfl
  ·have e := eG hI (by omega)
   refine jU hI (by omega) ?_ (by omega) (by omega)
   unfold bR
   rw [if_pos (by omega)]
   omega
  ·dsimp only; omega
 iterate 2
  ·refine nxt (i + 1, t) ?_ ?_ ai rfl
   ·have e := eG hI (by omega)
    refine im hI (by omega) ?_
    unfold bR
    rw [if_neg (by omega)]
   ·dsimp only; omega
 ·apply aj
  rw [jV h1 h2 hI (by omega)]
theorem dG {G : Glo} (s : List UInt8) (hl : s.length ≤ 9223372036854775807) : FnIs Tryz.prog G 27 [.str s] (.str (al 97 122 (-32) s)) := by
 have hGL : ad G [] := ab
 refine fn_x Tryz.func27 Tryz.call27 rfl rfl rfl rfl hGL ?_
 intro C hC
 have ht := qO (G := G) s 97 122 (-32) (by decide) (by decide) (by decide) (by decide) (by decide) (by decide) hl
 exact xw0
theorem w7 {G : Glo} (s : List UInt8) (hl : s.length ≤ 9223372036854775807) : FnIs Tryz.prog G 102 [.str s] (.str (al 65 90 32 s)) := by
 have hGL : ad G [] := ab
 refine fn_x Tryz.func102 Tryz.call102 rfl rfl rfl rfl hGL ?_
 intro C hC
 have ht := qO (G := G) s 65 90 32 (by decide) (by decide) (by decide) (by decide) (by decide) (by decide) hl
 exact xw0
theorem qP {G : Glo} (s t : List UInt8) (hl : s.length ≤ 9223372036854775807) (hm : t.length ≤ 9223372036854775807) : FnIs Tryz.prog G 53 [.str s, .str t] (.bool (seqB (al 97 122 (-32) s) (al 97 122 (-32) t))) := by
 have hGL : ad G [] := ab
 refine fn_x Tryz.func53 Tryz.call53 rfl rfl rfl rfl hGL ?_
 intro C hC
 have h1 := dG (G := G) s hl
 have h2 := dG (G := G) t hm
 exact xw0
def bn (c : Int) : Bool := decide ((97 ≤ c ∧ c ≤ 122) ∨ (65 ≤ c ∧ c ≤ 90) ∨ (48 ≤ c ∧ c ≤ 57) ∨ c = 45)
theorem mg {c : Int} : bn c = true ↔ ((97 ≤ c ∧ c ≤ 122) ∨ (65 ≤ c ∧ c ≤ 90) ∨ (48 ≤ c ∧ c ≤ 57) ∨ c = 45) := by simp [bn]
attribute [local irreducible] bn
theorem iD {G : Glo} (c : Int) : FnIs Tryz.prog G 148 [.int .u8 c] (.bool (bn c)) := by
 have hGL : ad G [] := ab
 refine fn_x Tryz.func148 Tryz.call148 rfl rfl rfl rfl hGL ?_
 intro C hC
 refine xw ?_
 repeat' (first | exact Le.n | refine Lc.mk ?_ ?_)
 all_goals intros
 all_goals (apply aj; refine congrArg AVal.bool ?_; rw [Bool.eq_iff_iff]; simp only [mg, dc, true_iff]; omega)
def allB (f : Int → Bool) (s : List UInt8) : Bool := s.all fun c => f (c.toNat : Int)
theorem pS {f : Int → Bool} {s : List UInt8} : allB f s = true ↔ ∀ j, j < s.length → f (aa s j) = true := by
 unfold allB
 rw [List.all_eq_true]
 constructor
 ·intro h j hj
  have := h s[j] (List.getElem_mem hj)
  simpa [aa, List.getD, hj] using this
 ·intro h c hc
  obtain ⟨j, hj, rfl⟩ := List.getElem_of_mem hc
  simpa [aa, List.getD, hj] using h j hj
theorem DK {f : Int → Bool} {s : List UInt8} {j : Nat} (hj : j < s.length) (h : f (aa s j) = false) : allB f s = false := by
 rw [Bool.eq_false_iff]
 intro h2
 rw [pS.1 h2 j hj] at h
 cases h
theorem bF {p : Nat → Prop} {i : Nat} (h : ∀ j, j < i → p j) (k : p i) : ∀ j, j < i + 1 → p j := by
 intro j hj
 by_cases e : j = i
 ·subst e; exact k
 ·exact h j (by omega)
def isS (s : List UInt8) : Bool := allB bn s && (decide (s.length ≠ 0) && decide (s.length ≤ 40))
theorem kU {G : Glo} (s : List UInt8) (hl : s.length ≤ 9223372036854775807) : FnIs Tryz.prog G 97 [.str s] (.bool (isS s)) := by
 have hGL : ad G [] := ab
 refine fn_x Tryz.func97 Tryz.call97 rfl rfl rfl rfl hGL ?_
 intro C hC
 refine xw1 ?_
 intros
 refine lp hC hGL (fun (i : Nat) => [(0, .str s), (5, .int .i64 s.length), (6, .int .i64 i)]) (fun _ => []) (fun i => i ≤ s.length ∧ ∀ j, j < i → bn (aa s j) = true) (fun i => s.length - i) 0 ?_ ai rfl ?_
 ·exact ⟨Nat.zero_le _, by intro j hj; omega⟩
 rintro i ⟨hi, hb0⟩
 repeat' (first | (conv => whnf); first | refine .w ?_ | refine .v ?_ | refine sc_c ?_ ?_ <;> (intro hb; try exact dd hb) | apply an | apply az | (apply sc_i <;> intro hb) | (apply bx_i; intro hbd) | (apply ar; first | exact iD _) | (apply ap (i := 0) rfl; first | exact iD _) | (apply ab_i; intro bl) | (apply as_i; intro va vk vc hva) | (apply av_i; intro v) | (apply ac_i; intro bl cap hcap) | apply bo_l | (apply nx_i <;> intro hnx) | exact rt_w | apply dw_q mixed hC hGL (by kernel_rfl) | (apply cq; assumption; (first | exact iD _); exact rfl))
 all_goals try conv => whnf
 ·refine nxt (i + 1) ?_ ?_ ai rfl
  ·exact ⟨by omega, bF hb0 hb⟩
  ·omega
 ·apply aj
  rw [isS, DK (by omega) hb]
  rfl
 all_goals (
  apply aj
  refine congrArg AVal.bool ?_
  have ha : allB bn s = true := pS.2 fun j hj => hb0 j (by omega)
  have e : isS s = true ↔ (s.length ≠ 0 ∧ s.length ≤ 40) := by simp only [isS, ha, Bool.true_and, Bool.and_eq_true, decide_eq_true_eq]
  rw [Bool.eq_iff_iff, e]
  try simp only [Bool.not_eq_true', g8, reduceCtorEq, false_iff]
  omega)
theorem cr {G : Glo} (m low high : Int) : FnIs Tryz.prog G 35 [.int .i64 m, .int .i64 low, .int .i64 high] (.bool (decide (low ≤ m) && decide (m ≤ high))) := by
 have hGL : ad G [] := ab
 refine fn_x Tryz.func35 Tryz.call35 rfl rfl rfl rfl hGL ?_
 intro C hC
 refine xw ?_
 repeat' (first | exact Le.n | refine Lc.mk ?_ ?_)
 all_goals intros
 all_goals (apply aj; refine congrArg AVal.bool ?_; rw [Bool.eq_iff_iff]; simp [g8, Bool.not_eq_true'] <;> omega)
end
end Go.Proofs.YtahebkecmlmlfaaGreatDoor
namespace Go.Proofs
open Go.Shelf
def Tryz.lays159_ren : Go.Shelf.Ren := ⟨fun | 159 => 122 | 165 => 125 | 166 => 40 | 167 => 169 | 169 => 42 | 230 => 170 | 204 => 171 | 240 => 75 | 241 => 176 | 197 => 160 | 118 => 198 | 168 => 199 | 270 => 200 | 262 => 201 | 276 => 131 | 277 => 207 | 260 => 190 | 242 => 219 | 313 => 220 | 278 => 229 | 274 => 230 | 275 => 231 | n => n, fun | 9 => 9 | 4 => 4 | 3 => 3 | 5 => 5 | 72 => 94 | 0 => 0 | 76 => 96 | 75 => 38 | 107 => 231 | 70 => 91 | 20 => 20 | 37 => 92 | 127 => 137 | 21 => 21 | 105 => 216 | 164 => 174 | 162 => 309 | 203 => 307 | 119 => 160 | 46 => 238 | 139 => 297 | 138 => 296 | 51 => 202 | 160 => 325 | 208 => 342 | 206 => 340 | 80 => 99 | n => n, fun | 13 => 10 | 3 => 8 | 4 => 9 | n => n⟩
theorem Tryz.lays159 : Go.Proofs.Lays.n159 Tryz.prog Tryz.lays159_ren := {
 mixed := by kernel_rfl
 f118 := Tryz.func198.trans (congrArg some (by kernel_rfl))
 f159 := Tryz.func122.trans (congrArg some (by kernel_rfl))
 f165 := Tryz.func125.trans (congrArg some (by kernel_rfl))
 f166 := Tryz.func40.trans (congrArg some (by kernel_rfl))
 f167 := Tryz.func169.trans (congrArg some (by kernel_rfl))
 f168 := Tryz.func199.trans (congrArg some (by kernel_rfl))
 f169 := Tryz.func42.trans (congrArg some (by kernel_rfl))
 f197 := Tryz.func160.trans (congrArg some (by kernel_rfl))
 f204 := Tryz.func171.trans (congrArg some (by kernel_rfl))
 f230 := Tryz.func170.trans (congrArg some (by kernel_rfl))
 f240 := Tryz.func75.trans (congrArg some (by kernel_rfl))
 f241 := Tryz.func176.trans (congrArg some (by kernel_rfl))
 f242 := Tryz.func219.trans (congrArg some (by kernel_rfl))
 f260 := Tryz.func190.trans (congrArg some (by kernel_rfl))
 f262 := Tryz.func201.trans (congrArg some (by kernel_rfl))
 f270 := Tryz.func200.trans (congrArg some (by kernel_rfl))
 f274 := Tryz.func230.trans (congrArg some (by kernel_rfl))
 f275 := Tryz.func231.trans (congrArg some (by kernel_rfl))
 f276 := Tryz.func131.trans (congrArg some (by kernel_rfl))
 f277 := Tryz.func207.trans (congrArg some (by kernel_rfl))
 f278 := Tryz.func229.trans (congrArg some (by kernel_rfl))
 f313 := Tryz.func220.trans (congrArg some (by kernel_rfl))
 t0 := Tryz.underlying0
 a0 := Tryz.isAgg0
 z0 := Tryz.sizeOf0
 v0 := Tryz.zeroValue0
 t3 := Tryz.underlying3
 a3 := Tryz.isAgg3
 z3 := Tryz.sizeOf3
 v3 := Tryz.zeroValue3
 t4 := Tryz.underlying4
 a4 := Tryz.isAgg4
 z4 := Tryz.sizeOf4
 v4 := Tryz.zeroValue4
 t5 := Tryz.underlying5
 a5 := Tryz.isAgg5
 z5 := Tryz.sizeOf5
 v5 := Tryz.zeroValue5
 t9 := Tryz.underlying9
 a9 := Tryz.isAgg9
 z9 := Tryz.sizeOf9
 v9 := Tryz.zeroValue9
 t20 := Tryz.underlying20
 a20 := Tryz.isAgg20
 z20 := Tryz.sizeOf20
 v20 := Tryz.zeroValue20
 t21 := Tryz.underlying21
 a21 := Tryz.isAgg21
 z21 := Tryz.sizeOf21
 v21 := Tryz.zeroValue21
 t37 := Tryz.underlying92
 a37 := Tryz.isAgg92
 z37 := Tryz.sizeOf92
 v37 := Tryz.zeroValue92
 t46 := Tryz.underlying238
 a46 := Tryz.isAgg238
 z46 := Tryz.sizeOf238
 v46 := Tryz.zeroValue238
 t51 := Tryz.underlying202
 a51 := Tryz.isAgg202
 z51 := Tryz.sizeOf202
 v51 := Tryz.zeroValue202
 t70 := Tryz.underlying91
 a70 := Tryz.isAgg91
 z70 := Tryz.sizeOf91
 v70 := Tryz.zeroValue91
 t72 := Tryz.underlying94
 a72 := Tryz.isAgg94
 z72 := Tryz.sizeOf94
 v72 := Tryz.zeroValue94
 t75 := Tryz.underlying38
 a75 := Tryz.isAgg38
 z75 := Tryz.sizeOf38
 v75 := Tryz.zeroValue38
 t76 := Tryz.underlying96
 a76 := Tryz.isAgg96
 z76 := Tryz.sizeOf96
 v76 := Tryz.zeroValue96
 t105 := Tryz.underlying216
 a105 := Tryz.isAgg216
 z105 := Tryz.sizeOf216
 v105 := Tryz.zeroValue216
 t107 := Tryz.underlying231
 a107 := Tryz.isAgg231
 z107 := Tryz.sizeOf231
 v107 := Tryz.zeroValue231
 t119 := Tryz.underlying160
 a119 := Tryz.isAgg160
 z119 := Tryz.sizeOf160
 t127 := Tryz.underlying137
 a127 := Tryz.isAgg137
 z127 := Tryz.sizeOf137
 v127 := Tryz.zeroValue137
 t138 := Tryz.underlying296
 a138 := Tryz.isAgg296
 z138 := Tryz.sizeOf296
 v138 := Tryz.zeroValue296
 t139 := Tryz.underlying297
 a139 := Tryz.isAgg297
 z139 := Tryz.sizeOf297
 v139 := Tryz.zeroValue297
 t160 := Tryz.underlying325
 a160 := Tryz.isAgg325
 z160 := Tryz.sizeOf325
 v160 := Tryz.zeroValue325
 t162 := Tryz.underlying309
 a162 := Tryz.isAgg309
 z162 := Tryz.sizeOf309
 v162 := Tryz.zeroValue309
 t164 := Tryz.underlying174
 a164 := Tryz.isAgg174
 z164 := Tryz.sizeOf174
 v164 := Tryz.zeroValue174
 t203 := Tryz.underlying307
 a203 := Tryz.isAgg307
 z203 := Tryz.sizeOf307
 v203 := Tryz.zeroValue307
 t206 := Tryz.underlying340
 a206 := Tryz.isAgg340
 z206 := Tryz.sizeOf340
 v206 := Tryz.zeroValue340
 t208 := Tryz.underlying342
 a208 := Tryz.isAgg342
 z208 := Tryz.sizeOf342
 v208 := Tryz.zeroValue342
 g3 := by kernel_rfl
 g4 := by kernel_rfl
 g13 := by kernel_rfl }
theorem Tryz.Builder_Extra_159 : Builder.Extra Tryz.prog Tryz.lays159_ren := {
 sizeBuilder := by kernel_rfl
 liesBuilder := by kernel_rfl
 t5 := Tryz.underlying5
 a5 := Tryz.isAgg5
 z5 := Tryz.sizeOf5
 v5 := Tryz.zeroValue5
 infoByte := by kernel_rfl
 cellsByte := by kernel_rfl
 sizeByte := by kernel_rfl
 neB5 := by decide }
open Go.RowKit in
theorem Tryz.strings_ToLower_ascii (s : ByteArray) (w : World) (hs : s.size ≤ 140737488355328) (hascii : ∀ (j : Nat) (b : UInt8), s.data.toList[j]? = some b → b.toNat < 128) :
  Calls Tryz.prog 122 #[.string s] w fun e w' => e = .returned (.string ⟨(Lib.toLowerA s.data.toList).toArray⟩) ∧ Below w.heap.size w w' := Any.strings_ToLower_ascii Tryz.lays159 Tryz.Builder_Extra_159 s w hs hascii
def Tryz.lays156_ren : Go.Shelf.Ren := ⟨fun | 156 => 71 | 165 => 125 | 166 => 40 | 169 => 42 | 240 => 75 | 241 => 176 | 276 => 131 | 277 => 207 | n => n, fun | 31 => 67 | 9 => 9 | 3 => 3 | 4 => 4 | 0 => 0 | 20 => 20 | 72 => 94 | 76 => 96 | 70 => 91 | 37 => 92 | 75 => 38 | 127 => 137 | 164 => 174 | 5 => 5 | 80 => 99 | n => n, fun | n => n⟩
theorem Tryz.lays156 : Go.Proofs.Lays.n156 Tryz.prog Tryz.lays156_ren := {
 mixed := by kernel_rfl
 f156 := Tryz.func71.trans (congrArg some (by kernel_rfl))
 f165 := Tryz.func125.trans (congrArg some (by kernel_rfl))
 f166 := Tryz.func40.trans (congrArg some (by kernel_rfl))
 f169 := Tryz.func42.trans (congrArg some (by kernel_rfl))
 f240 := Tryz.func75.trans (congrArg some (by kernel_rfl))
 f241 := Tryz.func176.trans (congrArg some (by kernel_rfl))
 f276 := Tryz.func131.trans (congrArg some (by kernel_rfl))
 f277 := Tryz.func207.trans (congrArg some (by kernel_rfl))
 t0 := Tryz.underlying0
 a0 := Tryz.isAgg0
 z0 := Tryz.sizeOf0
 v0 := Tryz.zeroValue0
 t3 := Tryz.underlying3
 a3 := Tryz.isAgg3
 z3 := Tryz.sizeOf3
 v3 := Tryz.zeroValue3
 t4 := Tryz.underlying4
 a4 := Tryz.isAgg4
 z4 := Tryz.sizeOf4
 v4 := Tryz.zeroValue4
 t9 := Tryz.underlying9
 a9 := Tryz.isAgg9
 z9 := Tryz.sizeOf9
 v9 := Tryz.zeroValue9
 t20 := Tryz.underlying20
 a20 := Tryz.isAgg20
 z20 := Tryz.sizeOf20
 v20 := Tryz.zeroValue20
 t31 := Tryz.underlying67
 a31 := Tryz.isAgg67
 z31 := Tryz.sizeOf67
 v31 := Tryz.zeroValue67
 t37 := Tryz.underlying92
 a37 := Tryz.isAgg92
 z37 := Tryz.sizeOf92
 v37 := Tryz.zeroValue92
 t70 := Tryz.underlying91
 a70 := Tryz.isAgg91
 z70 := Tryz.sizeOf91
 v70 := Tryz.zeroValue91
 t72 := Tryz.underlying94
 a72 := Tryz.isAgg94
 z72 := Tryz.sizeOf94
 v72 := Tryz.zeroValue94
 t75 := Tryz.underlying38
 a75 := Tryz.isAgg38
 z75 := Tryz.sizeOf38
 v75 := Tryz.zeroValue38
 t76 := Tryz.underlying96
 a76 := Tryz.isAgg96
 z76 := Tryz.sizeOf96
 v76 := Tryz.zeroValue96
 t127 := Tryz.underlying137
 a127 := Tryz.isAgg137
 z127 := Tryz.sizeOf137
 v127 := Tryz.zeroValue137
 t164 := Tryz.underlying174
 a164 := Tryz.isAgg174
 z164 := Tryz.sizeOf174
 v164 := Tryz.zeroValue174 }
theorem Tryz.Builder_Extra_156 : Builder.Extra Tryz.prog Tryz.lays156_ren := {
 sizeBuilder := by kernel_rfl
 liesBuilder := by kernel_rfl
 t5 := Tryz.underlying5
 a5 := Tryz.isAgg5
 z5 := Tryz.sizeOf5
 v5 := Tryz.zeroValue5
 infoByte := by kernel_rfl
 cellsByte := by kernel_rfl
 sizeByte := by kernel_rfl
 neB5 := by decide }
open Go.RowKit in
theorem Tryz.strings_Join_none (a : Option Addr) (c : Nat) (sep : ByteArray) (w : World) :
  Calls Tryz.prog 71 #[.slice a 0 c, .string sep] w fun e w' => e = .returned (.string ⟨#[]⟩) ∧ w' = w := Any.strings_Join_none Tryz.lays156 Tryz.Builder_Extra_156 a c sep w
open Go.RowKit in
theorem Tryz.strings_Join (bk o c : Nat) (xs : List ByteArray) (sep : ByteArray) (w : World) (hcells : ∀ (j : Nat) x, xs[j]? = some x → w.cell? ⟨bk, o + j, none⟩ = some (.string x)) (hbk : bk < w.heap.size) (hN : xs.length ≤ 140737488355328) (hcap : xs.length ≤ c) (hlen : (Lib.join (xs.map (·.data.toList)) sep.data.toList).length ≤ 140737488355328) :
  Calls Tryz.prog 71 #[.slice (some ⟨bk, o, none⟩) xs.length c, .string sep] w fun e w' => e = .returned (.string ⟨(Lib.join (xs.map (·.data.toList)) sep.data.toList).toArray⟩) ∧ Below w.heap.size w w' := Any.strings_Join Tryz.lays156 Tryz.Builder_Extra_156 bk o c xs sep w hcells hbk hN hcap hlen
def Tryz.laysM171_ren : Go.Shelf.Ren := ⟨fun | 171 => 37 | 243 => 68 | 246 => 123 | 283 => 172 | 284 => 173 | 285 => 174 | 286 => 175 | 129 => 203 | 317 => 202 | 318 => 204 | 319 => 205 | 320 => 206 | 337 => 221 | 338 => 222 | n => n, fun | 3 => 3 | 9 => 9 | 2 => 2 | 4 => 4 | 171 => 232 | 0 => 0 | 53 => 233 | 37 => 92 | 5 => 5 | 173 => 236 | 212 => 277 | 51 => 202 | 20 => 20 | 213 => 278 | 46 => 238 | 232 => 328 | 233 => 329 | n => n, fun | 17 => 7 | 18 => 11 | 19 => 12 | n => n⟩
theorem Tryz.laysM171 : Go.Proofs.LaysM.n171 Tryz.prog Tryz.laysM171_ren := {
 mixed := by kernel_rfl
 f129 := Tryz.func203.trans (congrArg some (by kernel_rfl))
 f171 := Tryz.func37.trans (congrArg some (by kernel_rfl))
 f243 := Tryz.func68.trans (congrArg some (by kernel_rfl))
 f246 := Tryz.func123.trans (congrArg some (by kernel_rfl))
 f283 := Tryz.func172.trans (congrArg some (by kernel_rfl))
 f284 := Tryz.func173.trans (congrArg some (by kernel_rfl))
 f285 := Tryz.func174.trans (congrArg some (by kernel_rfl))
 f286 := Tryz.func175.trans (congrArg some (by kernel_rfl))
 f317 := Tryz.func202.trans (congrArg some (by kernel_rfl))
 f318 := Tryz.func204.trans (congrArg some (by kernel_rfl))
 f319 := Tryz.func205.trans (congrArg some (by kernel_rfl))
 f320 := Tryz.func206.trans (congrArg some (by kernel_rfl))
 f337 := Tryz.func221.trans (congrArg some (by kernel_rfl))
 f338 := Tryz.func222.trans (congrArg some (by kernel_rfl))
 t0 := Tryz.underlying0
 a0 := Tryz.isAgg0
 z0 := Tryz.sizeOf0
 v0 := Tryz.zeroValue0
 t2 := Tryz.underlying2
 a2 := Tryz.isAgg2
 z2 := Tryz.sizeOf2
 v2 := Tryz.zeroValue2
 t3 := Tryz.underlying3
 a3 := Tryz.isAgg3
 z3 := Tryz.sizeOf3
 v3 := Tryz.zeroValue3
 t4 := Tryz.underlying4
 a4 := Tryz.isAgg4
 z4 := Tryz.sizeOf4
 v4 := Tryz.zeroValue4
 t5 := Tryz.underlying5
 a5 := Tryz.isAgg5
 z5 := Tryz.sizeOf5
 v5 := Tryz.zeroValue5
 t9 := Tryz.underlying9
 a9 := Tryz.isAgg9
 z9 := Tryz.sizeOf9
 v9 := Tryz.zeroValue9
 t20 := Tryz.underlying20
 a20 := Tryz.isAgg20
 z20 := Tryz.sizeOf20
 v20 := Tryz.zeroValue20
 t37 := Tryz.underlying92
 a37 := Tryz.isAgg92
 z37 := Tryz.sizeOf92
 v37 := Tryz.zeroValue92
 t46 := Tryz.underlying238
 a46 := Tryz.isAgg238
 z46 := Tryz.sizeOf238
 v46 := Tryz.zeroValue238
 t51 := Tryz.underlying202
 a51 := Tryz.isAgg202
 z51 := Tryz.sizeOf202
 v51 := Tryz.zeroValue202
 t53 := Tryz.underlying233
 a53 := Tryz.isAgg233
 z53 := Tryz.sizeOf233
 v53 := Tryz.zeroValue233
 t171 := Tryz.underlying232
 a171 := Tryz.isAgg232
 z171 := Tryz.sizeOf232
 v171 := Tryz.zeroValue232
 t173 := Tryz.underlying236
 a173 := Tryz.isAgg236
 z173 := Tryz.sizeOf236
 v173 := Tryz.zeroValue236
 t212 := Tryz.underlying277
 a212 := Tryz.isAgg277
 z212 := Tryz.sizeOf277
 v212 := Tryz.zeroValue277
 t213 := Tryz.underlying278
 a213 := Tryz.isAgg278
 z213 := Tryz.sizeOf278
 t232 := Tryz.underlying328
 a232 := Tryz.isAgg328
 z232 := Tryz.sizeOf328
 v232 := Tryz.zeroValue328
 t233 := Tryz.underlying329
 a233 := Tryz.isAgg329
 z233 := Tryz.sizeOf329
 v233 := Tryz.zeroValue329
 g17 := by kernel_rfl
 g18 := by kernel_rfl
 g19 := by kernel_rfl
 i0 := by kernel_rfl
 i2 := by kernel_rfl
 i3 := by kernel_rfl
 i4 := by kernel_rfl
 i5 := by kernel_rfl
 i9 := by kernel_rfl
 i20 := by kernel_rfl
 i37 := by kernel_rfl
 i46 := by kernel_rfl
 i51 := by kernel_rfl
 i53 := by kernel_rfl
 i171 := by kernel_rfl
 i173 := by kernel_rfl
 i212 := by kernel_rfl
 i232 := by kernel_rfl
 i233 := by kernel_rfl
 m17 := by kernel_rfl
 m18 := by kernel_rfl
 m19 := by kernel_rfl }
open Go.RowKit Go.Sort Go.Lib in
theorem Tryz.strconv_Itoa (n : Int) (h0 : -9223372036854775808 ≤ n) (h1 : n ≤ 9223372036854775807) (w : World) (htab : Lib.TabIs Tryz.prog w "internal/strconv.uint64pow10" .u64 Lib.pow10Tab) :
  Calls Tryz.prog 37 #[.int .i64 n] w fun e w' => e = .returned (.string ⟨(Lib.itoa n).toArray⟩) ∧ ∃ k os, w' = grow (w.drewN k) os := Any.strconv_Itoa Tryz.laysM171 n h0 h1 w htab
def Tryz.laysM173_ren : Go.Shelf.Ren := ⟨fun | 173 => 186 | 246 => 123 | 283 => 172 | 284 => 173 | 285 => 174 | 286 => 175 | 129 => 203 | 317 => 202 | 318 => 204 | 319 => 205 | 320 => 206 | 337 => 221 | 338 => 222 | n => n, fun | 2 => 2 | 3 => 3 | 9 => 9 | 4 => 4 | 171 => 232 | 0 => 0 | 53 => 233 | 37 => 92 | 5 => 5 | 173 => 236 | 212 => 277 | 51 => 202 | 20 => 20 | 213 => 278 | 46 => 238 | 232 => 328 | 233 => 329 | n => n, fun | 17 => 7 | 18 => 11 | 19 => 12 | n => n⟩
theorem Tryz.laysM173 : Go.Proofs.LaysM.n173 Tryz.prog Tryz.laysM173_ren := {
 mixed := by kernel_rfl
 f129 := Tryz.func203.trans (congrArg some (by kernel_rfl))
 f173 := Tryz.func186.trans (congrArg some (by kernel_rfl))
 f246 := Tryz.func123.trans (congrArg some (by kernel_rfl))
 f283 := Tryz.func172.trans (congrArg some (by kernel_rfl))
 f284 := Tryz.func173.trans (congrArg some (by kernel_rfl))
 f285 := Tryz.func174.trans (congrArg some (by kernel_rfl))
 f286 := Tryz.func175.trans (congrArg some (by kernel_rfl))
 f317 := Tryz.func202.trans (congrArg some (by kernel_rfl))
 f318 := Tryz.func204.trans (congrArg some (by kernel_rfl))
 f319 := Tryz.func205.trans (congrArg some (by kernel_rfl))
 f320 := Tryz.func206.trans (congrArg some (by kernel_rfl))
 f337 := Tryz.func221.trans (congrArg some (by kernel_rfl))
 f338 := Tryz.func222.trans (congrArg some (by kernel_rfl))
 t0 := Tryz.underlying0
 a0 := Tryz.isAgg0
 z0 := Tryz.sizeOf0
 v0 := Tryz.zeroValue0
 t2 := Tryz.underlying2
 a2 := Tryz.isAgg2
 z2 := Tryz.sizeOf2
 v2 := Tryz.zeroValue2
 t3 := Tryz.underlying3
 a3 := Tryz.isAgg3
 z3 := Tryz.sizeOf3
 v3 := Tryz.zeroValue3
 t4 := Tryz.underlying4
 a4 := Tryz.isAgg4
 z4 := Tryz.sizeOf4
 v4 := Tryz.zeroValue4
 t5 := Tryz.underlying5
 a5 := Tryz.isAgg5
 z5 := Tryz.sizeOf5
 v5 := Tryz.zeroValue5
 t9 := Tryz.underlying9
 a9 := Tryz.isAgg9
 z9 := Tryz.sizeOf9
 v9 := Tryz.zeroValue9
 t20 := Tryz.underlying20
 a20 := Tryz.isAgg20
 z20 := Tryz.sizeOf20
 v20 := Tryz.zeroValue20
 t37 := Tryz.underlying92
 a37 := Tryz.isAgg92
 z37 := Tryz.sizeOf92
 v37 := Tryz.zeroValue92
 t46 := Tryz.underlying238
 a46 := Tryz.isAgg238
 z46 := Tryz.sizeOf238
 v46 := Tryz.zeroValue238
 t51 := Tryz.underlying202
 a51 := Tryz.isAgg202
 z51 := Tryz.sizeOf202
 v51 := Tryz.zeroValue202
 t53 := Tryz.underlying233
 a53 := Tryz.isAgg233
 z53 := Tryz.sizeOf233
 v53 := Tryz.zeroValue233
 t171 := Tryz.underlying232
 a171 := Tryz.isAgg232
 z171 := Tryz.sizeOf232
 v171 := Tryz.zeroValue232
 t173 := Tryz.underlying236
 a173 := Tryz.isAgg236
 z173 := Tryz.sizeOf236
 v173 := Tryz.zeroValue236
 t212 := Tryz.underlying277
 a212 := Tryz.isAgg277
 z212 := Tryz.sizeOf277
 v212 := Tryz.zeroValue277
 t213 := Tryz.underlying278
 a213 := Tryz.isAgg278
 z213 := Tryz.sizeOf278
 t232 := Tryz.underlying328
 a232 := Tryz.isAgg328
 z232 := Tryz.sizeOf328
 v232 := Tryz.zeroValue328
 t233 := Tryz.underlying329
 a233 := Tryz.isAgg329
 z233 := Tryz.sizeOf329
 v233 := Tryz.zeroValue329
 g17 := by kernel_rfl
 g18 := by kernel_rfl
 g19 := by kernel_rfl
 i0 := by kernel_rfl
 i2 := by kernel_rfl
 i3 := by kernel_rfl
 i4 := by kernel_rfl
 i5 := by kernel_rfl
 i9 := by kernel_rfl
 i20 := by kernel_rfl
 i37 := by kernel_rfl
 i46 := by kernel_rfl
 i51 := by kernel_rfl
 i53 := by kernel_rfl
 i171 := by kernel_rfl
 i173 := by kernel_rfl
 i212 := by kernel_rfl
 i232 := by kernel_rfl
 i233 := by kernel_rfl
 m17 := by kernel_rfl
 m18 := by kernel_rfl
 m19 := by kernel_rfl }
open Go.RowKit Go.Sort Go.Lib in
theorem Tryz.strconv_FormatInt_10 (n : Int) (h0 : -9223372036854775808 ≤ n) (h1 : n ≤ 9223372036854775807) (w : World) (htab : Lib.TabIs Tryz.prog w "internal/strconv.uint64pow10" .u64 Lib.pow10Tab) :
  Calls Tryz.prog 186 #[.int .i64 n, .int .i64 10] w fun e w' => e = .returned (.string ⟨(Lib.itoa n).toArray⟩) ∧ ∃ k os, w' = grow (w.drewN k) os := Any.strconv_FormatInt_10 Tryz.laysM173 n h0 h1 w htab
def Tryz.lays173_ren : Go.Shelf.Ren := ⟨fun | 173 => 186 | 246 => 123 | 283 => 172 | 284 => 173 | 285 => 174 | 286 => 175 | 129 => 203 | 317 => 202 | 318 => 204 | 319 => 205 | 320 => 206 | 337 => 221 | 338 => 222 | n => n, fun | 2 => 2 | 3 => 3 | 9 => 9 | 4 => 4 | 171 => 232 | 0 => 0 | 53 => 233 | 37 => 92 | 5 => 5 | 173 => 236 | 212 => 277 | 51 => 202 | 20 => 20 | 213 => 278 | 46 => 238 | 232 => 328 | 233 => 329 | n => n, fun | 17 => 7 | 18 => 11 | 19 => 12 | n => n⟩
theorem Tryz.lays173 : Go.Proofs.Lays.n173 Tryz.prog Tryz.lays173_ren := {
 mixed := by kernel_rfl
 f129 := Tryz.func203.trans (congrArg some (by kernel_rfl))
 f173 := Tryz.func186.trans (congrArg some (by kernel_rfl))
 f246 := Tryz.func123.trans (congrArg some (by kernel_rfl))
 f283 := Tryz.func172.trans (congrArg some (by kernel_rfl))
 f284 := Tryz.func173.trans (congrArg some (by kernel_rfl))
 f285 := Tryz.func174.trans (congrArg some (by kernel_rfl))
 f286 := Tryz.func175.trans (congrArg some (by kernel_rfl))
 f317 := Tryz.func202.trans (congrArg some (by kernel_rfl))
 f318 := Tryz.func204.trans (congrArg some (by kernel_rfl))
 f319 := Tryz.func205.trans (congrArg some (by kernel_rfl))
 f320 := Tryz.func206.trans (congrArg some (by kernel_rfl))
 f337 := Tryz.func221.trans (congrArg some (by kernel_rfl))
 f338 := Tryz.func222.trans (congrArg some (by kernel_rfl))
 t0 := Tryz.underlying0
 a0 := Tryz.isAgg0
 z0 := Tryz.sizeOf0
 v0 := Tryz.zeroValue0
 t2 := Tryz.underlying2
 a2 := Tryz.isAgg2
 z2 := Tryz.sizeOf2
 v2 := Tryz.zeroValue2
 t3 := Tryz.underlying3
 a3 := Tryz.isAgg3
 z3 := Tryz.sizeOf3
 v3 := Tryz.zeroValue3
 t4 := Tryz.underlying4
 a4 := Tryz.isAgg4
 z4 := Tryz.sizeOf4
 v4 := Tryz.zeroValue4
 t5 := Tryz.underlying5
 a5 := Tryz.isAgg5
 z5 := Tryz.sizeOf5
 v5 := Tryz.zeroValue5
 t9 := Tryz.underlying9
 a9 := Tryz.isAgg9
 z9 := Tryz.sizeOf9
 v9 := Tryz.zeroValue9
 t20 := Tryz.underlying20
 a20 := Tryz.isAgg20
 z20 := Tryz.sizeOf20
 v20 := Tryz.zeroValue20
 t37 := Tryz.underlying92
 a37 := Tryz.isAgg92
 z37 := Tryz.sizeOf92
 v37 := Tryz.zeroValue92
 t46 := Tryz.underlying238
 a46 := Tryz.isAgg238
 z46 := Tryz.sizeOf238
 v46 := Tryz.zeroValue238
 t51 := Tryz.underlying202
 a51 := Tryz.isAgg202
 z51 := Tryz.sizeOf202
 v51 := Tryz.zeroValue202
 t53 := Tryz.underlying233
 a53 := Tryz.isAgg233
 z53 := Tryz.sizeOf233
 v53 := Tryz.zeroValue233
 t171 := Tryz.underlying232
 a171 := Tryz.isAgg232
 z171 := Tryz.sizeOf232
 v171 := Tryz.zeroValue232
 t173 := Tryz.underlying236
 a173 := Tryz.isAgg236
 z173 := Tryz.sizeOf236
 v173 := Tryz.zeroValue236
 t212 := Tryz.underlying277
 a212 := Tryz.isAgg277
 z212 := Tryz.sizeOf277
 v212 := Tryz.zeroValue277
 t213 := Tryz.underlying278
 a213 := Tryz.isAgg278
 z213 := Tryz.sizeOf278
 t232 := Tryz.underlying328
 a232 := Tryz.isAgg328
 z232 := Tryz.sizeOf328
 v232 := Tryz.zeroValue328
 t233 := Tryz.underlying329
 a233 := Tryz.isAgg329
 z233 := Tryz.sizeOf329
 v233 := Tryz.zeroValue329
 g17 := by kernel_rfl
 g18 := by kernel_rfl
 g19 := by kernel_rfl }
open Go.RowKit Go.Sort Go.Lib in
theorem Tryz.strconv_FormatInt_10_small (i : Nat) (hi : i < 100) (w : World) :
  Calls Tryz.prog 186 #[.int .i64 i, .int .i64 10] w fun e w' => e = .returned (.string ⟨(Lib.decDigits i).toArray⟩) ∧ w' = w := Any.strconv_FormatInt_10_small Tryz.lays173 i hi w
def Tryz.laysC172_ren : Go.Shelf.Ren := ⟨fun | 172 => 65 | 244 => 119 | 245 => 120 | 247 => 163 | 279 => 164 | 280 => 165 | 281 => 166 | 282 => 167 | 287 => 194 | 316 => 195 | 171 => 37 | 205 => 196 | 321 => 217 | 322 => 218 | 243 => 68 | 246 => 123 | 283 => 172 | 284 => 173 | 285 => 174 | 286 => 175 | 129 => 203 | 317 => 202 | 318 => 204 | 319 => 205 | 320 => 206 | 337 => 221 | 338 => 222 | n => n, fun | 9 => 9 | 3 => 3 | 75 => 38 | 76 => 96 | 4 => 4 | 5 => 5 | 167 => 223 | 37 => 92 | 0 => 0 | 85 => 224 | 2 => 2 | 168 => 226 | 53 => 233 | 175 => 269 | 46 => 238 | 210 => 272 | 127 => 137 | 145 => 305 | 143 => 303 | 21 => 21 | 171 => 232 | 173 => 236 | 212 => 277 | 51 => 202 | 20 => 20 | 213 => 278 | 232 => 328 | 233 => 329 | 80 => 99 | n => n, fun | 15 => 5 | 16 => 6 | 17 => 7 | 18 => 11 | 19 => 12 | n => n⟩
theorem Tryz.laysC172 : Go.Proofs.LaysC.n172 Tryz.prog Tryz.laysC172_ren := {
 mixed := by kernel_rfl
 f129 := Tryz.func203.trans (congrArg some (by kernel_rfl))
 f171 := Tryz.func37.trans (congrArg some (by kernel_rfl))
 f172 := Tryz.func65.trans (congrArg some (by kernel_rfl))
 f205 := Tryz.func196.trans (congrArg some (by kernel_rfl))
 f243 := Tryz.func68.trans (congrArg some (by kernel_rfl))
 f244 := Tryz.func119.trans (congrArg some (by kernel_rfl))
 f245 := Tryz.func120.trans (congrArg some (by kernel_rfl))
 f246 := Tryz.func123.trans (congrArg some (by kernel_rfl))
 f247 := Tryz.func163.trans (congrArg some (by kernel_rfl))
 f279 := Tryz.func164.trans (congrArg some (by kernel_rfl))
 f280 := Tryz.func165.trans (congrArg some (by kernel_rfl))
 f281 := Tryz.func166.trans (congrArg some (by kernel_rfl))
 f282 := Tryz.func167.trans (congrArg some (by kernel_rfl))
 f283 := Tryz.func172.trans (congrArg some (by kernel_rfl))
 f284 := Tryz.func173.trans (congrArg some (by kernel_rfl))
 f285 := Tryz.func174.trans (congrArg some (by kernel_rfl))
 f286 := Tryz.func175.trans (congrArg some (by kernel_rfl))
 f287 := Tryz.func194.trans (congrArg some (by kernel_rfl))
 f316 := Tryz.func195.trans (congrArg some (by kernel_rfl))
 f317 := Tryz.func202.trans (congrArg some (by kernel_rfl))
 f318 := Tryz.func204.trans (congrArg some (by kernel_rfl))
 f319 := Tryz.func205.trans (congrArg some (by kernel_rfl))
 f320 := Tryz.func206.trans (congrArg some (by kernel_rfl))
 f321 := Tryz.func217.trans (congrArg some (by kernel_rfl))
 f322 := Tryz.func218.trans (congrArg some (by kernel_rfl))
 f337 := Tryz.func221.trans (congrArg some (by kernel_rfl))
 f338 := Tryz.func222.trans (congrArg some (by kernel_rfl))
 t0 := Tryz.underlying0
 a0 := Tryz.isAgg0
 z0 := Tryz.sizeOf0
 v0 := Tryz.zeroValue0
 t2 := Tryz.underlying2
 a2 := Tryz.isAgg2
 z2 := Tryz.sizeOf2
 v2 := Tryz.zeroValue2
 t3 := Tryz.underlying3
 a3 := Tryz.isAgg3
 z3 := Tryz.sizeOf3
 v3 := Tryz.zeroValue3
 t4 := Tryz.underlying4
 a4 := Tryz.isAgg4
 z4 := Tryz.sizeOf4
 v4 := Tryz.zeroValue4
 t5 := Tryz.underlying5
 a5 := Tryz.isAgg5
 z5 := Tryz.sizeOf5
 v5 := Tryz.zeroValue5
 t9 := Tryz.underlying9
 a9 := Tryz.isAgg9
 z9 := Tryz.sizeOf9
 v9 := Tryz.zeroValue9
 t20 := Tryz.underlying20
 a20 := Tryz.isAgg20
 z20 := Tryz.sizeOf20
 v20 := Tryz.zeroValue20
 t21 := Tryz.underlying21
 a21 := Tryz.isAgg21
 z21 := Tryz.sizeOf21
 v21 := Tryz.zeroValue21
 t37 := Tryz.underlying92
 a37 := Tryz.isAgg92
 z37 := Tryz.sizeOf92
 v37 := Tryz.zeroValue92
 t46 := Tryz.underlying238
 a46 := Tryz.isAgg238
 z46 := Tryz.sizeOf238
 v46 := Tryz.zeroValue238
 t51 := Tryz.underlying202
 a51 := Tryz.isAgg202
 z51 := Tryz.sizeOf202
 v51 := Tryz.zeroValue202
 t53 := Tryz.underlying233
 a53 := Tryz.isAgg233
 z53 := Tryz.sizeOf233
 v53 := Tryz.zeroValue233
 t75 := Tryz.underlying38
 a75 := Tryz.isAgg38
 z75 := Tryz.sizeOf38
 v75 := Tryz.zeroValue38
 t76 := Tryz.underlying96
 a76 := Tryz.isAgg96
 z76 := Tryz.sizeOf96
 v76 := Tryz.zeroValue96
 t85 := Tryz.underlying224
 a85 := Tryz.isAgg224
 z85 := Tryz.sizeOf224
 v85 := Tryz.zeroValue224
 t127 := Tryz.underlying137
 a127 := Tryz.isAgg137
 z127 := Tryz.sizeOf137
 v127 := Tryz.zeroValue137
 t143 := Tryz.underlying303
 a143 := Tryz.isAgg303
 z143 := Tryz.sizeOf303
 v143 := Tryz.zeroValue303
 t145 := Tryz.underlying305
 a145 := Tryz.isAgg305
 z145 := Tryz.sizeOf305
 v145 := Tryz.zeroValue305
 t167 := Tryz.underlying223
 a167 := Tryz.isAgg223
 z167 := Tryz.sizeOf223
 v167 := Tryz.zeroValue223
 t168 := Tryz.underlying226
 a168 := Tryz.isAgg226
 z168 := Tryz.sizeOf226
 v168 := Tryz.zeroValue226
 t171 := Tryz.underlying232
 a171 := Tryz.isAgg232
 z171 := Tryz.sizeOf232
 v171 := Tryz.zeroValue232
 t173 := Tryz.underlying236
 a173 := Tryz.isAgg236
 z173 := Tryz.sizeOf236
 v173 := Tryz.zeroValue236
 t175 := Tryz.underlying269
 a175 := Tryz.isAgg269
 z175 := Tryz.sizeOf269
 v175 := Tryz.zeroValue269
 t210 := Tryz.underlying272
 a210 := Tryz.isAgg272
 z210 := Tryz.sizeOf272
 v210 := Tryz.zeroValue272
 t212 := Tryz.underlying277
 a212 := Tryz.isAgg277
 z212 := Tryz.sizeOf277
 v212 := Tryz.zeroValue277
 t213 := Tryz.underlying278
 a213 := Tryz.isAgg278
 z213 := Tryz.sizeOf278
 t232 := Tryz.underlying328
 a232 := Tryz.isAgg328
 z232 := Tryz.sizeOf328
 v232 := Tryz.zeroValue328
 t233 := Tryz.underlying329
 a233 := Tryz.isAgg329
 z233 := Tryz.sizeOf329
 v233 := Tryz.zeroValue329
 g15 := by kernel_rfl
 g16 := by kernel_rfl
 g17 := by kernel_rfl
 g18 := by kernel_rfl
 g19 := by kernel_rfl
 t80 := Tryz.underlying99
 a80 := Tryz.isAgg99
 z80 := Tryz.sizeOf99
 v80 := Tryz.zeroValue99
 i0 := by kernel_rfl
 i2 := by kernel_rfl
 i3 := by kernel_rfl
 i4 := by kernel_rfl
 i5 := by kernel_rfl
 i9 := by kernel_rfl
 i20 := by kernel_rfl
 i21 := by kernel_rfl
 i37 := by kernel_rfl
 i46 := by kernel_rfl
 i51 := by kernel_rfl
 i53 := by kernel_rfl
 i75 := by kernel_rfl
 i76 := by kernel_rfl
 i80 := by kernel_rfl
 i85 := by kernel_rfl
 i127 := by kernel_rfl
 i143 := by kernel_rfl
 i145 := by kernel_rfl
 i167 := by kernel_rfl
 i168 := by kernel_rfl
 i171 := by kernel_rfl
 i173 := by kernel_rfl
 i175 := by kernel_rfl
 i210 := by kernel_rfl
 i212 := by kernel_rfl
 i232 := by kernel_rfl
 i233 := by kernel_rfl
 m15 := by kernel_rfl
 m16 := by kernel_rfl
 m17 := by kernel_rfl
 m18 := by kernel_rfl
 m19 := by kernel_rfl
 c0 := by kernel_rfl
 c2 := by kernel_rfl
 c3 := by kernel_rfl
 c4 := by kernel_rfl
 c5 := by kernel_rfl
 c9 := by kernel_rfl
 c20 := by kernel_rfl
 c21 := by kernel_rfl
 c37 := by kernel_rfl
 c46 := by kernel_rfl
 c51 := by kernel_rfl
 c53 := by kernel_rfl
 c75 := by kernel_rfl
 c76 := by kernel_rfl
 c80 := by kernel_rfl
 c85 := by kernel_rfl
 c127 := by kernel_rfl
 c143 := by kernel_rfl
 c145 := by kernel_rfl
 c167 := by kernel_rfl
 c168 := by kernel_rfl
 c171 := by kernel_rfl
 c173 := by kernel_rfl
 c175 := by kernel_rfl
 c210 := by kernel_rfl
 c212 := by kernel_rfl
 c213 := by kernel_rfl
 c232 := by kernel_rfl
 c233 := by kernel_rfl }
open Go.RowKit in
theorem Tryz.strconv_Atoi_ok (s : ByteArray) (hmax : s.size ≤ 9223372036854775806) (v : Int) (h : Lib.atoiAll s.data.toList = .ok v) (w : World) :
  Calls Tryz.prog 65 #[.string s] w fun e w' => e = .returned (.tuple #[.int .i64 v, .nilIface]) ∧ (w' = w ∨ ∃ t, w' = Lib.bytesWorld w 5 t) := Any.strconv_Atoi_ok Tryz.laysC172 s hmax v h w
open Go.RowKit in
theorem Tryz.strconv_Atoi_syntax (s : ByteArray) (hlim : s.size ≤ 281474976710656) (h : Lib.atoiAll s.data.toList = .«syntax») (ev : Value) (w : World) (hv : w.cell? ⟨5, 0, none⟩ = some ev) (hev : ev = .nilIface ∨ ∃ te pe, ev = .iface te pe) :
  Calls Tryz.prog 65 #[.string s] w fun e w' => ∃ N, e = .returned (.tuple #[.int .i64 (0), .iface 226 (.pointer (some ⟨N, 0, none⟩))]) ∧ w.heap.size ≤ N ∧ w'.heap[N]? = some (.cells #[.string ⟨#[65, 116, 111, 105]⟩, .string s, ev] 272 (0, 0)) ∧ Below w.heap.size w w' := Any.strconv_Atoi_syntax Tryz.laysC172 s hlim h ev w hv hev
open Go.RowKit in
theorem Tryz.strconv_Atoi_range (s : ByteArray) (hlim : s.size ≤ 281474976710656) (h : Lib.atoiAll s.data.toList = .range) (ev : Value) (w : World) (hv : w.cell? ⟨6, 0, none⟩ = some ev) (hev : ev = .nilIface ∨ ∃ te pe, ev = .iface te pe) :
  Calls Tryz.prog 65 #[.string s] w fun e w' => ∃ N, e = .returned (.tuple #[.int .i64 (Lib.atoiSat s.data.toList), .iface 226 (.pointer (some ⟨N, 0, none⟩))]) ∧ w.heap.size ≤ N ∧ w'.heap[N]? = some (.cells #[.string ⟨#[65, 116, 111, 105]⟩, .string s, ev] 272 (0, 0)) ∧ Below w.heap.size w w' := Any.strconv_Atoi_range Tryz.laysC172 s hlim h ev w hv hev
def Tryz.lays144_ren : Go.Shelf.Ren := ⟨fun | 144 => 81 | 143 => 137 | 219 => 161 | 217 => 168 | 225 => 180 | 224 => 179 | 267 => 191 | 266 => 197 | 314 => 216 | n => n, fun | 9 => 9 | 4 => 4 | 3 => 3 | 5 => 5 | 46 => 238 | 146 => 298 | 51 => 202 | n => n, fun | 1 => 4 | n => n⟩
theorem Tryz.lays144 : Go.Proofs.Lays.n144 Tryz.prog Tryz.lays144_ren := {
 mixed := by kernel_rfl
 f143 := Tryz.func137.trans (congrArg some (by kernel_rfl))
 f144 := Tryz.func81.trans (congrArg some (by kernel_rfl))
 f217 := Tryz.func168.trans (congrArg some (by kernel_rfl))
 f219 := Tryz.func161.trans (congrArg some (by kernel_rfl))
 f224 := Tryz.func179.trans (congrArg some (by kernel_rfl))
 f225 := Tryz.func180.trans (congrArg some (by kernel_rfl))
 f266 := Tryz.func197.trans (congrArg some (by kernel_rfl))
 f267 := Tryz.func191.trans (congrArg some (by kernel_rfl))
 f314 := Tryz.func216.trans (congrArg some (by kernel_rfl))
 t3 := Tryz.underlying3
 a3 := Tryz.isAgg3
 z3 := Tryz.sizeOf3
 v3 := Tryz.zeroValue3
 t4 := Tryz.underlying4
 a4 := Tryz.isAgg4
 z4 := Tryz.sizeOf4
 v4 := Tryz.zeroValue4
 t5 := Tryz.underlying5
 a5 := Tryz.isAgg5
 z5 := Tryz.sizeOf5
 v5 := Tryz.zeroValue5
 t9 := Tryz.underlying9
 a9 := Tryz.isAgg9
 z9 := Tryz.sizeOf9
 v9 := Tryz.zeroValue9
 t46 := Tryz.underlying238
 a46 := Tryz.isAgg238
 z46 := Tryz.sizeOf238
 v46 := Tryz.zeroValue238
 t51 := Tryz.underlying202
 a51 := Tryz.isAgg202
 z51 := Tryz.sizeOf202
 v51 := Tryz.zeroValue202
 t146 := Tryz.underlying298
 a146 := Tryz.isAgg298
 z146 := Tryz.sizeOf298
 v146 := Tryz.zeroValue298
 g1 := by kernel_rfl }
open Go.RowKit Go.Lib in
theorem Tryz.strings_Contains_one (s : ByteArray) (c : UInt8) (w : World) :
  Calls Tryz.prog 81 #[.string s, .string ⟨#[c]⟩] w fun e w' => e = .returned (.bool (decide (0 ≤ Lib.indexByte s.data.toList c))) ∧ w' = w := Any.strings_Contains_one Tryz.lays144 s c w
open Go.RowKit Go.Lib in
theorem Tryz.strings_Contains (s sub : ByteArray) (m : Int) (w : World) (hs : s.size < 4294967281) (hm : w.cell? ⟨4, 0, none⟩ = some (.int .i64 m)) :
  Calls Tryz.prog 81 #[.string s, .string sub] w fun e w' => e = .returned (.bool (Lib.contains s.data.toList sub.data.toList)) ∧ w' = w := Any.strings_Contains Tryz.lays144 s sub m w hs hm
def Tryz.lays145_ren : Go.Shelf.Ren := ⟨fun | 145 => 62 | 220 => 116 | 219 => 161 | 217 => 168 | 225 => 180 | 224 => 179 | 267 => 191 | 266 => 197 | 314 => 216 | n => n, fun | 9 => 9 | 4 => 4 | 59 => 124 | 3 => 3 | 5 => 5 | 46 => 238 | 146 => 298 | 51 => 202 | n => n, fun | 1 => 4 | n => n⟩
theorem Tryz.lays145 : Go.Proofs.Lays.n145 Tryz.prog Tryz.lays145_ren := {
 mixed := by kernel_rfl
 f145 := Tryz.func62.trans (congrArg some (by kernel_rfl))
 f217 := Tryz.func168.trans (congrArg some (by kernel_rfl))
 f219 := Tryz.func161.trans (congrArg some (by kernel_rfl))
 f220 := Tryz.func116.trans (congrArg some (by kernel_rfl))
 f224 := Tryz.func179.trans (congrArg some (by kernel_rfl))
 f225 := Tryz.func180.trans (congrArg some (by kernel_rfl))
 f266 := Tryz.func197.trans (congrArg some (by kernel_rfl))
 f267 := Tryz.func191.trans (congrArg some (by kernel_rfl))
 f314 := Tryz.func216.trans (congrArg some (by kernel_rfl))
 t3 := Tryz.underlying3
 a3 := Tryz.isAgg3
 z3 := Tryz.sizeOf3
 v3 := Tryz.zeroValue3
 t4 := Tryz.underlying4
 a4 := Tryz.isAgg4
 z4 := Tryz.sizeOf4
 v4 := Tryz.zeroValue4
 t5 := Tryz.underlying5
 a5 := Tryz.isAgg5
 z5 := Tryz.sizeOf5
 v5 := Tryz.zeroValue5
 t9 := Tryz.underlying9
 a9 := Tryz.isAgg9
 z9 := Tryz.sizeOf9
 v9 := Tryz.zeroValue9
 t46 := Tryz.underlying238
 a46 := Tryz.isAgg238
 z46 := Tryz.sizeOf238
 v46 := Tryz.zeroValue238
 t51 := Tryz.underlying202
 a51 := Tryz.isAgg202
 z51 := Tryz.sizeOf202
 v51 := Tryz.zeroValue202
 t59 := Tryz.underlying124
 a59 := Tryz.isAgg124
 z59 := Tryz.sizeOf124
 v59 := Tryz.zeroValue124
 t146 := Tryz.underlying298
 a146 := Tryz.isAgg298
 z146 := Tryz.sizeOf298
 v146 := Tryz.zeroValue298
 g1 := by kernel_rfl }
open Go.RowKit Go.Lib in
theorem Tryz.strings_Cut (s sep : ByteArray) (m : Int) (w : World) (hs : s.size < 4294967281) (hm : w.cell? ⟨4, 0, none⟩ = some (.int .i64 m)) :
  Calls Tryz.prog 62 #[.string s, .string sep] w fun e w' => e = .returned (.tuple #[.string ⟨(Lib.cut s.data.toList sep.data.toList).1.toArray⟩, .string ⟨(Lib.cut s.data.toList sep.data.toList).2.1.toArray⟩, .bool (Lib.cut s.data.toList sep.data.toList).2.2]) ∧ ∃ n, w' = w.drewN n := Any.strings_Cut Tryz.lays145 s sep m w hs hm
def Tryz.lays138_ren : Go.Shelf.Ren := ⟨fun | 138 => 185 | 195 => 208 | 218 => 209 | 143 => 137 | 219 => 161 | 217 => 168 | 225 => 180 | 224 => 179 | 267 => 191 | 266 => 197 | 314 => 216 | n => n, fun | 9 => 9 | 3 => 3 | 4 => 4 | 5 => 5 | 0 => 0 | 46 => 238 | 146 => 298 | 51 => 202 | n => n, fun | 1 => 4 | n => n⟩
theorem Tryz.lays138 : Go.Proofs.Lays.n138 Tryz.prog Tryz.lays138_ren := {
 mixed := by kernel_rfl
 f138 := Tryz.func185.trans (congrArg some (by kernel_rfl))
 f143 := Tryz.func137.trans (congrArg some (by kernel_rfl))
 f195 := Tryz.func208.trans (congrArg some (by kernel_rfl))
 f217 := Tryz.func168.trans (congrArg some (by kernel_rfl))
 f218 := Tryz.func209.trans (congrArg some (by kernel_rfl))
 f219 := Tryz.func161.trans (congrArg some (by kernel_rfl))
 f224 := Tryz.func179.trans (congrArg some (by kernel_rfl))
 f225 := Tryz.func180.trans (congrArg some (by kernel_rfl))
 f266 := Tryz.func197.trans (congrArg some (by kernel_rfl))
 f267 := Tryz.func191.trans (congrArg some (by kernel_rfl))
 f314 := Tryz.func216.trans (congrArg some (by kernel_rfl))
 t0 := Tryz.underlying0
 a0 := Tryz.isAgg0
 z0 := Tryz.sizeOf0
 v0 := Tryz.zeroValue0
 t3 := Tryz.underlying3
 a3 := Tryz.isAgg3
 z3 := Tryz.sizeOf3
 v3 := Tryz.zeroValue3
 t4 := Tryz.underlying4
 a4 := Tryz.isAgg4
 z4 := Tryz.sizeOf4
 v4 := Tryz.zeroValue4
 t5 := Tryz.underlying5
 a5 := Tryz.isAgg5
 z5 := Tryz.sizeOf5
 v5 := Tryz.zeroValue5
 t9 := Tryz.underlying9
 a9 := Tryz.isAgg9
 z9 := Tryz.sizeOf9
 v9 := Tryz.zeroValue9
 t46 := Tryz.underlying238
 a46 := Tryz.isAgg238
 z46 := Tryz.sizeOf238
 v46 := Tryz.zeroValue238
 t51 := Tryz.underlying202
 a51 := Tryz.isAgg202
 z51 := Tryz.sizeOf202
 v51 := Tryz.zeroValue202
 t146 := Tryz.underlying298
 a146 := Tryz.isAgg298
 z146 := Tryz.sizeOf298
 v146 := Tryz.zeroValue298
 g1 := by kernel_rfl }
open Go.RowKit Go.Lib in
theorem Tryz.strings_Count_one (s : ByteArray) (c : UInt8) (w : World) :
  Calls Tryz.prog 185 #[.string s, .string ⟨#[c]⟩] w fun e w' => e = .returned (.int .i64 (Lib.countByte s.data.toList c)) ∧ w' = w := Any.strings_Count_one Tryz.lays138 s c w
def Tryz.lays146_ren : Go.Shelf.Ren := ⟨fun | 146 => 84 | 221 => 138 | 268 => 184 | 138 => 185 | 143 => 137 | 195 => 208 | 197 => 160 | 218 => 209 | 219 => 161 | 260 => 190 | 217 => 168 | 225 => 180 | 224 => 179 | 267 => 191 | 266 => 197 | 314 => 216 | n => n, fun | 9 => 9 | 31 => 67 | 3 => 3 | 4 => 4 | 0 => 0 | 105 => 216 | 21 => 21 | 5 => 5 | 46 => 238 | 119 => 160 | 139 => 297 | 138 => 296 | 146 => 298 | 51 => 202 | n => n, fun | 1 => 4 | 3 => 8 | 4 => 9 | n => n⟩
theorem Tryz.lays146 : Go.Proofs.Lays.n146 Tryz.prog Tryz.lays146_ren := {
 mixed := by kernel_rfl
 f138 := Tryz.func185.trans (congrArg some (by kernel_rfl))
 f143 := Tryz.func137.trans (congrArg some (by kernel_rfl))
 f146 := Tryz.func84.trans (congrArg some (by kernel_rfl))
 f195 := Tryz.func208.trans (congrArg some (by kernel_rfl))
 f197 := Tryz.func160.trans (congrArg some (by kernel_rfl))
 f217 := Tryz.func168.trans (congrArg some (by kernel_rfl))
 f218 := Tryz.func209.trans (congrArg some (by kernel_rfl))
 f219 := Tryz.func161.trans (congrArg some (by kernel_rfl))
 f221 := Tryz.func138.trans (congrArg some (by kernel_rfl))
 f224 := Tryz.func179.trans (congrArg some (by kernel_rfl))
 f225 := Tryz.func180.trans (congrArg some (by kernel_rfl))
 f260 := Tryz.func190.trans (congrArg some (by kernel_rfl))
 f266 := Tryz.func197.trans (congrArg some (by kernel_rfl))
 f267 := Tryz.func191.trans (congrArg some (by kernel_rfl))
 f268 := Tryz.func184.trans (congrArg some (by kernel_rfl))
 f314 := Tryz.func216.trans (congrArg some (by kernel_rfl))
 t0 := Tryz.underlying0
 a0 := Tryz.isAgg0
 z0 := Tryz.sizeOf0
 v0 := Tryz.zeroValue0
 t3 := Tryz.underlying3
 a3 := Tryz.isAgg3
 z3 := Tryz.sizeOf3
 v3 := Tryz.zeroValue3
 t4 := Tryz.underlying4
 a4 := Tryz.isAgg4
 z4 := Tryz.sizeOf4
 v4 := Tryz.zeroValue4
 t5 := Tryz.underlying5
 a5 := Tryz.isAgg5
 z5 := Tryz.sizeOf5
 v5 := Tryz.zeroValue5
 t9 := Tryz.underlying9
 a9 := Tryz.isAgg9
 z9 := Tryz.sizeOf9
 v9 := Tryz.zeroValue9
 t21 := Tryz.underlying21
 a21 := Tryz.isAgg21
 z21 := Tryz.sizeOf21
 v21 := Tryz.zeroValue21
 t31 := Tryz.underlying67
 a31 := Tryz.isAgg67
 z31 := Tryz.sizeOf67
 v31 := Tryz.zeroValue67
 t46 := Tryz.underlying238
 a46 := Tryz.isAgg238
 z46 := Tryz.sizeOf238
 v46 := Tryz.zeroValue238
 t51 := Tryz.underlying202
 a51 := Tryz.isAgg202
 z51 := Tryz.sizeOf202
 v51 := Tryz.zeroValue202
 t105 := Tryz.underlying216
 a105 := Tryz.isAgg216
 z105 := Tryz.sizeOf216
 v105 := Tryz.zeroValue216
 t119 := Tryz.underlying160
 a119 := Tryz.isAgg160
 z119 := Tryz.sizeOf160
 t138 := Tryz.underlying296
 a138 := Tryz.isAgg296
 z138 := Tryz.sizeOf296
 v138 := Tryz.zeroValue296
 t139 := Tryz.underlying297
 a139 := Tryz.isAgg297
 z139 := Tryz.sizeOf297
 v139 := Tryz.zeroValue297
 t146 := Tryz.underlying298
 a146 := Tryz.isAgg298
 z146 := Tryz.sizeOf298
 v146 := Tryz.zeroValue298
 g1 := by kernel_rfl
 g3 := by kernel_rfl
 g4 := by kernel_rfl }
open Go.RowKit Go.Lib in
theorem Tryz.strings_Split (s sep : ByteArray) (m : Int) (w : World) (hs : s.size < 4294967281) (hm : w.cell? ⟨4, 0, none⟩ = some (.int .i64 m)) (h1 : 1 ≤ sep.size) :
  Calls Tryz.prog 84 #[.string s, .string sep] w fun e w' =>
   e = .returned (.slice (some ⟨w.heap.size, 0, none⟩) (Lib.countB s sep + 1) (Lib.countB s sep + 1)) ∧ w' = w.alloc (.cells ((Lib.splitB sep 0 (Lib.countB s sep) s).map Value.string).toArray 9) := Any.strings_Split Tryz.lays146 (by kernel_rfl) s sep m w hs hm h1
def Tryz.lays157_ren : Go.Shelf.Ren := ⟨fun | 157 => 64 | 229 => 117 | 199 => 118 | 261 => 162 | 311 => 192 | 312 => 193 | n => n, fun | 9 => 9 | 31 => 67 | 3 => 3 | 5 => 5 | 4 => 4 | 119 => 160 | 0 => 0 | 40 => 162 | 152 => 218 | 21 => 21 | 154 => 220 | 51 => 202 | 141 => 222 | 196 => 261 | 193 => 258 | 198 => 264 | 49 => 262 | 194 => 259 | 201 => 267 | 226 => 300 | 46 => 238 | 227 => 301 | n => n, fun | 0 => 0 | 6 => 2 | n => n⟩
theorem Tryz.lays157 : Go.Proofs.Lays.n157 Tryz.prog Tryz.lays157_ren := {
 mixed := by kernel_rfl
 f157 := Tryz.func64.trans (congrArg some (by kernel_rfl))
 f199 := Tryz.func118.trans (congrArg some (by kernel_rfl))
 f229 := Tryz.func117.trans (congrArg some (by kernel_rfl))
 f261 := Tryz.func162.trans (congrArg some (by kernel_rfl))
 f311 := Tryz.func192.trans (congrArg some (by kernel_rfl))
 f312 := Tryz.func193.trans (congrArg some (by kernel_rfl))
 t0 := Tryz.underlying0
 a0 := Tryz.isAgg0
 z0 := Tryz.sizeOf0
 v0 := Tryz.zeroValue0
 t3 := Tryz.underlying3
 a3 := Tryz.isAgg3
 z3 := Tryz.sizeOf3
 v3 := Tryz.zeroValue3
 t4 := Tryz.underlying4
 a4 := Tryz.isAgg4
 z4 := Tryz.sizeOf4
 v4 := Tryz.zeroValue4
 t5 := Tryz.underlying5
 a5 := Tryz.isAgg5
 z5 := Tryz.sizeOf5
 v5 := Tryz.zeroValue5
 t9 := Tryz.underlying9
 a9 := Tryz.isAgg9
 z9 := Tryz.sizeOf9
 v9 := Tryz.zeroValue9
 t21 := Tryz.underlying21
 a21 := Tryz.isAgg21
 z21 := Tryz.sizeOf21
 v21 := Tryz.zeroValue21
 t31 := Tryz.underlying67
 a31 := Tryz.isAgg67
 z31 := Tryz.sizeOf67
 v31 := Tryz.zeroValue67
 t40 := Tryz.underlying162
 a40 := Tryz.isAgg162
 z40 := Tryz.sizeOf162
 v40 := Tryz.zeroValue162
 t46 := Tryz.underlying238
 a46 := Tryz.isAgg238
 z46 := Tryz.sizeOf238
 v46 := Tryz.zeroValue238
 t49 := Tryz.underlying262
 a49 := Tryz.isAgg262
 z49 := Tryz.sizeOf262
 v49 := Tryz.zeroValue262
 t51 := Tryz.underlying202
 a51 := Tryz.isAgg202
 z51 := Tryz.sizeOf202
 v51 := Tryz.zeroValue202
 t119 := Tryz.underlying160
 a119 := Tryz.isAgg160
 z119 := Tryz.sizeOf160
 t141 := Tryz.underlying222
 a141 := Tryz.isAgg222
 z141 := Tryz.sizeOf222
 v141 := Tryz.zeroValue222
 t152 := Tryz.underlying218
 a152 := Tryz.isAgg218
 z152 := Tryz.sizeOf218
 v152 := Tryz.zeroValue218
 t154 := Tryz.underlying220
 a154 := Tryz.isAgg220
 z154 := Tryz.sizeOf220
 v154 := Tryz.zeroValue220
 t193 := Tryz.underlying258
 a193 := Tryz.isAgg258
 z193 := Tryz.sizeOf258
 v193 := Tryz.zeroValue258
 t194 := Tryz.underlying259
 a194 := Tryz.isAgg259
 z194 := Tryz.sizeOf259
 v194 := Tryz.zeroValue259
 t196 := Tryz.underlying261
 a196 := Tryz.isAgg261
 z196 := Tryz.sizeOf261
 v196 := Tryz.zeroValue261
 t198 := Tryz.underlying264
 a198 := Tryz.isAgg264
 z198 := Tryz.sizeOf264
 v198 := Tryz.zeroValue264
 t201 := Tryz.underlying267
 a201 := Tryz.isAgg267
 z201 := Tryz.sizeOf267
 v201 := Tryz.zeroValue267
 t226 := Tryz.underlying300
 a226 := Tryz.isAgg300
 z226 := Tryz.sizeOf300
 v226 := Tryz.zeroValue300
 t227 := Tryz.underlying301
 a227 := Tryz.isAgg301
 z227 := Tryz.sizeOf301
 v227 := Tryz.zeroValue301
 g0 := by kernel_rfl
 g6 := by kernel_rfl }
open Go.RowKit Go.Lib in
theorem Tryz.strings_Fields (s : ByteArray) (w : World) (hs : s.size < 4294967281) (hascii : ∀ (j : Nat) b, s.data.toList[j]? = some b → b.toNat < 128) (htab : Lib.TabIs Tryz.prog w "strings.asciiSpace" .u8 Lib.asciiSpaceTab) :
  Calls Tryz.prog 64 #[.string s] w fun e w' =>
   e = .returned (.slice (some ⟨w.heap.size, 0, none⟩) (Lib.fields s.data.toList).length (Lib.fields s.data.toList).length) ∧ w' = w.alloc (.cells ((Lib.fields s.data.toList).map fun l => Value.string ⟨l.toArray⟩).toArray 9) := Any.strings_Fields Tryz.lays157 (by kernel_rfl) (by kernel_rfl) s w hs hascii htab
def Tryz.lays153_ren : Go.Shelf.Ren := ⟨fun | 153 => 73 | 152 => 127 | 226 => 128 | 227 => 129 | 228 => 130 | 137 => 121 | 119 => 178 | 224 => 179 | 225 => 180 | 217 => 168 | 266 => 197 | n => n, fun | 9 => 9 | 3 => 3 | 4 => 4 | 5 => 5 | 21 => 21 | 117 => 172 | 116 => 171 | 0 => 0 | 46 => 238 | 124 => 240 | n => n, fun | n => n⟩
theorem Tryz.lays153 : Go.Proofs.Lays.n153 Tryz.prog Tryz.lays153_ren := {
 mixed := by kernel_rfl
 f119 := Tryz.func178.trans (congrArg some (by kernel_rfl))
 f137 := Tryz.func121.trans (congrArg some (by kernel_rfl))
 f152 := Tryz.func127.trans (congrArg some (by kernel_rfl))
 f153 := Tryz.func73.trans (congrArg some (by kernel_rfl))
 f217 := Tryz.func168.trans (congrArg some (by kernel_rfl))
 f224 := Tryz.func179.trans (congrArg some (by kernel_rfl))
 f225 := Tryz.func180.trans (congrArg some (by kernel_rfl))
 f226 := Tryz.func128.trans (congrArg some (by kernel_rfl))
 f227 := Tryz.func129.trans (congrArg some (by kernel_rfl))
 f228 := Tryz.func130.trans (congrArg some (by kernel_rfl))
 f266 := Tryz.func197.trans (congrArg some (by kernel_rfl))
 t0 := Tryz.underlying0
 a0 := Tryz.isAgg0
 z0 := Tryz.sizeOf0
 v0 := Tryz.zeroValue0
 t3 := Tryz.underlying3
 a3 := Tryz.isAgg3
 z3 := Tryz.sizeOf3
 v3 := Tryz.zeroValue3
 t4 := Tryz.underlying4
 a4 := Tryz.isAgg4
 z4 := Tryz.sizeOf4
 v4 := Tryz.zeroValue4
 t5 := Tryz.underlying5
 a5 := Tryz.isAgg5
 z5 := Tryz.sizeOf5
 v5 := Tryz.zeroValue5
 t9 := Tryz.underlying9
 a9 := Tryz.isAgg9
 z9 := Tryz.sizeOf9
 v9 := Tryz.zeroValue9
 t21 := Tryz.underlying21
 a21 := Tryz.isAgg21
 z21 := Tryz.sizeOf21
 v21 := Tryz.zeroValue21
 t46 := Tryz.underlying238
 a46 := Tryz.isAgg238
 z46 := Tryz.sizeOf238
 v46 := Tryz.zeroValue238
 t116 := Tryz.underlying171
 a116 := Tryz.isAgg171
 z116 := Tryz.sizeOf171
 t117 := Tryz.underlying172
 a117 := Tryz.isAgg172
 z117 := Tryz.sizeOf172
 v117 := Tryz.zeroValue172
 t124 := Tryz.underlying240
 a124 := Tryz.isAgg240
 z124 := Tryz.sizeOf240
 v124 := Tryz.zeroValue240 }
open Go.RowKit Go.Lib in
theorem Tryz.strings_IndexAny_long (hv116 : ∀ w, (zeroValue 171).run Tryz.prog w = .ok (.agg (Array.replicate 256 (.bool false))) w) (s chars : ByteArray) (w : World) (h2 : 2 ≤ chars.size) (h8 : 8 < s.size) (hs : s.size < 4294967281) (hcs : chars.size < 4294967281) (hascii : ∀ (j : Nat) b, chars.data.toList[j]? = some b → b.toNat < 128) :
  Calls Tryz.prog 73 #[.string s, .string chars] w fun e w' => e = .returned (.int .i64 (Lib.indexAny s.data.toList chars.data.toList)) ∧ w' = ((w.alloc (.cells (Lib.setCells chars.data.toList) 171)).alloc (.cells (Lib.setCells chars.data.toList) 171)) := Any.strings_IndexAny_long Tryz.lays153 hv116 (by kernel_rfl) s chars w h2 h8 hs hcs hascii
end Go.Proofs
namespace Go.Proofs.YtahebkecmlmlfaaGreatDoor
set_option maxRecDepth 20000
set_option maxHeartbeats 4000000
section
open Go Go.RowKit
def twoS (n : Int) : List UInt8 := aT [48 + n / 10, 48 + n % 10]
def zrB (n : Int) : Bool := decide (-840 ≤ n ∧ n ≤ 840)
theorem tu {n : Int} : zrB n = true ↔ (-840 ≤ n ∧ n ≤ 840) := by simp [zrB]
def zprS (n : Int) : List UInt8 := if zrB n then (if n = 0 then [90] else if n < 0 then ([45] ++ twoS ((0 - n) / 60)) ++ twoS ((0 - n) % 60) else ([43] ++ twoS (n / 60)) ++ twoS (n % 60)) else []
def zprE (n : Int) : Err := if zrB n then .none else .errno 2
attribute [local irreducible] AWp AOps aa ax OrOk ad ae
attribute [local irreducible] zrB
theorem jS {G : Glo} (n : Int) : FnIs Tryz.prog G 108 [.int .i64 n] (.bool (zrB n)) := by
 have hGL : ad G [] := ab
 refine fn_x Tryz.func108 Tryz.call108 rfl rfl rfl rfl hGL ?_
 intro C hC
 refine xw ?_
 repeat' (first | exact Le.n | refine Lc.mk ?_ ?_)
 all_goals intros
 all_goals (apply aj; refine congrArg AVal.bool ?_; rw [Bool.eq_iff_iff]; simp only [tu, reduceCtorEq, false_iff, true_iff, Bool.not_eq_true', g8]; omega)
theorem fK {G : Glo} (n : Int) : FnIs Tryz.prog G 89 [.int .i64 n] (.bool (zrB n)) := by
 have hGL : ad G [] := ab
 refine fn_x Tryz.func89 Tryz.call89 rfl rfl rfl rfl hGL ?_
 intro C hC
 have hw := cr (G := G) n (-840) 840
 refine xw1 ?_
 intros
 apply aj
 refine congrArg AVal.bool ?_
 rw [Bool.eq_iff_iff, tu]
 simp
theorem A7 {G : Glo} (n : Int) (h0 : 0 ≤ n) (h1 : n < 100) : FnIs Tryz.prog G 156 [.int .i64 n] (.str (twoS n)) := by
 have hGL : ad G [] := ab
 refine fn_x Tryz.func156 Tryz.call156 rfl rfl rfl rfl hGL ?_
 intro C hC
 refine xw1 ?_
 intros
 refine aH hC hGL (bp [_, _] rfl (by intro v hv; simp only [List.mem_cons, List.not_mem_nil, or_false] at hv; omega) rfl rfl rfl rfl rfl rfl) rfl rfl ?_
 exact xw0
theorem dS (n : Int) : (twoS n).length = 2 := rfl
attribute [local irreducible] twoS
theorem nL {G : Glo} (n : Int) : FnIs Tryz.prog G 112 [.int .i64 n] (.tuple [.str (zprS n), (zprE n).A]) := by
 have hGL : ad G [] := ab
 refine fn_x Tryz.func112 Tryz.call112 rfl rfl rfl rfl hGL ?_
 intro C hC
 have h1 := jS (G := G) n
 have k2 := fun k h0 h1 => A7 (G := G) k h0 h1
 have l1 := dS ((0 - n) / 60)
 have l2 := dS ((0 - n) % 60)
 have l3 := dS (n / 60)
 have l4 := dS (n % 60)
 cases hz : zrB n with
 | false =>
  rw [hz] at h1
  refine xw1 ?_
  intros
  apply aj
  rw [zprS, zprE, hz]
  rfl
 | true =>
  rw [hz] at h1
  have hz2 := tu.1 hz
  refine xw ?_
  repeat' (first | exact Le.n | refine Lc.mk ?_ ?_)
  all_goals intros
  ·apply aj
   rw [zprS, zprE, hz, if_pos rfl, if_pos (by omega)]
   rfl
  ·apply aj
   rw [zprS, zprE, hz, if_pos rfl, if_neg (by omega), if_pos (by omega)]
   rfl
  ·apply aj
   rw [zprS, zprE, hz, if_pos rfl, if_neg (by omega), if_neg (by omega)]
   rfl
theorem ng {G : Glo} (i : Nat) (hi : i < 100) : FnIs Tryz.prog G 186 [.int .i64 (i : Int), .int .i64 10] (.str (Lib.decDigits i)) := by
 refine bi rfl Tryz.call186 ?_
 intro R args hr w _ _
 obtain ⟨x, t, e, hx, y, t', e', hy, rfl⟩ := hr
 have hx := am.1 hx
 have hy := am.1 hy
 subst hx hy
 obtain rfl : args = #[.int .i64 (i : Int), .int .i64 10] := by cases args; simp_all
 refine (Tryz.strconv_FormatInt_10_small i hi w).mono ?_
 rintro e w' ⟨rfl, rfl⟩
 exact ⟨rfl, Below.refl _ _⟩
theorem fO {i : Nat} (h : i < 10) : Lib.decDigits i = [UInt8.ofNat (48 + i)] := by
 rw [Lib.decDigits, dif_pos h]
theorem fN {i : Nat} (h : 10 ≤ i) (h1 : i < 100) : Lib.decDigits i = [UInt8.ofNat (48 + i / 10), UInt8.ofNat (48 + i % 10)] := by
 rw [Lib.decDigits, dif_neg (by omega), fO (by omega)]
 rfl
theorem Bi (i : Nat) : twoS (i : Int) = [UInt8.ofNat (48 + i / 10), UInt8.ofNat (48 + i % 10)] := by
 unfold twoS aT
 simp only [List.map]
 rw [show (48 + (i : Int) / 10).toNat = 48 + i / 10 by omega, show (48 + (i : Int) % 10).toNat = 48 + i % 10 by omega]
theorem ix {G : Glo} (i : Nat) (h1 : i < 100) : FnIs Tryz.prog G 147 [.int .i64 (i : Int), .int .i64 10, .int .i64 2] (.str (twoS i)) := by
 have hGL : ad G [] := ab
 refine fn_x Tryz.func147 Tryz.call147 rfl rfl rfl rfl hGL ?_
 intro C hC
 have hf := ng (G := G) i h1
 rw [Bi]
 by_cases h : i < 10
 ·rw [fO h] at hf
  refine xw1 ?_
  intros
  refine rds hC hGL 2 ?_
  refine xw1 ?_
  intros
  apply aj
  rw [show i / 10 = 0 by omega, show i % 10 = i by omega]
  rfl
 ·rw [fN (by omega) h1] at hf
  refine xw1 ?_
  intros
  refine rds hC hGL 1 ?_
  exact xw0
theorem jF {G : Glo} (n : Int) : FnIs Tryz.prog G 93 [.int .i64 n] (.tuple [.str (zprS n), .int .i64 (zprE n).e]) := by
 have hGL : ad G [] := ab
 refine fn_x Tryz.func93 Tryz.call93 rfl rfl rfl rfl hGL ?_
 intro C hC
 have h1 := fK (G := G) n
 have k2 := fun (k : Int) (h0 : 0 ≤ k) (h1 : k < 100) => (show FnIs Tryz.prog G 147 [.int .i64 k, .int .i64 10, .int .i64 2] (.str (twoS k)) by obtain ⟨i, rfl⟩ := Int.eq_ofNat_of_zero_le h0; exact ix i (by omega))
 have l1 := dS ((0 - n) / 60)
 have l2 := dS ((0 - n) % 60)
 have l3 := dS (n / 60)
 have l4 := dS (n % 60)
 cases hz : zrB n with
 | false =>
  rw [hz] at h1
  refine xw1 ?_
  intros
  apply aj
  rw [zprS, zprE, hz]
  rfl
 | true =>
  rw [hz] at h1
  have hz2 := tu.1 hz
  refine xw ?_
  repeat' (first | exact Le.n | refine Lc.mk ?_ ?_)
  all_goals intros
  ·apply aj
   rw [zprS, zprE, hz, if_pos rfl, if_pos (by omega)]
   rfl
  ·apply aj
   rw [zprS, zprE, hz, if_pos rfl, if_neg (by omega), if_pos (by omega)]
   rfl
  ·apply aj
   rw [zprS, zprE, hz, if_pos rfl, if_neg (by omega), if_neg (by omega)]
   rfl
end
section
open Go Go.RowKit
def tlB (n : Int) : Bool := decide (n ≠ -1)
theorem gY {n : Int} : tlB n = true ↔ n ≠ -1 := by simp [tlB]
theorem yF {n : Int} : tlB n = false ↔ n = -1 := by simp [tlB]
def fmB (b : Bool) : UInt8 := if b then 57 else 45
def fmS (a b c : Bool) : List UInt8 := [fmB a, fmB b, fmB c]
def whN : Bool → Bool → Bool → Int
 | false, false, false => 0
 | true, false, false => 1
 | true, true, false => 2
 | true, true, true => 3
 | false, true, false => 4
 | false, true, true => 5
 | false, false, true => 6
 | true, false, true => -1
def dayN (y m : Int) : Int :=
 if m < 1 ∨ 12 < m then 0
 else if m = 2 then (if y ≠ -1 ∧ (y.tmod 4 ≠ 0 ∨ y.tmod 100 = 0 ∧ y.tmod 400 ≠ 0) then 28 else 29)
 else if m = 4 ∨ m = 6 ∨ m = 9 ∨ m = 11 then 30 else 31
def witB (n lo hi : Int) : Bool := decide (n = -1 ∨ lo ≤ n ∧ n ≤ hi)
theorem nO {n lo hi : Int} : witB n lo hi = true ↔ (n = -1 ∨ lo ≤ n ∧ n ≤ hi) := by simp [witB]
theorem Fw {n lo hi : Int} : witB n lo hi = false ↔ ¬ (n = -1 ∨ lo ≤ n ∧ n ≤ hi) := by simp [witB]
structure Stm where
 y : Int
 m : Int
 d : Int
 h : Int
 i : Int
 s : Int
 z : Bool
 o : Int
def Stm.A (t : Stm) : AVal := .agg [.int .i64 t.y, .int .i64 t.m, .int .i64 t.d, .int .i64 t.h, .int .i64 t.i, .int .i64 t.s, .bool t.z, .int .i64 t.o]
def okN (d t : Int) : Bool := decide (0 ≤ d ∧ 0 ≤ t ∧ ¬ (d = 0 ∧ t = 0) ∧ (0 < d ∧ 0 < t → (d = 3 ∨ d = 5 ∨ d = 6) ∧ t ≤ 3))
def Stm.dn (t : Stm) : Int := whN (tlB t.y) (tlB t.m) (tlB t.d)
def Stm.tn (t : Stm) : Int := whN (tlB t.h) (tlB t.i) (tlB t.s)
def Stm.frm (t : Stm) : Bool := okN t.dn t.tn && (if t.z then tlB t.h else decide (t.o = 0))
def Stm.day (t : Stm) : Int := if t.m = -1 then 31 else dayN t.y t.m
def Stm.rng (t : Stm) : Bool := witB t.y 0 9999 && (witB t.m 1 12 && (witB t.d 1 t.day && (witB t.h 0 23 && (witB t.i 0 59 && (witB t.s 0 59 && zrB t.o)))))
def Stm.e (t : Stm) : Int := if t.frm then (if t.rng then 0 else 2) else 3
def Stm.E (t : Stm) : Err := if t.frm then (if t.rng then .none else .errno 2) else .errno 3
theorem Stm.E_e (t : Stm) : t.E.e = t.e := by unfold Stm.E Stm.e; (repeat' split) <;> rfl
theorem Stm.E_p (t : Stm) : t.E.p = -1 := by unfold Stm.E; (repeat' split) <;> rfl
def d9 (n : Int) : List UInt8 := aT [48 + n / 1000, 48 + n / 100 % 10, 48 + n / 10 % 10, 48 + n % 10]
def iM (a b c : Bool) (y m d : Int) : List UInt8 := match a, b, c with
 | true, false, false => d9 y
 | true, true, false => (d9 y ++ [45]) ++ twoS m
 | true, true, true => (d9 y ++ twoS m) ++ twoS d
 | false, true, false => [45, 45] ++ twoS m
 | false, true, true => ([45, 45] ++ twoS m) ++ twoS d
 | false, false, true => [45, 45, 45] ++ twoS d
 | _, _, _ => []
def gZ (a b c : Bool) (h m s : Int) : List UInt8 := match a, b, c with
 | true, false, false => [84] ++ twoS h
 | true, true, false => ([84] ++ twoS h) ++ twoS m
 | true, true, true => (([84] ++ twoS h) ++ twoS m) ++ twoS s
 | false, true, false => ([84] ++ [45]) ++ twoS m
 | false, true, true => (([84] ++ [45]) ++ twoS m) ++ twoS s
 | false, false, true => (([84] ++ [45]) ++ [45]) ++ twoS s
 | _, _, _ => []
def Stm.txt (t : Stm) : List UInt8 := iM (tlB t.y) (tlB t.m) (tlB t.d) t.y t.m t.d ++ gZ (tlB t.h) (tlB t.i) (tlB t.s) t.h t.i t.s ++ (if t.z then zprS t.o else [])
def Stm.T (t : Stm) : List UInt8 := if t.frm then (if t.rng then t.txt else []) else []
def ea : List UInt8 → List UInt8 → List UInt8
 | [], _ => []
 | c :: r, all => if c = 57 then (match all with | x :: t => x :: ea r t | [] => []) else c :: ea r all
end
section
open Go
attribute [local irreducible] AWp AOps aa ax OrOk ad ae
def idxF (c : Int) : List UInt8 → Nat → Int
 | [], _ => -1
 | x :: t, k => if (x.toNat : Int) = c then k else idxF c t (k + 1)
def idxB (s : List UInt8) (c : Int) : Int := idxF c s 0
theorem q8 {c : UInt8} (b : ByteArray) : ∀ (t : List UInt8) (k : Nat), (∀ j, j < t.length → b[k + j]! = t.getD j 0) →
  (match (List.range' k t.length).find? fun i => b[i]! == c with | some i => (i : Int) | none => -1) = idxF (c.toNat : Int) t k
 | [], _, _ => by simp [idxF]
 | x :: t, k, h => by
  have h0 := h 0 (by simp)
  simp only [Nat.add_zero, List.getD_cons_zero] at h0
  rw [List.length_cons, List.range'_succ, List.find?_cons, h0]
  by_cases e : x = c
  ·subst e; simp [idxF]
  ·have e1 : (x == c) = false := by simpa using e
   rw [e1]
   have e2 : ¬ ((x.toNat : Int) = (c.toNat : Int)) := by
    intro h; exact e (UInt8.toNat_inj.1 (by omega))
   simp only [idxF, if_neg e2]
   exact q8 b t (k + 1) (fun j hj => by
    have := h (j + 1) (by simpa using hj)
    rw [show k + 1 + j = k + (j + 1) by omega, this]; simp)
theorem gp {G : Glo} (s : List UInt8) (c : Int) (h0 : 0 ≤ c) (h1 : c ≤ 255) : FnIs Tryz.prog G 197 [.str s, .int .u8 c] (.int .i64 (idxB s c)) := by
 refine bN Tryz.func197 (by kernel_rfl) (by kernel_rfl) (by kernel_rfl) (e := Go.Extern.BytealgIndexByte.indexByte) (by kernel_rfl) ?_
 intro R args ha w
 obtain ⟨x, t, e, hx, y, t', e', hy, rfl⟩ := ha
 have hx := aB.1 hx
 have hy := am.1 hy
 subst hx hy
 obtain rfl : args = #[.string ⟨s.toArray⟩, .int .u8 c] := by cases args; simp_all
 refine ⟨.int .i64 (idxB s c), ?_, am.2 rfl⟩
 have hc : (c.toNat.toUInt8).toNat = c.toNat := by
  show (UInt8.ofNat c.toNat).toNat = _
  rw [UInt8.toNat_ofNat']; omega
 have key := q8 (c := c.toNat.toUInt8) ⟨s.toArray⟩ s 0 (fun j hj => by
  rw [Nat.zero_add]
  rw [getElem!_pos (⟨s.toArray⟩ : ByteArray) j (by rw [aY]; exact hj)]
  show s.toArray[j] = _
  simp [List.getD, hj])
 rw [hc, Int.toNat_of_nonneg h0] at key
 have e : Go.Extern.BytealgIndexByte.indexByte #[.string ⟨s.toArray⟩, .int .u8 c] = (match (List.range (⟨s.toArray⟩ : ByteArray).size).find? fun i => (⟨s.toArray⟩ : ByteArray)[i]! == c.toNat.toUInt8 with | some i => pure (goInt i) | none => pure (goInt (-1))) := rfl
 rw [e, aY, List.range_eq_range']
 unfold idxB
 rw [← key]
 generalize List.find? _ _ = o
 cases o <;> rfl
theorem dy {G : Glo} (s : List UInt8) (c : Int) (h0 : 0 ≤ c) (h1 : c ≤ 255) : FnIs Tryz.prog G 168 [.str s, .int .u8 c] (.int .i64 (idxB s c)) := by
 have hb := gp (G := G) s c h0 h1
 have hGL : ad G [] := ab
 refine fn_x Tryz.func168 Tryz.call168 rfl rfl rfl rfl hGL ?_
 intro C hC
 repeat' (first | (conv => whnf); first | refine .w ?_ | refine .v ?_ | refine sc_c ?_ ?_ <;> (intro hb; try exact dd hb) | apply an | apply az | (apply sc_i <;> intro hb) | (apply bx_i; intro hbd) | (apply ar; first | exact hb) | (apply ap (i := 0) rfl; first | exact hb) | (apply ab_i; intro bl) | (apply as_i; intro va vk vc hva) | (apply av_i; intro v) | (apply ac_i; intro bl cap hcap) | apply bo_l | (apply nx_i <;> intro hnx) | exact rt_w | apply dw_q mixed hC hGL (by kernel_rfl) | (apply cq; assumption; (first | exact hb); exact rfl))
 all_goals try conv => whnf
theorem aL {G : Glo} (s : List UInt8) (c : Int) (h0 : 0 ≤ c) (h1 : c ≤ 255) : FnIs Tryz.prog G 121 [.str s, .int .u8 c] (.int .i64 (idxB s c)) := by
 have hb := dy (G := G) s c h0 h1
 have hGL : ad G [] := ab
 refine fn_x Tryz.func121 Tryz.call121 rfl rfl rfl rfl hGL ?_
 intro C hC
 repeat' (first | (conv => whnf); first | refine .w ?_ | refine .v ?_ | refine sc_c ?_ ?_ <;> (intro hb; try exact dd hb) | apply an | apply az | (apply sc_i <;> intro hb) | (apply bx_i; intro hbd) | (apply ar; first | exact hb) | (apply ap (i := 0) rfl; first | exact hb) | (apply ab_i; intro bl) | (apply as_i; intro va vk vc hva) | (apply av_i; intro v) | (apply ac_i; intro bl cap hcap) | apply bo_l | (apply nx_i <;> intro hnx) | exact rt_w | apply dw_q mixed hC hGL (by kernel_rfl) | (apply cq; assumption; (first | exact hb); exact rfl))
 all_goals try conv => whnf
end
section
open Go Go.RowKit
attribute [local irreducible] AWp AOps aa ax OrOk ad ae
attribute [local irreducible] idxB
theorem mY {G : Glo} (s : List UInt8) (hs : s.length ≤ 140737488355328) (ha : ∀ j, j < s.length → aa s j < 128) : FnIs Tryz.prog G 122 [.str s] (.str (Lib.toLowerA s)) := by
 refine bi rfl Tryz.call122 ?_
 intro R args hr w _ _
 obtain ⟨x, t, e, hx, rfl⟩ := hr
 have hx := aB.1 hx
 subst hx
 obtain rfl : args = #[.string ⟨s.toArray⟩] := by cases args; simp_all
 have := Tryz.strings_ToLower_ascii ⟨s.toArray⟩ w (by rw [aY]; exact hs) (fun j b hb => by
  have hb' : s[j]? = some b := by simpa using hb
  have hj := (List.getElem?_eq_some_iff.1 hb').1
  have h2 := ha j hj
  unfold aa at h2
  simpa [List.getD, hb'] using h2)
 simp only [AVal.conc]
 simpa using this
def abcU : List UInt8 := [65, 66, 67, 68, 69, 70, 71, 72, 73, 74, 75, 76, 77, 78, 79, 80, 81, 82, 83, 84, 85, 86, 87, 88, 89, 90]
def abcL : List UInt8 := [97, 98, 99, 100, 101, 102, 103, 104, 105, 106, 107, 108, 109, 110, 111, 112, 113, 114, 115, 116, 117, 118, 119, 120, 121, 122]
def C5 : List UInt8 := [48, 49, 50, 51, 52, 53, 54, 55, 56, 57, 45]
theorem fo {G : Glo} : FnIs Tryz.prog G 122 [.str abcU] (.str abcL) := by
 have h := mY (G := G) abcU (by decide) (by decide +kernel)
 have e : Lib.toLowerA abcU = abcL := by decide
 rwa [e] at h
theorem gt {p : Int → Bool} (h : ∀ c : Fin 256, p (c.1 : Int) = true) {c : Int} (h0 : 0 ≤ c) (h1 : c ≤ 255) : p c = true := by
 have := h ⟨c.toNat, by omega⟩
 simpa only [Int.toNat_of_nonneg h0] using this
theorem pb {c : Int} (h0 : 0 ≤ c) (h1 : c ≤ 255) : decide (idxB ((abcU ++ abcL) ++ C5) c < 0) = !bn c := by
 have := gt (p := fun c => decide (idxB ((abcU ++ abcL) ++ C5) c < 0) == !bn c) (by decide +kernel) h0 h1
 simpa using this
theorem ox {G : Glo} (s : List UInt8) (hl : s.length ≤ 9223372036854775807) : FnIs Tryz.prog G 77 [.str s] (.bool (isS s)) := by
 have hGL : ad G [] := ab
 refine fn_x Tryz.func77 Tryz.call77 rfl rfl rfl rfl hGL ?_
 intro C hC
 have hT := fo (G := G)
 have hI := fun c h0 h1 => aL (G := G) ((abcU ++ abcL) ++ C5) c h0 h1
 have hW := cr (G := G) (s.length : Int) 1 40
 repeat' (first | (conv => whnf); first | refine .w ?_ | refine .v ?_ | refine sc_c ?_ ?_ <;> (intro hb; try exact dd hb) | apply an | apply az | (apply sc_i <;> intro hb) | (apply bx_i; intro hbd) | (apply ar; first | fail) | (apply ap (i := 0) rfl; first | fail) | (apply ab_i; intro bl) | (apply as_i; intro va vk vc hva) | (apply av_i; intro v) | (apply ac_i; intro bl cap hcap) | apply bo_l | (apply nx_i <;> intro hnx) | exact rt_w | apply dw_q mixed hC hGL (by kernel_rfl) | (apply cq; assumption; (first | fail); exact rfl))
 all_goals try conv => whnf
 refine lp hC hGL (fun (i : Nat) => [(0, .str s), (6, .own 0 (.slice (some ⟨bl, 0, none⟩) s.length cap)), (7, .int .i64 s.length), (8, .int .i64 i)]) (fun _ => [.buf bl s cap]) (fun i => i ≤ s.length ∧ ∀ j, j < i → bn (aa s j) = true) (fun i => s.length - i) 0 ?_ ai rfl ?_
 ·exact ⟨Nat.zero_le _, by intro j hj; omega⟩
 rintro i ⟨hi, hb0⟩
 repeat' (first | (conv => whnf); first | refine .w ?_ | refine .v ?_ | refine sc_c ?_ ?_ <;> (intro hb; try exact dd hb) | apply an | apply az | (apply sc_i <;> intro hb) | (apply bx_i; intro hbd) | (apply ar; first | exact hT | exact hW | (exact hI _ (by omega) (by omega))) | (apply ap (i := 0) rfl; first | exact hT | exact hW | (exact hI _ (by omega) (by omega))) | (apply ab_i; intro bl) | (apply as_i; intro va vk vc hva) | (apply av_i; intro v) | (apply ac_i; intro bl cap hcap) | apply bo_l | (apply nx_i <;> intro hnx) | exact rt_w | apply dw_q mixed hC hGL (by kernel_rfl) | (apply cq; assumption; (first | exact hT | exact hW | (exact hI _ (by omega) (by omega))); exact rfl))
 all_goals try conv => whnf
 ·apply aj
  have hx := pb (c := (aa s i : Int)) (by omega) (by omega)
  rw [decide_eq_true hb] at hx
  rw [isS, DK (j := i) (by omega) (by simpa using hx.symm)]
  rfl
 ·have hx := pb (c := (aa s i : Int)) (by omega) (by omega)
  rw [decide_eq_false (by omega)] at hx
  refine nxt (i + 1) ?_ ?_ ai rfl
  ·exact ⟨by omega, bF hb0 (by simpa using hx.symm)⟩
  ·omega
 ·apply aj
  refine congrArg AVal.bool ?_
  have ha : allB bn s = true := pS.2 fun j hj => hb0 j (by omega)
  simp only [isS, ha, Bool.true_and]
  rw [Bool.eq_iff_iff]
  simp only [Bool.and_eq_true, decide_eq_true_eq]
  omega
theorem CJ {c : Int} (h0 : 0 ≤ c) (h1 : c ≤ 255) : (if 0 ≤ idxB abcL c then idxB abcL c < 26 ∧ (aa abcU (idxB abcL c).toNat : Int) = bR 97 122 (-32) c.toNat else bR 97 122 (-32) c.toNat = c) := by
 have := gt (p := fun c => decide (if 0 ≤ idxB abcL c then idxB abcL c < 26 ∧ (aa abcU (idxB abcL c).toNat : Int) = bR 97 122 (-32) c.toNat else bR 97 122 (-32) c.toNat = c)) (by decide +kernel) h0 h1
 simpa using this
theorem zb {c : Int} (h0 : 0 ≤ c) (h1 : c ≤ 255) : (if 0 ≤ idxB abcU c then idxB abcU c < 26 ∧ (aa abcL (idxB abcU c).toNat : Int) = bR 65 90 32 c.toNat else bR 65 90 32 c.toNat = c) := by
 have := gt (p := fun c => decide (if 0 ≤ idxB abcU c then idxB abcU c < 26 ∧ (aa abcL (idxB abcU c).toNat : Int) = bR 65 90 32 c.toNat else bR 65 90 32 c.toNat = c)) (by decide +kernel) h0 h1
 simpa using this
theorem Ah {G : Glo} (s : List UInt8) (hl : s.length ≤ 9223372036854775807) : FnIs Tryz.prog G 80 [.str s] (.str (al 97 122 (-32) s)) := by
 have hGL : ad G [] := ab
 refine fn_x Tryz.func80 Tryz.call80 rfl rfl rfl rfl hGL ?_
 intro C hC
 have hT := fo (G := G)
 have hcT := Tryz.call122
 have hcI := Tryz.call121
 have hI := fun c h0 h1 => aL (G := G) abcL c h0 h1
 have eU : abcU.length = 26 := rfl
 repeat' (first | (conv => whnf); first | refine .w ?_ | refine .v ?_ | refine sc_c ?_ ?_ <;> (intro hb; try exact dd hb) | apply an | apply az | (apply sc_i <;> intro hb) | (apply bx_i; intro hbd) | (apply ar; first | fail) | (apply ap (i := 0) rfl; first | fail) | (apply ab_i; intro bl) | (apply as_i; intro va vk vc hva) | (apply av_i; intro v) | (apply ac_i; intro bl cap hcap) | apply bo_l | (apply nx_i <;> intro hnx) | exact rt_w | apply dw_q mixed hC hGL (by kernel_rfl) | (apply cq; assumption; (first | fail); exact rfl))
 all_goals try conv => whnf
 refine lp hC hGL (fun (x : Nat × List UInt8) => [(3, .own 0 (.slice (some ⟨bl, 0, none⟩) s.length cap)), (9, .int .i64 s.length), (10, .int .i64 x.1)]) (fun x => [.buf bl x.2 cap]) (fR 97 122 (-32) s) (fun x => s.length - x.1) (0, s) ?_ ai rfl ?_
 ·exact nW
 rintro ⟨i, t⟩ hI0
 have hi := hI0.1
 have ht := hI0.2.1
 dsimp only at hi ht ⊢
 repeat' (first | (conv => whnf); first | refine .w ?_ | refine .v ?_ | refine sc_c ?_ ?_ <;> (intro hb; try exact dd hb) | apply an | apply az | (apply sc_i <;> intro hb) | (apply bx_i; intro hbd) | (apply ar; first | exact hT | (exact hI _ (by omega) (by omega))) | (apply ap (i := 0) rfl; first | exact hT | (exact hI _ (by omega) (by omega))) | (apply ab_i; intro bl) | (apply as_i; intro va vk vc hva) | (apply av_i; intro v) | (apply ac_i; intro bl cap hcap) | apply bo_l | (apply nx_i <;> intro hnx) | exact rt_w | apply dw_q mixed hC hGL (by kernel_rfl) | (apply cq; assumption; (first | exact hT | (exact hI _ (by omega) (by omega))); exact rfl))
 all_goals try conv => whnf
 ·have e := eG hI0 (by omega)
  have hx := CJ (c := (aa s i : Int)) (by omega) (by omega)
  rw [if_pos (by rw [← e]; exact hb), ← e] at hx
  refine xw1 ?_
  intros
  refine nxt (i + 1, t.set i (UInt8.ofNat ((aa abcU (idxB abcL (aa t i)).toNat : Nat) : Int).toNat)) ?_ ?_ ai rfl
  ·refine jU hI0 (by omega) ?_ (by omega) (by have := aK abcU (idxB abcL (aa t i)).toNat; omega)
   rw [hx.2, e]
   simp only [Int.toNat_natCast]
  ·dsimp only; omega
 ·have e := eG hI0 (by omega)
  have hx := CJ (c := (aa s i : Int)) (by omega) (by omega)
  rw [if_neg (by rw [← e]; omega)] at hx
  refine nxt (i + 1, t) ?_ ?_ ai rfl
  ·exact im hI0 (by omega) (by simpa using hx)
  ·dsimp only; omega
 ·apply aj
  rw [jV (by decide) (by decide) hI0 (by omega)]
theorem lY {G : Glo} (s : List UInt8) (hl : s.length ≤ 9223372036854775807) : FnIs Tryz.prog G 67 [.str s] (.str (al 65 90 32 s)) := by
 have hGL : ad G [] := ab
 refine fn_x Tryz.func67 Tryz.call67 rfl rfl rfl rfl hGL ?_
 intro C hC
 have hT := fo (G := G)
 have hI := fun c h0 h1 => aL (G := G) abcU c h0 h1
 have eL : abcL.length = 26 := rfl
 repeat' (first | (conv => whnf); first | refine .w ?_ | refine .v ?_ | refine sc_c ?_ ?_ <;> (intro hb; try exact dd hb) | apply an | apply az | (apply sc_i <;> intro hb) | (apply bx_i; intro hbd) | (apply ar; first | fail) | (apply ap (i := 0) rfl; first | fail) | (apply ab_i; intro bl) | (apply as_i; intro va vk vc hva) | (apply av_i; intro v) | (apply ac_i; intro bl cap hcap) | apply bo_l | (apply nx_i <;> intro hnx) | exact rt_w | apply dw_q mixed hC hGL (by kernel_rfl) | (apply cq; assumption; (first | fail); exact rfl))
 all_goals try conv => whnf
 refine lp hC hGL (fun (x : Nat × List UInt8) => [(3, .own 0 (.slice (some ⟨bl, 0, none⟩) s.length cap)), (9, .int .i64 s.length), (10, .int .i64 x.1)]) (fun x => [.buf bl x.2 cap]) (fR 65 90 32 s) (fun x => s.length - x.1) (0, s) ?_ ai rfl ?_
 ·exact nW
 rintro ⟨i, t⟩ hI0
 have hi := hI0.1
 have ht := hI0.2.1
 dsimp only at hi ht ⊢
 repeat' (first | (conv => whnf); first | refine .w ?_ | refine .v ?_ | refine sc_c ?_ ?_ <;> (intro hb; try exact dd hb) | apply an | apply az | (apply sc_i <;> intro hb) | (apply bx_i; intro hbd) | (apply ar; first | exact hT | (exact hI _ (by omega) (by omega))) | (apply ap (i := 0) rfl; first | exact hT | (exact hI _ (by omega) (by omega))) | (apply ab_i; intro bl) | (apply as_i; intro va vk vc hva) | (apply av_i; intro v) | (apply ac_i; intro bl cap hcap) | apply bo_l | (apply nx_i <;> intro hnx) | exact rt_w | apply dw_q mixed hC hGL (by kernel_rfl) | (apply cq; assumption; (first | exact hT | (exact hI _ (by omega) (by omega))); exact rfl))
 all_goals try conv => whnf
 ·have e := eG hI0 (by omega)
  have hx := zb (c := (aa s i : Int)) (by omega) (by omega)
  rw [if_pos (by rw [← e]; exact hb), ← e] at hx
  refine xw1 ?_
  intros
  refine nxt (i + 1, t.set i (UInt8.ofNat ((aa abcL (idxB abcU (aa t i)).toNat : Nat) : Int).toNat)) ?_ ?_ ai rfl
  ·refine jU hI0 (by omega) ?_ (by omega) (by have := aK abcL (idxB abcU (aa t i)).toNat; omega)
   rw [hx.2, e]
   simp only [Int.toNat_natCast]
  ·dsimp only; omega
 ·have e := eG hI0 (by omega)
  have hx := zb (c := (aa s i : Int)) (by omega) (by omega)
  rw [if_neg (by rw [← e]; omega)] at hx
  refine nxt (i + 1, t) ?_ ?_ ai rfl
  ·exact im hI0 (by omega) (by simpa using hx)
  ·dsimp only; omega
 ·apply aj
  rw [jV (by decide) (by decide) hI0 (by omega)]
end
end Go.Proofs.YtahebkecmlmlfaaGreatDoor
