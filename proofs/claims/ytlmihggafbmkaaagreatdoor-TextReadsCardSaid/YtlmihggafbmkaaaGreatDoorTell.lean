/- api.Tell and plain.Place: errors taken apart, through errors.As. -/
import Derived.Test.YtlmihggafbmkaaaGreatDoorShb
namespace Go.Proofs.YtlmihggafbmkaaaGreatDoor
open Go Go.Extern
set_option maxRecDepth 20000
set_option maxHeartbeats 4000000
set_option linter.unusedSimpArgs false
set_option linter.unusedVariables false
attribute [local irreducible] AWp AOps byteAt SrcOK OrOk GloAll FnSpec
/-! ### Types as the model's externs hand them about -/
noncomputable def hdl (t : TypeId) : Value := typeHandle Tryz.prog t
theorem run_valueOf_ptr (t : Addr) (w : World) : (ReflectliteValue.unpack (.iface 102 (.pointer (some t)))).run Tryz.prog w
    = .ok (.agg #[hdl 102, .pointer (some ⟨w.heap.size, 0, none⟩), .int .u64 150]) (w.alloc (.cells #[.pointer (some t)] 102)) := by kernel_rfl
theorem run_valueOf_errno (e : Int) (w : World) : (ReflectliteValue.unpack (.iface 24 (.int .i64 e))).run Tryz.prog w
    = .ok (.agg #[hdl 24, .pointer (some ⟨w.heap.size, 0, none⟩), .int .u64 130]) (w.alloc (.cells #[.int .i64 e] 24)) := by kernel_rfl
theorem one_arg {R : Seal} {a : AVal} {args : Array Value} (h : RelV R [a] args.toList) : ∃ v, args = #[v] ∧ Rel R a v := by
  obtain ⟨x, t, e, hx, rfl⟩ := h
  exact ⟨x, by cases args; simp_all, hx⟩
theorem two_args {R : Seal} {a b : AVal} {args : Array Value} (h : RelV R [a, b] args.toList) : ∃ v u, args = #[v, u] ∧ Rel R a v ∧ Rel R b u := by
  obtain ⟨x, t, e, hx, y, t', e', hy, rfl⟩ := h
  exact ⟨x, y, by cases args; simp_all, hx, hy⟩
theorem iface_val {R : Seal} {t : TypeId} {a : AVal} {v : Value} (h : Rel R (.iface t a) v) : ∃ u, v = .iface t u ∧ Rel R a u := by
  obtain ⟨u, e, h1, h2⟩ := rel_one h rfl
  simp only [List.cons.injEq, and_true] at e
  exact ⟨u, e, h1, h2⟩
theorem valueOf_ptr {G : Glo} (bl : Nat) : FnIs Tryz.prog G 50 [.iface 102 (.raw (.pointer (some ⟨bl, 0, none⟩)))]
    (.agg [.raw (hdl 102), .rop [.raw (.pointer (some ⟨bl, 0, none⟩))] 0, .int .u64 150]) := by
  refine fnis_extern_new Tryz.func50 (by kernel_rfl) (by kernel_rfl) (by kernel_rfl) (e := fun args => ReflectliteValue.unpack (args.getD 0 (.tuple #[]))) (by kernel_rfl) ?_
  intro R args w ha
  obtain ⟨v, rfl, hv⟩ := one_arg ha
  obtain ⟨u, rfl, hu⟩ := iface_val hv
  obtain rfl := rel_raw.1 hu
  refine ⟨_, _, _, run_valueOf_ptr _ w, fun R' _ hR => ⟨⟨_, _, rfl, rfl, _, _, rfl, ?_, _, _, rfl, rfl, rfl⟩, rfl⟩⟩
  exact (relC_rop (R := R') (cs := [.raw (.pointer (some ⟨bl, 0, none⟩))]) (off := 0) (Nat.le_refl _) ⟨_, _, _, hR, ⟨_, _, rfl, rfl, rfl⟩⟩).1
theorem valueOf_errno {G : Glo} (e : Int) : FnIs Tryz.prog G 50 [.iface 24 (.int .i64 e)]
    (.agg [.raw (hdl 24), .rop [.int .i64 e] 0, .int .u64 130]) := by
  refine fnis_extern_new Tryz.func50 (by kernel_rfl) (by kernel_rfl) (by kernel_rfl) (e := fun args => ReflectliteValue.unpack (args.getD 0 (.tuple #[]))) (by kernel_rfl) ?_
  intro R args w ha
  obtain ⟨v, rfl, hv⟩ := one_arg ha
  obtain ⟨u, rfl, hu⟩ := iface_val hv
  obtain rfl := rel_int.1 hu
  refine ⟨_, _, _, run_valueOf_errno _ w, fun R' _ hR => ⟨⟨_, _, rfl, rfl, _, _, rfl, ?_, _, _, rfl, rfl, rfl⟩, rfl⟩⟩
  exact (relC_rop (R := R') (cs := [.int .i64 e]) (off := 0) (Nat.le_refl _) ⟨_, _, _, hR, ⟨_, _, rfl, rfl, rfl⟩⟩).1
/-! ### Types -/
noncomputable abbrev rty (t : TypeId) : AVal := .iface 135 (.agg [.raw (hdl t)])
theorem rel_rty {R : Seal} (t : TypeId) : Rel R (rty t) (.iface 135 (.agg #[hdl t])) := ⟨⟨_, rfl, ⟨_, _, rfl, rfl, rfl⟩, rfl⟩, rfl⟩
theorem agg1_val {R : Seal} {x : Value} {v : Value} (hx : vAgg x = false) (h : Rel R (.agg [.raw x]) v) : v = .agg #[x] := by
  obtain ⟨h1, h2⟩ := h
  cases v <;> simp only [AVal.isAgg, vAgg, Bool.true_eq_false] at h2
  rename_i cs
  obtain ⟨a, t, e, ha, rfl⟩ := h1
  simp only [Value.cells] at e
  have ha : [a] = x.cells.toList := ha
  have : x.cells.toList = [x] := by cases x <;> first | rfl | (simp [vAgg] at hx)
  rw [this] at ha
  simp only [List.cons.injEq, and_true] at ha
  subst ha
  have : cs = #[a] := by cases cs; simp_all
  rw [this]
theorem rty_val {R : Seal} {t : TypeId} {v : Value} (h : Rel R (rty t) v) : v = .iface 135 (.agg #[hdl t]) := by
  obtain ⟨u, rfl, hu⟩ := iface_val h
  rw [agg1_val rfl hu]
theorem agg3_val {R : Seal} {x : Value} {k : IntKind} {n : Int} {c : AVal} {v : Value} (hx : vAgg x = false) (h : Rel R (.agg [.raw x, .rop [c] 0, .int k n]) v) :
    ∃ b o, v = .agg #[x, .pointer (some ⟨b, o, none⟩), .int k n] ∧ SealedAt R b o [c] := by
  obtain ⟨h1, h2⟩ := h
  cases v <;> simp only [AVal.isAgg, vAgg, Bool.true_eq_false] at h2
  rename_i cs
  obtain ⟨a, t, e, ha, a', t', e', ha', a'', t'', e'', ha'', rfl⟩ := h1
  simp only [Value.cells] at e
  have ha : [a] = x.cells.toList := ha
  have hxl : x.cells.toList = [x] := by cases x <;> first | rfl | (simp [vAgg] at hx)
  rw [hxl] at ha
  simp only [List.cons.injEq, and_true] at ha
  subst ha
  have ha'' : [a''] = [Value.int k n] := ha''
  simp only [List.cons.injEq, and_true] at ha''
  subst ha''
  obtain ⟨b, o, e2, ho, hs⟩ := rop_inv (relC_rel ha' rfl)
  subst e2
  refine ⟨b, o, ?_, by simpa using hs⟩
  have : cs = #[a, .pointer (some ⟨b, o, none⟩), .int k n] := by cases cs; simp_all
  rw [this]
theorem typeOf_errno {G : Glo} (e : Int) : FnIs Tryz.prog G 60 [.iface 24 (.int .i64 e)] (rty 24) := by
  refine fnis_extern Tryz.func60 (by kernel_rfl) (by kernel_rfl) (by kernel_rfl) (e := ReflectliteType.typeOf) (by kernel_rfl) ?_
  intro R args ha w
  obtain ⟨v, rfl, hv⟩ := one_arg ha
  obtain ⟨u, rfl, hu⟩ := iface_val hv
  exact ⟨.iface 135 (.agg #[hdl 24]), by kernel_rfl, rel_rty _⟩
theorem typeOf_at {G : Glo} (a : AVal) : FnIs Tryz.prog G 60 [.iface 56 a] (rty 56) := by
  refine fnis_extern Tryz.func60 (by kernel_rfl) (by kernel_rfl) (by kernel_rfl) (e := ReflectliteType.typeOf) (by kernel_rfl) ?_
  intro R args ha w
  obtain ⟨v, rfl, hv⟩ := one_arg ha
  obtain ⟨u, rfl, hu⟩ := iface_val hv
  exact ⟨.iface 135 (.agg #[hdl 56]), by kernel_rfl, rel_rty _⟩
theorem type_ptr {G : Glo} (c : AVal) : FnIs Tryz.prog G 51 [.agg [.raw (hdl 102), .rop [c] 0, .int .u64 150]] (rty 102) := by
  refine fnis_extern Tryz.func51 (by kernel_rfl) (by kernel_rfl) (by kernel_rfl)
    (e := ReflectliteValue.methodAny (ReflectliteValue.valueError "reflectlite.Value.Type" 0) fun t _ _ _ => ReflectliteType.toType t) (by kernel_rfl) ?_
  intro R args ha w
  obtain ⟨v, rfl, hv⟩ := one_arg ha
  obtain ⟨b, o, rfl, _⟩ := agg3_val rfl hv
  exact ⟨.iface 135 (.agg #[hdl 102]), by kernel_rfl, rel_rty _⟩
theorem abi_kind {G : Glo} (t : TypeId) (k : Int) (h : ∀ w, (((ReflectliteType.abiMethod fun t => do pure (.int .u8 (← Rtype.kind t))) #[hdl t]).run Tryz.prog w) = .ok (.int .u8 k) w) : FnIs Tryz.prog G 101 [.raw (hdl t)] (.int .u8 k) := by
  refine fnis_extern Tryz.func101 (by kernel_rfl) (by kernel_rfl) (by kernel_rfl)
    (e := ReflectliteType.abiMethod fun t => do pure (.int .u8 (← Rtype.kind t))) (by kernel_rfl) ?_
  intro R args ha w
  obtain ⟨v, rfl, hv⟩ := one_arg ha
  obtain rfl := rel_raw.1 hv
  exact ⟨.int .u8 k, h w, rel_int.2 rfl⟩
theorem kind_ptr {G : Glo} : FnIs Tryz.prog G 101 [.raw (hdl 102)] (.int .u8 22) := abi_kind _ _ (fun w => by kernel_rfl)
theorem kind_errno {G : Glo} : FnIs Tryz.prog G 101 [.raw (hdl 24)] (.int .u8 2) := abi_kind _ _ (fun w => by kernel_rfl)
theorem elem_ptr {G : Glo} : FnIs Tryz.prog G 133 [.agg [.raw (hdl 102)]] (rty 24) := by
  refine fnis_extern Tryz.func133 (by kernel_rfl) (by kernel_rfl) (by kernel_rfl) (e := ReflectliteType.method ReflectliteType.elem) (by kernel_rfl) ?_
  intro R args ha w
  obtain ⟨v, rfl, hv⟩ := one_arg ha
  obtain rfl := agg1_val rfl hv
  exact ⟨.iface 135 (.agg #[hdl 24]), by kernel_rfl, rel_rty _⟩
theorem implements_errno {G : Glo} : FnIs Tryz.prog G 134 [.agg [.raw (hdl 24)], rty 30] (.bool true) := by
  refine fnis_extern Tryz.func134 (by kernel_rfl) (by kernel_rfl) (by kernel_rfl) (e := ReflectliteType.relation "Implements" ReflectliteType.implements_) (by kernel_rfl) ?_
  intro R args ha w
  obtain ⟨v, u, rfl, hv, hu⟩ := two_args ha
  obtain rfl := agg1_val rfl hv
  obtain rfl := rty_val hu
  exact ⟨.bool true, by kernel_rfl, rel_bool.2 rfl⟩
theorem assignable_errno {G : Glo} : FnIs Tryz.prog G 131 [.agg [.raw (hdl 24)], rty 24] (.bool true) := by
  refine fnis_extern Tryz.func131 (by kernel_rfl) (by kernel_rfl) (by kernel_rfl) (e := ReflectliteType.relation "AssignableTo" ReflectliteType.assignableTo) (by kernel_rfl) ?_
  intro R args ha w
  obtain ⟨v, u, rfl, hv, hu⟩ := two_args ha
  obtain rfl := agg1_val rfl hv
  obtain rfl := rty_val hu
  exact ⟨.bool true, by kernel_rfl, rel_bool.2 rfl⟩
theorem assignable_at {G : Glo} : FnIs Tryz.prog G 131 [.agg [.raw (hdl 56)], rty 24] (.bool false) := by
  refine fnis_extern Tryz.func131 (by kernel_rfl) (by kernel_rfl) (by kernel_rfl) (e := ReflectliteType.relation "AssignableTo" ReflectliteType.assignableTo) (by kernel_rfl) ?_
  intro R args ha w
  obtain ⟨v, u, rfl, hv, hu⟩ := two_args ha
  obtain rfl := agg1_val rfl hv
  obtain rfl := rty_val hu
  exact ⟨.bool false, by kernel_rfl, rel_bool.2 rfl⟩
/-! ### What reads or writes memory -/
theorem rlm (z : Sem Value) (f : TypeId → Addr → Nat → Nat → Sem Value) (v : Value) :
    ReflectliteValue.method z f #[v] = (do match ← ReflectliteValue.parts v with | none => z | some (t, a, fl) => f t a fl (fl % 32)) := rfl
theorem parts_ptr (a : Addr) (w : World) : (ReflectliteValue.parts (.agg #[hdl 102, .pointer (some a), .int .u64 150])).run Tryz.prog w = .ok (some (102, a, 150)) w := by kernel_rfl
theorem parts_var (a : Addr) (w : World) : (ReflectliteValue.parts (.agg #[hdl 24, .pointer (some a), .int .u64 386])).run Tryz.prog w = .ok (some (24, a, 386)) w := by kernel_rfl
theorem parts_errno (a : Addr) (w : World) : (ReflectliteValue.parts (.agg #[hdl 24, .pointer (some a), .int .u64 130])).run Tryz.prog w = .ok (some (24, a, 130)) w := by kernel_rfl
theorem elemOf_ptr (w : World) : (Rtype.elem? 102).run Tryz.prog w = .ok (some 24) w := by kernel_rfl
theorem mk_var (p : Addr) (w : World) : (ReflectliteValue.mk 24 p ReflectliteValue.flagAddr).run Tryz.prog w = .ok (.agg #[hdl 24, .pointer (some p), .int .u64 386]) w := by kernel_rfl
theorem isNil_ptr {G : Glo} (bl : Nat) : FnIs Tryz.prog G 52 [.agg [.raw (hdl 102), .rop [.raw (.pointer (some ⟨bl, 0, none⟩))] 0, .int .u64 150]] (.bool false) := by
  refine fnspec_extern Tryz.func52 (by kernel_rfl) (by kernel_rfl) (by kernel_rfl) (e := ReflectliteValue.method (ReflectliteValue.valueError "reflectlite.Value.IsNil" 0) ReflectliteValue.isNil) (by kernel_rfl) ?_
  intro C R args w hm ha
  obtain ⟨v, rfl, hv⟩ := one_arg ha
  obtain ⟨b, o, rfl, hs⟩ := agg3_val rfl hv
  obtain ⟨u, hu, hr⟩ := hs.cell hm.sealed (i := 0) rfl
  rw [Nat.add_zero] at hu
  have hr : [u] = [Value.pointer (some ⟨bl, 0, none⟩)] := hr
  simp only [List.cons.injEq, and_true] at hr
  subst hr
  refine ⟨.bool false, w, R, ?_, Seal.le_refl R, rel_bool.2 rfl, hm⟩
  rw [rlm]
  simp only [Sem.run_bind, parts_ptr, Result.andThen]
  simp [ReflectliteValue.isNil, loadVar, isAgg, underlying, Tryz.underlying102, hu, Result.andThen]
theorem elemV_ptr {G : Glo} (bl : Nat) : FnIs Tryz.prog G 61 [.agg [.raw (hdl 102), .rop [.raw (.pointer (some ⟨bl, 0, none⟩))] 0, .int .u64 150]] (.agg [.raw (hdl 24), .raw (.pointer (some ⟨bl, 0, none⟩)), .int .u64 386]) := by
  refine fnspec_extern Tryz.func61 (by kernel_rfl) (by kernel_rfl) (by kernel_rfl) (e := ReflectliteValue.method (ReflectliteValue.valueError "reflectlite.Value.Elem" 0) ReflectliteValue.elem) (by kernel_rfl) ?_
  intro C R args w hm ha
  obtain ⟨v, rfl, hv⟩ := one_arg ha
  obtain ⟨b, o, rfl, hs⟩ := agg3_val rfl hv
  obtain ⟨u, hu, hr⟩ := hs.cell hm.sealed (i := 0) rfl
  rw [Nat.add_zero] at hu
  have hr : [u] = [Value.pointer (some ⟨bl, 0, none⟩)] := hr
  simp only [List.cons.injEq, and_true] at hr
  subst hr
  refine ⟨.agg #[hdl 24, .pointer (some ⟨bl, 0, none⟩), .int .u64 386], w, R, ?_, Seal.le_refl R, ⟨⟨_, _, rfl, rfl, _, _, rfl, rfl, _, _, rfl, rfl, rfl⟩, rfl⟩, hm⟩
  rw [rlm]
  simp only [Sem.run_bind, parts_ptr, Result.andThen]
  simp [ReflectliteValue.elem, loadVar, isAgg, underlying, Tryz.underlying102, hu, Result.andThen, elemOf_ptr, mk_var]
end Go.Proofs.YtlmihggafbmkaaaGreatDoor
