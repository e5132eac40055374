/- Parts of the proof of linePrints_card: Telb, Plc, Uri, Uf, Ug, Hda, Len, Exh, Shc, Def, Deg, Deh, Syn, Exd. -/
import Derived.Stop.Asserts
import Derived.Lib.Join
import Derived.Defers
import Derived.Recover
import Derived.Laws.LoneSync
import Derived.OrdersHeld
import Derived.Test.YtglapkioagenaaaGreatDoorBad
import Derived.Test.YtglapkioagenaaaGreatDoorBaa
set_option linter.unusedVariables false
set_option linter.unusedSimpArgs false
namespace Go.Proofs.YtglapkioagenaaaGreatDoor
open Go Go.Extern
set_option maxRecDepth 20000
set_option maxHeartbeats 4000000
set_option linter.unusedSimpArgs false
set_option linter.unusedVariables false
attribute [local irreducible] AWp AOps byteAt SrcOK OrOk GloAll FnSpec
theorem rls (v x : Value) : ReflectliteValue.set #[v, x] = (do
    let (some (dst, a, fl), some (src, b, _)) := (← ReflectliteValue.parts v, ← ReflectliteValue.parts x)
      | unsupported (.noEntry "extern/(internal/reflectlite.Value).Set.zeroValue")
    if fl / ReflectliteValue.flagAddr % 2 == 0 then unsupported (.noEntry "extern/(internal/reflectlite.Value).Set.unaddressable")
    let val ← loadVar src b
    if ← Rtype.directlyAssignable dst src then storeVar dst a val
    else if ← Rtype.implements dst src then
      if (← Rtype.kind src) == 20 then
        match val with
        | .nilIface => unsupported (.noEntry "extern/reflectlite: a nil value of one interface type handed on as a value of another")
        | _ => storeVar dst a val
      else storeVar dst a (.iface src val)
    else panicString ("reflectlite.Set: value of type " ++ (← Rtype.spelt src) ++ " is not assignable to type " ++ (← Rtype.spelt dst))
    pure (.tuple #[])) := rfl
theorem direct_errno (w : World) : (Rtype.directlyAssignable 26 26).run Tryz.prog w = .ok true w := by kernel_rfl
theorem aggv_val {R : Seal} {x y : Value} {k : IntKind} {n : Int} {v : Value} (hx : vAgg x = false) (hy : vAgg y = false) (h : Rel R (.agg [.raw x, .raw y, .int k n]) v) : v = .agg #[x, y, .int k n] := by
  obtain ⟨h1, h2⟩ := h
  cases v <;> simp only [AVal.isAgg, vAgg, Bool.true_eq_false] at h2
  rename_i cs
  obtain ⟨a, t, e, ha, a', t', e', ha', a'', t'', e'', ha'', rfl⟩ := h1
  simp only [Value.cells] at e
  have key : ∀ {z : Value}, vAgg z = false → z.cells.toList = [z] := by intro z hz; cases z <;> first | rfl | (simp [vAgg] at hz)
  have ha : [a] = x.cells.toList := ha
  have ha' : [a'] = y.cells.toList := ha'
  rw [key hx] at ha
  rw [key hy] at ha'
  have ha'' : [a''] = [Value.int k n] := ha''
  simp only [List.cons.injEq, and_true] at ha ha' ha''
  subst ha ha' ha''
  have : cs = #[a, a', .int k n] := by cases cs; simp_all
  rw [this]
theorem set_errno {G : Glo} (bl : Nat) (e old : Int) : FnSpec Tryz.prog G 87 [.agg [.raw (hdl 26), .raw (.pointer (some ⟨bl, 0, none⟩)), .int .u64 386], .agg [.raw (hdl 26), .rop [.int .i64 e] 0, .int .u64 130]]
    [.cells bl (some 26) [.int .i64 old]] (fun r H => r = .ret (.tuple []) ∧ H = [.cells bl (some 26) [.int .i64 e]]) := by
  refine fnspec_extern Tryz.func87 (by kernel_rfl) (by kernel_rfl) (by kernel_rfl) (e := ReflectliteValue.set) (by kernel_rfl) ?_
  intro C R args w hm ha
  obtain ⟨v, u, rfl, hv, hu⟩ := two_args ha
  obtain rfl := aggv_val rfl rfl hv
  obtain ⟨b, o, rfl, hs⟩ := agg3_val rfl hu
  obtain ⟨u, hu, hr⟩ := hs.cell hm.sealed (i := 0) rfl
  rw [Nat.add_zero] at hu
  have hr : [u] = [Value.int .i64 e] := hr
  simp only [List.cons.injEq, and_true] at hr
  subst hr
  obtain ⟨Cs, el, fz, hb, hl, hfz⟩ := own_cells hm (i := 0) rfl
  have hlen := relL_length hl
  simp only [Array.length_toList, List.length_cons, List.length_nil] at hlen
  obtain ⟨w', hst, ho⟩ := storeCells_run (P := Tryz.prog) [Value.int .i64 e] 0 0 Cs w hb (by simp only [List.length_cons, List.length_nil]; omega) hfz.1 (by intro v hv; simp only [List.mem_singleton] at hv; subst hv; exact ⟨rfl, fun _ => by simp⟩)
  refine ⟨.tuple #[], w', R, ?_, Seal.le_refl R, ⟨⟨#[], rfl, rfl⟩, rfl⟩, ?_⟩
  · rw [rls]
    simp only [Sem.run_bind, parts_var, parts_errno, Result.andThen]
    simp [ReflectliteValue.flagAddr, loadVar, isAgg, underlying, Tryz.underlying26, hu, Result.andThen, direct_errno, storeVar, Value.cells]
    rw [hst]
  · have hd : Cs.toList.drop (0 + 0 + [Value.int .i64 e].length) = [] := List.drop_eq_nil_of_le (by simp; omega)
    refine hm.write (i := 0) rfl rfl ho rfl ⟨_, _, _, ho.at_, ?_, ?_⟩
    · rw [hd]; exact ⟨_, _, rfl, rfl, rfl⟩
    · rw [hd]
      have : Cs.size = 1 := by omega
      rw [this] at hfz
      exact hfz
/-! ### Methods -/
section
variable (t : TypeId)
theorem m_kind : ∀ R v, Rel R (.agg [.raw (hdl t)]) v → ∀ w, ∃ u, (Go.method (Tryz.prog.types.size + Made.depth) 150 v "Kind").run Tryz.prog w = .ok (133, u) w ∧ Rel R (.raw (hdl t)) u := by
  intro R v h w
  obtain rfl := agg1_val rfl h
  exact ⟨hdl t, by kernel_rfl, rel_raw.2 rfl⟩
theorem m_elem : ∀ R v, Rel R (.agg [.raw (hdl t)]) v → ∀ w, ∃ u, (Go.method (Tryz.prog.types.size + Made.depth) 150 v "Elem").run Tryz.prog w = .ok (160, u) w ∧ Rel R (.agg [.raw (hdl t)]) u := by
  intro R v h w
  obtain rfl := agg1_val rfl h
  exact ⟨.agg #[hdl t], by kernel_rfl, h⟩
theorem m_impl : ∀ R v, Rel R (.agg [.raw (hdl t)]) v → ∀ w, ∃ u, (Go.method (Tryz.prog.types.size + Made.depth) 150 v "Implements").run Tryz.prog w = .ok (161, u) w ∧ Rel R (.agg [.raw (hdl t)]) u := by
  intro R v h w
  obtain rfl := agg1_val rfl h
  exact ⟨.agg #[hdl t], by kernel_rfl, h⟩
theorem m_asgn : ∀ R v, Rel R (.agg [.raw (hdl t)]) v → ∀ w, ∃ u, (Go.method (Tryz.prog.types.size + Made.depth) 150 v "AssignableTo").run Tryz.prog w = .ok (158, u) w ∧ Rel R (.agg [.raw (hdl t)]) u := by
  intro R v h w
  obtain rfl := agg1_val rfl h
  exact ⟨.agg #[hdl t], by kernel_rfl, h⟩
end
theorem m_unwrap (a : AVal) : ∀ R v, Rel R a v → ∀ w, ∃ u, (Go.method (Tryz.prog.types.size + Made.depth) 61 v "Unwrap").run Tryz.prog w = .ok (139, u) w ∧ Rel R a u := by
  intro R v h w
  exact ⟨v, by kernel_rfl, h⟩
theorem i_at_As : ∀ v w, (Instr.typeAssert (.iface 61 v) 32 155 true).run Tryz.prog w = .ok (.tuple #[.nilIface, .bool false]) w := fun v w => run_typeAssert_lacksB (z := .nilIface) Tryz.underlying155 (by kernel_rfl) (by kernel_rfl) v _ w
theorem i_at_Unwrap : ∀ v w, (Instr.typeAssert (.iface 61 v) 32 73 true).run Tryz.prog w = .ok (.tuple #[.iface 61 v, .bool true]) w := by intro v w; kernel_rfl
theorem i_errno_Unwrap : ∀ v w, (Instr.typeAssert (.iface 26 v) 32 73 true).run Tryz.prog w = .ok (.tuple #[.nilIface, .bool false]) w := fun v w => run_typeAssert_lacksB (z := .nilIface) Tryz.underlying73 (by kernel_rfl) (by kernel_rfl) v _ w
/-! ### The walks -/
abbrev errA (e : Int) : AVal := .iface 26 (.int .i64 e)
abbrev atA (e p : Int) : AVal := .iface 61 (.rop [.int .i64 e, .int .i64 p] 0)
noncomputable abbrev tgtV (bl : Nat) : AVal := .agg [.raw (hdl 104), .rop [.raw (.pointer (some ⟨bl, 0, none⟩))] 0, .int .u64 150]
abbrev tgtA (bl : Nat) : AVal := .iface 104 (.raw (.pointer (some ⟨bl, 0, none⟩)))
theorem At_Unwrap {G : Glo} (e p : Int) : FnIs Tryz.prog G 139 [.rop [.int .i64 e, .int .i64 p] 0] (errA e) := by
  have hGL : GloAll G [] := gloAll_nil
  refine fn_x Tryz.func139 Tryz.call139 rfl rfl rfl rfl hGL ?_
  intro C hC
  repeat' (first
    | (conv => whnf); first
      | refine .w ?_ | refine .v ?_ | apply sc_true | apply sc_false
      | (first | apply sc_lt | apply sc_nlt | apply sc_eq | apply sc_neq | apply sc_nil | apply sc_nnil | apply sc_seq | apply sc_nseq) <;> (intro hb; try exact dd hb)
      | apply sc_not | apply sc_or | (apply sc_i <;> intro hb)
      | (apply bx_i; intro hbd) | (apply gt_i; assumption; exact rfl)
      | (apply cx_is; first | fail) | (apply cx_do (i := 0) rfl; first | fail)
      | (apply ab_i; intro bl) | (apply as_i; intro va vk vc hva) | (apply av_i; intro v) | (apply ac_i; intro bl cap hcap)
      | apply bo_l | (apply nx_i <;> intro hnx) | (apply Ia.hit; assumption) | (apply Ia.miss; assumption)
      | (apply rt_is; exact rfl) | exact rt_w | (apply iv; assumption)
      | apply dw_q mixed hC hGL (by kernel_rfl) | (apply cq; assumption; (first | fail); exact rfl))
  all_goals (try conv => whnf)
theorem errors_as_errno {G : Glo} (bl : Nat) (e old : Int) : FnSpec Tryz.prog G 71 [errA e, tgtA bl, tgtV bl, rty 26] [.cells bl (some 26) [.int .i64 old]] (fun r H => r = .ret (.bool true) ∧ H = [.cells bl (some 26) [.int .i64 e]]) := by
  have hGL : GloAll G [] := gloAll_nil
  refine fn_x Tryz.func71 Tryz.call71 rfl rfl rfl rfl hGL ?_
  intro C hC
  have h1 := typeOf_errno (G := G) e
  have h2 := elemV_ptr (G := G) bl
  have h3 := valueOf_errno (G := G) e
  have h4 := set_errno (G := G) bl e old
  have h5 := assignable_errno (G := G)
  have m1 := m_asgn 26
  repeat' (first
    | (conv => whnf); first
      | refine .w ?_ | refine .v ?_ | apply sc_true | apply sc_false
      | (first | apply sc_lt | apply sc_nlt | apply sc_eq | apply sc_neq | apply sc_nil | apply sc_nnil | apply sc_seq | apply sc_nseq) <;> (intro hb; try exact dd hb)
      | apply sc_not | apply sc_or | (apply sc_i <;> intro hb)
      | (apply bx_i; intro hbd) | (apply gt_i; assumption; exact rfl)
      | (apply cx_is; first | fail) | (apply cx_do (i := 0) rfl; first | fail)
      | (apply ab_i; intro bl) | (apply as_i; intro va vk vc hva) | (apply av_i; intro v) | (apply ac_i; intro bl cap hcap)
      | apply bo_l | (apply nx_i <;> intro hnx) | (apply Ia.hit; assumption) | (apply Ia.miss; assumption)
      | (apply rt_is; exact rfl) | exact rt_w | (apply iv; assumption)
      | apply dw_q mixed hC hGL (by kernel_rfl) | (apply cq; assumption; (first | fail); exact rfl))
  all_goals (try conv => whnf)
  refine rds hC hGL 1 ?_
  repeat' (first
    | (conv => whnf); first
      | refine .w ?_ | refine .v ?_ | apply sc_true | apply sc_false
      | (first | apply sc_lt | apply sc_nlt | apply sc_eq | apply sc_neq | apply sc_nil | apply sc_nnil | apply sc_seq | apply sc_nseq) <;> (intro hb; try exact dd hb)
      | apply sc_not | apply sc_or | (apply sc_i <;> intro hb)
      | (apply bx_i; intro hbd) | (apply gt_i; assumption; exact rfl)
      | (apply cx_is; first | exact h1 | exact h2 | exact h3 | exact h4 | exact h5) | (apply cx_do (i := 0) rfl; first | exact h1 | exact h2 | exact h3 | exact h4 | exact h5)
      | (apply ab_i; intro bl) | (apply as_i; intro va vk vc hva) | (apply av_i; intro v) | (apply ac_i; intro bl cap hcap)
      | apply bo_l | (apply nx_i <;> intro hnx) | (apply Ia.hit; assumption) | (apply Ia.miss; assumption)
      | (apply rt_is; exact rfl) | exact rt_w | (apply iv; assumption)
      | apply dw_q mixed hC hGL (by kernel_rfl) | (apply cq; assumption; (first | exact h1 | exact h2 | exact h3 | exact h4 | exact h5); exact rfl))
  all_goals (try conv => whnf)
theorem errors_as_at {G : Glo} (bl : Nat) (e p old : Int) : FnSpec Tryz.prog G 71 [atA e p, tgtA bl, tgtV bl, rty 26] [.cells bl (some 26) [.int .i64 old]] (fun r H => r = .ret (.bool true) ∧ H = [.cells bl (some 26) [.int .i64 e]]) := by
  have hGL : GloAll G [] := gloAll_nil
  refine fn_x Tryz.func71 Tryz.call71 rfl rfl rfl rfl hGL ?_
  intro C hC
  have h1 := typeOf_errno (G := G) e
  have h2 := elemV_ptr (G := G) bl
  have h3 := valueOf_errno (G := G) e
  have h4 := set_errno (G := G) bl e old
  have h5 := assignable_errno (G := G)
  have h6 := assignable_at (G := G)
  have h7 := typeOf_at (G := G) (.rop [.int .i64 e, .int .i64 p] 0)
  have h8 := At_Unwrap (G := G) e p
  have m1 := m_asgn 26
  have m2 := m_asgn 61
  have m3 := m_unwrap (.rop [.int .i64 e, .int .i64 p] 0)
  have i1 := i_at_As
  have i2 := i_at_Unwrap
  repeat' (first
    | (conv => whnf); first
      | refine .w ?_ | refine .v ?_ | apply sc_true | apply sc_false
      | (first | apply sc_lt | apply sc_nlt | apply sc_eq | apply sc_neq | apply sc_nil | apply sc_nnil | apply sc_seq | apply sc_nseq) <;> (intro hb; try exact dd hb)
      | apply sc_not | apply sc_or | (apply sc_i <;> intro hb)
      | (apply bx_i; intro hbd) | (apply gt_i; assumption; exact rfl)
      | (apply cx_is; first | fail) | (apply cx_do (i := 0) rfl; first | fail)
      | (apply ab_i; intro bl) | (apply as_i; intro va vk vc hva) | (apply av_i; intro v) | (apply ac_i; intro bl cap hcap)
      | apply bo_l | (apply nx_i <;> intro hnx) | (apply Ia.hit; assumption) | (apply Ia.miss; assumption)
      | (apply rt_is; exact rfl) | exact rt_w | (apply iv; assumption)
      | apply dw_q mixed hC hGL (by kernel_rfl) | (apply cq; assumption; (first | fail); exact rfl))
  all_goals (try conv => whnf)
  refine rds hC hGL 2 ?_
  repeat' (first
    | (conv => whnf); first
      | refine .w ?_ | refine .v ?_ | apply sc_true | apply sc_false
      | (first | apply sc_lt | apply sc_nlt | apply sc_eq | apply sc_neq | apply sc_nil | apply sc_nnil | apply sc_seq | apply sc_nseq) <;> (intro hb; try exact dd hb)
      | apply sc_not | apply sc_or | (apply sc_i <;> intro hb)
      | (apply bx_i; intro hbd) | (apply gt_i; assumption; exact rfl)
      | (apply cx_is; first | exact h1 | exact h2 | exact h3 | exact h4 | exact h5 | exact h6 | exact h7 | exact h8) | (apply cx_do (i := 0) rfl; first | exact h1 | exact h2 | exact h3 | exact h4 | exact h5 | exact h6 | exact h7 | exact h8)
      | (apply ab_i; intro bl) | (apply as_i; intro va vk vc hva) | (apply av_i; intro v) | (apply ac_i; intro bl cap hcap)
      | apply bo_l | (apply nx_i <;> intro hnx) | (apply Ia.hit; assumption) | (apply Ia.miss; assumption)
      | (apply rt_is; exact rfl) | exact rt_w | (apply iv; assumption)
      | apply dw_q mixed hC hGL (by kernel_rfl) | (apply cq; assumption; (first | exact h1 | exact h2 | exact h3 | exact h4 | exact h5 | exact h6 | exact h7 | exact h8); exact rfl))
  all_goals (try conv => whnf)
/-- What stands in errors.errorType. -/
noncomputable abbrev errTy : List (Nat × List AVal) := [(0, [rty 32])]
theorem errors_As {G : Glo} (hGL : GloAll G errTy) (bl : Nat) (e : Int) {ty : TypeId} {a : AVal} (hs : FnSpec Tryz.prog G 71 [.iface ty (unown a), tgtA bl, tgtV bl, rty 26] [.cells bl (some 26) [.int .i64 0]] (fun r H => r = .ret (.bool true) ∧ H = [.cells bl (some 26) [.int .i64 e]])) :
    FnSpec Tryz.prog G 53 [.iface ty a, tgtA bl] [.cells bl (some 26) [.int .i64 0]] (fun r H => r = .ret (.bool true) ∧ H = [.cells bl (some 26) [.int .i64 e]]) := by
  refine fn_x Tryz.func53 Tryz.call53 rfl rfl rfl rfl hGL ?_
  intro C hC
  have h1 := valueOf_ptr (G := G) bl
  have h2 := type_ptr (G := G) (.raw (.pointer (some ⟨bl, 0, none⟩)))
  have h3 := isNil_ptr (G := G) bl
  have h4 := kind_ptr (G := G)
  have h5 := elem_ptr (G := G)
  have h6 := kind_errno (G := G)
  have h7 := implements_errno (G := G)
  have m1 := m_kind 104
  have m2 := m_elem 104
  have m3 := m_kind 26
  have m4 := m_impl 26
  repeat' (first
    | (conv => whnf); first
      | refine .w ?_ | refine .v ?_ | apply sc_true | apply sc_false
      | (first | apply sc_lt | apply sc_nlt | apply sc_eq | apply sc_neq | apply sc_nil | apply sc_nnil | apply sc_seq | apply sc_nseq) <;> (intro hb; try exact dd hb)
      | apply sc_not | apply sc_or | (apply sc_i <;> intro hb)
      | (apply bx_i; intro hbd) | (apply gt_i; assumption; exact rfl)
      | (apply cx_is; first | exact h1 | exact h2 | exact h3 | exact h4 | exact h5 | exact h6 | exact h7 | exact hs) | (apply cx_do (i := 0) rfl; first | exact h1 | exact h2 | exact h3 | exact h4 | exact h5 | exact h6 | exact h7 | exact hs)
      | (apply ab_i; intro bl) | (apply as_i; intro va vk vc hva) | (apply av_i; intro v) | (apply ac_i; intro bl cap hcap)
      | apply bo_l | (apply nx_i <;> intro hnx) | (apply Ia.hit; assumption) | (apply Ia.miss; assumption)
      | (apply rt_is; exact rfl) | exact rt_w | (apply iv; assumption)
      | apply dw_q mixed hC hGL (by kernel_rfl) | (apply cq; assumption; (first | exact h1 | exact h2 | exact h3 | exact h4 | exact h5 | exact h6 | exact h7 | exact hs); exact rfl))
  all_goals (try conv => whnf)
theorem api_Tell_nil {G : Glo} : FnIs Tryz.prog G 35 [.raw .nilIface] (.int .i64 0) := by
  have hGL : GloAll G [] := gloAll_nil
  refine fn_x Tryz.func35 Tryz.call35 rfl rfl rfl rfl hGL ?_
  intro C hC
  repeat' (first
    | (conv => whnf); first
      | refine .w ?_ | refine .v ?_ | apply sc_true | apply sc_false
      | (first | apply sc_lt | apply sc_nlt | apply sc_eq | apply sc_neq | apply sc_nil | apply sc_nnil | apply sc_seq | apply sc_nseq) <;> (intro hb; try exact dd hb)
      | apply sc_not | apply sc_or | (apply sc_i <;> intro hb)
      | (apply bx_i; intro hbd) | (apply gt_i; assumption; exact rfl)
      | (apply cx_is; first | fail) | (apply cx_do (i := 0) rfl; first | fail)
      | (apply ab_i; intro bl) | (apply as_i; intro va vk vc hva) | (apply av_i; intro v) | (apply ac_i; intro bl cap hcap)
      | apply bo_l | (apply nx_i <;> intro hnx) | (apply Ia.hit; assumption) | (apply Ia.miss; assumption)
      | (apply rt_is; exact rfl) | exact rt_w | (apply iv; assumption)
      | apply dw_q mixed hC hGL (by kernel_rfl) | (apply cq; assumption; (first | fail); exact rfl))
  all_goals (try conv => whnf)
theorem api_Tell_errno {G : Glo} (hGL : GloAll G errTy) (e : Int) : FnIs Tryz.prog G 35 [errA e] (.int .i64 e) := by
  refine fn_x Tryz.func35 Tryz.call35 rfl rfl rfl rfl hGL ?_
  intro C hC
  repeat' (first
    | (conv => whnf); first
      | refine .w ?_ | refine .v ?_ | apply sc_true | apply sc_false
      | (first | apply sc_lt | apply sc_nlt | apply sc_eq | apply sc_neq | apply sc_nil | apply sc_nnil | apply sc_seq | apply sc_nseq) <;> (intro hb; try exact dd hb)
      | apply sc_not | apply sc_or | (apply sc_i <;> intro hb)
      | (apply bx_i; intro hbd) | (apply gt_i; assumption; exact rfl)
      | (apply cx_is; first | exact errors_As hGL _ e (errors_as_errno _ e 0)) | (apply cx_do (i := 0) rfl; first | exact errors_As hGL _ e (errors_as_errno _ e 0))
      | (apply ab_i; intro bl) | (apply as_i; intro va vk vc hva) | (apply av_i; intro v) | (apply ac_i; intro bl cap hcap)
      | apply bo_l | (apply nx_i <;> intro hnx) | (apply Ia.hit; assumption) | (apply Ia.miss; assumption)
      | (apply rt_is; exact rfl) | exact rt_w | (apply iv; assumption)
      | apply dw_q mixed hC hGL (by kernel_rfl) | (apply cq; assumption; (first | exact errors_As hGL _ e (errors_as_errno _ e 0)); exact rfl))
  all_goals (try conv => whnf)
theorem api_Tell_at {G : Glo} (hGL : GloAll G errTy) (e p : Int) : FnIs Tryz.prog G 35 [atA e p] (.int .i64 e) := by
  refine fn_x Tryz.func35 Tryz.call35 rfl rfl rfl rfl hGL ?_
  intro C hC
  repeat' (first
    | (conv => whnf); first
      | refine .w ?_ | refine .v ?_ | apply sc_true | apply sc_false
      | (first | apply sc_lt | apply sc_nlt | apply sc_eq | apply sc_neq | apply sc_nil | apply sc_nnil | apply sc_seq | apply sc_nseq) <;> (intro hb; try exact dd hb)
      | apply sc_not | apply sc_or | (apply sc_i <;> intro hb)
      | (apply bx_i; intro hbd) | (apply gt_i; assumption; exact rfl)
      | (apply cx_is; first | exact errors_As hGL _ e (errors_as_at _ e p 0)) | (apply cx_do (i := 0) rfl; first | exact errors_As hGL _ e (errors_as_at _ e p 0))
      | (apply ab_i; intro bl) | (apply as_i; intro va vk vc hva) | (apply av_i; intro v) | (apply ac_i; intro bl cap hcap)
      | apply bo_l | (apply nx_i <;> intro hnx) | (apply Ia.hit; assumption) | (apply Ia.miss; assumption)
      | (apply rt_is; exact rfl) | exact rt_w | (apply iv; assumption)
      | apply dw_q mixed hC hGL (by kernel_rfl) | (apply cq; assumption; (first | exact errors_As hGL _ e (errors_as_at _ e p 0)); exact rfl))
  all_goals (try conv => whnf)
/-- An error, and what it is taken for. -/
inductive Err
  | none
  | errno (e : Int)
  | at (e p : Int)
def Err.A : Err → AVal
  | .none => .raw .nilIface
  | .errno e => errA e
  | .at e p => atA e p
def Err.e : Err → Int
  | .none => 0
  | .errno e => e
  | .at e _ => e
def Err.p : Err → Int
  | .none => -1
  | .errno _ => -1
  | .at _ p => p
theorem plain_Place_nil {G : Glo} : FnIs Tryz.prog G 22 [.raw .nilIface] (.tuple [.int .i64 0, .int .i64 (-1)]) := by
  have hGL : GloAll G [] := gloAll_nil
  refine fn_x Tryz.func22 Tryz.call22 rfl rfl rfl rfl hGL ?_
  intro C hC
  repeat' (first
    | (conv => whnf); first
      | refine .w ?_ | refine .v ?_ | apply sc_true | apply sc_false
      | (first | apply sc_lt | apply sc_nlt | apply sc_eq | apply sc_neq | apply sc_nil | apply sc_nnil | apply sc_seq | apply sc_nseq) <;> (intro hb; try exact dd hb)
      | apply sc_not | apply sc_or | (apply sc_i <;> intro hb)
      | (apply bx_i; intro hbd) | (apply gt_i; assumption; exact rfl)
      | (apply cx_is; first | exact api_Tell_nil) | (apply cx_do (i := 0) rfl; first | exact api_Tell_nil)
      | (apply ab_i; intro bl) | (apply as_i; intro va vk vc hva) | (apply av_i; intro v) | (apply ac_i; intro bl cap hcap)
      | apply bo_l | (apply nx_i <;> intro hnx) | (apply Ia.hit; assumption) | (apply Ia.miss; assumption)
      | (apply rt_is; exact rfl) | exact rt_w | (apply iv; assumption)
      | apply dw_q mixed hC hGL (by kernel_rfl) | (apply cq; assumption; (first | exact api_Tell_nil); exact rfl))
  all_goals (try conv => whnf)
  refine rds hC hGL 1 ?_
  repeat' (first
    | (conv => whnf); first
      | refine .w ?_ | refine .v ?_ | apply sc_true | apply sc_false
      | (first | apply sc_lt | apply sc_nlt | apply sc_eq | apply sc_neq | apply sc_nil | apply sc_nnil | apply sc_seq | apply sc_nseq) <;> (intro hb; try exact dd hb)
      | apply sc_not | apply sc_or | (apply sc_i <;> intro hb)
      | (apply bx_i; intro hbd) | (apply gt_i; assumption; exact rfl)
      | (apply cx_is; first | fail) | (apply cx_do (i := 0) rfl; first | fail)
      | (apply ab_i; intro bl) | (apply as_i; intro va vk vc hva) | (apply av_i; intro v) | (apply ac_i; intro bl cap hcap)
      | apply bo_l | (apply nx_i <;> intro hnx) | (apply Ia.hit; assumption) | (apply Ia.miss; assumption)
      | (apply rt_is; exact rfl) | exact rt_w | (apply iv; assumption)
      | apply dw_q mixed hC hGL (by kernel_rfl) | (apply cq; assumption; (first | fail); exact rfl))
  all_goals (try conv => whnf)
theorem plain_Place_errno {G : Glo} (hGL : GloAll G errTy) (e : Int) : FnIs Tryz.prog G 22 [errA e] (.tuple [.int .i64 e, .int .i64 (-1)]) := by
  refine fn_x Tryz.func22 Tryz.call22 rfl rfl rfl rfl hGL ?_
  intro C hC
  have i1 := i_errno_Unwrap
  repeat' (first
    | (conv => whnf); first
      | refine .w ?_ | refine .v ?_ | apply sc_true | apply sc_false
      | (first | apply sc_lt | apply sc_nlt | apply sc_eq | apply sc_neq | apply sc_nil | apply sc_nnil | apply sc_seq | apply sc_nseq) <;> (intro hb; try exact dd hb)
      | apply sc_not | apply sc_or | (apply sc_i <;> intro hb)
      | (apply bx_i; intro hbd) | (apply gt_i; assumption; exact rfl)
      | (apply cx_is; first | exact api_Tell_errno hGL e) | (apply cx_do (i := 0) rfl; first | exact api_Tell_errno hGL e)
      | (apply ab_i; intro bl) | (apply as_i; intro va vk vc hva) | (apply av_i; intro v) | (apply ac_i; intro bl cap hcap)
      | apply bo_l | (apply nx_i <;> intro hnx) | (apply Ia.hit; assumption) | (apply Ia.miss; assumption)
      | (apply rt_is; exact rfl) | exact rt_w | (apply iv; assumption)
      | apply dw_q mixed hC hGL (by kernel_rfl) | (apply cq; assumption; (first | exact api_Tell_errno hGL e); exact rfl))
  all_goals (try conv => whnf)
  refine rds hC hGL 1 ?_
  repeat' (first
    | (conv => whnf); first
      | refine .w ?_ | refine .v ?_ | apply sc_true | apply sc_false
      | (first | apply sc_lt | apply sc_nlt | apply sc_eq | apply sc_neq | apply sc_nil | apply sc_nnil | apply sc_seq | apply sc_nseq) <;> (intro hb; try exact dd hb)
      | apply sc_not | apply sc_or | (apply sc_i <;> intro hb)
      | (apply bx_i; intro hbd) | (apply gt_i; assumption; exact rfl)
      | (apply cx_is; first | fail) | (apply cx_do (i := 0) rfl; first | fail)
      | (apply ab_i; intro bl) | (apply as_i; intro va vk vc hva) | (apply av_i; intro v) | (apply ac_i; intro bl cap hcap)
      | apply bo_l | (apply nx_i <;> intro hnx) | (apply Ia.hit; assumption) | (apply Ia.miss; assumption)
      | (apply rt_is; exact rfl) | exact rt_w | (apply iv; assumption)
      | apply dw_q mixed hC hGL (by kernel_rfl) | (apply cq; assumption; (first | fail); exact rfl))
  all_goals (try conv => whnf)
theorem plain_Place_at {G : Glo} (hGL : GloAll G errTy) (e p : Int) : FnIs Tryz.prog G 22 [atA e p] (.tuple [.int .i64 e, .int .i64 p]) := by
  refine fn_x Tryz.func22 Tryz.call22 rfl rfl rfl rfl hGL ?_
  intro C hC
  repeat' (first
    | (conv => whnf); first
      | refine .w ?_ | refine .v ?_ | apply sc_true | apply sc_false
      | (first | apply sc_lt | apply sc_nlt | apply sc_eq | apply sc_neq | apply sc_nil | apply sc_nnil | apply sc_seq | apply sc_nseq) <;> (intro hb; try exact dd hb)
      | apply sc_not | apply sc_or | (apply sc_i <;> intro hb)
      | (apply bx_i; intro hbd) | (apply gt_i; assumption; exact rfl)
      | (apply cx_is; first | exact api_Tell_at hGL e p) | (apply cx_do (i := 0) rfl; first | exact api_Tell_at hGL e p)
      | (apply ab_i; intro bl) | (apply as_i; intro va vk vc hva) | (apply av_i; intro v) | (apply ac_i; intro bl cap hcap)
      | apply bo_l | (apply nx_i <;> intro hnx) | (apply Ia.hit; assumption) | (apply Ia.miss; assumption)
      | (apply rt_is; exact rfl) | exact rt_w | (apply iv; assumption)
      | apply dw_q mixed hC hGL (by kernel_rfl) | (apply cq; assumption; (first | exact api_Tell_at hGL e p); exact rfl))
  all_goals (try conv => whnf)
  refine rds hC hGL 1 ?_
  repeat' (first
    | (conv => whnf); first
      | refine .w ?_ | refine .v ?_ | apply sc_true | apply sc_false
      | (first | apply sc_lt | apply sc_nlt | apply sc_eq | apply sc_neq | apply sc_nil | apply sc_nnil | apply sc_seq | apply sc_nseq) <;> (intro hb; try exact dd hb)
      | apply sc_not | apply sc_or | (apply sc_i <;> intro hb)
      | (apply bx_i; intro hbd) | (apply gt_i; assumption; exact rfl)
      | (apply cx_is; first | fail) | (apply cx_do (i := 0) rfl; first | fail)
      | (apply ab_i; intro bl) | (apply as_i; intro va vk vc hva) | (apply av_i; intro v) | (apply ac_i; intro bl cap hcap)
      | apply bo_l | (apply nx_i <;> intro hnx) | (apply Ia.hit; assumption) | (apply Ia.miss; assumption)
      | (apply rt_is; exact rfl) | exact rt_w | (apply iv; assumption)
      | apply dw_q mixed hC hGL (by kernel_rfl) | (apply cq; assumption; (first | fail); exact rfl))
  all_goals (try conv => whnf)
theorem plain_Place {G : Glo} (hGL : GloAll G errTy) (x : Err) : FnIs Tryz.prog G 22 [x.A] (.tuple [.int .i64 x.e, .int .i64 x.p]) := by
  cases x with
  | none => exact plain_Place_nil
  | errno e => exact plain_Place_errno hGL e
  | «at» e p => exact plain_Place_at hGL e p
theorem law_placed {G : Glo} (hGL : GloAll G errTy) (x : Err) (e p : Int) : FnIs Tryz.prog G 7 [x.A, .agg [.int .i64 e, .int .i64 p]] (.bool (eqB x.e e && eqB x.p p)) := by
  have hP := plain_Place hGL x
  cases x
  all_goals (
    refine fn_x Tryz.func7 Tryz.call7 rfl rfl rfl rfl hGL ?_
    intro C hC
    repeat' (first
      | (conv => whnf); first
        | refine .w ?_ | refine .v ?_ | apply sc_true | apply sc_false
        | (first | apply sc_lt | apply sc_nlt | apply sc_eq | apply sc_neq | apply sc_nil | apply sc_nnil | apply sc_seq | apply sc_nseq) <;> (intro hb; try exact dd hb)
        | apply sc_not | apply sc_or | (apply sc_i <;> intro hb)
        | (apply bx_i; intro hbd) | (apply gt_i; assumption; exact rfl)
        | (apply cx_is; first | exact hP) | (apply cx_do (i := 0) rfl; first | exact hP)
        | (apply ab_i; intro bl) | (apply as_i; intro va vk vc hva) | (apply av_i; intro v) | (apply ac_i; intro bl cap hcap)
        | apply bo_l | (apply nx_i <;> intro hnx) | (apply Ia.hit; assumption) | (apply Ia.miss; assumption)
        | (apply rt_is; exact rfl) | exact rt_w | (apply iv; assumption)
        | apply dw_q mixed hC hGL (by kernel_rfl) | (apply cq; assumption; (first | exact hP); exact rfl))
    all_goals (try conv => whnf)
    all_goals (apply rt_is; refine congrArg AVal.bool ?_; first | (rw [eqB_t.2 hb, Bool.true_and]; done) | (rw [eqB_f.2 hb]; rfl) | (rw [eqB_t.2 hb, Bool.true_and]; rfl)))
end Go.Proofs.YtglapkioagenaaaGreatDoor
namespace Go.Proofs.YtglapkioagenaaaGreatDoor
open Go
set_option maxRecDepth 20000
set_option maxHeartbeats 4000000
set_option linter.unusedSimpArgs false
set_option linter.unusedVariables false
attribute [local irreducible] AWp AOps byteAt SrcOK OrOk GloAll FnSpec
theorem ref_Bare {G : Glo} (e : Int) : FnIs Tryz.prog G 29 [.int .i64 e] (.agg [.int .i64 e, .int .i64 (-1)]) := by
  have hGL : GloAll G [] := gloAll_nil
  refine fn_x Tryz.func29 Tryz.call29 rfl rfl rfl rfl hGL ?_
  intro C hC
  repeat' (first
    | (conv => whnf); first
      | refine .w ?_ | refine .v ?_ | apply sc_true | apply sc_false
      | (first | apply sc_lt | apply sc_nlt | apply sc_eq | apply sc_neq | apply sc_nil | apply sc_nnil | apply sc_seq | apply sc_nseq) <;> (intro hb; try exact dd hb)
      | apply sc_not | apply sc_or | (apply sc_i <;> intro hb)
      | (apply bx_i; intro hbd) | (apply gt_i; assumption; exact rfl)
      | (apply cx_is; first | fail) | (apply cx_do (i := 0) rfl; first | fail)
      | (apply ab_i; intro bl) | (apply as_i; intro va vk vc hva) | (apply av_i; intro v) | (apply ac_i; intro bl cap hcap)
      | apply bo_l | (apply nx_i <;> intro hnx) | (apply Ia.hit; assumption) | (apply Ia.miss; assumption)
      | (apply rt_is; exact rfl) | exact rt_w | (apply iv; assumption)
      | apply dw_q mixed hC hGL (by kernel_rfl) | (apply cq; assumption; (first | fail); exact rfl))
  all_goals (try conv => whnf)
theorem ref_Good {G : Glo} : FnIs Tryz.prog G 17 [] (.agg [.int .i64 0, .int .i64 (-1)]) := by
  have hGL : GloAll G [] := gloAll_nil
  refine fn_x Tryz.func17 Tryz.call17 rfl rfl rfl rfl hGL ?_
  intro C hC
  repeat' (first
    | (conv => whnf); first
      | refine .w ?_ | refine .v ?_ | apply sc_true | apply sc_false
      | (first | apply sc_lt | apply sc_nlt | apply sc_eq | apply sc_neq | apply sc_nil | apply sc_nnil | apply sc_seq | apply sc_nseq) <;> (intro hb; try exact dd hb)
      | apply sc_not | apply sc_or | (apply sc_i <;> intro hb)
      | (apply bx_i; intro hbd) | (apply gt_i; assumption; exact rfl)
      | (apply cx_is; first | fail) | (apply cx_do (i := 0) rfl; first | fail)
      | (apply ab_i; intro bl) | (apply as_i; intro va vk vc hva) | (apply av_i; intro v) | (apply ac_i; intro bl cap hcap)
      | apply bo_l | (apply nx_i <;> intro hnx) | (apply Ia.hit; assumption) | (apply Ia.miss; assumption)
      | (apply rt_is; exact rfl) | exact rt_w | (apply iv; assumption)
      | apply dw_q mixed hC hGL (by kernel_rfl) | (apply cq; assumption; (first | fail); exact rfl))
  all_goals (try conv => whnf)
theorem unown_uri (x : Err) : unown x.A = x.A := by cases x <;> rfl
theorem placed_ok {G : Glo} (hU2 : GloAll G errTy) (x : Err) : FnIs Tryz.prog G 7 [x.A, .agg [.int .i64 x.e, .int .i64 x.p]] (.bool true) := by
  have := law_placed hU2 x x.e x.p
  rwa [eqB_t.2 rfl, eqB_t.2 rfl] at this
end Go.Proofs.YtglapkioagenaaaGreatDoor
namespace Go.Proofs.YtglapkioagenaaaGreatDoor
open Go
set_option maxRecDepth 20000
set_option maxHeartbeats 4000000
set_option linter.unusedSimpArgs false
set_option linter.unusedVariables false
attribute [local irreducible] AWp AOps byteAt SrcOK OrOk GloAll FnSpec
attribute [local irreducible] idxB
/-- The first byte of which something holds. -/
def fstG (f : Int → Bool) : List UInt8 → Nat → Int
  | [], _ => -1
  | x :: t, k => if f (x.toNat : Int) then k else fstG f t (k + 1)
def fstB (f : Int → Bool) (s : List UInt8) : Int := fstG f s 0
theorem fstG_spec {f : Int → Bool} : ∀ (t : List UInt8) (k : Nat), (fstG f t k = -1 ∧ ∀ j, j < t.length → f (byteAt t j : Int) = false) ∨ ∃ m, m < t.length ∧ fstG f t k = ((k + m : Nat) : Int) ∧ f (byteAt t m : Int) = true ∧ ∀ j, j < m → f (byteAt t j : Int) = false
  | [], _ => .inl ⟨rfl, fun j h => absurd h (Nat.not_lt_zero _)⟩
  | x :: t, k => by
    by_cases e : f (x.toNat : Int) = true
    · refine .inr ⟨0, by simp, by simp [fstG, e], by simpa [byteAt] using e, fun j h => absurd h (Nat.not_lt_zero _)⟩
    · have e1 : fstG f (x :: t) k = fstG f t (k + 1) := by simp [fstG, e]
      rcases fstG_spec (f := f) t (k + 1) with ⟨h1, h2⟩ | ⟨m, h1, h2, h3, h4⟩
      · refine .inl ⟨by rw [e1, h1], fun j hj => ?_⟩
        cases j with
        | zero => simpa [byteAt] using e
        | succ j => simpa [byteAt] using h2 j (by simpa using hj)
      · refine .inr ⟨m + 1, by simpa using h1, by rw [e1, h2]; omega, by simpa [byteAt] using h3, fun j hj => ?_⟩
        cases j with
        | zero => simpa [byteAt] using e
        | succ j => simpa [byteAt] using h4 j (by omega)
theorem fstB_at {f : Int → Bool} {s : List UInt8} {i : Nat} (hi : i < s.length) (h : f (byteAt s i : Int) = true) (h0 : ∀ j, j < i → f (byteAt s j : Int) = false) : fstB f s = i := by
  rcases fstG_spec (f := f) s 0 with ⟨h1, h2⟩ | ⟨m, h1, h2, h3, h4⟩
  · rw [h2 i hi] at h; cases h
  · unfold fstB
    rw [h2]
    have : m = i := by
      rcases Nat.lt_trichotomy m i with h5 | h5 | h5
      · rw [h0 m h5] at h3; cases h3
      · exact h5
      · rw [h4 i h5] at h; cases h
    omega
theorem fstB_none {f : Int → Bool} {s : List UInt8} (h0 : ∀ j, j < s.length → f (byteAt s j : Int) = false) : fstB f s = -1 := by
  rcases fstG_spec (f := f) s 0 with ⟨h1, h2⟩ | ⟨m, h1, h2, h3, h4⟩
  · exact h1
  · rw [h0 m h1] at h3; cases h3
theorem fstB_cases (f : Int → Bool) (s : List UInt8) : (fstB f s = -1 ∧ ∀ j, j < s.length → f (byteAt s j : Int) = false) ∨ ∃ m, m < s.length ∧ fstB f s = (m : Int) ∧ f (byteAt s m : Int) = true ∧ ∀ j, j < m → f (byteAt s j : Int) = false := by
  rcases fstG_spec (f := f) s 0 with h | ⟨m, h1, h2, h3⟩
  · exact .inl h
  · exact .inr ⟨m, h1, by unfold fstB; rw [h2]; omega, h3⟩
attribute [local irreducible] fstB
theorem ref_firstOf {G : Glo} (s : List UInt8) (f : Nat) (p : Int → Bool) (hl : s.length ≤ 9223372036854775807) (hp : ∀ c : Nat, c < 256 → FnIs Tryz.prog G f [.int .u8 (c : Int)] (.bool (p c))) : FnIs Tryz.prog G 14 [.str s, .func (.func f) [] []] (.int .i64 (fstB p s)) := by
  have hGL : GloAll G [] := gloAll_nil
  refine fn_x Tryz.func14 Tryz.call14 rfl rfl rfl rfl hGL ?_
  intro C hC
  repeat' (first
    | (conv => whnf); first
      | refine .w ?_ | refine .v ?_ | apply sc_true | apply sc_false
      | (first | apply sc_lt | apply sc_nlt | apply sc_eq | apply sc_neq | apply sc_nil | apply sc_nnil | apply sc_seq | apply sc_nseq) <;> (intro hb; try exact dd hb)
      | apply sc_not | apply sc_or | (apply sc_i <;> intro hb)
      | (apply bx_i; intro hbd) | (apply gt_i; assumption; exact rfl)
      | (apply cx_is; first | fail) | (apply cx_do (i := 0) rfl; first | fail)
      | (apply ab_i; intro bl) | (apply as_i; intro va vk vc hva) | (apply av_i; intro v) | (apply ac_i; intro bl cap hcap)
      | apply bo_l | (apply nx_i <;> intro hnx) | (apply Ia.hit; assumption) | (apply Ia.miss; assumption)
      | (apply rt_is; exact rfl) | exact rt_w | (apply iv; assumption)
      | apply dw_q mixed hC hGL (by kernel_rfl) | (apply cq; assumption; (first | fail); exact rfl))
  all_goals (try conv => whnf)
  refine lp hC hGL (fun (i : Nat) => [(1, .func (.func f) [] []), (8, .own 0 (.slice (some ⟨bl, 0, none⟩) s.length cap)), (9, .int .i64 s.length), (10, .int .i64 i)]) (fun _ => [.buf bl s cap]) (fun i => i ≤ s.length ∧ ∀ j, j < i → p (byteAt s j : Int) = false) (fun i => s.length - i) 0 ?_ env_w rfl ?_
  · exact ⟨Nat.zero_le _, by intro j hj; omega⟩
  rintro i ⟨hi, hb0⟩
  repeat' (first
    | (conv => whnf); first
      | refine .w ?_ | refine .v ?_ | apply sc_true | apply sc_false
      | (first | apply sc_lt | apply sc_nlt | apply sc_eq | apply sc_neq | apply sc_nil | apply sc_nnil | apply sc_seq | apply sc_nseq) <;> (intro hb; try exact dd hb)
      | apply sc_not | apply sc_or | (apply sc_i <;> intro hb)
      | (apply bx_i; intro hbd) | (apply gt_i; assumption; exact rfl)
      | (apply cx_is; first | exact hp _ (by omega)) | (apply cx_do (i := 0) rfl; first | exact hp _ (by omega))
      | (apply ab_i; intro bl) | (apply as_i; intro va vk vc hva) | (apply av_i; intro v) | (apply ac_i; intro bl cap hcap)
      | apply bo_l | (apply nx_i <;> intro hnx) | (apply Ia.hit; assumption) | (apply Ia.miss; assumption)
      | (apply rt_is; exact rfl) | exact rt_w | (apply iv; assumption)
      | apply dw_q mixed hC hGL (by kernel_rfl) | (apply cq; assumption; (first | exact hp _ (by omega)); exact rfl))
  all_goals (try conv => whnf)
  · apply rt_is
    rw [fstB_at (i := i) (by omega) hb hb0]
  · refine nxt (i + 1) ?_ ?_ env_w rfl
    · exact ⟨by omega, below_succ hb0 hb⟩
    · omega
  · apply rt_is
    rw [fstB_none (fun j hj => hb0 j (by omega))]
    rfl
end Go.Proofs.YtglapkioagenaaaGreatDoor
namespace Go.Proofs.YtglapkioagenaaaGreatDoor
open Go
set_option maxRecDepth 20000
set_option maxHeartbeats 4000000
set_option linter.unusedSimpArgs false
set_option linter.unusedVariables false
attribute [local irreducible] AWp AOps byteAt SrcOK OrOk GloAll FnSpec
attribute [local irreducible] nextS badI badS stepS rngR ownB
def mayZ (r : Int) : Bool := decide (0 ≤ r ∧ r ≤ 1114111 ∧ (r < 55296 ∨ 57343 < r))
theorem mayZ_t {r : Int} : mayZ r = true ↔ (0 ≤ r ∧ r ≤ 1114111 ∧ (r < 55296 ∨ 57343 < r)) := by simp [mayZ]
theorem mayZ_f {r : Int} : mayZ r = false ↔ ¬ (0 ≤ r ∧ r ≤ 1114111 ∧ (r < 55296 ∨ 57343 < r)) := by simp [mayZ]
attribute [local irreducible] mayZ
theorem utf_May {G : Glo} (r : Int) : FnIs Tryz.prog G 72 [.int .i64 r] (.bool (mayZ r)) := by
  have hGL : GloAll G [] := gloAll_nil
  refine fn_x Tryz.func72 Tryz.call72 rfl rfl rfl rfl hGL ?_
  intro C hC
  repeat' (first
    | (conv => whnf); first
      | refine .w ?_ | refine .v ?_ | apply sc_true | apply sc_false
      | (first | apply sc_lt | apply sc_nlt | apply sc_eq | apply sc_neq | apply sc_nil | apply sc_nnil | apply sc_seq | apply sc_nseq) <;> (intro hb; try exact dd hb)
      | apply sc_not | apply sc_or | (apply sc_i <;> intro hb)
      | (apply bx_i; intro hbd) | (apply gt_i; assumption; exact rfl)
      | (apply cx_is; first | fail) | (apply cx_do (i := 0) rfl; first | fail)
      | (apply ab_i; intro bl) | (apply as_i; intro va vk vc hva) | (apply av_i; intro v) | (apply ac_i; intro bl cap hcap)
      | apply bo_l | (apply nx_i <;> intro hnx) | (apply Ia.hit; assumption) | (apply Ia.miss; assumption)
      | (apply rt_is; exact rfl) | exact rt_w | (apply iv; assumption)
      | apply dw_q mixed hC hGL (by kernel_rfl) | (apply cq; assumption; (first | fail); exact rfl))
  all_goals (try conv => whnf)
  all_goals (apply rt_is)
  all_goals (refine congrArg AVal.bool ?_)
  all_goals (rw [Bool.eq_iff_iff]; simp [mayZ_t, ltB_t, ltB_f, Bool.not_eq_true'] <;> omega)
theorem tup2 {k j : IntKind} {a b c e : Int} {H' : Heap} (h : c = a ∧ e = b) : Rt (fun (x : ARes) (H : Heap) => x = .ret (.tuple [.int k c, .int j e]) ∧ H = []) (.tuple [.int k a, .int j b]) H' := by
  obtain ⟨rfl, rfl⟩ := h
  exact rt_is rfl
theorem utf_Next {G : Glo} (s : List UInt8) : FnIs Tryz.prog G 54 [.str s] (.tuple [.int .i64 ((nextS s).1 : Int), .int .i64 ((nextS s).2 : Int)]) := by
  have hGL : GloAll G [] := gloAll_nil
  refine fn_x Tryz.func54 Tryz.call54 rfl rfl rfl rfl hGL ?_
  intro C hC
  repeat' (first
    | (conv => whnf); first
      | refine .w ?_ | refine .v ?_ | apply sc_true | apply sc_false
      | (first | apply sc_lt | apply sc_nlt | apply sc_eq | apply sc_neq | apply sc_nil | apply sc_nnil | apply sc_seq | apply sc_nseq) <;> (intro hb; try exact dd hb)
      | apply sc_not | apply sc_or | (apply sc_i <;> intro hb)
      | (apply bx_i; intro hbd) | (apply gt_i; assumption; exact rfl)
      | (apply cx_is; first | exact utf_May _) | (apply cx_do (i := 0) rfl; first | exact utf_May _)
      | (apply ab_i; intro bl) | (apply as_i; intro va vk vc hva) | (apply av_i; intro v) | (apply ac_i; intro bl cap hcap)
      | apply bo_l | (apply nx_i <;> intro hnx) | (apply Ia.hit; assumption) | (apply Ia.miss; assumption)
      | (apply rt_is; exact rfl) | exact rt_w | (apply iv; assumption)
      | apply dw_q mixed hC hGL (by kernel_rfl) | (apply cq; assumption; (first | exact utf_May _); exact rfl))
  all_goals (try conv => whnf)
  any_goals (refine rds hC hGL 4 ?_)
  repeat' (first
    | (conv => whnf); first
      | refine .w ?_ | refine .v ?_ | apply sc_true | apply sc_false
      | (first | apply sc_lt | apply sc_nlt | apply sc_eq | apply sc_neq | apply sc_nil | apply sc_nnil | apply sc_seq | apply sc_nseq) <;> (intro hb; try exact dd hb)
      | apply sc_not | apply sc_or | (apply sc_i <;> intro hb)
      | (apply bx_i; intro hbd) | (apply gt_i; assumption; exact rfl)
      | (apply cx_is; first | exact utf_May _) | (apply cx_do (i := 0) rfl; first | exact utf_May _)
      | (apply ab_i; intro bl) | (apply as_i; intro va vk vc hva) | (apply av_i; intro v) | (apply ac_i; intro bl cap hcap)
      | apply bo_l | (apply nx_i <;> intro hnx) | (apply Ia.hit; assumption) | (apply Ia.miss; assumption)
      | (apply rt_is; exact rfl) | exact rt_w | (apply iv; assumption)
      | apply dw_q mixed hC hGL (by kernel_rfl) | (apply cq; assumption; (first | exact utf_May _); exact rfl))
  all_goals (try conv => whnf)
  all_goals (refine tup2 ?_)
  all_goals (
    try simp only [show Int.toNat 0 = 0 from rfl, show Int.toNat 1 = 1 from rfl, show Int.toNat (1 + 1) = 2 from rfl, show Int.toNat (1 + 1 + 1) = 3 from rfl, Int.ofNat_toNat, mayZ_t, mayZ_f, ltB_t, ltB_f] at *
    generalize hz : nextS s = z
    unfold nextS contAt mayN cp2 cp3 cp4 at hz
    generalize byteAt s 0 = b0 at *
    generalize byteAt s 1 = b1 at *
    generalize byteAt s 2 = b2 at *
    generalize byteAt s 3 = b3 at *
    generalize s.length = l at *)
  all_goals (
    repeat' (split at hz; try (exfalso; omega))
    all_goals (try subst z)
    all_goals (first
      | exact ⟨rfl, rfl⟩
      | (simp only [Bool.and_eq_true, Bool.or_eq_true, decide_eq_true_eq, beq_iff_eq] at *; first | (exfalso; omega) | omega)))
end Go.Proofs.YtglapkioagenaaaGreatDoor
namespace Go.Proofs.YtglapkioagenaaaGreatDoor
open Go
set_option maxRecDepth 20000
set_option maxHeartbeats 4000000
set_option linter.unusedSimpArgs false
set_option linter.unusedVariables false
attribute [local irreducible] AWp AOps byteAt SrcOK OrOk GloAll FnSpec
attribute [local irreducible] nextS badI badS stepS rngR ownB
theorem utf_Bad {G : Glo} (s : List UInt8) (hl : s.length ≤ 9223372036854775807) : FnIs Tryz.prog G 38 [.str s] (.int .i64 (badI s)) := by
  have hGL : GloAll G [] := gloAll_nil
  refine fn_x Tryz.func38 Tryz.call38 rfl rfl rfl rfl hGL ?_
  intro C hC
  have hle := fun k => nextS_le (s.drop k)
  repeat' (first
    | (conv => whnf); first
      | refine .w ?_ | refine .v ?_ | apply sc_true | apply sc_false
      | (first | apply sc_lt | apply sc_nlt | apply sc_eq | apply sc_neq | apply sc_nil | apply sc_nnil | apply sc_seq | apply sc_nseq) <;> (intro hb; try exact dd hb)
      | apply sc_not | apply sc_or | (apply sc_i <;> intro hb)
      | (apply bx_i; intro hbd) | (apply gt_i; assumption; exact rfl)
      | (apply cx_is; first | exact utf_Next _) | (apply cx_do (i := 0) rfl; first | exact utf_Next _)
      | (apply ab_i; intro bl) | (apply as_i; intro va vk vc hva) | (apply av_i; intro v) | (apply ac_i; intro bl cap hcap)
      | apply bo_l | (apply nx_i <;> intro hnx) | (apply Ia.hit; assumption) | (apply Ia.miss; assumption)
      | (apply rt_is; exact rfl) | exact rt_w | (apply iv; assumption)
      | apply dw_q mixed hC hGL (by kernel_rfl) | (apply cq; assumption; (first | exact utf_Next _); exact rfl))
  all_goals (try conv => whnf)
  refine lp hC hGL (fun (i : Nat) => [(0, .str s), (3, .int .i64 i)]) (fun _ => []) (fun i => i ≤ s.length ∧ badS s = (badS (s.drop i)).map (· + i)) (fun i => s.length - i) 0 ?_ env_w rfl ?_
  · exact ⟨Nat.zero_le _, by simp⟩
  rintro i ⟨hi, hb0⟩
  have hn := hle i
  rw [List.length_drop] at hn
  repeat' (first
    | (conv => whnf); first
      | refine .w ?_ | refine .v ?_ | apply sc_true | apply sc_false
      | (first | apply sc_lt | apply sc_nlt | apply sc_eq | apply sc_neq | apply sc_nil | apply sc_nnil | apply sc_seq | apply sc_nseq) <;> (intro hb; try exact dd hb)
      | apply sc_not | apply sc_or | (apply sc_i <;> intro hb)
      | (apply bx_i; intro hbd) | (apply gt_i; assumption; exact rfl)
      | (apply cx_is; first | exact utf_Next _) | (apply cx_do (i := 0) rfl; first | exact utf_Next _)
      | (apply ab_i; intro bl) | (apply as_i; intro va vk vc hva) | (apply av_i; intro v) | (apply ac_i; intro bl cap hcap)
      | apply bo_l | (apply nx_i <;> intro hnx) | (apply Ia.hit; assumption) | (apply Ia.miss; assumption)
      | (apply rt_is; exact rfl) | exact rt_w | (apply iv; assumption)
      | apply dw_q mixed hC hGL (by kernel_rfl) | (apply cq; assumption; (first | exact utf_Next _); exact rfl))
  all_goals (try conv => whnf)
  · apply rt_is
    refine congrArg (AVal.int .i64) ?_
    have h1 := badS_step (s.drop i) (by rw [List.length_drop]; omega)
    rw [if_pos (by omega)] at h1
    rw [h1] at hb0
    simp only [badI, hb0, Option.map_some, Nat.zero_add]
  · have h1 := badS_step (s.drop i) (by rw [List.length_drop]; omega)
    rw [if_neg (by omega)] at h1
    refine nxt (i + (nextS (s.drop i)).2) ?_ ?_ env_w rfl
    · refine ⟨by omega, ?_⟩
      rw [hb0, h1, List.drop_drop]
      cases badS (s.drop (i + (nextS (s.drop i)).2)) <;> simp <;> omega
    · omega
  · apply rt_is
    refine congrArg (AVal.int .i64) ?_
    rw [badS_nil (s.drop i) (by rw [List.length_drop]; omega)] at hb0
    simp only [badI, hb0, Option.map_none]
end Go.Proofs.YtglapkioagenaaaGreatDoor
namespace Go.Proofs.YtglapkioagenaaaGreatDoor
open Go Go.RowKit
/-- A byte that a value may not hold. -/
def hdC (lines : Bool) (c : Int) : Bool := decide ((c < 32 ∧ c ≠ 9 ∧ (c ≠ 10 ∨ lines = false)) ∨ c = 127)
def hdB (lines : Bool) (s : List UInt8) : Bool := decide (badI s < 0 ∧ fstB (hdC lines) s < 0)
end Go.Proofs.YtglapkioagenaaaGreatDoor
namespace Go.Proofs.YtglapkioagenaaaGreatDoor
open Go
theorem lens_at {l : List (List UInt8)} {k : Nat} : (l.getD k []).length ≤ Lib.lens l := by
  rw [List.getD_eq_getElem?_getD]
  cases h : l[k]? with
  | none => simp
  | some x =>
    have h1 := Lib.lens_take_succ l k x h
    have h2 := Lib.lens_take_le l (k + 1)
    simp only [Option.getD_some]
    omega
end Go.Proofs.YtglapkioagenaaaGreatDoor
namespace Go.Proofs.YtglapkioagenaaaGreatDoor
open Go
set_option linter.unusedSimpArgs false
set_option linter.unusedSectionVars false
set_option linter.unusedVariables false
section
variable {P : Program} [Tab P] {C : Ctx} {n : Nat} {env : Env} {H : Heap} {Q : AExit → Env → Heap → Prop} {ops : Array Oper} {rest : List Oper} {G : Glo} {GL : List (Nat × List AVal)}
variable {eT : Option TypeId}
variable {d : Nat} {t : TypeId} {p : String} {af : Array Edge} {g : Option (Nat × Bool)} {b : Bool}
variable {x y : Operand} {T : TypeId} {xT : TI} {tx ty : TypeId} {av : AVal} {f : FuncId} {avs : List AVal}
/-- A nil slice in a slot is a row of the call's own. -/
theorem lp_row {c : Code} (k sz : Nat) (hk : Env.get env k = some (.raw (.slice none 0 0))) (h : Lp P C n c ((k, .own H.length (.slice none 0 0)) :: env) (H ++ [.row (.slice none 0 0) none sz 0 []]) Q) : Lp P C n c env H Q := by
  refine ⟨aw_env (fun _ _ hf => fs_own (i := H.length) rfl hk hf) (aw_ghost_row (eT := none) sz ?_)⟩
  intro R a w hm hf
  exact h.h R a w (hm.perm (List.perm_append_singleton _ H).symm) hf
/-- An operation met by a rule of its own. -/
theorem op1_run {op : Op} (hC : C.G = G) (hGL : GloAll G GL) (hr : RunV P C H env op av) (hg : guardA ops env g = some (b, b)) (hdn : Nat.ble (d + 1) n = true)
    (k : opsX P C n G GL ops Q rest ((d, av) :: env) H) : Op1 P C n ops ({ dst := some d, op := op, type := t, pos := p, after := af, guard := g } :: rest) env H Q :=
  ⟨ao_of_run hg hdn hr (opsX_ok hC hGL _ _ _ k)⟩
theorem rv_istr {k : IntKind} {m : Int} {S : TypeId} {xS : TI} (hx : evalA env x = some (.int k m)) (h1 : tab P S = some xS) (h2 : tab P T = some xT) (hd : xT.desc = .string) : RunV P C H env (.convert S T x) (.str (Utf8.encode m).data.toList) := by
  intro R ρ w hm hf dst t p af g
  refine ⟨.string (Utf8.encode m), ?_, rel_str.2 rfl⟩
  simp only [execOp, rel_int.1 (hf _ _ hx), convert, Sem.run_bind, tab_run_und h1, tab_run_und h2, hd, Result.andThen_ok, Sem.run_pure]
  cases xS.desc <;> rfl
end
end Go.Proofs.YtglapkioagenaaaGreatDoor
namespace Go.Proofs.YtglapkioagenaaaGreatDoor
open Go Go.RowKit
theorem MS.below {C : Ctx} {R : Seal} {H : Heap} {w w' : World} (h : MS C R H w) (hb : Below w.heap.size w w') : MS C R H w' := by
  have hlt : ∀ {b : Nat} {o : Obj}, w.heap[b]? = some o → b < w.heap.size := fun {b o} h1 => by
    rcases Nat.lt_or_ge b w.heap.size with h | h
    · exact h
    · rw [Array.getElem?_eq_none h] at h1; cases h1
  refine ⟨fun b o ho => ?_, h.ge, h.fresh, ⟨fun x hx => ?_, h.heap.nodup, h.heap.apart⟩, h.own, ?_⟩
  · have h1 := h.sealed b o ho
    rw [hb.block b (hlt h1), h1]
  · exact HEnt.holds_mono (h.heap.holds x hx) (Seal.le_refl R) (fun b hbk => hb.block b (HEnt.blk_lt (h.heap.holds x hx) hbk))
  · exact ⟨hb.os.trans h.ext.os, hb.tape.trans h.ext.tape, hb.output.trans h.ext.output, Nat.le_trans h.ext.size hb.size, fun b hlt hn => by
      rw [hb.block b (Nat.lt_of_lt_of_le hlt h.ext.size)]; exact h.ext.block b hlt hn⟩
/-- A call that leaves all that was there as it was. -/
theorem fnspec_of_calls {P : Program} {G : Glo} {f : FuncId} {avs : List AVal} {H : Heap} {v : AVal} (u : Value) (hu : ∀ R, Rel R v u) (hc : ∀ args w, (callFunc f args).run P w = .ok (.enter f args) w)
    (h : ∀ C R args, RelV R avs args.toList → ∀ w, G.p R → MS C R H w → Calls P f args w fun e w' => e = .returned u ∧ Below w.heap.size w w') : FnSpec P G f avs H (fun r H' => r = .ret v ∧ H' = H) := by
  intro R w args hG hm ha
  refine .inl ⟨hc args w, (h _ R args ha w hG hm).mono ?_⟩
  rintro e w' ⟨rfl, hb⟩
  exact ⟨.ret v, H, R, ⟨rfl, rfl⟩, ⟨_, rfl, hu R⟩, hm.below hb⟩
/-- Texts in a row. -/
def strsC (l : List (List UInt8)) : List AVal := l.map .str
def strsF (l : List (List UInt8)) (i : Nat) : AVal := .str (l.getD i [])
theorem strsC_snoc (l : List (List UInt8)) (s : List UInt8) : strsC l ++ [.str s] = strsC (l ++ [s]) := by simp [strsC]
def baS (l : List (List UInt8)) : List ByteArray := l.map fun s => ⟨s.toArray⟩
theorem baS_data (l : List (List UInt8)) : (baS l).map (·.data.toList) = l := by
  unfold baS
  rw [List.map_map]
  refine (List.map_congr_left (g := id) fun x _ => ?_).trans (List.map_id l)
  simp
theorem baS_len (l : List (List UInt8)) : (baS l).length = l.length := by simp [baS]
theorem relL_strs_inv {R : Seal} : ∀ {l : List (List UInt8)} {vs : List Value}, RelL R (strsC l) vs → vs = l.map fun s => Value.string ⟨s.toArray⟩
  | [], _, h => h
  | s :: l, _, h => by
    obtain ⟨v, t, rfl, h1, h2⟩ := h
    have h1 : [v] = [.string ⟨s.toArray⟩] := h1
    rw [List.cons.injEq] at h1
    rw [relL_strs_inv h2, h1.1]
    rfl
theorem strs_cell {R : Seal} {w : World} {bl o : Nat} {Cs : Array Value} {e : TypeId} {fz : Nat × Nat} {l : List (List UInt8)} (hb : w.heap[bl]? = some (.cells Cs e fz)) (hl : RelL R (strsC l) ((Cs.toList.drop o).take l.length)) :
    ∀ (j : Nat) x, (baS l)[j]? = some x → w.cell? ⟨bl, o + j, none⟩ = some (.string x) := by
  intro j x hx
  have hj : j < l.length := by have := (List.getElem?_eq_some_iff.1 hx).1; rwa [baS_len] at this
  have := relL_strs_inv hl
  simp only [World.cell?, hb]
  have h2 : ((Cs.toList.drop o).take l.length)[j]? = (l.map fun s => Value.string ⟨s.toArray⟩)[j]? := by rw [this]
  rw [List.getElem?_take_of_lt hj, List.getElem?_drop] at h2
  have hx : x = ⟨(l[j]).toArray⟩ := by
    unfold baS at hx
    rw [List.getElem?_map, List.getElem?_eq_getElem hj] at hx
    simpa using hx.symm
  rw [hx]
  simpa [List.getElem?_eq_getElem hj] using h2
/-- A sealed list of texts: where its cells are. -/
theorem list_strs {R : Seal} {w : World} (hs : Sealed R w) {l : List (List UInt8)} {v : Value} (h : Rel R (.list 1 l.length (strsF l)) v) : ∃ a cap, v = .slice a l.length cap ∧ l.length ≤ cap ∧ (l = [] ∨ ∃ b o C e fz, a = some ⟨b, o, none⟩ ∧ w.heap[b]? = some (.cells C e fz) ∧ RelL R (strsC l) ((C.toList.drop o).take l.length)) := by
  obtain ⟨a, cap, e1, hle, h7⟩ := rel_one h rfl
  simp only [List.cons.injEq, and_true] at e1
  refine ⟨a, cap, e1, hle, ?_⟩
  rcases h7 with h7 | ⟨b, o, C, e, fz, ha, hR, hall⟩
  · exact .inl (List.eq_nil_of_length_eq_zero h7)
  · refine .inr ⟨b, o, C, e, fz, ha, hs _ _ hR, ?_⟩
    have key : ∀ (m : Nat) (l' : List (List UInt8)) (o' : Nat), l'.length = m → (∀ i, i < m → RelC R (strsF l' i) ((C.toList.drop (o' + i * 1)).take 1)) → RelL R (strsC l') ((C.toList.drop o').take m) := by
      intro m
      induction m with
      | zero => intro l' o' hl _; rw [List.eq_nil_of_length_eq_zero hl]; simp [strsC, RelL]
      | succ m ih =>
        intro l' o' hl hi
        match l', hl with
        | s :: t, hl =>
          have h0 := hi 0 (by omega)
          have h0 : (C.toList.drop (o' + 0 * 1)).take 1 = [.string ⟨s.toArray⟩] := h0
          rw [Nat.zero_mul, Nat.add_zero] at h0
          have hlt : o' < C.toList.length := by
            rcases Nat.lt_or_ge o' C.toList.length with h | h
            · exact h
            · rw [List.drop_eq_nil_of_le h] at h0; cases h0
          rw [List.drop_eq_getElem_cons hlt] at h0 ⊢
          simp only [List.take_succ_cons, List.take_zero, List.cons.injEq, and_true] at h0
          rw [List.take_succ_cons, h0]
          refine ⟨_, _, rfl, rfl, ih t (o' + 1) (by simpa using hl) (fun i h => ?_)⟩
          have := hi (i + 1) (by omega)
          rw [show o' + (i + 1) * 1 = o' + 1 + i * 1 by omega] at this
          exact this
    exact key _ l o rfl hall
theorem join_calls {l : List (List UInt8)} {sep : List UInt8} {w : World} {b o cap : Nat} {C : Array Value} {e : TypeId} {fz : Nat × Nat} {R : Seal} (hb : w.heap[b]? = some (.cells C e fz)) (hl : RelL R (strsC l) ((C.toList.drop o).take l.length)) (hcap : l.length ≤ cap) (hN : l.length ≤ 140737488355328) (hlen : (Lib.join l sep).length ≤ 140737488355328) :
    Calls Tryz.prog 16 #[.slice (some ⟨b, o, none⟩) l.length cap, .string ⟨sep.toArray⟩] w fun e w' => e = .returned (.string ⟨(Lib.join l sep).toArray⟩) ∧ Below w.heap.size w w' := by
  have hlt : b < w.heap.size := by
    rcases Nat.lt_or_ge b w.heap.size with h | h
    · exact h
    · rw [Array.getElem?_eq_none h] at hb; cases hb
  have := Tryz.strings_Join b o cap (baS l) ⟨sep.toArray⟩ w (strs_cell hb hl) hlt (by rw [baS_len]; exact hN) (by rw [baS_len]; exact hcap) (by rw [baS_data]; simpa using hlen)
  rw [baS_len, baS_data] at this
  simpa using this
theorem join_none {sep : List UInt8} {w : World} {a : Option Addr} {cap : Nat} : Calls Tryz.prog 16 #[.slice a 0 cap, .string ⟨sep.toArray⟩] w fun e w' => e = .returned (.string ⟨#[]⟩) ∧ Below w.heap.size w w' := by
  refine (Tryz.strings_Join_none a cap ⟨sep.toArray⟩ w).mono ?_
  rintro e w' ⟨rfl, rfl⟩
  exact ⟨rfl, Below.refl _ _⟩
theorem strings_Join_row {G : Glo} {eT : Option TypeId} (l : List (List UInt8)) (sep : List UInt8) (v : Value) (hN : l.length ≤ 140737488355328) (hlen : (Lib.join l sep).length ≤ 140737488355328) :
    FnSpec Tryz.prog G 16 [.raw v, .str sep] [.row v eT 1 l.length (strsC l)] (fun r H => r = .ret (.str (Lib.join l sep)) ∧ H = [.row v eT 1 l.length (strsC l)]) := by
  refine fnspec_of_calls (.string ⟨(Lib.join l sep).toArray⟩) (fun R => rel_str.2 rfl) Tryz.call16 ?_
  rintro C R args ⟨x, t, e, hx, y, t', e', hy, rfl⟩ w hG hm
  obtain rfl := rel_raw.1 hx
  obtain rfl := rel_str.1 hy
  subst e'
  obtain rfl := arr_of e
  obtain ⟨hlen', hx'⟩ := hm.heap.holds _ (List.mem_singleton.2 rfl)
  rcases hx' with ⟨rfl, h0⟩ | ⟨bl, cap, Cs, el, fz, rfl, hb, hcs, hnc, hl, hfz⟩
  · have : l = [] := List.eq_nil_of_length_eq_zero h0
    subst this
    exact join_none
  · exact join_calls (o := 0) hb (by simpa using hl) hnc hN hlen
theorem strings_Join {G : Glo} (l : List (List UInt8)) (sep : List UInt8) (hN : l.length ≤ 140737488355328) (hlen : (Lib.join l sep).length ≤ 140737488355328) :
    FnIs Tryz.prog G 16 [.list 1 l.length (strsF l), .str sep] (.str (Lib.join l sep)) := by
  refine fnis_of_calls rfl Tryz.call16 ?_
  rintro R args ⟨x, t, e, hx, y, t', e', hy, rfl⟩ w hG hs
  obtain rfl := rel_str.1 hy
  subst e'
  obtain ⟨a, cap, rfl, hcap, h7⟩ := list_strs hs hx
  obtain rfl := arr_of e
  rcases h7 with rfl | ⟨b, o, C, e, fz, rfl, hb, hl⟩
  · exact join_none
  · exact join_calls hb hl hcap hN hlen
end Go.Proofs.YtglapkioagenaaaGreatDoor
namespace Go.Proofs.YtglapkioagenaaaGreatDoor
open Go Go.RowKit
/-! ## Values that are known whole -/
def concA : AVal → Option Value
  | .own _ v => some v
  | .raw v => some v
  | .int k n => some (.int k n)
  | .bool b => some (.bool b)
  | _ => none
def concL : List AVal → Option (List Value)
  | [] => some []
  | a :: t => match concA a, concL t with
    | some v, some r => some (v :: r)
    | _, _ => none
theorem conc_ok {R : Seal} {a : AVal} {v x : Value} (h : concA a = some v) (hr : Rel R a x) : x = v := by
  cases a <;> simp only [concA, Option.some.injEq, reduceCtorEq] at h <;> subst h
  · exact rel_bool.1 hr
  · exact rel_int.1 hr
  · exact rel_raw.1 hr
  · exact (rel_own.1 hr).1
theorem concL_ok {R : Seal} : ∀ {l : List AVal} {vs xs : List Value}, concL l = some vs → RelV R l xs → xs = vs
  | [], vs, xs, h, hr => by
    simp only [concL, Option.some.injEq] at h
    subst h
    simpa [RelV] using hr
  | a :: t, vs, xs, h, hr => by
    simp only [concL] at h
    split at h
    · rename_i v r hv ht
      simp only [Option.some.injEq] at h
      subst h
      obtain ⟨x, ys, rfl, h1, h2⟩ := hr
      rw [conc_ok hv h1, concL_ok ht h2]
    · cases h
/-- The call that is laid, as it will be made. -/
def deferA (env : Env) (fv : Operand) (args : List Operand) : Option Deferred :=
  match evalA env fv with
  | some (.func (.func f) l1 l2) => match concL l1, argsA env args, concL l2 with
    | some x1, some avs, some x2 => match concL avs with
      | some xs => some { target := .fn (.func f) x2.toArray, args := (x1 ++ xs).toArray }
      | none => none
    | _, _, _ => none
  | _ => none
theorem upon_map {P : Program} {o : Oper} {a : Act} {next next' : Act → World → Prop} {Q Q' : Exit → Act → World → Prop} {r : Result Next} (hn : ∀ a w, next a w → next' a w)
    (hp : ∀ ch a w, Q (.panic ch) a w → Q' (.panic ch) a w) (ho : LetsOut Q → LetsOut Q') (hh : o.upon P a next Q r) : o.upon P a next' Q' r := by
  cases r with
  | ok n w' =>
    cases n <;> simp only [Oper.upon] at hh ⊢ <;>
      first
        | exact hn _ _ hh
        | exact Calls.mono hh (fun e w'' he => by cases e <;> first | exact hn _ _ he | exact hp _ _ _ he | exact ho he)
        | exact Rows.mono hh (fun _ _ he => hn _ _ he)
  | halt x w' => cases x <;> simp only [Oper.upon] at hh ⊢ <;> exact hp _ _ _ hh
def tailQ (P : Program) (ops : Array Oper) (l : List Oper) (Q : Exit → Act → World → Prop) : Exit → Act → World → Prop
  | .normal, a, w => wpList P ops Q l a w
  | e, a, w => Q e a w
theorem wpList_app {P : Program} {ops : Array Oper} {l : List Oper} {Q : Exit → Act → World → Prop} : ∀ {pre : List Oper} {a : Act} {w : World}, wpList P ops (tailQ P ops l Q) pre a w → wpList P ops Q (pre ++ l) a w
  | [], a, w, h => h
  | o :: pre, a, w, h => by
    simp only [List.cons_append, wpList] at h ⊢
    split
    · rename_i hw
      rw [if_pos hw] at h
      rcases h with h | ⟨h1, h2⟩
      · exact .inl (upon_map (fun _ _ => wpList_app) (fun _ _ _ => id) (fun ⟨a, w, q⟩ => ⟨a, w, q⟩) h)
      · exact .inr ⟨h1, h2⟩
    · rename_i hw
      rw [if_neg hw] at h
      exact wpList_app h
/-! ## The spine -/
def withD (C : Ctx) (D : List Deferred) : Ctx := ⟨C.w0, C.R0, C.B0, C.G, C.hG, D⟩
theorem MS.withD {C : Ctx} {R : Seal} {H : Heap} {w : World} (h : MS C R H w) (D : List Deferred) : MS (withD C D) R H w := ⟨h.sealed, h.ge, h.fresh, h.heap, h.own, h.ext⟩
theorem MS.ofD {C : Ctx} {R : Seal} {H : Heap} {w : World} {D : List Deferred} (h : MS (Proofs.YtglapkioagenaaaGreatDoor.withD C D) R H w) : MS C R H w := ⟨h.sealed, h.ge, h.fresh, h.heap, h.own, h.ext⟩
def PostD (C : Ctx) (n : Nat) (Q : List Deferred → AExit → Env → Heap → Prop) (e : Exit) (a : Act) (w : World) : Prop :=
  ∃ D x env H R, Q D x env H ∧ ExitRel R x e ∧ MS C R H w ∧ FS D n R env a
def AWpD (P : Program) (C : Ctx) (n : Nat) (c : Code) (env : Env) (H : Heap) (Q : List Deferred → AExit → Env → Heap → Prop) : Prop :=
  ∀ R a w, MS C R H w → FS C.D n R env a → c.wp P (PostD C n Q) a w
section
variable {P : Program} {C : Ctx} {n : Nat} {env : Env} {H : Heap} {Q : List Deferred → AExit → Env → Heap → Prop} {G : Glo} {GL : List (Nat × List AVal)}
theorem awd_of {c : Code} (h : AWp P C n c env H (Q C.D)) : AWpD P C n c env H Q :=
  fun R a w hm hf => wp_mono (h R a w hm hf) fun _ _ _ ⟨x, en, H', R', q, r⟩ => ⟨C.D, x, en, H', R', q, r⟩
theorem awd_code [Tab P] (hC : C.G = G) (hGL : GloAll G GL) {c : Code} (h : codeX P C n G GL c env H (Q C.D)) : AWpD P C n c env H Q := awd_of (codeX_ok hC hGL _ _ _ _ h)
def thenD (K : List Deferred → Env → Heap → Prop) (Q : List Deferred → AExit → Env → Heap → Prop) : List Deferred → AExit → Env → Heap → Prop
  | D, .normal, e, h => K D e h
  | D, x, e, h => Q D x e h
theorem awd_seq {x y : Code} (h : AWpD P C n x env H (thenD (fun D e h => AWpD P (withD C D) n y e h Q) Q)) : AWpD P C n (.seq x y) env H Q := by
  intro R a w hm hf
  refine wp_seq (wp_mono (h R a w hm hf) ?_)
  rintro e a' w' ⟨D, x, en, H', R', q, er, hm', hf'⟩
  cases x with
  | normal =>
    simp only [ExitRel] at er; subst er
    exact wp_mono (q R' a' w' (hm'.withD D) hf') fun _ _ _ ⟨D2, x, en, H', R', q, er, hm2, hf2⟩ => ⟨D2, x, en, H', R', q, er, hm2.ofD, hf2⟩
  | exit i => simp only [ExitRel] at er; subst er; exact ⟨D, .exit i, en, H', R', q, rfl, hm', hf'⟩
  | goto i => simp only [ExitRel] at er; subst er; exact ⟨D, .goto i, en, H', R', q, rfl, hm', hf'⟩
  | ret => simp only [ExitRel] at er; subst er; exact ⟨D, .ret, en, H', R', q, rfl, hm', hf'⟩
  | panic v => obtain ⟨y, rfl, hr⟩ := er; exact ⟨D, .panic v, en, H', R', q, ⟨y, rfl, hr⟩, hm', hf'⟩
theorem awd_cond {c : Operand} {x y : Code} {b : Bool} (hc : evalA env c = some (.bool b)) (ht : b = true → AWpD P C n x env H Q) (hf : b = false → AWpD P C n y env H Q) : AWpD P C n (.cond c x y) env H Q := by
  intro R a w hm hfs
  refine wp_cond (rel_bool.1 (hfs.eval hc)) ?_
  cases b with
  | true => exact ht rfl R a w hm hfs
  | false => exact hf rfl R a w hm hfs
structure Df (d : Option Deferred) (K : Deferred → Prop) : Prop where
  h : ∃ x, d = some x ∧ K x
def defQ (C : Ctx) (fv : Operand) (args : List Operand) (Q : List Deferred → AExit → Env → Heap → Prop) : AExit → Env → Heap → Prop
  | .normal, e, h => Df (deferA e fv args) fun d => Q (d :: C.D) .normal e h
  | x, e, h => Q C.D x e h
theorem awd_defer [Tab P] {id : Nat} {ops : Array Oper} {fv : Operand} {args : Array Operand} {ts : Array TypeId} {ty : TypeId} {pos : String} {af : Array Edge} (hC : C.G = G) (hGL : GloAll G GL)
    (hl : ops.toList = ops.toList.dropLast ++ [{ dst := none, op := .defer { callee := .value fv, args := args, argTypes := ts }, type := ty, pos := pos, after := af, guard := none }])
    (h : opsX P C n G GL ops (defQ C fv args.toList Q) ops.toList.dropLast env H) : AWpD P C n (.region id ops false) env H Q := by
  intro R a w hm hf
  refine wp_region_list ?_
  rw [hl]
  refine wpList_app ?_
  have h1 := opsX_ok (C := C) hC hGL _ _ _ h R a w hm hf
  have key : ∀ {l : List Oper} {a w}, wpList P ops (Post C n (defQ C fv args.toList Q)) l a w → wpList P ops (tailQ P ops [{ dst := none, op := .defer { callee := .value fv, args := args, argTypes := ts }, type := ty, pos := pos, after := af, guard := none }] (PostD C n Q)) l a w := by
    have hq : ∀ e a w, Post C n (defQ C fv args.toList Q) e a w → tailQ P ops [{ dst := none, op := .defer { callee := .value fv, args := args, argTypes := ts }, type := ty, pos := pos, after := af, guard := none }] (PostD C n Q) e a w := by
      rintro e a' w' ⟨x, en, H', R', q, er, hm', hf'⟩
      cases x with
      | normal =>
        simp only [ExitRel] at er; subst er
        obtain ⟨d, hd, q⟩ := Df.h q
        refine wpList_plain rfl fun K hK => ?_
        have hrun : (execOp a'.eval { dst := none, op := .defer { callee := .value fv, args := args, argTypes := ts }, type := ty, pos := pos, after := af, guard := none : Oper }).run P w' = .ok (.defer d) w' := by
          unfold deferA at hd
          split at hd
          · rename_i f l1 l2 hfv
            split at hd
            · rename_i x1 avs x2 h1 h2 h3
              split at hd
              · rename_i xs h4
                simp only [Option.some.injEq] at hd
                subst hd
                obtain ⟨⟨y1, y2, ey, r1, r2⟩, _⟩ := rel_one (hf'.eval hfv) rfl, trivial
                simp only [List.cons.injEq, and_true] at ey
                have e1 := concL_ok h1 r1
                have e2 := concL_ok h3 r2
                have e3 := concL_ok h4 (argsA_rel (fun x av h => hf'.eval h) h2)
                have e3' : (args.map a'.eval) = xs.toArray := by
                  apply Array.ext'
                  simpa using e3
                have e1' : y1 = x1.toArray := by apply Array.ext'; simpa using e1
                have e2' : y2 = x2.toArray := by apply Array.ext'; simpa using e2
                simp only [execOp, resolve, ey, e3', e1', e2', Deferred.ofValue, Sem.run_bind, Sem.run_pure, Result.andThen_ok]
                simp
              · cases hd
            · cases hd
          · cases hd
        rw [Oper.wp, hrun, Oper.upon_defer]
        refine hK _ _ (wpList_nil ⟨_, .normal, en, H', R', q, rfl, hm', ?_⟩)
        exact ⟨fun k v x => hf'.fr k v x, hf'.size, by show _ :: a'.defers = _; rw [hf'.defers]⟩
      | exit i => simp only [ExitRel] at er; subst er; exact ⟨C.D, .exit i, en, H', R', q, rfl, hm', hf'⟩
      | goto i => simp only [ExitRel] at er; subst er; exact ⟨C.D, .goto i, en, H', R', q, rfl, hm', hf'⟩
      | ret => simp only [ExitRel] at er; subst er; exact ⟨C.D, .ret, en, H', R', q, rfl, hm', hf'⟩
      | panic v => obtain ⟨y, rfl, hr⟩ := er; exact ⟨C.D, .panic v, en, H', R', q, ⟨y, rfl, hr⟩, hm', hf'⟩
    intro l
    induction l with
    | nil => exact fun {a w} h => hq _ _ _ h
    | cons o r ih =>
      intro a w h
      simp only [wpList] at h ⊢
      split
      · rename_i hw
        rw [if_pos hw] at h
        rcases h with h | ⟨h1, b, w2, x, en, H', R', q, er, _⟩
        · exact .inl (upon_map (fun _ _ => ih) (fun _ _ _ => hq _ _ _) (fun ⟨a, w, q⟩ => ⟨a, w, hq _ _ _ q⟩) h)
        · exact .inr ⟨h1, b, w2, hq _ _ _ ⟨x, en, H', R', q, er, by assumption⟩⟩
      · rename_i hw
        rw [if_neg hw] at h
        exact ih h
  exact key h1
end
end Go.Proofs.YtglapkioagenaaaGreatDoor
namespace Go.Proofs.YtglapkioagenaaaGreatDoor
open Go Go.RowKit
inductive AMode where
  | ret
  | pan (v : AVal)
  | rcv (v : AVal)
def ModeRel (R : Seal) : AMode → FrameMode → Prop
  | .ret, u => u = .returning
  | .pan v, u => ∃ x, u = .panicking [{ v := x, recovered := false }] ∧ Rel R v x
  | .rcv v, u => ∃ x, u = .panicking [{ v := x, recovered := true }] ∧ Rel R v x
theorem ModeRel.mono {R R' : Seal} (h : R.le R') : ∀ {m : AMode} {u : FrameMode}, ModeRel R m u → ModeRel R' m u
  | .ret, _, x => x
  | .pan _, _, ⟨y, e, r⟩ => ⟨y, e, rel_mono h r⟩
  | .rcv _, _, ⟨y, e, r⟩ => ⟨y, e, rel_mono h r⟩
def AMode.settle : AMode → AMode
  | .ret => .ret
  | .pan v => .pan v
  | .rcv _ => .ret
theorem settle_rel {R : Seal} : ∀ {m : AMode} {u : FrameMode}, ModeRel R m u → ModeRel R m.settle (Go.settle u)
  | .ret, _, rfl => rfl
  | .pan _, _, ⟨y, rfl, r⟩ => ⟨y, rfl, r⟩
  | .rcv _, _, ⟨y, rfl, _⟩ => rfl
theorem mode_run {R : Seal} : ∀ {m : AMode} {u : FrameMode}, ModeRel R m u → u ≠ .run
  | .ret, _, rfl => by simp
  | .pan _, _, ⟨_, rfl, _⟩ => by simp
  | .rcv _, _, ⟨_, rfl, _⟩ => by simp
/-- A deferred call's contract. -/
def DSpec (P : Program) (G : Glo) (f : FuncId) (avs : List AVal) (m : AMode) (H : Heap) (Qd : ARes → AMode → Heap → Prop) : Prop :=
  ∀ R w args u (hG : G.p R), MS ⟨w, R, blks H, G, hG, []⟩ R H w → RelV R avs args.toList → ModeRel R m u →
    CallsD P f args u w fun e u' w' => ∃ res m' H' R', Qd res m' H' ∧ EndRel R' res e ∧ ModeRel R' m' u' ∧ MS ⟨w, R, blks H, G, hG, []⟩ R' H' w'
section
variable {P : Program} [Tab P] {G : Glo} {GL : List (Nat × List AVal)} {n : Nat} {H : Heap} {m : AMode}
theorem arg_fs {R : Seal} {avs : List AVal} {args : Array Value} {n : Nat} (hlen : Nat.ble avs.length n = true) (ha : RelV R avs args.toList) :
    FS [] n R (argEnv 0 avs) { tmps := args ++ Array.replicate (n - args.size) undef, defers := [] } := by
  have hl := relV_length ha
  have hlen := Nat.le_of_ble_eq_true hlen
  simp only [Array.length_toList] at hl
  refine ⟨fun k v hk => ?_, ?_, rfl⟩
  · obtain ⟨_, x, hx, hr⟩ := argEnv_get ha hk
    refine ⟨x, ?_, hr⟩
    simp only [Nat.sub_zero, Array.getElem?_toList] at hx
    have := Array.getElem?_eq_some_iff.1 hx
    rw [Array.getElem?_append_left this.1]
    exact hx
  · simp only [Array.size_append, Array.size_replicate]; omega
/-- A deferred call of a function that recovers nothing. -/
theorem ds_code {f : FuncId} {fn : Func} {c : Code} {avs : List AVal} {Qf : ARes → Heap → Prop} {rs : List ResultVar} (hf : P.funcs[f]? = some fn)
    (hb : fn.body = some c) (hn : fn.ntmps = n) (hrs : fn.results = rs.toArray) (hlen : Nat.ble avs.length n = true) (hGL : GloAll G GL)
    (h : ∀ C : Ctx, C.G = G → codeX P C n G GL c (argEnv 0 avs) H (RetX P rs Qf)) : DSpec P G f avs m H (fun res m' H' => m' = m ∧ Qf res H') := by
  intro R w args u hG hm ha hu
  have h1 := (codeX_ok (C := ⟨w, R, blks H, G, hG, []⟩) rfl hGL _ _ _ _ (h ⟨w, R, blks H, G, hG, []⟩ rfl)).mono fun _ _ _ q => RetX_ok q
  have h2 : c.wp P (bodyPost P fn (fun e w' => ∃ res H' R', Qf res H' ∧ EndRel R' res e ∧ R.le R' ∧ MS ⟨w, R, blks H, G, hG, []⟩ R' H' w')) { tmps := args ++ Array.replicate (fn.ntmps - args.size) undef, defers := [] } w := by
    subst hn
    refine wp_mono (h1 R _ w hm (arg_fs hlen ha)) ?_
    have hrs' : fn.results.toList = rs := by rw [hrs]
    rintro e a' w' ⟨x, env', H', R', q, er, hm', hf'⟩
    cases x with
    | normal =>
      simp only [ExitRel] at er; subst er
      obtain ⟨vs, H'', hv, hs, q⟩ := q
      obtain ⟨y, hy, hr⟩ := results_run (fn := fn) hm' hf' (by rw [hrs']; exact hv)
      exact ⟨hf'.defers, y, hy, _, H'', R', q, ⟨y, rfl, hr⟩, hm'.ge, hm'.drop hs⟩
    | ret =>
      simp only [ExitRel] at er; subst er
      obtain ⟨vs, H'', hv, hs, q⟩ := q
      obtain ⟨y, hy, hr⟩ := results_run (fn := fn) hm' hf' (by rw [hrs']; exact hv)
      exact ⟨hf'.defers, y, hy, _, H'', R', q, ⟨y, rfl, hr⟩, hm'.ge, hm'.drop hs⟩
    | panic v =>
      obtain ⟨y, rfl, hr⟩ := er
      obtain ⟨H'', hs, q⟩ := q
      exact ⟨hf'.defers, _, H'', R', q, ⟨y, rfl, hr⟩, hm'.ge, hm'.drop hs⟩
    | exit i => exact q.elim
    | goto i => exact q.elim
  refine (callsD_of_wp (u := u) hf hb h2).mono ?_
  rintro e u' w' ⟨rfl, res, H', R', q, er, hle, hm'⟩
  exact ⟨res, m, H', R', ⟨rfl, q⟩, er, hu.mono hle, hm'⟩
omit [Tab P] in
theorem ds_frame {f : FuncId} {avs : List AVal} {H1 : Heap} (H2 : Heap) {Qd : ARes → AMode → Heap → Prop} (h : DSpec P G f avs m H1 Qd) : DSpec P G f avs m (H1 ++ H2) (fun r m' H' => ∃ H1', Qd r m' H1' ∧ H' = H1' ++ H2) := by
  intro R w args u hG hm ha hu
  exact (h R w args u hG hm.enter ha hu).mono fun e u' w' ⟨res, m', H', R', q, er, hu', hm'⟩ => ⟨res, m', H' ++ H2, R', ⟨H', q, rfl⟩, er, hu', MS.call hm hm'⟩
omit [Tab P] in
omit [Tab P] in
theorem ds_heap {f : FuncId} {avs : List AVal} {Qd Qd' : ARes → AMode → Heap → Prop} (h : DSpec P G f avs m H Qd) (hq : ∀ r m' H', Qd r m' H' → ∃ H'', H'.Perm H'' ∧ Qd' r m' H'') : DSpec P G f avs m H Qd' := by
  intro R w args u hG hm ha hu
  exact (h R w args u hG hm ha hu).mono fun e u' w' ⟨res, m', H', R', q, er, hu', hm'⟩ => let ⟨H'', hp, q'⟩ := hq _ _ _ q; ⟨res, m', H'', R', q', er, hu', hm'.perm hp⟩
omit [Tab P] in
omit [Tab P] in
theorem ds_pre {f : FuncId} {avs : List AVal} {H1 H1' : Heap} {r : ARes} {m' : AMode} (H2 : Heap) (hs : DSpec P G f avs m H1 (fun r2 m2 H2 => m2 = m' ∧ r2 = r ∧ H2 = H1')) :
    DSpec P G f avs m (H1 ++ H2) (fun r2 m2 H' => m2 = m' ∧ r2 = r ∧ H' = H1' ++ H2) := by
  refine ds_heap (ds_frame H2 hs) ?_
  rintro r2 m2 H' ⟨H3, ⟨rfl, rfl, rfl⟩, rfl⟩
  exact ⟨_, List.Perm.refl _, rfl, rfl, rfl⟩
/-! ## As a function leaves -/
def Lv (P : Program) (G : Glo) (n : Nat) (rs : List ResultVar) (env : Env) (D : List Deferred) (m : AMode) (H : Heap) (Qf : ARes → Heap → Prop) : Prop :=
  ∀ (C : Ctx) (R : Seal) (a : Act) (w : World) (fn : Func) (u : FrameMode) (D0 : List Deferred), C.G = G → fn.results.toList = rs → MS C R H w → FS D0 n R env a → ModeRel R m u →
    Leaves P fn a.tmps (fun e w' => ∃ res H' R', Qf res H' ∧ EndRel R' res e ∧ MS C R' H' w') D u w
variable {rs : List ResultVar} {env : Env} {Qf : ARes → Heap → Prop} {D : List Deferred}
theorem lv_ret (h : RetX P rs Qf .ret env H) : Lv P G n rs env [] .ret H Qf := by
  rintro C R a w fn u D0 hC hrs hm hf rfl
  obtain ⟨vs, H'', hv, hs, q⟩ := RetX_ok h
  obtain ⟨y, hy, hr⟩ := results_run (fn := fn) hm hf (by rw [hrs]; exact hv)
  exact ⟨y, hy, _, H'', R, q, ⟨y, rfl, hr⟩, hm.drop hs⟩
omit [Tab P] in
omit [Tab P] in
/-- A deferred call that answers. -/
theorem lv_call {f : FuncId} {avs : List AVal} {cap args : Array Value} {v : AVal} {m' : AMode} {H' : Heap} (hs : DSpec P G f avs m H (fun r2 m2 H2 => m2 = m' ∧ r2 = .ret v ∧ H2 = H')) (ha : ∀ R, RelV R avs (args ++ cap).toList)
    (hc : ∀ args w, (callFunc f args).run P w = .ok (.enter f args) w) (k : Lv P G n rs env D m'.settle H' Qf) : Lv P G n rs env ({ target := .fn (.func f) cap, args := args } :: D) m H Qf := by
  intro C R a w fn u D0 hC hrs hm hf hu
  subst hC
  refine leaves_cons (f := f) (args := args ++ cap) (mode_run hu) (by simp only [invoke]; exact hc _ _) ?_
  refine (hs R w _ u hm.glo (MS.enter (H2 := []) (by simpa using hm)) (ha R) hu).mono ?_
  rintro e u' w' ⟨res, m2, H2, R', ⟨rfl, rfl, rfl⟩, ⟨y, rfl, hr⟩, hu', hm'⟩
  have hm2 : MS C R' H2 w' := by simpa using MS.call (H2 := []) (by simpa using hm) hm'
  exact k C R' a w' fn _ D0 rfl hrs hm2 (hf.mono hm'.ge) (settle_rel hu')
def LvQ (P : Program) (G : Glo) (n : Nat) (rs : List ResultVar) (Qf : ARes → Heap → Prop) : List Deferred → AExit → Env → Heap → Prop
  | D, .ret, e, H | D, .normal, e, H => Lv P G n rs e D .ret H Qf
  | D, .panic v, e, H => Lv P G n rs e D (.pan v) H Qf
  | _, _, _, _ => False
omit [Tab P] in
/-- FROM THE SPINE TO THE CONTRACT. -/
theorem fn_d {f : FuncId} {fn : Func} {c : Code} {avs : List AVal} (hf : P.funcs[f]? = some fn)
    (hc : ∀ args w, (callFunc f args).run P w = .ok (.enter f args) w) (hb : fn.body = some c) (hn : fn.ntmps = n) (hrs : fn.results = rs.toArray) (hlen : Nat.ble avs.length n = true)
    (h : ∀ C : Ctx, C.G = G → C.D = [] → AWpD P C n c (argEnv 0 avs) H (LvQ P G n rs Qf)) : FnSpec P G f avs H Qf := by
  intro R w args hG hm ha
  refine .inl ⟨hc args w, calls_of_wp_defers hf hb ?_⟩
  subst hn
  have hrs' : fn.results.toList = rs := by rw [hrs]
  refine wp_mono (h ⟨w, R, blks H, G, hG, []⟩ rfl rfl R _ w hm (arg_fs hlen ha)) ?_
  rintro e a' w' ⟨D, x, env', H', R', q, er, hm', hf'⟩
  cases x with
  | normal =>
    simp only [ExitRel] at er; subst er
    have := q _ R' a' w' fn .returning D rfl hrs' hm' hf' rfl
    rwa [← hf'.defers] at this
  | ret =>
    simp only [ExitRel] at er; subst er
    have := q _ R' a' w' fn .returning D rfl hrs' hm' hf' rfl
    rwa [← hf'.defers] at this
  | panic v =>
    obtain ⟨y, rfl, hr⟩ := er
    have := q _ R' a' w' fn (.panicking [{ v := y, recovered := false }]) D rfl hrs' hm' hf' ⟨y, rfl, hr⟩
    rwa [← hf'.defers] at this
  | exit i => exact q.elim
  | goto i => exact q.elim
end
end Go.Proofs.YtglapkioagenaaaGreatDoor
namespace Go.Proofs.YtglapkioagenaaaGreatDoor
open Go Go.RowKit
theorem relL_set {R : Seal} {a a' : AVal} (ht : ∀ v, RelC R a [v] → RelC R a' [v]) : ∀ {cs : List AVal} {vs : List Value} {p : Nat}, RelL R cs vs → cs[p]? = some a → RelL R (cs.set p a') vs
  | [], _, _, _, e => by simp at e
  | c :: cs, _, 0, ⟨v, t, rfl, h1, h2⟩, e => by
    simp only [List.getElem?_cons_zero, Option.some.injEq] at e
    subst e
    exact ⟨v, t, rfl, ht v h1, h2⟩
  | c :: cs, _, p + 1, ⟨v, t, rfl, h1, h2⟩, e => by
    simp only [List.getElem?_cons_succ] at e
    exact ⟨v, t, rfl, h1, relL_set ht h2 e⟩
/-- An entry whose cell is told otherwise. -/
inductive CellTo (R : Seal) (p : Nat) (a' : AVal) : HEnt → HEnt → Prop
  | cells {b eT cs a} (hp : cs[p]? = some a) (ht : ∀ v, RelC R a [v] → RelC R a' [v]) : CellTo R p a' (.cells b eT cs) (.cells b eT (cs.set p a'))
  | row {v eT sz n cs a} (hp : cs[p]? = some a) (ht : ∀ v, RelC R a [v] → RelC R a' [v]) : CellTo R p a' (.row v eT sz n cs) (.row v eT sz n (cs.set p a'))
theorem CellTo.holds {R : Seal} {p : Nat} {a' : AVal} {x y : HEnt} {w : World} (h : CellTo R p a' x y) (hx : x.holds R w) : y.holds R w ∧ y.blk = x.blk := by
  cases h with
  | cells hp ht =>
    obtain ⟨C, e, fz, hb, hl, hf⟩ := hx
    exact ⟨⟨C, e, fz, hb, relL_set ht hl hp, hf⟩, rfl⟩
  | row hp ht =>
    rename_i v eT sz n cs a
    obtain ⟨hlen, y⟩ := hx
    refine ⟨⟨by rw [List.length_set]; exact hlen, ?_⟩, by cases v with | slice a l c => cases a <;> rfl | _ => rfl⟩
    rcases y with ⟨h1, h2⟩ | ⟨b, cap, C, e, fz, rfl, hb, hs, hn, hl, hf⟩
    · exact .inl ⟨h1, h2⟩
    · exact .inr ⟨b, cap, C, e, fz, rfl, hb, hs, hn, relL_set ht hl hp, hf⟩
section
variable {C : Ctx} {n : Nat} {e e' e'' : Env} {h h' h'' : Heap}
end
section
variable {P : Program} [Tab P] {C : Ctx} {n : Nat} {env : Env} {H : Heap} {Q : AExit → Env → Heap → Prop} {G : Glo} {GL : List (Nat × List AVal)}
omit [Tab P] in
omit [Tab P] in
omit [Tab P] in
end
end Go.Proofs.YtglapkioagenaaaGreatDoor
namespace Go.Proofs.YtglapkioagenaaaGreatDoor
open Go Go.RowKit
theorem spec_cells {P : Program} [Tab P] {G : Glo} {f : FuncId} {avs : List AVal} {b : Nat} {eT : Option TypeId} {cs cs' : List AVal} {v : AVal}
    (hrun : ∀ R w Cs e fz args, w.heap[b]? = some (.cells Cs e fz) → RelL R cs Cs.toList → Loose fz Cs.size → RelV R avs args.toList → ∃ x w' Cs', (callFunc f args).run P w = .ok (.value x) w' ∧ Rel R v x ∧ OneBlk w b (.cells Cs' e fz) w' ∧ RelL R cs' Cs'.toList ∧ Cs'.size = Cs.size) :
    FnSpec P G f avs [.cells b eT cs] (fun r H => r = .ret v ∧ H = [.cells b eT cs']) := by
  intro R w args hG hm ha
  obtain ⟨Cs, e, fz, hb, hl, hfz, het⟩ := hm.heap.holds _ (List.mem_cons_self ..)
  obtain ⟨x, w', Cs', h1, h2, h3, h4, h5⟩ := hrun R w Cs e fz args hb hl hfz ha
  refine .inr ⟨x, w', h1, .ret v, [.cells b eT cs'], R, ⟨rfl, rfl⟩, ⟨x, rfl, h2⟩, ?_⟩
  exact hm.write (i := 0) rfl rfl h3 rfl ⟨Cs', e, fz, h3.at_, h4, by rw [h5]; exact hfz, het⟩
theorem oneBlk_refl {w : World} {b : Nat} {o : Obj} (h : w.heap[b]? = some o) : OneBlk w b o w := ⟨rfl, rfl, rfl, rfl, h, fun _ _ => rfl⟩
theorem oneBlk_set {w : World} {b off e : Nat} {Cs : Array Value} {fz : Nat × Nat} {v : Value} (h : w.heap[b]? = some (.cells Cs e fz)) (ho : off < Cs.size) : OneBlk w b (.cells (Cs.setIfInBounds off v) e fz) (w.setCell ⟨b, off, none⟩ v) := by
  have hlt : b < w.heap.size := by
    rcases Nat.lt_or_ge b w.heap.size with h1 | h1
    · exact h1
    · simp [Array.getElem?_eq_none h1] at h
  refine ⟨rfl, rfl, rfl, by simp [World.setCell], ?_, fun k hk => ?_⟩
  · simp only [World.setCell, Array.getElem?_modify, if_true, h, Option.map_some, Option.isSome_none, Bool.false_eq_true, if_false]
  · simp only [World.setCell, Array.getElem?_modify]
    rw [if_neg (fun e => hk e.symm)]
theorem relL_put {R : Seal} {a : AVal} {v : Value} (ha : RelC R a [v]) : ∀ {cs : List AVal} {vs : List Value} {p : Nat}, RelL R cs vs → p < cs.length → RelL R (cs.set p a) (vs.set p v)
  | [], _, _, _, h => absurd h (Nat.not_lt_zero _)
  | c :: cs, _, 0, ⟨u, t, rfl, h1, h2⟩, _ => ⟨v, t, rfl, ha, h2⟩
  | c :: cs, _, p + 1, ⟨u, t, rfl, h1, h2⟩, hp => ⟨u, _, rfl, h1, relL_put ha h2 (by simpa using hp)⟩
theorem arg1 {R : Seal} {v : Value} {args : Array Value} (h : RelV R [.raw v] args.toList) : args = #[v] := by
  obtain ⟨x, t, e, hx, rfl⟩ := h
  obtain rfl := rel_raw.1 (show Rel R (.raw v) x from hx)
  exact Array.ext' e
theorem arg2 {R : Seal} {v : Value} {k : IntKind} {n : Int} {args : Array Value} (h : RelV R [.raw v, .int k n] args.toList) : args = #[v, .int k n] := by
  obtain ⟨x, t, e, hx, y, t2, rfl, hy, rfl⟩ := h
  obtain rfl := rel_raw.1 (show Rel R (.raw v) x from hx)
  obtain rfl := rel_int.1 (show Rel R (.int k n) y from hy)
  exact Array.ext' e
theorem arg3 {R : Seal} {v : Value} {k k2 : IntKind} {n m : Int} {args : Array Value} (h : RelV R [.raw v, .int k n, .int k2 m] args.toList) : args = #[v, .int k n, .int k2 m] := by
  obtain ⟨x, t, e, hx, y, t2, rfl, hy, z, t3, rfl, hz, rfl⟩ := h
  obtain rfl := rel_raw.1 (show Rel R (.raw v) x from hx)
  obtain rfl := rel_int.1 (show Rel R (.int k n) y from hy)
  obtain rfl := rel_int.1 (show Rel R (.int k2 m) z from hz)
  exact Array.ext' e
section
variable {G : Glo} {b off : Nat} {eT : Option TypeId} {cs : List AVal}
abbrev pv (b off : Nat) : Value := .pointer (some ⟨b, off, none⟩)
theorem cell_int {R : Seal} {w : World} {Cs : Array Value} {e : Nat} {fz : Nat × Nat} {k : IntKind} {n : Int} (hb : w.heap[b]? = some (.cells Cs e fz)) (hl : RelL R cs Cs.toList) (hc : cs[off]? = some (.int k n)) : w.cell? ⟨b, off, none⟩ = some (.int k n) ∧ off < Cs.size := by
  obtain ⟨v, hv, hr⟩ := relL_get hl hc
  simp only [RelC, List.cons.injEq, and_true] at hr
  subst hr
  refine ⟨by simp only [World.cell?, hb]; simpa using hv, ?_⟩
  have := (List.getElem?_eq_some_iff.1 hv).1
  simpa using this
theorem not_frozen {w : World} {Cs : Array Value} {e : Nat} {fz : Nat × Nat} (hb : w.heap[b]? = some (.cells Cs e fz)) (hfz : Loose fz Cs.size) (ho : off < Cs.size) : w.frozen? ⟨b, off, none⟩ = false := by
  obtain ⟨lo, hi⟩ := fz
  simp only [World.frozen?, hb, Loose] at hfz ⊢
  simp
  omega
theorem at_load {n : Int} (hc : cs[off]? = some (.int .u32 n)) : FnSpec Tryz.prog G 79 [.raw (pv b off)] [.cells b eT cs] (fun r H => r = .ret (.int .u32 n) ∧ H = [.cells b eT cs]) := by
  refine spec_cells fun R w Cs e fz args hb hl hfz ha => ?_
  obtain rfl := arg1 ha
  obtain ⟨h1, _⟩ := cell_int hb hl hc
  exact ⟨_, _, Cs, run_call_load Tryz.func79 (by kernel_rfl) (by kernel_rfl) (by kernel_rfl) .u32 (by kernel_rfl) h1, rel_int.2 rfl, oneBlk_refl hb, hl, rfl⟩
theorem at_store {n y : Int} (hc : cs[off]? = some (.int .u32 n)) : FnSpec Tryz.prog G 94 [.raw (pv b off), .int .u32 y] [.cells b eT cs] (fun r H => r = .ret (.tuple []) ∧ H = [.cells b eT (cs.set off (.int .u32 y))]) := by
  refine spec_cells fun R w Cs e fz args hb hl hfz ha => ?_
  obtain rfl := arg2 ha
  obtain ⟨h1, ho⟩ := cell_int hb hl hc
  have hlen := relL_length hl
  rw [Array.length_toList] at hlen
  refine ⟨_, _, Cs.setIfInBounds off (.int .u32 y), run_call_store Tryz.func94 (by kernel_rfl) (by kernel_rfl) (by kernel_rfl) (by kernel_rfl) h1 (not_frozen hb hfz ho), ⟨⟨#[], rfl, rfl⟩, rfl⟩, oneBlk_set hb ho, ?_, by simp⟩
  rw [Array.toList_setIfInBounds]
  exact relL_put (show RelC R (.int .u32 y) [.int .u32 y] from rfl) hl (by omega)
theorem at_cas {n y : Int} (hc : cs[off]? = some (.int .i32 n)) : FnSpec Tryz.prog G 102 [.raw (pv b off), .int .i32 n, .int .i32 y] [.cells b eT cs] (fun r H => r = .ret (.bool true) ∧ H = [.cells b eT (cs.set off (.int .i32 y))]) := by
  refine spec_cells fun R w Cs e fz args hb hl hfz ha => ?_
  obtain rfl := arg3 ha
  obtain ⟨h1, ho⟩ := cell_int hb hl hc
  have hlen := relL_length hl
  rw [Array.length_toList] at hlen
  refine ⟨_, _, Cs.setIfInBounds off (.int .i32 y), run_call_cas_hit Tryz.func102 (by kernel_rfl) (by kernel_rfl) (by kernel_rfl) .i32 (by kernel_rfl) h1 (not_frozen hb hfz ho), rel_bool.2 rfl, oneBlk_set hb ho, ?_, by simp⟩
  rw [Array.toList_setIfInBounds]
  exact relL_put (show RelC R (.int .i32 y) [.int .i32 y] from rfl) hl (by omega)
theorem at_dec (hc : cs[off]? = some (.int .i32 1)) : FnSpec Tryz.prog G 107 [.raw (pv b off), .int .i32 (-1)] [.cells b eT cs] (fun r H => r = .ret (.int .i32 0) ∧ H = [.cells b eT (cs.set off (.int .i32 0))]) := by
  refine spec_cells fun R w Cs e fz args hb hl hfz ha => ?_
  obtain rfl := arg2 ha
  obtain ⟨h1, ho⟩ := cell_int hb hl hc
  have hlen := relL_length hl
  rw [Array.length_toList] at hlen
  refine ⟨_, _, Cs.setIfInBounds off (.int .i32 0), run_call_add Tryz.func107 (by kernel_rfl) (by kernel_rfl) (by kernel_rfl) .i32 (by kernel_rfl) (s := 0) h1 (not_frozen hb hfz ho) (by simp [go_sem]; rfl), rel_int.2 rfl, oneBlk_set hb ho, ?_, by simp⟩
  rw [Array.toList_setIfInBounds]
  exact relL_put (show RelC R (.int .i32 0) [.int .i32 0] from rfl) hl (by omega)
end
end Go.Proofs.YtglapkioagenaaaGreatDoor
namespace Go.Proofs.YtglapkioagenaaaGreatDoor
open Go
set_option linter.unusedSimpArgs false
set_option linter.unusedSectionVars false
set_option linter.unusedVariables false
/-- Which operation comes up next: one that may be taken first, or any of several. -/
inductive DPlan
  | done
  | take (i : Nat) (p : DPlan)
  | br (i : Nat) (p q : DPlan)
  | nil
def planB (ops : Array Oper) : DPlan → Nat → Array Bool → List Nat → Bool
  | .done, _, l, acc => acc.isEmpty && (Region.ready .any ops l).isEmpty
  | .take _ _, 0, _, _ => false
  | .take i p, k + 1, l, acc => acc.isEmpty && (Region.free .any ops l i && ((Region.ready .any ops l).contains i && planB ops p k (l.setIfInBounds i true) []))
  | .br _ _ _, 0, _, _ => false
  | .br i p q, k + 1, l, acc => planB ops p k (l.setIfInBounds i true) [] && planB ops q (k + 1) l (acc ++ [i])
  | .nil, _, l, acc => !acc.isEmpty && decide (Region.ready .any ops l = acc)
structure Both (a b : Prop) : Prop where
  l : a
  r : b
theorem bt_i {a b : Prop} (h : a) (k : b) : Both a b := ⟨h, k⟩
/-- Nothing serves here. -/
inductive Stk (ops : Array Oper) (i : Nat) (env : Env) (H : Heap) : Prop
/-- An operation's end: what stood stands. -/
inductive Og (kf : Bool) (H h : Heap) (k : Prop) : Prop
  | all (X : Heap) (e : h = H ++ X) (h : k)
  | none (e : kf = false) (h : k)
theorem og_n {H h : Heap} {k : Prop} (hk : k) : Og false H h k := .none rfl hk
theorem og_a {H h : Heap} {k : Prop} (X : Heap) (e : h = H ++ X) (hk : k) : Og true H h k := .all X e hk
/-- The end of a region. -/
inductive Fie {X : Type} (I : X → Env) (J : X → Heap) (e : Env) (h : Heap) : Prop
  | mk (x : X) (hs : Env.sub e (I x)) (hj : h = J x)
section
/-- Whatever the call began with. -/
structure Bc (G : Glo) (k : Ctx → Prop) : Prop where
  h : ∀ C : Ctx, C.G = G → k C
theorem bc_i {G : Glo} {k : Ctx → Prop} (h : ∀ C : Ctx, C.G = G → k C) : Bc G k := ⟨h⟩
variable (P : Program) [Tab P] (n : Nat) (G : Glo) (GL : List (Nat × List AVal))
def hk (kf : Bool) (H : Heap) : Heap := match kf with
  | true => H
  | false => []
def takeX (kf : Bool) (ops : Array Oper) (i : Nat) (ih : Env → Heap → Prop) (env : Env) (H : Heap) : Prop :=
  match ops[i]? with
  | some o => guardX ops env o.guard (Stk ops i env H)
    (fun env' => match o.dst with
      | some d => match Nat.ble (d + 1) n with
        | true => fixX P GL (hk kf H) env' o.op (Stk ops i env' H) fun av => ih ((d, av) :: env') H
        | false => Stk ops i env' H
      | none => Stk ops i env' H)
    (fun env' => match o.dst with
      | some d => match Nat.ble (d + 1) n with
        | true => ih ((d, .raw undef) :: env') H
        | false => Stk ops i env' H
      | none => ih env' H)
  | none => Stk ops i env H
def brX (kf : Bool) (ops : Array Oper) (i : Nat) (ih : Env → Heap → Prop) (env : Env) (H : Heap) : Prop :=
  match ops[i]? with
  | some o => Bc G fun C => opsX P C n G GL ops (fun x e h => match x with
    | .normal => Og kf H h (ih e h)
    | _ => False) [o] env H
  | none => Stk ops i env H
noncomputable def dpX (kf : Bool) (ops : Array Oper) (Q : Env → Heap → Prop) (p : DPlan) : Env → Heap → Prop :=
  DPlan.rec (motive := fun _ => Env → Heap → Prop) Q (fun i _ ih => takeX P n GL kf ops i ih) (fun i _ _ ihp ihq env H => Both (brX P n G GL kf ops i ihp env H) (ihq env H)) (fun _ _ => True) p
end
theorem wpAnyH_S {P : Program} {ops : Array Oper} {Q : Exit → Act → World → Prop} {md : Region.Mode} {S S' : World → Prop} (h : ∀ w, S' w → S w) : ∀ (fuel : Nat) (listed : Array Bool) (a : Act) (w : World), wpAnyH P md ops Q S' fuel listed a w → wpAnyH P md ops Q S fuel listed a w
  | 0, _, _, _, k => k
  | fuel + 1, _, _, _, k => ⟨k.1, fun i hi => wpOp_mono (fun a' w' k' => ⟨h _ k'.1, wpAnyH_S h fuel _ a' w' k'.2⟩) (k.2 i hi)⟩
def reCtx (C : Ctx) (R : Seal) (hR : C.R0.le R) : Ctx := ⟨C.w0, R, C.B0, C.G, C.G.mono _ _ hR C.hG, C.D⟩
theorem MS.re {C : Ctx} {R : Seal} {H : Heap} {w : World} (h : MS C R H w) : MS (reCtx C R h.ge) R H w :=
  ⟨h.sealed, Seal.le_refl R, fun b hb => .inl hb, h.heap, h.own, h.ext⟩
theorem MS.back {C : Ctx} {R R' : Seal} {H H' : Heap} {w w' : World} (h : MS C R H w) (k : MS (reCtx C R h.ge) R' H' w') : MS C R' H' w' :=
  ⟨k.sealed, Seal.le_trans h.ge k.ge, fun b hb => (k.fresh b hb).elim (h.fresh b) .inr, k.heap, k.own, k.ext⟩
section
variable {P : Program} [Tab P] {n : Nat} {env : Env} {H : Heap} {ops : Array Oper} {G : Glo} {GL : List (Nat × List AVal)} {kf : Bool}
/-- What is asked of the world through a region. -/
def DS (C : Ctx) (kf : Bool) (R : Seal) (H : Heap) (w : World) : Prop := ∃ R' X, R.le R' ∧ MS C R' (hk kf H ++ X) w
theorem ds_of {C : Ctx} {R : Seal} {w : World} (h : MS C R H w) : DS C kf R H w := by
  cases kf with
  | true => exact ⟨R, [], Seal.le_refl R, by simpa [hk] using h⟩
  | false => exact ⟨R, H, Seal.le_refl R, by simpa [hk] using h⟩
def QN (Q : Env → Heap → Prop) : AExit → Env → Heap → Prop := fun x e h => x = .normal ∧ Q e h
theorem qn_panic {C : Ctx} {Q : Env → Heap → Prop} {ex : Exit} {a : Act} {w : World} (hx : ex ≠ .normal) : ¬ Post C n (QN Q) ex a w := by
  rintro ⟨x, e, h, R, ⟨rfl, _⟩, hr, _⟩
  exact hx hr
def DA (P : Program) (G : Glo) (n : Nat) (ops : Array Oper) (kf : Bool) (Q : Env → Heap → Prop) (fuel : Nat) (listed : Array Bool) (env : Env) (H : Heap) : Prop :=
  ∀ C : Ctx, C.G = G → ∀ R a w, MS C R H w → FS C.D n R env a → wpAnyH P .any ops (Post C n (QN Q)) (DS C kf R H) fuel listed a w
variable {Q : Env → Heap → Prop} {fuel : Nat} {listed : Array Bool} {i : Nat} {o : Oper} {av : AVal}
theorem da_yield {env' : Env} {C : Ctx} (hC : C.G = G) {R : Seal} {a : Act} {w : World} (hm : MS C R H w) (hns : Region.noSelect ops = true) (hi : ops[i]? = some o) (hf : Region.free .any ops listed i = true) (hr : (Region.ready .any ops listed).contains i = true)
    (hy : ∃ x, YieldsIf P ops (DS C kf R H) o x a ∧ FS C.D n R env' (a.put o.dst x)) (h : DA P G n ops kf Q fuel (listed.setIfInBounds i true) env' H) : wpAnyH P .any ops (Post C n (QN Q)) (DS C kf R H) (fuel + 1) listed a w := by
  obtain ⟨x, h1, h2⟩ := hy
  exact wpAnyH_take hi hns hf hr (fun c a w hp => absurd hp (qn_panic (by simp))) h1 (ds_of hm) (h C hC R _ w hm h2)
theorem da_env {env' : Env} (hs : ∀ {D : List Deferred} R a, FS D n R env a → FS D n R env' a) (h : DA P G n ops kf Q fuel listed env' H) : DA P G n ops kf Q fuel listed env H := fun C hC R a w hm hf => h C hC R a w hm (hs R a hf)
theorem da_split {b : Bool} {d : Nat} (hv : Env.get env d = some (.bool b))
    (ht : b = true → DA P G n ops kf Q fuel listed ((d, .bool true) :: env) H) (hf : b = false → DA P G n ops kf Q fuel listed ((d, .bool false) :: env) H) : DA P G n ops kf Q fuel listed env H := by
  have key : ∀ x, b = x → ∀ {D : List Deferred} R a, FS D n R env a → FS D n R ((d, .bool x) :: env) a := by
    rintro x rfl D R a hfr
    refine ⟨fun k v hk => ?_, hfr.size, hfr.defers⟩
    simp only [Env.get] at hk
    cases hb : Nat.beq d k with
    | true =>
      rw [hb] at hk
      have := Nat.eq_of_beq_eq_true hb
      subst this
      simp only [Option.some.injEq] at hk
      subst hk
      exact hfr.fr d _ hv
    | false => rw [hb] at hk; exact hfr.fr k v hk
  cases hb : b with
  | true => exact da_env (key true hb) (ht hb)
  | false => exact da_env (key false hb) (hf hb)
theorem guardSlot_unwanted {D : List Deferred} {R : Seal} {a : Act} {e : Nat} (hs : guardSlot ops o.guard = some e) (hv : Env.get env e = some (.raw undef)) (hf : FS D n R env a) : Region.wanted o (yielded ops a.tmps) = false := by
  unfold guardSlot at hs
  unfold Region.wanted
  split at hs
  · rename_i j want h
    rw [h]
    split at hs
    · rename_i o' ho
      obtain ⟨x, hx, hr⟩ := hf.fr e _ hv
      rw [rel_raw.1 hr] at hx
      simp [yielded, ho, hs, hx, undef]
    · cases hs
  · cases hs
theorem take_ok (hGL : GloAll G GL) (hns : Region.noSelect ops = true) (hf : Region.free .any ops listed i = true) (hr : (Region.ready .any ops listed).contains i = true) {ih : Env → Heap → Prop}
    (hih : ∀ env H, ih env H → DA P G n ops kf Q fuel (listed.setIfInBounds i true) env H) (h : takeX P n GL kf ops i ih env H) : DA P G n ops kf Q (fuel + 1) listed env H := by
  unfold takeX at h
  split at h
  case h_2 => cases h
  rename_i o ho
  have run : ∀ env' b, guardA ops env' o.guard = some (b, b) → (match o.dst with
      | some d => match Nat.ble (d + 1) n with
        | true => fixX P GL (hk kf H) env' o.op (Stk ops i env' H) fun av => ih ((d, av) :: env') H
        | false => Stk ops i env' H
      | none => Stk ops i env' H) → DA P G n ops kf Q (fuel + 1) listed env' H := by
    intro env' b hg h
    split at h
    · rename_i d hd
      split at h
      · rename_i hdn
        intro C hC R a w hm hfs
        rcases fixX_ok (C := C) (GL := GL) (by rw [hC]; exact hGL) h with h | ⟨av, h1, h2⟩
        · cases h
        · refine da_yield (env' := (d, av) :: env') hC hm hns ho hf hr ?_ (hih _ _ h2)
          obtain ⟨x, hx, hrun⟩ := h1 R a.eval (fun x a hx => hfs.eval hx)
          refine ⟨x, .inl ⟨by rw [wanted_of hfs hg]; simp, ?_⟩, by rw [hd]; exact hfs.put hdn hx⟩
          rintro w' ⟨R', X, hle, hms⟩
          exact hrun R' w' hle (hms.drop (List.sublist_append_left _ _)) o.dst o.type o.pos o.after o.guard
      · cases h
    · cases h
  have skip : ∀ env', (∀ {D : List Deferred} R a, FS D n R env' a → Region.wanted o (yielded ops a.tmps) = false) → (match o.dst with
      | some d => match Nat.ble (d + 1) n with
        | true => ih ((d, .raw undef) :: env') H
        | false => Stk ops i env' H
      | none => ih env' H) → DA P G n ops kf Q (fuel + 1) listed env' H := by
    intro env' hw h
    split at h
    · rename_i d hd
      split at h
      · rename_i hdn
        intro C hC R a w hm hfs
        refine da_yield (env' := (d, .raw undef) :: env') hC hm hns ho hf hr ⟨undef, .inr ⟨hw R a hfs, rfl⟩, ?_⟩ (hih _ _ h)
        rw [hd]
        exact hfs.put hdn (rel_raw.2 rfl)
      · cases h
    · rename_i hd
      intro C hC R a w hm hfs
      refine da_yield (env' := env') hC hm hns ho hf hr ⟨undef, .inr ⟨hw R a hfs, rfl⟩, ?_⟩ (hih _ _ h)
      rw [hd]
      exact hfs
  unfold guardX at h
  split at h
  · rename_i hgn
    exact run env true (by rw [hgn]; rfl) h
  · rename_i j want hgn
    split at h
    case h_2 => cases h
    rename_i o' ho'
    split at h
    case h_2 => cases h
    rename_i e he
    split at h
    · rename_i b hb
      have hgT : ∀ v, guardA ops ((e, .bool v) :: env) o.guard = some (v, want) := fun v => by rw [hgn]; exact guard_const ho' he
      split at h
      · refine da_split hb (fun hv => ?_) (fun hv => ?_)
        · exact run _ true (hgT true) (h.1 hv)
        · exact skip _ (fun R a hfs => by rw [wanted_of hfs (hgT false)]; rfl) (h.2 hv)
      · refine da_split hb (fun hv => ?_) (fun hv => ?_)
        · exact skip _ (fun R a hfs => by rw [wanted_of hfs (hgT true)]; rfl) (h.1 hv)
        · exact run _ false (hgT false) (h.2 hv)
    · rename_i v hv
      have hgS : guardSlot ops o.guard = some e := by rw [hgn]; simp only [guardSlot, ho', he]
      obtain ⟨rfl, h⟩ := h
      exact skip _ (fun R a hfs => guardSlot_unwanted hgS hv hfs) h
    · cases h
theorem wpOp_of_list {QP : Exit → Act → World → Prop} {K : Act → World → Prop} {Q' : Exit → Act → World → Prop} {a : Act} {w : World} (hi : ops[i]? = some o) (hp : ∀ ex a w, ex ≠ .normal → ¬ Q' ex a w) (hK : ∀ a w, Q' .normal a w → K a w)
    (h : wpList P ops Q' [o] a w) : wpOp P ops QP i K a w := by
  unfold wpOp
  rw [hi]
  simp only [wpList] at h
  dsimp only
  split at h
  · rename_i hw
    rw [if_pos hw]
    rcases h with h | ⟨_, a, w, h⟩
    · refine .inl ?_
      unfold Oper.wp at h ⊢
      generalize (execOp a.eval o).run P w = r at h ⊢
      cases r with
      | ok n w' =>
        cases n <;> simp only [Oper.upon] at h ⊢
        case value u => exact hK _ _ h
        case skip => exact hK _ _ h
        case defer d => exact hK _ _ h
        case enter f args =>
          refine Calls.mono h fun e w'' he => ?_
          cases e with
          | returned u => exact hK _ _ he
          | panicked c => exact absurd he (hp _ _ _ (by simp))
          | outgrown => obtain ⟨a, w, he⟩ := he; exact absurd he (hp _ _ _ (by simp))
        case row row args => exact Rows.mono h fun u w'' he => hK _ _ he
      | halt x w' =>
        cases x <;> simp only [Oper.upon] at h ⊢
        case panic u => exact absurd h (hp _ _ _ (by simp))
    · exact absurd h (hp _ _ _ (by simp))
  · rename_i hw
    rw [if_neg hw]
    exact hK _ _ h
theorem br_ok (hGL : GloAll G GL) {ih : Env → Heap → Prop} (hih : ∀ env H, ih env H → DA P G n ops kf Q fuel (listed.setIfInBounds i true) env H)
    {C : Ctx} (hC : C.G = G) (h : brX P n G GL kf ops i ih env H) {R : Seal} {a : Act} {w : World} (hm : MS C R H w) (hfs : FS C.D n R env a) :
    wpOp P ops (Post C n (QN Q)) i (fun a' w' => DS C kf R H w' ∧ wpAnyH P .any ops (Post C n (QN Q)) (DS C kf R H) fuel (listed.setIfInBounds i true) a' w') a w := by
  unfold brX at h
  split at h
  case h_2 => cases h
  rename_i o ho
  have h1 := opsX_ok (C := reCtx C R hm.ge) (show (reCtx C R hm.ge).G = G from hC) hGL _ _ _ (h.h _ hC) R a w hm.re hfs
  refine wpOp_of_list ho ?_ ?_ h1
  · rintro ex a w hx ⟨x, e, h, R, hq, hr, _⟩
    cases x with
    | normal => exact hx hr
    | _ => exact hq.elim
  · rintro a' w' ⟨x, e, h', R', hq, _, hm', hf'⟩
    have hle : R.le R' := hm'.ge
    have hm2 := hm.back hm'
    have step : (∃ X, hk kf h' = hk kf H ++ X) → ih e h' → DS C kf R H w' ∧ wpAnyH P .any ops (Post C n (QN Q)) (DS C kf R H) fuel (listed.setIfInBounds i true) a' w' := by
      rintro ⟨X, hX⟩ k
      have sub : ∀ w, DS C kf R' h' w → DS C kf R H w := by
        rintro w ⟨R2, X2, hle2, hms⟩
        rw [hX, List.append_assoc] at hms
        exact ⟨R2, X ++ X2, Seal.le_trans hle hle2, hms⟩
      exact ⟨sub _ (ds_of hm2), wpAnyH_S sub _ _ _ _ (hih _ _ k C hC R' a' w' hm2 hf')⟩
    cases x with
    | normal =>
      cases hq with
      | all X e k =>
        refine step ?_ k
        subst e
        cases kf
        · exact ⟨[], rfl⟩
        · exact ⟨X, rfl⟩
      | none e k => subst e; exact step ⟨[], rfl⟩ k
    | _ => exact hq.elim
/-- The plan, sound. -/
theorem dp_ok (hGL : GloAll G GL) (hns : Region.noSelect ops = true) : ∀ (p : DPlan) (fuel : Nat) (listed : Array Bool) (acc : List Nat) (env : Env) (H : Heap), planB ops p fuel listed acc = true → dpX P n G GL kf ops Q p env H →
    (acc = [] → DA P G n ops kf Q fuel listed env H) ∧ (acc ≠ [] → ∀ C : Ctx, C.G = G → ∀ R a w, MS C R H w → FS C.D n R env a → ∃ f, (∀ k, fuel = k + 1 → f = k) ∧ Region.ready .any ops listed ≠ [] ∧
      ∀ i ∈ Region.ready .any ops listed, i ∈ acc ∨ wpOp P ops (Post C n (QN Q)) i (fun a' w' => DS C kf R H w' ∧ wpAnyH P .any ops (Post C n (QN Q)) (DS C kf R H) f (listed.setIfInBounds i true) a' w') a w) := by
  intro p
  induction p with
  | done =>
    intro fuel listed acc env H hp h
    simp only [planB, Bool.and_eq_true, List.isEmpty_iff] at hp
    refine ⟨fun _ C hC R a w hm hfs => wpAnyH_done hp.2 ⟨.normal, env, H, R, ⟨rfl, h⟩, rfl, hm, hfs⟩ fuel, fun ha => absurd hp.1 ha⟩
  | take i p ih =>
    intro fuel listed acc env H hp h
    cases fuel with
    | zero => simp [planB] at hp
    | succ fuel =>
      simp only [planB, Bool.and_eq_true, List.isEmpty_iff] at hp
      obtain ⟨h1, h2, h3, h4⟩ := hp
      exact ⟨fun _ => take_ok hGL hns h2 h3 (fun env H k => (ih fuel _ [] env H h4 k).1 rfl) h, fun ha => absurd h1 ha⟩
  | br i p q ihp ihq =>
    intro fuel listed acc env H hp h
    cases fuel with
    | zero => simp [planB] at hp
    | succ fuel =>
      simp only [planB, Bool.and_eq_true] at hp
      obtain ⟨hl, hr⟩ : Both (brX P n G GL kf ops i (dpX P n G GL kf ops Q p) env H) (dpX P n G GL kf ops Q q env H) := h
      have hq := (ihq (fuel + 1) listed (acc ++ [i]) env H hp.2 hr).2 (by simp)
      have key : ∀ C : Ctx, C.G = G → ∀ R a w, MS C R H w → FS C.D n R env a → Region.ready .any ops listed ≠ [] ∧
          ∀ j ∈ Region.ready .any ops listed, j ∈ acc ∨ wpOp P ops (Post C n (QN Q)) j (fun a' w' => DS C kf R H w' ∧ wpAnyH P .any ops (Post C n (QN Q)) (DS C kf R H) fuel (listed.setIfInBounds j true) a' w') a w := by
        intro C hC R a w hm hfs
        obtain ⟨f, hf, hne, hall⟩ := hq C hC R a w hm hfs
        obtain rfl := hf fuel rfl
        refine ⟨hne, fun j hj => ?_⟩
        rcases hall j hj with hj' | hj'
        · rcases List.mem_append.1 hj' with hj' | hj'
          · exact .inl hj'
          · rw [List.mem_singleton] at hj'
            subst hj'
            exact .inr (br_ok hGL (fun env H k => (ihp f _ [] env H hp.1 k).1 rfl) hC hl hm hfs)
        · exact .inr hj'
      refine ⟨fun ha C hC R a w hm hfs => ?_, fun _ C hC R a w hm hfs => ⟨fuel, fun k hk => by omega, key C hC R a w hm hfs⟩⟩
      obtain ⟨hne, hall⟩ := key C hC R a w hm hfs
      refine wpAnyH_all rfl hne fun j hj => ?_
      rcases hall j hj with hj' | hj'
      · rw [ha] at hj'; cases hj'
      · exact hj'
  | nil =>
    intro fuel listed acc env H hp h
    simp only [planB, Bool.and_eq_true, Bool.not_eq_true', List.isEmpty_eq_false_iff, decide_eq_true_eq] at hp
    obtain ⟨h1, h2⟩ := hp
    refine ⟨fun ha => absurd ha h1, fun _ C hC R a w hm hfs => ⟨fuel - 1, fun k hk => by omega, by rw [h2]; exact h1, fun i hi => .inl (by rw [h2] at hi; exact hi)⟩⟩
/-- A region that draws, by a plan; what holds behind it, whatever the order. -/
theorem dw_p {X : Type} {C : Ctx} {id : Nat} {QQ : AExit → Env → Heap → Prop} (hm : P.follows .mixedOrders = true) (hC : C.G = G) (hGL : GloAll G GL) (kf : Bool) (I : X → Env) (J : X → Heap) (plan : DPlan)
    (hB : (Region.noSelect ops && planB ops plan ops.size (Array.replicate ops.size false) []) = true) (h : dpX P n G GL kf ops (Fie I J) plan env H) (k : ∀ x, QQ .normal (I x) (J x)) : Dw P C n id ops env H QQ := by
  simp only [Bool.and_eq_true] at hB
  have hd := (dp_ok hGL hB.1 plan _ _ [] env H hB.2 h).1 rfl
  refine ⟨fun R a w hms hfs => ?_⟩
  refine wp_mono (wp_region_held (S := DS C kf R H) hm (hd C hC R a _ (hms.drawn _) hfs)) ?_
  rintro ex a w ⟨x, e, h, R, ⟨rfl, ⟨x0, hs, hj⟩⟩, hr, hm', hf'⟩
  subst hj
  exact ⟨.normal, I x0, J x0, R, k x0, hr, hm', hf'.sub hs⟩
end
end Go.Proofs.YtglapkioagenaaaGreatDoor
