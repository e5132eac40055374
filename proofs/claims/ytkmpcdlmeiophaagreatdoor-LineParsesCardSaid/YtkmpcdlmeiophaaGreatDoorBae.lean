/- Parts of the proof of lineParses_card: Telb, Plc, Uri, Uf, Ug, Hda, Exh, Shc, Def, Deg, Deh, Syn, Exd. -/
import Derived.Stop.Asserts
import Derived.Lib.Join
import Derived.Defers
import Derived.Recover
import Derived.Laws.LoneSync
import Derived.OrdersHeld
import Derived.Test.YtkmpcdlmeiophaaGreatDoorBad
set_option linter.unusedVariables false
set_option linter.unusedSimpArgs false
namespace Go.Proofs.YtkmpcdlmeiophaaGreatDoor
open Go Go.Extern
set_option maxRecDepth 20000
set_option maxHeartbeats 4000000
set_option linter.unusedSimpArgs false
set_option linter.unusedVariables false
attribute [local irreducible] AWp AOps byteAt SrcOK OrOk GloAll FnSpec
theorem rls (v x : Value) : ReflectliteValue.set #[v, x] = (do
    let (some (dst, a, fl), some (src, b, _)) := (← ReflectliteValue.parts v, ← ReflectliteValue.parts x)
      | unsupported (.noEntry "extern/(internal/reflectlite.Value).Set.zeroValue")
    if fl / ReflectliteValue.flagAddr % 2 == 0 then unsupported (.noEntry "extern/(internal/reflectlite.Value).Set.unaddressable")
    let val ← loadVar src b
    if ← Rtype.directlyAssignable dst src then storeVar dst a val
    else if ← Rtype.implements dst src then
      if (← Rtype.kind src) == 20 then
        match val with
        | .nilIface => unsupported (.noEntry "extern/reflectlite: a nil value of one interface type handed on as a value of another")
        | _ => storeVar dst a val
      else storeVar dst a (.iface src val)
    else panicString ("reflectlite.Set: value of type " ++ (← Rtype.spelt src) ++ " is not assignable to type " ++ (← Rtype.spelt dst))
    pure (.tuple #[])) := rfl
theorem direct_errno (w : World) : (Rtype.directlyAssignable 25 25).run Tryz.prog w = .ok true w := by kernel_rfl
theorem aggv_val {R : Seal} {x y : Value} {k : IntKind} {n : Int} {v : Value} (hx : vAgg x = false) (hy : vAgg y = false) (h : Rel R (.agg [.raw x, .raw y, .int k n]) v) : v = .agg #[x, y, .int k n] := by
  obtain ⟨h1, h2⟩ := h
  cases v <;> simp only [AVal.isAgg, vAgg, Bool.true_eq_false] at h2
  rename_i cs
  obtain ⟨a, t, e, ha, a', t', e', ha', a'', t'', e'', ha'', rfl⟩ := h1
  simp only [Value.cells] at e
  have key : ∀ {z : Value}, vAgg z = false → z.cells.toList = [z] := by intro z hz; cases z <;> first | rfl | (simp [vAgg] at hz)
  have ha : [a] = x.cells.toList := ha
  have ha' : [a'] = y.cells.toList := ha'
  rw [key hx] at ha
  rw [key hy] at ha'
  have ha'' : [a''] = [Value.int k n] := ha''
  simp only [List.cons.injEq, and_true] at ha ha' ha''
  subst ha ha' ha''
  have : cs = #[a, a', .int k n] := by cases cs; simp_all
  rw [this]
theorem set_errno {G : Glo} (bl : Nat) (e old : Int) : FnSpec Tryz.prog G 80 [.agg [.raw (hdl 25), .raw (.pointer (some ⟨bl, 0, none⟩)), .int .u64 386], .agg [.raw (hdl 25), .rop [.int .i64 e] 0, .int .u64 130]]
    [.cells bl (some 25) [.int .i64 old]] (fun r H => r = .ret (.tuple []) ∧ H = [.cells bl (some 25) [.int .i64 e]]) := by
  refine fnspec_extern Tryz.func80 (by kernel_rfl) (by kernel_rfl) (by kernel_rfl) (e := ReflectliteValue.set) (by kernel_rfl) ?_
  intro C R args w hm ha
  obtain ⟨v, u, rfl, hv, hu⟩ := two_args ha
  obtain rfl := aggv_val rfl rfl hv
  obtain ⟨b, o, rfl, hs⟩ := agg3_val rfl hu
  obtain ⟨u, hu, hr⟩ := hs.cell hm.sealed (i := 0) rfl
  rw [Nat.add_zero] at hu
  have hr : [u] = [Value.int .i64 e] := hr
  simp only [List.cons.injEq, and_true] at hr
  subst hr
  obtain ⟨Cs, el, fz, hb, hl, hfz⟩ := own_cells hm (i := 0) rfl
  have hlen := relL_length hl
  simp only [Array.length_toList, List.length_cons, List.length_nil] at hlen
  obtain ⟨w', hst, ho⟩ := storeCells_run (P := Tryz.prog) [Value.int .i64 e] 0 0 Cs w hb (by simp only [List.length_cons, List.length_nil]; omega) hfz.1 (by intro v hv; simp only [List.mem_singleton] at hv; subst hv; exact ⟨rfl, fun _ => by simp⟩)
  refine ⟨.tuple #[], w', R, ?_, Seal.le_refl R, ⟨⟨#[], rfl, rfl⟩, rfl⟩, ?_⟩
  · rw [rls]
    simp only [Sem.run_bind, parts_var, parts_errno, Result.andThen]
    simp [ReflectliteValue.flagAddr, loadVar, isAgg, underlying, Tryz.underlying25, hu, Result.andThen, direct_errno, storeVar, Value.cells]
    rw [hst]
  · have hd : Cs.toList.drop (0 + 0 + [Value.int .i64 e].length) = [] := List.drop_eq_nil_of_le (by simp; omega)
    refine hm.write (i := 0) rfl rfl ho rfl ⟨_, _, _, ho.at_, ?_, ?_⟩
    · rw [hd]; exact ⟨_, _, rfl, rfl, rfl⟩
    · rw [hd]
      have : Cs.size = 1 := by omega
      rw [this] at hfz
      exact hfz
/-! ### Methods -/
section
variable (t : TypeId)
theorem m_kind : ∀ R v, Rel R (.agg [.raw (hdl t)]) v → ∀ w, ∃ u, (Go.method (Tryz.prog.types.size + Made.depth) 146 v "Kind").run Tryz.prog w = .ok (131, u) w ∧ Rel R (.raw (hdl t)) u := by
  intro R v h w
  obtain rfl := agg1_val rfl h
  exact ⟨hdl t, by kernel_rfl, rel_raw.2 rfl⟩
theorem m_elem : ∀ R v, Rel R (.agg [.raw (hdl t)]) v → ∀ w, ∃ u, (Go.method (Tryz.prog.types.size + Made.depth) 146 v "Elem").run Tryz.prog w = .ok (144, u) w ∧ Rel R (.agg [.raw (hdl t)]) u := by
  intro R v h w
  obtain rfl := agg1_val rfl h
  exact ⟨.agg #[hdl t], by kernel_rfl, h⟩
theorem m_impl : ∀ R v, Rel R (.agg [.raw (hdl t)]) v → ∀ w, ∃ u, (Go.method (Tryz.prog.types.size + Made.depth) 146 v "Implements").run Tryz.prog w = .ok (145, u) w ∧ Rel R (.agg [.raw (hdl t)]) u := by
  intro R v h w
  obtain rfl := agg1_val rfl h
  exact ⟨.agg #[hdl t], by kernel_rfl, h⟩
theorem m_asgn : ∀ R v, Rel R (.agg [.raw (hdl t)]) v → ∀ w, ∃ u, (Go.method (Tryz.prog.types.size + Made.depth) 146 v "AssignableTo").run Tryz.prog w = .ok (142, u) w ∧ Rel R (.agg [.raw (hdl t)]) u := by
  intro R v h w
  obtain rfl := agg1_val rfl h
  exact ⟨.agg #[hdl t], by kernel_rfl, h⟩
end
theorem m_unwrap (a : AVal) : ∀ R v, Rel R a v → ∀ w, ∃ u, (Go.method (Tryz.prog.types.size + Made.depth) 53 v "Unwrap").run Tryz.prog w = .ok (136, u) w ∧ Rel R a u := by
  intro R v h w
  exact ⟨v, by kernel_rfl, h⟩
theorem i_at_As : ∀ v w, (Instr.typeAssert (.iface 53 v) 31 151 true).run Tryz.prog w = .ok (.tuple #[.nilIface, .bool false]) w := fun v w => run_typeAssert_lacksB (z := .nilIface) Tryz.underlying151 (by kernel_rfl) (by kernel_rfl) v _ w
theorem i_at_Unwrap : ∀ v w, (Instr.typeAssert (.iface 53 v) 31 78 true).run Tryz.prog w = .ok (.tuple #[.iface 53 v, .bool true]) w := by intro v w; kernel_rfl
theorem i_errno_Unwrap : ∀ v w, (Instr.typeAssert (.iface 25 v) 31 78 true).run Tryz.prog w = .ok (.tuple #[.nilIface, .bool false]) w := fun v w => run_typeAssert_lacksB (z := .nilIface) Tryz.underlying78 (by kernel_rfl) (by kernel_rfl) v _ w
/-! ### The walks -/
abbrev errA (e : Int) : AVal := .iface 25 (.int .i64 e)
abbrev atA (e p : Int) : AVal := .iface 53 (.rop [.int .i64 e, .int .i64 p] 0)
noncomputable abbrev tgtV (bl : Nat) : AVal := .agg [.raw (hdl 95), .rop [.raw (.pointer (some ⟨bl, 0, none⟩))] 0, .int .u64 150]
abbrev tgtA (bl : Nat) : AVal := .iface 95 (.raw (.pointer (some ⟨bl, 0, none⟩)))
theorem At_Unwrap {G : Glo} (e p : Int) : FnIs Tryz.prog G 136 [.rop [.int .i64 e, .int .i64 p] 0] (errA e) := by
  have hGL : GloAll G [] := gloAll_nil
  refine fn_x Tryz.func136 Tryz.call136 rfl rfl rfl rfl hGL ?_
  intro C hC
  repeat' (first
    | (conv => whnf); first
      | refine .w ?_ | refine .v ?_ | apply sc_true | apply sc_false
      | (first | apply sc_lt | apply sc_nlt | apply sc_eq | apply sc_neq | apply sc_nil | apply sc_nnil | apply sc_seq | apply sc_nseq) <;> (intro hb; try exact dd hb)
      | apply sc_not | apply sc_or | (apply sc_i <;> intro hb)
      | (apply bx_i; intro hbd) | (apply gt_i; assumption; exact rfl)
      | (apply cx_is; first | fail) | (apply cx_do (i := 0) rfl; first | fail)
      | (apply ab_i; intro bl) | (apply as_i; intro va vk vc hva) | (apply av_i; intro v) | (apply ac_i; intro bl cap hcap)
      | apply bo_l | (apply nx_i <;> intro hnx) | (apply Ia.hit; assumption) | (apply Ia.miss; assumption)
      | (apply rt_is; exact rfl) | exact rt_w | (apply iv; assumption)
      | apply dw_q mixed hC hGL (by kernel_rfl) | (apply cq; assumption; (first | fail); exact rfl))
  all_goals (try conv => whnf)
theorem errors_as_errno {G : Glo} (bl : Nat) (e old : Int) : FnSpec Tryz.prog G 70 [errA e, tgtA bl, tgtV bl, rty 25] [.cells bl (some 25) [.int .i64 old]] (fun r H => r = .ret (.bool true) ∧ H = [.cells bl (some 25) [.int .i64 e]]) := by
  have hGL : GloAll G [] := gloAll_nil
  refine fn_x Tryz.func70 Tryz.call70 rfl rfl rfl rfl hGL ?_
  intro C hC
  have h1 := typeOf_errno (G := G) e
  have h2 := elemV_ptr (G := G) bl
  have h3 := valueOf_errno (G := G) e
  have h4 := set_errno (G := G) bl e old
  have h5 := assignable_errno (G := G)
  have m1 := m_asgn 25
  repeat' (first
    | (conv => whnf); first
      | refine .w ?_ | refine .v ?_ | apply sc_true | apply sc_false
      | (first | apply sc_lt | apply sc_nlt | apply sc_eq | apply sc_neq | apply sc_nil | apply sc_nnil | apply sc_seq | apply sc_nseq) <;> (intro hb; try exact dd hb)
      | apply sc_not | apply sc_or | (apply sc_i <;> intro hb)
      | (apply bx_i; intro hbd) | (apply gt_i; assumption; exact rfl)
      | (apply cx_is; first | fail) | (apply cx_do (i := 0) rfl; first | fail)
      | (apply ab_i; intro bl) | (apply as_i; intro va vk vc hva) | (apply av_i; intro v) | (apply ac_i; intro bl cap hcap)
      | apply bo_l | (apply nx_i <;> intro hnx) | (apply Ia.hit; assumption) | (apply Ia.miss; assumption)
      | (apply rt_is; exact rfl) | exact rt_w | (apply iv; assumption)
      | apply dw_q mixed hC hGL (by kernel_rfl) | (apply cq; assumption; (first | fail); exact rfl))
  all_goals (try conv => whnf)
  refine rds hC hGL 1 ?_
  repeat' (first
    | (conv => whnf); first
      | refine .w ?_ | refine .v ?_ | apply sc_true | apply sc_false
      | (first | apply sc_lt | apply sc_nlt | apply sc_eq | apply sc_neq | apply sc_nil | apply sc_nnil | apply sc_seq | apply sc_nseq) <;> (intro hb; try exact dd hb)
      | apply sc_not | apply sc_or | (apply sc_i <;> intro hb)
      | (apply bx_i; intro hbd) | (apply gt_i; assumption; exact rfl)
      | (apply cx_is; first | exact h1 | exact h2 | exact h3 | exact h4 | exact h5) | (apply cx_do (i := 0) rfl; first | exact h1 | exact h2 | exact h3 | exact h4 | exact h5)
      | (apply ab_i; intro bl) | (apply as_i; intro va vk vc hva) | (apply av_i; intro v) | (apply ac_i; intro bl cap hcap)
      | apply bo_l | (apply nx_i <;> intro hnx) | (apply Ia.hit; assumption) | (apply Ia.miss; assumption)
      | (apply rt_is; exact rfl) | exact rt_w | (apply iv; assumption)
      | apply dw_q mixed hC hGL (by kernel_rfl) | (apply cq; assumption; (first | exact h1 | exact h2 | exact h3 | exact h4 | exact h5); exact rfl))
  all_goals (try conv => whnf)
theorem errors_as_at {G : Glo} (bl : Nat) (e p old : Int) : FnSpec Tryz.prog G 70 [atA e p, tgtA bl, tgtV bl, rty 25] [.cells bl (some 25) [.int .i64 old]] (fun r H => r = .ret (.bool true) ∧ H = [.cells bl (some 25) [.int .i64 e]]) := by
  have hGL : GloAll G [] := gloAll_nil
  refine fn_x Tryz.func70 Tryz.call70 rfl rfl rfl rfl hGL ?_
  intro C hC
  have h1 := typeOf_errno (G := G) e
  have h2 := elemV_ptr (G := G) bl
  have h3 := valueOf_errno (G := G) e
  have h4 := set_errno (G := G) bl e old
  have h5 := assignable_errno (G := G)
  have h6 := assignable_at (G := G)
  have h7 := typeOf_at (G := G) (.rop [.int .i64 e, .int .i64 p] 0)
  have h8 := At_Unwrap (G := G) e p
  have m1 := m_asgn 25
  have m2 := m_asgn 53
  have m3 := m_unwrap (.rop [.int .i64 e, .int .i64 p] 0)
  have i1 := i_at_As
  have i2 := i_at_Unwrap
  repeat' (first
    | (conv => whnf); first
      | refine .w ?_ | refine .v ?_ | apply sc_true | apply sc_false
      | (first | apply sc_lt | apply sc_nlt | apply sc_eq | apply sc_neq | apply sc_nil | apply sc_nnil | apply sc_seq | apply sc_nseq) <;> (intro hb; try exact dd hb)
      | apply sc_not | apply sc_or | (apply sc_i <;> intro hb)
      | (apply bx_i; intro hbd) | (apply gt_i; assumption; exact rfl)
      | (apply cx_is; first | fail) | (apply cx_do (i := 0) rfl; first | fail)
      | (apply ab_i; intro bl) | (apply as_i; intro va vk vc hva) | (apply av_i; intro v) | (apply ac_i; intro bl cap hcap)
      | apply bo_l | (apply nx_i <;> intro hnx) | (apply Ia.hit; assumption) | (apply Ia.miss; assumption)
      | (apply rt_is; exact rfl) | exact rt_w | (apply iv; assumption)
      | apply dw_q mixed hC hGL (by kernel_rfl) | (apply cq; assumption; (first | fail); exact rfl))
  all_goals (try conv => whnf)
  refine rds hC hGL 2 ?_
  repeat' (first
    | (conv => whnf); first
      | refine .w ?_ | refine .v ?_ | apply sc_true | apply sc_false
      | (first | apply sc_lt | apply sc_nlt | apply sc_eq | apply sc_neq | apply sc_nil | apply sc_nnil | apply sc_seq | apply sc_nseq) <;> (intro hb; try exact dd hb)
      | apply sc_not | apply sc_or | (apply sc_i <;> intro hb)
      | (apply bx_i; intro hbd) | (apply gt_i; assumption; exact rfl)
      | (apply cx_is; first | exact h1 | exact h2 | exact h3 | exact h4 | exact h5 | exact h6 | exact h7 | exact h8) | (apply cx_do (i := 0) rfl; first | exact h1 | exact h2 | exact h3 | exact h4 | exact h5 | exact h6 | exact h7 | exact h8)
      | (apply ab_i; intro bl) | (apply as_i; intro va vk vc hva) | (apply av_i; intro v) | (apply ac_i; intro bl cap hcap)
      | apply bo_l | (apply nx_i <;> intro hnx) | (apply Ia.hit; assumption) | (apply Ia.miss; assumption)
      | (apply rt_is; exact rfl) | exact rt_w | (apply iv; assumption)
      | apply dw_q mixed hC hGL (by kernel_rfl) | (apply cq; assumption; (first | exact h1 | exact h2 | exact h3 | exact h4 | exact h5 | exact h6 | exact h7 | exact h8); exact rfl))
  all_goals (try conv => whnf)
/-- What stands in errors.errorType. -/
noncomputable abbrev errTy : List (Nat × List AVal) := [(1, [rty 31])]
theorem errors_As {G : Glo} (hGL : GloAll G errTy) (bl : Nat) (e : Int) {ty : TypeId} {a : AVal} (hs : FnSpec Tryz.prog G 70 [.iface ty (unown a), tgtA bl, tgtV bl, rty 25] [.cells bl (some 25) [.int .i64 0]] (fun r H => r = .ret (.bool true) ∧ H = [.cells bl (some 25) [.int .i64 e]])) :
    FnSpec Tryz.prog G 54 [.iface ty a, tgtA bl] [.cells bl (some 25) [.int .i64 0]] (fun r H => r = .ret (.bool true) ∧ H = [.cells bl (some 25) [.int .i64 e]]) := by
  refine fn_x Tryz.func54 Tryz.call54 rfl rfl rfl rfl hGL ?_
  intro C hC
  have h1 := valueOf_ptr (G := G) bl
  have h2 := type_ptr (G := G) (.raw (.pointer (some ⟨bl, 0, none⟩)))
  have h3 := isNil_ptr (G := G) bl
  have h4 := kind_ptr (G := G)
  have h5 := elem_ptr (G := G)
  have h6 := kind_errno (G := G)
  have h7 := implements_errno (G := G)
  have m1 := m_kind 95
  have m2 := m_elem 95
  have m3 := m_kind 25
  have m4 := m_impl 25
  repeat' (first
    | (conv => whnf); first
      | refine .w ?_ | refine .v ?_ | apply sc_true | apply sc_false
      | (first | apply sc_lt | apply sc_nlt | apply sc_eq | apply sc_neq | apply sc_nil | apply sc_nnil | apply sc_seq | apply sc_nseq) <;> (intro hb; try exact dd hb)
      | apply sc_not | apply sc_or | (apply sc_i <;> intro hb)
      | (apply bx_i; intro hbd) | (apply gt_i; assumption; exact rfl)
      | (apply cx_is; first | exact h1 | exact h2 | exact h3 | exact h4 | exact h5 | exact h6 | exact h7 | exact hs) | (apply cx_do (i := 0) rfl; first | exact h1 | exact h2 | exact h3 | exact h4 | exact h5 | exact h6 | exact h7 | exact hs)
      | (apply ab_i; intro bl) | (apply as_i; intro va vk vc hva) | (apply av_i; intro v) | (apply ac_i; intro bl cap hcap)
      | apply bo_l | (apply nx_i <;> intro hnx) | (apply Ia.hit; assumption) | (apply Ia.miss; assumption)
      | (apply rt_is; exact rfl) | exact rt_w | (apply iv; assumption)
      | apply dw_q mixed hC hGL (by kernel_rfl) | (apply cq; assumption; (first | exact h1 | exact h2 | exact h3 | exact h4 | exact h5 | exact h6 | exact h7 | exact hs); exact rfl))
  all_goals (try conv => whnf)
theorem api_Tell_nil {G : Glo} : FnIs Tryz.prog G 41 [.raw .nilIface] (.int .i64 0) := by
  have hGL : GloAll G [] := gloAll_nil
  refine fn_x Tryz.func41 Tryz.call41 rfl rfl rfl rfl hGL ?_
  intro C hC
  repeat' (first
    | (conv => whnf); first
      | refine .w ?_ | refine .v ?_ | apply sc_true | apply sc_false
      | (first | apply sc_lt | apply sc_nlt | apply sc_eq | apply sc_neq | apply sc_nil | apply sc_nnil | apply sc_seq | apply sc_nseq) <;> (intro hb; try exact dd hb)
      | apply sc_not | apply sc_or | (apply sc_i <;> intro hb)
      | (apply bx_i; intro hbd) | (apply gt_i; assumption; exact rfl)
      | (apply cx_is; first | fail) | (apply cx_do (i := 0) rfl; first | fail)
      | (apply ab_i; intro bl) | (apply as_i; intro va vk vc hva) | (apply av_i; intro v) | (apply ac_i; intro bl cap hcap)
      | apply bo_l | (apply nx_i <;> intro hnx) | (apply Ia.hit; assumption) | (apply Ia.miss; assumption)
      | (apply rt_is; exact rfl) | exact rt_w | (apply iv; assumption)
      | apply dw_q mixed hC hGL (by kernel_rfl) | (apply cq; assumption; (first | fail); exact rfl))
  all_goals (try conv => whnf)
theorem api_Tell_errno {G : Glo} (hGL : GloAll G errTy) (e : Int) : FnIs Tryz.prog G 41 [errA e] (.int .i64 e) := by
  refine fn_x Tryz.func41 Tryz.call41 rfl rfl rfl rfl hGL ?_
  intro C hC
  repeat' (first
    | (conv => whnf); first
      | refine .w ?_ | refine .v ?_ | apply sc_true | apply sc_false
      | (first | apply sc_lt | apply sc_nlt | apply sc_eq | apply sc_neq | apply sc_nil | apply sc_nnil | apply sc_seq | apply sc_nseq) <;> (intro hb; try exact dd hb)
      | apply sc_not | apply sc_or | (apply sc_i <;> intro hb)
      | (apply bx_i; intro hbd) | (apply gt_i; assumption; exact rfl)
      | (apply cx_is; first | exact errors_As hGL _ e (errors_as_errno _ e 0)) | (apply cx_do (i := 0) rfl; first | exact errors_As hGL _ e (errors_as_errno _ e 0))
      | (apply ab_i; intro bl) | (apply as_i; intro va vk vc hva) | (apply av_i; intro v) | (apply ac_i; intro bl cap hcap)
      | apply bo_l | (apply nx_i <;> intro hnx) | (apply Ia.hit; assumption) | (apply Ia.miss; assumption)
      | (apply rt_is; exact rfl) | exact rt_w | (apply iv; assumption)
      | apply dw_q mixed hC hGL (by kernel_rfl) | (apply cq; assumption; (first | exact errors_As hGL _ e (errors_as_errno _ e 0)); exact rfl))
  all_goals (try conv => whnf)
theorem api_Tell_at {G : Glo} (hGL : GloAll G errTy) (e p : Int) : FnIs Tryz.prog G 41 [atA e p] (.int .i64 e) := by
  refine fn_x Tryz.func41 Tryz.call41 rfl rfl rfl rfl hGL ?_
  intro C hC
  repeat' (first
    | (conv => whnf); first
      | refine .w ?_ | refine .v ?_ | apply sc_true | apply sc_false
      | (first | apply sc_lt | apply sc_nlt | apply sc_eq | apply sc_neq | apply sc_nil | apply sc_nnil | apply sc_seq | apply sc_nseq) <;> (intro hb; try exact dd hb)
      | apply sc_not | apply sc_or | (apply sc_i <;> intro hb)
      | (apply bx_i; intro hbd) | (apply gt_i; assumption; exact rfl)
      | (apply cx_is; first | exact errors_As hGL _ e (errors_as_at _ e p 0)) | (apply cx_do (i := 0) rfl; first | exact errors_As hGL _ e (errors_as_at _ e p 0))
      | (apply ab_i; intro bl) | (apply as_i; intro va vk vc hva) | (apply av_i; intro v) | (apply ac_i; intro bl cap hcap)
      | apply bo_l | (apply nx_i <;> intro hnx) | (apply Ia.hit; assumption) | (apply Ia.miss; assumption)
      | (apply rt_is; exact rfl) | exact rt_w | (apply iv; assumption)
      | apply dw_q mixed hC hGL (by kernel_rfl) | (apply cq; assumption; (first | exact errors_As hGL _ e (errors_as_at _ e p 0)); exact rfl))
  all_goals (try conv => whnf)
/-- An error, and what it is taken for. -/
inductive Err
  | none
  | errno (e : Int)
  | at (e p : Int)
def Err.A : Err → AVal
  | .none => .raw .nilIface
  | .errno e => errA e
  | .at e p => atA e p
def Err.e : Err → Int
  | .none => 0
  | .errno e => e
  | .at e _ => e
def Err.p : Err → Int
  | .none => -1
  | .errno _ => -1
  | .at _ p => p
theorem plain_Place_nil {G : Glo} : FnIs Tryz.prog G 29 [.raw .nilIface] (.tuple [.int .i64 0, .int .i64 (-1)]) := by
  have hGL : GloAll G [] := gloAll_nil
  refine fn_x Tryz.func29 Tryz.call29 rfl rfl rfl rfl hGL ?_
  intro C hC
  repeat' (first
    | (conv => whnf); first
      | refine .w ?_ | refine .v ?_ | apply sc_true | apply sc_false
      | (first | apply sc_lt | apply sc_nlt | apply sc_eq | apply sc_neq | apply sc_nil | apply sc_nnil | apply sc_seq | apply sc_nseq) <;> (intro hb; try exact dd hb)
      | apply sc_not | apply sc_or | (apply sc_i <;> intro hb)
      | (apply bx_i; intro hbd) | (apply gt_i; assumption; exact rfl)
      | (apply cx_is; first | exact api_Tell_nil) | (apply cx_do (i := 0) rfl; first | exact api_Tell_nil)
      | (apply ab_i; intro bl) | (apply as_i; intro va vk vc hva) | (apply av_i; intro v) | (apply ac_i; intro bl cap hcap)
      | apply bo_l | (apply nx_i <;> intro hnx) | (apply Ia.hit; assumption) | (apply Ia.miss; assumption)
      | (apply rt_is; exact rfl) | exact rt_w | (apply iv; assumption)
      | apply dw_q mixed hC hGL (by kernel_rfl) | (apply cq; assumption; (first | exact api_Tell_nil); exact rfl))
  all_goals (try conv => whnf)
  refine rds hC hGL 1 ?_
  repeat' (first
    | (conv => whnf); first
      | refine .w ?_ | refine .v ?_ | apply sc_true | apply sc_false
      | (first | apply sc_lt | apply sc_nlt | apply sc_eq | apply sc_neq | apply sc_nil | apply sc_nnil | apply sc_seq | apply sc_nseq) <;> (intro hb; try exact dd hb)
      | apply sc_not | apply sc_or | (apply sc_i <;> intro hb)
      | (apply bx_i; intro hbd) | (apply gt_i; assumption; exact rfl)
      | (apply cx_is; first | fail) | (apply cx_do (i := 0) rfl; first | fail)
      | (apply ab_i; intro bl) | (apply as_i; intro va vk vc hva) | (apply av_i; intro v) | (apply ac_i; intro bl cap hcap)
      | apply bo_l | (apply nx_i <;> intro hnx) | (apply Ia.hit; assumption) | (apply Ia.miss; assumption)
      | (apply rt_is; exact rfl) | exact rt_w | (apply iv; assumption)
      | apply dw_q mixed hC hGL (by kernel_rfl) | (apply cq; assumption; (first | fail); exact rfl))
  all_goals (try conv => whnf)
theorem plain_Place_errno {G : Glo} (hGL : GloAll G errTy) (e : Int) : FnIs Tryz.prog G 29 [errA e] (.tuple [.int .i64 e, .int .i64 (-1)]) := by
  refine fn_x Tryz.func29 Tryz.call29 rfl rfl rfl rfl hGL ?_
  intro C hC
  have i1 := i_errno_Unwrap
  repeat' (first
    | (conv => whnf); first
      | refine .w ?_ | refine .v ?_ | apply sc_true | apply sc_false
      | (first | apply sc_lt | apply sc_nlt | apply sc_eq | apply sc_neq | apply sc_nil | apply sc_nnil | apply sc_seq | apply sc_nseq) <;> (intro hb; try exact dd hb)
      | apply sc_not | apply sc_or | (apply sc_i <;> intro hb)
      | (apply bx_i; intro hbd) | (apply gt_i; assumption; exact rfl)
      | (apply cx_is; first | exact api_Tell_errno hGL e) | (apply cx_do (i := 0) rfl; first | exact api_Tell_errno hGL e)
      | (apply ab_i; intro bl) | (apply as_i; intro va vk vc hva) | (apply av_i; intro v) | (apply ac_i; intro bl cap hcap)
      | apply bo_l | (apply nx_i <;> intro hnx) | (apply Ia.hit; assumption) | (apply Ia.miss; assumption)
      | (apply rt_is; exact rfl) | exact rt_w | (apply iv; assumption)
      | apply dw_q mixed hC hGL (by kernel_rfl) | (apply cq; assumption; (first | exact api_Tell_errno hGL e); exact rfl))
  all_goals (try conv => whnf)
  refine rds hC hGL 1 ?_
  repeat' (first
    | (conv => whnf); first
      | refine .w ?_ | refine .v ?_ | apply sc_true | apply sc_false
      | (first | apply sc_lt | apply sc_nlt | apply sc_eq | apply sc_neq | apply sc_nil | apply sc_nnil | apply sc_seq | apply sc_nseq) <;> (intro hb; try exact dd hb)
      | apply sc_not | apply sc_or | (apply sc_i <;> intro hb)
      | (apply bx_i; intro hbd) | (apply gt_i; assumption; exact rfl)
      | (apply cx_is; first | fail) | (apply cx_do (i := 0) rfl; first | fail)
      | (apply ab_i; intro bl) | (apply as_i; intro va vk vc hva) | (apply av_i; intro v) | (apply ac_i; intro bl cap hcap)
      | apply bo_l | (apply nx_i <;> intro hnx) | (apply Ia.hit; assumption) | (apply Ia.miss; assumption)
      | (apply rt_is; exact rfl) | exact rt_w | (apply iv; assumption)
      | apply dw_q mixed hC hGL (by kernel_rfl) | (apply cq; assumption; (first | fail); exact rfl))
  all_goals (try conv => whnf)
theorem plain_Place_at {G : Glo} (hGL : GloAll G errTy) (e p : Int) : FnIs Tryz.prog G 29 [atA e p] (.tuple [.int .i64 e, .int .i64 p]) := by
  refine fn_x Tryz.func29 Tryz.call29 rfl rfl rfl rfl hGL ?_
  intro C hC
  repeat' (first
    | (conv => whnf); first
      | refine .w ?_ | refine .v ?_ | apply sc_true | apply sc_false
      | (first | apply sc_lt | apply sc_nlt | apply sc_eq | apply sc_neq | apply sc_nil | apply sc_nnil | apply sc_seq | apply sc_nseq) <;> (intro hb; try exact dd hb)
      | apply sc_not | apply sc_or | (apply sc_i <;> intro hb)
      | (apply bx_i; intro hbd) | (apply gt_i; assumption; exact rfl)
      | (apply cx_is; first | exact api_Tell_at hGL e p) | (apply cx_do (i := 0) rfl; first | exact api_Tell_at hGL e p)
      | (apply ab_i; intro bl) | (apply as_i; intro va vk vc hva) | (apply av_i; intro v) | (apply ac_i; intro bl cap hcap)
      | apply bo_l | (apply nx_i <;> intro hnx) | (apply Ia.hit; assumption) | (apply Ia.miss; assumption)
      | (apply rt_is; exact rfl) | exact rt_w | (apply iv; assumption)
      | apply dw_q mixed hC hGL (by kernel_rfl) | (apply cq; assumption; (first | exact api_Tell_at hGL e p); exact rfl))
  all_goals (try conv => whnf)
  refine rds hC hGL 1 ?_
  repeat' (first
    | (conv => whnf); first
      | refine .w ?_ | refine .v ?_ | apply sc_true | apply sc_false
      | (first | apply sc_lt | apply sc_nlt | apply sc_eq | apply sc_neq | apply sc_nil | apply sc_nnil | apply sc_seq | apply sc_nseq) <;> (intro hb; try exact dd hb)
      | apply sc_not | apply sc_or | (apply sc_i <;> intro hb)
      | (apply bx_i; intro hbd) | (apply gt_i; assumption; exact rfl)
      | (apply cx_is; first | fail) | (apply cx_do (i := 0) rfl; first | fail)
      | (apply ab_i; intro bl) | (apply as_i; intro va vk vc hva) | (apply av_i; intro v) | (apply ac_i; intro bl cap hcap)
      | apply bo_l | (apply nx_i <;> intro hnx) | (apply Ia.hit; assumption) | (apply Ia.miss; assumption)
      | (apply rt_is; exact rfl) | exact rt_w | (apply iv; assumption)
      | apply dw_q mixed hC hGL (by kernel_rfl) | (apply cq; assumption; (first | fail); exact rfl))
  all_goals (try conv => whnf)
theorem plain_Place {G : Glo} (hGL : GloAll G errTy) (x : Err) : FnIs Tryz.prog G 29 [x.A] (.tuple [.int .i64 x.e, .int .i64 x.p]) := by
  cases x with
  | none => exact plain_Place_nil
  | errno e => exact plain_Place_errno hGL e
  | «at» e p => exact plain_Place_at hGL e p
theorem law_placed {G : Glo} (hGL : GloAll G errTy) (x : Err) (e p : Int) : FnIs Tryz.prog G 6 [x.A, .agg [.int .i64 e, .int .i64 p]] (.bool (eqB x.e e && eqB x.p p)) := by
  have hP := plain_Place hGL x
  cases x
  all_goals (
    refine fn_x Tryz.func6 Tryz.call6 rfl rfl rfl rfl hGL ?_
    intro C hC
    repeat' (first
      | (conv => whnf); first
        | refine .w ?_ | refine .v ?_ | apply sc_true | apply sc_false
        | (first | apply sc_lt | apply sc_nlt | apply sc_eq | apply sc_neq | apply sc_nil | apply sc_nnil | apply sc_seq | apply sc_nseq) <;> (intro hb; try exact dd hb)
        | apply sc_not | apply sc_or | (apply sc_i <;> intro hb)
        | (apply bx_i; intro hbd) | (apply gt_i; assumption; exact rfl)
        | (apply cx_is; first | exact hP) | (apply cx_do (i := 0) rfl; first | exact hP)
        | (apply ab_i; intro bl) | (apply as_i; intro va vk vc hva) | (apply av_i; intro v) | (apply ac_i; intro bl cap hcap)
        | apply bo_l | (apply nx_i <;> intro hnx) | (apply Ia.hit; assumption) | (apply Ia.miss; assumption)
        | (apply rt_is; exact rfl) | exact rt_w | (apply iv; assumption)
        | apply dw_q mixed hC hGL (by kernel_rfl) | (apply cq; assumption; (first | exact hP); exact rfl))
    all_goals (try conv => whnf)
    all_goals (apply rt_is; refine congrArg AVal.bool ?_; first | (rw [eqB_t.2 hb, Bool.true_and]; done) | (rw [eqB_f.2 hb]; rfl) | (rw [eqB_t.2 hb, Bool.true_and]; rfl)))
end Go.Proofs.YtkmpcdlmeiophaaGreatDoor
namespace Go.Proofs.YtkmpcdlmeiophaaGreatDoor
open Go
theorem byteAt_take {s : List UInt8} {n j : Nat} (h : j < n) : byteAt (s.take n) j = byteAt s j := by
  unfold byteAt
  simp [List.getD, List.getElem?_take, h]
set_option maxRecDepth 20000
set_option maxHeartbeats 4000000
set_option linter.unusedSimpArgs false
set_option linter.unusedVariables false
attribute [local irreducible] AWp AOps byteAt SrcOK OrOk GloAll FnSpec
theorem ref_Good {G : Glo} : FnIs Tryz.prog G 8 [] (.agg [.int .i64 0, .int .i64 (-1)]) := by
  have hGL : GloAll G [] := gloAll_nil
  refine fn_x Tryz.func8 Tryz.call8 rfl rfl rfl rfl hGL ?_
  intro C hC
  repeat' (first
    | (conv => whnf); first
      | refine .w ?_ | refine .v ?_ | apply sc_true | apply sc_false
      | (first | apply sc_lt | apply sc_nlt | apply sc_eq | apply sc_neq | apply sc_nil | apply sc_nnil | apply sc_seq | apply sc_nseq) <;> (intro hb; try exact dd hb)
      | apply sc_not | apply sc_or | (apply sc_i <;> intro hb)
      | (apply bx_i; intro hbd) | (apply gt_i; assumption; exact rfl)
      | (apply cx_is; first | fail) | (apply cx_do (i := 0) rfl; first | fail)
      | (apply ab_i; intro bl) | (apply as_i; intro va vk vc hva) | (apply av_i; intro v) | (apply ac_i; intro bl cap hcap)
      | apply bo_l | (apply nx_i <;> intro hnx) | (apply Ia.hit; assumption) | (apply Ia.miss; assumption)
      | (apply rt_is; exact rfl) | exact rt_w | (apply iv; assumption)
      | apply dw_q mixed hC hGL (by kernel_rfl) | (apply cq; assumption; (first | fail); exact rfl))
  all_goals (try conv => whnf)
theorem placed_ok {G : Glo} (hU2 : GloAll G errTy) (x : Err) : FnIs Tryz.prog G 6 [x.A, .agg [.int .i64 x.e, .int .i64 x.p]] (.bool true) := by
  have := law_placed hU2 x x.e x.p
  rwa [eqB_t.2 rfl, eqB_t.2 rfl] at this
end Go.Proofs.YtkmpcdlmeiophaaGreatDoor
namespace Go.Proofs.YtkmpcdlmeiophaaGreatDoor
open Go
set_option maxRecDepth 20000
set_option maxHeartbeats 4000000
set_option linter.unusedSimpArgs false
set_option linter.unusedVariables false
attribute [local irreducible] AWp AOps byteAt SrcOK OrOk GloAll FnSpec
attribute [local irreducible] idxB
/-- The first byte of which something holds. -/
def fstG (f : Int → Bool) : List UInt8 → Nat → Int
  | [], _ => -1
  | x :: t, k => if f (x.toNat : Int) then k else fstG f t (k + 1)
def fstB (f : Int → Bool) (s : List UInt8) : Int := fstG f s 0
theorem fstG_spec {f : Int → Bool} : ∀ (t : List UInt8) (k : Nat), (fstG f t k = -1 ∧ ∀ j, j < t.length → f (byteAt t j : Int) = false) ∨ ∃ m, m < t.length ∧ fstG f t k = ((k + m : Nat) : Int) ∧ f (byteAt t m : Int) = true ∧ ∀ j, j < m → f (byteAt t j : Int) = false
  | [], _ => .inl ⟨rfl, fun j h => absurd h (Nat.not_lt_zero _)⟩
  | x :: t, k => by
    by_cases e : f (x.toNat : Int) = true
    · refine .inr ⟨0, by simp, by simp [fstG, e], by simpa [byteAt] using e, fun j h => absurd h (Nat.not_lt_zero _)⟩
    · have e1 : fstG f (x :: t) k = fstG f t (k + 1) := by simp [fstG, e]
      rcases fstG_spec (f := f) t (k + 1) with ⟨h1, h2⟩ | ⟨m, h1, h2, h3, h4⟩
      · refine .inl ⟨by rw [e1, h1], fun j hj => ?_⟩
        cases j with
        | zero => simpa [byteAt] using e
        | succ j => simpa [byteAt] using h2 j (by simpa using hj)
      · refine .inr ⟨m + 1, by simpa using h1, by rw [e1, h2]; omega, by simpa [byteAt] using h3, fun j hj => ?_⟩
        cases j with
        | zero => simpa [byteAt] using e
        | succ j => simpa [byteAt] using h4 j (by omega)
theorem fstB_at {f : Int → Bool} {s : List UInt8} {i : Nat} (hi : i < s.length) (h : f (byteAt s i : Int) = true) (h0 : ∀ j, j < i → f (byteAt s j : Int) = false) : fstB f s = i := by
  rcases fstG_spec (f := f) s 0 with ⟨h1, h2⟩ | ⟨m, h1, h2, h3, h4⟩
  · rw [h2 i hi] at h; cases h
  · unfold fstB
    rw [h2]
    have : m = i := by
      rcases Nat.lt_trichotomy m i with h5 | h5 | h5
      · rw [h0 m h5] at h3; cases h3
      · exact h5
      · rw [h4 i h5] at h; cases h
    omega
theorem fstB_none {f : Int → Bool} {s : List UInt8} (h0 : ∀ j, j < s.length → f (byteAt s j : Int) = false) : fstB f s = -1 := by
  rcases fstG_spec (f := f) s 0 with ⟨h1, h2⟩ | ⟨m, h1, h2, h3, h4⟩
  · exact h1
  · rw [h0 m h1] at h3; cases h3
theorem fstB_cases (f : Int → Bool) (s : List UInt8) : (fstB f s = -1 ∧ ∀ j, j < s.length → f (byteAt s j : Int) = false) ∨ ∃ m, m < s.length ∧ fstB f s = (m : Int) ∧ f (byteAt s m : Int) = true ∧ ∀ j, j < m → f (byteAt s j : Int) = false := by
  rcases fstG_spec (f := f) s 0 with h | ⟨m, h1, h2, h3⟩
  · exact .inl h
  · exact .inr ⟨m, h1, by unfold fstB; rw [h2]; omega, h3⟩
attribute [local irreducible] fstB
theorem ref_firstOf {G : Glo} (s : List UInt8) (f : Nat) (p : Int → Bool) (hl : s.length ≤ 9223372036854775807) (hp : ∀ c : Nat, c < 256 → FnIs Tryz.prog G f [.int .u8 (c : Int)] (.bool (p c))) : FnIs Tryz.prog G 21 [.str s, .func (.func f) [] []] (.int .i64 (fstB p s)) := by
  have hGL : GloAll G [] := gloAll_nil
  refine fn_x Tryz.func21 Tryz.call21 rfl rfl rfl rfl hGL ?_
  intro C hC
  repeat' (first
    | (conv => whnf); first
      | refine .w ?_ | refine .v ?_ | apply sc_true | apply sc_false
      | (first | apply sc_lt | apply sc_nlt | apply sc_eq | apply sc_neq | apply sc_nil | apply sc_nnil | apply sc_seq | apply sc_nseq) <;> (intro hb; try exact dd hb)
      | apply sc_not | apply sc_or | (apply sc_i <;> intro hb)
      | (apply bx_i; intro hbd) | (apply gt_i; assumption; exact rfl)
      | (apply cx_is; first | fail) | (apply cx_do (i := 0) rfl; first | fail)
      | (apply ab_i; intro bl) | (apply as_i; intro va vk vc hva) | (apply av_i; intro v) | (apply ac_i; intro bl cap hcap)
      | apply bo_l | (apply nx_i <;> intro hnx) | (apply Ia.hit; assumption) | (apply Ia.miss; assumption)
      | (apply rt_is; exact rfl) | exact rt_w | (apply iv; assumption)
      | apply dw_q mixed hC hGL (by kernel_rfl) | (apply cq; assumption; (first | fail); exact rfl))
  all_goals (try conv => whnf)
  refine lp hC hGL (fun (i : Nat) => [(1, .func (.func f) [] []), (8, .own 0 (.slice (some ⟨bl, 0, none⟩) s.length cap)), (9, .int .i64 s.length), (10, .int .i64 i)]) (fun _ => [.buf bl s cap]) (fun i => i ≤ s.length ∧ ∀ j, j < i → p (byteAt s j : Int) = false) (fun i => s.length - i) 0 ?_ env_w rfl ?_
  · exact ⟨Nat.zero_le _, by intro j hj; omega⟩
  rintro i ⟨hi, hb0⟩
  repeat' (first
    | (conv => whnf); first
      | refine .w ?_ | refine .v ?_ | apply sc_true | apply sc_false
      | (first | apply sc_lt | apply sc_nlt | apply sc_eq | apply sc_neq | apply sc_nil | apply sc_nnil | apply sc_seq | apply sc_nseq) <;> (intro hb; try exact dd hb)
      | apply sc_not | apply sc_or | (apply sc_i <;> intro hb)
      | (apply bx_i; intro hbd) | (apply gt_i; assumption; exact rfl)
      | (apply cx_is; first | exact hp _ (by omega)) | (apply cx_do (i := 0) rfl; first | exact hp _ (by omega))
      | (apply ab_i; intro bl) | (apply as_i; intro va vk vc hva) | (apply av_i; intro v) | (apply ac_i; intro bl cap hcap)
      | apply bo_l | (apply nx_i <;> intro hnx) | (apply Ia.hit; assumption) | (apply Ia.miss; assumption)
      | (apply rt_is; exact rfl) | exact rt_w | (apply iv; assumption)
      | apply dw_q mixed hC hGL (by kernel_rfl) | (apply cq; assumption; (first | exact hp _ (by omega)); exact rfl))
  all_goals (try conv => whnf)
  · apply rt_is
    rw [fstB_at (i := i) (by omega) hb hb0]
  · refine nxt (i + 1) ?_ ?_ env_w rfl
    · exact ⟨by omega, below_succ hb0 hb⟩
    · omega
  · apply rt_is
    rw [fstB_none (fun j hj => hb0 j (by omega))]
    rfl
end Go.Proofs.YtkmpcdlmeiophaaGreatDoor
namespace Go.Proofs.YtkmpcdlmeiophaaGreatDoor
open Go
set_option maxRecDepth 20000
set_option maxHeartbeats 4000000
set_option linter.unusedSimpArgs false
set_option linter.unusedVariables false
attribute [local irreducible] AWp AOps byteAt SrcOK OrOk GloAll FnSpec
attribute [local irreducible] nextS badI badS stepS rngR ownB
def mayZ (r : Int) : Bool := decide (0 ≤ r ∧ r ≤ 1114111 ∧ (r < 55296 ∨ 57343 < r))
theorem mayZ_t {r : Int} : mayZ r = true ↔ (0 ≤ r ∧ r ≤ 1114111 ∧ (r < 55296 ∨ 57343 < r)) := by simp [mayZ]
theorem mayZ_f {r : Int} : mayZ r = false ↔ ¬ (0 ≤ r ∧ r ≤ 1114111 ∧ (r < 55296 ∨ 57343 < r)) := by simp [mayZ]
attribute [local irreducible] mayZ
theorem utf_May {G : Glo} (r : Int) : FnIs Tryz.prog G 51 [.int .i64 r] (.bool (mayZ r)) := by
  have hGL : GloAll G [] := gloAll_nil
  refine fn_x Tryz.func51 Tryz.call51 rfl rfl rfl rfl hGL ?_
  intro C hC
  repeat' (first
    | (conv => whnf); first
      | refine .w ?_ | refine .v ?_ | apply sc_true | apply sc_false
      | (first | apply sc_lt | apply sc_nlt | apply sc_eq | apply sc_neq | apply sc_nil | apply sc_nnil | apply sc_seq | apply sc_nseq) <;> (intro hb; try exact dd hb)
      | apply sc_not | apply sc_or | (apply sc_i <;> intro hb)
      | (apply bx_i; intro hbd) | (apply gt_i; assumption; exact rfl)
      | (apply cx_is; first | fail) | (apply cx_do (i := 0) rfl; first | fail)
      | (apply ab_i; intro bl) | (apply as_i; intro va vk vc hva) | (apply av_i; intro v) | (apply ac_i; intro bl cap hcap)
      | apply bo_l | (apply nx_i <;> intro hnx) | (apply Ia.hit; assumption) | (apply Ia.miss; assumption)
      | (apply rt_is; exact rfl) | exact rt_w | (apply iv; assumption)
      | apply dw_q mixed hC hGL (by kernel_rfl) | (apply cq; assumption; (first | fail); exact rfl))
  all_goals (try conv => whnf)
  all_goals (apply rt_is)
  all_goals (refine congrArg AVal.bool ?_)
  all_goals (rw [Bool.eq_iff_iff]; simp [mayZ_t, ltB_t, ltB_f, Bool.not_eq_true'] <;> omega)
theorem tup2 {k j : IntKind} {a b c e : Int} {H' : Heap} (h : c = a ∧ e = b) : Rt (fun (x : ARes) (H : Heap) => x = .ret (.tuple [.int k c, .int j e]) ∧ H = []) (.tuple [.int k a, .int j b]) H' := by
  obtain ⟨rfl, rfl⟩ := h
  exact rt_is rfl
theorem utf_Next {G : Glo} (s : List UInt8) : FnIs Tryz.prog G 38 [.str s] (.tuple [.int .i64 ((nextS s).1 : Int), .int .i64 ((nextS s).2 : Int)]) := by
  have hGL : GloAll G [] := gloAll_nil
  refine fn_x Tryz.func38 Tryz.call38 rfl rfl rfl rfl hGL ?_
  intro C hC
  repeat' (first
    | (conv => whnf); first
      | refine .w ?_ | refine .v ?_ | apply sc_true | apply sc_false
      | (first | apply sc_lt | apply sc_nlt | apply sc_eq | apply sc_neq | apply sc_nil | apply sc_nnil | apply sc_seq | apply sc_nseq) <;> (intro hb; try exact dd hb)
      | apply sc_not | apply sc_or | (apply sc_i <;> intro hb)
      | (apply bx_i; intro hbd) | (apply gt_i; assumption; exact rfl)
      | (apply cx_is; first | exact utf_May _) | (apply cx_do (i := 0) rfl; first | exact utf_May _)
      | (apply ab_i; intro bl) | (apply as_i; intro va vk vc hva) | (apply av_i; intro v) | (apply ac_i; intro bl cap hcap)
      | apply bo_l | (apply nx_i <;> intro hnx) | (apply Ia.hit; assumption) | (apply Ia.miss; assumption)
      | (apply rt_is; exact rfl) | exact rt_w | (apply iv; assumption)
      | apply dw_q mixed hC hGL (by kernel_rfl) | (apply cq; assumption; (first | exact utf_May _); exact rfl))
  all_goals (try conv => whnf)
  any_goals (refine rds hC hGL 4 ?_)
  repeat' (first
    | (conv => whnf); first
      | refine .w ?_ | refine .v ?_ | apply sc_true | apply sc_false
      | (first | apply sc_lt | apply sc_nlt | apply sc_eq | apply sc_neq | apply sc_nil | apply sc_nnil | apply sc_seq | apply sc_nseq) <;> (intro hb; try exact dd hb)
      | apply sc_not | apply sc_or | (apply sc_i <;> intro hb)
      | (apply bx_i; intro hbd) | (apply gt_i; assumption; exact rfl)
      | (apply cx_is; first | exact utf_May _) | (apply cx_do (i := 0) rfl; first | exact utf_May _)
      | (apply ab_i; intro bl) | (apply as_i; intro va vk vc hva) | (apply av_i; intro v) | (apply ac_i; intro bl cap hcap)
      | apply bo_l | (apply nx_i <;> intro hnx) | (apply Ia.hit; assumption) | (apply Ia.miss; assumption)
      | (apply rt_is; exact rfl) | exact rt_w | (apply iv; assumption)
      | apply dw_q mixed hC hGL (by kernel_rfl) | (apply cq; assumption; (first | exact utf_May _); exact rfl))
  all_goals (try conv => whnf)
  all_goals (refine tup2 ?_)
  all_goals (
    try simp only [show Int.toNat 0 = 0 from rfl, show Int.toNat 1 = 1 from rfl, show Int.toNat (1 + 1) = 2 from rfl, show Int.toNat (1 + 1 + 1) = 3 from rfl, Int.ofNat_toNat, mayZ_t, mayZ_f, ltB_t, ltB_f] at *
    generalize hz : nextS s = z
    unfold nextS contAt mayN cp2 cp3 cp4 at hz
    generalize byteAt s 0 = b0 at *
    generalize byteAt s 1 = b1 at *
    generalize byteAt s 2 = b2 at *
    generalize byteAt s 3 = b3 at *
    generalize s.length = l at *)
  all_goals (
    repeat' (split at hz; try (exfalso; omega))
    all_goals (try subst z)
    all_goals (first
      | exact ⟨rfl, rfl⟩
      | (simp only [Bool.and_eq_true, Bool.or_eq_true, decide_eq_true_eq, beq_iff_eq] at *; first | (exfalso; omega) | omega)))
end Go.Proofs.YtkmpcdlmeiophaaGreatDoor
namespace Go.Proofs.YtkmpcdlmeiophaaGreatDoor
open Go
set_option maxRecDepth 20000
set_option maxHeartbeats 4000000
set_option linter.unusedSimpArgs false
set_option linter.unusedVariables false
attribute [local irreducible] AWp AOps byteAt SrcOK OrOk GloAll FnSpec
attribute [local irreducible] nextS badI badS stepS rngR ownB
theorem utf_Bad {G : Glo} (s : List UInt8) (hl : s.length ≤ 9223372036854775807) : FnIs Tryz.prog G 22 [.str s] (.int .i64 (badI s)) := by
  have hGL : GloAll G [] := gloAll_nil
  refine fn_x Tryz.func22 Tryz.call22 rfl rfl rfl rfl hGL ?_
  intro C hC
  have hle := fun k => nextS_le (s.drop k)
  repeat' (first
    | (conv => whnf); first
      | refine .w ?_ | refine .v ?_ | apply sc_true | apply sc_false
      | (first | apply sc_lt | apply sc_nlt | apply sc_eq | apply sc_neq | apply sc_nil | apply sc_nnil | apply sc_seq | apply sc_nseq) <;> (intro hb; try exact dd hb)
      | apply sc_not | apply sc_or | (apply sc_i <;> intro hb)
      | (apply bx_i; intro hbd) | (apply gt_i; assumption; exact rfl)
      | (apply cx_is; first | exact utf_Next _) | (apply cx_do (i := 0) rfl; first | exact utf_Next _)
      | (apply ab_i; intro bl) | (apply as_i; intro va vk vc hva) | (apply av_i; intro v) | (apply ac_i; intro bl cap hcap)
      | apply bo_l | (apply nx_i <;> intro hnx) | (apply Ia.hit; assumption) | (apply Ia.miss; assumption)
      | (apply rt_is; exact rfl) | exact rt_w | (apply iv; assumption)
      | apply dw_q mixed hC hGL (by kernel_rfl) | (apply cq; assumption; (first | exact utf_Next _); exact rfl))
  all_goals (try conv => whnf)
  refine lp hC hGL (fun (i : Nat) => [(0, .str s), (3, .int .i64 i)]) (fun _ => []) (fun i => i ≤ s.length ∧ badS s = (badS (s.drop i)).map (· + i)) (fun i => s.length - i) 0 ?_ env_w rfl ?_
  · exact ⟨Nat.zero_le _, by simp⟩
  rintro i ⟨hi, hb0⟩
  have hn := hle i
  rw [List.length_drop] at hn
  repeat' (first
    | (conv => whnf); first
      | refine .w ?_ | refine .v ?_ | apply sc_true | apply sc_false
      | (first | apply sc_lt | apply sc_nlt | apply sc_eq | apply sc_neq | apply sc_nil | apply sc_nnil | apply sc_seq | apply sc_nseq) <;> (intro hb; try exact dd hb)
      | apply sc_not | apply sc_or | (apply sc_i <;> intro hb)
      | (apply bx_i; intro hbd) | (apply gt_i; assumption; exact rfl)
      | (apply cx_is; first | exact utf_Next _) | (apply cx_do (i := 0) rfl; first | exact utf_Next _)
      | (apply ab_i; intro bl) | (apply as_i; intro va vk vc hva) | (apply av_i; intro v) | (apply ac_i; intro bl cap hcap)
      | apply bo_l | (apply nx_i <;> intro hnx) | (apply Ia.hit; assumption) | (apply Ia.miss; assumption)
      | (apply rt_is; exact rfl) | exact rt_w | (apply iv; assumption)
      | apply dw_q mixed hC hGL (by kernel_rfl) | (apply cq; assumption; (first | exact utf_Next _); exact rfl))
  all_goals (try conv => whnf)
  · apply rt_is
    refine congrArg (AVal.int .i64) ?_
    have h1 := badS_step (s.drop i) (by rw [List.length_drop]; omega)
    rw [if_pos (by omega)] at h1
    rw [h1] at hb0
    simp only [badI, hb0, Option.map_some, Nat.zero_add]
  · have h1 := badS_step (s.drop i) (by rw [List.length_drop]; omega)
    rw [if_neg (by omega)] at h1
    refine nxt (i + (nextS (s.drop i)).2) ?_ ?_ env_w rfl
    · refine ⟨by omega, ?_⟩
      rw [hb0, h1, List.drop_drop]
      cases badS (s.drop (i + (nextS (s.drop i)).2)) <;> simp <;> omega
    · omega
  · apply rt_is
    refine congrArg (AVal.int .i64) ?_
    rw [badS_nil (s.drop i) (by rw [List.length_drop]; omega)] at hb0
    simp only [badI, hb0, Option.map_none]
end Go.Proofs.YtkmpcdlmeiophaaGreatDoor
namespace Go.Proofs.YtkmpcdlmeiophaaGreatDoor
open Go Go.RowKit
/-- A byte that a value may not hold. -/
def hdC (lines : Bool) (c : Int) : Bool := decide ((c < 32 ∧ c ≠ 9 ∧ (c ≠ 10 ∨ lines = false)) ∨ c = 127)
def hdB (lines : Bool) (s : List UInt8) : Bool := decide (badI s < 0 ∧ fstB (hdC lines) s < 0)
end Go.Proofs.YtkmpcdlmeiophaaGreatDoor
namespace Go.Proofs.YtkmpcdlmeiophaaGreatDoor
open Go
set_option linter.unusedSimpArgs false
set_option linter.unusedSectionVars false
set_option linter.unusedVariables false
section
variable {P : Program} [Tab P] {C : Ctx} {n : Nat} {env : Env} {H : Heap} {Q : AExit → Env → Heap → Prop} {ops : Array Oper} {rest : List Oper} {G : Glo} {GL : List (Nat × List AVal)}
variable {eT : Option TypeId}
variable {d : Nat} {t : TypeId} {p : String} {af : Array Edge} {g : Option (Nat × Bool)} {b : Bool}
variable {x y : Operand} {T : TypeId} {xT : TI} {tx ty : TypeId} {av : AVal} {f : FuncId} {avs : List AVal}
/-- An operation met by a rule of its own. -/
theorem op1_run {op : Op} (hC : C.G = G) (hGL : GloAll G GL) (hr : RunV P C H env op av) (hg : guardA ops env g = some (b, b)) (hdn : Nat.ble (d + 1) n = true)
    (k : opsX P C n G GL ops Q rest ((d, av) :: env) H) : Op1 P C n ops ({ dst := some d, op := op, type := t, pos := p, after := af, guard := g } :: rest) env H Q :=
  ⟨ao_of_run hg hdn hr (opsX_ok hC hGL _ _ _ k)⟩
end
end Go.Proofs.YtkmpcdlmeiophaaGreatDoor
namespace Go.Proofs.YtkmpcdlmeiophaaGreatDoor
open Go Go.RowKit
/-- Texts in a row. -/
def strsC (l : List (List UInt8)) : List AVal := l.map .str
def strsF (l : List (List UInt8)) (i : Nat) : AVal := .str (l.getD i [])
theorem strsF_ok (l : List (List UInt8)) : ∀ i, i < l.length → (strsF l i).cells = ((strsC l).drop (i * 1)).take 1 ∧ (strsF l i).plain = true := by
  intro i hi
  refine ⟨?_, rfl⟩
  have : i < (strsC l).length := by simpa [strsC] using hi
  rw [Nat.mul_one, List.drop_eq_getElem_cons this]
  simp [strsF, AVal.cells, strsC, List.getD, hi]
theorem strsC_snoc (l : List (List UInt8)) (s : List UInt8) : strsC l ++ [.str s] = strsC (l ++ [s]) := by simp [strsC]
end Go.Proofs.YtkmpcdlmeiophaaGreatDoor
namespace Go.Proofs.YtkmpcdlmeiophaaGreatDoor
open Go Go.RowKit
/-! ## Values that are known whole -/
def concA : AVal → Option Value
  | .own _ v => some v
  | .raw v => some v
  | .int k n => some (.int k n)
  | .bool b => some (.bool b)
  | _ => none
def concL : List AVal → Option (List Value)
  | [] => some []
  | a :: t => match concA a, concL t with
    | some v, some r => some (v :: r)
    | _, _ => none
theorem conc_ok {R : Seal} {a : AVal} {v x : Value} (h : concA a = some v) (hr : Rel R a x) : x = v := by
  cases a <;> simp only [concA, Option.some.injEq, reduceCtorEq] at h <;> subst h
  · exact rel_bool.1 hr
  · exact rel_int.1 hr
  · exact rel_raw.1 hr
  · exact (rel_own.1 hr).1
theorem concL_ok {R : Seal} : ∀ {l : List AVal} {vs xs : List Value}, concL l = some vs → RelV R l xs → xs = vs
  | [], vs, xs, h, hr => by
    simp only [concL, Option.some.injEq] at h
    subst h
    simpa [RelV] using hr
  | a :: t, vs, xs, h, hr => by
    simp only [concL] at h
    split at h
    · rename_i v r hv ht
      simp only [Option.some.injEq] at h
      subst h
      obtain ⟨x, ys, rfl, h1, h2⟩ := hr
      rw [conc_ok hv h1, concL_ok ht h2]
    · cases h
/-- The call that is laid, as it will be made. -/
def deferA (env : Env) (fv : Operand) (args : List Operand) : Option Deferred :=
  match evalA env fv with
  | some (.func (.func f) l1 l2) => match concL l1, argsA env args, concL l2 with
    | some x1, some avs, some x2 => match concL avs with
      | some xs => some { target := .fn (.func f) x2.toArray, args := (x1 ++ xs).toArray }
      | none => none
    | _, _, _ => none
  | _ => none
theorem upon_map {P : Program} {o : Oper} {a : Act} {next next' : Act → World → Prop} {Q Q' : Exit → Act → World → Prop} {r : Result Next} (hn : ∀ a w, next a w → next' a w)
    (hp : ∀ ch a w, Q (.panic ch) a w → Q' (.panic ch) a w) (ho : LetsOut Q → LetsOut Q') (hh : o.upon P a next Q r) : o.upon P a next' Q' r := by
  cases r with
  | ok n w' =>
    cases n <;> simp only [Oper.upon] at hh ⊢ <;>
      first
        | exact hn _ _ hh
        | exact Calls.mono hh (fun e w'' he => by cases e <;> first | exact hn _ _ he | exact hp _ _ _ he | exact ho he)
        | exact Rows.mono hh (fun _ _ he => hn _ _ he)
  | halt x w' => cases x <;> simp only [Oper.upon] at hh ⊢ <;> exact hp _ _ _ hh
def tailQ (P : Program) (ops : Array Oper) (l : List Oper) (Q : Exit → Act → World → Prop) : Exit → Act → World → Prop
  | .normal, a, w => wpList P ops Q l a w
  | e, a, w => Q e a w
theorem wpList_app {P : Program} {ops : Array Oper} {l : List Oper} {Q : Exit → Act → World → Prop} : ∀ {pre : List Oper} {a : Act} {w : World}, wpList P ops (tailQ P ops l Q) pre a w → wpList P ops Q (pre ++ l) a w
  | [], a, w, h => h
  | o :: pre, a, w, h => by
    simp only [List.cons_append, wpList] at h ⊢
    split
    · rename_i hw
      rw [if_pos hw] at h
      rcases h with h | ⟨h1, h2⟩
      · exact .inl (upon_map (fun _ _ => wpList_app) (fun _ _ _ => id) (fun ⟨a, w, q⟩ => ⟨a, w, q⟩) h)
      · exact .inr ⟨h1, h2⟩
    · rename_i hw
      rw [if_neg hw] at h
      exact wpList_app h
/-! ## The spine -/
def withD (C : Ctx) (D : List Deferred) : Ctx := ⟨C.w0, C.R0, C.B0, C.G, C.hG, D⟩
theorem MS.withD {C : Ctx} {R : Seal} {H : Heap} {w : World} (h : MS C R H w) (D : List Deferred) : MS (withD C D) R H w := ⟨h.sealed, h.ge, h.fresh, h.heap, h.own, h.ext⟩
theorem MS.ofD {C : Ctx} {R : Seal} {H : Heap} {w : World} {D : List Deferred} (h : MS (Proofs.YtkmpcdlmeiophaaGreatDoor.withD C D) R H w) : MS C R H w := ⟨h.sealed, h.ge, h.fresh, h.heap, h.own, h.ext⟩
def PostD (C : Ctx) (n : Nat) (Q : List Deferred → AExit → Env → Heap → Prop) (e : Exit) (a : Act) (w : World) : Prop :=
  ∃ D x env H R, Q D x env H ∧ ExitRel R x e ∧ MS C R H w ∧ FS D n R env a
def AWpD (P : Program) (C : Ctx) (n : Nat) (c : Code) (env : Env) (H : Heap) (Q : List Deferred → AExit → Env → Heap → Prop) : Prop :=
  ∀ R a w, MS C R H w → FS C.D n R env a → c.wp P (PostD C n Q) a w
section
variable {P : Program} {C : Ctx} {n : Nat} {env : Env} {H : Heap} {Q : List Deferred → AExit → Env → Heap → Prop} {G : Glo} {GL : List (Nat × List AVal)}
theorem awd_of {c : Code} (h : AWp P C n c env H (Q C.D)) : AWpD P C n c env H Q :=
  fun R a w hm hf => wp_mono (h R a w hm hf) fun _ _ _ ⟨x, en, H', R', q, r⟩ => ⟨C.D, x, en, H', R', q, r⟩
theorem awd_code [Tab P] (hC : C.G = G) (hGL : GloAll G GL) {c : Code} (h : codeX P C n G GL c env H (Q C.D)) : AWpD P C n c env H Q := awd_of (codeX_ok hC hGL _ _ _ _ h)
def thenD (K : List Deferred → Env → Heap → Prop) (Q : List Deferred → AExit → Env → Heap → Prop) : List Deferred → AExit → Env → Heap → Prop
  | D, .normal, e, h => K D e h
  | D, x, e, h => Q D x e h
theorem awd_seq {x y : Code} (h : AWpD P C n x env H (thenD (fun D e h => AWpD P (withD C D) n y e h Q) Q)) : AWpD P C n (.seq x y) env H Q := by
  intro R a w hm hf
  refine wp_seq (wp_mono (h R a w hm hf) ?_)
  rintro e a' w' ⟨D, x, en, H', R', q, er, hm', hf'⟩
  cases x with
  | normal =>
    simp only [ExitRel] at er; subst er
    exact wp_mono (q R' a' w' (hm'.withD D) hf') fun _ _ _ ⟨D2, x, en, H', R', q, er, hm2, hf2⟩ => ⟨D2, x, en, H', R', q, er, hm2.ofD, hf2⟩
  | exit i => simp only [ExitRel] at er; subst er; exact ⟨D, .exit i, en, H', R', q, rfl, hm', hf'⟩
  | goto i => simp only [ExitRel] at er; subst er; exact ⟨D, .goto i, en, H', R', q, rfl, hm', hf'⟩
  | ret => simp only [ExitRel] at er; subst er; exact ⟨D, .ret, en, H', R', q, rfl, hm', hf'⟩
  | panic v => obtain ⟨y, rfl, hr⟩ := er; exact ⟨D, .panic v, en, H', R', q, ⟨y, rfl, hr⟩, hm', hf'⟩
theorem awd_cond {c : Operand} {x y : Code} {b : Bool} (hc : evalA env c = some (.bool b)) (ht : b = true → AWpD P C n x env H Q) (hf : b = false → AWpD P C n y env H Q) : AWpD P C n (.cond c x y) env H Q := by
  intro R a w hm hfs
  refine wp_cond (rel_bool.1 (hfs.eval hc)) ?_
  cases b with
  | true => exact ht rfl R a w hm hfs
  | false => exact hf rfl R a w hm hfs
structure Df (d : Option Deferred) (K : Deferred → Prop) : Prop where
  h : ∃ x, d = some x ∧ K x
def defQ (C : Ctx) (fv : Operand) (args : List Operand) (Q : List Deferred → AExit → Env → Heap → Prop) : AExit → Env → Heap → Prop
  | .normal, e, h => Df (deferA e fv args) fun d => Q (d :: C.D) .normal e h
  | x, e, h => Q C.D x e h
theorem awd_defer [Tab P] {id : Nat} {ops : Array Oper} {fv : Operand} {args : Array Operand} {ts : Array TypeId} {ty : TypeId} {pos : String} {af : Array Edge} (hC : C.G = G) (hGL : GloAll G GL)
    (hl : ops.toList = ops.toList.dropLast ++ [{ dst := none, op := .defer { callee := .value fv, args := args, argTypes := ts }, type := ty, pos := pos, after := af, guard := none }])
    (h : opsX P C n G GL ops (defQ C fv args.toList Q) ops.toList.dropLast env H) : AWpD P C n (.region id ops false) env H Q := by
  intro R a w hm hf
  refine wp_region_list ?_
  rw [hl]
  refine wpList_app ?_
  have h1 := opsX_ok (C := C) hC hGL _ _ _ h R a w hm hf
  have key : ∀ {l : List Oper} {a w}, wpList P ops (Post C n (defQ C fv args.toList Q)) l a w → wpList P ops (tailQ P ops [{ dst := none, op := .defer { callee := .value fv, args := args, argTypes := ts }, type := ty, pos := pos, after := af, guard := none }] (PostD C n Q)) l a w := by
    have hq : ∀ e a w, Post C n (defQ C fv args.toList Q) e a w → tailQ P ops [{ dst := none, op := .defer { callee := .value fv, args := args, argTypes := ts }, type := ty, pos := pos, after := af, guard := none }] (PostD C n Q) e a w := by
      rintro e a' w' ⟨x, en, H', R', q, er, hm', hf'⟩
      cases x with
      | normal =>
        simp only [ExitRel] at er; subst er
        obtain ⟨d, hd, q⟩ := Df.h q
        refine wpList_plain rfl fun K hK => ?_
        have hrun : (execOp a'.eval { dst := none, op := .defer { callee := .value fv, args := args, argTypes := ts }, type := ty, pos := pos, after := af, guard := none : Oper }).run P w' = .ok (.defer d) w' := by
          unfold deferA at hd
          split at hd
          · rename_i f l1 l2 hfv
            split at hd
            · rename_i x1 avs x2 h1 h2 h3
              split at hd
              · rename_i xs h4
                simp only [Option.some.injEq] at hd
                subst hd
                obtain ⟨⟨y1, y2, ey, r1, r2⟩, _⟩ := rel_one (hf'.eval hfv) rfl, trivial
                simp only [List.cons.injEq, and_true] at ey
                have e1 := concL_ok h1 r1
                have e2 := concL_ok h3 r2
                have e3 := concL_ok h4 (argsA_rel (fun x av h => hf'.eval h) h2)
                have e3' : (args.map a'.eval) = xs.toArray := by
                  apply Array.ext'
                  simpa using e3
                have e1' : y1 = x1.toArray := by apply Array.ext'; simpa using e1
                have e2' : y2 = x2.toArray := by apply Array.ext'; simpa using e2
                simp only [execOp, resolve, ey, e3', e1', e2', Deferred.ofValue, Sem.run_bind, Sem.run_pure, Result.andThen_ok]
                simp
              · cases hd
            · cases hd
          · cases hd
        rw [Oper.wp, hrun, Oper.upon_defer]
        refine hK _ _ (wpList_nil ⟨_, .normal, en, H', R', q, rfl, hm', ?_⟩)
        exact ⟨fun k v x => hf'.fr k v x, hf'.size, by show _ :: a'.defers = _; rw [hf'.defers]⟩
      | exit i => simp only [ExitRel] at er; subst er; exact ⟨C.D, .exit i, en, H', R', q, rfl, hm', hf'⟩
      | goto i => simp only [ExitRel] at er; subst er; exact ⟨C.D, .goto i, en, H', R', q, rfl, hm', hf'⟩
      | ret => simp only [ExitRel] at er; subst er; exact ⟨C.D, .ret, en, H', R', q, rfl, hm', hf'⟩
      | panic v => obtain ⟨y, rfl, hr⟩ := er; exact ⟨C.D, .panic v, en, H', R', q, ⟨y, rfl, hr⟩, hm', hf'⟩
    intro l
    induction l with
    | nil => exact fun {a w} h => hq _ _ _ h
    | cons o r ih =>
      intro a w h
      simp only [wpList] at h ⊢
      split
      · rename_i hw
        rw [if_pos hw] at h
        rcases h with h | ⟨h1, b, w2, x, en, H', R', q, er, _⟩
        · exact .inl (upon_map (fun _ _ => ih) (fun _ _ _ => hq _ _ _) (fun ⟨a, w, q⟩ => ⟨a, w, hq _ _ _ q⟩) h)
        · exact .inr ⟨h1, b, w2, hq _ _ _ ⟨x, en, H', R', q, er, by assumption⟩⟩
      · rename_i hw
        rw [if_neg hw] at h
        exact ih h
  exact key h1
end
end Go.Proofs.YtkmpcdlmeiophaaGreatDoor
namespace Go.Proofs.YtkmpcdlmeiophaaGreatDoor
open Go Go.RowKit
inductive AMode where
  | ret
  | pan (v : AVal)
  | rcv (v : AVal)
def ModeRel (R : Seal) : AMode → FrameMode → Prop
  | .ret, u => u = .returning
  | .pan v, u => ∃ x, u = .panicking [{ v := x, recovered := false }] ∧ Rel R v x
  | .rcv v, u => ∃ x, u = .panicking [{ v := x, recovered := true }] ∧ Rel R v x
theorem ModeRel.mono {R R' : Seal} (h : R.le R') : ∀ {m : AMode} {u : FrameMode}, ModeRel R m u → ModeRel R' m u
  | .ret, _, x => x
  | .pan _, _, ⟨y, e, r⟩ => ⟨y, e, rel_mono h r⟩
  | .rcv _, _, ⟨y, e, r⟩ => ⟨y, e, rel_mono h r⟩
def AMode.settle : AMode → AMode
  | .ret => .ret
  | .pan v => .pan v
  | .rcv _ => .ret
theorem settle_rel {R : Seal} : ∀ {m : AMode} {u : FrameMode}, ModeRel R m u → ModeRel R m.settle (Go.settle u)
  | .ret, _, rfl => rfl
  | .pan _, _, ⟨y, rfl, r⟩ => ⟨y, rfl, r⟩
  | .rcv _, _, ⟨y, rfl, _⟩ => rfl
theorem mode_run {R : Seal} : ∀ {m : AMode} {u : FrameMode}, ModeRel R m u → u ≠ .run
  | .ret, _, rfl => by simp
  | .pan _, _, ⟨_, rfl, _⟩ => by simp
  | .rcv _, _, ⟨_, rfl, _⟩ => by simp
/-- A deferred call's contract. -/
def DSpec (P : Program) (G : Glo) (f : FuncId) (avs : List AVal) (m : AMode) (H : Heap) (Qd : ARes → AMode → Heap → Prop) : Prop :=
  ∀ R w args u (hG : G.p R), MS ⟨w, R, blks H, G, hG, []⟩ R H w → RelV R avs args.toList → ModeRel R m u →
    CallsD P f args u w fun e u' w' => ∃ res m' H' R', Qd res m' H' ∧ EndRel R' res e ∧ ModeRel R' m' u' ∧ MS ⟨w, R, blks H, G, hG, []⟩ R' H' w'
section
variable {P : Program} [Tab P] {G : Glo} {GL : List (Nat × List AVal)} {n : Nat} {H : Heap} {m : AMode}
theorem arg_fs {R : Seal} {avs : List AVal} {args : Array Value} {n : Nat} (hlen : Nat.ble avs.length n = true) (ha : RelV R avs args.toList) :
    FS [] n R (argEnv 0 avs) { tmps := args ++ Array.replicate (n - args.size) undef, defers := [] } := by
  have hl := relV_length ha
  have hlen := Nat.le_of_ble_eq_true hlen
  simp only [Array.length_toList] at hl
  refine ⟨fun k v hk => ?_, ?_, rfl⟩
  · obtain ⟨_, x, hx, hr⟩ := argEnv_get ha hk
    refine ⟨x, ?_, hr⟩
    simp only [Nat.sub_zero, Array.getElem?_toList] at hx
    have := Array.getElem?_eq_some_iff.1 hx
    rw [Array.getElem?_append_left this.1]
    exact hx
  · simp only [Array.size_append, Array.size_replicate]; omega
/-- A deferred call of a function that recovers nothing. -/
theorem ds_code {f : FuncId} {fn : Func} {c : Code} {avs : List AVal} {Qf : ARes → Heap → Prop} {rs : List ResultVar} (hf : P.funcs[f]? = some fn)
    (hb : fn.body = some c) (hn : fn.ntmps = n) (hrs : fn.results = rs.toArray) (hlen : Nat.ble avs.length n = true) (hGL : GloAll G GL)
    (h : ∀ C : Ctx, C.G = G → codeX P C n G GL c (argEnv 0 avs) H (RetX P rs Qf)) : DSpec P G f avs m H (fun res m' H' => m' = m ∧ Qf res H') := by
  intro R w args u hG hm ha hu
  have h1 := (codeX_ok (C := ⟨w, R, blks H, G, hG, []⟩) rfl hGL _ _ _ _ (h ⟨w, R, blks H, G, hG, []⟩ rfl)).mono fun _ _ _ q => RetX_ok q
  have h2 : c.wp P (bodyPost P fn (fun e w' => ∃ res H' R', Qf res H' ∧ EndRel R' res e ∧ R.le R' ∧ MS ⟨w, R, blks H, G, hG, []⟩ R' H' w')) { tmps := args ++ Array.replicate (fn.ntmps - args.size) undef, defers := [] } w := by
    subst hn
    refine wp_mono (h1 R _ w hm (arg_fs hlen ha)) ?_
    have hrs' : fn.results.toList = rs := by rw [hrs]
    rintro e a' w' ⟨x, env', H', R', q, er, hm', hf'⟩
    cases x with
    | normal =>
      simp only [ExitRel] at er; subst er
      obtain ⟨vs, H'', hv, hs, q⟩ := q
      obtain ⟨y, hy, hr⟩ := results_run (fn := fn) hm' hf' (by rw [hrs']; exact hv)
      exact ⟨hf'.defers, y, hy, _, H'', R', q, ⟨y, rfl, hr⟩, hm'.ge, hm'.drop hs⟩
    | ret =>
      simp only [ExitRel] at er; subst er
      obtain ⟨vs, H'', hv, hs, q⟩ := q
      obtain ⟨y, hy, hr⟩ := results_run (fn := fn) hm' hf' (by rw [hrs']; exact hv)
      exact ⟨hf'.defers, y, hy, _, H'', R', q, ⟨y, rfl, hr⟩, hm'.ge, hm'.drop hs⟩
    | panic v =>
      obtain ⟨y, rfl, hr⟩ := er
      obtain ⟨H'', hs, q⟩ := q
      exact ⟨hf'.defers, _, H'', R', q, ⟨y, rfl, hr⟩, hm'.ge, hm'.drop hs⟩
    | exit i => exact q.elim
    | goto i => exact q.elim
  refine (callsD_of_wp (u := u) hf hb h2).mono ?_
  rintro e u' w' ⟨rfl, res, H', R', q, er, hle, hm'⟩
  exact ⟨res, m, H', R', ⟨rfl, q⟩, er, hu.mono hle, hm'⟩
def recV : AMode → AVal
  | .pan v => v
  | _ => .raw .nilIface
def recM : AMode → AMode
  | .ret => .ret
  | .pan v => .rcv v
  | .rcv v => .rcv v
/-- .. of one that recovers at once. -/
theorem ds_rec {f : FuncId} {fn : Func} {c : Code} {avs : List AVal} {Qf : ARes → Heap → Prop} {rs : List ResultVar} {id d0 d1 : Nat} {ts : Array TypeId} {t0 t1 : TypeId} {p0 p1 : String} {a0 a1 : Array Edge} (hf : P.funcs[f]? = some fn)
    (hb : fn.body = some (.seq (.region id #[{ dst := some d0, op := .call { callee := .builtin .recover, args := #[], argTypes := ts }, type := t0, pos := p0, after := a0, guard := none }, { dst := some d1, op := .assign (.tmp d0), type := t1, pos := p1, after := a1, guard := none }] false) c))
    (hn : fn.ntmps = n) (hrs : fn.results = rs.toArray) (hlen : Nat.ble avs.length n = true) (hd0 : Nat.ble (d0 + 1) n = true) (hd1 : Nat.ble (d1 + 1) n = true) (hGL : GloAll G GL)
    (h : ∀ C : Ctx, C.G = G → codeX P C n G GL c ((d1, recV m) :: (d0, recV m) :: argEnv 0 avs) H (RetX P rs Qf)) : DSpec P G f avs m H (fun res m' H' => m' = recM m ∧ Qf res H') := by
  intro R w args u hG hm ha hu
  have h1 := (codeX_ok (C := ⟨w, R, blks H, G, hG, []⟩) rfl hGL _ _ _ _ (h ⟨w, R, blks H, G, hG, []⟩ rfl)).mono fun _ _ _ q => RetX_ok q
  refine callsD_of_wpS hf hb fun c₀ cs hc => ?_
  subst hn
  have hfs := arg_fs hlen ha
  have main : ∀ (x : Value) (u' : FrameMode), Rel R (recV m) x → ModeRel R (recM m) u' → c.wpS P (bodyPostS P fn c₀ cs (fun e u' w' => ∃ res m' H' R', (m' = recM m ∧ Qf res H') ∧ EndRel R' res e ∧ ModeRel R' m' u' ∧ MS ⟨w, R, blks H, G, hG, []⟩ R' H' w'))
      ((({ tmps := args ++ Array.replicate (fn.ntmps - args.size) undef, defers := [] } : Act).put (some d0) x).put (some d1) x) ({ c₀ with mode := u' } :: cs) w := by
    intro x u' hx hu'
    refine wpS_of_wp ?_
    refine wp_mono (h1 R _ w hm ((hfs.put hd0 hx).put hd1 hx)) ?_
    have hrs' : fn.results.toList = rs := by rw [hrs]
    rintro e a' w' ⟨x, env', H', R', q, er, hm', hf'⟩
    cases x with
    | normal =>
      simp only [ExitRel] at er; subst er
      obtain ⟨vs, H'', hv, hs, q⟩ := q
      obtain ⟨y, hy, hr⟩ := results_run (fn := fn) hm' hf' (by rw [hrs']; exact hv)
      exact ⟨hf'.defers, u', rfl, y, hy, _, _, H'', R', ⟨rfl, q⟩, ⟨y, rfl, hr⟩, hu'.mono hm'.ge, hm'.drop hs⟩
    | ret =>
      simp only [ExitRel] at er; subst er
      obtain ⟨vs, H'', hv, hs, q⟩ := q
      obtain ⟨y, hy, hr⟩ := results_run (fn := fn) hm' hf' (by rw [hrs']; exact hv)
      exact ⟨hf'.defers, u', rfl, y, hy, _, _, H'', R', ⟨rfl, q⟩, ⟨y, rfl, hr⟩, hu'.mono hm'.ge, hm'.drop hs⟩
    | panic v =>
      obtain ⟨y, rfl, hr⟩ := er
      obtain ⟨H'', hs, q⟩ := q
      exact ⟨hf'.defers, u', rfl, _, _, H'', R', ⟨rfl, q⟩, ⟨y, rfl, hr⟩, hu'.mono hm'.ge, hm'.drop hs⟩
    | exit i => exact q.elim
    | goto i => exact q.elim
  refine wpS_seq (wpS_region ?_)
  have hev : ∀ (x : Value), (({ tmps := args ++ Array.replicate (fn.ntmps - args.size) undef, defers := [] } : Act).put (some d0) x).eval (.tmp d0) = x := by
    intro x
    have hsz : (args ++ Array.replicate (fn.ntmps - args.size) undef).size = fn.ntmps := hfs.size
    have := Nat.le_of_ble_eq_true hd0
    simp only [Act.eval, Act.put]
    rw [Array.getD_eq_getD_getElem?, Array.getElem?_setIfInBounds_self_of_lt (by omega)]
    rfl
  have run0 : ∀ ρ, (execOp ρ { dst := some d0, op := .call { callee := .builtin .recover, args := #[], argTypes := ts }, type := t0, pos := p0, after := a0, guard := none : Oper }).run P w = .ok .recover w := fun ρ => rfl
  have wanted : ∀ (o : Oper) y, o.guard = none → Region.wanted o y = true := fun o y h => by simp [Region.wanted, h]
  show wpOpsS P _ _ [0, 1] _ _ _
  have tail : ∀ (x : Value) (u' : FrameMode), Rel R (recV m) x → ModeRel R (recM m) u' → wpOpsS P #[{ dst := some d0, op := .call { callee := .builtin .recover, args := #[], argTypes := ts }, type := t0, pos := p0, after := a0, guard := none }, { dst := some d1, op := .assign (.tmp d0), type := t1, pos := p1, after := a1, guard := none }]
      (Exit.thenS (c.wpS P (bodyPostS P fn c₀ cs (fun e u' w' => ∃ res m' H' R', (m' = recM m ∧ Qf res H') ∧ EndRel R' res e ∧ ModeRel R' m' u' ∧ MS ⟨w, R, blks H, G, hG, []⟩ R' H' w'))) (bodyPostS P fn c₀ cs (fun e u' w' => ∃ res m' H' R', (m' = recM m ∧ Qf res H') ∧ EndRel R' res e ∧ ModeRel R' m' u' ∧ MS ⟨w, R, blks H, G, hG, []⟩ R' H' w'))) [1]
      (({ tmps := args ++ Array.replicate (fn.ntmps - args.size) undef, defers := [] } : Act).put (some d0) x) ({ c₀ with mode := u' } :: cs) w := by
    intro x u' hx hu'
    simp only [wpOpsS, List.getElem?_toArray, List.getElem?_cons_succ, List.getElem?_cons_zero]
    rw [if_pos (wanted _ _ rfl)]
    simp only [execOp, hev, Sem.run_pure, Oper.upon]
    exact main x u' hx hu'
  rw [wpOpsS]
  simp only [List.getElem?_toArray, List.getElem?_cons_zero]
  rw [if_pos (wanted _ _ rfl), run0]
  simp only [recoverD, hc]
  cases m with
  | ret =>
    obtain rfl : u = .returning := hu
    have e : c₀ = { c₀ with mode := FrameMode.returning } := by rw [← hc]
    rw [e]
    exact tail .nilIface .returning (rel_raw.2 rfl) rfl
  | pan v =>
    obtain ⟨x, rfl, hx⟩ := hu
    exact tail x _ hx ⟨x, rfl, hx⟩
  | rcv v =>
    obtain ⟨x, rfl, hx⟩ := hu
    have e : c₀ = { c₀ with mode := FrameMode.panicking [{ v := x, recovered := true }] } := by rw [← hc]
    rw [e]
    exact tail .nilIface _ (rel_raw.2 rfl) ⟨x, rfl, hx⟩
omit [Tab P] in
theorem ds_frame {f : FuncId} {avs : List AVal} {H1 : Heap} (H2 : Heap) {Qd : ARes → AMode → Heap → Prop} (h : DSpec P G f avs m H1 Qd) : DSpec P G f avs m (H1 ++ H2) (fun r m' H' => ∃ H1', Qd r m' H1' ∧ H' = H1' ++ H2) := by
  intro R w args u hG hm ha hu
  exact (h R w args u hG hm.enter ha hu).mono fun e u' w' ⟨res, m', H', R', q, er, hu', hm'⟩ => ⟨res, m', H' ++ H2, R', ⟨H', q, rfl⟩, er, hu', MS.call hm hm'⟩
omit [Tab P] in
theorem ds_perm {f : FuncId} {avs : List AVal} {H1 H2 : Heap} {Qd : ARes → AMode → Heap → Prop} (hp : H1.Perm H2) (h : DSpec P G f avs m H1 Qd) : DSpec P G f avs m H2 Qd := by
  have hb : ∀ k, k ∈ blks H2 ↔ k ∈ blks H1 := fun k => by
    have := (hp.filterMap HEnt.blk).mem_iff (a := k)
    exact this.symm
  intro R w args u hG hm ha hu
  exact (h R w args u hG ((hm.perm hp.symm).blks_iff hb) ha hu).mono fun e u' w' ⟨res, m', H', R', q, er, hu', hm'⟩ => ⟨res, m', H', R', q, er, hu', hm'.blks_iff fun k => (hb k).symm⟩
omit [Tab P] in
theorem ds_heap {f : FuncId} {avs : List AVal} {Qd Qd' : ARes → AMode → Heap → Prop} (h : DSpec P G f avs m H Qd) (hq : ∀ r m' H', Qd r m' H' → ∃ H'', H'.Perm H'' ∧ Qd' r m' H'') : DSpec P G f avs m H Qd' := by
  intro R w args u hG hm ha hu
  exact (h R w args u hG hm ha hu).mono fun e u' w' ⟨res, m', H', R', q, er, hu', hm'⟩ => let ⟨H'', hp, q'⟩ := hq _ _ _ q; ⟨res, m', H'', R', q', er, hu', hm'.perm hp⟩
omit [Tab P] in
/-- The entry at a place is handed over. -/
theorem ds_at {f : FuncId} {avs : List AVal} {i : Nat} {x y : HEnt} {r : ARes} {m' : AMode} (hi : H[i]? = some x) (hs : DSpec P G f avs m [x] (fun r2 m2 H2 => m2 = m' ∧ r2 = r ∧ H2 = [y])) :
    DSpec P G f avs m H (fun r2 m2 H2 => m2 = m' ∧ r2 = r ∧ H2 = H.set i y) := by
  have hp := perm_front hi
  refine ds_heap (ds_perm (H1 := [x] ++ H.eraseIdx i) (by simpa using hp.symm) (ds_frame (H.eraseIdx i) hs)) ?_
  rintro r2 m2 H' ⟨H1', ⟨rfl, rfl, rfl⟩, rfl⟩
  exact ⟨_, set_perm y hi, rfl, rfl, rfl⟩
omit [Tab P] in
theorem ds_pre {f : FuncId} {avs : List AVal} {H1 H1' : Heap} {r : ARes} {m' : AMode} (H2 : Heap) (hs : DSpec P G f avs m H1 (fun r2 m2 H2 => m2 = m' ∧ r2 = r ∧ H2 = H1')) :
    DSpec P G f avs m (H1 ++ H2) (fun r2 m2 H' => m2 = m' ∧ r2 = r ∧ H' = H1' ++ H2) := by
  refine ds_heap (ds_frame H2 hs) ?_
  rintro r2 m2 H' ⟨H3, ⟨rfl, rfl, rfl⟩, rfl⟩
  exact ⟨_, List.Perm.refl _, rfl, rfl, rfl⟩
/-! ## As a function leaves -/
def Lv (P : Program) (G : Glo) (n : Nat) (rs : List ResultVar) (env : Env) (D : List Deferred) (m : AMode) (H : Heap) (Qf : ARes → Heap → Prop) : Prop :=
  ∀ (C : Ctx) (R : Seal) (a : Act) (w : World) (fn : Func) (u : FrameMode) (D0 : List Deferred), C.G = G → fn.results.toList = rs → MS C R H w → FS D0 n R env a → ModeRel R m u →
    Leaves P fn a.tmps (fun e w' => ∃ res H' R', Qf res H' ∧ EndRel R' res e ∧ MS C R' H' w') D u w
variable {rs : List ResultVar} {env : Env} {Qf : ARes → Heap → Prop} {D : List Deferred}
theorem lv_ret (h : RetX P rs Qf .ret env H) : Lv P G n rs env [] .ret H Qf := by
  rintro C R a w fn u D0 hC hrs hm hf rfl
  obtain ⟨vs, H'', hv, hs, q⟩ := RetX_ok h
  obtain ⟨y, hy, hr⟩ := results_run (fn := fn) hm hf (by rw [hrs]; exact hv)
  exact ⟨y, hy, _, H'', R, q, ⟨y, rfl, hr⟩, hm.drop hs⟩
omit [Tab P] in
omit [Tab P] in
/-- A deferred call that answers. -/
theorem lv_call {f : FuncId} {avs : List AVal} {cap args : Array Value} {v : AVal} {m' : AMode} {H' : Heap} (hs : DSpec P G f avs m H (fun r2 m2 H2 => m2 = m' ∧ r2 = .ret v ∧ H2 = H')) (ha : ∀ R, RelV R avs (args ++ cap).toList)
    (hc : ∀ args w, (callFunc f args).run P w = .ok (.enter f args) w) (k : Lv P G n rs env D m'.settle H' Qf) : Lv P G n rs env ({ target := .fn (.func f) cap, args := args } :: D) m H Qf := by
  intro C R a w fn u D0 hC hrs hm hf hu
  subst hC
  refine leaves_cons (f := f) (args := args ++ cap) (mode_run hu) (by simp only [invoke]; exact hc _ _) ?_
  refine (hs R w _ u hm.glo (MS.enter (H2 := []) (by simpa using hm)) (ha R) hu).mono ?_
  rintro e u' w' ⟨res, m2, H2, R', ⟨rfl, rfl, rfl⟩, ⟨y, rfl, hr⟩, hu', hm'⟩
  have hm2 : MS C R' H2 w' := by simpa using MS.call (H2 := []) (by simpa using hm) hm'
  exact k C R' a w' fn _ D0 rfl hrs hm2 (hf.mono hm'.ge) (settle_rel hu')
def LvQ (P : Program) (G : Glo) (n : Nat) (rs : List ResultVar) (Qf : ARes → Heap → Prop) : List Deferred → AExit → Env → Heap → Prop
  | D, .ret, e, H | D, .normal, e, H => Lv P G n rs e D .ret H Qf
  | D, .panic v, e, H => Lv P G n rs e D (.pan v) H Qf
  | _, _, _, _ => False
omit [Tab P] in
/-- FROM THE SPINE TO THE CONTRACT. -/
theorem fn_d {f : FuncId} {fn : Func} {c : Code} {avs : List AVal} (hf : P.funcs[f]? = some fn)
    (hc : ∀ args w, (callFunc f args).run P w = .ok (.enter f args) w) (hb : fn.body = some c) (hn : fn.ntmps = n) (hrs : fn.results = rs.toArray) (hlen : Nat.ble avs.length n = true)
    (h : ∀ C : Ctx, C.G = G → C.D = [] → AWpD P C n c (argEnv 0 avs) H (LvQ P G n rs Qf)) : FnSpec P G f avs H Qf := by
  intro R w args hG hm ha
  refine .inl ⟨hc args w, calls_of_wp_defers hf hb ?_⟩
  subst hn
  have hrs' : fn.results.toList = rs := by rw [hrs]
  refine wp_mono (h ⟨w, R, blks H, G, hG, []⟩ rfl rfl R _ w hm (arg_fs hlen ha)) ?_
  rintro e a' w' ⟨D, x, env', H', R', q, er, hm', hf'⟩
  cases x with
  | normal =>
    simp only [ExitRel] at er; subst er
    have := q _ R' a' w' fn .returning D rfl hrs' hm' hf' rfl
    rwa [← hf'.defers] at this
  | ret =>
    simp only [ExitRel] at er; subst er
    have := q _ R' a' w' fn .returning D rfl hrs' hm' hf' rfl
    rwa [← hf'.defers] at this
  | panic v =>
    obtain ⟨y, rfl, hr⟩ := er
    have := q _ R' a' w' fn (.panicking [{ v := y, recovered := false }]) D rfl hrs' hm' hf' ⟨y, rfl, hr⟩
    rwa [← hf'.defers] at this
  | exit i => exact q.elim
  | goto i => exact q.elim
end
end Go.Proofs.YtkmpcdlmeiophaaGreatDoor
namespace Go.Proofs.YtkmpcdlmeiophaaGreatDoor
open Go Go.RowKit
theorem filterMap_set {α β : Type} {f : α → Option β} {x y : α} (hf : f y = f x) : ∀ {h : List α} {i : Nat}, h[i]? = some x → (h.set i y).filterMap f = h.filterMap f
  | [], i, e => by simp at e
  | z :: h, 0, e => by
    simp only [List.getElem?_cons_zero, Option.some.injEq] at e
    subst e
    simp [List.filterMap_cons, hf]
  | z :: h, i + 1, e => by
    simp only [List.getElem?_cons_succ] at e
    simp only [List.set_cons_succ, List.filterMap_cons, filterMap_set hf e]
theorem MS.setEnt {C : Ctx} {R : Seal} {H : Heap} {w : World} {i : Nat} {x y : HEnt} (h : MS C R H w) (hi : H[i]? = some x) (hb : y.blk = x.blk) (hy : y.holds R w) : MS C R (H.set i y) w := by
  have hx : x ∈ H := List.mem_of_getElem? hi
  have hm : ∀ z, z ∈ H.set i y → z ∈ H ∨ z = y := fun z hz => List.mem_or_eq_of_mem_set hz
  refine ⟨h.sealed, h.ge, h.fresh, ⟨fun z hz => ?_, ?_, fun z hz b hzb => ?_⟩, fun z hz b hzb => ?_, h.ext⟩
  · rcases hm z hz with h1 | rfl
    · exact h.heap.holds z h1
    · exact hy
  · rw [filterMap_set hb hi]; exact h.heap.nodup
  · rcases hm z hz with h1 | rfl
    · exact h.heap.apart z h1 b hzb
    · exact h.heap.apart x hx b (by rw [← hb]; exact hzb)
  · rcases hm z hz with h1 | rfl
    · exact h.own z h1 b hzb
    · exact h.own x hx b (by rw [← hb]; exact hzb)
theorem relL_set {R : Seal} {a a' : AVal} (ht : ∀ v, RelC R a [v] → RelC R a' [v]) : ∀ {cs : List AVal} {vs : List Value} {p : Nat}, RelL R cs vs → cs[p]? = some a → RelL R (cs.set p a') vs
  | [], _, _, _, e => by simp at e
  | c :: cs, _, 0, ⟨v, t, rfl, h1, h2⟩, e => by
    simp only [List.getElem?_cons_zero, Option.some.injEq] at e
    subst e
    exact ⟨v, t, rfl, ht v h1, h2⟩
  | c :: cs, _, p + 1, ⟨v, t, rfl, h1, h2⟩, e => by
    simp only [List.getElem?_cons_succ] at e
    exact ⟨v, t, rfl, h1, relL_set ht h2 e⟩
/-- An entry whose cell is told otherwise. -/
inductive CellTo (R : Seal) (p : Nat) (a' : AVal) : HEnt → HEnt → Prop
  | cells {b eT cs a} (hp : cs[p]? = some a) (ht : ∀ v, RelC R a [v] → RelC R a' [v]) : CellTo R p a' (.cells b eT cs) (.cells b eT (cs.set p a'))
  | row {v eT sz n cs a} (hp : cs[p]? = some a) (ht : ∀ v, RelC R a [v] → RelC R a' [v]) : CellTo R p a' (.row v eT sz n cs) (.row v eT sz n (cs.set p a'))
theorem CellTo.holds {R : Seal} {p : Nat} {a' : AVal} {x y : HEnt} {w : World} (h : CellTo R p a' x y) (hx : x.holds R w) : y.holds R w ∧ y.blk = x.blk := by
  cases h with
  | cells hp ht =>
    obtain ⟨C, e, fz, hb, hl, hf⟩ := hx
    exact ⟨⟨C, e, fz, hb, relL_set ht hl hp, hf⟩, rfl⟩
  | row hp ht =>
    rename_i v eT sz n cs a
    obtain ⟨hlen, y⟩ := hx
    refine ⟨⟨by rw [List.length_set]; exact hlen, ?_⟩, by cases v with | slice a l c => cases a <;> rfl | _ => rfl⟩
    rcases y with ⟨h1, h2⟩ | ⟨b, cap, C, e, fz, rfl, hb, hs, hn, hl, hf⟩
    · exact .inl ⟨h1, h2⟩
    · exact .inr ⟨b, cap, C, e, fz, rfl, hb, hs, hn, relL_set ht hl hp, hf⟩
def To (C : Ctx) (n : Nat) (e : Env) (h : Heap) (e' : Env) (h' : Heap) : Prop :=
  ∀ R a w, MS C R h w → FS C.D n R e a → ∃ R', R.le R' ∧ MS C R' h' w ∧ FS C.D n R' e' a
section
variable {C : Ctx} {n : Nat} {e e' e'' : Env} {h h' h'' : Heap}
theorem to_trans (a : To C n e h e' h') (b : To C n e' h' e'' h'') : To C n e h e'' h'' := fun R x w hm hf =>
  let ⟨R1, l1, m1, f1⟩ := a R x w hm hf
  let ⟨R2, l2, m2, f2⟩ := b R1 x w m1 f1
  ⟨R2, Seal.le_trans l1 l2, m2, f2⟩
theorem to_sub (hs : Env.sub e e') (hh : h'.Sublist h) : To C n e h e' h' := fun R _ _ hm hf => ⟨R, Seal.le_refl R, hm.drop hh, hf.sub hs⟩
theorem to_own {k i : Nat} {v : Value} (hv : vAgg v = false) (hk : Env.get e k = some (.raw v)) : To C n e h ((k, .own i v) :: e) h := fun R _ _ hm hf => ⟨R, Seal.le_refl R, hm, fs_own hv hk hf⟩
theorem to_ghost (sz : Nat) : To C n e h e (h ++ [.row (.slice none 0 0) none sz 0 []]) := fun R a w hm hf => by
  refine ⟨R, Seal.le_refl R, MS.perm (H := .row (.slice none 0 0) none sz 0 [] :: h) ?_ (List.perm_append_singleton _ h).symm, hf⟩
  refine ⟨hm.sealed, hm.ge, hm.fresh, ⟨fun z hz => ?_, hm.heap.nodup, fun z hz b hb => ?_⟩, fun z hz b hb => ?_, hm.ext⟩
  · rcases List.mem_cons.1 hz with rfl | hz
    · exact ⟨by simp, .inl ⟨rfl, rfl⟩⟩
    · exact hm.heap.holds z hz
  · rcases List.mem_cons.1 hz with rfl | hz
    · cases hb
    · exact hm.heap.apart z hz b hb
  · rcases List.mem_cons.1 hz with rfl | hz
    · cases hb
    · exact hm.own z hz b hb
theorem to_cell {i p : Nat} {a' : AVal} {x y : HEnt} (hi : h[i]? = some x) (hc : ∀ R, CellTo R p a' x y) : To C n e h e (h.set i y) := fun R a w hm hf => by
  obtain ⟨h1, h2⟩ := (hc R).holds (hm.heap.holds x (List.mem_of_getElem? hi))
  exact ⟨R, Seal.le_refl R, hm.setEnt hi h2 h1, hf⟩
/-- A row of the call's own is sealed; the cell that holds it is told so. -/
theorem to_seal {i k p sz m : Nat} {v : Value} {eT : Option TypeId} {cs : List AVal} {x y : HEnt} (f : Nat → AVal) (hi : h[i]? = some (.row v eT sz m cs)) (hk : (h.eraseIdx i)[k]? = some x)
    (hf : ∀ j, j < m → (f j).cells = (cs.drop (j * sz)).take sz ∧ (f j).plain = true) (hc : ∀ R, Rel R (.list sz m f) v → CellTo R p (.list sz m f) x y) : To C n e h e ((h.eraseIdx i).set k y) := fun R a w hm hfs => by
  obtain ⟨R', hle, hm', hr⟩ := MS.seal_row (hm.perm (perm_front hi)) hf
  obtain ⟨h1, h2⟩ := (hc R' hr).holds (hm'.heap.holds x (List.mem_of_getElem? hk))
  exact ⟨R', hle, hm'.setEnt hk h2 h1, hfs.mono hle⟩
theorem own_list {R : Seal} {j sz m : Nat} {u v : Value} {f : Nat → AVal} (hr : Rel R (.list sz m f) v) : RelC R (.own j v) [u] → RelC R (.list sz m f) [u] := by
  rintro ⟨e, _⟩
  simp only [List.cons.injEq, and_true] at e
  subst e
  exact rel_one hr rfl
theorem nil_own {R : Seal} {j : Nat} {u : Value} : RelC R (.raw (.slice none 0 0)) [u] → RelC R (.own j (.slice none 0 0)) [u] := by
  intro e
  have e : [u] = [.slice none 0 0] := e
  exact ⟨e, rfl⟩
theorem nil_list {R : Seal} {sz : Nat} {f : Nat → AVal} {u : Value} : RelC R (.raw (.slice none 0 0)) [u] → RelC R (.list sz 0 f) [u] := by
  intro e
  have e : [u] = [.slice none 0 0] := e
  exact ⟨none, 0, e, Nat.le_refl _, .inl rfl⟩
end
section
variable {P : Program} [Tab P] {C : Ctx} {n : Nat} {env : Env} {H : Heap} {Q : AExit → Env → Heap → Prop} {G : Glo} {GL : List (Nat × List AVal)}
structure NxT {X : Type} (C : Ctx) (n : Nat) (I : X → Env) (J : X → Heap) (Inv : X → Prop) (μ : X → Nat) (x : X) (e : Env) (h : Heap) : Prop where
  h : ∃ x', Inv x' ∧ μ x' < μ x ∧ To C n e h (I x') (J x')
theorem nxT {X : Type} {I : X → Env} {J : X → Heap} {Inv : X → Prop} {μ : X → Nat} {x : X} {e : Env} {h : Heap} (x' : X) (h1 : Inv x') (h2 : μ x' < μ x) (h3 : To C n e h (I x') (J x')) : NxT C n I J Inv μ x e h := ⟨⟨x', h1, h2, h3⟩⟩
theorem lpT {c : Code} {X : Type} (hC : C.G = G) (hGL : GloAll G GL) (I : X → Env) (J : X → Heap) (Inv : X → Prop) (μ : X → Nat) (x0 : X) (h0 : Inv x0) (hto : To C n env H (I x0) (J x0))
    (round : ∀ x, Inv x → codeX P C n G GL c (I x) (J x) (thenQ (fun e h => NxT C n I J Inv μ x e h) Q)) : Lp P C n c env H Q := by
  refine ⟨fun R a w hm hf => ?_⟩
  obtain ⟨R0, _, hm, hf⟩ := hto R a w hm hf
  refine wp_loop_ghost (fun m a w => ∃ x R, Inv x ∧ μ x = m ∧ MS C R (J x) w ∧ FS C.D n R (I x) a) (μ x0) ⟨x0, R0, h0, rfl, hm, hf⟩ ?_
  rintro m a w ⟨x, R, hx, rfl, hm, hf⟩
  refine wp_mono (codeX_ok hC hGL _ _ _ _ (round x hx) R a w hm hf) ?_
  rintro e a' w' ⟨x', en, H', R', q, er, hm', hf'⟩
  cases x' with
  | normal =>
    simp only [ExitRel] at er; subst er
    obtain ⟨x', hx', hlt, hto⟩ := NxT.h q
    obtain ⟨R2, _, hm2, hf2⟩ := hto R' a' w' hm' hf'
    exact ⟨μ x', hlt, x', R2, hx', rfl, hm2, hf2⟩
  | exit i => simp only [ExitRel] at er; subst er; exact ⟨.exit i, en, H', R', q, rfl, hm', hf'⟩
  | goto i => simp only [ExitRel] at er; subst er; exact ⟨.goto i, en, H', R', q, rfl, hm', hf'⟩
  | ret => simp only [ExitRel] at er; subst er; exact ⟨.ret, en, H', R', q, rfl, hm', hf'⟩
  | panic v => obtain ⟨y, rfl, hr⟩ := er; exact ⟨.panic v, en, H', R', q, ⟨y, rfl, hr⟩, hm', hf'⟩
omit [Tab P] in
omit [Tab P] in
/-- What is handed back may be told otherwise. -/
def ResTo (res : ARes) (H : Heap) (v : AVal) : Prop := ∀ (C : Ctx) (R : Seal) (w : World) (e : Ending), MS C R H w → EndRel R res e → ∃ R', MS C R' [] w ∧ EndRel R' (.ret v) e
omit [Tab P] in
theorem fn_told {f : FuncId} {avs : List AVal} {H : Heap} {Qf : ARes → Heap → Prop} {v : AVal} (h : FnSpec P G f avs H Qf) (hq : ∀ r H', Qf r H' → ResTo r H' v) : FnSpec P G f avs H (fun r H' => r = .ret v ∧ H' = []) := by
  intro R w args hG hm ha
  rcases h R w args hG hm ha with ⟨h1, h2⟩ | ⟨x, w', h1, res, H', R', q, er, hm'⟩
  · exact .inl ⟨h1, h2.mono fun e w' ⟨res, H', R', q, er, hm'⟩ => let ⟨R2, m2, e2⟩ := hq _ _ q _ _ _ _ hm' er; ⟨.ret v, [], R2, ⟨rfl, rfl⟩, e2, m2⟩⟩
  · obtain ⟨R2, m2, e2⟩ := hq _ _ q _ _ _ _ hm' er
    exact .inr ⟨x, w', h1, .ret v, [], R2, ⟨rfl, rfl⟩, e2, m2⟩
end
end Go.Proofs.YtkmpcdlmeiophaaGreatDoor
namespace Go.Proofs.YtkmpcdlmeiophaaGreatDoor
open Go Go.RowKit
theorem spec_cells {P : Program} [Tab P] {G : Glo} {f : FuncId} {avs : List AVal} {b : Nat} {eT : Option TypeId} {cs cs' : List AVal} {v : AVal}
    (hrun : ∀ R w Cs e fz args, w.heap[b]? = some (.cells Cs e fz) → RelL R cs Cs.toList → Loose fz Cs.size → RelV R avs args.toList → ∃ x w' Cs', (callFunc f args).run P w = .ok (.value x) w' ∧ Rel R v x ∧ OneBlk w b (.cells Cs' e fz) w' ∧ RelL R cs' Cs'.toList ∧ Cs'.size = Cs.size) :
    FnSpec P G f avs [.cells b eT cs] (fun r H => r = .ret v ∧ H = [.cells b eT cs']) := by
  intro R w args hG hm ha
  obtain ⟨Cs, e, fz, hb, hl, hfz, het⟩ := hm.heap.holds _ (List.mem_cons_self ..)
  obtain ⟨x, w', Cs', h1, h2, h3, h4, h5⟩ := hrun R w Cs e fz args hb hl hfz ha
  refine .inr ⟨x, w', h1, .ret v, [.cells b eT cs'], R, ⟨rfl, rfl⟩, ⟨x, rfl, h2⟩, ?_⟩
  exact hm.write (i := 0) rfl rfl h3 rfl ⟨Cs', e, fz, h3.at_, h4, by rw [h5]; exact hfz, het⟩
theorem oneBlk_refl {w : World} {b : Nat} {o : Obj} (h : w.heap[b]? = some o) : OneBlk w b o w := ⟨rfl, rfl, rfl, rfl, h, fun _ _ => rfl⟩
theorem oneBlk_set {w : World} {b off e : Nat} {Cs : Array Value} {fz : Nat × Nat} {v : Value} (h : w.heap[b]? = some (.cells Cs e fz)) (ho : off < Cs.size) : OneBlk w b (.cells (Cs.setIfInBounds off v) e fz) (w.setCell ⟨b, off, none⟩ v) := by
  have hlt : b < w.heap.size := by
    rcases Nat.lt_or_ge b w.heap.size with h1 | h1
    · exact h1
    · simp [Array.getElem?_eq_none h1] at h
  refine ⟨rfl, rfl, rfl, by simp [World.setCell], ?_, fun k hk => ?_⟩
  · simp only [World.setCell, Array.getElem?_modify, if_true, h, Option.map_some, Option.isSome_none, Bool.false_eq_true, if_false]
  · simp only [World.setCell, Array.getElem?_modify]
    rw [if_neg (fun e => hk e.symm)]
theorem relL_put {R : Seal} {a : AVal} {v : Value} (ha : RelC R a [v]) : ∀ {cs : List AVal} {vs : List Value} {p : Nat}, RelL R cs vs → p < cs.length → RelL R (cs.set p a) (vs.set p v)
  | [], _, _, _, h => absurd h (Nat.not_lt_zero _)
  | c :: cs, _, 0, ⟨u, t, rfl, h1, h2⟩, _ => ⟨v, t, rfl, ha, h2⟩
  | c :: cs, _, p + 1, ⟨u, t, rfl, h1, h2⟩, hp => ⟨u, _, rfl, h1, relL_put ha h2 (by simpa using hp)⟩
theorem arg1 {R : Seal} {v : Value} {args : Array Value} (h : RelV R [.raw v] args.toList) : args = #[v] := by
  obtain ⟨x, t, e, hx, rfl⟩ := h
  obtain rfl := rel_raw.1 (show Rel R (.raw v) x from hx)
  exact Array.ext' e
theorem arg2 {R : Seal} {v : Value} {k : IntKind} {n : Int} {args : Array Value} (h : RelV R [.raw v, .int k n] args.toList) : args = #[v, .int k n] := by
  obtain ⟨x, t, e, hx, y, t2, rfl, hy, rfl⟩ := h
  obtain rfl := rel_raw.1 (show Rel R (.raw v) x from hx)
  obtain rfl := rel_int.1 (show Rel R (.int k n) y from hy)
  exact Array.ext' e
theorem arg3 {R : Seal} {v : Value} {k k2 : IntKind} {n m : Int} {args : Array Value} (h : RelV R [.raw v, .int k n, .int k2 m] args.toList) : args = #[v, .int k n, .int k2 m] := by
  obtain ⟨x, t, e, hx, y, t2, rfl, hy, z, t3, rfl, hz, rfl⟩ := h
  obtain rfl := rel_raw.1 (show Rel R (.raw v) x from hx)
  obtain rfl := rel_int.1 (show Rel R (.int k n) y from hy)
  obtain rfl := rel_int.1 (show Rel R (.int k2 m) z from hz)
  exact Array.ext' e
section
variable {G : Glo} {b off : Nat} {eT : Option TypeId} {cs : List AVal}
abbrev pv (b off : Nat) : Value := .pointer (some ⟨b, off, none⟩)
theorem cell_int {R : Seal} {w : World} {Cs : Array Value} {e : Nat} {fz : Nat × Nat} {k : IntKind} {n : Int} (hb : w.heap[b]? = some (.cells Cs e fz)) (hl : RelL R cs Cs.toList) (hc : cs[off]? = some (.int k n)) : w.cell? ⟨b, off, none⟩ = some (.int k n) ∧ off < Cs.size := by
  obtain ⟨v, hv, hr⟩ := relL_get hl hc
  simp only [RelC, List.cons.injEq, and_true] at hr
  subst hr
  refine ⟨by simp only [World.cell?, hb]; simpa using hv, ?_⟩
  have := (List.getElem?_eq_some_iff.1 hv).1
  simpa using this
theorem not_frozen {w : World} {Cs : Array Value} {e : Nat} {fz : Nat × Nat} (hb : w.heap[b]? = some (.cells Cs e fz)) (hfz : Loose fz Cs.size) (ho : off < Cs.size) : w.frozen? ⟨b, off, none⟩ = false := by
  obtain ⟨lo, hi⟩ := fz
  simp only [World.frozen?, hb, Loose] at hfz ⊢
  simp
  omega
theorem at_load {n : Int} (hc : cs[off]? = some (.int .u32 n)) : FnSpec Tryz.prog G 87 [.raw (pv b off)] [.cells b eT cs] (fun r H => r = .ret (.int .u32 n) ∧ H = [.cells b eT cs]) := by
  refine spec_cells fun R w Cs e fz args hb hl hfz ha => ?_
  obtain rfl := arg1 ha
  obtain ⟨h1, _⟩ := cell_int hb hl hc
  exact ⟨_, _, Cs, run_call_load Tryz.func87 (by kernel_rfl) (by kernel_rfl) (by kernel_rfl) .u32 (by kernel_rfl) h1, rel_int.2 rfl, oneBlk_refl hb, hl, rfl⟩
theorem at_store {n y : Int} (hc : cs[off]? = some (.int .u32 n)) : FnSpec Tryz.prog G 95 [.raw (pv b off), .int .u32 y] [.cells b eT cs] (fun r H => r = .ret (.tuple []) ∧ H = [.cells b eT (cs.set off (.int .u32 y))]) := by
  refine spec_cells fun R w Cs e fz args hb hl hfz ha => ?_
  obtain rfl := arg2 ha
  obtain ⟨h1, ho⟩ := cell_int hb hl hc
  have hlen := relL_length hl
  rw [Array.length_toList] at hlen
  refine ⟨_, _, Cs.setIfInBounds off (.int .u32 y), run_call_store Tryz.func95 (by kernel_rfl) (by kernel_rfl) (by kernel_rfl) (by kernel_rfl) h1 (not_frozen hb hfz ho), ⟨⟨#[], rfl, rfl⟩, rfl⟩, oneBlk_set hb ho, ?_, by simp⟩
  rw [Array.toList_setIfInBounds]
  exact relL_put (show RelC R (.int .u32 y) [.int .u32 y] from rfl) hl (by omega)
theorem at_cas {n y : Int} (hc : cs[off]? = some (.int .i32 n)) : FnSpec Tryz.prog G 100 [.raw (pv b off), .int .i32 n, .int .i32 y] [.cells b eT cs] (fun r H => r = .ret (.bool true) ∧ H = [.cells b eT (cs.set off (.int .i32 y))]) := by
  refine spec_cells fun R w Cs e fz args hb hl hfz ha => ?_
  obtain rfl := arg3 ha
  obtain ⟨h1, ho⟩ := cell_int hb hl hc
  have hlen := relL_length hl
  rw [Array.length_toList] at hlen
  refine ⟨_, _, Cs.setIfInBounds off (.int .i32 y), run_call_cas_hit Tryz.func100 (by kernel_rfl) (by kernel_rfl) (by kernel_rfl) .i32 (by kernel_rfl) h1 (not_frozen hb hfz ho), rel_bool.2 rfl, oneBlk_set hb ho, ?_, by simp⟩
  rw [Array.toList_setIfInBounds]
  exact relL_put (show RelC R (.int .i32 y) [.int .i32 y] from rfl) hl (by omega)
theorem at_dec (hc : cs[off]? = some (.int .i32 1)) : FnSpec Tryz.prog G 105 [.raw (pv b off), .int .i32 (-1)] [.cells b eT cs] (fun r H => r = .ret (.int .i32 0) ∧ H = [.cells b eT (cs.set off (.int .i32 0))]) := by
  refine spec_cells fun R w Cs e fz args hb hl hfz ha => ?_
  obtain rfl := arg2 ha
  obtain ⟨h1, ho⟩ := cell_int hb hl hc
  have hlen := relL_length hl
  rw [Array.length_toList] at hlen
  refine ⟨_, _, Cs.setIfInBounds off (.int .i32 0), run_call_add Tryz.func105 (by kernel_rfl) (by kernel_rfl) (by kernel_rfl) .i32 (by kernel_rfl) (s := 0) h1 (not_frozen hb hfz ho) (by simp [go_sem]; rfl), rel_int.2 rfl, oneBlk_set hb ho, ?_, by simp⟩
  rw [Array.toList_setIfInBounds]
  exact relL_put (show RelC R (.int .i32 0) [.int .i32 0] from rfl) hl (by omega)
end
end Go.Proofs.YtkmpcdlmeiophaaGreatDoor
namespace Go.Proofs.YtkmpcdlmeiophaaGreatDoor
open Go
set_option linter.unusedSimpArgs false
set_option linter.unusedSectionVars false
set_option linter.unusedVariables false
/-- Which operation comes up next: one that may be taken first, or any of several. -/
inductive DPlan
  | done
  | take (i : Nat) (p : DPlan)
  | br (i : Nat) (p q : DPlan)
  | nil
def planB (ops : Array Oper) : DPlan → Nat → Array Bool → List Nat → Bool
  | .done, _, l, acc => acc.isEmpty && (Region.ready .any ops l).isEmpty
  | .take _ _, 0, _, _ => false
  | .take i p, k + 1, l, acc => acc.isEmpty && (Region.free .any ops l i && ((Region.ready .any ops l).contains i && planB ops p k (l.setIfInBounds i true) []))
  | .br _ _ _, 0, _, _ => false
  | .br i p q, k + 1, l, acc => planB ops p k (l.setIfInBounds i true) [] && planB ops q (k + 1) l (acc ++ [i])
  | .nil, _, l, acc => !acc.isEmpty && decide (Region.ready .any ops l = acc)
structure Both (a b : Prop) : Prop where
  l : a
  r : b
theorem bt_i {a b : Prop} (h : a) (k : b) : Both a b := ⟨h, k⟩
/-- Nothing serves here. -/
inductive Stk (ops : Array Oper) (i : Nat) (env : Env) (H : Heap) : Prop
/-- An operation's end: what stood stands. -/
inductive Og (kf : Bool) (H h : Heap) (k : Prop) : Prop
  | all (X : Heap) (e : h = H ++ X) (h : k)
  | none (e : kf = false) (h : k)
theorem og_n {H h : Heap} {k : Prop} (hk : k) : Og false H h k := .none rfl hk
theorem og_a {H h : Heap} {k : Prop} (X : Heap) (e : h = H ++ X) (hk : k) : Og true H h k := .all X e hk
/-- The end of a region. -/
inductive Fie {X : Type} (I : X → Env) (J : X → Heap) (e : Env) (h : Heap) : Prop
  | mk (x : X) (hs : Env.sub e (I x)) (hj : h = J x)
/-- The same, where more may be left. -/
inductive Fis {X : Type} (I : X → Env) (J : X → Heap) (e : Env) (h : Heap) : Prop
  | mk (x : X) (hs : Env.sub e (I x)) (hj : (J x).Sublist h)
section
/-- Whatever the call began with. -/
structure Bc (G : Glo) (k : Ctx → Prop) : Prop where
  h : ∀ C : Ctx, C.G = G → k C
theorem bc_i {G : Glo} {k : Ctx → Prop} (h : ∀ C : Ctx, C.G = G → k C) : Bc G k := ⟨h⟩
variable (P : Program) [Tab P] (n : Nat) (G : Glo) (GL : List (Nat × List AVal))
def hk (kf : Bool) (H : Heap) : Heap := match kf with
  | true => H
  | false => []
def takeX (kf : Bool) (ops : Array Oper) (i : Nat) (ih : Env → Heap → Prop) (env : Env) (H : Heap) : Prop :=
  match ops[i]? with
  | some o => guardX ops env o.guard (Stk ops i env H)
    (fun env' => match o.dst with
      | some d => match Nat.ble (d + 1) n with
        | true => fixX P GL (hk kf H) env' o.op (Stk ops i env' H) fun av => ih ((d, av) :: env') H
        | false => Stk ops i env' H
      | none => Stk ops i env' H)
    (fun env' => match o.dst with
      | some d => match Nat.ble (d + 1) n with
        | true => ih ((d, .raw undef) :: env') H
        | false => Stk ops i env' H
      | none => ih env' H)
  | none => Stk ops i env H
/-- What a panic leaves: where slots are to be kept, they too. -/
@[reducible] def KE (E : Env) (K : Prop) (e : Env) : Prop := match E with
  | [] => K
  | _ :: _ => K ∧ Env.sub e E
theorem ke_k {E : Env} {K : Prop} {e : Env} (h : KE E K e) : K := by
  cases E with
  | nil => exact h
  | cons x l => exact h.1
theorem ke_sub {E : Env} {K : Prop} {e : Env} (h : KE E K e) : Env.sub e E := by
  cases E with
  | nil => trivial
  | cons x l => exact h.2
def dstFree (ops : Array Oper) (E : Env) : Bool := ops.toList.all fun o => match o.dst with
  | some d => (Env.get E d).isNone
  | none => true
def brX (E : Env) (Kp : AVal → Heap → Prop) (kf : Bool) (ops : Array Oper) (i : Nat) (ih : Env → Heap → Prop) (env : Env) (H : Heap) : Prop :=
  match ops[i]? with
  | some o => Bc G fun C => opsX P C n G GL ops (fun x e h => match x with
    | .normal => Og kf H h (ih e h)
    | .panic v => KE E (Kp v h) e
    | _ => False) [o] env H
  | none => Stk ops i env H
noncomputable def dpX (E : Env) (Kp : AVal → Heap → Prop) (kf : Bool) (ops : Array Oper) (Q : Env → Heap → Prop) (p : DPlan) : Env → Heap → Prop :=
  DPlan.rec (motive := fun _ => Env → Heap → Prop) Q (fun i _ ih => takeX P n GL kf ops i ih) (fun i _ _ ihp ihq env H => Both (brX P n G GL E Kp kf ops i ihp env H) (ihq env H)) (fun _ _ => True) p
end
theorem wpAnyH_S {P : Program} {ops : Array Oper} {Q : Exit → Act → World → Prop} {md : Region.Mode} {S S' : World → Prop} (h : ∀ w, S' w → S w) : ∀ (fuel : Nat) (listed : Array Bool) (a : Act) (w : World), wpAnyH P md ops Q S' fuel listed a w → wpAnyH P md ops Q S fuel listed a w
  | 0, _, _, _, k => k
  | fuel + 1, _, _, _, k => ⟨k.1, fun i hi => wpOp_mono (fun a' w' k' => ⟨h _ k'.1, wpAnyH_S h fuel _ a' w' k'.2⟩) (k.2 i hi)⟩
def reCtx (C : Ctx) (R : Seal) (hR : C.R0.le R) : Ctx := ⟨C.w0, R, C.B0, C.G, C.G.mono _ _ hR C.hG, C.D⟩
theorem MS.re {C : Ctx} {R : Seal} {H : Heap} {w : World} (h : MS C R H w) : MS (reCtx C R h.ge) R H w :=
  ⟨h.sealed, Seal.le_refl R, fun b hb => .inl hb, h.heap, h.own, h.ext⟩
theorem MS.back {C : Ctx} {R R' : Seal} {H H' : Heap} {w w' : World} (h : MS C R H w) (k : MS (reCtx C R h.ge) R' H' w') : MS C R' H' w' :=
  ⟨k.sealed, Seal.le_trans h.ge k.ge, fun b hb => (k.fresh b hb).elim (h.fresh b) .inr, k.heap, k.own, k.ext⟩
section
variable {P : Program} [Tab P] {n : Nat} {env : Env} {H : Heap} {ops : Array Oper} {G : Glo} {GL : List (Nat × List AVal)} {kf : Bool}
/-- What is asked of the world through a region. -/
def DS (C : Ctx) (kf : Bool) (R : Seal) (H : Heap) (w : World) : Prop := ∃ R' X, R.le R' ∧ MS C R' (hk kf H ++ X) w
theorem ds_of {C : Ctx} {R : Seal} {w : World} (h : MS C R H w) : DS C kf R H w := by
  cases kf with
  | true => exact ⟨R, [], Seal.le_refl R, by simpa [hk] using h⟩
  | false => exact ⟨R, H, Seal.le_refl R, by simpa [hk] using h⟩
def QN (E : Env) (Q : Env → Heap → Prop) (Kp : AVal → Heap → Prop) : AExit → Env → Heap → Prop
  | .normal, e, h => Q e h
  | .panic v, e, h => e = E ∧ Kp v h
  | _, _, _ => False
theorem qn_put {E : Env} {C : Ctx} {Q : Env → Heap → Prop} {Kp : AVal → Heap → Prop} {c : List PanicEntry} {a : Act} {w : World} {d : Option Nat} {v : Value} (hd : ∀ k, d = some k → Env.get E k = none) (hp : Post C n (QN E Q Kp) (.panic c) (a.put d v) w) : Post C n (QN E Q Kp) (.panic c) a w := by
  obtain ⟨x, e, h, R, hq, hr, hm, hf⟩ := hp
  cases x with
  | panic y =>
    obtain ⟨rfl, hk⟩ := hq
    refine ⟨.panic y, _, h, R, ⟨rfl, hk⟩, hr, hm, ⟨fun k u hk => ?_, ?_, ?_⟩⟩
    · obtain ⟨y, hy, hr⟩ := hf.fr k u hk
      refine ⟨y, ?_, hr⟩
      cases d with
      | none => exact hy
      | some d =>
        have hkd : d ≠ k := fun e => by have := hd d rfl; rw [e, hk] at this; cases this
        simpa [Act.put, Array.getElem?_setIfInBounds, hkd] using hy
    · have := hf.size
      cases d with
      | none => exact this
      | some d => simpa [Act.put] using this
    · have := hf.defers
      cases d with
      | none => exact this
      | some d => exact this
  | normal => exact absurd (show Exit.panic c = .normal from hr) (by simp)
  | exit i => exact hq.elim
  | goto i => exact hq.elim
  | ret => exact hq.elim
theorem dst_free {E : Env} (h : dstFree ops E = true) {i : Nat} {o : Oper} (hi : ops[i]? = some o) : ∀ k, o.dst = some k → Env.get E k = none := fun k hk => by
  unfold dstFree at h
  have := List.all_eq_true.1 h o (Array.mem_toList_iff.2 (Array.mem_of_getElem? hi))
  rw [hk] at this
  exact Option.isNone_iff_eq_none.1 this
theorem dst_nil : dstFree ops [] = true := by
  unfold dstFree
  rw [List.all_eq_true]
  intro o _
  cases o.dst <;> rfl
def DA (P : Program) (G : Glo) (n : Nat) (ops : Array Oper) (kf : Bool) (E : Env) (Q : Env → Heap → Prop) (Kp : AVal → Heap → Prop) (fuel : Nat) (listed : Array Bool) (env : Env) (H : Heap) : Prop :=
  ∀ C : Ctx, C.G = G → ∀ R a w, MS C R H w → FS C.D n R env a → wpAnyH P .any ops (Post C n (QN E Q Kp)) (DS C kf R H) fuel listed a w
variable {E : Env} {Q : Env → Heap → Prop} {Kp : AVal → Heap → Prop} {fuel : Nat} {listed : Array Bool} {i : Nat} {o : Oper} {av : AVal}
theorem da_yield {env' : Env} {C : Ctx} (hC : C.G = G) {R : Seal} {a : Act} {w : World} (hm : MS C R H w) (hE : dstFree ops E = true) (hns : Region.noSelect ops = true) (hi : ops[i]? = some o) (hf : Region.free .any ops listed i = true) (hr : (Region.ready .any ops listed).contains i = true)
    (hy : ∃ x, YieldsIf P ops (DS C kf R H) o x a ∧ FS C.D n R env' (a.put o.dst x)) (h : DA P G n ops kf E Q Kp fuel (listed.setIfInBounds i true) env' H) : wpAnyH P .any ops (Post C n (QN E Q Kp)) (DS C kf R H) (fuel + 1) listed a w := by
  obtain ⟨x, h1, h2⟩ := hy
  exact wpAnyH_take hi hns hf hr (fun c a w hp => qn_put (dst_free hE hi) hp) h1 (ds_of hm) (h C hC R _ w hm h2)
theorem da_env {env' : Env} (hs : ∀ {D : List Deferred} R a, FS D n R env a → FS D n R env' a) (h : DA P G n ops kf E Q Kp fuel listed env' H) : DA P G n ops kf E Q Kp fuel listed env H := fun C hC R a w hm hf => h C hC R a w hm (hs R a hf)
theorem da_split {b : Bool} {d : Nat} (hv : Env.get env d = some (.bool b))
    (ht : b = true → DA P G n ops kf E Q Kp fuel listed ((d, .bool true) :: env) H) (hf : b = false → DA P G n ops kf E Q Kp fuel listed ((d, .bool false) :: env) H) : DA P G n ops kf E Q Kp fuel listed env H := by
  have key : ∀ x, b = x → ∀ {D : List Deferred} R a, FS D n R env a → FS D n R ((d, .bool x) :: env) a := by
    rintro x rfl D R a hfr
    refine ⟨fun k v hk => ?_, hfr.size, hfr.defers⟩
    simp only [Env.get] at hk
    cases hb : Nat.beq d k with
    | true =>
      rw [hb] at hk
      have := Nat.eq_of_beq_eq_true hb
      subst this
      simp only [Option.some.injEq] at hk
      subst hk
      exact hfr.fr d _ hv
    | false => rw [hb] at hk; exact hfr.fr k v hk
  cases hb : b with
  | true => exact da_env (key true hb) (ht hb)
  | false => exact da_env (key false hb) (hf hb)
theorem guardSlot_unwanted {D : List Deferred} {R : Seal} {a : Act} {e : Nat} (hs : guardSlot ops o.guard = some e) (hv : Env.get env e = some (.raw undef)) (hf : FS D n R env a) : Region.wanted o (yielded ops a.tmps) = false := by
  unfold guardSlot at hs
  unfold Region.wanted
  split at hs
  · rename_i j want h
    rw [h]
    split at hs
    · rename_i o' ho
      obtain ⟨x, hx, hr⟩ := hf.fr e _ hv
      rw [rel_raw.1 hr] at hx
      simp [yielded, ho, hs, hx, undef]
    · cases hs
  · cases hs
theorem take_ok (hE : dstFree ops E = true) (hGL : GloAll G GL) (hns : Region.noSelect ops = true) (hf : Region.free .any ops listed i = true) (hr : (Region.ready .any ops listed).contains i = true) {ih : Env → Heap → Prop}
    (hih : ∀ env H, ih env H → DA P G n ops kf E Q Kp fuel (listed.setIfInBounds i true) env H) (h : takeX P n GL kf ops i ih env H) : DA P G n ops kf E Q Kp (fuel + 1) listed env H := by
  unfold takeX at h
  split at h
  case h_2 => cases h
  rename_i o ho
  have run : ∀ env' b, guardA ops env' o.guard = some (b, b) → (match o.dst with
      | some d => match Nat.ble (d + 1) n with
        | true => fixX P GL (hk kf H) env' o.op (Stk ops i env' H) fun av => ih ((d, av) :: env') H
        | false => Stk ops i env' H
      | none => Stk ops i env' H) → DA P G n ops kf E Q Kp (fuel + 1) listed env' H := by
    intro env' b hg h
    split at h
    · rename_i d hd
      split at h
      · rename_i hdn
        intro C hC R a w hm hfs
        rcases fixX_ok (C := C) (GL := GL) (by rw [hC]; exact hGL) h with h | ⟨av, h1, h2⟩
        · cases h
        · refine da_yield (env' := (d, av) :: env') hC hm hE hns ho hf hr ?_ (hih _ _ h2)
          obtain ⟨x, hx, hrun⟩ := h1 R a.eval (fun x a hx => hfs.eval hx)
          refine ⟨x, .inl ⟨by rw [wanted_of hfs hg]; simp, ?_⟩, by rw [hd]; exact hfs.put hdn hx⟩
          rintro w' ⟨R', X, hle, hms⟩
          exact hrun R' w' hle (hms.drop (List.sublist_append_left _ _)) o.dst o.type o.pos o.after o.guard
      · cases h
    · cases h
  have skip : ∀ env', (∀ {D : List Deferred} R a, FS D n R env' a → Region.wanted o (yielded ops a.tmps) = false) → (match o.dst with
      | some d => match Nat.ble (d + 1) n with
        | true => ih ((d, .raw undef) :: env') H
        | false => Stk ops i env' H
      | none => ih env' H) → DA P G n ops kf E Q Kp (fuel + 1) listed env' H := by
    intro env' hw h
    split at h
    · rename_i d hd
      split at h
      · rename_i hdn
        intro C hC R a w hm hfs
        refine da_yield (env' := (d, .raw undef) :: env') hC hm hE hns ho hf hr ⟨undef, .inr ⟨hw R a hfs, rfl⟩, ?_⟩ (hih _ _ h)
        rw [hd]
        exact hfs.put hdn (rel_raw.2 rfl)
      · cases h
    · rename_i hd
      intro C hC R a w hm hfs
      refine da_yield (env' := env') hC hm hE hns ho hf hr ⟨undef, .inr ⟨hw R a hfs, rfl⟩, ?_⟩ (hih _ _ h)
      rw [hd]
      exact hfs
  unfold guardX at h
  split at h
  · rename_i hgn
    exact run env true (by rw [hgn]; rfl) h
  · rename_i j want hgn
    split at h
    case h_2 => cases h
    rename_i o' ho'
    split at h
    case h_2 => cases h
    rename_i e he
    split at h
    · rename_i b hb
      have hgT : ∀ v, guardA ops ((e, .bool v) :: env) o.guard = some (v, want) := fun v => by rw [hgn]; exact guard_const ho' he
      split at h
      · refine da_split hb (fun hv => ?_) (fun hv => ?_)
        · exact run _ true (hgT true) (h.1 hv)
        · exact skip _ (fun R a hfs => by rw [wanted_of hfs (hgT false)]; rfl) (h.2 hv)
      · refine da_split hb (fun hv => ?_) (fun hv => ?_)
        · exact skip _ (fun R a hfs => by rw [wanted_of hfs (hgT true)]; rfl) (h.1 hv)
        · exact run _ false (hgT false) (h.2 hv)
    · rename_i v hv
      have hgS : guardSlot ops o.guard = some e := by rw [hgn]; simp only [guardSlot, ho', he]
      obtain ⟨rfl, h⟩ := h
      exact skip _ (fun R a hfs => guardSlot_unwanted hgS hv hfs) h
    · cases h
theorem wpOp_of_list {QP : Exit → Act → World → Prop} {K : Act → World → Prop} {Q' : Exit → Act → World → Prop} {a : Act} {w : World} (hi : ops[i]? = some o) (hp : ∀ c a w, Q' (.panic c) a w → QP (.panic c) a w) (ho : ∀ a w, ¬ Q' .outgrown a w) (hK : ∀ a w, Q' .normal a w → K a w)
    (h : wpList P ops Q' [o] a w) : wpOp P ops QP i K a w := by
  unfold wpOp
  rw [hi]
  simp only [wpList] at h
  dsimp only
  split at h
  · rename_i hw
    rw [if_pos hw]
    rcases h with h | ⟨_, a, w, h⟩
    · refine .inl ?_
      unfold Oper.wp at h ⊢
      generalize (execOp a.eval o).run P w = r at h ⊢
      cases r with
      | ok n w' =>
        cases n <;> simp only [Oper.upon] at h ⊢
        case value u => exact hK _ _ h
        case skip => exact hK _ _ h
        case defer d => exact hK _ _ h
        case enter f args =>
          refine Calls.mono h fun e w'' he => ?_
          cases e with
          | returned u => exact hK _ _ he
          | panicked c => exact hp _ _ _ he
          | outgrown => obtain ⟨a, w, he⟩ := he; exact absurd he (ho _ _)
        case row row args => exact Rows.mono h fun u w'' he => hK _ _ he
      | halt x w' =>
        cases x <;> simp only [Oper.upon] at h ⊢
        case panic u => exact hp _ _ _ h
    · exact absurd h (ho _ _)
  · rename_i hw
    rw [if_neg hw]
    exact hK _ _ h
theorem br_ok (hGL : GloAll G GL) {ih : Env → Heap → Prop} (hih : ∀ env H, ih env H → DA P G n ops kf E Q Kp fuel (listed.setIfInBounds i true) env H)
    {C : Ctx} (hC : C.G = G) (h : brX P n G GL E Kp kf ops i ih env H) {R : Seal} {a : Act} {w : World} (hm : MS C R H w) (hfs : FS C.D n R env a) :
    wpOp P ops (Post C n (QN E Q Kp)) i (fun a' w' => DS C kf R H w' ∧ wpAnyH P .any ops (Post C n (QN E Q Kp)) (DS C kf R H) fuel (listed.setIfInBounds i true) a' w') a w := by
  unfold brX at h
  split at h
  case h_2 => cases h
  rename_i o ho
  have h1 := opsX_ok (C := reCtx C R hm.ge) (show (reCtx C R hm.ge).G = G from hC) hGL _ _ _ (h.h _ hC) R a w hm.re hfs
  refine wpOp_of_list ho ?_ ?_ ?_ h1
  · rintro c a w ⟨x, e, h, R', hq, hr, hm', hf'⟩
    cases x with
    | normal => exact absurd (show Exit.panic c = .normal from hr) (by simp)
    | panic v => exact ⟨.panic v, E, h, R', ⟨rfl, ke_k hq⟩, hr, hm.back hm', hf'.sub (ke_sub hq)⟩
    | _ => exact hq.elim
  · rintro a w ⟨x, e, h, R', hq, hr, _⟩
    cases x with
    | normal => exact absurd (show Exit.outgrown = .normal from hr) (by simp)
    | panic v => obtain ⟨y, hy, _⟩ := hr; cases hy
    | _ => exact hq.elim
  · rintro a' w' ⟨x, e, h', R', hq, hr, hm', hf'⟩
    have hle : R.le R' := hm'.ge
    have hm2 := hm.back hm'
    have step : (∃ X, hk kf h' = hk kf H ++ X) → ih e h' → DS C kf R H w' ∧ wpAnyH P .any ops (Post C n (QN E Q Kp)) (DS C kf R H) fuel (listed.setIfInBounds i true) a' w' := by
      rintro ⟨X, hX⟩ k
      have sub : ∀ w, DS C kf R' h' w → DS C kf R H w := by
        rintro w ⟨R2, X2, hle2, hms⟩
        rw [hX, List.append_assoc] at hms
        exact ⟨R2, X ++ X2, Seal.le_trans hle hle2, hms⟩
      exact ⟨sub _ (ds_of hm2), wpAnyH_S sub _ _ _ _ (hih _ _ k C hC R' a' w' hm2 hf')⟩
    cases x with
    | normal =>
      cases hq with
      | all X e k =>
        refine step ?_ k
        subst e
        cases kf
        · exact ⟨[], rfl⟩
        · exact ⟨X, rfl⟩
      | none e k => subst e; exact step ⟨[], rfl⟩ k
    | panic v => obtain ⟨y, hy, _⟩ := hr; cases hy
    | _ => exact hq.elim
/-- The plan, sound. -/
theorem dp_ok (hE : dstFree ops E = true) (hGL : GloAll G GL) (hns : Region.noSelect ops = true) : ∀ (p : DPlan) (fuel : Nat) (listed : Array Bool) (acc : List Nat) (env : Env) (H : Heap), planB ops p fuel listed acc = true → dpX P n G GL E Kp kf ops Q p env H →
    (acc = [] → DA P G n ops kf E Q Kp fuel listed env H) ∧ (acc ≠ [] → ∀ C : Ctx, C.G = G → ∀ R a w, MS C R H w → FS C.D n R env a → ∃ f, (∀ k, fuel = k + 1 → f = k) ∧ Region.ready .any ops listed ≠ [] ∧
      ∀ i ∈ Region.ready .any ops listed, i ∈ acc ∨ wpOp P ops (Post C n (QN E Q Kp)) i (fun a' w' => DS C kf R H w' ∧ wpAnyH P .any ops (Post C n (QN E Q Kp)) (DS C kf R H) f (listed.setIfInBounds i true) a' w') a w) := by
  intro p
  induction p with
  | done =>
    intro fuel listed acc env H hp h
    simp only [planB, Bool.and_eq_true, List.isEmpty_iff] at hp
    refine ⟨fun _ C hC R a w hm hfs => wpAnyH_done hp.2 ⟨.normal, env, H, R, h, rfl, hm, hfs⟩ fuel, fun ha => absurd hp.1 ha⟩
  | take i p ih =>
    intro fuel listed acc env H hp h
    cases fuel with
    | zero => simp [planB] at hp
    | succ fuel =>
      simp only [planB, Bool.and_eq_true, List.isEmpty_iff] at hp
      obtain ⟨h1, h2, h3, h4⟩ := hp
      exact ⟨fun _ => take_ok hE hGL hns h2 h3 (fun env H k => (ih fuel _ [] env H h4 k).1 rfl) h, fun ha => absurd h1 ha⟩
  | br i p q ihp ihq =>
    intro fuel listed acc env H hp h
    cases fuel with
    | zero => simp [planB] at hp
    | succ fuel =>
      simp only [planB, Bool.and_eq_true] at hp
      obtain ⟨hl, hr⟩ : Both (brX P n G GL E Kp kf ops i (dpX P n G GL E Kp kf ops Q p) env H) (dpX P n G GL E Kp kf ops Q q env H) := h
      have hq := (ihq (fuel + 1) listed (acc ++ [i]) env H hp.2 hr).2 (by simp)
      have key : ∀ C : Ctx, C.G = G → ∀ R a w, MS C R H w → FS C.D n R env a → Region.ready .any ops listed ≠ [] ∧
          ∀ j ∈ Region.ready .any ops listed, j ∈ acc ∨ wpOp P ops (Post C n (QN E Q Kp)) j (fun a' w' => DS C kf R H w' ∧ wpAnyH P .any ops (Post C n (QN E Q Kp)) (DS C kf R H) fuel (listed.setIfInBounds j true) a' w') a w := by
        intro C hC R a w hm hfs
        obtain ⟨f, hf, hne, hall⟩ := hq C hC R a w hm hfs
        obtain rfl := hf fuel rfl
        refine ⟨hne, fun j hj => ?_⟩
        rcases hall j hj with hj' | hj'
        · rcases List.mem_append.1 hj' with hj' | hj'
          · exact .inl hj'
          · rw [List.mem_singleton] at hj'
            subst hj'
            exact .inr (br_ok hGL (fun env H k => (ihp f _ [] env H hp.1 k).1 rfl) hC hl hm hfs)
        · exact .inr hj'
      refine ⟨fun ha C hC R a w hm hfs => ?_, fun _ C hC R a w hm hfs => ⟨fuel, fun k hk => by omega, key C hC R a w hm hfs⟩⟩
      obtain ⟨hne, hall⟩ := key C hC R a w hm hfs
      refine wpAnyH_all rfl hne fun j hj => ?_
      rcases hall j hj with hj' | hj'
      · rw [ha] at hj'; cases hj'
      · exact hj'
  | nil =>
    intro fuel listed acc env H hp h
    simp only [planB, Bool.and_eq_true, Bool.not_eq_true', List.isEmpty_eq_false_iff, decide_eq_true_eq] at hp
    obtain ⟨h1, h2⟩ := hp
    refine ⟨fun ha => absurd ha h1, fun _ C hC R a w hm hfs => ⟨fuel - 1, fun k hk => by omega, by rw [h2]; exact h1, fun i hi => .inl (by rw [h2] at hi; exact hi)⟩⟩
/-- A region that draws, by a plan; what holds behind it, whatever the order; what a panic leaves. -/
theorem dw_pp {X : Type} {C : Ctx} {id : Nat} {QQ : AExit → Env → Heap → Prop} (hm : P.follows .mixedOrders = true) (hC : C.G = G) (hGL : GloAll G GL) (kf : Bool) (Kp : AVal → Heap → Prop) (I : X → Env) (J : X → Heap) (plan : DPlan)
    (hB : (Region.noSelect ops && planB ops plan ops.size (Array.replicate ops.size false) []) = true) (h : dpX P n G GL [] Kp kf ops (Fis I J) plan env H) (k : ∀ x, QQ .normal (I x) (J x)) (kp : ∀ v h, Kp v h → QQ (.panic v) [] h) : Dw P C n id ops env H QQ := by
  simp only [Bool.and_eq_true] at hB
  have hd := (dp_ok dst_nil hGL hB.1 plan _ _ [] env H hB.2 h).1 rfl
  refine ⟨fun R a w hms hfs => ?_⟩
  refine wp_mono (wp_region_held (S := DS C kf R H) hm (hd C hC R a _ (hms.drawn _) hfs)) ?_
  rintro ex a w ⟨x, e, h, R, hq, hr, hm', hf'⟩
  cases x with
  | normal =>
    obtain ⟨x0, hs, hj⟩ := hq
    exact ⟨.normal, I x0, J x0, R, k x0, hr, hm'.drop hj, hf'.sub hs⟩
  | panic v =>
    obtain ⟨rfl, hq⟩ := hq
    exact ⟨.panic v, [], h, R, kp v h hq, hr, hm', hf'⟩
  | exit i => exact hq.elim
  | goto i => exact hq.elim
  | ret => exact hq.elim
/-- A region that draws, by a plan; what holds behind it, whatever the order; what a panic leaves, slots too. -/
theorem dw_pe {X : Type} {C : Ctx} {id : Nat} {QQ : AExit → Env → Heap → Prop} (E : Env) (hE : dstFree ops E = true) (hm : P.follows .mixedOrders = true) (hC : C.G = G) (hGL : GloAll G GL) (kf : Bool) (Kp : AVal → Heap → Prop) (I : X → Env) (J : X → Heap) (plan : DPlan)
    (hB : (Region.noSelect ops && planB ops plan ops.size (Array.replicate ops.size false) []) = true) (h : dpX P n G GL E Kp kf ops (Fis I J) plan env H) (k : ∀ x, QQ .normal (I x) (J x)) (kp : ∀ v h, Kp v h → QQ (.panic v) E h) : Dw P C n id ops env H QQ := by
  simp only [Bool.and_eq_true] at hB
  have hd := (dp_ok hE hGL hB.1 plan _ _ [] env H hB.2 h).1 rfl
  refine ⟨fun R a w hms hfs => ?_⟩
  refine wp_mono (wp_region_held (S := DS C kf R H) hm (hd C hC R a _ (hms.drawn _) hfs)) ?_
  rintro ex a w ⟨x, e, hh, R, hq, hr, hm', hf'⟩
  cases x with
  | normal =>
    obtain ⟨x0, hs, hj⟩ := hq
    exact ⟨.normal, I x0, J x0, R, k x0, hr, hm'.drop hj, hf'.sub hs⟩
  | panic v =>
    obtain ⟨rfl, hq⟩ := hq
    exact ⟨.panic v, _, hh, R, kp v hh hq, hr, hm', hf'⟩
  | exit i => exact hq.elim
  | goto i => exact hq.elim
  | ret => exact hq.elim
/-- A region that draws, by a plan; what holds behind it, whatever the order. -/
theorem dw_p {X : Type} {C : Ctx} {id : Nat} {QQ : AExit → Env → Heap → Prop} (hm : P.follows .mixedOrders = true) (hC : C.G = G) (hGL : GloAll G GL) (kf : Bool) (I : X → Env) (J : X → Heap) (plan : DPlan)
    (hB : (Region.noSelect ops && planB ops plan ops.size (Array.replicate ops.size false) []) = true) (h : dpX P n G GL [] (fun _ _ => False) kf ops (Fie I J) plan env H) (k : ∀ x, QQ .normal (I x) (J x)) : Dw P C n id ops env H QQ := by
  simp only [Bool.and_eq_true] at hB
  have hd := (dp_ok dst_nil hGL hB.1 plan _ _ [] env H hB.2 h).1 rfl
  refine ⟨fun R a w hms hfs => ?_⟩
  refine wp_mono (wp_region_held (S := DS C kf R H) hm (hd C hC R a _ (hms.drawn _) hfs)) ?_
  rintro ex a w ⟨x, e, h, R, hq, hr, hm', hf'⟩
  cases x with
  | normal =>
    obtain ⟨x0, hs, hj⟩ := hq
    subst hj
    exact ⟨.normal, I x0, J x0, R, k x0, hr, hm', hf'.sub hs⟩
  | panic v => exact hq.2.elim
  | exit i => exact hq.elim
  | goto i => exact hq.elim
  | ret => exact hq.elim
end
end Go.Proofs.YtkmpcdlmeiophaaGreatDoor
