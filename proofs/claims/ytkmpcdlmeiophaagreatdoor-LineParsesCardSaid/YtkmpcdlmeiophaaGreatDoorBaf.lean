/- Parts of the proof of lineParses_card: Onc, Ond, Mak, Rpl, Rpn, Lna, Rpd, Lpa, Wk, Slc, Rpk. -/
import Derived.Laws.MakeOwn
import Derived.Laws.IdiomCopy
import Derived.Lib.Join
import Derived.Test.YtkmpcdlmeiophaaGreatDoorBae
import Derived.Test.YtkmpcdlmeiophaaGreatDoorBad
import Derived.Test.YtkmpcdlmeiophaaGreatDoorBaa
set_option linter.unusedVariables false
set_option linter.unusedSimpArgs false
namespace Go.Proofs.YtkmpcdlmeiophaaGreatDoor
open Go Go.RowKit
theorem fn_xp {P : Program} [Tab P] {G : Glo} {GL : List (Nat × List AVal)} {n : Nat} {H : Heap} {v : Value} (i : Nat) {f : FuncId} {fn : Func} {c : Code} {avs : List AVal} {Qf : ARes → Heap → Prop} {rs : List ResultVar} (hf : P.funcs[f]? = some fn)
    (hc : ∀ args w, (callFunc f args).run P w = .ok (.enter f args) w) (hb : fn.body = some c) (hn : fn.ntmps = n) (hrs : fn.results = rs.toArray) (hlen : Nat.ble (AVal.raw v :: avs).length n = true) (hGL : GloAll G GL) (hv : vAgg v = false)
    (h : ∀ C : Ctx, C.G = G → codeX P C n G GL c ((0, .own i v) :: argEnv 0 (.raw v :: avs)) H (RetX P rs Qf)) : FnSpec P G f (.raw v :: avs) H Qf :=
  fn_spec hf hb hc hn hrs hlen fun w0 R0 hG => (own_slot (C := ⟨w0, R0, blks H, G, hG, []⟩) (k := 0) i rfl hGL hv rfl (h ⟨w0, R0, blks H, G, hG, []⟩ rfl)).mono fun _ _ _ q => RetX_ok q
section
variable {P : Program} [Tab P] {C : Ctx} {n : Nat} {env : Env} {H : Heap} {G : Glo} {x : Operand} {S T u : TypeId} {xS xT xu : TI}
theorem rv_toU {i j b off : Nat} {eT : Option TypeId} {cs : List AVal} {a : AVal} (hx : evalA env x = some (.own i (pv b off))) (hj : H[j]? = some (.cells b eT cs)) (hc : cs[off]? = some a) (h1 : tab P S = some xS) (h2 : xS.desc = .pointer u) (h3 : tab P T = some xT) (h4 : xT.desc = .unsafePointer) (h5 : tab P u = some xu) (h6 : Nat.ble 1 xu.size = true) :
    RunV P C H env (.convert S T x) (.raw (pv b off)) := by
  intro R ρ w hm hf dst t p af g
  obtain ⟨Cs, el, fz, hb, hl, _⟩ := own_cells hm hj
  obtain ⟨v, hv, _⟩ := relL_get hl hc
  have hcell : w.cell? ⟨b, off, none⟩ = some v := by simp only [World.cell?, hb]; simpa using hv
  obtain ⟨iu, hiu, his, _⟩ := tab_info h5
  have h6 := Nat.le_of_ble_eq_true h6
  have hr := run_convert_to_unsafe (P := P) (src := S) (dst := T) (by rw [tab_und h1, h2]) (by rw [tab_und h3, h4]) (by rw [hiu]; simp [his]; omega) hcell
  exact ⟨_, by simp only [execOp, (rel_own.1 (hf _ _ hx)).1, Sem.run_bind, hr, Result.andThen_ok, Sem.run_pure], rel_raw.2 rfl⟩
end
section
variable {G : Glo}
theorem mark_spec {f : FuncId} (h : ∀ w, (callFunc f #[]).run Tryz.prog w = .ok (.value (.tuple #[])) w) : FnIs Tryz.prog G f [] (.tuple []) := by
  intro R w args hG hm ha
  have e : args = #[] := by
    have : args.toList = [] := ha
    exact Array.ext' this
  subst e
  exact .inr ⟨_, w, h w, _, [], R, ⟨rfl, rfl⟩, ⟨_, rfl, ⟨#[], rfl, rfl⟩, rfl⟩, hm⟩
theorem marked_spec {f : FuncId} {a : Addr} (h : ∀ w, (callFunc f #[.pointer (some a)]).run Tryz.prog w = .ok (.value (.tuple #[])) w) : FnIs Tryz.prog G f [.raw (.pointer (some a))] (.tuple []) := by
  intro R w args hG hm ha
  obtain rfl := arg1 ha
  exact .inr ⟨_, w, h w, _, [], R, ⟨rfl, rfl⟩, ⟨_, rfl, ⟨#[], rfl, rfl⟩, rfl⟩, hm⟩
theorem race_off : FnIs Tryz.prog G 99 [] (.tuple []) := mark_spec fun w => run_call_mark0 Tryz.func99 (by kernel_rfl) (by kernel_rfl) (by kernel_rfl) .disable (by kernel_rfl) w
theorem race_on : FnIs Tryz.prog G 101 [] (.tuple []) := mark_spec fun w => run_call_mark0 Tryz.func101 (by kernel_rfl) (by kernel_rfl) (by kernel_rfl) .enable (by kernel_rfl) w
theorem race_acq (a : Addr) : FnIs Tryz.prog G 102 [.raw (.pointer (some a))] (.tuple []) := marked_spec fun w => run_call_marked Tryz.func102 (by kernel_rfl) (by kernel_rfl) (by kernel_rfl) .acquire (by kernel_rfl) a w
theorem race_rel (a : Addr) : FnIs Tryz.prog G 104 [.raw (.pointer (some a))] (.tuple []) := marked_spec fun w => run_call_marked Tryz.func104 (by kernel_rfl) (by kernel_rfl) (by kernel_rfl) .releaseMerge (by kernel_rfl) a w
set_option maxRecDepth 20000
set_option maxHeartbeats 4000000
set_option linter.unusedSimpArgs false
set_option linter.unusedVariables false
attribute [local irreducible] AWp AOps byteAt SrcOK OrOk GloAll FnSpec
theorem int_lock {b off : Nat} {eT : Option TypeId} {cs : List AVal} (hc : cs[off]? = some (.int .i32 0)) : FnSpec Tryz.prog G 93 [.raw (pv b off)] [.cells b eT cs] (fun r H => r = .ret (.tuple []) ∧ H = [.cells b eT (cs.set off (.int .i32 1))]) := by
  have hGL : GloAll G [] := gloAll_nil
  have e1 := at_cas (G := G) (b := b) (eT := eT) (y := 1) hc
  have hlt := (List.getElem?_eq_some_iff.1 hc).1
  refine fn_xp 0 Tryz.func93 Tryz.call93 rfl rfl rfl rfl hGL rfl ?_
  intro C hC
  repeat' (first
    | (conv => whnf); first
      | refine .w ?_ | refine .v ?_ | apply sc_true | apply sc_false
      | (first | apply sc_lt | apply sc_nlt | apply sc_eq | apply sc_neq | apply sc_nil | apply sc_nnil | apply sc_seq | apply sc_nseq) <;> (intro hb; try exact dd hb)
      | apply sc_not | apply sc_or | (apply sc_i <;> intro hb)
      | (apply bx_i; intro hbd) | (apply gt_i; assumption; exact rfl)
      | (apply cx_is; first | exact race_off | exact race_on | exact e1) | (apply cx_do (i := 0) rfl; first | exact race_off | exact race_on | exact e1)
      | (apply ab_i; intro bl) | (apply as_i; intro va vk vc hva) | (apply av_i; intro v) | (apply ac_i; intro bl cap hcap)
      | apply bo_l | (apply nx_i <;> intro hnx) | (apply Ia.hit; assumption) | (apply Ia.miss; assumption)
      | (apply rt_is; exact rfl) | exact rt_w | (apply iv; assumption)
      | apply dw_q mixed hC hGL (by kernel_rfl) | (apply cq; assumption; (first | exact race_off | exact race_on | exact e1); exact rfl))
  all_goals (try conv => whnf)
  refine op1_run hC hGL (rv_toU (j := 0) rfl rfl (List.getElem?_set_self hlt) rfl rfl rfl rfl rfl rfl) rfl rfl ?_
  repeat' (first
    | (conv => whnf); first
      | refine .w ?_ | refine .v ?_ | apply sc_true | apply sc_false
      | (first | apply sc_lt | apply sc_nlt | apply sc_eq | apply sc_neq | apply sc_nil | apply sc_nnil | apply sc_seq | apply sc_nseq) <;> (intro hb; try exact dd hb)
      | apply sc_not | apply sc_or | (apply sc_i <;> intro hb)
      | (apply bx_i; intro hbd) | (apply gt_i; assumption; exact rfl)
      | (apply cx_is; first | exact race_acq _) | (apply cx_do (i := 0) rfl; first | exact race_acq _)
      | (apply ab_i; intro bl) | (apply as_i; intro va vk vc hva) | (apply av_i; intro v) | (apply ac_i; intro bl cap hcap)
      | apply bo_l | (apply nx_i <;> intro hnx) | (apply Ia.hit; assumption) | (apply Ia.miss; assumption)
      | (apply rt_is; exact rfl) | exact rt_w | (apply iv; assumption)
      | apply dw_q mixed hC hGL (by kernel_rfl) | (apply cq; assumption; (first | exact race_acq _); exact rfl))
  all_goals (try conv => whnf)
theorem int_unlock {b off : Nat} {eT : Option TypeId} {cs : List AVal} (hc : cs[off]? = some (.int .i32 1)) : FnSpec Tryz.prog G 94 [.raw (pv b off)] [.cells b eT cs] (fun r H => r = .ret (.tuple []) ∧ H = [.cells b eT (cs.set off (.int .i32 0))]) := by
  have hGL : GloAll G [] := gloAll_nil
  have e1 := at_dec (G := G) (b := b) (eT := eT) hc
  refine fn_xp 0 Tryz.func94 Tryz.call94 rfl rfl rfl rfl hGL rfl ?_
  intro C hC
  repeat' (first
    | (conv => whnf); first
      | refine .w ?_ | refine .v ?_ | apply sc_true | apply sc_false
      | (first | apply sc_lt | apply sc_nlt | apply sc_eq | apply sc_neq | apply sc_nil | apply sc_nnil | apply sc_seq | apply sc_nseq) <;> (intro hb; try exact dd hb)
      | apply sc_not | apply sc_or | (apply sc_i <;> intro hb)
      | (apply bx_i; intro hbd) | (apply gt_i; assumption; exact rfl)
      | (apply cx_is; first | exact race_off | exact race_on | exact e1) | (apply cx_do (i := 0) rfl; first | exact race_off | exact race_on | exact e1)
      | (apply ab_i; intro bl) | (apply as_i; intro va vk vc hva) | (apply av_i; intro v) | (apply ac_i; intro bl cap hcap)
      | apply bo_l | (apply nx_i <;> intro hnx) | (apply Ia.hit; assumption) | (apply Ia.miss; assumption)
      | (apply rt_is; exact rfl) | exact rt_w | (apply iv; assumption)
      | apply dw_q mixed hC hGL (by kernel_rfl) | (apply cq; assumption; (first | exact race_off | exact race_on | exact e1); exact rfl))
  all_goals (try conv => whnf)
  erw [hc]
  repeat' (first
    | (conv => whnf); first
      | refine .w ?_ | refine .v ?_ | apply sc_true | apply sc_false
      | (first | apply sc_lt | apply sc_nlt | apply sc_eq | apply sc_neq | apply sc_nil | apply sc_nnil | apply sc_seq | apply sc_nseq) <;> (intro hb; try exact dd hb)
      | apply sc_not | apply sc_or | (apply sc_i <;> intro hb)
      | (apply bx_i; intro hbd) | (apply gt_i; assumption; exact rfl)
      | (apply cx_is; first | exact race_off | exact race_on | exact e1) | (apply cx_do (i := 0) rfl; first | exact race_off | exact race_on | exact e1)
      | (apply ab_i; intro bl) | (apply as_i; intro va vk vc hva) | (apply av_i; intro v) | (apply ac_i; intro bl cap hcap)
      | apply bo_l | (apply nx_i <;> intro hnx) | (apply Ia.hit; assumption) | (apply Ia.miss; assumption)
      | (apply rt_is; exact rfl) | exact rt_w | (apply iv; assumption)
      | apply dw_q mixed hC hGL (by kernel_rfl) | (apply cq; assumption; (first | exact race_off | exact race_on | exact e1); exact rfl))
  all_goals (try conv => whnf)
  refine op1_run hC hGL (rv_toU (j := 0) rfl rfl hc rfl rfl rfl rfl rfl rfl) rfl rfl ?_
  repeat' (first
    | (conv => whnf); first
      | refine .w ?_ | refine .v ?_ | apply sc_true | apply sc_false
      | (first | apply sc_lt | apply sc_nlt | apply sc_eq | apply sc_neq | apply sc_nil | apply sc_nnil | apply sc_seq | apply sc_nseq) <;> (intro hb; try exact dd hb)
      | apply sc_not | apply sc_or | (apply sc_i <;> intro hb)
      | (apply bx_i; intro hbd) | (apply gt_i; assumption; exact rfl)
      | (apply cx_is; first | exact race_rel _ | exact race_off | exact race_on | exact e1) | (apply cx_do (i := 0) rfl; first | exact race_rel _ | exact race_off | exact race_on | exact e1)
      | (apply ab_i; intro bl) | (apply as_i; intro va vk vc hva) | (apply av_i; intro v) | (apply ac_i; intro bl cap hcap)
      | apply bo_l | (apply nx_i <;> intro hnx) | (apply Ia.hit; assumption) | (apply Ia.miss; assumption)
      | (apply rt_is; exact rfl) | exact rt_w | (apply iv; assumption)
      | apply dw_q mixed hC hGL (by kernel_rfl) | (apply cq; assumption; (first | exact race_rel _ | exact race_off | exact race_on | exact e1); exact rfl))
  all_goals (try conv => whnf)
theorem lock {b off : Nat} {eT : Option TypeId} {cs : List AVal} (hc : cs[off]? = some (.int .i32 0)) : FnSpec Tryz.prog G 88 [.raw (pv b off)] [.cells b eT cs] (fun r H => r = .ret (.tuple []) ∧ H = [.cells b eT (cs.set off (.int .i32 1))]) := by
  have hGL : GloAll G [] := gloAll_nil
  have e1 := int_lock (G := G) (b := b) (eT := eT) hc
  refine fn_xp 0 Tryz.func88 Tryz.call88 rfl rfl rfl rfl hGL rfl ?_
  intro C hC
  repeat' (first
    | (conv => whnf); first
      | refine .w ?_ | refine .v ?_ | apply sc_true | apply sc_false
      | (first | apply sc_lt | apply sc_nlt | apply sc_eq | apply sc_neq | apply sc_nil | apply sc_nnil | apply sc_seq | apply sc_nseq) <;> (intro hb; try exact dd hb)
      | apply sc_not | apply sc_or | (apply sc_i <;> intro hb)
      | (apply bx_i; intro hbd) | (apply gt_i; assumption; exact rfl)
      | (apply cx_is; first | exact e1) | (apply cx_do (i := 0) rfl; first | exact e1)
      | (apply ab_i; intro bl) | (apply as_i; intro va vk vc hva) | (apply av_i; intro v) | (apply ac_i; intro bl cap hcap)
      | apply bo_l | (apply nx_i <;> intro hnx) | (apply Ia.hit; assumption) | (apply Ia.miss; assumption)
      | (apply rt_is; exact rfl) | exact rt_w | (apply iv; assumption)
      | apply dw_q mixed hC hGL (by kernel_rfl) | (apply cq; assumption; (first | exact e1); exact rfl))
  all_goals (try conv => whnf)
theorem unlock {b off : Nat} {eT : Option TypeId} {cs : List AVal} (hc : cs[off]? = some (.int .i32 1)) (m : AMode) : DSpec Tryz.prog G 89 [.own 0 (pv b off)] m [.cells b eT cs] (fun r m' H => m' = m ∧ r = .ret (.tuple []) ∧ H = [.cells b eT (cs.set off (.int .i32 0))]) := by
  have hGL : GloAll G [] := gloAll_nil
  have e1 := int_unlock (G := G) (b := b) (eT := eT) hc
  refine ds_code (rs := []) (GL := []) Tryz.func89 rfl rfl rfl rfl hGL ?_
  intro C hC
  repeat' (first
    | (conv => whnf); first
      | refine .w ?_ | refine .v ?_ | apply sc_true | apply sc_false
      | (first | apply sc_lt | apply sc_nlt | apply sc_eq | apply sc_neq | apply sc_nil | apply sc_nnil | apply sc_seq | apply sc_nseq) <;> (intro hb; try exact dd hb)
      | apply sc_not | apply sc_or | (apply sc_i <;> intro hb)
      | (apply bx_i; intro hbd) | (apply gt_i; assumption; exact rfl)
      | (apply cx_is; first | exact e1) | (apply cx_do (i := 0) rfl; first | exact e1)
      | (apply ab_i; intro bl) | (apply as_i; intro va vk vc hva) | (apply av_i; intro v) | (apply ac_i; intro bl cap hcap)
      | apply bo_l | (apply nx_i <;> intro hnx) | (apply Ia.hit; assumption) | (apply Ia.miss; assumption)
      | (apply rt_is; exact rfl) | exact rt_w | (apply iv; assumption)
      | apply dw_q mixed hC hGL (by kernel_rfl) | (apply cq; assumption; (first | exact e1); exact rfl))
  all_goals (try conv => whnf)
theorem bool_load {b off : Nat} {eT : Option TypeId} {cs : List AVal} {n : Int} (hc : cs[off]? = some (.int .u32 n)) : FnSpec Tryz.prog G 84 [.raw (pv b off)] [.cells b eT cs] (fun r H => r = .ret (.bool (!eqB n 0)) ∧ H = [.cells b eT cs]) := by
  have hGL : GloAll G [] := gloAll_nil
  have e1 := at_load (G := G) (b := b) (eT := eT) hc
  refine fn_xp 0 Tryz.func84 Tryz.call84 rfl rfl rfl rfl hGL rfl ?_
  intro C hC
  repeat' (first
    | (conv => whnf); first
      | refine .w ?_ | refine .v ?_ | apply sc_true | apply sc_false
      | (first | apply sc_lt | apply sc_nlt | apply sc_eq | apply sc_neq | apply sc_nil | apply sc_nnil | apply sc_seq | apply sc_nseq) <;> (intro hb; try exact dd hb)
      | apply sc_not | apply sc_or | (apply sc_i <;> intro hb)
      | (apply bx_i; intro hbd) | (apply gt_i; assumption; exact rfl)
      | (apply cx_is; first | exact e1) | (apply cx_do (i := 0) rfl; first | exact e1)
      | (apply ab_i; intro bl) | (apply as_i; intro va vk vc hva) | (apply av_i; intro v) | (apply ac_i; intro bl cap hcap)
      | apply bo_l | (apply nx_i <;> intro hnx) | (apply Ia.hit; assumption) | (apply Ia.miss; assumption)
      | (apply rt_is; exact rfl) | exact rt_w | (apply iv; assumption)
      | apply dw_q mixed hC hGL (by kernel_rfl) | (apply cq; assumption; (first | exact e1); exact rfl))
  all_goals (try conv => whnf)
theorem b32_true : FnIs Tryz.prog G 96 [.bool true] (.int .u32 1) := by
  have hGL : GloAll G [] := gloAll_nil
  refine fn_x Tryz.func96 Tryz.call96 rfl rfl rfl rfl hGL ?_
  intro C hC
  repeat' (first
    | (conv => whnf); first
      | refine .w ?_ | refine .v ?_ | apply sc_true | apply sc_false
      | (first | apply sc_lt | apply sc_nlt | apply sc_eq | apply sc_neq | apply sc_nil | apply sc_nnil | apply sc_seq | apply sc_nseq) <;> (intro hb; try exact dd hb)
      | apply sc_not | apply sc_or | (apply sc_i <;> intro hb)
      | (apply bx_i; intro hbd) | (apply gt_i; assumption; exact rfl)
      | (apply cx_is; first | fail) | (apply cx_do (i := 0) rfl; first | fail)
      | (apply ab_i; intro bl) | (apply as_i; intro va vk vc hva) | (apply av_i; intro v) | (apply ac_i; intro bl cap hcap)
      | apply bo_l | (apply nx_i <;> intro hnx) | (apply Ia.hit; assumption) | (apply Ia.miss; assumption)
      | (apply rt_is; exact rfl) | exact rt_w | (apply iv; assumption)
      | apply dw_q mixed hC hGL (by kernel_rfl) | (apply cq; assumption; (first | fail); exact rfl))
  all_goals (try conv => whnf)
theorem bool_store {b off : Nat} {eT : Option TypeId} {cs : List AVal} {n : Int} (hc : cs[off]? = some (.int .u32 n)) (m : AMode) : DSpec Tryz.prog G 90 [.own 0 (pv b off), .bool true] m [.cells b eT cs] (fun r m' H => m' = m ∧ r = .ret (.tuple []) ∧ H = [.cells b eT (cs.set off (.int .u32 1))]) := by
  have hGL : GloAll G [] := gloAll_nil
  have e1 := at_store (G := G) (b := b) (eT := eT) (y := 1) hc
  refine ds_code (rs := []) (GL := []) Tryz.func90 rfl rfl rfl rfl hGL ?_
  intro C hC
  repeat' (first
    | (conv => whnf); first
      | refine .w ?_ | refine .v ?_ | apply sc_true | apply sc_false
      | (first | apply sc_lt | apply sc_nlt | apply sc_eq | apply sc_neq | apply sc_nil | apply sc_nnil | apply sc_seq | apply sc_nseq) <;> (intro hb; try exact dd hb)
      | apply sc_not | apply sc_or | (apply sc_i <;> intro hb)
      | (apply bx_i; intro hbd) | (apply gt_i; assumption; exact rfl)
      | (apply cx_is; first | exact e1 | exact b32_true) | (apply cx_do (i := 0) rfl; first | exact e1 | exact b32_true)
      | (apply ab_i; intro bl) | (apply as_i; intro va vk vc hva) | (apply av_i; intro v) | (apply ac_i; intro bl cap hcap)
      | apply bo_l | (apply nx_i <;> intro hnx) | (apply Ia.hit; assumption) | (apply Ia.miss; assumption)
      | (apply rt_is; exact rfl) | exact rt_w | (apply iv; assumption)
      | exact True.intro | (apply bc_i; intro C hC) | apply bt_i | apply og_n | (apply og_a; exact rfl))
  all_goals (try conv => whnf)
  refine dw_p mixed hC hGL false (fun (_ : Unit) => []) (fun _ => [.cells b eT (cs.set off (.int .u32 1))]) (.take 0 (.take 1 (.take 2 (.take 3 (.br 4 (.br 5 (.done) (.nil)) (.nil)))))) (by kernel_rfl) ?_ ?_
  · repeat' (first
      | (conv => whnf); first
        | refine .w ?_ | refine .v ?_ | apply sc_true | apply sc_false
        | (first | apply sc_lt | apply sc_nlt | apply sc_eq | apply sc_neq | apply sc_nil | apply sc_nnil | apply sc_seq | apply sc_nseq) <;> (intro hb; try exact dd hb)
        | apply sc_not | apply sc_or | (apply sc_i <;> intro hb)
        | (apply bx_i; intro hbd) | (apply gt_i; assumption; exact rfl)
        | (apply cx_is; first | exact e1 | exact b32_true) | (apply cx_do (i := 0) rfl; first | exact e1 | exact b32_true)
        | (apply ab_i; intro bl) | (apply as_i; intro va vk vc hva) | (apply av_i; intro v) | (apply ac_i; intro bl cap hcap)
        | apply bo_l | (apply nx_i <;> intro hnx) | (apply Ia.hit; assumption) | (apply Ia.miss; assumption)
        | (apply rt_is; exact rfl) | exact rt_w | (apply iv; assumption)
        | exact True.intro | (apply bc_i; intro C hC) | apply bt_i | apply og_n | (apply og_a; exact rfl))
    all_goals (try conv => whnf)
    all_goals exact ⟨(), trivial, rfl⟩
  · intro _
    repeat' (first
      | (conv => whnf); first
        | refine .w ?_ | refine .v ?_ | apply sc_true | apply sc_false
        | (first | apply sc_lt | apply sc_nlt | apply sc_eq | apply sc_neq | apply sc_nil | apply sc_nnil | apply sc_seq | apply sc_nseq) <;> (intro hb; try exact dd hb)
        | apply sc_not | apply sc_or | (apply sc_i <;> intro hb)
        | (apply bx_i; intro hbd) | (apply gt_i; assumption; exact rfl)
        | (apply cx_is; first | fail) | (apply cx_do (i := 0) rfl; first | fail)
        | (apply ab_i; intro bl) | (apply as_i; intro va vk vc hva) | (apply av_i; intro v) | (apply ac_i; intro bl cap hcap)
        | apply bo_l | (apply nx_i <;> intro hnx) | (apply Ia.hit; assumption) | (apply Ia.miss; assumption)
        | (apply rt_is; exact rfl) | exact rt_w | (apply iv; assumption)
        | exact True.intro | (apply bc_i; intro C hC) | apply bt_i | apply og_n | (apply og_a; exact rfl))
    all_goals (try conv => whnf)
end
end Go.Proofs.YtkmpcdlmeiophaaGreatDoor
namespace Go.Proofs.YtkmpcdlmeiophaaGreatDoor
open Go Go.RowKit
theorem awd_own {P : Program} {C : Ctx} {n : Nat} {c : Code} {env : Env} {H : Heap} {Q : List Deferred → AExit → Env → Heap → Prop} {k : Nat} (i : Nat) {v : Value} (hv : vAgg v = false) (hk : Env.get env k = some (.raw v)) (h : AWpD P C n c ((k, .own i v) :: env) H Q) : AWpD P C n c env H Q :=
  fun R a w hm hf => h R a w hm (fs_own hv hk hf)
theorem cx_all {P : Program} [Tab P] {G : Glo} {f : FuncId} {avs : List AVal} {H H' : Heap} {v : AVal} {K Kp : AVal → Heap → Prop} (hs : FnSpec P G f avs H (fun r H2 => r = .ret v ∧ H2 = H')) (k : K v H') : Cx P G f avs H K Kp := by
  refine ⟨_, hs, ?_, ?_⟩
  · rintro v' H2 ⟨e, rfl⟩; cases e; exact k
  · rintro v' H2 ⟨e, rfl⟩; cases e
set_option maxRecDepth 20000
set_option maxHeartbeats 4000000
set_option linter.unusedSimpArgs false
set_option linter.unusedVariables false
attribute [local irreducible] AWp AOps byteAt SrcOK OrOk GloAll FnSpec
attribute [local irreducible] DSpec Lv AWpD To
theorem once_slow {G : Glo} {b off fid : Nat} {eT : Option TypeId} {cs : List AVal} {T : Heap} {Y : Type} {cs2 : Y → List AVal} {T2 : Y → Heap} {l1 l2 : List AVal} (h0 : cs[off]? = some (.int .u32 0)) (h1 : cs[off + 1]? = some (.int .i32 0)) (k0 : ∀ y, (cs2 y)[off]? = some (.int .u32 0)) (k1 : ∀ y, (cs2 y)[off + 1]? = some (.int .i32 1))
    (hf : FnSpec Tryz.prog G fid (unownL (l1 ++ ([] ++ l2))) (.cells b eT (cs.set (off + 1) (.int .i32 1)) :: T) (fun r H => ∃ y, r = .ret (.tuple []) ∧ H = .cells b eT (cs2 y) :: T2 y)) :
    FnSpec Tryz.prog G 85 [.raw (pv b off), .func (.func fid) l1 l2] (.cells b eT cs :: T) (fun r H => ∃ y, r = .ret (.tuple []) ∧ H = .cells b eT (((cs2 y).set off (.int .u32 1)).set (off + 1) (.int .i32 0)) :: T2 y) := by
  have hGL : GloAll G [] := gloAll_nil
  have e1 := lock (G := G) (b := b) (eT := eT) h1
  have h0' : (cs.set (off + 1) (.int .i32 1))[off]? = some (.int .u32 0) := by rw [List.getElem?_set_ne (by omega)]; exact h0
  have e2 := bool_load (G := G) (b := b) (eT := eT) h0'
  refine fn_d (rs := []) Tryz.func85 Tryz.call85 rfl rfl rfl rfl ?_
  intro C hC hD
  refine awd_own (k := 0) (v := pv b off) 0 rfl rfl ?_
  refine awd_seq (awd_code hC hGL ?_)
  repeat' (first
    | (conv => whnf); first
      | refine .w ?_ | refine .v ?_ | apply sc_true | apply sc_false
      | (first | apply sc_lt | apply sc_nlt | apply sc_eq | apply sc_neq | apply sc_nil | apply sc_nnil | apply sc_seq | apply sc_nseq) <;> (intro hb; try exact dd hb)
      | apply sc_not | apply sc_or | (apply sc_i <;> intro hb)
      | (apply bx_i; intro hbd) | (apply gt_i; assumption; exact rfl)
      | (apply cx_is; first | exact e1) | (apply cx_do (i := 0) rfl; first | exact e1)
      | (apply ab_i; intro bl) | (apply as_i; intro va vk vc hva) | (apply av_i; intro v) | (apply ac_i; intro bl cap hcap)
      | apply bo_l | (apply nx_i <;> intro hnx) | (apply Ia.hit; assumption) | (apply Ia.miss; assumption)
      | (apply rt_is; exact rfl) | exact rt_w | (apply iv; assumption)
      | apply dw_q mixed hC hGL (by kernel_rfl) | (apply cq; assumption; (first | exact e1); exact rfl))
  all_goals (try conv => whnf)
  rw [forceH_eq]
  repeat' (first
    | (conv => whnf); first
      | refine .w ?_ | refine .v ?_ | apply sc_true | apply sc_false
      | (first | apply sc_lt | apply sc_nlt | apply sc_eq | apply sc_neq | apply sc_nil | apply sc_nnil | apply sc_seq | apply sc_nseq) <;> (intro hb; try exact dd hb)
      | apply sc_not | apply sc_or | (apply sc_i <;> intro hb)
      | (apply bx_i; intro hbd) | (apply gt_i; assumption; exact rfl)
      | (apply cx_is; first | fail) | (apply cx_do (i := 0) rfl; first | fail)
      | (apply ab_i; intro bl) | (apply as_i; intro va vk vc hva) | (apply av_i; intro v) | (apply ac_i; intro bl cap hcap)
      | apply bo_l | (apply nx_i <;> intro hnx) | (apply Ia.hit; assumption) | (apply Ia.miss; assumption)
      | (apply rt_is; exact rfl) | exact rt_w | (apply iv; assumption)
      | apply dw_q mixed hC hGL (by kernel_rfl) | (apply cq; assumption; (first | fail); exact rfl))
  all_goals (try conv => whnf)
  refine awd_seq (awd_defer hC hGL rfl ?_)
  repeat' (first
    | (conv => whnf); first
      | refine .w ?_ | refine .v ?_ | apply sc_true | apply sc_false
      | (first | apply sc_lt | apply sc_nlt | apply sc_eq | apply sc_neq | apply sc_nil | apply sc_nnil | apply sc_seq | apply sc_nseq) <;> (intro hb; try exact dd hb)
      | apply sc_not | apply sc_or | (apply sc_i <;> intro hb)
      | (apply bx_i; intro hbd) | (apply gt_i; assumption; exact rfl)
      | (apply cx_is; first | fail) | (apply cx_do (i := 0) rfl; first | fail)
      | (apply ab_i; intro bl) | (apply as_i; intro va vk vc hva) | (apply av_i; intro v) | (apply ac_i; intro bl cap hcap)
      | apply bo_l | (apply nx_i <;> intro hnx) | (apply Ia.hit; assumption) | (apply Ia.miss; assumption)
      | (apply rt_is; exact rfl) | exact rt_w | (apply iv; assumption)
      | apply dw_q mixed hC hGL (by kernel_rfl) | (apply cq; assumption; (first | fail); exact rfl))
  all_goals (try conv => whnf)
  refine ⟨_, rfl, ?_⟩
  refine (fun (h : ∀ C2 : Ctx, C2.G = G → C2.D = [{ target := .fn (.func 89) #[], args := #[pv b (off + 1)] }] → AWpD Tryz.prog C2 _ _ _ _ _) => h (withD C ({ target := .fn (.func 89) #[], args := #[pv b (off + 1)] } :: C.D)) hC (by show _ :: C.D = _; rw [hD])) ?_
  clear hC hD C
  intro C hC hD
  refine awd_seq (awd_code hC hGL ?_)
  repeat' (first
    | (conv => whnf); first
      | refine .w ?_ | refine .v ?_ | apply sc_true | apply sc_false
      | (first | apply sc_lt | apply sc_nlt | apply sc_eq | apply sc_neq | apply sc_nil | apply sc_nnil | apply sc_seq | apply sc_nseq) <;> (intro hb; try exact dd hb)
      | apply sc_not | apply sc_or | (apply sc_i <;> intro hb)
      | (apply bx_i; intro hbd) | (apply gt_i; assumption; exact rfl)
      | (apply cx_is; first | exact e2) | (apply cx_do (i := 0) rfl; first | exact e2)
      | (apply ab_i; intro bl) | (apply as_i; intro va vk vc hva) | (apply av_i; intro v) | (apply ac_i; intro bl cap hcap)
      | apply bo_l | (apply nx_i <;> intro hnx) | (apply Ia.hit; assumption) | (apply Ia.miss; assumption)
      | (apply rt_is; exact rfl) | exact rt_w | (apply iv; assumption)
      | apply dw_q mixed hC hGL (by kernel_rfl) | (apply cq; assumption; (first | exact e2); exact rfl))
  all_goals (try conv => whnf)
  rw [forceH_eq]
  repeat' (first
    | (conv => whnf); first
      | refine .w ?_ | refine .v ?_ | apply sc_true | apply sc_false
      | (first | apply sc_lt | apply sc_nlt | apply sc_eq | apply sc_neq | apply sc_nil | apply sc_nnil | apply sc_seq | apply sc_nseq) <;> (intro hb; try exact dd hb)
      | apply sc_not | apply sc_or | (apply sc_i <;> intro hb)
      | (apply bx_i; intro hbd) | (apply gt_i; assumption; exact rfl)
      | (apply cx_is; first | exact e2) | (apply cx_do (i := 0) rfl; first | exact e2)
      | (apply ab_i; intro bl) | (apply as_i; intro va vk vc hva) | (apply av_i; intro v) | (apply ac_i; intro bl cap hcap)
      | apply bo_l | (apply nx_i <;> intro hnx) | (apply Ia.hit; assumption) | (apply Ia.miss; assumption)
      | (apply rt_is; exact rfl) | exact rt_w | (apply iv; assumption)
      | apply dw_q mixed hC hGL (by kernel_rfl) | (apply cq; assumption; (first | exact e2); exact rfl))
  all_goals (try conv => whnf)
  refine awd_cond rfl (fun _ => ?_) (fun hb => absurd hb (by simp [eqB]))
  refine awd_seq (awd_defer hC hGL rfl ?_)
  repeat' (first
    | (conv => whnf); first
      | refine .w ?_ | refine .v ?_ | apply sc_true | apply sc_false
      | (first | apply sc_lt | apply sc_nlt | apply sc_eq | apply sc_neq | apply sc_nil | apply sc_nnil | apply sc_seq | apply sc_nseq) <;> (intro hb; try exact dd hb)
      | apply sc_not | apply sc_or | (apply sc_i <;> intro hb)
      | (apply bx_i; intro hbd) | (apply gt_i; assumption; exact rfl)
      | (apply cx_is; first | fail) | (apply cx_do (i := 0) rfl; first | fail)
      | (apply ab_i; intro bl) | (apply as_i; intro va vk vc hva) | (apply av_i; intro v) | (apply ac_i; intro bl cap hcap)
      | apply bo_l | (apply nx_i <;> intro hnx) | (apply Ia.hit; assumption) | (apply Ia.miss; assumption)
      | (apply rt_is; exact rfl) | exact rt_w | (apply iv; assumption)
      | apply dw_q mixed hC hGL (by kernel_rfl) | (apply cq; assumption; (first | fail); exact rfl))
  all_goals (try conv => whnf)
  refine ⟨_, rfl, ?_⟩
  refine awd_code (P := Tryz.prog) (C := withD C ({ target := .fn (.func 90) #[], args := #[pv b off, .bool true] } :: C.D)) (G := G) hC hGL ?_
  repeat' (first
    | (conv => whnf); first
      | refine .w ?_ | refine .v ?_ | apply sc_true | apply sc_false
      | (first | apply sc_lt | apply sc_nlt | apply sc_eq | apply sc_neq | apply sc_nil | apply sc_nnil | apply sc_seq | apply sc_nseq) <;> (intro hb; try exact dd hb)
      | apply sc_not | apply sc_or | (apply sc_i <;> intro hb)
      | (apply bx_i; intro hbd) | (apply gt_i; assumption; exact rfl)
      | (apply cx_is; first | fail) | (apply cx_do (i := 0) rfl; first | fail)
      | (apply ab_i; intro bl) | (apply as_i; intro va vk vc hva) | (apply av_i; intro v) | (apply ac_i; intro bl cap hcap)
      | apply bo_l | (apply nx_i <;> intro hnx) | (apply Ia.hit; assumption) | (apply Ia.miss; assumption)
      | (apply rt_is; exact rfl) | exact rt_w | (apply iv; assumption)
      | apply dw_q mixed hC hGL (by kernel_rfl) | (apply cq; assumption; (first | fail); exact rfl))
  all_goals (try conv => whnf)
  rw [forceL_eq]
  refine ⟨_, hf, ?_, fun v' H2 ⟨y, e, _⟩ => by cases e⟩
  rintro v' H2 ⟨y, e, rfl⟩
  cases e
  show Lv Tryz.prog _ _ _ _ ({ target := .fn (.func 90) #[], args := #[pv b off, .bool true] } :: C.D) _ _ _
  rw [hD]
  refine lv_call (ds_pre (T2 y) (bool_store (k0 y) .ret)) (fun R => ⟨_, _, rfl, rel_own.2 ⟨rfl, rfl⟩, _, _, rfl, rel_bool.2 rfl, rfl⟩) Tryz.call90 ?_
  have k1' : ((cs2 y).set off (.int .u32 1))[off + 1]? = some (.int .i32 1) := by rw [List.getElem?_set_ne (by omega)]; exact k1 y
  refine lv_call (ds_pre (T2 y) (unlock k1' .ret)) (fun R => ⟨_, _, rfl, rel_own.2 ⟨rfl, rfl⟩, rfl⟩) Tryz.call89 ?_
  refine lv_ret (P := Tryz.prog) ?_
  exact ⟨_, List.Sublist.refl _, y, rfl, rfl⟩
theorem once_do {G : Glo} {b off fid : Nat} {eT : Option TypeId} {cs : List AVal} {T : Heap} {Y : Type} {cs2 : Y → List AVal} {T2 : Y → Heap} {l1 l2 : List AVal} (h0 : cs[off]? = some (.int .u32 0)) (h1 : cs[off + 1]? = some (.int .i32 0)) (k0 : ∀ y, (cs2 y)[off]? = some (.int .u32 0)) (k1 : ∀ y, (cs2 y)[off + 1]? = some (.int .i32 1))
    (hl1 : unownL l1 = l1) (hl2 : unownL l2 = l2)
    (hf : FnSpec Tryz.prog G fid (unownL (l1 ++ ([] ++ l2))) (.cells b eT (cs.set (off + 1) (.int .i32 1)) :: T) (fun r H => ∃ y, r = .ret (.tuple []) ∧ H = .cells b eT (cs2 y) :: T2 y)) :
    FnSpec Tryz.prog G 76 [.raw (pv b off), .func (.func fid) l1 l2] (.cells b eT cs :: T) (fun r H => ∃ y, r = .ret (.tuple []) ∧ H = .cells b eT (((cs2 y).set off (.int .u32 1)).set (off + 1) (.int .i32 0)) :: T2 y) := by
  have hGL : GloAll G [] := gloAll_nil
  have e1 := bool_load (G := G) (b := b) (eT := eT) h0
  have e2 := once_slow h0 h1 k0 k1 hf
  refine fn_xp 0 Tryz.func76 Tryz.call76 rfl rfl rfl rfl hGL rfl ?_
  intro C hC
  repeat' (first
    | (conv => whnf); first
      | refine .w ?_ | refine .v ?_ | apply sc_true | apply sc_false
      | (first | apply sc_lt | apply sc_nlt | apply sc_eq | apply sc_neq | apply sc_nil | apply sc_nnil | apply sc_seq | apply sc_nseq) <;> (intro hb; try exact dd hb)
      | apply sc_not | apply sc_or | (apply sc_i <;> intro hb)
      | (apply bx_i; intro hbd) | (apply gt_i; assumption; exact rfl)
      | (apply cx_is; first | exact e1) | (apply cx_do (i := 0) rfl; first | exact e1)
      | (apply ab_i; intro bl) | (apply as_i; intro va vk vc hva) | (apply av_i; intro v) | (apply ac_i; intro bl cap hcap)
      | apply bo_l | (apply nx_i <;> intro hnx) | (apply Ia.hit; assumption) | (apply Ia.miss; assumption)
      | (apply rt_is; exact rfl) | exact rt_w | (apply iv; assumption)
      | apply dw_q mixed hC hGL (by kernel_rfl) | (apply cq; assumption; (first | exact e1); exact rfl))
  all_goals (try conv => whnf)
  rw [forceH_eq]
  repeat' (first
    | (conv => whnf); first
      | refine .w ?_ | refine .v ?_ | apply sc_true | apply sc_false
      | (first | apply sc_lt | apply sc_nlt | apply sc_eq | apply sc_neq | apply sc_nil | apply sc_nnil | apply sc_seq | apply sc_nseq) <;> (intro hb; try exact dd hb)
      | apply sc_not | apply sc_or | (apply sc_i <;> intro hb)
      | (apply bx_i; intro hbd) | (apply gt_i; assumption; exact rfl)
      | (apply cx_is; first | exact e1) | (apply cx_do (i := 0) rfl; first | exact e1)
      | (apply ab_i; intro bl) | (apply as_i; intro va vk vc hva) | (apply av_i; intro v) | (apply ac_i; intro bl cap hcap)
      | apply bo_l | (apply nx_i <;> intro hnx) | (apply Ia.hit; assumption) | (apply Ia.miss; assumption)
      | (apply rt_is; exact rfl) | exact rt_w | (apply iv; assumption)
      | apply dw_q mixed hC hGL (by kernel_rfl) | (apply cq; assumption; (first | exact e1); exact rfl))
  all_goals (try conv => whnf)
  rw [show unown (.func (.func fid) l1 l2) = .func (.func fid) l1 l2 by simp [unown, hl1, hl2]]
  refine ⟨_, e2, ?_, fun v' H2 ⟨y, e, _⟩ => by cases e⟩
  rintro v' H2 ⟨y, e, rfl⟩
  cases e
  exact ⟨_, List.Sublist.refl _, y, rfl, rfl⟩
end Go.Proofs.YtkmpcdlmeiophaaGreatDoor
namespace Go.Proofs.YtkmpcdlmeiophaaGreatDoor
open Go Go.RowKit
set_option linter.unusedSectionVars false
theorem made_one (v : Value) (n : Nat) : (madeCells #[v] n).toList = List.replicate n v := by
  unfold madeCells
  refine List.ext_getElem (by simp) (fun i h1 h2 => ?_)
  simp [Nat.mod_one]
section
variable {P : Program} [Tab P] {C : Ctx} {n : Nat} {env : Env} {H : Heap} {Q : AExit → Env → Heap → Prop} {ops : Array Oper} {rest : List Oper} {G : Glo} {GL : List (Nat × List AVal)}
variable {d : Nat} {t : TypeId} {p : String} {af : Array Edge} {g : Option (Nat × Bool)} {b : Bool}
variable {x y : Operand} {T e : TypeId} {xT xe : TI}
theorem run_make_op {ρ : Operand → Value} {w w' : World} {a c u : Value} (ha : ρ x = a) (hc : ρ y = c) (hr : (Instr.makeSlice T a c).run P w = .ok u w') :
    (execOp ρ { dst := some d, op := .makeSlice T x y, type := t, pos := p, after := af, guard := g }).run P w = .ok (.value u) w' := by
  simp only [execOp, ha, hc, Sem.run_bind, hr, Result.andThen_ok, Sem.run_pure]
/-- An empty slice is made, with room. -/
theorem op1_makeR {k1 k2 : IntKind} {m : Nat} (hC : C.G = G) (hGL : GloAll G GL) (hx : evalA env x = some (.int k1 0)) (hy : evalA env y = some (.int k2 (m : Int))) (hm0 : m ≤ 1000000000) (ht : tab P T = some xT) (hd : xT.desc = .slice e) (he : tab P e = some xe) {z : Value} (hz : xe.zero = some z) (hb : Nat.ble xe.bytes 1024 = true)
    (hg : guardA ops env g = some (b, b)) (hdn : Nat.ble (d + 1) n = true)
    (k : ∀ bl, opsX P C n G GL ops Q rest ((d, .own H.length (.slice (some ⟨bl, 0, none⟩) 0 m)) :: env) (H ++ [.row (.slice (some ⟨bl, 0, none⟩) 0 m) (some e) xe.size 0 []])) :
    Op1 P C n ops ({ dst := some d, op := .makeSlice T x y, type := t, pos := p, after := af, guard := g } :: rest) env H Q := by
  refine ⟨ao_valX (X := Nat) (av := fun bl => .raw (.slice (some ⟨bl, 0, none⟩) 0 m)) (H' := fun bl => .row (.slice (some ⟨bl, 0, none⟩) 0 m) (some e) xe.size 0 [] :: H) hg rfl hdn (fun R ρ w hm hf => ?_)
    (fun bl => ao_end (ao_dst_own (i := H.length) rfl (opsX_ok hC hGL _ _ _ (k bl))))⟩
  obtain ⟨i, hi, his, hib, hiz, _⟩ := tab_info he
  have hb := Nat.le_of_ble_eq_true hb
  have hmul : xe.bytes * m ≤ 1024 * 1000000000 := Nat.mul_le_mul hb hm0
  have hr := run_make (P := P) w T e i z (by rw [tab_und ht, hd]) hi (by rw [hiz, hz]) k1 k2 0 (m : Int) (by omega) (by omega) (by rw [hib, ← Int.natCast_mul]; omega) (by omega)
  simp only [Int.toNat_natCast, Int.toNat_zero] at hr
  have hrun := run_make_op (d := d) (t := t) (p := p) (af := af) (g := g) (rel_int.1 (hf _ _ hx)) (rel_int.1 (hf _ _ hy)) hr
  refine ⟨w.heap.size, _, _, R, hrun, Seal.le_refl R, rel_raw.2 rfl, ?_⟩
  · rw [grow_alloc]
    refine hm.alloc _ _ rfl ⟨by simp, .inr ⟨_, _, _, _, _, rfl, grow_at w _, ?_, Nat.zero_le _, ?_, .inl (Nat.le_refl _), fun t ht => by cases ht; rfl⟩⟩
    · rw [size_madeCells, his]
    · simp [RelL]
end
end Go.Proofs.YtkmpcdlmeiophaaGreatDoor
namespace Go.Proofs.YtkmpcdlmeiophaaGreatDoor
open Go Go.RowKit
set_option maxRecDepth 20000
set_option maxHeartbeats 4000000
set_option linter.unusedSimpArgs false
set_option linter.unusedVariables false
attribute [local irreducible] AWp AOps SrcOK OrOk GloAll FnSpec
attribute [local irreducible] DSpec Lv AWpD To
def ca_newC (u : Value) : List AVal := [.int .u32 0, .int .i32 0, .int .u32 0, .raw .nilIface, .own 0 u]
theorem ca_new_replacer {G : Glo} (m : Nat) (f : Nat → AVal) (hm : m ≤ 1000) (h2 : m % 2 = 0) (hs : SrcOK 1 m f) : FnSpec Tryz.prog G 65 [.list 1 m f] [] (fun r H => ∃ bl va vk vc, RowV m va vk ∧ r = .ret (.own 1 (pv bl 0)) ∧ H = [.row (.slice va vk vc) none 1 m (rowCells m f), .cells bl (some 143) (ca_newC (.slice va vk vc))]) := by
  have hGL : GloAll G [] := gloAll_nil
  refine fn_x Tryz.func65 Tryz.call65 rfl rfl rfl rfl hGL ?_
  intro C hC
  repeat' (first
    | (conv => whnf); first
      | refine .w ?_ | refine .v ?_ | apply sc_true | apply sc_false
      | (first | apply sc_lt | apply sc_nlt | apply sc_eq | apply sc_neq | apply sc_nil | apply sc_nnil | apply sc_seq | apply sc_nseq) <;> (intro hb; try exact dd hb)
      | apply sc_not | apply sc_or | (apply sc_i <;> intro hb)
      | (apply bx_i; intro hbd) | (apply gt_i; assumption; exact rfl)
      | (apply cx_is; first | fail) | (apply cx_do (i := 0) rfl; first | fail)
      | (apply ab_i; intro bl) | (apply as_i; intro va vk vc hva) | (apply av_i; intro v) | (apply ac_i; intro bl cap hcap)
      | apply bo_r | (apply nx_i <;> intro hnx) | (apply Ia.hit; assumption) | (apply Ia.miss; assumption)
      | (apply rt_is; exact rfl) | exact rt_w | (apply iv; assumption)
      | exact True.intro | (apply bc_i; intro C hC) | apply bt_i | apply og_n | (apply og_a; exact rfl))
  all_goals (try conv => whnf)
  exact ⟨_, List.Sublist.refl _, bl, va, vk, vc, hva, rfl, rfl⟩
end Go.Proofs.YtkmpcdlmeiophaaGreatDoor
namespace Go.Proofs.YtkmpcdlmeiophaaGreatDoor
open Go Go.RowKit
theorem ca_byteAt_ge {s : List UInt8} {j : Nat} (h : j < s.length) : byteAt s j = s[j].toNat := by
  simp [byteAt, List.getD, h]
/-- What a byte is written as (3.1). -/
def encF (c : UInt8) : List UInt8 := if c = 94 then [94, 94] else if c = 10 then [94, 110] else if c = 34 then [94, 39] else [c]
def encS (s : List UInt8) : List UInt8 := s.flatMap encF
end Go.Proofs.YtkmpcdlmeiophaaGreatDoor
namespace Go.Proofs.YtkmpcdlmeiophaaGreatDoor
open Go Go.RowKit
/-- A parameter. -/
structure Pr where
  n : List UInt8
  vs : List (List UInt8)
def Pr.z : Pr := ⟨[], []⟩
instance : Inhabited Pr := ⟨Pr.z⟩
/-- A line as it stands. -/
structure Ln where
  g : List UInt8
  n : List UInt8
  ps : List Pr
  v : List UInt8
def prF (ps : List Pr) (i : Nat) : AVal := .agg [.str (ps.getD i Pr.z).n, .list 1 (ps.getD i Pr.z).vs.length (strsF (ps.getD i Pr.z).vs)]
def Ln.A (p : Ln) : AVal := .agg [.str p.g, .str p.n, .list 2 p.ps.length (prF p.ps), .str p.v]
def eIf (c : Bool) (s : List UInt8) : List UInt8 := if c then encS s else s
/-- Whether a parameter may have a value. -/
def mayV (c : Bool) (s : List UInt8) : Bool := hdB false (eIf c s) && decide (idxB (eIf c s) 34 < 0)
/-- What is wrong with a parameter. -/
def prE (c : Bool) (q : Pr) : Int := if isS q.n = false then 5 else if q.vs.length = 0 then 8 else if q.vs.all (mayV c) then 0 else 3
/-- The first parameter that is wrong. -/
def firE (c : Bool) : List Pr → Nat → Err
  | [], _ => .none
  | q :: l, i => if prE c q = 0 then firE c l (i + 1) else .at (prE c q) i
def Ln.E (c : Bool) (p : Ln) : Err := if isS p.n = false ∨ (p.g.length ≠ 0 ∧ isS p.g = false) then .errno 5
  else if 20 < p.ps.length then .errno 4
  else match firE c p.ps 0 with
    | .none => if hdB false p.v then .none else .errno 3
    | x => x
/-- A byte for which a value is quoted. -/
def quoC (c : Int) : Bool := decide (c = 44 ∨ c = 59 ∨ c = 58)
def quoS (c : Bool) (s : List UInt8) : List UInt8 := if fstB quoC (eIf c s) < 0 then eIf c s else 34 :: eIf c s ++ [34]
def prT (c : Bool) (q : Pr) : List UInt8 := 59 :: q.n ++ [61] ++ Lib.join (q.vs.map (quoS c)) [44]
def hdT (p : Ln) : List UInt8 := if p.g.length = 0 then p.n else p.g ++ [46] ++ p.n
def Ln.txt (c : Bool) (p : Ln) : List UInt8 := hdT p ++ p.ps.flatMap (prT c) ++ [58] ++ p.v
def Ln.T (c : Bool) (p : Ln) : List UInt8 := match p.E c with
  | .none => p.txt c
  | _ => []
end Go.Proofs.YtkmpcdlmeiophaaGreatDoor
namespace Go.Proofs.YtkmpcdlmeiophaaGreatDoor
open Go Go.RowKit
/-- What stands for a byte behind a caret. -/
def decT (d : UInt8) : Option UInt8 := if d = 94 then some 94 else if d = 110 then some 10 else if d = 39 then some 34 else none
def decS : List UInt8 → List UInt8
  | [] => []
  | [c] => [c]
  | c :: d :: t => match (if c = 94 then decT d else none) with
    | some e => e :: decS t
    | none => c :: decS (d :: t)
theorem decS_nil : decS [] = [] := rfl
theorem decS_none {c d : UInt8} {t : List UInt8} (h : c ≠ 94 ∨ decT d = none) : decS (c :: d :: t) = c :: decS (d :: t) := by
  have : (if c = 94 then decT d else none) = none := by
    rcases h with h | h
    · rw [if_neg h]
    · rw [h]; split <;> rfl
  rw [decS, this]
theorem decS_some {d e : UInt8} {t : List UInt8} (h : decT d = some e) : decS (94 :: d :: t) = e :: decS t := by
  have : (if (94 : UInt8) = 94 then decT d else none) = some e := by rw [if_pos rfl, h]
  rw [decS, this]
theorem u8_of {c : UInt8} {k : Nat} (hk : k < 256) : c = UInt8.ofNat k ↔ c.toNat = k := by
  constructor
  · rintro rfl
    rw [UInt8.toNat_ofNat_of_lt' hk]
  · intro h
    rw [← h, UInt8.ofNat_toNat]
/-- A byte that stands for itself. -/
theorem dec_one {s : List UInt8} {i : Nat} (h : i < s.length) (hn : byteAt s i ≠ 94 ∨ s.length ≤ i + 1 ∨ (byteAt s (i + 1) ≠ 94 ∧ byteAt s (i + 1) ≠ 110 ∧ byteAt s (i + 1) ≠ 39)) :
    decS (s.drop i) = (s.drop i).take 1 ++ decS (s.drop (i + 1)) := by
  rw [List.drop_eq_getElem_cons h]
  rcases Nat.lt_or_ge (i + 1) s.length with h2 | h2
  · rw [List.drop_eq_getElem_cons h2]
    rw [ca_byteAt_ge h, ca_byteAt_ge h2] at hn
    rw [decS_none]
    · rfl
    · rcases hn with hn | hn | ⟨h3, h4, h5⟩
      · left
        intro e
        rw [e] at hn
        exact hn rfl
      · omega
      · right
        unfold decT
        rw [if_neg (fun e => h3 (by rw [e]; rfl)), if_neg (fun e => h4 (by rw [e]; rfl)), if_neg (fun e => h5 (by rw [e]; rfl))]
  · rw [List.drop_eq_nil_of_le h2]
    rfl
/-- A caret and what stands behind it. -/
theorem dec_two {s : List UInt8} {i : Nat} (h : i + 1 < s.length) (h0 : byteAt s i = 94) {e : UInt8} (h1 : (byteAt s (i + 1) = 94 ∧ e = 94) ∨ (byteAt s (i + 1) = 110 ∧ e = 10) ∨ (byteAt s (i + 1) = 39 ∧ e = 34)) :
    decS (s.drop i) = e :: decS (s.drop (i + 2)) := by
  rw [List.drop_eq_getElem_cons (by omega : i < s.length), List.drop_eq_getElem_cons h]
  rw [ca_byteAt_ge (by omega)] at h0
  rw [ca_byteAt_ge h] at h1
  have e0 : s[i] = 94 := (u8_of (by decide)).2 h0
  rw [e0]
  refine decS_some ?_
  rcases h1 with ⟨h1, rfl⟩ | ⟨h1, rfl⟩ | ⟨h1, rfl⟩
  · rw [show s[i + 1] = 94 from (u8_of (by decide)).2 h1]; rfl
  · rw [show s[i + 1] = 110 from (u8_of (by decide)).2 h1]; rfl
  · rw [show s[i + 1] = 39 from (u8_of (by decide)).2 h1]; rfl
end Go.Proofs.YtkmpcdlmeiophaaGreatDoor
namespace Go.Proofs.YtkmpcdlmeiophaaGreatDoor
open Go Go.RowKit
/-- What comes of reading: something, or an error at a place. -/
inductive PR (α : Type) where
  | ok (v : α)
  | bad (e : Int) (p : Nat)
/-- Where the bytes of which something holds end, from a place on. -/
def spanN (p : Int → Bool) (s : List UInt8) (a : Nat) : Nat :=
  if a < s.length ∧ p (byteAt s a : Int) = true then spanN p s (a + 1) else a
termination_by s.length - a
section
variable {p : Int → Bool} {s : List UInt8}
theorem span_go {a : Nat} (h : a < s.length) (k : p (byteAt s a : Int) = true) : spanN p s a = spanN p s (a + 1) := by
  rw [spanN, if_pos ⟨h, k⟩]
theorem span_end {a : Nat} (h : s.length ≤ a) : spanN p s a = a := by
  rw [spanN, if_neg (by omega)]
theorem span_no {a : Nat} (h : p (byteAt s a : Int) = false) : spanN p s a = a := by
  rw [spanN, if_neg (by rw [h]; simp)]
theorem span_key : ∀ (n a : Nat), s.length - a ≤ n → a ≤ spanN p s a ∧ (a ≤ s.length → spanN p s a ≤ s.length) ∧ (∀ j, a ≤ j → j < spanN p s a → p (byteAt s j : Int) = true) ∧ (spanN p s a < s.length → p (byteAt s (spanN p s a) : Int) = false)
  | n, a, hn => by
    by_cases h : a < s.length
    · cases k : p (byteAt s a : Int) with
      | true =>
        cases n with
        | zero => omega
        | succ n =>
          have ih := span_key n (a + 1) (by omega)
          rw [span_go h k]
          refine ⟨by omega, fun _ => ih.2.1 (by omega), fun j h1 h2 => ?_, ih.2.2.2⟩
          rcases Nat.lt_or_ge a j with g | g
          · exact ih.2.2.1 j (by omega) h2
          · rw [show j = a by omega]; exact k
      | false =>
        rw [span_no k]
        exact ⟨Nat.le_refl _, id, fun j h1 h2 => by omega, fun _ => k⟩
    · rw [span_end (by omega)]
      exact ⟨Nat.le_refl _, id, fun j h1 h2 => by omega, fun h2 => absurd h2 h⟩
theorem span_ge (a : Nat) : a ≤ spanN p s a := (span_key _ a (Nat.le_refl _)).1
theorem span_le {a : Nat} (h : a ≤ s.length) : spanN p s a ≤ s.length := (span_key _ a (Nat.le_refl _)).2.1 h
end
/-- Whether a byte stands at a place. -/
def atB (s : List UInt8) (a : Nat) (c : Int) : Bool := decide (a < s.length ∧ (byteAt s a : Int) = c)
theorem atB_t {s : List UInt8} {a : Nat} {c : Int} : atB s a c = true ↔ a < s.length ∧ (byteAt s a : Int) = c := by simp [atB]
theorem atB_f {s : List UInt8} {a : Nat} {c : Int} : atB s a c = false ↔ ¬ (a < s.length ∧ (byteAt s a : Int) = c) := by simp only [atB, decide_eq_false_iff_not]
/-- A name, from a place on, and where it ends. -/
def wordP (s : List UInt8) (a : Nat) : PR (List UInt8 × Nat) :=
  if isS ((s.take (spanN letterB s a)).drop a) then .ok ((s.take (spanN letterB s a)).drop a, spanN letterB s a) else .bad 5 a
def dIf (c : Bool) (s : List UInt8) : List UInt8 := if c then decS s else s
/-- A byte that ends a value. -/
def endQ (q : Bool) (c : Int) : Bool := decide (c = 34 ∨ (q = false ∧ (c = 44 ∨ c = 59 ∨ c = 58)))
theorem endQ_t {q : Bool} {c : Int} : endQ q c = true ↔ (c = 34 ∨ (q = false ∧ (c = 44 ∨ c = 59 ∨ c = 58))) := by simp [endQ]
theorem endQ_f {q : Bool} {c : Int} : endQ q c = false ↔ ¬ (c = 34 ∨ (q = false ∧ (c = 44 ∨ c = 59 ∨ c = 58))) := by simp only [endQ, decide_eq_false_iff_not]
def goQ (q : Bool) (c : Int) : Bool := !endQ q c && !hdC false c
def valF (s : List UInt8) (a : Nat) : Nat := if atB s a 34 then a + 1 else a
def valJ (s : List UInt8) (a : Nat) : Nat := spanN (goQ (atB s a 34)) s (valF s a)
/-- A parameter's value, from a place on, and where it ends. -/
def valP (c : Bool) (s : List UInt8) (a : Nat) : PR (List UInt8 × Nat) :=
  if valJ s a < s.length ∧ endQ (atB s a 34) (byteAt s (valJ s a) : Int) = false then .bad 3 (valJ s a)
  else if atB s a 34 = false then .ok (dIf c ((s.take (valJ s a)).drop (valF s a)), valJ s a)
  else if valJ s a < s.length then .ok (dIf c ((s.take (valJ s a)).drop (valF s a)), valJ s a + 1)
  else .bad 7 (valJ s a)
theorem valF_ge (s : List UInt8) (a : Nat) : a ≤ valF s a ∧ valF s a ≤ a + 1 ∧ (a ≤ s.length → valF s a ≤ s.length) := by
  unfold valF
  split
  · rename_i h
    have := (atB_t.1 h).1
    omega
  · omega
theorem valP_ge {c : Bool} {s v : List UInt8} {a b : Nat} (h : valP c s a = .ok (v, b)) : a ≤ b ∧ (a ≤ s.length → b ≤ s.length) := by
  have h1 := valF_ge s a
  have h2 : valF s a ≤ valJ s a := span_ge _
  have h3 : valF s a ≤ s.length → valJ s a ≤ s.length := span_le
  unfold valP at h
  split at h
  · cases h
  · split at h
    · cases h; omega
    · split at h
      · cases h; omega
      · cases h
/-- Values, from a place on, behind some. -/
def valsP (c : Bool) (s : List UInt8) (a : Nat) (acc : List (List UInt8)) : PR (List (List UInt8) × Nat) :=
  match valP c s a with
  | .bad e p => .bad e p
  | .ok (v, b) => if h : a ≤ b ∧ b < s.length ∧ byteAt s b = 44 then valsP c s (b + 1) (acc ++ [v]) else .ok (acc ++ [v], b)
termination_by s.length - a
theorem valsP_bad {c : Bool} {s : List UInt8} {a : Nat} {acc : List (List UInt8)} {e : Int} {p : Nat} (h : valP c s a = .bad e p) : valsP c s a acc = .bad e p := by
  rw [valsP, h]
theorem valsP_go {c : Bool} {s v : List UInt8} {a b : Nat} {acc : List (List UInt8)} (h : valP c s a = .ok (v, b)) (hb : atB s b 44 = true) : valsP c s a acc = valsP c s (b + 1) (acc ++ [v]) := by
  have h1 := valP_ge h
  have h2 := atB_t.1 hb
  rw [valsP, h]
  dsimp only
  rw [dif_pos ⟨h1.1, h2.1, by omega⟩]
theorem valsP_end {c : Bool} {s v : List UInt8} {a b : Nat} {acc : List (List UInt8)} (h : valP c s a = .ok (v, b)) (hb : atB s b 44 = false) : valsP c s a acc = .ok (acc ++ [v], b) := by
  have h2 := atB_f.1 hb
  rw [valsP, h]
  dsimp only
  rw [dif_neg (by omega)]
theorem valsP_ge {c : Bool} {s : List UInt8} : ∀ (n : Nat) {a b : Nat} {acc vs : List (List UInt8)}, s.length - a ≤ n → valsP c s a acc = .ok (vs, b) → a ≤ b ∧ (a ≤ s.length → b ≤ s.length) ∧ acc.length < vs.length ∧ vs.length ≤ acc.length + 1 + (b - a)
  | n, a, b, acc, vs, hn, h => by
    cases hv : valP c s a with
    | bad e p => rw [valsP_bad hv] at h; cases h
    | ok x =>
      obtain ⟨v, d⟩ := x
      have h1 := valP_ge hv
      cases hb : atB s d 44 with
      | true =>
        have h2 := atB_t.1 hb
        rw [valsP_go hv hb] at h
        cases n with
        | zero => omega
        | succ n =>
          have ih := valsP_ge n (by omega) h
          rw [List.length_append, List.length_singleton] at ih
          omega
      | false =>
        rw [valsP_end hv hb] at h
        cases h
        rw [List.length_append, List.length_singleton]
        omega
/-- Parameters, from a place on, behind some. -/
def parsP (c : Bool) (s : List UInt8) (a : Nat) (acc : List Pr) : PR (List Pr × Nat) :=
  if h : a < s.length ∧ byteAt s a = 59 then
    match wordP s (a + 1) with
    | .bad e p => .bad e p
    | .ok (w, j) => if atB s j 61 then
        match valsP c s (j + 1) [] with
        | .bad e p => .bad e p
        | .ok (vs, b) => if acc.length = 20 then .bad 4 (a + 1) else if g : a < b then parsP c s b (acc ++ [⟨w, vs⟩]) else .bad 0 0
      else .bad 7 j
  else .ok (acc, a)
termination_by s.length - a
theorem wordP_ge {s w : List UInt8} {a j : Nat} (h : wordP s a = .ok (w, j)) : a ≤ j ∧ (a ≤ s.length → j ≤ s.length) ∧ w = (s.take j).drop a ∧ w.length ≤ 40 ∧ isS w = true := by
  unfold wordP at h
  split at h
  · rename_i hi
    cases h
    refine ⟨span_ge _, span_le, rfl, ?_, hi⟩
    unfold isS at hi
    rw [Bool.and_eq_true, Bool.and_eq_true, decide_eq_true_eq, decide_eq_true_eq] at hi
    exact hi.2.2
  · cases h
section
variable {c : Bool} {s w : List UInt8} {a j b p : Nat} {acc : List Pr} {vs : List (List UInt8)} {e : Int}
theorem parsP_end (h : atB s a 59 = false) : parsP c s a acc = .ok (acc, a) := by
  have h := atB_f.1 h
  rw [parsP, dif_neg (by omega)]
theorem parsP_word (h : atB s a 59 = true) (hw : wordP s (a + 1) = .bad e p) : parsP c s a acc = .bad e p := by
  have h := atB_t.1 h
  rw [parsP, dif_pos (by omega), hw]
theorem parsP_eq (h : atB s a 59 = true) (hw : wordP s (a + 1) = .ok (w, j)) (hj : atB s j 61 = false) : parsP c s a acc = .bad 7 j := by
  have h := atB_t.1 h
  rw [parsP, dif_pos (by omega), hw]
  dsimp only
  rw [hj]
  rfl
theorem parsP_vals (h : atB s a 59 = true) (hw : wordP s (a + 1) = .ok (w, j)) (hj : atB s j 61 = true) (hv : valsP c s (j + 1) [] = .bad e p) : parsP c s a acc = .bad e p := by
  have h := atB_t.1 h
  rw [parsP, dif_pos (by omega), hw]
  dsimp only
  rw [hj, if_pos rfl, hv]
theorem parsP_lim (h : atB s a 59 = true) (hw : wordP s (a + 1) = .ok (w, j)) (hj : atB s j 61 = true) (hv : valsP c s (j + 1) [] = .ok (vs, b)) (hl : acc.length = 20) : parsP c s a acc = .bad 4 (a + 1) := by
  have h := atB_t.1 h
  rw [parsP, dif_pos (by omega), hw]
  dsimp only
  rw [hj, if_pos rfl, hv]
  dsimp only
  rw [if_pos hl]
theorem parsP_go (h : atB s a 59 = true) (hw : wordP s (a + 1) = .ok (w, j)) (hj : atB s j 61 = true) (hv : valsP c s (j + 1) [] = .ok (vs, b)) (hl : acc.length ≠ 20) : parsP c s a acc = parsP c s b (acc ++ [⟨w, vs⟩]) := by
  have h := atB_t.1 h
  have h1 := wordP_ge hw
  have h2 := valsP_ge _ (Nat.le_refl _) hv
  rw [parsP, dif_pos (by omega), hw]
  dsimp only
  rw [hj, if_pos rfl, hv]
  dsimp only
  rw [if_neg hl, dif_pos (by omega)]
end
/-- A line's group and name, and where they end. -/
def headP (s : List UInt8) : PR ((List UInt8 × List UInt8) × Nat) :=
  match wordP s 0 with
  | .bad e p => .bad e p
  | .ok (w, j) => if atB s j 46 then
      match wordP s (j + 1) with
      | .bad e p => .bad e p
      | .ok (n, k) => .ok ((w, n), k)
    else .ok (([], w), j)
/-- What stands behind the parameters. -/
def tailP (s g n : List UInt8) (ps : List Pr) (b : Nat) : PR Ln :=
  if atB s b 58 then
    if fstB (hdC false) (s.drop (b + 1)) < 0 then .ok ⟨g, n, ps, s.drop (b + 1)⟩ else .bad 3 (b + 1 + (fstB (hdC false) (s.drop (b + 1))).toNat)
  else .bad 7 b
/-- The line that a text is. -/
def lineP (c : Bool) (s : List UInt8) : PR Ln :=
  if badI s < 0 then
    match headP s with
    | .bad e p => .bad e p
    | .ok ((g, n), a) => match parsP c s a [] with
      | .bad e p => .bad e p
      | .ok (ps, b) => tailP s g n ps b
  else .bad 3 (badI s).toNat
def Ln.no : Ln := ⟨[], [], [], []⟩
def lpL (c : Bool) (s : List UInt8) : Ln := match lineP c s with
  | .ok l => l
  | .bad _ _ => Ln.no
def lpE (c : Bool) (s : List UInt8) : Err := match lineP c s with
  | .ok _ => .none
  | .bad e p => .at e p
end Go.Proofs.YtkmpcdlmeiophaaGreatDoor
namespace Go.Proofs.YtkmpcdlmeiophaaGreatDoor
open Go
set_option linter.unusedVariables false
structure Lf (Q : Prop) : Prop where
  h : Q
structure Lc (a b : Prop) : Prop where
  l : a
  r : b
inductive Le : Prop
  | n
inductive Lz : Prop → Prop
  | n : Lz Le
  | c {a b : Prop} : Lz b → Lz (Lc a b)
theorem Lf.l {a b : Prop} (q : Lf (Lc a b)) : a := q.h.l
theorem Lf.r {a b : Prop} (q : Lf (Lc a b)) : Lf b := ⟨q.h.r⟩
/-- A statement's end: what is known, what the slots hold, what is owned. -/
structure Ct (I : Env) (J : Heap) (p : Prop) (e : Env) (h : Heap) : Prop where
  p : p
  s : Env.sub e I
  j : h = J
theorem Ct.w {I : Env} {J : Heap} {p : Prop} {e : Env} {h : Heap} (hp : p := by first | exact True.intro | assumption | omega) (hs : Env.sub e I := by repeat (first | exact trivial | refine And.intro rfl ?_)) (hj : h = J := by rfl) : Ct I J p e h := ⟨hp, hs, hj⟩
structure Cy {X : Type} (I : X → Env) (J : X → Heap) (Inv : X → Prop) (e : Env) (h : Heap) : Prop where
  h : ∃ x, Inv x ∧ Env.sub e (I x) ∧ h = J x
theorem cy {X : Type} {I : X → Env} {J : X → Heap} {Inv : X → Prop} {e : Env} {h : Heap} (x : X) (hp : Inv x) (hs : Env.sub e (I x) := by repeat (first | exact trivial | refine And.intro rfl ?_)) (hj : h = J x := by rfl) : Cy I J Inv e h := ⟨⟨x, hp, hs, hj⟩⟩
section
variable {P : Program} [Tab P] {C : Ctx} {n : Nat} {G : Glo} {GL : List (Nat × List AVal)} {env : Env} {H : Heap} {Q : AExit → Env → Heap → Prop}
theorem aw_code {c : Code} (hC : C.G = G) (hGL : GloAll G GL) (h : codeX P C n G GL c env H Q) : AWp P C n c env H Q := codeX_ok hC hGL _ _ _ _ h
theorem cut {a b : Code} (hC : C.G = G) (hGL : GloAll G GL) (I : Env) (J : Heap) (p : Prop) (h1 : codeX P C n G GL a env H (thenQ (fun e h => Ct I J p e h) Q)) (h2 : p → AWp P C n b I J Q) : AWp P C n (.seq a b) env H Q :=
  aw_seq ((codeX_ok hC hGL _ _ _ _ h1).mono fun x e h q => by
    cases x with
    | normal =>
      obtain ⟨hp, hs, rfl⟩ := q
      exact aw_sub hs (h2 hp)
    | exit i => exact q
    | goto i => exact q
    | ret => exact q
    | panic v => exact q)
end
theorem xw0 {P : Prop} (h : P := by
    repeat' (first
      | (conv => whnf); first
        | refine .w ?_ | refine .v ?_ | apply sc_true | apply sc_false
        | (first | apply sc_lt | apply sc_nlt | apply sc_eq | apply sc_neq | apply sc_nil | apply sc_nnil | apply sc_seq | apply sc_nseq) <;> (intro wb; try exact dd wb)
        | apply sc_not | apply sc_or | (apply sc_i <;> intro wb)
        | (apply bx_i; intro wb) | (apply gt_i; assumption; exact rfl)
        | (apply cx_is; first | assumption | (apply k1 <;> omega) | (apply k2 <;> omega) | (apply k3 <;> omega)) | (apply cx_do (i := 0) rfl; assumption) | (apply cx_do (i := 1) rfl; assumption) | (apply cx_do (i := 2) rfl; assumption)
        | (apply ab_i; intro wl) | (apply as_i; intro wa wk wc wh) | (apply av_i; intro wv) | (apply ac_i; intro wl wq wb)
        | apply bo_l | (apply nx_i <;> intro wb) | (apply Ia.hit; assumption) | (apply Ia.miss; assumption)
        | (apply rt_is; exact rfl) | exact rt_w | exact Ct.w | (apply iv; assumption)
        | exact True.intro | (apply bc_i; intro wC whC) | apply bt_i | apply og_n | (apply og_a; exact rfl) | apply dw_q mixed whC hGL (by kernel_rfl) | apply dw_q mixed hC hGL (by kernel_rfl) | (apply cq; assumption; (first | assumption | (apply k1 <;> omega) | (apply k2 <;> omega)); exact rfl))
    all_goals (try conv => whnf)) : P := h
theorem xw1 {P Q : Prop} (hQ : Q) (h : Lf Q → P := by
    intro ww
    repeat' (first
      | (conv => whnf); first
        | refine .w ?_ | refine .v ?_ | apply sc_true | apply sc_false
        | (first | apply sc_lt | apply sc_nlt | apply sc_eq | apply sc_neq | apply sc_nil | apply sc_nnil | apply sc_seq | apply sc_nseq) <;> (intro wb; try exact dd wb)
        | apply sc_not | apply sc_or | (apply sc_i <;> intro wb)
        | (apply bx_i; intro wb) | (apply gt_i; assumption; exact rfl)
        | (apply cx_is; first | assumption | (apply k1 <;> omega) | (apply k2 <;> omega) | (apply k3 <;> omega)) | (apply cx_do (i := 0) rfl; assumption) | (apply cx_do (i := 1) rfl; assumption) | (apply cx_do (i := 2) rfl; assumption)
        | (apply ab_i; intro wl) | (apply as_i; intro wa wk wc wh) | (apply av_i; intro wv) | (apply ac_i; intro wl wq wb)
        | apply bo_l | (apply nx_i <;> intro wb) | (apply Ia.hit; assumption) | (apply Ia.miss; assumption)
        | (apply rt_is; exact rfl) | exact rt_w | exact Ct.w | (apply iv; assumption)
        | exact True.intro | (apply bc_i; intro wC whC) | apply bt_i | apply og_n | (apply og_a; exact rfl) | apply dw_q mixed whC hGL (by kernel_rfl) | apply dw_q mixed hC hGL (by kernel_rfl) | (apply cq; assumption; (first | assumption | (apply k1 <;> omega) | (apply k2 <;> omega)); exact rfl))
    all_goals (try conv => whnf)
    all_goals (repeat (first | revert wb | revert wh | revert wc | revert wk | revert wa | revert wq | revert wl | revert wv | revert whC | revert wC))
    all_goals (apply Lf.h; apply ww)) : P := h ⟨hQ⟩
theorem xw {P Q : Prop} (hQ : Q) (h : Lf Q → P := by
    intro ww
    repeat' (first
      | (conv => whnf); first
        | refine .w ?_ | refine .v ?_ | apply sc_true | apply sc_false
        | (first | apply sc_lt | apply sc_nlt | apply sc_eq | apply sc_neq | apply sc_nil | apply sc_nnil | apply sc_seq | apply sc_nseq) <;> (intro wb; try exact dd wb)
        | apply sc_not | apply sc_or | (apply sc_i <;> intro wb)
        | (apply bx_i; intro wb) | (apply gt_i; assumption; exact rfl)
        | (apply cx_is; first | assumption | (apply k1 <;> omega) | (apply k2 <;> omega) | (apply k3 <;> omega)) | (apply cx_do (i := 0) rfl; assumption) | (apply cx_do (i := 1) rfl; assumption) | (apply cx_do (i := 2) rfl; assumption)
        | (apply ab_i; intro wl) | (apply as_i; intro wa wk wc wh) | (apply av_i; intro wv) | (apply ac_i; intro wl wq wb)
        | apply bo_l | (apply nx_i <;> intro wb) | (apply Ia.hit; assumption) | (apply Ia.miss; assumption)
        | (apply rt_is; exact rfl) | exact rt_w | exact Ct.w | (apply iv; assumption)
        | exact True.intro | (apply bc_i; intro wC whC) | apply bt_i | apply og_n | (apply og_a; exact rfl) | apply dw_q mixed whC hGL (by kernel_rfl) | apply dw_q mixed hC hGL (by kernel_rfl) | (apply cq; assumption; (first | assumption | (apply k1 <;> omega) | (apply k2 <;> omega)); exact rfl))
    all_goals (try conv => whnf)
    all_goals (repeat (first | revert wb | revert wh | revert wc | revert wk | revert wa | revert wq | revert wl | revert wv | revert whC | revert wC))
    all_goals (apply Lf.l; with_reducible (repeat (first | apply ww | apply Lf.r)))) (e : Lz Q := by repeat (first | exact Lz.n | apply Lz.c)) : P := h ⟨hQ⟩
theorem xn0 {P : Prop} (h : P := by
    repeat' (first
      | (conv => whnf); first
        | refine .w ?_ | refine .v ?_ | apply sc_true | apply sc_false
        | (first | apply sc_lt | apply sc_nlt | apply sc_eq | apply sc_neq | apply sc_nil | apply sc_nnil | apply sc_seq | apply sc_nseq) <;> (intro wb; try exact dd wb)
        | apply sc_not | apply sc_or | (apply sc_i <;> intro wb)
        | (apply bx_i; intro wb) | (apply gt_i; assumption; exact rfl)
        | (apply cx_is; first | assumption | (apply k1 <;> omega) | (apply k2 <;> omega) | (apply k3 <;> omega)) | (apply cx_do (i := 0) rfl; assumption) | (apply cx_do (i := 1) rfl; assumption) | (apply cx_do (i := 2) rfl; assumption)
        | (apply ab_i; intro wl) | (apply as_i; intro wa wk wc wh) | (apply av_i; intro wv) | (apply ac_i; intro wl wq wb)
        | apply bo_l | (apply nx_i <;> intro wb) | (apply Ia.hit; assumption) | (apply Ia.miss; assumption)
        | (apply rt_is; exact rfl) | exact rt_w | exact Ct.w | (apply iv; assumption)
        | exact True.intro | (apply bc_i; intro wC whC) | apply bt_i | apply og_n | (apply og_a; exact rfl))
    all_goals (try conv => whnf)) : P := h
theorem xn1 {P Q : Prop} (hQ : Q) (h : Lf Q → P := by
    intro ww
    repeat' (first
      | (conv => whnf); first
        | refine .w ?_ | refine .v ?_ | apply sc_true | apply sc_false
        | (first | apply sc_lt | apply sc_nlt | apply sc_eq | apply sc_neq | apply sc_nil | apply sc_nnil | apply sc_seq | apply sc_nseq) <;> (intro wb; try exact dd wb)
        | apply sc_not | apply sc_or | (apply sc_i <;> intro wb)
        | (apply bx_i; intro wb) | (apply gt_i; assumption; exact rfl)
        | (apply cx_is; first | assumption | (apply k1 <;> omega) | (apply k2 <;> omega) | (apply k3 <;> omega)) | (apply cx_do (i := 0) rfl; assumption) | (apply cx_do (i := 1) rfl; assumption) | (apply cx_do (i := 2) rfl; assumption)
        | (apply ab_i; intro wl) | (apply as_i; intro wa wk wc wh) | (apply av_i; intro wv) | (apply ac_i; intro wl wq wb)
        | apply bo_l | (apply nx_i <;> intro wb) | (apply Ia.hit; assumption) | (apply Ia.miss; assumption)
        | (apply rt_is; exact rfl) | exact rt_w | exact Ct.w | (apply iv; assumption)
        | exact True.intro | (apply bc_i; intro wC whC) | apply bt_i | apply og_n | (apply og_a; exact rfl))
    all_goals (try conv => whnf)
    all_goals (repeat (first | revert wb | revert wh | revert wc | revert wk | revert wa | revert wq | revert wl | revert wv | revert whC | revert wC))
    all_goals (apply Lf.h; apply ww)) : P := h ⟨hQ⟩
theorem xn {P Q : Prop} (hQ : Q) (h : Lf Q → P := by
    intro ww
    repeat' (first
      | (conv => whnf); first
        | refine .w ?_ | refine .v ?_ | apply sc_true | apply sc_false
        | (first | apply sc_lt | apply sc_nlt | apply sc_eq | apply sc_neq | apply sc_nil | apply sc_nnil | apply sc_seq | apply sc_nseq) <;> (intro wb; try exact dd wb)
        | apply sc_not | apply sc_or | (apply sc_i <;> intro wb)
        | (apply bx_i; intro wb) | (apply gt_i; assumption; exact rfl)
        | (apply cx_is; first | assumption | (apply k1 <;> omega) | (apply k2 <;> omega) | (apply k3 <;> omega)) | (apply cx_do (i := 0) rfl; assumption) | (apply cx_do (i := 1) rfl; assumption) | (apply cx_do (i := 2) rfl; assumption)
        | (apply ab_i; intro wl) | (apply as_i; intro wa wk wc wh) | (apply av_i; intro wv) | (apply ac_i; intro wl wq wb)
        | apply bo_l | (apply nx_i <;> intro wb) | (apply Ia.hit; assumption) | (apply Ia.miss; assumption)
        | (apply rt_is; exact rfl) | exact rt_w | exact Ct.w | (apply iv; assumption)
        | exact True.intro | (apply bc_i; intro wC whC) | apply bt_i | apply og_n | (apply og_a; exact rfl))
    all_goals (try conv => whnf)
    all_goals (repeat (first | revert wb | revert wh | revert wc | revert wk | revert wa | revert wq | revert wl | revert wv | revert whC | revert wC))
    all_goals (apply Lf.l; with_reducible (repeat (first | apply ww | apply Lf.r)))) (e : Lz Q := by repeat (first | exact Lz.n | apply Lz.c)) : P := h ⟨hQ⟩
theorem xb1 {P Q : Prop} (hQ : Q) (h : Lf Q → P := by
    intro ww
    repeat' (first
      | (conv => whnf); first
        | refine .w ?_ | refine .v ?_ | apply sc_true | apply sc_false
        | (first | apply sc_lt | apply sc_nlt | apply sc_eq | apply sc_neq | apply sc_nil | apply sc_nnil | apply sc_seq | apply sc_nseq) <;> (intro wb; try exact dd wb)
        | apply sc_not | apply sc_or | (apply sc_i <;> intro wb)
        | (apply bx_i; intro wb) | (apply gt_i; assumption; exact rfl)
        | (apply cx_is; first | assumption | (apply k1 <;> omega) | (apply k2 <;> omega) | (apply k3 <;> omega)) | (apply cx_do (i := 0) rfl; assumption) | (apply cx_do (i := 1) rfl; assumption) | (apply cx_do (i := 2) rfl; assumption)
        | (apply ab_i; intro wl) | (apply as_i; intro wa wk wc wh) | (apply av_i; intro wv) | (apply ac_i; intro wl wq wb)
        | apply bo_r | (apply nx_i <;> intro wb) | (apply Ia.hit; assumption) | (apply Ia.miss; assumption)
        | (apply rt_is; exact rfl) | exact rt_w | exact Ct.w | (apply iv; assumption)
        | exact True.intro | (apply bc_i; intro wC whC) | apply bt_i | apply og_n | (apply og_a; exact rfl))
    all_goals (try conv => whnf)
    all_goals (repeat (first | revert wb | revert wh | revert wc | revert wk | revert wa | revert wq | revert wl | revert wv | revert whC | revert wC))
    all_goals (apply Lf.h; apply ww)) : P := h ⟨hQ⟩
end Go.Proofs.YtkmpcdlmeiophaaGreatDoor
namespace Go.Proofs.YtkmpcdlmeiophaaGreatDoor
open Go Go.RowKit
theorem MS.seal_cells {C : Ctx} {R : Seal} {w : World} {H : Heap} {b : Nat} {eT : Option TypeId} {cs : List AVal} (h : MS C R (.cells b eT cs :: H) w) :
    ∃ R', R.le R' ∧ MS C R' H w ∧ Rel R' (.rop cs 0) (.pointer (some ⟨b, 0, none⟩)) := by
  obtain ⟨Cs, el, fz, hb, hl, hfz⟩ := h.heap.holds _ (List.mem_cons_self ..)
  obtain ⟨h1, h2⟩ := h.fixed (b := b) rfl hb
  refine ⟨_, h2, h1, ⟨b, 0, Cs, el, fz, rfl, Nat.le_refl _, Seal.put_at _ _ _, ?_⟩, rfl⟩
  have hlen := relL_length hl
  rw [Nat.sub_self, List.drop_zero, List.take_of_length_le (by omega)]
  exact relL_mono h2 _ _ hl
section
variable {P : Program} [Tab P] {C : Ctx} {n : Nat} {G : Glo} {GL : List (Nat × List AVal)} {e : Env} {h : Heap} {env : Env} {H : Heap} {Q : AExit → Env → Heap → Prop}
omit [Tab P] in
/-- Slots told as the call's own. -/
def owns : List (Nat × Nat × Value) → Env → Env
  | [], e => e
  | (s, i, v) :: t, e => (s, .own i v) :: owns t e
def OwnsOK : List (Nat × Nat × Value) → Env → Prop
  | [], _ => True
  | (s, _, v) :: t, e => (Env.get (owns t e) s = some (.raw v) ∧ vAgg v = false) ∧ OwnsOK t e
theorem fs_owns {D : List Deferred} {R : Seal} {a : Act} : ∀ {os : List (Nat × Nat × Value)} {e : Env}, OwnsOK os e → FS D n R e a → FS D n R (owns os e) a
  | [], _, _, h => h
  | (_, _, _) :: _, _, ⟨⟨h1, h2⟩, h3⟩, h => fs_own h2 h1 (fs_owns h3 h)
/-- Into a function with such slots. -/
theorem fn_own (os : List (Nat × Nat × Value)) {f : FuncId} {fn : Func} {c : Code} {avs : List AVal} {Qf : ARes → Heap → Prop} {rs : List ResultVar} (hf : P.funcs[f]? = some fn)
    (hc : ∀ args w, (callFunc f args).run P w = .ok (.enter f args) w) (hb : fn.body = some c) (hn : fn.ntmps = n) (hrs : fn.results = rs.toArray) (hlen : Nat.ble avs.length n = true) (ho : OwnsOK os (argEnv 0 avs))
    (h : ∀ C : Ctx, C.G = G → AWp P C n c (owns os (argEnv 0 avs)) H (RetX P rs Qf)) : FnSpec P G f avs H Qf :=
  fn_spec hf hb hc hn hrs hlen fun w0 R0 hG => AWp.mono (aw_env (fun _ _ hf => fs_owns ho hf) (h ⟨w0, R0, blks H, G, hG, []⟩ rfl)) fun _ _ _ q => RetX_ok q
end
end Go.Proofs.YtkmpcdlmeiophaaGreatDoor
namespace Go.Proofs.YtkmpcdlmeiophaaGreatDoor
open Go Go.RowKit
set_option linter.unusedSectionVars false
theorem fn_xt {P : Program} [Tab P] {G : Glo} {GL : List (Nat × List AVal)} {n : Nat} {H : Heap} {v1 v2 : Value} (i s1 j s2 : Nat) {f : FuncId} {fn : Func} {c : Code} {avs : List AVal} {Qf : ARes → Heap → Prop} {rs : List ResultVar} (hf : P.funcs[f]? = some fn)
    (hc : ∀ args w, (callFunc f args).run P w = .ok (.enter f args) w) (hb : fn.body = some c) (hn : fn.ntmps = n) (hrs : fn.results = rs.toArray) (hlen : Nat.ble avs.length n = true) (hGL : GloAll G GL) (hv1 : vAgg v1 = false) (hv2 : vAgg v2 = false)
    (hk1 : Env.get (argEnv 0 avs) s1 = some (.raw v1)) (hk2 : Env.get ((s1, .own i v1) :: argEnv 0 avs) s2 = some (.raw v2))
    (h : ∀ C : Ctx, C.G = G → codeX P C n G GL c ((s2, .own j v2) :: (s1, .own i v1) :: argEnv 0 avs) H (RetX P rs Qf)) : FnSpec P G f avs H Qf :=
  fn_spec hf hb hc hn hrs hlen fun w0 R0 hG => (aw_env (fun _ _ hf => fs_own (i := i) hv1 hk1 hf) (own_slot (C := ⟨w0, R0, blks H, G, hG, []⟩) (k := s2) j rfl hGL hv2 hk2 (h ⟨w0, R0, blks H, G, hG, []⟩ rfl))).mono fun _ _ _ q => RetX_ok q
section
variable {P : Program} [Tab P] {C : Ctx} {n : Nat} {env : Env} {H : Heap} {Q : AExit → Env → Heap → Prop} {ops : Array Oper} {rest : List Oper} {G : Glo} {GL : List (Nat × List AVal)}
variable {d : Nat} {t : TypeId} {p : String} {af : Array Edge} {g : Option (Nat × Bool)} {b : Bool}
variable {x y : Operand} {T e : TypeId} {xT xe : TI}
/-- A slice of pointers is made. -/
theorem op1_makeP {k1 k2 : IntKind} {m : Nat} (hC : C.G = G) (hGL : GloAll G GL) (hx : evalA env x = some (.int k1 (m : Int))) (hy : evalA env y = some (.int k2 (m : Int))) (hm0 : m ≤ 1000000000) (ht : tab P T = some xT) (hd : xT.desc = .slice e) (he : tab P e = some xe) (hz : xe.zero = some (.pointer none)) (hs : xe.size = 1) (hb : Nat.ble xe.bytes 1024 = true)
    (hg : guardA ops env g = some (b, b)) (hdn : Nat.ble (d + 1) n = true)
    (k : ∀ bl, opsX P C n G GL ops Q rest ((d, .own H.length (.slice (some ⟨bl, 0, none⟩) m m)) :: env) (H ++ [.row (.slice (some ⟨bl, 0, none⟩) m m) (some e) 1 m (List.replicate m (.raw (.pointer none)))])) :
    Op1 P C n ops ({ dst := some d, op := .makeSlice T x y, type := t, pos := p, after := af, guard := g } :: rest) env H Q := by
  refine ⟨ao_valX (X := Nat) (av := fun bl => .raw (.slice (some ⟨bl, 0, none⟩) m m)) (H' := fun bl => .row (.slice (some ⟨bl, 0, none⟩) m m) (some e) 1 m (List.replicate m (.raw (.pointer none))) :: H) hg rfl hdn (fun R ρ w hm hf => ?_)
    (fun bl => ao_end (ao_dst_own (i := H.length) rfl (opsX_ok hC hGL _ _ _ (k bl))))⟩
  obtain ⟨i, hi, his, hib, hiz, _⟩ := tab_info he
  have hb := Nat.le_of_ble_eq_true hb
  have hmul : xe.bytes * m ≤ 1024 * 1000000000 := Nat.mul_le_mul hb hm0
  have hr := run_make (P := P) w T e i (.pointer none) (by rw [tab_und ht, hd]) hi (by rw [hiz, hz]) k1 k2 (m : Int) (m : Int) (by omega) (by omega) (by rw [hib, ← Int.natCast_mul]; omega) (by omega)
  simp only [Int.toNat_natCast] at hr
  have hrun := run_make_op (d := d) (t := t) (p := p) (af := af) (g := g) (rel_int.1 (hf _ _ hx)) (rel_int.1 (hf _ _ hy)) hr
  refine ⟨w.heap.size, _, _, R, hrun, Seal.le_refl R, rel_raw.2 rfl, ?_⟩
  · rw [grow_alloc]
    refine hm.alloc _ _ rfl ⟨by simp, .inr ⟨_, _, _, _, _, rfl, grow_at w _, ?_, Nat.le_refl _, ?_, .inl (Nat.le_refl _), fun t ht => by cases ht; rfl⟩⟩
    · rw [size_madeCells, his, hs]
    · rw [his, hs, Nat.mul_one, show (Value.pointer none).cells = #[.pointer none] from rfl, made_one, List.take_of_length_le (by simp)]
      exact relL_replicate (show RelC R (.raw (.pointer none)) [.pointer none] from rfl) _
/-- An element of an array that is a value. -/
theorem rv_indexA {len i : Nat} {k0 : IntKind} {cs : List AVal} {av : AVal} (hx : evalA env x = some (.agg cs)) (hy : evalA env y = some (.int k0 (i : Int))) (h1 : tab P T = some xT) (h2 : xT.desc = .array len e) (h3 : tab P e = some xe) (h4 : xe.size = 1) (h5 : descAgg xe.desc = false) (hi : i < len) (hc : cs[i]? = some av) (ha : av.isAgg = false) :
    RunV P C H env (.index T x y) av := by
  intro R ρ w hm hf dst t p af g
  have hr := hf _ _ hx
  obtain ⟨vs, hvs⟩ : ∃ vs, ρ x = .agg vs := by
    have := hr.2
    cases hv : ρ x <;> rw [hv] at this <;> simp [AVal.isAgg, vAgg] at this
    exact ⟨_, rfl⟩
  rw [hvs] at hr
  obtain ⟨v, hv, hrv⟩ := relL_get (R := R) (cs := cs) (vs := vs.toList) hr.1 hc
  refine ⟨v, ?_, relC_rel hrv ha⟩
  have hv' : vs[i]? = some v := by simpa using hv
  have hn : (0 : Int) ≤ i ∧ (i : Int) < len := ⟨by omega, by omega⟩
  have hil : i < vs.size := by
    rcases Nat.lt_or_ge i vs.size with h | h
    · exact h
    · rw [Array.getElem?_eq_none h] at hv'; cases hv'
  simp only [execOp, hvs, rel_int.1 (hf _ _ hy), Instr.index, asIntOf, Sem.run_bind, Sem.run_pure, Result.andThen_ok, tab_run_und h1, h2, hn, part, Int.toNat_natCast]
  simp [tab_run_size h3, tab_run_agg h3, h5, h4, hv']
end
end Go.Proofs.YtkmpcdlmeiophaaGreatDoor
