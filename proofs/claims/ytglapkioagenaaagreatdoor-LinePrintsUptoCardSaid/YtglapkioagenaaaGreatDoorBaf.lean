/- Parts of the proof of linePrints_card: Onc, Ond, Mak, Cpy, Byt, Rpl, Rpm, Rpn, Lna, Wk, Dc, Rf, Hdb, Cno. -/
import Derived.Laws.MakeOwn
import Derived.Laws.IdiomCopy
import GoSem.PinnedTables
import Derived.Test.YtglapkioagenaaaGreatDoorBae
import Derived.Test.YtglapkioagenaaaGreatDoorBad
set_option linter.unusedVariables false
set_option linter.unusedSimpArgs false
namespace Go.Proofs.YtglapkioagenaaaGreatDoor
open Go Go.RowKit
theorem fn_xp {P : Program} [Tab P] {G : Glo} {GL : List (Nat × List AVal)} {n : Nat} {H : Heap} {v : Value} (i : Nat) {f : FuncId} {fn : Func} {c : Code} {avs : List AVal} {Qf : ARes → Heap → Prop} {rs : List ResultVar} (hf : P.funcs[f]? = some fn)
    (hc : ∀ args w, (callFunc f args).run P w = .ok (.enter f args) w) (hb : fn.body = some c) (hn : fn.ntmps = n) (hrs : fn.results = rs.toArray) (hlen : Nat.ble (AVal.raw v :: avs).length n = true) (hGL : GloAll G GL) (hv : vAgg v = false)
    (h : ∀ C : Ctx, C.G = G → codeX P C n G GL c ((0, .own i v) :: argEnv 0 (.raw v :: avs)) H (RetX P rs Qf)) : FnSpec P G f (.raw v :: avs) H Qf :=
  fn_spec hf hb hc hn hrs hlen fun w0 R0 hG => (own_slot (C := ⟨w0, R0, blks H, G, hG, []⟩) (k := 0) i rfl hGL hv rfl (h ⟨w0, R0, blks H, G, hG, []⟩ rfl)).mono fun _ _ _ q => RetX_ok q
section
variable {P : Program} [Tab P] {C : Ctx} {n : Nat} {env : Env} {H : Heap} {G : Glo} {x : Operand} {S T u : TypeId} {xS xT xu : TI}
theorem rv_toU {i j b off : Nat} {eT : Option TypeId} {cs : List AVal} {a : AVal} (hx : evalA env x = some (.own i (pv b off))) (hj : H[j]? = some (.cells b eT cs)) (hc : cs[off]? = some a) (h1 : tab P S = some xS) (h2 : xS.desc = .pointer u) (h3 : tab P T = some xT) (h4 : xT.desc = .unsafePointer) (h5 : tab P u = some xu) (h6 : Nat.ble 1 xu.size = true) :
    RunV P C H env (.convert S T x) (.raw (pv b off)) := by
  intro R ρ w hm hf dst t p af g
  obtain ⟨Cs, el, fz, hb, hl, _⟩ := own_cells hm hj
  obtain ⟨v, hv, _⟩ := relL_get hl hc
  have hcell : w.cell? ⟨b, off, none⟩ = some v := by simp only [World.cell?, hb]; simpa using hv
  obtain ⟨iu, hiu, his, _⟩ := tab_info h5
  have h6 := Nat.le_of_ble_eq_true h6
  have hr := run_convert_to_unsafe (P := P) (src := S) (dst := T) (by rw [tab_und h1, h2]) (by rw [tab_und h3, h4]) (by rw [hiu]; simp [his]; omega) hcell
  exact ⟨_, by simp only [execOp, (rel_own.1 (hf _ _ hx)).1, Sem.run_bind, hr, Result.andThen_ok, Sem.run_pure], rel_raw.2 rfl⟩
end
section
variable {G : Glo}
theorem mark_spec {f : FuncId} (h : ∀ w, (callFunc f #[]).run Tryz.prog w = .ok (.value (.tuple #[])) w) : FnIs Tryz.prog G f [] (.tuple []) := by
  intro R w args hG hm ha
  have e : args = #[] := by
    have : args.toList = [] := ha
    exact Array.ext' this
  subst e
  exact .inr ⟨_, w, h w, _, [], R, ⟨rfl, rfl⟩, ⟨_, rfl, ⟨#[], rfl, rfl⟩, rfl⟩, hm⟩
theorem marked_spec {f : FuncId} {a : Addr} (h : ∀ w, (callFunc f #[.pointer (some a)]).run Tryz.prog w = .ok (.value (.tuple #[])) w) : FnIs Tryz.prog G f [.raw (.pointer (some a))] (.tuple []) := by
  intro R w args hG hm ha
  obtain rfl := arg1 ha
  exact .inr ⟨_, w, h w, _, [], R, ⟨rfl, rfl⟩, ⟨_, rfl, ⟨#[], rfl, rfl⟩, rfl⟩, hm⟩
theorem race_off : FnIs Tryz.prog G 101 [] (.tuple []) := mark_spec fun w => run_call_mark0 Tryz.func101 (by kernel_rfl) (by kernel_rfl) (by kernel_rfl) .disable (by kernel_rfl) w
theorem race_on : FnIs Tryz.prog G 103 [] (.tuple []) := mark_spec fun w => run_call_mark0 Tryz.func103 (by kernel_rfl) (by kernel_rfl) (by kernel_rfl) .enable (by kernel_rfl) w
theorem race_acq (a : Addr) : FnIs Tryz.prog G 104 [.raw (.pointer (some a))] (.tuple []) := marked_spec fun w => run_call_marked Tryz.func104 (by kernel_rfl) (by kernel_rfl) (by kernel_rfl) .acquire (by kernel_rfl) a w
theorem race_rel (a : Addr) : FnIs Tryz.prog G 106 [.raw (.pointer (some a))] (.tuple []) := marked_spec fun w => run_call_marked Tryz.func106 (by kernel_rfl) (by kernel_rfl) (by kernel_rfl) .releaseMerge (by kernel_rfl) a w
set_option maxRecDepth 20000
set_option maxHeartbeats 4000000
set_option linter.unusedSimpArgs false
set_option linter.unusedVariables false
attribute [local irreducible] AWp AOps byteAt SrcOK OrOk GloAll FnSpec
theorem int_lock {b off : Nat} {eT : Option TypeId} {cs : List AVal} (hc : cs[off]? = some (.int .i32 0)) : FnSpec Tryz.prog G 92 [.raw (pv b off)] [.cells b eT cs] (fun r H => r = .ret (.tuple []) ∧ H = [.cells b eT (cs.set off (.int .i32 1))]) := by
  have hGL : GloAll G [] := gloAll_nil
  have e1 := at_cas (G := G) (b := b) (eT := eT) (y := 1) hc
  have hlt := (List.getElem?_eq_some_iff.1 hc).1
  refine fn_xp 0 Tryz.func92 Tryz.call92 rfl rfl rfl rfl hGL rfl ?_
  intro C hC
  repeat' (first
    | (conv => whnf); first
      | refine .w ?_ | refine .v ?_ | apply sc_true | apply sc_false
      | (first | apply sc_lt | apply sc_nlt | apply sc_eq | apply sc_neq | apply sc_nil | apply sc_nnil | apply sc_seq | apply sc_nseq) <;> (intro hb; try exact dd hb)
      | apply sc_not | apply sc_or | (apply sc_i <;> intro hb)
      | (apply bx_i; intro hbd) | (apply gt_i; assumption; exact rfl)
      | (apply cx_is; first | exact race_off | exact race_on | exact e1) | (apply cx_do (i := 0) rfl; first | exact race_off | exact race_on | exact e1)
      | (apply ab_i; intro bl) | (apply as_i; intro va vk vc hva) | (apply av_i; intro v) | (apply ac_i; intro bl cap hcap)
      | apply bo_l | (apply nx_i <;> intro hnx) | (apply Ia.hit; assumption) | (apply Ia.miss; assumption)
      | (apply rt_is; exact rfl) | exact rt_w | (apply iv; assumption)
      | apply dw_q mixed hC hGL (by kernel_rfl) | (apply cq; assumption; (first | exact race_off | exact race_on | exact e1); exact rfl))
  all_goals (try conv => whnf)
  refine op1_run hC hGL (rv_toU (j := 0) rfl rfl (List.getElem?_set_self hlt) rfl rfl rfl rfl rfl rfl) rfl rfl ?_
  repeat' (first
    | (conv => whnf); first
      | refine .w ?_ | refine .v ?_ | apply sc_true | apply sc_false
      | (first | apply sc_lt | apply sc_nlt | apply sc_eq | apply sc_neq | apply sc_nil | apply sc_nnil | apply sc_seq | apply sc_nseq) <;> (intro hb; try exact dd hb)
      | apply sc_not | apply sc_or | (apply sc_i <;> intro hb)
      | (apply bx_i; intro hbd) | (apply gt_i; assumption; exact rfl)
      | (apply cx_is; first | exact race_acq _) | (apply cx_do (i := 0) rfl; first | exact race_acq _)
      | (apply ab_i; intro bl) | (apply as_i; intro va vk vc hva) | (apply av_i; intro v) | (apply ac_i; intro bl cap hcap)
      | apply bo_l | (apply nx_i <;> intro hnx) | (apply Ia.hit; assumption) | (apply Ia.miss; assumption)
      | (apply rt_is; exact rfl) | exact rt_w | (apply iv; assumption)
      | apply dw_q mixed hC hGL (by kernel_rfl) | (apply cq; assumption; (first | exact race_acq _); exact rfl))
  all_goals (try conv => whnf)
theorem int_unlock {b off : Nat} {eT : Option TypeId} {cs : List AVal} (hc : cs[off]? = some (.int .i32 1)) : FnSpec Tryz.prog G 93 [.raw (pv b off)] [.cells b eT cs] (fun r H => r = .ret (.tuple []) ∧ H = [.cells b eT (cs.set off (.int .i32 0))]) := by
  have hGL : GloAll G [] := gloAll_nil
  have e1 := at_dec (G := G) (b := b) (eT := eT) hc
  refine fn_xp 0 Tryz.func93 Tryz.call93 rfl rfl rfl rfl hGL rfl ?_
  intro C hC
  repeat' (first
    | (conv => whnf); first
      | refine .w ?_ | refine .v ?_ | apply sc_true | apply sc_false
      | (first | apply sc_lt | apply sc_nlt | apply sc_eq | apply sc_neq | apply sc_nil | apply sc_nnil | apply sc_seq | apply sc_nseq) <;> (intro hb; try exact dd hb)
      | apply sc_not | apply sc_or | (apply sc_i <;> intro hb)
      | (apply bx_i; intro hbd) | (apply gt_i; assumption; exact rfl)
      | (apply cx_is; first | exact race_off | exact race_on | exact e1) | (apply cx_do (i := 0) rfl; first | exact race_off | exact race_on | exact e1)
      | (apply ab_i; intro bl) | (apply as_i; intro va vk vc hva) | (apply av_i; intro v) | (apply ac_i; intro bl cap hcap)
      | apply bo_l | (apply nx_i <;> intro hnx) | (apply Ia.hit; assumption) | (apply Ia.miss; assumption)
      | (apply rt_is; exact rfl) | exact rt_w | (apply iv; assumption)
      | apply dw_q mixed hC hGL (by kernel_rfl) | (apply cq; assumption; (first | exact race_off | exact race_on | exact e1); exact rfl))
  all_goals (try conv => whnf)
  erw [hc]
  repeat' (first
    | (conv => whnf); first
      | refine .w ?_ | refine .v ?_ | apply sc_true | apply sc_false
      | (first | apply sc_lt | apply sc_nlt | apply sc_eq | apply sc_neq | apply sc_nil | apply sc_nnil | apply sc_seq | apply sc_nseq) <;> (intro hb; try exact dd hb)
      | apply sc_not | apply sc_or | (apply sc_i <;> intro hb)
      | (apply bx_i; intro hbd) | (apply gt_i; assumption; exact rfl)
      | (apply cx_is; first | exact race_off | exact race_on | exact e1) | (apply cx_do (i := 0) rfl; first | exact race_off | exact race_on | exact e1)
      | (apply ab_i; intro bl) | (apply as_i; intro va vk vc hva) | (apply av_i; intro v) | (apply ac_i; intro bl cap hcap)
      | apply bo_l | (apply nx_i <;> intro hnx) | (apply Ia.hit; assumption) | (apply Ia.miss; assumption)
      | (apply rt_is; exact rfl) | exact rt_w | (apply iv; assumption)
      | apply dw_q mixed hC hGL (by kernel_rfl) | (apply cq; assumption; (first | exact race_off | exact race_on | exact e1); exact rfl))
  all_goals (try conv => whnf)
  refine op1_run hC hGL (rv_toU (j := 0) rfl rfl hc rfl rfl rfl rfl rfl rfl) rfl rfl ?_
  repeat' (first
    | (conv => whnf); first
      | refine .w ?_ | refine .v ?_ | apply sc_true | apply sc_false
      | (first | apply sc_lt | apply sc_nlt | apply sc_eq | apply sc_neq | apply sc_nil | apply sc_nnil | apply sc_seq | apply sc_nseq) <;> (intro hb; try exact dd hb)
      | apply sc_not | apply sc_or | (apply sc_i <;> intro hb)
      | (apply bx_i; intro hbd) | (apply gt_i; assumption; exact rfl)
      | (apply cx_is; first | exact race_rel _ | exact race_off | exact race_on | exact e1) | (apply cx_do (i := 0) rfl; first | exact race_rel _ | exact race_off | exact race_on | exact e1)
      | (apply ab_i; intro bl) | (apply as_i; intro va vk vc hva) | (apply av_i; intro v) | (apply ac_i; intro bl cap hcap)
      | apply bo_l | (apply nx_i <;> intro hnx) | (apply Ia.hit; assumption) | (apply Ia.miss; assumption)
      | (apply rt_is; exact rfl) | exact rt_w | (apply iv; assumption)
      | apply dw_q mixed hC hGL (by kernel_rfl) | (apply cq; assumption; (first | exact race_rel _ | exact race_off | exact race_on | exact e1); exact rfl))
  all_goals (try conv => whnf)
theorem lock {b off : Nat} {eT : Option TypeId} {cs : List AVal} (hc : cs[off]? = some (.int .i32 0)) : FnSpec Tryz.prog G 80 [.raw (pv b off)] [.cells b eT cs] (fun r H => r = .ret (.tuple []) ∧ H = [.cells b eT (cs.set off (.int .i32 1))]) := by
  have hGL : GloAll G [] := gloAll_nil
  have e1 := int_lock (G := G) (b := b) (eT := eT) hc
  refine fn_xp 0 Tryz.func80 Tryz.call80 rfl rfl rfl rfl hGL rfl ?_
  intro C hC
  repeat' (first
    | (conv => whnf); first
      | refine .w ?_ | refine .v ?_ | apply sc_true | apply sc_false
      | (first | apply sc_lt | apply sc_nlt | apply sc_eq | apply sc_neq | apply sc_nil | apply sc_nnil | apply sc_seq | apply sc_nseq) <;> (intro hb; try exact dd hb)
      | apply sc_not | apply sc_or | (apply sc_i <;> intro hb)
      | (apply bx_i; intro hbd) | (apply gt_i; assumption; exact rfl)
      | (apply cx_is; first | exact e1) | (apply cx_do (i := 0) rfl; first | exact e1)
      | (apply ab_i; intro bl) | (apply as_i; intro va vk vc hva) | (apply av_i; intro v) | (apply ac_i; intro bl cap hcap)
      | apply bo_l | (apply nx_i <;> intro hnx) | (apply Ia.hit; assumption) | (apply Ia.miss; assumption)
      | (apply rt_is; exact rfl) | exact rt_w | (apply iv; assumption)
      | apply dw_q mixed hC hGL (by kernel_rfl) | (apply cq; assumption; (first | exact e1); exact rfl))
  all_goals (try conv => whnf)
theorem unlock {b off : Nat} {eT : Option TypeId} {cs : List AVal} (hc : cs[off]? = some (.int .i32 1)) (m : AMode) : DSpec Tryz.prog G 81 [.own 0 (pv b off)] m [.cells b eT cs] (fun r m' H => m' = m ∧ r = .ret (.tuple []) ∧ H = [.cells b eT (cs.set off (.int .i32 0))]) := by
  have hGL : GloAll G [] := gloAll_nil
  have e1 := int_unlock (G := G) (b := b) (eT := eT) hc
  refine ds_code (rs := []) (GL := []) Tryz.func81 rfl rfl rfl rfl hGL ?_
  intro C hC
  repeat' (first
    | (conv => whnf); first
      | refine .w ?_ | refine .v ?_ | apply sc_true | apply sc_false
      | (first | apply sc_lt | apply sc_nlt | apply sc_eq | apply sc_neq | apply sc_nil | apply sc_nnil | apply sc_seq | apply sc_nseq) <;> (intro hb; try exact dd hb)
      | apply sc_not | apply sc_or | (apply sc_i <;> intro hb)
      | (apply bx_i; intro hbd) | (apply gt_i; assumption; exact rfl)
      | (apply cx_is; first | exact e1) | (apply cx_do (i := 0) rfl; first | exact e1)
      | (apply ab_i; intro bl) | (apply as_i; intro va vk vc hva) | (apply av_i; intro v) | (apply ac_i; intro bl cap hcap)
      | apply bo_l | (apply nx_i <;> intro hnx) | (apply Ia.hit; assumption) | (apply Ia.miss; assumption)
      | (apply rt_is; exact rfl) | exact rt_w | (apply iv; assumption)
      | apply dw_q mixed hC hGL (by kernel_rfl) | (apply cq; assumption; (first | exact e1); exact rfl))
  all_goals (try conv => whnf)
theorem bool_load {b off : Nat} {eT : Option TypeId} {cs : List AVal} {n : Int} (hc : cs[off]? = some (.int .u32 n)) : FnSpec Tryz.prog G 62 [.raw (pv b off)] [.cells b eT cs] (fun r H => r = .ret (.bool (!eqB n 0)) ∧ H = [.cells b eT cs]) := by
  have hGL : GloAll G [] := gloAll_nil
  have e1 := at_load (G := G) (b := b) (eT := eT) hc
  refine fn_xp 0 Tryz.func62 Tryz.call62 rfl rfl rfl rfl hGL rfl ?_
  intro C hC
  repeat' (first
    | (conv => whnf); first
      | refine .w ?_ | refine .v ?_ | apply sc_true | apply sc_false
      | (first | apply sc_lt | apply sc_nlt | apply sc_eq | apply sc_neq | apply sc_nil | apply sc_nnil | apply sc_seq | apply sc_nseq) <;> (intro hb; try exact dd hb)
      | apply sc_not | apply sc_or | (apply sc_i <;> intro hb)
      | (apply bx_i; intro hbd) | (apply gt_i; assumption; exact rfl)
      | (apply cx_is; first | exact e1) | (apply cx_do (i := 0) rfl; first | exact e1)
      | (apply ab_i; intro bl) | (apply as_i; intro va vk vc hva) | (apply av_i; intro v) | (apply ac_i; intro bl cap hcap)
      | apply bo_l | (apply nx_i <;> intro hnx) | (apply Ia.hit; assumption) | (apply Ia.miss; assumption)
      | (apply rt_is; exact rfl) | exact rt_w | (apply iv; assumption)
      | apply dw_q mixed hC hGL (by kernel_rfl) | (apply cq; assumption; (first | exact e1); exact rfl))
  all_goals (try conv => whnf)
theorem b32_true : FnIs Tryz.prog G 95 [.bool true] (.int .u32 1) := by
  have hGL : GloAll G [] := gloAll_nil
  refine fn_x Tryz.func95 Tryz.call95 rfl rfl rfl rfl hGL ?_
  intro C hC
  repeat' (first
    | (conv => whnf); first
      | refine .w ?_ | refine .v ?_ | apply sc_true | apply sc_false
      | (first | apply sc_lt | apply sc_nlt | apply sc_eq | apply sc_neq | apply sc_nil | apply sc_nnil | apply sc_seq | apply sc_nseq) <;> (intro hb; try exact dd hb)
      | apply sc_not | apply sc_or | (apply sc_i <;> intro hb)
      | (apply bx_i; intro hbd) | (apply gt_i; assumption; exact rfl)
      | (apply cx_is; first | fail) | (apply cx_do (i := 0) rfl; first | fail)
      | (apply ab_i; intro bl) | (apply as_i; intro va vk vc hva) | (apply av_i; intro v) | (apply ac_i; intro bl cap hcap)
      | apply bo_l | (apply nx_i <;> intro hnx) | (apply Ia.hit; assumption) | (apply Ia.miss; assumption)
      | (apply rt_is; exact rfl) | exact rt_w | (apply iv; assumption)
      | apply dw_q mixed hC hGL (by kernel_rfl) | (apply cq; assumption; (first | fail); exact rfl))
  all_goals (try conv => whnf)
theorem bool_store {b off : Nat} {eT : Option TypeId} {cs : List AVal} {n : Int} (hc : cs[off]? = some (.int .u32 n)) (m : AMode) : DSpec Tryz.prog G 82 [.own 0 (pv b off), .bool true] m [.cells b eT cs] (fun r m' H => m' = m ∧ r = .ret (.tuple []) ∧ H = [.cells b eT (cs.set off (.int .u32 1))]) := by
  have hGL : GloAll G [] := gloAll_nil
  have e1 := at_store (G := G) (b := b) (eT := eT) (y := 1) hc
  refine ds_code (rs := []) (GL := []) Tryz.func82 rfl rfl rfl rfl hGL ?_
  intro C hC
  repeat' (first
    | (conv => whnf); first
      | refine .w ?_ | refine .v ?_ | apply sc_true | apply sc_false
      | (first | apply sc_lt | apply sc_nlt | apply sc_eq | apply sc_neq | apply sc_nil | apply sc_nnil | apply sc_seq | apply sc_nseq) <;> (intro hb; try exact dd hb)
      | apply sc_not | apply sc_or | (apply sc_i <;> intro hb)
      | (apply bx_i; intro hbd) | (apply gt_i; assumption; exact rfl)
      | (apply cx_is; first | exact e1 | exact b32_true) | (apply cx_do (i := 0) rfl; first | exact e1 | exact b32_true)
      | (apply ab_i; intro bl) | (apply as_i; intro va vk vc hva) | (apply av_i; intro v) | (apply ac_i; intro bl cap hcap)
      | apply bo_l | (apply nx_i <;> intro hnx) | (apply Ia.hit; assumption) | (apply Ia.miss; assumption)
      | (apply rt_is; exact rfl) | exact rt_w | (apply iv; assumption)
      | exact True.intro | (apply bc_i; intro C hC) | apply bt_i | apply og_n | (apply og_a; exact rfl))
  all_goals (try conv => whnf)
  refine dw_p mixed hC hGL false (fun (_ : Unit) => []) (fun _ => [.cells b eT (cs.set off (.int .u32 1))]) (.take 0 (.take 1 (.take 2 (.take 3 (.br 4 (.br 5 (.done) (.nil)) (.nil)))))) (by kernel_rfl) ?_ ?_
  · repeat' (first
      | (conv => whnf); first
        | refine .w ?_ | refine .v ?_ | apply sc_true | apply sc_false
        | (first | apply sc_lt | apply sc_nlt | apply sc_eq | apply sc_neq | apply sc_nil | apply sc_nnil | apply sc_seq | apply sc_nseq) <;> (intro hb; try exact dd hb)
        | apply sc_not | apply sc_or | (apply sc_i <;> intro hb)
        | (apply bx_i; intro hbd) | (apply gt_i; assumption; exact rfl)
        | (apply cx_is; first | exact e1 | exact b32_true) | (apply cx_do (i := 0) rfl; first | exact e1 | exact b32_true)
        | (apply ab_i; intro bl) | (apply as_i; intro va vk vc hva) | (apply av_i; intro v) | (apply ac_i; intro bl cap hcap)
        | apply bo_l | (apply nx_i <;> intro hnx) | (apply Ia.hit; assumption) | (apply Ia.miss; assumption)
        | (apply rt_is; exact rfl) | exact rt_w | (apply iv; assumption)
        | exact True.intro | (apply bc_i; intro C hC) | apply bt_i | apply og_n | (apply og_a; exact rfl))
    all_goals (try conv => whnf)
    all_goals exact ⟨(), trivial, rfl⟩
  · intro _
    repeat' (first
      | (conv => whnf); first
        | refine .w ?_ | refine .v ?_ | apply sc_true | apply sc_false
        | (first | apply sc_lt | apply sc_nlt | apply sc_eq | apply sc_neq | apply sc_nil | apply sc_nnil | apply sc_seq | apply sc_nseq) <;> (intro hb; try exact dd hb)
        | apply sc_not | apply sc_or | (apply sc_i <;> intro hb)
        | (apply bx_i; intro hbd) | (apply gt_i; assumption; exact rfl)
        | (apply cx_is; first | fail) | (apply cx_do (i := 0) rfl; first | fail)
        | (apply ab_i; intro bl) | (apply as_i; intro va vk vc hva) | (apply av_i; intro v) | (apply ac_i; intro bl cap hcap)
        | apply bo_l | (apply nx_i <;> intro hnx) | (apply Ia.hit; assumption) | (apply Ia.miss; assumption)
        | (apply rt_is; exact rfl) | exact rt_w | (apply iv; assumption)
        | exact True.intro | (apply bc_i; intro C hC) | apply bt_i | apply og_n | (apply og_a; exact rfl))
    all_goals (try conv => whnf)
end
end Go.Proofs.YtglapkioagenaaaGreatDoor
namespace Go.Proofs.YtglapkioagenaaaGreatDoor
open Go Go.RowKit
theorem awd_own {P : Program} {C : Ctx} {n : Nat} {c : Code} {env : Env} {H : Heap} {Q : List Deferred → AExit → Env → Heap → Prop} {k : Nat} (i : Nat) {v : Value} (hv : vAgg v = false) (hk : Env.get env k = some (.raw v)) (h : AWpD P C n c ((k, .own i v) :: env) H Q) : AWpD P C n c env H Q :=
  fun R a w hm hf => h R a w hm (fs_own hv hk hf)
theorem cx_all {P : Program} [Tab P] {G : Glo} {f : FuncId} {avs : List AVal} {H H' : Heap} {v : AVal} {K Kp : AVal → Heap → Prop} (hs : FnSpec P G f avs H (fun r H2 => r = .ret v ∧ H2 = H')) (k : K v H') : Cx P G f avs H K Kp := by
  refine ⟨_, hs, ?_, ?_⟩
  · rintro v' H2 ⟨e, rfl⟩; cases e; exact k
  · rintro v' H2 ⟨e, rfl⟩; cases e
set_option maxRecDepth 20000
set_option maxHeartbeats 4000000
set_option linter.unusedSimpArgs false
set_option linter.unusedVariables false
attribute [local irreducible] AWp AOps byteAt SrcOK OrOk GloAll FnSpec
attribute [local irreducible] DSpec Lv AWpD
theorem once_slow {G : Glo} {b off fid : Nat} {eT : Option TypeId} {cs : List AVal} {T : Heap} {Y : Type} {cs2 : Y → List AVal} {T2 : Y → Heap} {l1 l2 : List AVal} (h0 : cs[off]? = some (.int .u32 0)) (h1 : cs[off + 1]? = some (.int .i32 0)) (k0 : ∀ y, (cs2 y)[off]? = some (.int .u32 0)) (k1 : ∀ y, (cs2 y)[off + 1]? = some (.int .i32 1))
    (hf : FnSpec Tryz.prog G fid (unownL (l1 ++ ([] ++ l2))) (.cells b eT (cs.set (off + 1) (.int .i32 1)) :: T) (fun r H => ∃ y, r = .ret (.tuple []) ∧ H = .cells b eT (cs2 y) :: T2 y)) :
    FnSpec Tryz.prog G 63 [.raw (pv b off), .func (.func fid) l1 l2] (.cells b eT cs :: T) (fun r H => ∃ y, r = .ret (.tuple []) ∧ H = .cells b eT (((cs2 y).set off (.int .u32 1)).set (off + 1) (.int .i32 0)) :: T2 y) := by
  have hGL : GloAll G [] := gloAll_nil
  have e1 := lock (G := G) (b := b) (eT := eT) h1
  have h0' : (cs.set (off + 1) (.int .i32 1))[off]? = some (.int .u32 0) := by rw [List.getElem?_set_ne (by omega)]; exact h0
  have e2 := bool_load (G := G) (b := b) (eT := eT) h0'
  refine fn_d (rs := []) Tryz.func63 Tryz.call63 rfl rfl rfl rfl ?_
  intro C hC hD
  refine awd_own (k := 0) (v := pv b off) 0 rfl rfl ?_
  refine awd_seq (awd_code hC hGL ?_)
  repeat' (first
    | (conv => whnf); first
      | refine .w ?_ | refine .v ?_ | apply sc_true | apply sc_false
      | (first | apply sc_lt | apply sc_nlt | apply sc_eq | apply sc_neq | apply sc_nil | apply sc_nnil | apply sc_seq | apply sc_nseq) <;> (intro hb; try exact dd hb)
      | apply sc_not | apply sc_or | (apply sc_i <;> intro hb)
      | (apply bx_i; intro hbd) | (apply gt_i; assumption; exact rfl)
      | (apply cx_is; first | exact e1) | (apply cx_do (i := 0) rfl; first | exact e1)
      | (apply ab_i; intro bl) | (apply as_i; intro va vk vc hva) | (apply av_i; intro v) | (apply ac_i; intro bl cap hcap)
      | apply bo_l | (apply nx_i <;> intro hnx) | (apply Ia.hit; assumption) | (apply Ia.miss; assumption)
      | (apply rt_is; exact rfl) | exact rt_w | (apply iv; assumption)
      | apply dw_q mixed hC hGL (by kernel_rfl) | (apply cq; assumption; (first | exact e1); exact rfl))
  all_goals (try conv => whnf)
  rw [forceH_eq]
  repeat' (first
    | (conv => whnf); first
      | refine .w ?_ | refine .v ?_ | apply sc_true | apply sc_false
      | (first | apply sc_lt | apply sc_nlt | apply sc_eq | apply sc_neq | apply sc_nil | apply sc_nnil | apply sc_seq | apply sc_nseq) <;> (intro hb; try exact dd hb)
      | apply sc_not | apply sc_or | (apply sc_i <;> intro hb)
      | (apply bx_i; intro hbd) | (apply gt_i; assumption; exact rfl)
      | (apply cx_is; first | fail) | (apply cx_do (i := 0) rfl; first | fail)
      | (apply ab_i; intro bl) | (apply as_i; intro va vk vc hva) | (apply av_i; intro v) | (apply ac_i; intro bl cap hcap)
      | apply bo_l | (apply nx_i <;> intro hnx) | (apply Ia.hit; assumption) | (apply Ia.miss; assumption)
      | (apply rt_is; exact rfl) | exact rt_w | (apply iv; assumption)
      | apply dw_q mixed hC hGL (by kernel_rfl) | (apply cq; assumption; (first | fail); exact rfl))
  all_goals (try conv => whnf)
  refine awd_seq (awd_defer hC hGL rfl ?_)
  repeat' (first
    | (conv => whnf); first
      | refine .w ?_ | refine .v ?_ | apply sc_true | apply sc_false
      | (first | apply sc_lt | apply sc_nlt | apply sc_eq | apply sc_neq | apply sc_nil | apply sc_nnil | apply sc_seq | apply sc_nseq) <;> (intro hb; try exact dd hb)
      | apply sc_not | apply sc_or | (apply sc_i <;> intro hb)
      | (apply bx_i; intro hbd) | (apply gt_i; assumption; exact rfl)
      | (apply cx_is; first | fail) | (apply cx_do (i := 0) rfl; first | fail)
      | (apply ab_i; intro bl) | (apply as_i; intro va vk vc hva) | (apply av_i; intro v) | (apply ac_i; intro bl cap hcap)
      | apply bo_l | (apply nx_i <;> intro hnx) | (apply Ia.hit; assumption) | (apply Ia.miss; assumption)
      | (apply rt_is; exact rfl) | exact rt_w | (apply iv; assumption)
      | apply dw_q mixed hC hGL (by kernel_rfl) | (apply cq; assumption; (first | fail); exact rfl))
  all_goals (try conv => whnf)
  refine ⟨_, rfl, ?_⟩
  refine (fun (h : ∀ C2 : Ctx, C2.G = G → C2.D = [{ target := .fn (.func 81) #[], args := #[pv b (off + 1)] }] → AWpD Tryz.prog C2 _ _ _ _ _) => h (withD C ({ target := .fn (.func 81) #[], args := #[pv b (off + 1)] } :: C.D)) hC (by show _ :: C.D = _; rw [hD])) ?_
  clear hC hD C
  intro C hC hD
  refine awd_seq (awd_code hC hGL ?_)
  repeat' (first
    | (conv => whnf); first
      | refine .w ?_ | refine .v ?_ | apply sc_true | apply sc_false
      | (first | apply sc_lt | apply sc_nlt | apply sc_eq | apply sc_neq | apply sc_nil | apply sc_nnil | apply sc_seq | apply sc_nseq) <;> (intro hb; try exact dd hb)
      | apply sc_not | apply sc_or | (apply sc_i <;> intro hb)
      | (apply bx_i; intro hbd) | (apply gt_i; assumption; exact rfl)
      | (apply cx_is; first | exact e2) | (apply cx_do (i := 0) rfl; first | exact e2)
      | (apply ab_i; intro bl) | (apply as_i; intro va vk vc hva) | (apply av_i; intro v) | (apply ac_i; intro bl cap hcap)
      | apply bo_l | (apply nx_i <;> intro hnx) | (apply Ia.hit; assumption) | (apply Ia.miss; assumption)
      | (apply rt_is; exact rfl) | exact rt_w | (apply iv; assumption)
      | apply dw_q mixed hC hGL (by kernel_rfl) | (apply cq; assumption; (first | exact e2); exact rfl))
  all_goals (try conv => whnf)
  rw [forceH_eq]
  repeat' (first
    | (conv => whnf); first
      | refine .w ?_ | refine .v ?_ | apply sc_true | apply sc_false
      | (first | apply sc_lt | apply sc_nlt | apply sc_eq | apply sc_neq | apply sc_nil | apply sc_nnil | apply sc_seq | apply sc_nseq) <;> (intro hb; try exact dd hb)
      | apply sc_not | apply sc_or | (apply sc_i <;> intro hb)
      | (apply bx_i; intro hbd) | (apply gt_i; assumption; exact rfl)
      | (apply cx_is; first | exact e2) | (apply cx_do (i := 0) rfl; first | exact e2)
      | (apply ab_i; intro bl) | (apply as_i; intro va vk vc hva) | (apply av_i; intro v) | (apply ac_i; intro bl cap hcap)
      | apply bo_l | (apply nx_i <;> intro hnx) | (apply Ia.hit; assumption) | (apply Ia.miss; assumption)
      | (apply rt_is; exact rfl) | exact rt_w | (apply iv; assumption)
      | apply dw_q mixed hC hGL (by kernel_rfl) | (apply cq; assumption; (first | exact e2); exact rfl))
  all_goals (try conv => whnf)
  refine awd_cond rfl (fun _ => ?_) (fun hb => absurd hb (by simp [eqB]))
  refine awd_seq (awd_defer hC hGL rfl ?_)
  repeat' (first
    | (conv => whnf); first
      | refine .w ?_ | refine .v ?_ | apply sc_true | apply sc_false
      | (first | apply sc_lt | apply sc_nlt | apply sc_eq | apply sc_neq | apply sc_nil | apply sc_nnil | apply sc_seq | apply sc_nseq) <;> (intro hb; try exact dd hb)
      | apply sc_not | apply sc_or | (apply sc_i <;> intro hb)
      | (apply bx_i; intro hbd) | (apply gt_i; assumption; exact rfl)
      | (apply cx_is; first | fail) | (apply cx_do (i := 0) rfl; first | fail)
      | (apply ab_i; intro bl) | (apply as_i; intro va vk vc hva) | (apply av_i; intro v) | (apply ac_i; intro bl cap hcap)
      | apply bo_l | (apply nx_i <;> intro hnx) | (apply Ia.hit; assumption) | (apply Ia.miss; assumption)
      | (apply rt_is; exact rfl) | exact rt_w | (apply iv; assumption)
      | apply dw_q mixed hC hGL (by kernel_rfl) | (apply cq; assumption; (first | fail); exact rfl))
  all_goals (try conv => whnf)
  refine ⟨_, rfl, ?_⟩
  refine awd_code (P := Tryz.prog) (C := withD C ({ target := .fn (.func 82) #[], args := #[pv b off, .bool true] } :: C.D)) (G := G) hC hGL ?_
  repeat' (first
    | (conv => whnf); first
      | refine .w ?_ | refine .v ?_ | apply sc_true | apply sc_false
      | (first | apply sc_lt | apply sc_nlt | apply sc_eq | apply sc_neq | apply sc_nil | apply sc_nnil | apply sc_seq | apply sc_nseq) <;> (intro hb; try exact dd hb)
      | apply sc_not | apply sc_or | (apply sc_i <;> intro hb)
      | (apply bx_i; intro hbd) | (apply gt_i; assumption; exact rfl)
      | (apply cx_is; first | fail) | (apply cx_do (i := 0) rfl; first | fail)
      | (apply ab_i; intro bl) | (apply as_i; intro va vk vc hva) | (apply av_i; intro v) | (apply ac_i; intro bl cap hcap)
      | apply bo_l | (apply nx_i <;> intro hnx) | (apply Ia.hit; assumption) | (apply Ia.miss; assumption)
      | (apply rt_is; exact rfl) | exact rt_w | (apply iv; assumption)
      | apply dw_q mixed hC hGL (by kernel_rfl) | (apply cq; assumption; (first | fail); exact rfl))
  all_goals (try conv => whnf)
  rw [forceL_eq]
  refine ⟨_, hf, ?_, fun v' H2 ⟨y, e, _⟩ => by cases e⟩
  rintro v' H2 ⟨y, e, rfl⟩
  cases e
  show Lv Tryz.prog _ _ _ _ ({ target := .fn (.func 82) #[], args := #[pv b off, .bool true] } :: C.D) _ _ _
  rw [hD]
  refine lv_call (ds_pre (T2 y) (bool_store (k0 y) .ret)) (fun R => ⟨_, _, rfl, rel_own.2 ⟨rfl, rfl⟩, _, _, rfl, rel_bool.2 rfl, rfl⟩) Tryz.call82 ?_
  have k1' : ((cs2 y).set off (.int .u32 1))[off + 1]? = some (.int .i32 1) := by rw [List.getElem?_set_ne (by omega)]; exact k1 y
  refine lv_call (ds_pre (T2 y) (unlock k1' .ret)) (fun R => ⟨_, _, rfl, rel_own.2 ⟨rfl, rfl⟩, rfl⟩) Tryz.call81 ?_
  refine lv_ret (P := Tryz.prog) ?_
  exact ⟨_, List.Sublist.refl _, y, rfl, rfl⟩
theorem once_do {G : Glo} {b off fid : Nat} {eT : Option TypeId} {cs : List AVal} {T : Heap} {Y : Type} {cs2 : Y → List AVal} {T2 : Y → Heap} {l1 l2 : List AVal} (h0 : cs[off]? = some (.int .u32 0)) (h1 : cs[off + 1]? = some (.int .i32 0)) (k0 : ∀ y, (cs2 y)[off]? = some (.int .u32 0)) (k1 : ∀ y, (cs2 y)[off + 1]? = some (.int .i32 1))
    (hl1 : unownL l1 = l1) (hl2 : unownL l2 = l2)
    (hf : FnSpec Tryz.prog G fid (unownL (l1 ++ ([] ++ l2))) (.cells b eT (cs.set (off + 1) (.int .i32 1)) :: T) (fun r H => ∃ y, r = .ret (.tuple []) ∧ H = .cells b eT (cs2 y) :: T2 y)) :
    FnSpec Tryz.prog G 47 [.raw (pv b off), .func (.func fid) l1 l2] (.cells b eT cs :: T) (fun r H => ∃ y, r = .ret (.tuple []) ∧ H = .cells b eT (((cs2 y).set off (.int .u32 1)).set (off + 1) (.int .i32 0)) :: T2 y) := by
  have hGL : GloAll G [] := gloAll_nil
  have e1 := bool_load (G := G) (b := b) (eT := eT) h0
  have e2 := once_slow h0 h1 k0 k1 hf
  refine fn_xp 0 Tryz.func47 Tryz.call47 rfl rfl rfl rfl hGL rfl ?_
  intro C hC
  repeat' (first
    | (conv => whnf); first
      | refine .w ?_ | refine .v ?_ | apply sc_true | apply sc_false
      | (first | apply sc_lt | apply sc_nlt | apply sc_eq | apply sc_neq | apply sc_nil | apply sc_nnil | apply sc_seq | apply sc_nseq) <;> (intro hb; try exact dd hb)
      | apply sc_not | apply sc_or | (apply sc_i <;> intro hb)
      | (apply bx_i; intro hbd) | (apply gt_i; assumption; exact rfl)
      | (apply cx_is; first | exact e1) | (apply cx_do (i := 0) rfl; first | exact e1)
      | (apply ab_i; intro bl) | (apply as_i; intro va vk vc hva) | (apply av_i; intro v) | (apply ac_i; intro bl cap hcap)
      | apply bo_l | (apply nx_i <;> intro hnx) | (apply Ia.hit; assumption) | (apply Ia.miss; assumption)
      | (apply rt_is; exact rfl) | exact rt_w | (apply iv; assumption)
      | apply dw_q mixed hC hGL (by kernel_rfl) | (apply cq; assumption; (first | exact e1); exact rfl))
  all_goals (try conv => whnf)
  rw [forceH_eq]
  repeat' (first
    | (conv => whnf); first
      | refine .w ?_ | refine .v ?_ | apply sc_true | apply sc_false
      | (first | apply sc_lt | apply sc_nlt | apply sc_eq | apply sc_neq | apply sc_nil | apply sc_nnil | apply sc_seq | apply sc_nseq) <;> (intro hb; try exact dd hb)
      | apply sc_not | apply sc_or | (apply sc_i <;> intro hb)
      | (apply bx_i; intro hbd) | (apply gt_i; assumption; exact rfl)
      | (apply cx_is; first | exact e1) | (apply cx_do (i := 0) rfl; first | exact e1)
      | (apply ab_i; intro bl) | (apply as_i; intro va vk vc hva) | (apply av_i; intro v) | (apply ac_i; intro bl cap hcap)
      | apply bo_l | (apply nx_i <;> intro hnx) | (apply Ia.hit; assumption) | (apply Ia.miss; assumption)
      | (apply rt_is; exact rfl) | exact rt_w | (apply iv; assumption)
      | apply dw_q mixed hC hGL (by kernel_rfl) | (apply cq; assumption; (first | exact e1); exact rfl))
  all_goals (try conv => whnf)
  rw [show unown (.func (.func fid) l1 l2) = .func (.func fid) l1 l2 by simp [unown, hl1, hl2]]
  refine ⟨_, e2, ?_, fun v' H2 ⟨y, e, _⟩ => by cases e⟩
  rintro v' H2 ⟨y, e, rfl⟩
  cases e
  exact ⟨_, List.Sublist.refl _, y, rfl, rfl⟩
end Go.Proofs.YtglapkioagenaaaGreatDoor
namespace Go.Proofs.YtglapkioagenaaaGreatDoor
open Go Go.RowKit
set_option linter.unusedSectionVars false
theorem made_one (v : Value) (n : Nat) : (madeCells #[v] n).toList = List.replicate n v := by
  unfold madeCells
  refine List.ext_getElem (by simp) (fun i h1 h2 => ?_)
  simp [Nat.mod_one]
section
variable {P : Program} [Tab P] {C : Ctx} {n : Nat} {env : Env} {H : Heap} {Q : AExit → Env → Heap → Prop} {ops : Array Oper} {rest : List Oper} {G : Glo} {GL : List (Nat × List AVal)}
variable {d : Nat} {t : TypeId} {p : String} {af : Array Edge} {g : Option (Nat × Bool)} {b : Bool}
variable {x y : Operand} {T e : TypeId} {xT xe : TI}
theorem run_make_op {ρ : Operand → Value} {w w' : World} {a c u : Value} (ha : ρ x = a) (hc : ρ y = c) (hr : (Instr.makeSlice T a c).run P w = .ok u w') :
    (execOp ρ { dst := some d, op := .makeSlice T x y, type := t, pos := p, after := af, guard := g }).run P w = .ok (.value u) w' := by
  simp only [execOp, ha, hc, Sem.run_bind, hr, Result.andThen_ok, Sem.run_pure]
/-- A byte slice is made. -/
theorem op1_makeB {k1 k2 : IntKind} {m : Nat} (hC : C.G = G) (hGL : GloAll G GL) (hx : evalA env x = some (.int k1 (m : Int))) (hy : evalA env y = some (.int k2 (m : Int))) (hm0 : m ≤ 1000000000000) (ht : tab P T = some xT) (hd : xT.desc = .slice e) (he : tab P e = some xe) (hz : xe.zero = some (.int .u8 0)) (hs : xe.size = 1) (hb : xe.bytes = 1)
    (hg : guardA ops env g = some (b, b)) (hdn : Nat.ble (d + 1) n = true)
    (k : ∀ bl, opsX P C n G GL ops Q rest ((d, .own H.length (.slice (some ⟨bl, 0, none⟩) m m)) :: env) (H ++ [.buf bl (List.replicate m 0) m])) :
    Op1 P C n ops ({ dst := some d, op := .makeSlice T x y, type := t, pos := p, after := af, guard := g } :: rest) env H Q := by
  refine ⟨ao_valX (X := Nat) (av := fun bl => .raw (.slice (some ⟨bl, 0, none⟩) m m)) (H' := fun bl => .buf bl (List.replicate m 0) m :: H) hg rfl hdn (fun R ρ w hm hf => ?_)
    (fun bl => ao_end (ao_dst_own (i := H.length) rfl (opsX_ok hC hGL _ _ _ (k bl))))⟩
  obtain ⟨i, hi, his, hib, hiz, _⟩ := tab_info he
  have hr := run_make (P := P) w T e i (.int .u8 0) (by rw [tab_und ht, hd]) hi (by rw [hiz, hz]) k1 k2 (m : Int) (m : Int) (by omega) (by omega) (by rw [hib, hb]; omega) (by omega)
  simp only [Int.toNat_natCast] at hr
  have hrun := run_make_op (d := d) (t := t) (p := p) (af := af) (g := g) (rel_int.1 (hf _ _ hx)) (rel_int.1 (hf _ _ hy)) hr
  refine ⟨w.heap.size, _, _, R, hrun, Seal.le_refl R, rel_raw.2 rfl, ?_⟩
  · rw [grow_alloc]
    refine hm.alloc _ _ rfl ⟨by simp, _, _, _, grow_at w _, ?_, .inl (Nat.le_refl _)⟩
    rw [his, hs, Nat.mul_one, show (Value.int .u8 0).cells = #[.int .u8 0] from rfl, made_one]
    have : ownB (List.replicate m 0) m = List.replicate m (.int .u8 0) := by simp [ownB, byteA]
    rw [this]
    exact relL_replicate (show RelC R (.int .u8 0) [.int .u8 0] from rfl) _
/-- An empty slice is made, with room. -/
theorem op1_makeR {k1 k2 : IntKind} {m : Nat} (hC : C.G = G) (hGL : GloAll G GL) (hx : evalA env x = some (.int k1 0)) (hy : evalA env y = some (.int k2 (m : Int))) (hm0 : m ≤ 1000000000) (ht : tab P T = some xT) (hd : xT.desc = .slice e) (he : tab P e = some xe) {z : Value} (hz : xe.zero = some z) (hb : Nat.ble xe.bytes 1024 = true)
    (hg : guardA ops env g = some (b, b)) (hdn : Nat.ble (d + 1) n = true)
    (k : ∀ bl, opsX P C n G GL ops Q rest ((d, .own H.length (.slice (some ⟨bl, 0, none⟩) 0 m)) :: env) (H ++ [.row (.slice (some ⟨bl, 0, none⟩) 0 m) (some e) xe.size 0 []])) :
    Op1 P C n ops ({ dst := some d, op := .makeSlice T x y, type := t, pos := p, after := af, guard := g } :: rest) env H Q := by
  refine ⟨ao_valX (X := Nat) (av := fun bl => .raw (.slice (some ⟨bl, 0, none⟩) 0 m)) (H' := fun bl => .row (.slice (some ⟨bl, 0, none⟩) 0 m) (some e) xe.size 0 [] :: H) hg rfl hdn (fun R ρ w hm hf => ?_)
    (fun bl => ao_end (ao_dst_own (i := H.length) rfl (opsX_ok hC hGL _ _ _ (k bl))))⟩
  obtain ⟨i, hi, his, hib, hiz, _⟩ := tab_info he
  have hb := Nat.le_of_ble_eq_true hb
  have hmul : xe.bytes * m ≤ 1024 * 1000000000 := Nat.mul_le_mul hb hm0
  have hr := run_make (P := P) w T e i z (by rw [tab_und ht, hd]) hi (by rw [hiz, hz]) k1 k2 0 (m : Int) (by omega) (by omega) (by rw [hib, ← Int.natCast_mul]; omega) (by omega)
  simp only [Int.toNat_natCast, Int.toNat_zero] at hr
  have hrun := run_make_op (d := d) (t := t) (p := p) (af := af) (g := g) (rel_int.1 (hf _ _ hx)) (rel_int.1 (hf _ _ hy)) hr
  refine ⟨w.heap.size, _, _, R, hrun, Seal.le_refl R, rel_raw.2 rfl, ?_⟩
  · rw [grow_alloc]
    refine hm.alloc _ _ rfl ⟨by simp, .inr ⟨_, _, _, _, _, rfl, grow_at w _, ?_, Nat.zero_le _, ?_, .inl (Nat.le_refl _), fun t ht => by cases ht; rfl⟩⟩
    · rw [size_madeCells, his]
    · simp [RelL]
end
end Go.Proofs.YtglapkioagenaaaGreatDoor
namespace Go.Proofs.YtglapkioagenaaaGreatDoor
open Go Go.RowKit
set_option linter.unusedSectionVars false
section
variable {P : Program} [Tab P] {C : Ctx} {n : Nat} {env : Env} {H : Heap} {Q : AExit → Env → Heap → Prop} {ops : Array Oper} {rest : List Oper} {G : Glo} {GL : List (Nat × List AVal)}
variable {d : Nat} {t : TypeId} {p : String} {af : Array Edge} {g : Option (Nat × Bool)} {b : Bool}
variable {x y : Operand} {T T2 e : TypeId} {xT xe : TI}
theorem ownB_put {s s2 : List UInt8} {cap o : Nat} (ho : o + s2.length ≤ s.length) (hc : s.length ≤ cap) :
    ownB (s.take o ++ s2 ++ s.drop (o + s2.length)) cap = (ownB s cap).take o ++ s2.map byteA ++ (ownB s cap).drop (o + s2.length) := by
  have e : (s.take o ++ s2 ++ s.drop (o + s2.length)).length = s.length := by
    simp only [List.length_append, List.length_take, List.length_drop]; omega
  unfold ownB
  rw [e, List.map_append, List.map_append, List.map_take, List.map_drop]
  rw [List.take_append_of_le_length (by simp; omega), List.drop_append_of_le_length (by simp; omega), ← List.append_assoc]
theorem run_copy_op {ρ : Operand → Value} {ty : TypeId} {w w' : World} {a c u : Value} (ha : ρ x = a) (hc : ρ y = c) (hr : (Builtin.copy_ #[T, T2] t #[a, c]).run P w = .ok u w') :
    (execOp ρ { dst := some d, op := .call { callee := .builtin .copy, args := #[x, y], argTypes := #[T, T2] }, type := t, pos := p, after := af, guard := g }).run P w = .ok (.value u) w' := by
  simp only [execOp, resolve, Sem.run_bind, Sem.run_pure, Result.andThen_ok, invoke, List.map_toArray, List.map_cons, List.map_nil, ha, hc]
  simp only [builtin, Sem.run_bind, hr, Result.andThen_ok, Sem.run_pure]
theorem op1_copyB {i j bl o l c b2 c2 cap cap2 : Nat} {s s2 : List UInt8} (hC : C.G = G) (hGL : GloAll G GL) (hx : evalA env x = some (.own i (.slice (some ⟨bl, o, none⟩) l c))) (hy : evalA env y = some (.own j (.slice (some ⟨b2, 0, none⟩) s2.length c2)))
    (hi : H[i]? = some (.buf bl s cap)) (hj : H[j]? = some (.buf b2 s2 cap2)) (ho : o + s2.length ≤ s.length) (hl : s2.length ≤ l) (ht : tab P T = some xT) (hd : xT.desc = .slice e) (he : tab P e = some xe) (hs : xe.size = 1)
    (hg : guardA ops env g = some (b, b)) (hdn : Nat.ble (d + 1) n = true)
    (k : opsX P C n G GL ops Q rest ((d, .int .i64 s2.length) :: env) (H.set i (.buf bl (s.take o ++ s2 ++ s.drop (o + s2.length)) cap))) :
    Op1 P C n ops ({ dst := some d, op := .call { callee := .builtin .copy, args := #[x, y], argTypes := #[T, T2] }, type := t, pos := p, after := af, guard := g } :: rest) env H Q := by
  refine ⟨ao_val hg rfl hdn (av := .int .i64 s2.length) (H' := H.set i (.buf bl (s.take o ++ s2 ++ s.drop (o + s2.length)) cap)) (fun R ρ w hm hf => ?_) (opsX_ok hC hGL _ _ _ k)⟩
  obtain ⟨hcap, Cs, e1, fz, hb, hrel, hfz⟩ := hm.heap.holds _ (List.mem_of_getElem? hi)
  obtain ⟨hcap2, Cs2, e2, fz2, hb2, hrel2, hfz2⟩ := hm.heap.holds _ (List.mem_of_getElem? hj)
  have hlen := relL_length hrel
  have hown : (ownB s cap).length = cap := by simp [ownB]; omega
  rw [hown, Array.length_toList] at hlen
  obtain ⟨ti, hti, his, _, _, _⟩ := tab_info he
  have hn1 : (s2.map fun c => Value.int .u8 (c.toNat : Int)).length = s2.length := by simp
  have hone : ∀ v ∈ s2.map (fun c => Value.int .u8 (c.toNat : Int)), v.oneCell' = true := by
    intro v hv
    obtain ⟨c, _, rfl⟩ := List.mem_map.1 hv
    rfl
  have hcell : ∀ j, j < (s2.map fun c => Value.int .u8 (c.toNat : Int)).length → (w.cell? ⟨bl, o + j, none⟩).isSome = true := by
    intro j hj
    rw [hn1] at hj
    simp only [World.cell?, hb]
    simp
    omega
  have hfro : ∀ j, j < (s2.map fun c => Value.int .u8 (c.toNat : Int)).length → w.frozen? ⟨bl, o + j, none⟩ = false := by
    intro j hj
    rw [hn1] at hj
    obtain ⟨lo, hi'⟩ := fz
    simp only [World.frozen?, hb, Loose] at hfz ⊢
    simp
    omega
  have hsrc : ∀ j v, (s2.map fun c => Value.int .u8 (c.toNat : Int))[j]? = some v → w.cell? ((⟨b2, 0, none⟩ : Addr).add j) = some v := by
    intro j v hv
    have hj2 : j < s2.length := by
      have := (List.getElem?_eq_some_iff.1 hv).1
      simpa using this
    rw [List.getElem?_map, List.getElem?_eq_getElem hj2] at hv
    simp only [Option.map_some, Option.some.injEq] at hv
    have hg2 : (ownB s2 cap2)[j]? = some (byteA s2[j]) := by
      unfold ownB
      rw [List.getElem?_append_left (by simpa using hj2), List.getElem?_map, List.getElem?_eq_getElem hj2]
      rfl
    obtain ⟨u, hu, hr⟩ := relL_get hrel2 hg2
    simp only [byteA, RelC, List.cons.injEq, and_true] at hr
    subst hr
    subst hv
    have hadd : (⟨b2, 0, none⟩ : Addr).add j = ⟨b2, j, none⟩ := by
      simp only [Addr.add]
      by_cases h0 : j = 0
      · simp [h0]
      · simp [h0]
    rw [hadd]
    simp only [World.cell?, hb2]
    simpa using hu
  have hr := run_copy_cells (P := P) w T T2 t e bl o l c ⟨b2, 0, none⟩ s2.length c2 _ (by rw [tab_und ht, hd]) (by rw [hti]; simp [his, hs]) (by rw [hn1]; exact (Nat.min_eq_left hl).symm) hsrc hcell hfro hone
  have hrun := run_copy_op (ty := t) (d := d) (p := p) (af := af) (g := g) (rel_own.1 (hf _ _ hx)).1 (rel_own.1 (hf _ _ hy)).1 hr
  obtain ⟨w', hw', ho'⟩ := storeCells_run (P := P) (s2.map fun c => Value.int .u8 (c.toNat : Int)) o 0 Cs w hb (by rw [hn1]; omega) hfz (fun u hu => by
    obtain ⟨c, _, rfl⟩ := List.mem_map.1 hu
    exact ⟨rfl, fun a h => by cases h⟩)
  have hst := run_storeCells_cells (P := P) bl o (s2.map fun c => Value.int .u8 (c.toNat : Int)) 0 w (by simpa using hcell) (by simpa using hfro) hone
  rw [hst] at hw'
  simp only [Result.ok.injEq, true_and] at hw'
  simp only [Nat.add_zero] at hw' ho'
  refine ⟨_, _, R, hrun, Seal.le_refl R, ?_, ?_⟩
  · rw [hn1]; exact rel_int.2 rfl
  · rw [hw']
    refine hm.write hi rfl ho' rfl ⟨?_, _, _, _, ho'.at_, ?_, ?_⟩
    · simp only [List.length_append, List.length_take, List.length_drop]; omega
    · rw [ownB_put ho hcap, hn1]
      exact relL_append (relL_append (relL_take _ hrel) (relL_bytes R s2)) (relL_drop _ hrel)
    · have : ((Cs.toList.take o ++ (s2.map fun c => Value.int .u8 (c.toNat : Int)) ++ Cs.toList.drop (o + (s2.map fun c => Value.int .u8 (c.toNat : Int)).length)).toArray).size = Cs.size := by
        simp only [List.size_toArray, List.length_append, List.length_take, List.length_drop, Array.length_toList, hn1]; omega
      rw [this]
      exact hfz
/-- dst[o:]. -/
theorem op1_sliceB {i bl l c o : Nat} {k0 : IntKind} (hC : C.G = G) (hGL : GloAll G GL) (hx : evalA env x = some (.own i (.slice (some ⟨bl, 0, none⟩) l c))) (hy : evalA env y = some (.int k0 (o : Int))) (ho : o ≤ l) (hoc : o < c) (ht : tab P T = some xT) (hd : xT.desc = .slice e) (he : tab P e = some xe) (hs : xe.size = 1)
    (hg : guardA ops env g = some (b, b)) (hdn : Nat.ble (d + 1) n = true)
    (k : opsX P C n G GL ops Q rest ((d, .own i (.slice (some ⟨bl, o, none⟩) (l - o) (c - o))) :: env) H) :
    Op1 P C n ops ({ dst := some d, op := .slice T x (some y) none none, type := t, pos := p, after := af, guard := g } :: rest) env H Q := by
  refine ⟨ao_val hg rfl hdn (av := .own i (.slice (some ⟨bl, o, none⟩) (l - o) (c - o))) (H' := H) (fun R ρ w hm hf => ?_) (opsX_ok hC hGL _ _ _ k)⟩
  have hel : P.elem T = e := by simp [Program.elem, tab_und ht, hd]
  have hr := run_slice_l (P := P) w T (some ⟨bl, 0, none⟩) l c (by rw [tab_und ht, hd, hel]) k0 (o : Int) (by omega) (by omega)
  have hsz := tab_run_size he w
  refine ⟨.slice (some ⟨bl, o, none⟩) (l - o) (c - o), w, R, ?_, Seal.le_refl R, rel_own.2 ⟨rfl, rfl⟩, hm⟩
  simp only [execOp, (rel_own.1 (hf _ _ hx)).1, Option.map_some, Option.map_none, rel_int.1 (hf _ _ hy), Sem.run_bind, run_sliceAt_slice w T _ _ _ _ (show P.underlying T = some (.slice (P.elem T)) by rw [tab_und ht, hd, hel]), hr, hel, hsz, Result.andThen_ok, Sem.run_pure]
  simp only [sliced, Int.toNat_natCast]
  rw [if_neg (by omega)]
  simp [hs, Addr.add]
  by_cases h0 : o = 0
  · simp [h0]
  · simp [h0]
end
end Go.Proofs.YtglapkioagenaaaGreatDoor
namespace Go.Proofs.YtglapkioagenaaaGreatDoor
open Go
set_option maxRecDepth 20000
set_option maxHeartbeats 4000000
set_option linter.unusedSimpArgs false
set_option linter.unusedVariables false
attribute [local irreducible] AWp AOps byteAt SrcOK OrOk GloAll FnSpec
/-- Bytes given one by one. -/
def partB : Nat → List Int → List (Nat × AVal)
  | _, [] => []
  | k, v :: vs => (k, .int .u8 v) :: partB (k + 1) vs
theorem partB_at : ∀ (vs : List Int) (k i : Nat) (h : i < vs.length), (partB k vs)[i]? = some (k + i, .int .u8 vs[i])
  | [], _, _, h => absurd h (Nat.not_lt_zero _)
  | v :: vs, k, 0, _ => rfl
  | v :: vs, k, i + 1, h => by
    have := partB_at vs (k + 1) i (by simpa using h)
    simp only [partB, List.getElem?_cons_succ, List.getElem_cons_succ]
    rw [this, show k + 1 + i = k + (i + 1) by omega]
def bytesI (vs : List Int) : List UInt8 := vs.map fun v => UInt8.ofNat v.toNat
theorem rv_bytes {P : Program} [Tab P] {C : Ctx} {H : Heap} {env : Env} (vs : List Int) {S T e : TypeId} {xS xT xe : TI} {x : Operand} (hx : evalA env x = some (.list 1 vs.length (partElem (partB 0 vs)))) (hv : ∀ v, v ∈ vs → 0 ≤ v ∧ v < 256)
    (h1 : tab P S = some xS) (h2 : xS.desc = .slice e) (h5 : tab P e = some xe) (h6 : xe.desc = .int .u8) (h3 : tab P T = some xT) (h4 : xT.desc = .string) : RunV P C H env (.convert S T x) (.str (bytesI vs)) := by
  refine rv_str_list (bytesI vs) hx (by simp [bytesI]) (fun i hi => ?_) h1 h2 h5 h6 h3 h4
  have hi : i < vs.length := by simpa [bytesI] using hi
  have := hv _ (List.getElem_mem hi)
  unfold partElem
  rw [partB_at vs 0 i hi]
  simp only [byteA, bytesI, List.getD, List.getElem?_map, List.getElem?_eq_getElem hi, Option.map_some, Option.getD_some]
  generalize vs[i] = v at *
  congr 1
  have e : v.toNat < 256 := by omega
  rw [UInt8.toNat_ofNat_of_lt' (by simpa using e)]
  omega
end Go.Proofs.YtglapkioagenaaaGreatDoor
namespace Go.Proofs.YtglapkioagenaaaGreatDoor
open Go Go.RowKit
set_option maxRecDepth 20000
set_option maxHeartbeats 4000000
set_option linter.unusedSimpArgs false
set_option linter.unusedVariables false
attribute [local irreducible] AWp AOps SrcOK OrOk GloAll FnSpec
attribute [local irreducible] DSpec Lv AWpD
def ca_newC (u : Value) : List AVal := [.int .u32 0, .int .i32 0, .int .u32 0, .raw .nilIface, .own 0 u]
theorem ca_new_replacer {G : Glo} (m : Nat) (f : Nat → AVal) (hm : m ≤ 1000) (h2 : m % 2 = 0) (hs : SrcOK 1 m f) : FnSpec Tryz.prog G 32 [.list 1 m f] [] (fun r H => ∃ bl va vk vc, RowV m va vk ∧ r = .ret (.own 1 (pv bl 0)) ∧ H = [.row (.slice va vk vc) none 1 m (rowCells m f), .cells bl (some 95) (ca_newC (.slice va vk vc))]) := by
  have hGL : GloAll G [] := gloAll_nil
  refine fn_x Tryz.func32 Tryz.call32 rfl rfl rfl rfl hGL ?_
  intro C hC
  repeat' (first
    | (conv => whnf); first
      | refine .w ?_ | refine .v ?_ | apply sc_true | apply sc_false
      | (first | apply sc_lt | apply sc_nlt | apply sc_eq | apply sc_neq | apply sc_nil | apply sc_nnil | apply sc_seq | apply sc_nseq) <;> (intro hb; try exact dd hb)
      | apply sc_not | apply sc_or | (apply sc_i <;> intro hb)
      | (apply bx_i; intro hbd) | (apply gt_i; assumption; exact rfl)
      | (apply cx_is; first | fail) | (apply cx_do (i := 0) rfl; first | fail)
      | (apply ab_i; intro bl) | (apply as_i; intro va vk vc hva) | (apply av_i; intro v) | (apply ac_i; intro bl cap hcap)
      | apply bo_r | (apply nx_i <;> intro hnx) | (apply Ia.hit; assumption) | (apply Ia.miss; assumption)
      | (apply rt_is; exact rfl) | exact rt_w | (apply iv; assumption)
      | exact True.intro | (apply bc_i; intro C hC) | apply bt_i | apply og_n | (apply og_a; exact rfl))
  all_goals (try conv => whnf)
  exact ⟨_, List.Sublist.refl _, bl, va, vk, vc, hva, rfl, rfl⟩
/-- The cells of a replacer of three bytes by strings. -/
def tabC (i j k : Nat) (a b c t : AVal) : List AVal := (((List.replicate 256 (.raw (.slice none 0 0))).set i a).set j b).set k c ++ [t]
/-- The replacer of bytes by strings is laid. -/
theorem build_enc {G : Glo} (br bl vc : Nat) : FnSpec Tryz.prog G 64 [.raw (pv bl 0)] [.row (.slice (some ⟨br, 0, none⟩) 6 vc) none 1 6 [.str [94], .str [94, 94], .str [10], .str [94, 110], .str [34], .str [94, 39]], .cells bl (some 95) ((ca_newC (.slice (some ⟨br, 0, none⟩) 6 vc)).set 1 (.int .i32 1))]
    (fun r H => ∃ va vk vt bz b1 c1 b2 c2 b3 c3, RowV 3 va vk ∧ r = .ret (.iface 148 (.own 3 (pv bz 0))) ∧ H = [.row (.slice (some ⟨br, 0, none⟩) 6 vc) none 1 6 [.str [94], .str [94, 94], .str [10], .str [94, 110], .str [34], .str [94, 39]], .cells bl (some 95) ((ca_newC (.slice (some ⟨br, 0, none⟩) 6 vc)).set 1 (.int .i32 1)),
      .row (.slice va vk vt) (some 9) 1 3 [.str [34], .str [10], .str [94]], .cells bz (some 147) (tabC 34 10 94 (.own 4 (.slice (some ⟨b1, 0, none⟩) 2 c1)) (.own 5 (.slice (some ⟨b2, 0, none⟩) 2 c2)) (.own 6 (.slice (some ⟨b3, 0, none⟩) 2 c3)) (.own 2 (.slice va vk vt))), .buf b1 [94, 39] c1, .buf b2 [94, 110] c2, .buf b3 [94, 94] c3]) := by
  have hGL : GloAll G [] := gloAll_nil
  unfold ca_newC
  refine fn_xp 1 Tryz.func64 Tryz.call64 rfl rfl rfl rfl hGL rfl ?_
  intro C hC
  repeat' (first
    | (conv => whnf); first
      | refine .w ?_ | refine .v ?_ | apply sc_true | apply sc_false
      | (first | apply sc_lt | apply sc_nlt | apply sc_eq | apply sc_neq | apply sc_nil | apply sc_nnil | apply sc_seq | apply sc_nseq) <;> (intro hb; try exact dd hb)
      | apply sc_not | apply sc_or | (apply sc_i <;> intro hb)
      | (apply bx_i; intro hbd) | (apply gt_i; assumption; exact rfl)
      | (apply cx_is; first | fail) | (apply cx_do (i := 0) rfl; first | fail)
      | (apply ab_i; intro bl) | (apply as_i; intro va vk vc hva) | (apply av_i; intro v) | (apply ac_i; intro bl cap hcap)
      | apply bo_l | (apply nx_i <;> intro hnx) | (apply Ia.hit; assumption) | (apply Ia.miss; assumption)
      | (apply rt_is; exact rfl) | exact rt_w | (apply iv; assumption)
      | exact True.intro | (apply bc_i; intro C hC) | apply bt_i | apply og_n | (apply og_a; exact rfl))
  all_goals (try conv => whnf)
  have c0 : ([.str [94], .str [94, 94], .str [10], .str [94, 110], .str [34], .str [94, 39]] : List AVal)[0]? = some (.str [94]) := rfl
  have r0 : RowAt (.slice (some ⟨br, 0, none⟩) 6 vc) br 6 ∧ 0 < 6 * 1 := ⟨⟨_, rfl⟩, by decide⟩
  have c1 : ([.str [94], .str [94, 94], .str [10], .str [94, 110], .str [34], .str [94, 39]] : List AVal)[1]? = some (.str [94, 94]) := rfl
  have r1 : RowAt (.slice (some ⟨br, 0, none⟩) 6 vc) br 6 ∧ 1 < 6 * 1 := ⟨⟨_, rfl⟩, by decide⟩
  have c2 : ([.str [94], .str [94, 94], .str [10], .str [94, 110], .str [34], .str [94, 39]] : List AVal)[2]? = some (.str [10]) := rfl
  have r2 : RowAt (.slice (some ⟨br, 0, none⟩) 6 vc) br 6 ∧ 2 < 6 * 1 := ⟨⟨_, rfl⟩, by decide⟩
  have c3 : ([.str [94], .str [94, 94], .str [10], .str [94, 110], .str [34], .str [94, 39]] : List AVal)[3]? = some (.str [94, 110]) := rfl
  have r3 : RowAt (.slice (some ⟨br, 0, none⟩) 6 vc) br 6 ∧ 3 < 6 * 1 := ⟨⟨_, rfl⟩, by decide⟩
  have c4 : ([.str [94], .str [94, 94], .str [10], .str [94, 110], .str [34], .str [94, 39]] : List AVal)[4]? = some (.str [34]) := rfl
  have r4 : RowAt (.slice (some ⟨br, 0, none⟩) 6 vc) br 6 ∧ 4 < 6 * 1 := ⟨⟨_, rfl⟩, by decide⟩
  have c5 : ([.str [94], .str [94, 94], .str [10], .str [94, 110], .str [34], .str [94, 39]] : List AVal)[5]? = some (.str [94, 39]) := rfl
  have r5 : RowAt (.slice (some ⟨br, 0, none⟩) 6 vc) br 6 ∧ 5 < 6 * 1 := ⟨⟨_, rfl⟩, by decide⟩
  refine rds hC hGL 4 ?_
  repeat' (first
    | (conv => whnf); first
      | refine .w ?_ | refine .v ?_ | apply sc_true | apply sc_false
      | (first | apply sc_lt | apply sc_nlt | apply sc_eq | apply sc_neq | apply sc_nil | apply sc_nnil | apply sc_seq | apply sc_nseq) <;> (intro hb; try exact dd hb)
      | apply sc_not | apply sc_or | (apply sc_i <;> intro hb)
      | (apply bx_i; intro hbd) | (apply gt_i; assumption; exact rfl)
      | (apply cx_is; first | fail) | (apply cx_do (i := 0) rfl; first | fail)
      | (apply ab_i; intro bl) | (apply as_i; intro va vk vc hva) | (apply av_i; intro v) | (apply ac_i; intro bl cap hcap)
      | apply bo_l | (apply nx_i <;> intro hnx) | (apply Ia.hit; assumption) | (apply Ia.miss; assumption)
      | (apply rt_is; exact rfl) | exact rt_w | (apply iv; assumption)
      | exact True.intro | (apply bc_i; intro C hC) | apply bt_i | apply og_n | (apply og_a; exact rfl))
  all_goals (try conv => whnf)
  refine op1_makeR (m := 3) hC hGL rfl rfl (by omega) rfl rfl rfl rfl rfl rfl rfl (fun bt => ?_)
  repeat' (first
    | (conv => whnf); first
      | refine .w ?_ | refine .v ?_ | apply sc_true | apply sc_false
      | (first | apply sc_lt | apply sc_nlt | apply sc_eq | apply sc_neq | apply sc_nil | apply sc_nnil | apply sc_seq | apply sc_nseq) <;> (intro hb; try exact dd hb)
      | apply sc_not | apply sc_or | (apply sc_i <;> intro hb)
      | (apply bx_i; intro hbd) | (apply gt_i; assumption; exact rfl)
      | (apply cx_is; first | fail) | (apply cx_do (i := 0) rfl; first | fail)
      | (apply ab_i; intro bl) | (apply as_i; intro va vk vc hva) | (apply av_i; intro v) | (apply ac_i; intro bl cap hcap)
      | apply bo_l | (apply nx_i <;> intro hnx) | (apply Ia.hit; assumption) | (apply Ia.miss; assumption)
      | (apply rt_is; exact rfl) | exact rt_w | (apply iv; assumption)
      | exact True.intro | (apply bc_i; intro C hC) | apply bt_i | apply og_n | (apply og_a; exact rfl))
  all_goals (try conv => whnf)
  refine rds hC hGL 4 ?_
  repeat' (first
    | (conv => whnf); first
      | refine .w ?_ | refine .v ?_ | apply sc_true | apply sc_false
      | (first | apply sc_lt | apply sc_nlt | apply sc_eq | apply sc_neq | apply sc_nil | apply sc_nnil | apply sc_seq | apply sc_nseq) <;> (intro hb; try exact dd hb)
      | apply sc_not | apply sc_or | (apply sc_i <;> intro hb)
      | (apply bx_i; intro hbd) | (apply gt_i; assumption; exact rfl)
      | (apply cx_is; first | fail) | (apply cx_do (i := 0) rfl; first | fail)
      | (apply ab_i; intro bl) | (apply as_i; intro va vk vc hva) | (apply av_i; intro v) | (apply ac_i; intro bl cap hcap)
      | apply bo_l | (apply nx_i <;> intro hnx) | (apply Ia.hit; assumption) | (apply Ia.miss; assumption)
      | (apply rt_is; exact rfl) | exact rt_w | (apply iv; assumption)
      | exact True.intro | (apply bc_i; intro C hC) | apply bt_i | apply og_n | (apply og_a; exact rfl))
  all_goals (try conv => whnf)
  refine op1_run hC hGL (rv_bytes [34] rfl (by intro v hv; simp only [List.mem_cons, List.not_mem_nil, or_false] at hv; omega) rfl rfl rfl rfl rfl rfl) rfl rfl ?_
  repeat' (first
    | (conv => whnf); first
      | refine .w ?_ | refine .v ?_ | apply sc_true | apply sc_false
      | (first | apply sc_lt | apply sc_nlt | apply sc_eq | apply sc_neq | apply sc_nil | apply sc_nnil | apply sc_seq | apply sc_nseq) <;> (intro hb; try exact dd hb)
      | apply sc_not | apply sc_or | (apply sc_i <;> intro hb)
      | (apply bx_i; intro hbd) | (apply gt_i; assumption; exact rfl)
      | (apply cx_is; first | fail) | (apply cx_do (i := 0) rfl; first | fail)
      | (apply ab_i; intro bl) | (apply as_i; intro va vk vc hva) | (apply av_i; intro v) | (apply ac_i; intro bl cap hcap)
      | apply bo_l | (apply nx_i <;> intro hnx) | (apply Ia.hit; assumption) | (apply Ia.miss; assumption)
      | (apply rt_is; exact rfl) | exact rt_w | (apply iv; assumption)
      | exact True.intro | (apply bc_i; intro C hC) | apply bt_i | apply og_n | (apply og_a; exact rfl))
  all_goals (try conv => whnf)
  refine op1_run hC hGL (rv_bytes [10] rfl (by intro v hv; simp only [List.mem_cons, List.not_mem_nil, or_false] at hv; omega) rfl rfl rfl rfl rfl rfl) rfl rfl ?_
  repeat' (first
    | (conv => whnf); first
      | refine .w ?_ | refine .v ?_ | apply sc_true | apply sc_false
      | (first | apply sc_lt | apply sc_nlt | apply sc_eq | apply sc_neq | apply sc_nil | apply sc_nnil | apply sc_seq | apply sc_nseq) <;> (intro hb; try exact dd hb)
      | apply sc_not | apply sc_or | (apply sc_i <;> intro hb)
      | (apply bx_i; intro hbd) | (apply gt_i; assumption; exact rfl)
      | (apply cx_is; first | fail) | (apply cx_do (i := 0) rfl; first | fail)
      | (apply ab_i; intro bl) | (apply as_i; intro va vk vc hva) | (apply av_i; intro v) | (apply ac_i; intro bl cap hcap)
      | apply bo_l | (apply nx_i <;> intro hnx) | (apply Ia.hit; assumption) | (apply Ia.miss; assumption)
      | (apply rt_is; exact rfl) | exact rt_w | (apply iv; assumption)
      | exact True.intro | (apply bc_i; intro C hC) | apply bt_i | apply og_n | (apply og_a; exact rfl))
  all_goals (try conv => whnf)
  refine op1_run hC hGL (rv_bytes [94] rfl (by intro v hv; simp only [List.mem_cons, List.not_mem_nil, or_false] at hv; omega) rfl rfl rfl rfl rfl rfl) rfl rfl ?_
  repeat' (first
    | (conv => whnf); first
      | refine .w ?_ | refine .v ?_ | apply sc_true | apply sc_false
      | (first | apply sc_lt | apply sc_nlt | apply sc_eq | apply sc_neq | apply sc_nil | apply sc_nnil | apply sc_seq | apply sc_nseq) <;> (intro hb; try exact dd hb)
      | apply sc_not | apply sc_or | (apply sc_i <;> intro hb)
      | (apply bx_i; intro hbd) | (apply gt_i; assumption; exact rfl)
      | (apply cx_is; first | fail) | (apply cx_do (i := 0) rfl; first | fail)
      | (apply ab_i; intro bl) | (apply as_i; intro va vk vc hva) | (apply av_i; intro v) | (apply ac_i; intro bl cap hcap)
      | apply bo_l | (apply nx_i <;> intro hnx) | (apply Ia.hit; assumption) | (apply Ia.miss; assumption)
      | (apply rt_is; exact rfl) | exact rt_w | (apply iv; assumption)
      | exact True.intro | (apply bc_i; intro C hC) | apply bt_i | apply og_n | (apply og_a; exact rfl))
  all_goals (try conv => whnf)
  exact ⟨_, List.Sublist.refl _, _, _, _, _, _, _, _, _, _, _, by assumption, rfl, rfl⟩
end Go.Proofs.YtglapkioagenaaaGreatDoor
namespace Go.Proofs.YtglapkioagenaaaGreatDoor
open Go Go.RowKit
set_option maxRecDepth 20000
set_option maxHeartbeats 4000000
set_option linter.unusedSimpArgs false
set_option linter.unusedVariables false
attribute [local irreducible] AWp AOps byteAt SrcOK OrOk GloAll FnSpec
abbrev encH (br bl vc : Nat) (cs : List AVal) (va : Option Addr) (vk vt bz b1 c1 b2 c2 b3 c3 : Nat) : Heap := [.row (.slice (some ⟨br, 0, none⟩) 6 vc) none 1 6 [.str [94], .str [94, 94], .str [10], .str [94, 110], .str [34], .str [94, 39]], .cells bl (some 95) cs,
      .row (.slice va vk vt) (some 9) 1 3 [.str [34], .str [10], .str [94]], .cells bz (some 147) (tabC 34 10 94 (.own 4 (.slice (some ⟨b1, 0, none⟩) 2 c1)) (.own 5 (.slice (some ⟨b2, 0, none⟩) 2 c2)) (.own 6 (.slice (some ⟨b3, 0, none⟩) 2 c3)) (.own 2 (.slice va vk vt))), .buf b1 [94, 39] c1, .buf b2 [94, 110] c2, .buf b3 [94, 94] c3]
attribute [local irreducible] tabC
theorem build_once {G : Glo} (br bl vc : Nat) : FnSpec Tryz.prog G 48 [.raw (pv bl 0)] [.row (.slice (some ⟨br, 0, none⟩) 6 vc) none 1 6 [.str [94], .str [94, 94], .str [10], .str [94, 110], .str [34], .str [94, 39]], .cells bl (some 95) ((ca_newC (.slice (some ⟨br, 0, none⟩) 6 vc)).set 1 (.int .i32 1))]
    (fun r H => ∃ va vk vt bz b1 c1 b2 c2 b3 c3, RowV 3 va vk ∧ r = .ret (.tuple []) ∧ H = encH br bl vc [.int .u32 0, .int .i32 1, .int .u32 0, .iface 148 (.own 3 (pv bz 0)), .raw (.slice none 0 0)] va vk vt bz b1 c1 b2 c2 b3 c3) := by
  have hGL : GloAll G [] := gloAll_nil
  have e1 := build_enc (G := G) br bl vc
  unfold ca_newC at *
  refine fn_xp 1 Tryz.func48 Tryz.call48 rfl rfl rfl rfl hGL rfl ?_
  intro C hC
  repeat' (first
    | (conv => whnf); first
      | refine .w ?_ | refine .v ?_ | apply sc_true | apply sc_false
      | (first | apply sc_lt | apply sc_nlt | apply sc_eq | apply sc_neq | apply sc_nil | apply sc_nnil | apply sc_seq | apply sc_nseq) <;> (intro hb; try exact dd hb)
      | apply sc_not | apply sc_or | (apply sc_i <;> intro hb)
      | (apply bx_i; intro hbd) | (apply gt_i; assumption; exact rfl)
      | (apply cx_is; first | fail) | (apply cx_do (i := 0) rfl; first | fail)
      | (apply ab_i; intro bl) | (apply as_i; intro va vk vc hva) | (apply av_i; intro v) | (apply ac_i; intro bl cap hcap)
      | apply bo_l | (apply nx_i <;> intro hnx) | (apply Ia.hit; assumption) | (apply Ia.miss; assumption)
      | (apply rt_is; exact rfl) | exact rt_w | (apply iv; assumption)
      | exact True.intro | (apply bc_i; intro C hC) | apply bt_i | apply og_n | (apply og_a; exact rfl))
  all_goals (try conv => whnf)
  refine ⟨_, e1, ?_, ?_⟩
  · rintro v' H2 ⟨va, vk, vt, bz, b1, c1, b2, c2, b3, c3, hva, e, rfl⟩
    cases e
    repeat' (first
      | (conv => whnf); first
        | refine .w ?_ | refine .v ?_ | apply sc_true | apply sc_false
        | (first | apply sc_lt | apply sc_nlt | apply sc_eq | apply sc_neq | apply sc_nil | apply sc_nnil | apply sc_seq | apply sc_nseq) <;> (intro hb; try exact dd hb)
        | apply sc_not | apply sc_or | (apply sc_i <;> intro hb)
        | (apply bx_i; intro hbd) | (apply gt_i; assumption; exact rfl)
        | (apply cx_is; first | fail) | (apply cx_do (i := 0) rfl; first | fail)
        | (apply ab_i; intro bl) | (apply as_i; intro va vk vc hva) | (apply av_i; intro v) | (apply ac_i; intro bl cap hcap)
        | apply bo_l | (apply nx_i <;> intro hnx) | (apply Ia.hit; assumption) | (apply Ia.miss; assumption)
        | (apply rt_is; exact rfl) | exact rt_w | (apply iv; assumption)
        | exact True.intro | (apply bc_i; intro C hC) | apply bt_i | apply og_n | (apply og_a; exact rfl))
    all_goals (try conv => whnf)
    exact ⟨_, List.Sublist.refl _, va, vk, vt, bz, b1, c1, b2, c2, b3, c3, hva, rfl, rfl⟩
  · rintro v' H2 ⟨va, vk, vt, bz, b1, c1, b2, c2, b3, c3, hva, e, rfl⟩
    cases e
end Go.Proofs.YtglapkioagenaaaGreatDoor
namespace Go.Proofs.YtglapkioagenaaaGreatDoor
open Go Go.RowKit
theorem ca_byteAt_ge {s : List UInt8} {j : Nat} (h : j < s.length) : byteAt s j = s[j].toNat := by
  simp [byteAt, List.getD, h]
/-- What a byte is written as (3.1). -/
def encF (c : UInt8) : List UInt8 := if c = 94 then [94, 94] else if c = 10 then [94, 110] else if c = 34 then [94, 39] else [c]
def encS (s : List UInt8) : List UInt8 := s.flatMap encF
theorem enc_94 : encF 94 = [94, 94] := rfl
theorem enc_10 : encF 10 = [94, 110] := rfl
theorem enc_34 : encF 34 = [94, 39] := rfl
theorem enc_else {c : UInt8} (h1 : c.toNat ≠ 94) (h2 : c.toNat ≠ 10) (h3 : c.toNat ≠ 34) : encF c = [c] := by
  unfold encF
  rw [if_neg (by rintro rfl; exact h1 rfl), if_neg (by rintro rfl; exact h2 rfl), if_neg (by rintro rfl; exact h3 rfl)]
theorem encS_nil : encS [] = [] := rfl
theorem encS_cons (c : UInt8) (s : List UInt8) : encS (c :: s) = encF c ++ encS s := rfl
theorem encS_app (s t : List UInt8) : encS (s ++ t) = encS s ++ encS t := by simp [encS]
theorem encF_len (c : UInt8) : 1 ≤ (encF c).length ∧ (encF c).length ≤ 2 := by
  unfold encF
  (repeat' split) <;> simp
theorem encS_len (s : List UInt8) : s.length ≤ (encS s).length ∧ (encS s).length ≤ 2 * s.length := by
  induction s with
  | nil => exact ⟨Nat.le_refl _, Nat.le_refl _⟩
  | cons c t ih =>
    have := encF_len c
    rw [encS_cons, List.length_append, List.length_cons]
    omega
def ca_tabN (N : Nat) (v : AVal) (i j k : Nat) (a b c t : AVal) : List AVal := (((List.replicate N v).set i a).set j b).set k c ++ [t]
theorem ca_tabN_end (N : Nat) (v : AVal) (i j k : Nat) (a b c t : AVal) : (ca_tabN N v i j k a b c t)[N]? = some t := by
  unfold ca_tabN
  rw [List.getElem?_append_right (by simp)]
  simp
theorem ca_tabN_get {N : Nat} {v : AVal} {i j k n : Nat} {a b c t : AVal} (hn : n < N) : (ca_tabN N v i j k a b c t)[n]? = some (if n = k then c else if n = j then b else if n = i then a else v) := by
  unfold ca_tabN
  rw [List.getElem?_append_left (by simpa using hn)]
  by_cases h1 : n = k
  · subst h1; rw [List.getElem?_set_self (by simpa using hn), if_pos rfl]
  · rw [if_neg h1, List.getElem?_set_ne (Ne.symm h1)]
    by_cases h2 : n = j
    · subst h2; rw [List.getElem?_set_self (by simpa using hn), if_pos rfl]
    · rw [if_neg h2, List.getElem?_set_ne (Ne.symm h2)]
      by_cases h3 : n = i
      · subst h3; rw [List.getElem?_set_self (by simpa using hn), if_pos rfl]
      · rw [if_neg h3, List.getElem?_set_ne (Ne.symm h3)]
        simp [hn]
theorem tabC_end (i j k : Nat) (a b c t : AVal) : (tabC i j k a b c t)[256]? = some t := ca_tabN_end 256 _ i j k a b c t
theorem tabC_get {i j k n : Nat} {a b c t : AVal} (hn : n < 256) : (tabC i j k a b c t)[n]? = some (if n = k then c else if n = j then b else if n = i then a else .raw (.slice none 0 0)) := ca_tabN_get (N := 256) hn
end Go.Proofs.YtglapkioagenaaaGreatDoor
namespace Go.Proofs.YtglapkioagenaaaGreatDoor
open Go Go.RowKit
/-- A parameter. -/
structure Pr where
  n : List UInt8
  vs : List (List UInt8)
def Pr.z : Pr := ⟨[], []⟩
instance : Inhabited Pr := ⟨Pr.z⟩
/-- A line as it stands. -/
structure Ln where
  g : List UInt8
  n : List UInt8
  ps : List Pr
  v : List UInt8
def prF (ps : List Pr) (i : Nat) : AVal := .agg [.str (ps.getD i Pr.z).n, .list 1 (ps.getD i Pr.z).vs.length (strsF (ps.getD i Pr.z).vs)]
def Ln.A (p : Ln) : AVal := .agg [.str p.g, .str p.n, .list 2 p.ps.length (prF p.ps), .str p.v]
def eIf (c : Bool) (s : List UInt8) : List UInt8 := if c then encS s else s
/-- Whether a parameter may have a value. -/
def mayV (c : Bool) (s : List UInt8) : Bool := hdB false (eIf c s) && decide (idxB (eIf c s) 34 < 0)
/-- What is wrong with a parameter. -/
def prE (c : Bool) (q : Pr) : Int := if isS q.n = false then 5 else if q.vs.length = 0 then 8 else if q.vs.all (mayV c) then 0 else 3
/-- The first parameter that is wrong. -/
def firE (c : Bool) : List Pr → Nat → Err
  | [], _ => .none
  | q :: l, i => if prE c q = 0 then firE c l (i + 1) else .at (prE c q) i
def Ln.E (c : Bool) (p : Ln) : Err := if isS p.n = false ∨ (p.g.length ≠ 0 ∧ isS p.g = false) then .errno 5
  else if 20 < p.ps.length then .errno 4
  else match firE c p.ps 0 with
    | .none => if hdB false p.v then .none else .errno 3
    | x => x
/-- A byte for which a value is quoted. -/
def quoC (c : Int) : Bool := decide (c = 44 ∨ c = 59 ∨ c = 58)
def quoS (c : Bool) (s : List UInt8) : List UInt8 := if fstB quoC (eIf c s) < 0 then eIf c s else 34 :: eIf c s ++ [34]
def prT (c : Bool) (q : Pr) : List UInt8 := 59 :: q.n ++ [61] ++ Lib.join (q.vs.map (quoS c)) [44]
def hdT (p : Ln) : List UInt8 := if p.g.length = 0 then p.n else p.g ++ [46] ++ p.n
def Ln.txt (c : Bool) (p : Ln) : List UInt8 := hdT p ++ p.ps.flatMap (prT c) ++ [58] ++ p.v
def Ln.T (c : Bool) (p : Ln) : List UInt8 := match p.E c with
  | .none => p.txt c
  | _ => []
/-- How much a line may hold. -/
structure Ln.OK (N : Nat) (p : Ln) : Prop where
  g : p.g.length ≤ N
  n : p.n.length ≤ N
  v : p.v.length ≤ N
  ps : p.ps.length ≤ N
  q : ∀ k, (p.ps.getD k Pr.z).n.length ≤ N ∧ (p.ps.getD k Pr.z).vs.length ≤ N ∧ Lib.lens (p.ps.getD k Pr.z).vs ≤ N
theorem firE_take {c : Bool} : ∀ {l : List Pr} (i k : Nat), (∀ j, j < k → j < l.length → prE c (l.getD j Pr.z) = 0) → (k < l.length → prE c (l.getD k Pr.z) ≠ 0) → firE c l i = if k < l.length then .at (prE c (l.getD k Pr.z)) ((i + k : Nat) : Int) else .none
  | [], i, k, _, _ => by simp [firE]
  | q :: l, i, 0, _, h => by
    have h := h (by simp)
    rw [if_pos (by simp)]
    simp only [firE]
    rw [if_neg (by simpa using h)]
    simp
  | q :: l, i, k + 1, h1, h2 => by
    have h0 : prE c q = 0 := by simpa using h1 0 (by omega) (by simp)
    simp only [firE]
    rw [if_pos h0, firE_take (i + 1) k (fun j hj hl => by simpa using h1 (j + 1) (by omega) (by simpa using hl)) (fun h => by simpa using h2 (by simpa using h))]
    have e : i + 1 + k = i + (k + 1) := by omega
    simp only [List.length_cons, List.getD_cons_succ, Nat.add_lt_add_iff_right, e]
theorem firE_at {c : Bool} {l : List Pr} {k : Nat} (hk : k < l.length) (h : ∀ j, j < k → prE c (l.getD j Pr.z) = 0) (hb : prE c (l.getD k Pr.z) ≠ 0) : firE c l 0 = .at (prE c (l.getD k Pr.z)) k := by
  rw [firE_take 0 k (fun j hj _ => h j hj) (fun _ => hb), if_pos hk]
  simp
theorem firE_none {c : Bool} {l : List Pr} {k : Nat} (hk : l.length ≤ k) (h : ∀ j, j < k → prE c (l.getD j Pr.z) = 0) : firE c l 0 = .none := by
  rw [firE_take 0 k (fun j hj _ => h j hj) (fun h => absurd h (by omega)), if_neg (by omega)]
/-- All of the first so many values may be. -/
def mayJ (c : Bool) (l : List (List UInt8)) (j : Nat) : Prop := ∀ i, i < j → mayV c (l.getD i []) = true
theorem mayJ_succ {c : Bool} {l : List (List UInt8)} {j : Nat} (h : mayJ c l j) (k : mayV c (l.getD j []) = true) : mayJ c l (j + 1) := fun i hi => by
  rcases Nat.lt_or_ge i j with g | g
  · exact h i g
  · rw [show i = j by omega]; exact k
theorem mayJ_all {c : Bool} {l : List (List UInt8)} {j : Nat} (hj : l.length ≤ j) (h : mayJ c l j) : l.all (mayV c) = true := by
  rw [List.all_eq_true]
  intro x hx
  obtain ⟨i, hi, rfl⟩ := List.getElem_of_mem hx
  have := h i (by omega)
  rwa [List.getD_eq_getElem?_getD, List.getElem?_eq_getElem hi] at this
theorem mayJ_not {c : Bool} {l : List (List UInt8)} {j : Nat} (hj : j < l.length) (h : mayV c (l.getD j []) = false) : l.all (mayV c) = false := by
  rw [List.all_eq_false]
  refine ⟨l[j], List.getElem_mem hj, ?_⟩
  rw [List.getD_eq_getElem?_getD, List.getElem?_eq_getElem hj] at h
  simpa using h
theorem prE_5 {c : Bool} {q : Pr} (h : isS q.n = false) : prE c q = 5 := by unfold prE; rw [if_pos h]
theorem prE_8 {c : Bool} {q : Pr} (h : isS q.n = true) (k : q.vs.length = 0) : prE c q = 8 := by unfold prE; rw [if_neg (by rw [h]; decide), if_pos k]
theorem prE_3 {c : Bool} {q : Pr} (h : isS q.n = true) (k : q.vs.length ≠ 0) (m : q.vs.all (mayV c) = false) : prE c q = 3 := by unfold prE; rw [if_neg (by rw [h]; decide), if_neg k, if_neg (by rw [m]; decide)]
theorem prE_0 {c : Bool} {q : Pr} (h : isS q.n = true) (k : q.vs.length ≠ 0) (m : q.vs.all (mayV c) = true) : prE c q = 0 := by unfold prE; rw [if_neg (by rw [h]; decide), if_neg k, if_pos m]
theorem join_snoc {l : List (List UInt8)} (h : l ≠ []) (x sep : List UInt8) : Lib.join (l ++ [x]) sep = Lib.join l sep ++ sep ++ x := by
  cases l with
  | nil => exact absurd rfl h
  | cons y r =>
    rw [List.cons_append, Lib.join_cons, Lib.join_cons]
    simp [Lib.joinTail]
/-- The values of a parameter, the first so many. -/
def vaT (c : Bool) (vs : List (List UInt8)) (j : Nat) : List UInt8 := match j with
  | 0 => []
  | j + 1 => 61 :: Lib.join ((vs.take (j + 1)).map (quoS c)) [44]
theorem vaT_succ {c : Bool} {vs : List (List UInt8)} {j : Nat} (hj : j < vs.length) : vaT c vs (j + 1) = vaT c vs j ++ (if j = 0 then [61] else [44]) ++ quoS c (vs.getD j []) := by
  have e : vs.take (j + 1) = vs.take j ++ [vs.getD j []] := by
    rw [List.take_succ_eq_append_getElem hj, List.getD_eq_getElem?_getD, List.getElem?_eq_getElem hj]
    rfl
  cases j with
  | zero =>
    simp only [vaT, e, List.take_zero, List.nil_append, List.map_cons, List.map_nil, Lib.join_one, if_true]
    rfl
  | succ j =>
    simp only [vaT]
    rw [e, List.map_append, List.map_cons, List.map_nil, join_snoc (fun h => by
      have := congrArg List.length h
      simp only [List.length_map, List.length_take, List.length_nil] at this
      omega), if_neg (by omega)]
    simp only [List.cons_append, List.append_assoc]
theorem vaT_all {c : Bool} {q : Pr} (h : q.vs.length ≠ 0) : prT c q = 59 :: q.n ++ vaT c q.vs q.vs.length := by
  unfold prT
  cases hv : q.vs with
  | nil => rw [hv] at h; exact absurd rfl h
  | cons x r =>
    have e : (x :: r).take (r.length + 1) = x :: r := List.take_of_length_le (by simp)
    simp only [List.length_cons, vaT, e, List.append_assoc]
    rfl
theorem eIf_len (c : Bool) (s : List UInt8) : (eIf c s).length ≤ 2 * s.length := by
  unfold eIf
  split
  · exact (encS_len s).2
  · omega
theorem quoS_len (c : Bool) (s : List UInt8) : (quoS c s).length ≤ 2 * s.length + 2 := by
  have := eIf_len c s
  unfold quoS
  split
  · omega
  · simp only [List.cons_append, List.length_cons, List.length_append, List.length_nil]
    omega
theorem lens_quo (c : Bool) : ∀ l : List (List UInt8), Lib.lens (l.map (quoS c)) ≤ 2 * Lib.lens l + 2 * l.length
  | [] => by simp [Lib.lens]
  | x :: r => by
    have h1 := lens_quo c r
    have h2 := quoS_len c x
    have e1 : Lib.lens ((x :: r).map (quoS c)) = (quoS c x).length + Lib.lens (r.map (quoS c)) := by simp [Lib.lens]
    have e2 : Lib.lens (x :: r) = x.length + Lib.lens r := by simp [Lib.lens]
    rw [e1, e2, List.length_cons]
    omega
theorem join_len (l : List (List UInt8)) : (Lib.join l [44]).length ≤ Lib.lens l + l.length := by
  cases l with
  | nil => simp [Lib.join_nil]
  | cons x r =>
    have e2 : Lib.lens (x :: r) = x.length + Lib.lens r := by simp [Lib.lens]
    rw [Lib.join_cons, List.length_append, Lib.joinTail_length, e2, List.length_cons]
    simp only [List.length_cons, List.length_nil]
    omega
theorem vaT_len (c : Bool) (vs : List (List UInt8)) (j : Nat) : (vaT c vs j).length ≤ 1 + 2 * Lib.lens vs + 3 * vs.length := by
  cases j with
  | zero => simp [vaT]
  | succ j =>
    simp only [vaT, List.length_cons]
    have h1 := join_len ((vs.take (j + 1)).map (quoS c))
    have h2 := lens_quo c (vs.take (j + 1))
    have h3 := Lib.lens_take_le vs (j + 1)
    rw [List.length_map, List.length_take] at h1
    rw [List.length_take] at h2
    omega
theorem prT_len (c : Bool) (q : Pr) : (prT c q).length ≤ 2 + q.n.length + 2 * Lib.lens q.vs + 3 * q.vs.length := by
  unfold prT
  have h1 := join_len (q.vs.map (quoS c))
  have h2 := lens_quo c q.vs
  rw [List.length_map] at h1
  simp only [List.length_cons, List.length_append, List.length_nil, List.cons_append]
  omega
/-- The parameters, the first so many. -/
def psT (c : Bool) (ps : List Pr) (k : Nat) : List UInt8 := (ps.take k).flatMap (prT c)
theorem psT_succ {c : Bool} {ps : List Pr} {k : Nat} (hk : k < ps.length) : psT c ps (k + 1) = psT c ps k ++ prT c (ps.getD k Pr.z) := by
  have e : ps.take (k + 1) = ps.take k ++ [ps.getD k Pr.z] := by
    rw [List.take_succ_eq_append_getElem hk, List.getD_eq_getElem?_getD, List.getElem?_eq_getElem hk]
    rfl
  unfold psT
  rw [e, List.flatMap_append]
  simp
theorem psT_len {c : Bool} {ps : List Pr} {N : Nat} (h : ∀ k, (ps.getD k Pr.z).n.length ≤ N ∧ (ps.getD k Pr.z).vs.length ≤ N ∧ Lib.lens (ps.getD k Pr.z).vs ≤ N) : ∀ k, k ≤ ps.length → (psT c ps k).length ≤ k * (2 + 6 * N)
  | 0, _ => by simp [psT]
  | k + 1, hk => by
    have ih := psT_len (c := c) h k (by omega)
    have h1 := prT_len c (ps.getD k Pr.z)
    have h2 := h k
    rw [psT_succ (by omega), List.length_append, Nat.succ_mul]
    omega
theorem txt_psT (c : Bool) (p : Ln) : p.txt c = hdT p ++ psT c p.ps p.ps.length ++ [58] ++ p.v := by
  unfold Ln.txt psT
  rw [List.take_of_length_le (Nat.le_refl _)]
theorem Ln.E_5 {c : Bool} {p : Ln} (h : isS p.n = false ∨ (p.g.length ≠ 0 ∧ isS p.g = false)) : p.E c = .errno 5 := by unfold Ln.E; rw [if_pos h]
theorem Ln.E_4 {c : Bool} {p : Ln} (h1 : isS p.n = true) (h2 : p.g.length = 0 ∨ isS p.g = true) (h : 20 < p.ps.length) : p.E c = .errno 4 := by
  unfold Ln.E
  rw [if_neg (by rintro (k | ⟨k1, k2⟩); rw [h1] at k; cases k; rcases h2 with h2 | h2; exact k1 h2; rw [h2] at k2; cases k2), if_pos h]
theorem Ln.E_f {c : Bool} {p : Ln} (h1 : isS p.n = true) (h2 : p.g.length = 0 ∨ isS p.g = true) (h : p.ps.length ≤ 20) : p.E c = match firE c p.ps 0 with
    | .none => if hdB false p.v then .none else .errno 3
    | x => x := by
  unfold Ln.E
  rw [if_neg (by rintro (k | ⟨k1, k2⟩); rw [h1] at k; cases k; rcases h2 with h2 | h2; exact k1 h2; rw [h2] at k2; cases k2), if_neg (by omega)]
theorem Ln.E_at {c : Bool} {p : Ln} (h1 : isS p.n = true) (h2 : p.g.length = 0 ∨ isS p.g = true) (h : p.ps.length ≤ 20) {k : Nat} (hk : k < p.ps.length) (hj : ∀ j, j < k → prE c (p.ps.getD j Pr.z) = 0) (hb : prE c (p.ps.getD k Pr.z) ≠ 0) : p.E c = .at (prE c (p.ps.getD k Pr.z)) k := by
  rw [Ln.E_f h1 h2 h, firE_at hk hj hb]
theorem Ln.E_3 {c : Bool} {p : Ln} (h1 : isS p.n = true) (h2 : p.g.length = 0 ∨ isS p.g = true) (h : p.ps.length ≤ 20) {k : Nat} (hk : p.ps.length ≤ k) (hj : ∀ j, j < k → prE c (p.ps.getD j Pr.z) = 0) (hv : hdB false p.v = false) : p.E c = .errno 3 := by
  rw [Ln.E_f h1 h2 h, firE_none hk hj]
  simp only [hv, Bool.false_eq_true, if_false]
theorem Ln.E_0 {c : Bool} {p : Ln} (h1 : isS p.n = true) (h2 : p.g.length = 0 ∨ isS p.g = true) (h : p.ps.length ≤ 20) {k : Nat} (hk : p.ps.length ≤ k) (hj : ∀ j, j < k → prE c (p.ps.getD j Pr.z) = 0) (hv : hdB false p.v = true) : p.E c = .none := by
  rw [Ln.E_f h1 h2 h, firE_none hk hj]
  simp only [hv, if_true]
theorem below_next {p : Nat → Prop} {k : Nat} (h : ∀ j, j < k → p j) (hk : p k) : ∀ j, j < k + 1 → p j := fun j hj => by
  rcases Nat.lt_or_ge j k with g | g
  · exact h j g
  · rw [show j = k by omega]; exact hk
/-- What is known of a parameter's error, behind so many values. -/
def prI (c : Bool) (q : Pr) (j : Nat) (e : Int) : Prop := (isS q.n = false ∧ e = 5) ∨ (isS q.n = true ∧ q.vs.length = 0 ∧ e = 8) ∨ (isS q.n = true ∧ q.vs.length ≠ 0 ∧ ((e = 0 ∧ mayJ c q.vs j) ∨ (e = 3 ∧ q.vs.all (mayV c) = false)))
theorem prI_end {c : Bool} {q : Pr} {j : Nat} {e : Int} (h : prI c q j e) (hj : q.vs.length ≤ j) : e = prE c q := by
  rcases h with ⟨h1, h2⟩ | ⟨h1, h2, h3⟩ | ⟨h1, h2, ⟨h3, h4⟩ | ⟨h3, h4⟩⟩
  · rw [prE_5 h1, h2]
  · rw [prE_8 h1 h2, h3]
  · rw [prE_0 h1 h2 (mayJ_all hj h4), h3]
  · rw [prE_3 h1 h2 h4, h3]
theorem prI_keep {c : Bool} {q : Pr} {j : Nat} {e : Int} (h : prI c q j e) (he : e ≠ 0) : prI c q (j + 1) e := by
  rcases h with h | h | ⟨h1, h2, ⟨h3, h4⟩ | h3⟩
  · exact .inl h
  · exact .inr (.inl h)
  · exact absurd h3 he
  · exact .inr (.inr ⟨h1, h2, .inr h3⟩)
theorem prI_ok {c : Bool} {q : Pr} {j : Nat} {e : Int} (h : prI c q j e) (he : e = 0) (hm : mayV c (q.vs.getD j []) = true) : prI c q (j + 1) e := by
  rcases h with h | h | ⟨h1, h2, ⟨h3, h4⟩ | h3⟩
  · exact absurd (he.symm.trans h.2) (by decide)
  · exact absurd (he.symm.trans h.2.2) (by decide)
  · exact .inr (.inr ⟨h1, h2, .inl ⟨h3, mayJ_succ h4 hm⟩⟩)
  · exact absurd (he.symm.trans h3.1) (by decide)
theorem prI_bad {c : Bool} {q : Pr} {j : Nat} {e : Int} (h : prI c q j e) (he : e = 0) (hj : j < q.vs.length) (hm : mayV c (q.vs.getD j []) = false) : prI c q (j + 1) 3 := by
  rcases h with h | h | ⟨h1, h2, ⟨h3, h4⟩ | h3⟩
  · exact absurd (he.symm.trans h.2) (by decide)
  · exact absurd (he.symm.trans h.2.2) (by decide)
  · exact .inr (.inr ⟨h1, h2, .inr ⟨rfl, mayJ_not hj hm⟩⟩)
  · exact absurd (he.symm.trans h3.1) (by decide)
end Go.Proofs.YtglapkioagenaaaGreatDoor
namespace Go.Proofs.YtglapkioagenaaaGreatDoor
open Go
set_option linter.unusedVariables false
structure Lf (Q : Prop) : Prop where
  h : Q
structure Lc (a b : Prop) : Prop where
  l : a
  r : b
inductive Le : Prop
  | n
inductive Lz : Prop → Prop
  | n : Lz Le
  | c {a b : Prop} : Lz b → Lz (Lc a b)
theorem Lf.l {a b : Prop} (q : Lf (Lc a b)) : a := q.h.l
theorem Lf.r {a b : Prop} (q : Lf (Lc a b)) : Lf b := ⟨q.h.r⟩
/-- A statement's end: what is known, what the slots hold, what is owned. -/
structure Ct (I : Env) (J : Heap) (p : Prop) (e : Env) (h : Heap) : Prop where
  p : p
  s : Env.sub e I
  j : h = J
theorem Ct.w {I : Env} {J : Heap} {p : Prop} {e : Env} {h : Heap} (hp : p := by first | exact True.intro | assumption | omega) (hs : Env.sub e I := by repeat (first | exact trivial | refine And.intro rfl ?_)) (hj : h = J := by rfl) : Ct I J p e h := ⟨hp, hs, hj⟩
structure Cy {X : Type} (I : X → Env) (J : X → Heap) (Inv : X → Prop) (e : Env) (h : Heap) : Prop where
  h : ∃ x, Inv x ∧ Env.sub e (I x) ∧ h = J x
theorem cy {X : Type} {I : X → Env} {J : X → Heap} {Inv : X → Prop} {e : Env} {h : Heap} (x : X) (hp : Inv x) (hs : Env.sub e (I x) := by repeat (first | exact trivial | refine And.intro rfl ?_)) (hj : h = J x := by rfl) : Cy I J Inv e h := ⟨⟨x, hp, hs, hj⟩⟩
section
variable {P : Program} [Tab P] {C : Ctx} {n : Nat} {G : Glo} {GL : List (Nat × List AVal)} {env : Env} {H : Heap} {Q : AExit → Env → Heap → Prop}
/-- Into a function whose statements are gone through one by one. -/
theorem fn_a {f : FuncId} {fn : Func} {c : Code} {avs : List AVal} {Qf : ARes → Heap → Prop} {rs : List ResultVar} (hf : P.funcs[f]? = some fn)
    (hc : ∀ args w, (callFunc f args).run P w = .ok (.enter f args) w) (hb : fn.body = some c) (hn : fn.ntmps = n) (hrs : fn.results = rs.toArray) (hlen : Nat.ble avs.length n = true)
    (h : ∀ C : Ctx, C.G = G → AWp P C n c (argEnv 0 avs) H (RetX P rs Qf)) : FnSpec P G f avs H Qf :=
  fn_spec hf hb hc hn hrs hlen fun w0 R0 hG => (h ⟨w0, R0, blks H, G, hG, []⟩ rfl).mono fun _ _ _ q => RetX_ok q
theorem aw_code {c : Code} (hC : C.G = G) (hGL : GloAll G GL) (h : codeX P C n G GL c env H Q) : AWp P C n c env H Q := codeX_ok hC hGL _ _ _ _ h
theorem cuty {a b : Code} {X : Type} (hC : C.G = G) (hGL : GloAll G GL) (I : X → Env) (J : X → Heap) (Inv : X → Prop) (h1 : codeX P C n G GL a env H (thenQ (fun e h => Cy I J Inv e h) Q)) (h2 : ∀ x, Inv x → AWp P C n b (I x) (J x) Q) : AWp P C n (.seq a b) env H Q :=
  aw_seq ((codeX_ok hC hGL _ _ _ _ h1).mono fun x e h q => by
    cases x with
    | normal =>
      obtain ⟨y, hy, hs, rfl⟩ := q.h
      exact aw_sub hs (h2 y hy)
    | exit i => exact q
    | goto i => exact q
    | ret => exact q
    | panic v => exact q)
theorem cut {a b : Code} (hC : C.G = G) (hGL : GloAll G GL) (I : Env) (J : Heap) (p : Prop) (h1 : codeX P C n G GL a env H (thenQ (fun e h => Ct I J p e h) Q)) (h2 : p → AWp P C n b I J Q) : AWp P C n (.seq a b) env H Q :=
  aw_seq ((codeX_ok hC hGL _ _ _ _ h1).mono fun x e h q => by
    cases x with
    | normal =>
      obtain ⟨hp, hs, rfl⟩ := q
      exact aw_sub hs (h2 hp)
    | exit i => exact q
    | goto i => exact q
    | ret => exact q
    | panic v => exact q)
end
theorem xw0 {P : Prop} (h : P := by
    repeat' (first
      | (conv => whnf); first
        | refine .w ?_ | refine .v ?_ | apply sc_true | apply sc_false
        | (first | apply sc_lt | apply sc_nlt | apply sc_eq | apply sc_neq | apply sc_nil | apply sc_nnil | apply sc_seq | apply sc_nseq) <;> (intro wb; try exact dd wb)
        | apply sc_not | apply sc_or | (apply sc_i <;> intro wb)
        | (apply bx_i; intro wb) | (apply gt_i; assumption; exact rfl)
        | (apply cx_is; first | assumption | (apply k1 <;> omega) | (apply k2 <;> omega) | (apply k3 <;> omega)) | (apply cx_do (i := 0) rfl; assumption)
        | (apply ab_i; intro wl) | (apply as_i; intro wa wk wc wh) | (apply av_i; intro wv) | (apply ac_i; intro wl wq wb)
        | apply bo_l | (apply nx_i <;> intro wb) | (apply Ia.hit; assumption) | (apply Ia.miss; assumption)
        | (apply rt_is; exact rfl) | exact rt_w | exact Ct.w | (apply iv; assumption)
        | exact True.intro | (apply bc_i; intro wC whC) | apply bt_i | apply og_n | (apply og_a; exact rfl) | apply dw_q mixed whC hGL (by kernel_rfl) | apply dw_q mixed hC hGL (by kernel_rfl) | (apply cq; assumption; (first | assumption | (apply k1 <;> omega) | (apply k2 <;> omega)); exact rfl))
    all_goals (try conv => whnf)) : P := h
theorem xw1 {P Q : Prop} (hQ : Q) (h : Lf Q → P := by
    intro ww
    repeat' (first
      | (conv => whnf); first
        | refine .w ?_ | refine .v ?_ | apply sc_true | apply sc_false
        | (first | apply sc_lt | apply sc_nlt | apply sc_eq | apply sc_neq | apply sc_nil | apply sc_nnil | apply sc_seq | apply sc_nseq) <;> (intro wb; try exact dd wb)
        | apply sc_not | apply sc_or | (apply sc_i <;> intro wb)
        | (apply bx_i; intro wb) | (apply gt_i; assumption; exact rfl)
        | (apply cx_is; first | assumption | (apply k1 <;> omega) | (apply k2 <;> omega) | (apply k3 <;> omega)) | (apply cx_do (i := 0) rfl; assumption)
        | (apply ab_i; intro wl) | (apply as_i; intro wa wk wc wh) | (apply av_i; intro wv) | (apply ac_i; intro wl wq wb)
        | apply bo_l | (apply nx_i <;> intro wb) | (apply Ia.hit; assumption) | (apply Ia.miss; assumption)
        | (apply rt_is; exact rfl) | exact rt_w | exact Ct.w | (apply iv; assumption)
        | exact True.intro | (apply bc_i; intro wC whC) | apply bt_i | apply og_n | (apply og_a; exact rfl) | apply dw_q mixed whC hGL (by kernel_rfl) | apply dw_q mixed hC hGL (by kernel_rfl) | (apply cq; assumption; (first | assumption | (apply k1 <;> omega) | (apply k2 <;> omega)); exact rfl))
    all_goals (try conv => whnf)
    all_goals (repeat (first | revert wb | revert wh | revert wc | revert wk | revert wa | revert wq | revert wl | revert wv | revert whC | revert wC))
    all_goals (apply Lf.h; apply ww)) : P := h ⟨hQ⟩
theorem xw {P Q : Prop} (hQ : Q) (h : Lf Q → P := by
    intro ww
    repeat' (first
      | (conv => whnf); first
        | refine .w ?_ | refine .v ?_ | apply sc_true | apply sc_false
        | (first | apply sc_lt | apply sc_nlt | apply sc_eq | apply sc_neq | apply sc_nil | apply sc_nnil | apply sc_seq | apply sc_nseq) <;> (intro wb; try exact dd wb)
        | apply sc_not | apply sc_or | (apply sc_i <;> intro wb)
        | (apply bx_i; intro wb) | (apply gt_i; assumption; exact rfl)
        | (apply cx_is; first | assumption | (apply k1 <;> omega) | (apply k2 <;> omega) | (apply k3 <;> omega)) | (apply cx_do (i := 0) rfl; assumption)
        | (apply ab_i; intro wl) | (apply as_i; intro wa wk wc wh) | (apply av_i; intro wv) | (apply ac_i; intro wl wq wb)
        | apply bo_l | (apply nx_i <;> intro wb) | (apply Ia.hit; assumption) | (apply Ia.miss; assumption)
        | (apply rt_is; exact rfl) | exact rt_w | exact Ct.w | (apply iv; assumption)
        | exact True.intro | (apply bc_i; intro wC whC) | apply bt_i | apply og_n | (apply og_a; exact rfl) | apply dw_q mixed whC hGL (by kernel_rfl) | apply dw_q mixed hC hGL (by kernel_rfl) | (apply cq; assumption; (first | assumption | (apply k1 <;> omega) | (apply k2 <;> omega)); exact rfl))
    all_goals (try conv => whnf)
    all_goals (repeat (first | revert wb | revert wh | revert wc | revert wk | revert wa | revert wq | revert wl | revert wv | revert whC | revert wC))
    all_goals (apply Lf.l; with_reducible (repeat (first | apply ww | apply Lf.r)))) (e : Lz Q := by repeat (first | exact Lz.n | apply Lz.c)) : P := h ⟨hQ⟩
theorem xn0 {P : Prop} (h : P := by
    repeat' (first
      | (conv => whnf); first
        | refine .w ?_ | refine .v ?_ | apply sc_true | apply sc_false
        | (first | apply sc_lt | apply sc_nlt | apply sc_eq | apply sc_neq | apply sc_nil | apply sc_nnil | apply sc_seq | apply sc_nseq) <;> (intro wb; try exact dd wb)
        | apply sc_not | apply sc_or | (apply sc_i <;> intro wb)
        | (apply bx_i; intro wb) | (apply gt_i; assumption; exact rfl)
        | (apply cx_is; first | assumption | (apply k1 <;> omega) | (apply k2 <;> omega) | (apply k3 <;> omega)) | (apply cx_do (i := 0) rfl; assumption)
        | (apply ab_i; intro wl) | (apply as_i; intro wa wk wc wh) | (apply av_i; intro wv) | (apply ac_i; intro wl wq wb)
        | apply bo_l | (apply nx_i <;> intro wb) | (apply Ia.hit; assumption) | (apply Ia.miss; assumption)
        | (apply rt_is; exact rfl) | exact rt_w | exact Ct.w | (apply iv; assumption)
        | exact True.intro | (apply bc_i; intro wC whC) | apply bt_i | apply og_n | (apply og_a; exact rfl))
    all_goals (try conv => whnf)) : P := h
theorem xn1 {P Q : Prop} (hQ : Q) (h : Lf Q → P := by
    intro ww
    repeat' (first
      | (conv => whnf); first
        | refine .w ?_ | refine .v ?_ | apply sc_true | apply sc_false
        | (first | apply sc_lt | apply sc_nlt | apply sc_eq | apply sc_neq | apply sc_nil | apply sc_nnil | apply sc_seq | apply sc_nseq) <;> (intro wb; try exact dd wb)
        | apply sc_not | apply sc_or | (apply sc_i <;> intro wb)
        | (apply bx_i; intro wb) | (apply gt_i; assumption; exact rfl)
        | (apply cx_is; first | assumption | (apply k1 <;> omega) | (apply k2 <;> omega) | (apply k3 <;> omega)) | (apply cx_do (i := 0) rfl; assumption)
        | (apply ab_i; intro wl) | (apply as_i; intro wa wk wc wh) | (apply av_i; intro wv) | (apply ac_i; intro wl wq wb)
        | apply bo_l | (apply nx_i <;> intro wb) | (apply Ia.hit; assumption) | (apply Ia.miss; assumption)
        | (apply rt_is; exact rfl) | exact rt_w | exact Ct.w | (apply iv; assumption)
        | exact True.intro | (apply bc_i; intro wC whC) | apply bt_i | apply og_n | (apply og_a; exact rfl))
    all_goals (try conv => whnf)
    all_goals (repeat (first | revert wb | revert wh | revert wc | revert wk | revert wa | revert wq | revert wl | revert wv | revert whC | revert wC))
    all_goals (apply Lf.h; apply ww)) : P := h ⟨hQ⟩
theorem xn {P Q : Prop} (hQ : Q) (h : Lf Q → P := by
    intro ww
    repeat' (first
      | (conv => whnf); first
        | refine .w ?_ | refine .v ?_ | apply sc_true | apply sc_false
        | (first | apply sc_lt | apply sc_nlt | apply sc_eq | apply sc_neq | apply sc_nil | apply sc_nnil | apply sc_seq | apply sc_nseq) <;> (intro wb; try exact dd wb)
        | apply sc_not | apply sc_or | (apply sc_i <;> intro wb)
        | (apply bx_i; intro wb) | (apply gt_i; assumption; exact rfl)
        | (apply cx_is; first | assumption | (apply k1 <;> omega) | (apply k2 <;> omega) | (apply k3 <;> omega)) | (apply cx_do (i := 0) rfl; assumption)
        | (apply ab_i; intro wl) | (apply as_i; intro wa wk wc wh) | (apply av_i; intro wv) | (apply ac_i; intro wl wq wb)
        | apply bo_l | (apply nx_i <;> intro wb) | (apply Ia.hit; assumption) | (apply Ia.miss; assumption)
        | (apply rt_is; exact rfl) | exact rt_w | exact Ct.w | (apply iv; assumption)
        | exact True.intro | (apply bc_i; intro wC whC) | apply bt_i | apply og_n | (apply og_a; exact rfl))
    all_goals (try conv => whnf)
    all_goals (repeat (first | revert wb | revert wh | revert wc | revert wk | revert wa | revert wq | revert wl | revert wv | revert whC | revert wC))
    all_goals (apply Lf.l; with_reducible (repeat (first | apply ww | apply Lf.r)))) (e : Lz Q := by repeat (first | exact Lz.n | apply Lz.c)) : P := h ⟨hQ⟩
end Go.Proofs.YtglapkioagenaaaGreatDoor
namespace Go.Proofs.YtglapkioagenaaaGreatDoor
open Go
set_option maxRecDepth 20000
set_option maxHeartbeats 4000000
set_option linter.unusedSimpArgs false
set_option linter.unusedVariables false
attribute [local irreducible] AWp AOps byteAt SrcOK OrOk GloAll FnSpec
attribute [local irreducible] nextS badI badS stepS rngR ownB
def firstTab : List AVal := Go.Pinned.utf8FirstZ.map (fun x : Nat => AVal.int .u8 (x : Int))
def acceptTab : List AVal := [.int .u8 128, .int .u8 191, .int .u8 160, .int .u8 191, .int .u8 128, .int .u8 159, .int .u8 144, .int .u8 191, .int .u8 128, .int .u8 143, .int .u8 0, .int .u8 0, .int .u8 0, .int .u8 0, .int .u8 0, .int .u8 0, .int .u8 0, .int .u8 0, .int .u8 0, .int .u8 0, .int .u8 0, .int .u8 0, .int .u8 0, .int .u8 0, .int .u8 0, .int .u8 0, .int .u8 0, .int .u8 0, .int .u8 0, .int .u8 0, .int .u8 0, .int .u8 0]
def firstN (b : Nat) : Nat :=
  if b < 128 then 240 else if b < 194 then 241 else if b < 224 then 2 else if b = 224 then 19 else if b < 237 then 3 else if b = 237 then 35 else if b < 240 then 3 else if b = 240 then 52
  else if b < 244 then 4 else if b = 244 then 68 else 241
theorem firstN_ok : ∀ b : Fin 256, Go.Pinned.utf8FirstZ[b.1]? = some (firstN b.1) := by decide +kernel
theorem firstTab_at (b : Nat) (h : b < 256) : firstTab[b * 1]? = some (.int .u8 (firstN b : Int)) := by
  rw [Nat.mul_one]
  simp only [firstTab, List.getElem?_map, firstN_ok ⟨b, h⟩, Option.map_some]
/-- What it answers. -/
def runeS (s : List UInt8) : Nat × Nat := if s.length = 0 then (65533, 0) else if (nextS s).2 = 0 then (65533, 1) else nextS s
theorem xx_mask (b : Int) : IntKind.wrap .i32 (BitVec.ofInt 32 (IntKind.wrap .i32 (BitVec.ofInt 32 b &&& ~~~ BitVec.ofInt 32 (IntKind.wrap .i32 (241 * 2147483648) / 2147483648)).toNat) ||| BitVec.ofInt 32 (IntKind.wrap .i32 (BitVec.ofInt 32 65533 &&& BitVec.ofInt 32 (IntKind.wrap .i32 (241 * 2147483648) / 2147483648)).toNat)).toNat = 65533 := by
  have e : (~~~ BitVec.ofInt 32 (IntKind.wrap .i32 (241 * 2147483648) / 2147483648)) = 0#32 := by decide +kernel
  rw [e, BitVec.and_zero]
  decide +kernel
attribute [local irreducible] firstTab
/-- The two tables of package utf8. -/
abbrev utfTy : List (Nat × List AVal) := [(3, firstTab), (4, acceptTab)]
theorem dec_cases (b : Nat) (h : b < 256) (h1 : 128 ≤ b) :
    (firstTab[b * 1]? = some (.int .u8 241) ∧ (b < 194 ∨ 245 ≤ b)) ∨ (firstTab[b * 1]? = some (.int .u8 2) ∧ 194 ≤ b ∧ b < 224) ∨ (firstTab[b * 1]? = some (.int .u8 19) ∧ b = 224)
    ∨ (firstTab[b * 1]? = some (.int .u8 3) ∧ 225 ≤ b ∧ b < 240 ∧ b ≠ 237) ∨ (firstTab[b * 1]? = some (.int .u8 35) ∧ b = 237) ∨ (firstTab[b * 1]? = some (.int .u8 52) ∧ b = 240)
    ∨ (firstTab[b * 1]? = some (.int .u8 4) ∧ 241 ≤ b ∧ b < 244) ∨ (firstTab[b * 1]? = some (.int .u8 68) ∧ b = 244) := by
  have e := firstTab_at b h
  have key : ∀ c : Nat, firstN b = c → firstTab[b * 1]? = some (.int .u8 (c : Int)) := fun c hc => by rw [e, hc]
  by_cases c1 : b < 194 ∨ 245 ≤ b
  · refine .inl ⟨key 241 (by unfold firstN; (repeat' split) <;> omega), c1⟩
  by_cases c2 : b < 224
  · refine .inr (.inl ⟨key 2 (by unfold firstN; (repeat' split) <;> omega), by omega, c2⟩)
  by_cases c3 : b = 224
  · subst c3; exact .inr (.inr (.inl ⟨key 19 rfl, rfl⟩))
  by_cases c5 : b = 237
  · subst c5; exact .inr (.inr (.inr (.inr (.inl ⟨key 35 rfl, rfl⟩))))
  by_cases c4 : b < 240
  · refine .inr (.inr (.inr (.inl ⟨key 3 (by unfold firstN; (repeat' split) <;> omega), by omega, c4, c5⟩)))
  by_cases c6 : b = 240
  · subst c6; exact .inr (.inr (.inr (.inr (.inr (.inl ⟨key 52 rfl, rfl⟩)))))
  by_cases c7 : b < 244
  · refine .inr (.inr (.inr (.inr (.inr (.inr (.inl ⟨key 4 (by unfold firstN; (repeat' split) <;> omega), by omega, c7⟩))))))
  have c8 : b = 244 := by omega
  subst c8
  exact .inr (.inr (.inr (.inr (.inr (.inr (.inr ⟨key 68 rfl, rfl⟩))))))
theorem rune_bad {s : List UInt8} {a b : Int} (h0 : ¬ s.length = 0) (h : ((nextS s).1 : Int) = 0 ∧ ((nextS s).2 : Int) = 0) (ha : a = 65533) (hb : b = 1) : ((runeS s).1 : Int) = a ∧ ((runeS s).2 : Int) = b := by
  have : (nextS s).2 = 0 := by omega
  subst ha hb
  simp [runeS, h0, this]
theorem rune_ok {s : List UInt8} {a b : Int} (h0 : ¬ s.length = 0) (h : ((nextS s).1 : Int) = a ∧ ((nextS s).2 : Int) = b) (hb : 0 < b) : ((runeS s).1 : Int) = a ∧ ((runeS s).2 : Int) = b := by
  have : ¬ (nextS s).2 = 0 := by omega
  simpa [runeS, h0, this] using h
theorem dec_slow {G : Glo} (hGL : GloAll G utfTy) (s : List UInt8) (hs : s.length = 0 ∨ 128 ≤ byteAt s 0) :
    FnIs Tryz.prog G 88 [.str s] (.tuple [.int .i32 ((runeS s).1 : Int), .int .i64 ((runeS s).2 : Int)]) := by
  refine fn_x Tryz.func88 Tryz.call88 rfl rfl rfl rfl hGL ?_
  intro C hC
  by_cases h0 : s.length = 0
  · repeat' (first
      | (conv => whnf); first
        | refine .w ?_ | refine .v ?_ | apply sc_true | apply sc_false
        | (first | apply sc_lt | apply sc_nlt | apply sc_eq | apply sc_neq | apply sc_nil | apply sc_nnil | apply sc_seq | apply sc_nseq) <;> (intro hb; try exact dd hb)
        | apply sc_not | apply sc_or | (apply sc_i <;> intro hb)
        | (apply bx_i; intro hbd) | (apply gt_i; assumption; exact rfl)
        | (apply cx_is; first | fail) | (apply cx_do (i := 0) rfl; first | fail)
        | (apply ab_i; intro bl) | (apply as_i; intro va vk vc hva) | (apply av_i; intro v) | (apply ac_i; intro bl cap hcap)
        | apply bo_l | (apply nx_i <;> intro hnx) | (apply Ia.hit; assumption) | (apply Ia.miss; assumption)
        | (apply rt_is; exact rfl) | exact rt_w | (apply iv; assumption)
        | apply dw_q mixed hC hGL (by kernel_rfl) | (apply cq; assumption; (first | fail); exact rfl))
    all_goals (try conv => whnf)
    refine tup2 ?_
    simp only [runeS, if_pos h0]
    exact ⟨rfl, rfl⟩
  replace hs : 128 ≤ byteAt s 0 := by omega
  have hdc := dec_cases (byteAt s 0) (byteAt_lt s 0) hs
  repeat' (first
    | (conv => whnf); first
      | refine .w ?_ | refine .v ?_ | apply sc_true | apply sc_false
      | (first | apply sc_lt | apply sc_nlt | apply sc_eq | apply sc_neq | apply sc_nil | apply sc_nnil | apply sc_seq | apply sc_nseq) <;> (intro hb; try exact dd hb)
      | apply sc_not | apply sc_or | (apply sc_i <;> intro hb)
      | (apply bx_i; intro hbd) | (apply gt_i; assumption; exact rfl)
      | (apply cx_is; first | fail) | (apply cx_do (i := 0) rfl; first | fail)
      | (apply ab_i; intro bl) | (apply as_i; intro va vk vc hva) | (apply av_i; intro v) | (apply ac_i; intro bl cap hcap)
      | apply bo_l | (apply nx_i <;> intro hnx) | (apply Ia.hit; assumption) | (apply Ia.miss; assumption)
      | (apply rt_is; exact rfl) | exact rt_w | (apply iv; assumption)
      | apply dw_q mixed hC hGL (by kernel_rfl) | (apply cq; assumption; (first | fail); exact rfl))
  all_goals (try conv => whnf)
  rcases hdc with ⟨hx, hb⟩ | ⟨hx, hb⟩ | ⟨hx, hb⟩ | ⟨hx, hb⟩ | ⟨hx, hb⟩ | ⟨hx, hb⟩ | ⟨hx, hb⟩ | ⟨hx, hb⟩
  all_goals (erw [hx])
  · repeat' (first
      | (conv => whnf); first
        | refine .w ?_ | refine .v ?_ | apply sc_true | apply sc_false
        | (first | apply sc_lt | apply sc_nlt | apply sc_eq | apply sc_neq | apply sc_nil | apply sc_nnil | apply sc_seq | apply sc_nseq) <;> (intro hb; try exact dd hb)
        | apply sc_not | apply sc_or | (apply sc_i <;> intro hb)
        | (apply bx_i; intro hbd) | (apply gt_i; assumption; exact rfl)
        | (apply cx_is; first | fail) | (apply cx_do (i := 0) rfl; first | fail)
        | (apply ab_i; intro bl) | (apply as_i; intro va vk vc hva) | (apply av_i; intro v) | (apply ac_i; intro bl cap hcap)
        | apply bo_l | (apply nx_i <;> intro hnx) | (apply Ia.hit; assumption) | (apply Ia.miss; assumption)
        | (apply rt_is; exact rfl) | exact rt_w | (apply iv; assumption)
        | apply dw_q mixed hC hGL (by kernel_rfl) | (apply cq; assumption; (first | fail); exact rfl))
    all_goals (try conv => whnf)
    apply ch_r
    repeat' (first
      | (conv => whnf); first
        | refine .w ?_ | refine .v ?_ | apply sc_true | apply sc_false
        | (first | apply sc_lt | apply sc_nlt | apply sc_eq | apply sc_neq | apply sc_nil | apply sc_nnil | apply sc_seq | apply sc_nseq) <;> (intro hb; try exact dd hb)
        | apply sc_not | apply sc_or | (apply sc_i <;> intro hb)
        | (apply bx_i; intro hbd) | (apply gt_i; assumption; exact rfl)
        | (apply cx_is; first | fail) | (apply cx_do (i := 0) rfl; first | fail)
        | (apply ab_i; intro bl) | (apply as_i; intro va vk vc hva) | (apply av_i; intro v) | (apply ac_i; intro bl cap hcap)
        | apply bo_l | (apply nx_i <;> intro hnx) | (apply Ia.hit; assumption) | (apply Ia.miss; assumption)
        | (apply rt_is; exact rfl) | exact rt_w | (apply iv; assumption)
        | apply dw_q mixed hC hGL (by kernel_rfl) | (apply cq; assumption; (first | fail); exact rfl))
    all_goals (try conv => whnf)
    apply ch_r
    repeat' (first
      | (conv => whnf); first
        | refine .w ?_ | refine .v ?_ | apply sc_true | apply sc_false
        | (first | apply sc_lt | apply sc_nlt | apply sc_eq | apply sc_neq | apply sc_nil | apply sc_nnil | apply sc_seq | apply sc_nseq) <;> (intro hb; try exact dd hb)
        | apply sc_not | apply sc_or | (apply sc_i <;> intro hb)
        | (apply bx_i; intro hbd) | (apply gt_i; assumption; exact rfl)
        | (apply cx_is; first | fail) | (apply cx_do (i := 0) rfl; first | fail)
        | (apply ab_i; intro bl) | (apply as_i; intro va vk vc hva) | (apply av_i; intro v) | (apply ac_i; intro bl cap hcap)
        | apply bo_l | (apply nx_i <;> intro hnx) | (apply Ia.hit; assumption) | (apply Ia.miss; assumption)
        | (apply rt_is; exact rfl) | exact rt_w | (apply iv; assumption)
        | apply dw_q mixed hC hGL (by kernel_rfl) | (apply cq; assumption; (first | fail); exact rfl))
    all_goals (try conv => whnf)
    apply ch_r
    repeat' (first
      | (conv => whnf); first
        | refine .w ?_ | refine .v ?_ | apply sc_true | apply sc_false
        | (first | apply sc_lt | apply sc_nlt | apply sc_eq | apply sc_neq | apply sc_nil | apply sc_nnil | apply sc_seq | apply sc_nseq) <;> (intro hb; try exact dd hb)
        | apply sc_not | apply sc_or | (apply sc_i <;> intro hb)
        | (apply bx_i; intro hbd) | (apply gt_i; assumption; exact rfl)
        | (apply cx_is; first | fail) | (apply cx_do (i := 0) rfl; first | fail)
        | (apply ab_i; intro bl) | (apply as_i; intro va vk vc hva) | (apply av_i; intro v) | (apply ac_i; intro bl cap hcap)
        | apply bo_l | (apply nx_i <;> intro hnx) | (apply Ia.hit; assumption) | (apply Ia.miss; assumption)
        | (apply rt_is; exact rfl) | exact rt_w | (apply iv; assumption)
        | apply dw_q mixed hC hGL (by kernel_rfl) | (apply cq; assumption; (first | fail); exact rfl))
    all_goals (try conv => whnf)
    clear hx
    refine tup2 ?_
    refine rune_bad h0 ?_ (xx_mask _) rfl
    generalize hz : nextS s = z
    unfold nextS contAt mayN cp2 cp3 cp4 at hz
    try simp only [show Int.toNat 0 = 0 from rfl, show Int.toNat 1 = 1 from rfl, show Int.toNat (1 + 1) = 2 from rfl, show Int.toNat (1 + 1 + 1) = 3 from rfl] at *
    generalize byteAt s 0 = b0 at *
    generalize byteAt s 1 = b1 at *
    generalize byteAt s 2 = b2 at *
    generalize byteAt s 3 = b3 at *
    generalize s.length = l at *
    repeat' (split at hz; try (exfalso; omega))
    all_goals (try subst z)
    all_goals (first
      | exact ⟨rfl, rfl⟩
      | (simp only [Bool.and_eq_true, Bool.or_eq_true, decide_eq_true_eq, beq_iff_eq] at *; first | (exfalso; omega) | omega))
  all_goals (repeat' (first
               | (conv => whnf); first
                 | refine .w ?_ | refine .v ?_ | apply sc_true | apply sc_false
                 | (first | apply sc_lt | apply sc_nlt | apply sc_eq | apply sc_neq | apply sc_nil | apply sc_nnil | apply sc_seq | apply sc_nseq) <;> (intro hb; try exact dd hb)
                 | apply sc_not | apply sc_or | (apply sc_i <;> intro hb)
                 | (apply bx_i; intro hbd) | (apply gt_i; assumption; exact rfl)
                 | (apply cx_is; first | fail) | (apply cx_do (i := 0) rfl; first | fail)
                 | (apply ab_i; intro bl) | (apply as_i; intro va vk vc hva) | (apply av_i; intro v) | (apply ac_i; intro bl cap hcap)
                 | apply bo_l | (apply nx_i <;> intro hnx) | (apply Ia.hit; assumption) | (apply Ia.miss; assumption)
                 | (apply rt_is; exact rfl) | exact rt_w | (apply iv; assumption)
                 | apply dw_q mixed hC hGL (by kernel_rfl) | (apply cq; assumption; (first | fail); exact rfl))
             all_goals (try conv => whnf))
  all_goals (clear hx; refine tup2 ?_)
  all_goals (first
    | (refine rune_bad h0 ?_ rfl rfl
       generalize hz : nextS s = z
       unfold nextS contAt mayN cp2 cp3 cp4 at hz
       try simp only [show Int.toNat 0 = 0 from rfl, show Int.toNat 1 = 1 from rfl, show Int.toNat (1 + 1) = 2 from rfl, show Int.toNat (1 + 1 + 1) = 3 from rfl] at *
       generalize byteAt s 0 = b0 at *
       generalize byteAt s 1 = b1 at *
       generalize byteAt s 2 = b2 at *
       generalize byteAt s 3 = b3 at *
       generalize s.length = l at *
       repeat' (split at hz; try (exfalso; omega))
       all_goals (try subst z)
       all_goals (first
         | exact ⟨rfl, rfl⟩
         | (simp only [Bool.and_eq_true, Bool.or_eq_true, decide_eq_true_eq, beq_iff_eq] at *; first | (exfalso; omega) | omega))
       done)
    | (refine rune_ok h0 ?_ (by decide)
       generalize hz : nextS s = z
       unfold nextS contAt mayN cp2 cp3 cp4 at hz
       try simp only [show Int.toNat 0 = 0 from rfl, show Int.toNat 1 = 1 from rfl, show Int.toNat (1 + 1) = 2 from rfl, show Int.toNat (1 + 1 + 1) = 3 from rfl] at *
       generalize byteAt s 0 = b0 at *
       generalize byteAt s 1 = b1 at *
       generalize byteAt s 2 = b2 at *
       generalize byteAt s 3 = b3 at *
       generalize s.length = l at *
       repeat' (split at hz; try (exfalso; omega))
       all_goals (try subst z)
       all_goals (first
         | exact ⟨rfl, rfl⟩
         | (simp only [Bool.and_eq_true, Bool.or_eq_true, decide_eq_true_eq, beq_iff_eq] at *; first | (exfalso; omega) | omega))))
theorem dec_rune {G : Glo} (hGL : GloAll G utfTy) (s : List UInt8) :
    FnIs Tryz.prog G 73 [.str s] (.tuple [.int .i32 ((runeS s).1 : Int), .int .i64 ((runeS s).2 : Int)]) := by
  refine fn_x Tryz.func73 Tryz.call73 rfl rfl rfl rfl hGL ?_
  intro C hC
  by_cases h0 : s.length = 0 ∨ 128 ≤ byteAt s 0
  · have hd := dec_slow (G := G) hGL s h0
    by_cases h1 : s.length = 0
    all_goals (repeat' (first
                 | (conv => whnf); first
                   | refine .w ?_ | refine .v ?_ | apply sc_true | apply sc_false
                   | (first | apply sc_lt | apply sc_nlt | apply sc_eq | apply sc_neq | apply sc_nil | apply sc_nnil | apply sc_seq | apply sc_nseq) <;> (intro hb; try exact dd hb)
                   | apply sc_not | apply sc_or | (apply sc_i <;> intro hb)
                   | (apply bx_i; intro hbd) | (apply gt_i; assumption; exact rfl)
                   | (apply cx_is; first | exact hd) | (apply cx_do (i := 0) rfl; first | exact hd)
                   | (apply ab_i; intro bl) | (apply as_i; intro va vk vc hva) | (apply av_i; intro v) | (apply ac_i; intro bl cap hcap)
                   | apply bo_l | (apply nx_i <;> intro hnx) | (apply Ia.hit; assumption) | (apply Ia.miss; assumption)
                   | (apply rt_is; exact rfl) | exact rt_w | (apply iv; assumption)
                   | apply dw_q mixed hC hGL (by kernel_rfl) | (apply cq; assumption; (first | exact hd); exact rfl))
               all_goals (try conv => whnf))
    all_goals (exfalso; simp only [Int.toNat_zero] at *; omega)
  · repeat' (first
      | (conv => whnf); first
        | refine .w ?_ | refine .v ?_ | apply sc_true | apply sc_false
        | (first | apply sc_lt | apply sc_nlt | apply sc_eq | apply sc_neq | apply sc_nil | apply sc_nnil | apply sc_seq | apply sc_nseq) <;> (intro hb; try exact dd hb)
        | apply sc_not | apply sc_or | (apply sc_i <;> intro hb)
        | (apply bx_i; intro hbd) | (apply gt_i; assumption; exact rfl)
        | (apply cx_is; first | fail) | (apply cx_do (i := 0) rfl; first | fail)
        | (apply ab_i; intro bl) | (apply as_i; intro va vk vc hva) | (apply av_i; intro v) | (apply ac_i; intro bl cap hcap)
        | apply bo_l | (apply nx_i <;> intro hnx) | (apply Ia.hit; assumption) | (apply Ia.miss; assumption)
        | (apply rt_is; exact rfl) | exact rt_w | (apply iv; assumption)
        | apply dw_q mixed hC hGL (by kernel_rfl) | (apply cq; assumption; (first | fail); exact rfl))
    all_goals (try conv => whnf)
    refine tup2 ?_
    refine rune_ok (by omega) ?_ (by decide)
    generalize hz : nextS s = z
    unfold nextS contAt mayN cp2 cp3 cp4 at hz
    try simp only [show Int.toNat 0 = 0 from rfl, show Int.toNat 1 = 1 from rfl, show Int.toNat (1 + 1) = 2 from rfl, show Int.toNat (1 + 1 + 1) = 3 from rfl] at *
    generalize byteAt s 0 = b0 at *
    generalize byteAt s 1 = b1 at *
    generalize byteAt s 2 = b2 at *
    generalize byteAt s 3 = b3 at *
    generalize s.length = l at *
    repeat' (split at hz; try (exfalso; omega))
    all_goals (try subst z)
    all_goals (first
      | exact ⟨rfl, rfl⟩
      | (simp only [Bool.and_eq_true, Bool.or_eq_true, decide_eq_true_eq, beq_iff_eq] at *; first | (exfalso; omega) | omega))
end Go.Proofs.YtglapkioagenaaaGreatDoor
namespace Go.Proofs.YtglapkioagenaaaGreatDoor
open Go
set_option maxRecDepth 20000
set_option maxHeartbeats 4000000
set_option linter.unusedSimpArgs false
set_option linter.unusedVariables false
attribute [local irreducible] AWp AOps byteAt SrcOK OrOk GloAll FnSpec
attribute [local irreducible] nextS badI badS stepS rngR ownB
attribute [local irreducible] firstTab runeS
theorem nextS_facts (s : List UInt8) : ((nextS s).2 = 0 → (nextS s).1 = 0) ∧ ((nextS s).2 = 1 → (nextS s).1 < 128) ∧ (s.length = 0 → (nextS s).2 = 0) := by
  refine ⟨?_, ?_, ?_⟩
  · unfold nextS; (repeat' split) <;> simp
  · unfold nextS; (repeat' split) <;> simp; omega
  · intro h; unfold nextS; simp [h]
theorem rune_next (s : List UInt8) : (((nextS s).2 : Int) = 0 → ((runeS s).2 : Int) = 0 ∧ s.length = 0 ∨ ((runeS s).1 : Int) = 65533 ∧ ((runeS s).2 : Int) = 1) ∧ (((nextS s).2 : Int) ≠ 0 → ((runeS s).1 : Int) = (nextS s).1 ∧ ((runeS s).2 : Int) = (nextS s).2) := by
  have hf := nextS_facts s
  unfold runeS
  by_cases h0 : s.length = 0
  · rw [if_pos h0]
    refine ⟨fun _ => .inl ⟨rfl, h0⟩, fun h => absurd (hf.2.2 h0) (by omega)⟩
  · rw [if_neg h0]
    by_cases h1 : (nextS s).2 = 0
    · rw [if_pos h1]
      exact ⟨fun _ => .inr ⟨rfl, rfl⟩, fun h => absurd h1 (by omega)⟩
    · rw [if_neg h1]
      exact ⟨fun h => absurd h (by omega), fun _ => ⟨rfl, rfl⟩⟩
theorem ref_Next {G : Glo} (hU : GloAll G utfTy) (s : List UInt8) :
    FnIs Tryz.prog G 56 [.str s] (.tuple [.int .i64 ((nextS s).1 : Int), .int .i64 ((nextS s).2 : Int)]) := by
  have hGL : GloAll G [] := gloAll_nil
  refine fn_x Tryz.func56 Tryz.call56 rfl rfl rfl rfl hGL ?_
  intro C hC
  have hd := dec_rune (G := G) hU s
  have hn := nextS_le s
  have hf := nextS_facts s
  have hr := rune_next s
  have hk : ((runeS s).1 : Int) ≤ 1114111 := by
    by_cases h : (nextS s).2 = 0
    · unfold runeS; rw [if_pos h]; split <;> decide
    · omega
  repeat' (first
    | (conv => whnf); first
      | refine .w ?_ | refine .v ?_ | apply sc_true | apply sc_false
      | (first | apply sc_lt | apply sc_nlt | apply sc_eq | apply sc_neq | apply sc_nil | apply sc_nnil | apply sc_seq | apply sc_nseq) <;> (intro hb; try exact dd hb)
      | apply sc_not | apply sc_or | (apply sc_i <;> intro hb)
      | (apply bx_i; intro hbd) | (apply gt_i; assumption; exact rfl)
      | (apply cx_is; first | exact hd) | (apply cx_do (i := 0) rfl; first | exact hd)
      | (apply ab_i; intro bl) | (apply as_i; intro va vk vc hva) | (apply av_i; intro v) | (apply ac_i; intro bl cap hcap)
      | apply bo_l | (apply nx_i <;> intro hnx) | (apply Ia.hit; assumption) | (apply Ia.miss; assumption)
      | (apply rt_is; exact rfl) | exact rt_w | (apply iv; assumption)
      | apply dw_q mixed hC hGL (by kernel_rfl) | (apply cq; assumption; (first | exact hd); exact rfl))
  all_goals (try conv => whnf)
  all_goals (refine tup2 ?_; omega)
theorem ref_Bad {G : Glo} (hU : GloAll G utfTy) (s : List UInt8) (hl : s.length ≤ 9223372036854775807) : FnIs Tryz.prog G 40 [.str s] (.int .i64 (badI s)) := by
  have hGL : GloAll G [] := gloAll_nil
  refine fn_x Tryz.func40 Tryz.call40 rfl rfl rfl rfl hGL ?_
  intro C hC
  have hle := fun k => nextS_le (s.drop k)
  have hN := fun t => ref_Next (G := G) hU t
  repeat' (first
    | (conv => whnf); first
      | refine .w ?_ | refine .v ?_ | apply sc_true | apply sc_false
      | (first | apply sc_lt | apply sc_nlt | apply sc_eq | apply sc_neq | apply sc_nil | apply sc_nnil | apply sc_seq | apply sc_nseq) <;> (intro hb; try exact dd hb)
      | apply sc_not | apply sc_or | (apply sc_i <;> intro hb)
      | (apply bx_i; intro hbd) | (apply gt_i; assumption; exact rfl)
      | (apply cx_is; first | exact hN _) | (apply cx_do (i := 0) rfl; first | exact hN _)
      | (apply ab_i; intro bl) | (apply as_i; intro va vk vc hva) | (apply av_i; intro v) | (apply ac_i; intro bl cap hcap)
      | apply bo_l | (apply nx_i <;> intro hnx) | (apply Ia.hit; assumption) | (apply Ia.miss; assumption)
      | (apply rt_is; exact rfl) | exact rt_w | (apply iv; assumption)
      | apply dw_q mixed hC hGL (by kernel_rfl) | (apply cq; assumption; (first | exact hN _); exact rfl))
  all_goals (try conv => whnf)
  refine lp hC hGL (fun (i : Nat) => [(0, .str s), (7, .own 0 (.pointer (some ⟨bl, 0, none⟩)))]) (fun i => [.iter bl s i]) (fun i => i ≤ s.length ∧ badS s = (badS (s.drop i)).map (· + i)) (fun i => s.length - i) 0 ?_ env_w rfl ?_
  · exact ⟨Nat.zero_le _, by simp⟩
  rintro i ⟨hi, hb0⟩
  have hn := hle i
  rw [List.length_drop] at hn
  repeat' (first
    | (conv => whnf); first
      | refine .w ?_ | refine .v ?_ | apply sc_true | apply sc_false
      | (first | apply sc_lt | apply sc_nlt | apply sc_eq | apply sc_neq | apply sc_nil | apply sc_nnil | apply sc_seq | apply sc_nseq) <;> (intro hb; try exact dd hb)
      | apply sc_not | apply sc_or | (apply sc_i <;> intro hb)
      | (apply bx_i; intro hbd) | (apply gt_i; assumption; exact rfl)
      | (apply cx_is; first | exact hN _) | (apply cx_do (i := 0) rfl; first | exact hN _)
      | (apply ab_i; intro bl) | (apply as_i; intro va vk vc hva) | (apply av_i; intro v) | (apply ac_i; intro bl cap hcap)
      | apply bo_l | (apply nx_i <;> intro hnx) | (apply Ia.hit; assumption) | (apply Ia.miss; assumption)
      | (apply rt_is; exact rfl) | exact rt_w | (apply iv; assumption)
      | apply dw_q mixed hC hGL (by kernel_rfl) | (apply cq; assumption; (first | exact hN _); exact rfl))
  all_goals (try conv => whnf)
  · apply rt_is
    refine congrArg (AVal.int .i64) ?_
    have h1 := badS_step (s.drop i) (by rw [List.length_drop]; omega)
    rw [if_pos (by omega)] at h1
    rw [h1] at hb0
    simp only [badI, hb0, Option.map_some, Nat.zero_add]
  · have h1 := badS_step (s.drop i) (by rw [List.length_drop]; omega)
    rw [if_neg (by omega)] at h1
    have h2 : stepS (s.drop i) = (nextS (s.drop i)).2 := by unfold stepS; rw [if_neg (by omega)]
    refine nxt (i + stepS (s.drop i)) ⟨by omega, ?_⟩ (by omega) ⟨rfl, rfl, trivial⟩ rfl
    rw [hb0, h1, List.drop_drop, h2]
    cases badS (s.drop (i + (nextS (s.drop i)).2)) <;> simp <;> omega
  · apply rt_is
    refine congrArg (AVal.int .i64) ?_
    rw [badS_nil (s.drop i) (by rw [List.length_drop]; omega)] at hb0
    simp only [badI, hb0, Option.map_none]
end Go.Proofs.YtglapkioagenaaaGreatDoor
namespace Go.Proofs.YtglapkioagenaaaGreatDoor
open Go Go.RowKit
theorem hdC_f {c : Int} : hdC false c = true ↔ (c < 32 ∧ c ≠ 9) ∨ c = 127 := by simp [hdC]
theorem hdB_no {b : Bool} {s : List UInt8} {i : Nat} (hi : i < s.length) (h : hdC b (byteAt s i : Int) = true) (hb : ∀ j, j < i → hdC b (byteAt s j : Int) = false) : hdB b s = false := by
  unfold hdB
  rw [fstB_at hi h hb]
  exact decide_eq_false (by omega)
theorem hdB_end {b : Bool} {s : List UInt8} {i : Nat} (hi : s.length ≤ i) (hb : ∀ j, j < i → hdC b (byteAt s j : Int) = false) : hdB b s = ltB (badI s) 0 := by
  unfold hdB
  rw [fstB_none (fun j hj => hb j (by omega)), Bool.eq_iff_iff, ltB_t]
  simp
set_option maxRecDepth 20000
set_option maxHeartbeats 4000000
set_option linter.unusedSimpArgs false
set_option linter.unusedVariables false
attribute [local irreducible] AWp AOps byteAt SrcOK OrOk GloAll FnSpec
attribute [local irreducible] hdC hdB badI
theorem ref_control {G : Glo} (c : Int) : FnIs Tryz.prog G 41 [.int .u8 c] (.bool (hdC false c)) := by
  have hGL : GloAll G [] := gloAll_nil
  refine fn_x Tryz.func41 Tryz.call41 rfl rfl rfl rfl hGL ?_
  intro C hC
  refine xw ?_
  repeat' (first | exact Le.n | refine Lc.mk ?_ ?_)
  all_goals intros
  all_goals (apply rt_is; refine congrArg AVal.bool ?_)
  all_goals (rw [Bool.eq_iff_iff, hdC_f]; simp only [eqB_t, reduceCtorEq, true_iff, false_iff]; omega)
end Go.Proofs.YtglapkioagenaaaGreatDoor
namespace Go.Proofs.YtglapkioagenaaaGreatDoor
open Go Go.RowKit
theorem count_one {G : Glo} (s : List UInt8) (c : UInt8) : FnIs Tryz.prog G 154 [.str s, .str [c]] (.int .i64 (s.countP (· == c) : Nat)) := by
  refine fnis_of_calls rfl Tryz.call154 ?_
  rintro R args ⟨x, t, e, hx, y, t', e', hy, rfl⟩ w hG hs
  obtain rfl := rel_str.1 hx
  obtain rfl := rel_str.1 hy
  subst e'
  obtain rfl := arr_of e
  refine (Tryz.strings_Count_one ⟨s.toArray⟩ c w).mono ?_
  rintro e w' ⟨rfl, rfl⟩
  exact ⟨by simp [AVal.conc, Lib.countByte, List.count], Below.refl _ _⟩
end Go.Proofs.YtglapkioagenaaaGreatDoor
