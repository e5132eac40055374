/- Parts of the proof of valueWrites_card: Rva, Whc, Whd, Whi, Vlh, Lu, Cno, Tjk, Syn, Onc, Ond, Esl. -/
import Derived.Laws.LoneSync
import Derived.Test.YtgjckfphallmeaaGreatDoorBad
import Derived.Test.YtgjckfphallmeaaGreatDoorBag
import Derived.Test.YtgjckfphallmeaaGreatDoorBaf
import Derived.Test.YtgjckfphallmeaaGreatDoorBae
namespace Go.Proofs.YtgjckfphallmeaaGreatDoor
open Go Go.RowKit
set_option linter.unusedSectionVars false
section
variable {P : Program} [Tab P] {C : Ctx} {n : Nat} {H : Heap} {env : Env} {x y : Operand} {T : TypeId} {xT : TI} {e : TypeId} {xe : TI}
/-- An element of an array that is a value. -/
theorem rv_indexA {len i : Nat} {k0 : IntKind} {cs : List AVal} {av : AVal} (hx : evalA env x = some (.agg cs)) (hy : evalA env y = some (.int k0 (i : Int))) (h1 : tab P T = some xT) (h2 : xT.desc = .array len e) (h3 : tab P e = some xe) (h4 : xe.size = 1) (h5 : descAgg xe.desc = false) (hi : i < len) (hc : cs[i]? = some av) (ha : av.isAgg = false) :
    RunV P C H env (.index T x y) av := by
  intro R ρ w hm hf dst t p af g
  have hr := hf _ _ hx
  obtain ⟨vs, hvs⟩ : ∃ vs, ρ x = .agg vs := by
    have := hr.2
    cases hv : ρ x <;> rw [hv] at this <;> simp [AVal.isAgg, vAgg] at this
    exact ⟨_, rfl⟩
  rw [hvs] at hr
  obtain ⟨v, hv, hrv⟩ := relL_get (R := R) (cs := cs) (vs := vs.toList) hr.1 hc
  refine ⟨v, ?_, relC_rel hrv ha⟩
  have hv' : vs[i]? = some v := by simpa using hv
  have hn : (0 : Int) ≤ i ∧ (i : Int) < len := ⟨by omega, by omega⟩
  have hil : i < vs.size := by
    rcases Nat.lt_or_ge i vs.size with h | h
    · exact h
    · rw [Array.getElem?_eq_none h] at hv'; cases hv'
  simp only [execOp, hvs, rel_int.1 (hf _ _ hy), Instr.index, asIntOf, Sem.run_bind, Sem.run_pure, Result.andThen_ok, tab_run_und h1, h2, hn, part, Int.toNat_natCast]
  simp [tab_run_size h3, tab_run_agg h3, h5, h4, hv']
end
end Go.Proofs.YtgjckfphallmeaaGreatDoor
namespace Go.Proofs.YtgjckfphallmeaaGreatDoor
open Go Go.RowKit
set_option maxRecDepth 20000
set_option maxHeartbeats 8000000
set_option linter.unusedSimpArgs false
set_option linter.unusedVariables false
attribute [local irreducible] AWp AOps SrcOK OrOk GloAll FnSpec
theorem four_len (n : Int) : (fourS n).length = 4 := rfl
theorem two_len (n : Int) : (twoS n).length = 2 := rfl
theorem zpr_len (n : Int) : (zprS n).length ≤ 100 := by
  unfold zprS
  (repeat' split) <;> simp [two_len]
/-- In every case of what is told. -/
theorem tl_cases {t : Stm} (hf : t.frm = true) {P : Prop} (h : okN (whN (tlB t.y) (tlB t.m) (tlB t.d)) (whN (tlB t.h) (tlB t.i) (tlB t.s)) = true → (t.z = true → tlB t.h = true) → P) : P := by
  unfold Stm.frm at hf
  rw [Bool.and_eq_true] at hf
  refine h hf.1 fun hz => ?_
  have := hf.2
  rw [hz] at this
  exact this
theorem okN_l {d t : Int} (h : okN d t = true) : 0 ≤ d := by
  unfold okN at h
  exact (of_decide_eq_true h).1
theorem okN_r {d t : Int} (h : okN d t = true) : 0 ≤ t := by
  unfold okN at h
  exact (of_decide_eq_true h).2.1
theorem date_len (t : Stm) : (dateS (tlB t.y) (tlB t.m) (tlB t.d) t.y t.m t.d).length ≤ 8 := by
  cases tlB t.y <;> cases tlB t.m <;> cases tlB t.d <;> simp [dateS, fourS, twoS, bytesI]
theorem time_len (t : Stm) : (timeS (tlB t.h) (tlB t.i) (tlB t.s) t.h t.i t.s).length ≤ 8 := by
  cases tlB t.h <;> cases tlB t.i <;> cases tlB t.s <;> simp [timeS, twoS, bytesI]
/-- A stamp in its memory. -/
def Stm.R (t : Stm) : List AVal := [.int .i64 t.y, .int .i64 t.m, .int .i64 t.d, .int .i64 t.h, .int .i64 t.i, .int .i64 t.s, .bool t.z, .int .i64 t.o]
attribute [local irreducible] fourS twoS zprS
theorem when_Print_ok {G : Glo} {m : Int} (hU : GloAll G (maxTy m)) (t : Stm) (hf : t.frm = true) (hr : t.rng = true) (hE : t.E = .none) : FnIs Tryz.prog G 18 [t.A] (.tuple [.str t.txt, Err.none.A]) := by
  have h0 := when_Right (G := G) hU t
  rw [hE] at h0
  have h1 := when_form (G := G) t.y t.m t.d
  have h2 := when_form (G := G) t.h t.i t.s
  have h3 := zone_Print (G := G) t.o
  have hc := Tryz.call47
  have k1 := fun n a b => when_four (G := G) n a b
  have k2 := fun n a b => when_two (G := G) n a b
  have l1 := four_len t.y
  have l2 := two_len t.m
  have l3 := two_len t.d
  have l4 := two_len t.h
  have l5 := two_len t.i
  have l6 := two_len t.s
  have l7 := zpr_len t.o
  have r := hr
  unfold Stm.rng at r
  simp only [Bool.and_eq_true, witB_t] at r
  obtain ⟨r1, r2, r3, r4, r5, r6, -⟩ := r
  have r3' : t.d = -1 ∨ 1 ≤ t.d ∧ t.d ≤ 31 := by
    refine r3.imp_right fun h => ⟨h.1, ?_⟩
    have := h.2
    unfold Stm.day dayN at this
    (repeat' split at this) <;> omega
  clear r3
  have hx : t.txt = dateS (tlB t.y) (tlB t.m) (tlB t.d) t.y t.m t.d ++ timeS (tlB t.h) (tlB t.i) (tlB t.s) t.h t.i t.s ++ (if t.z then zprS t.o else []) := rfl
  have hD := date_len t
  have hT := time_len t
  refine tl_cases hf fun k kz => ?_
  have hGL : GloAll G [] := gloAll_nil
  refine fn_a Tryz.func18 Tryz.call18 rfl rfl rfl rfl ?_
  intro C hC
  refine cut hC hGL [(1, .rop t.R 0)] [] True ?_ fun _ => ?_
  · exact xw0
  refine cut hC hGL [(1, .rop t.R 0)] [] True ?_ fun _ => ?_
  · exact xw0
  refine cut hC hGL [(1, .rop t.R 0), (5, .str [])] [] True ?_ fun _ => ?_
  · exact xw0
  refine cut hC hGL [(1, .rop t.R 0), (5, .str (dateS (tlB t.y) (tlB t.m) (tlB t.d) t.y t.m t.d))] [] True ?_ fun _ => ?_
  · clear h0 h2 h3 hx hD hT kz l4 l5 l6 l7 r4 r5 r6
    cases e1 : tlB t.y
    all_goals cases e2 : tlB t.m
    all_goals cases e3 : tlB t.d
    all_goals rw [e1, e2, e3] at k h1
    all_goals try exact absurd (okN_l k) (by decide)
    all_goals clear k
    all_goals simp only [fmS, fmB, if_true, Bool.false_eq_true, if_false] at h1
    all_goals simp only [tlB_t, tlB_f] at e1 e2 e3
    all_goals exact xw0
  generalize dateS (tlB t.y) (tlB t.m) (tlB t.d) t.y t.m t.d = D at *
  clear h0 h1 l1 l2 l3 r1 r2 r3'
  refine cut hC hGL [(1, .rop t.R 0), (5, .str D), (6, .str (fmS (tlB t.h) (tlB t.i) (tlB t.s)))] [] True ?_ fun _ => ?_
  · exact xw0
  refine cut hC hGL [(1, .rop t.R 0), (5, .str D), (6, .str (fmS (tlB t.h) (tlB t.i) (tlB t.s)))] [] (fmS (tlB t.h) (tlB t.i) (tlB t.s) ≠ [45, 45, 45]) ?_ fun hn => ?_
  · refine xw ?_
    repeat' (first | exact Le.n | refine Lc.mk ?_ ?_)
    all_goals intros
    all_goals first
      | contradiction
      | (apply rt_is; refine congrArg (fun l => AVal.tuple [.str l, Err.none.A]) ?_; have hq := (show fmS (tlB t.h) (tlB t.i) (tlB t.s) = [45, 45, 45] by assumption); rw [hx]; revert hq kz; cases tlB t.h <;> cases tlB t.i <;> cases tlB t.s <;> simp [fmS, fmB, timeS] <;> (intro a b; rw [a] at b; cases b))
  refine cut hC hGL [(1, .rop t.R 0), (5, .str (D ++ [84])), (6, .str (fmS (tlB t.h) (tlB t.i) (tlB t.s)))] [] True ?_ fun _ => ?_
  · exact xw0
  refine cut hC hGL [(1, .rop t.R 0), (5, .str (D ++ [84])), (6, .str (fmS (tlB t.h) (tlB t.i) (tlB t.s))), (7, .bool false)] [] True ?_ fun _ => ?_
  · exact xw0
  refine cuty hC hGL (fun q : List UInt8 => [(1, .rop t.R 0), (5, .str q)]) (fun _ => []) (fun q => q = D ++ timeS (tlB t.h) (tlB t.i) (tlB t.s) t.h t.i t.s) ?_ fun q hq => ?_
  · clear hx kz hT h3
    cases e4 : tlB t.h
    all_goals cases e5 : tlB t.i
    all_goals cases e6 : tlB t.s
    all_goals rw [e4, e5, e6] at k hn
    all_goals try exact absurd (okN_r k) (by decide)
    all_goals try exact absurd rfl hn
    all_goals clear k hn
    all_goals simp only [tlB_t, tlB_f] at e4 e5 e6
    all_goals simp only [fmS, fmB, if_true, Bool.false_eq_true, if_false]
    all_goals
      refine xw1 ?_
      refine rds hC hGL 4 ?_
      refine xw1 ?_
      intros
      refine op1_run hC hGL (rv_indexA (i := 0) rfl rfl rfl rfl rfl rfl rfl (show _ < 3 by decide) rfl rfl) rfl rfl ?_
      refine xw1 ?_
      intros
      refine op1_run hC hGL (rv_indexA (i := 1) rfl rfl rfl rfl rfl rfl rfl (show _ < 3 by decide) rfl rfl) rfl rfl ?_
      refine xw1 ?_
      intros
      refine op1_run hC hGL (rv_indexA (i := 2) rfl rfl rfl rfl rfl rfl rfl (show _ < 3 by decide) rfl rfl) rfl rfl ?_
      refine xw1 ?_
      intros
      refine cy _ ?_
      simp only [timeS, List.append_assoc]
  subst hq
  refine cuty hC hGL (fun q : List UInt8 => [(1, .rop t.R 0), (5, .str q)]) (fun _ => []) (fun q => q = t.txt) ?_ fun q hq => ?_
  · rw [hx]
    refine xw ?_
    repeat' (first | exact Le.n | refine Lc.mk ?_ ?_)
    all_goals intros
    all_goals first
      | (refine cy _ ?_; rw [if_pos (by assumption)])
      | (refine cy _ ?_; rw [if_neg (by rw [show t.z = false by assumption]; decide), List.append_nil])
  subst hq
  exact aw_code hC hGL xw0
theorem when_Print {G : Glo} {m : Int} (hU : GloAll G (maxTy m)) (t : Stm) : FnIs Tryz.prog G 18 [t.A] (.tuple [.str t.T, t.E.A]) := by
  cases hf : t.frm with
  | true =>
    cases hr : t.rng with
    | true =>
      have hE : t.E = .none := by unfold Stm.E; rw [hf, hr]; rfl
      rw [hE, show t.T = t.txt by unfold Stm.T; rw [hf, hr]; rfl]
      exact when_Print_ok hU t hf hr hE
    | false =>
      have h0 := when_Right (G := G) hU t
      have hE : t.E = .errno 2 := by unfold Stm.E; rw [hf, hr]; rfl
      rw [hE] at h0 ⊢
      rw [show t.T = [] by unfold Stm.T; rw [hf, hr]; rfl]
      have hGL : GloAll G [] := gloAll_nil
      refine fn_x Tryz.func18 Tryz.call18 rfl rfl rfl rfl hGL ?_
      intro C hC
      repeat' (first
        | (conv => whnf); first
          | refine .w ?_ | refine .v ?_ | apply sc_true | apply sc_false
          | (first | apply sc_lt | apply sc_nlt | apply sc_eq | apply sc_neq | apply sc_nil | apply sc_nnil | apply sc_seq | apply sc_nseq) <;> (intro hb; try exact dd hb)
          | apply sc_not | apply sc_or | (apply sc_i <;> intro hb)
          | (apply bx_i; intro hbd) | (apply gt_i; assumption; exact rfl)
          | (apply cx_is; first | exact h0) | (apply cx_do (i := 0) rfl; first | exact h0)
          | (apply ab_i; intro bl) | (apply as_i; intro va vk vc hva) | (apply av_i; intro v) | (apply ac_i; intro bl cap hcap)
          | apply bo_l | (apply nx_i <;> intro hnx) | (apply Ia.hit; assumption) | (apply Ia.miss; assumption)
          | (apply rt_is; exact rfl) | exact rt_w | (apply iv; assumption)
          | apply dw_q mixed hC hGL (by kernel_rfl) | (apply cq; assumption; (first | exact h0); exact rfl))
      all_goals (try conv => whnf)
  | false =>
    have h0 := when_Right (G := G) hU t
    have hE : t.E = .errno 3 := by unfold Stm.E; rw [hf]; rfl
    rw [hE] at h0 ⊢
    rw [show t.T = [] by unfold Stm.T; rw [hf]; rfl]
    have hGL : GloAll G [] := gloAll_nil
    refine fn_x Tryz.func18 Tryz.call18 rfl rfl rfl rfl hGL ?_
    intro C hC
    repeat' (first
      | (conv => whnf); first
        | refine .w ?_ | refine .v ?_ | apply sc_true | apply sc_false
        | (first | apply sc_lt | apply sc_nlt | apply sc_eq | apply sc_neq | apply sc_nil | apply sc_nnil | apply sc_seq | apply sc_nseq) <;> (intro hb; try exact dd hb)
        | apply sc_not | apply sc_or | (apply sc_i <;> intro hb)
        | (apply bx_i; intro hbd) | (apply gt_i; assumption; exact rfl)
        | (apply cx_is; first | exact h0) | (apply cx_do (i := 0) rfl; first | exact h0)
        | (apply ab_i; intro bl) | (apply as_i; intro va vk vc hva) | (apply av_i; intro v) | (apply ac_i; intro bl cap hcap)
        | apply bo_l | (apply nx_i <;> intro hnx) | (apply Ia.hit; assumption) | (apply Ia.miss; assumption)
        | (apply rt_is; exact rfl) | exact rt_w | (apply iv; assumption)
        | apply dw_q mixed hC hGL (by kernel_rfl) | (apply cq; assumption; (first | exact h0); exact rfl))
    all_goals (try conv => whnf)
end Go.Proofs.YtgjckfphallmeaaGreatDoor
namespace Go.Proofs.YtgjckfphallmeaaGreatDoor
open Go Go.RowKit
def toldF (i : Nat) : List UInt8 := [[], [97], [97, 98], [97, 98, 99], [98], [98, 99], [99]].getD i []
def dateF (i : Nat) : List UInt8 := [[], [57, 57, 57, 57], [57, 57, 57, 57, 45, 57, 57], [57, 57, 57, 57, 57, 57, 57, 57], [45, 45, 57, 57], [45, 45, 57, 57, 57, 57], [45, 45, 45, 57, 57]].getD i []
def clkF (i : Nat) : List UInt8 := [[], [57, 57], [57, 57, 57, 57], [57, 57, 57, 57, 57, 57], [45, 57, 57], [45, 57, 57, 57, 57], [45, 45, 57, 57]].getD i []
def shapesF (i : Nat) : AVal := .agg [.str (toldF i), .str (dateF i), .str (clkF i)]
/-- The table of the reference. -/
def shapesTy : List (Nat × List AVal) := [(0, [.list 3 7 shapesF])]
set_option maxRecDepth 20000
set_option maxHeartbeats 8000000
set_option linter.unusedSimpArgs false
set_option linter.unusedVariables false
attribute [local irreducible] AWp AOps SrcOK OrOk GloAll FnSpec
theorem ref_which {G : Glo} (hGL : GloAll G shapesTy) (a b c : Int) : FnIs Tryz.prog G 62 [threeL a b c] (.int .i64 (whN (tlB a) (tlB b) (tlB c))) := by
  by_cases h1 : a = -1
  all_goals by_cases h2 : b = -1
  all_goals by_cases h3 : c = -1
  all_goals
    refine fn_x Tryz.func62 Tryz.call62 rfl rfl rfl rfl hGL ?_
    intro C hC
    repeat' (first
      | (conv => whnf); first
        | refine .w ?_ | refine .v ?_ | apply sc_true | apply sc_false
        | (first | apply sc_lt | apply sc_nlt | apply sc_eq | apply sc_neq | apply sc_nil | apply sc_nnil | apply sc_seq | apply sc_nseq) <;> (intro hb; try exact dd hb)
        | apply sc_not | apply sc_or | (apply sc_i <;> intro hb)
        | (apply bx_i; intro hbd) | (apply gt_i; assumption; exact rfl)
        | (apply cx_is; first | fail) | (apply cx_do (i := 0) rfl; first | fail)
        | (apply ab_i; intro bl) | (apply as_i; intro va vk vc hva) | (apply av_i; intro v) | (apply ac_i; intro bl cap hcap)
        | apply bo_l | (apply nx_i <;> intro hnx) | (apply Ia.hit; assumption) | (apply Ia.miss; assumption)
        | (apply rt_is; exact rfl) | exact rt_w | (apply iv; assumption)
        | apply dw_q mixed hC hGL (by kernel_rfl) | (apply cq; assumption; (first | fail); exact rfl))
    all_goals (try conv => whnf)
    refine rds hC hGL 4 ?_
    repeat' (first
      | (conv => whnf); first
        | refine .w ?_ | refine .v ?_ | apply sc_true | apply sc_false
        | (first | apply sc_lt | apply sc_nlt | apply sc_eq | apply sc_neq | apply sc_nil | apply sc_nnil | apply sc_seq | apply sc_nseq) <;> (intro hb; try exact dd hb)
        | apply sc_not | apply sc_or | (apply sc_i <;> intro hb)
        | (apply bx_i; intro hbd) | (apply gt_i; assumption; exact rfl)
        | (apply cx_is; first | fail) | (apply cx_do (i := 0) rfl; first | fail)
        | (apply ab_i; intro bl) | (apply as_i; intro va vk vc hva) | (apply av_i; intro v) | (apply ac_i; intro bl cap hcap)
        | apply bo_l | (apply nx_i <;> intro hnx) | (apply Ia.hit; assumption) | (apply Ia.miss; assumption)
        | (apply rt_is; exact rfl) | exact rt_w | (apply iv; assumption)
        | apply dw_q mixed hC hGL (by kernel_rfl) | (apply cq; assumption; (first | fail); exact rfl))
    all_goals (try conv => whnf)
    refine rds hC hGL 8 ?_
    repeat' (first
      | (conv => whnf); first
        | refine .w ?_ | refine .v ?_ | apply sc_true | apply sc_false
        | (first | apply sc_lt | apply sc_nlt | apply sc_eq | apply sc_neq | apply sc_nil | apply sc_nnil | apply sc_seq | apply sc_nseq) <;> (intro hb; try exact dd hb)
        | apply sc_not | apply sc_or | (apply sc_i <;> intro hb)
        | (apply bx_i; intro hbd) | (apply gt_i; assumption; exact rfl)
        | (apply cx_is; first | fail) | (apply cx_do (i := 0) rfl; first | fail)
        | (apply ab_i; intro bl) | (apply as_i; intro va vk vc hva) | (apply av_i; intro v) | (apply ac_i; intro bl cap hcap)
        | apply bo_l | (apply nx_i <;> intro hnx) | (apply Ia.hit; assumption) | (apply Ia.miss; assumption)
        | (apply rt_is; exact rfl) | exact rt_w | (apply iv; assumption)
        | apply dw_q mixed hC hGL (by kernel_rfl) | (apply cq; assumption; (first | fail); exact rfl))
    all_goals (try conv => whnf)
    all_goals (apply rt_is; simp only [tlB, h1, h2, h3, ne_eq, not_true_eq_false, not_false_eq_true, decide_true, decide_false]; rfl)
end Go.Proofs.YtgjckfphallmeaaGreatDoor
namespace Go.Proofs.YtgjckfphallmeaaGreatDoor
open Go Go.ChangeShapes Go.WideShapes
theorem cell_block {W : World} {a : Addr} {v : Value} (h : W.cell? a = some v) : ∃ b o C e fz, a = ⟨b, o, none⟩ ∧ W.heap[b]? = some (.cells C e fz) := by
  obtain ⟨b, o, sp⟩ := a
  unfold World.cell? at h
  dsimp only at h
  cases hW : W.heap[b]? with
  | none => rw [hW] at h; cases h
  | some ob =>
    cases ob with
    | cells C e fz =>
      rw [hW] at h
      cases sp with
      | some s => simp at h
      | none => exact ⟨b, o, C, e, fz, rfl, hW⟩
    | _ => rw [hW] at h; cases h
theorem add_none (b o i : Nat) : (⟨b, o, none⟩ : Addr).add i = ⟨b, o + i, none⟩ := by
  unfold Addr.add
  split
  · rename_i h; rw [h]; rfl
  · rfl
theorem cell_at {W : World} {b o : Nat} {C : Array Value} {e : TypeId} {fz : Nat × Nat} (hW : W.heap[b]? = some (.cells C e fz)) : W.cell? ⟨b, o, none⟩ = C.toList[o]? := by
  unfold World.cell?
  simp [hW]
/-- Cells read one after the other are a part of their block. -/
theorem cells_take {W : World} {base b o n : Nat} {C : Array Value} {e : TypeId} {fz : Nat × Nat} (hW : W.heap[b]? = some (.cells C e fz)) {cs : List Value} (h : W.cells? base ⟨b, o, none⟩ n = some cs) : (C.toList.drop o).take n = cs := by
  obtain ⟨_, hl, hi⟩ := World.cells?_some h
  have hx : ∀ i, i < n → C.toList[o + i]? = cs[i]? := fun i k => by
    have := hi i k
    rwa [add_none, cell_at hW] at this
  apply List.ext_getElem?
  intro i
  by_cases k : i < n
  · rw [List.getElem?_take_of_lt k, List.getElem?_drop, hx i k]
  · rw [List.getElem?_eq_none (by rw [List.length_take]; omega), List.getElem?_eq_none (by omega)]
theorem rel_struct3 {R : Seal} {x y z : List UInt8} {cs : List Value} {s0 s1 s2 : ByteArray} (h : cs = [.string s0, .string s1, .string s2]) (h0 : s0.data.toList = x) (h1 : s1.data.toList = y) (h2 : s2.data.toList = z) : RelC R (.agg [.str x, .str y, .str z]) cs := by
  subst h h0 h1 h2
  exact ⟨_, _, rfl, by rw [RelC, str_mk], _, _, rfl, by rw [RelC, str_mk], _, _, rfl, by rw [RelC, str_mk], rfl⟩
theorem three_of {α : Type} {l : List α} (h : l.length = 3) : ∃ a b c, l = [a, b, c] := by
  match l, h with
  | [a, b, c], _ => exact ⟨a, b, c, rfl⟩
theorem eight_of {α : Type} {l : List α} (h : l.length = 8) : ∃ a b c d e f g i, l = [a, b, c, d, e, f, g, i] := by
  match l, h with
  | [a, b, c, d, e, f, g, i], _ => exact ⟨a, b, c, d, e, f, g, i, rfl⟩
def shapeD {H : Type} (i : Nat) : DataW H := .agg [.lit (.string (toldF i)), .lit (.string (dateF i)), .lit (.string (clkF i))]
theorem shapes_laid {W : World} {laid : List (String × DataW Unit)} (hL : laidMetH Tryz.prog laid W) (hm : ("visitingcard/visitingcardref.shapes", Rows.laid_visitingcard_visitingcardref_shapes) ∈ laid) : SealedAt (sealBelow W W.heap.size) 0 0 [.list 3 7 shapesF] := by
  obtain ⟨C0, e0, fz0, fuel, p, hW0, hd⟩ := laid_at hL hm (by kernel_rfl) (g := 0) (t := 102) (by kernel_rfl) (by kernel_rfl)
  rcases Go.Deep.open_slice Tryz.underlying102 hd with ⟨_, hx⟩ | ⟨a, len, cap, m, n, D, Pl, hv, _, hl, _, hm2, hx, hi⟩
  · cases hx
  have e1 : (List.range 7).map (fun i => (shapeD i : DataW Unit)) = (List.range len).map D := by
    have := (DataW.slice.inj (Prod.mk.inj hx).1).1
    rw [← this]
    rfl
  have hlen : len = 7 := by
    have := congrArg List.length e1
    simpa using this.symm
  subst hlen
  have hD : ∀ i, i < 7 → D i = shapeD i := fun i k => by
    have h1 : ((List.range 7).map D)[i]? = some (D i) := by simp [k]
    have h2 : ((List.range 7).map (fun i => (shapeD i : DataW Unit)))[i]? = some (shapeD i) := by simp [k]
    rw [e1, h1] at h2
    exact Option.some.inj h2
  have hm7 : 7 ≤ m := by rw [hm2]; split <;> omega
  have hc3 : Tryz.prog.cellsOf 101 = 3 := by kernel_rfl
  have hc1 : Tryz.prog.cellsOf 9 = 1 := by kernel_rfl
  rw [hc3] at hi
  obtain ⟨c0, hc0, _⟩ := hi 0 (by omega)
  have hcell : ∃ v, W.cell? a = some v := by
    obtain ⟨_, h1, h2⟩ := World.cells?_some hc0
    have h3 := h2 0 (by decide)
    rw [Nat.zero_mul, show (a.add 0).add 0 = a from rfl, List.getElem?_eq_getElem (by omega)] at h3
    exact ⟨_, h3⟩
  obtain ⟨v, hv0⟩ := hcell
  obtain ⟨b, o, C, e, fz, rfl, hWb⟩ := cell_block hv0
  refine sealed_below (block_lt hW0) hW0 ?_
  rw [hv]
  refine ⟨_, _, rfl, ⟨some ⟨b, o, none⟩, cap, rfl, hl, .inr ⟨b, o, C, e, fz, rfl, ?_, fun i k => ?_⟩⟩, rfl⟩
  · unfold sealBelow
    rw [if_pos (block_lt hWb)]
    exact hWb
  · obtain ⟨cs, h1, h2⟩ := hi i (by omega)
    rw [add_none] at h1
    have h3 := cells_take hWb h1
    rw [h3]
    rw [hD i k] at h2
    obtain ⟨y0, y1, y2, n2, hy, hcl, g0, g1, g2⟩ := Go.Deep.trod_struct3 Tryz.underlying101 h2
    rw [hc3] at hcl
    obtain ⟨s0, q0, r0, _⟩ := DataW.trod_string Tryz.underlying9 g0
    obtain ⟨s1, q1, r1, _⟩ := DataW.trod_string Tryz.underlying9 g1
    obtain ⟨s2, q2, r2, _⟩ := DataW.trod_string Tryz.underlying9 g2
    have hy1 := (Prod.mk.inj hy).1
    rw [r0, r1, r2] at hy1
    unfold shapeD at hy1
    simp only [DataW.agg.injEq, List.cons.injEq, DataW.lit.injEq, Lit.string.injEq, and_true] at hy1
    refine rel_struct3 (s0 := s0) (s1 := s1) (s2 := s2) ?_ hy1.1.symm hy1.2.1.symm hy1.2.2.symm
    obtain ⟨u0, u1, u2, rfl⟩ := three_of hcl
    have q0 : ([u0, u1, u2].drop 0).take (Tryz.prog.cellsOf 9) = [.string s0] := q0
    have q1 : ([u0, u1, u2].drop 1).take (Tryz.prog.cellsOf 9) = [.string s1] := q1
    have q2 : ([u0, u1, u2].drop 2).take (Tryz.prog.cellsOf 9) = [.string s2] := q2
    rw [hc1] at q0 q1 q2
    simp at q0 q1 q2
    rw [q0, q1, q2]
/-- A stamp as an argument. -/
theorem rel_stamp {H : Type} {enc : TypeId × Value → H} {W : World} {base : Nat} {spare : Nat → Bool} {held : Bool} {R : Seal} {v : Value} {d : DataW H} {ps : List MemPlace} (h : DataW.Trod enc Tryz.prog W base spare held 24 v d ps) :
    ∃ t : Stm, Rel R t.A v := by
  obtain ⟨fuel, h⟩ := h
  obtain ⟨xs, n, _, hx, hl, hxl, hf⟩ := DataW.trod_struct Tryz.underlying24 h
  have hc : Tryz.prog.cellsOf 24 = 8 := by kernel_rfl
  have hci : Tryz.prog.cellsOf 3 = 1 := by kernel_rfl
  have hcb : Tryz.prog.cellsOf 4 = 1 := by kernel_rfl
  rw [hc] at hl
  have hxl : xs.length = 8 := hxl
  obtain ⟨x0, x1, x2, x3, x4, x5, x6, x7, rfl⟩ := eight_of hxl
  obtain ⟨u0, u1, u2, u3, u4, u5, u6, u7, hu⟩ := eight_of hl
  rw [hu] at hf
  have g0 : DataW.trod enc Tryz.prog W base spare held n 3 (([u0, u1, u2, u3, u4, u5, u6, u7].drop 0).take (Tryz.prog.cellsOf 3)) = some x0 := hf 0 _ rfl
  have g1 : DataW.trod enc Tryz.prog W base spare held n 3 (([u0, u1, u2, u3, u4, u5, u6, u7].drop 1).take (Tryz.prog.cellsOf 3)) = some x1 := hf 1 _ rfl
  have g2 : DataW.trod enc Tryz.prog W base spare held n 3 (([u0, u1, u2, u3, u4, u5, u6, u7].drop 2).take (Tryz.prog.cellsOf 3)) = some x2 := hf 2 _ rfl
  have g3 : DataW.trod enc Tryz.prog W base spare held n 3 (([u0, u1, u2, u3, u4, u5, u6, u7].drop 3).take (Tryz.prog.cellsOf 3)) = some x3 := hf 3 _ rfl
  have g4 : DataW.trod enc Tryz.prog W base spare held n 3 (([u0, u1, u2, u3, u4, u5, u6, u7].drop 4).take (Tryz.prog.cellsOf 3)) = some x4 := hf 4 _ rfl
  have g5 : DataW.trod enc Tryz.prog W base spare held n 3 (([u0, u1, u2, u3, u4, u5, u6, u7].drop 5).take (Tryz.prog.cellsOf 3)) = some x5 := hf 5 _ rfl
  have g6 : DataW.trod enc Tryz.prog W base spare held n 4 (([u0, u1, u2, u3, u4, u5, u6, u7].drop 6).take (Tryz.prog.cellsOf 4)) = some x6 := hf 6 _ rfl
  have g7 : DataW.trod enc Tryz.prog W base spare held n 3 (([u0, u1, u2, u3, u4, u5, u6, u7].drop 7).take (Tryz.prog.cellsOf 3)) = some x7 := hf 7 _ rfl
  rw [hci] at g0 g1 g2 g3 g4 g5 g7
  rw [hcb] at g6
  simp only [List.drop_zero, List.drop_succ_cons, List.take_succ_cons, List.take_zero] at g0 g1 g2 g3 g4 g5 g6 g7
  obtain ⟨n0, q0, _, _⟩ := DataW.trod_int Tryz.underlying3 g0
  obtain ⟨n1, q1, _, _⟩ := DataW.trod_int Tryz.underlying3 g1
  obtain ⟨n2, q2, _, _⟩ := DataW.trod_int Tryz.underlying3 g2
  obtain ⟨n3, q3, _, _⟩ := DataW.trod_int Tryz.underlying3 g3
  obtain ⟨n4, q4, _, _⟩ := DataW.trod_int Tryz.underlying3 g4
  obtain ⟨n5, q5, _, _⟩ := DataW.trod_int Tryz.underlying3 g5
  obtain ⟨n6, q6, _⟩ := DataW.trod_bool Tryz.underlying4 g6
  obtain ⟨n7, q7, _, _⟩ := DataW.trod_int Tryz.underlying3 g7
  refine ⟨⟨n0, n1, n2, n3, n4, n5, n6, n7⟩, ?_, ?_⟩
  · rw [hu]
    obtain rfl := List.singleton_inj.1 q0
    obtain rfl := List.singleton_inj.1 q1
    obtain rfl := List.singleton_inj.1 q2
    obtain rfl := List.singleton_inj.1 q3
    obtain rfl := List.singleton_inj.1 q4
    obtain rfl := List.singleton_inj.1 q5
    obtain rfl := List.singleton_inj.1 q6
    obtain rfl := List.singleton_inj.1 q7
    exact ⟨_, _, rfl, rfl, _, _, rfl, rfl, _, _, rfl, rfl, _, _, rfl, rfl, _, _, rfl, rfl, _, _, rfl, rfl, _, _, rfl, rfl, _, _, rfl, rfl, rfl⟩
  · cases v with
    | agg cs => rfl
    | _ => exact absurd (congrArg List.length hu) (by simp [Value.cells])
theorem cell_lt {W : World} {g : Nat} {v : Value} (h : W.cell? ⟨g, 0, none⟩ = some v) : g < W.heap.size := by
  obtain ⟨b, o, C, e, fz, ha, hW⟩ := cell_block h
  cases ha
  exact block_lt hW
theorem glo_when {W : World} {m : Int} (hm : W.cell? ⟨2, 0, none⟩ = some (.int .i64 m)) {laid : List (String × DataW Unit)} (h1 : ("errors.errorType", Rows.laid_errors_errorType) ∈ laid) (h2 : ("internal/strconv.uint64pow10", Rows.laid_internal_strconv_uint64pow10) ∈ laid)
    (h3 : ("visitingcard/visitingcardref.shapes", Rows.laid_visitingcard_visitingcardref_shapes) ∈ laid) (hL : laidMetH Tryz.prog laid W) : (gloAnd (gloOf (errTy ++ maxTy m ++ shapesTy)) gloPow).p (sealBelow W W.heap.size) := by
  refine ⟨?_, pow_laid (laid_lt hL h2 (by kernel_rfl) (g := 5) (t := 193) (by kernel_rfl) (by kernel_rfl)) hL h2⟩
  intro x hx
  simp only [List.cons_append, List.nil_append, List.mem_cons, List.not_mem_nil, or_false] at hx
  rcases hx with rfl | rfl | hx
  · exact error_laid (err_lt hL h1) hL h1
  · exact max_sealed (cell_lt hm) hm
  · obtain rfl := List.mem_singleton.1 (show x ∈ [(0, [AVal.list 3 7 shapesF])] from hx)
    exact shapes_laid hL h3
end Go.Proofs.YtgjckfphallmeaaGreatDoor
namespace Go.Proofs.YtgjckfphallmeaaGreatDoor
open Go Go.ChangeShapes Go.WideShapes
theorem five_of {α : Type} {l : List α} (h : l.length = 5) : ∃ a b c d e, l = [a, b, c, d, e] := by
  match l, h with
  | [a, b, c, d, e], _ => exact ⟨a, b, c, d, e, rfl⟩
theorem twelve_of {α : Type} {l : List α} (h : l.length = 12) : ∃ a b c d e f g i j k m n, l = [a, b, c, d, e, f, g, i, j, k, m, n] := by
  match l, h with
  | [a, b, c, d, e, f, g, i, j, k, m, n], _ => exact ⟨a, b, c, d, e, f, g, i, j, k, m, n, rfl⟩
theorem lens_mem {l : List (List UInt8)} {j : Nat} : (l.getD j []).length ≤ Lib.lens l := lens_at
theorem rel_value {H : Type} {enc : TypeId × Value → H} {W : World} {spare : Nat → Bool} {held : Bool} {v : Value} {d : DataW H} {ps : List MemPlace} (h : DataW.Trod enc Tryz.prog W 0 spare held 26 v d ps) (hb : Rows.uptoBulk d ≤ 1048576) :
    ∃ u : Vl, Rel (sealBelow W W.heap.size) u.A v ∧ u.s.length ≤ 1048576 ∧ Small u.L ∧ u.OK := by
  obtain ⟨fuel, h⟩ := h
  obtain ⟨xs, n, _, hx, hl, hxl, hf⟩ := DataW.trod_struct Tryz.underlying26 h
  have hc : Tryz.prog.cellsOf 26 = 12 := by kernel_rfl
  have hci : Tryz.prog.cellsOf 3 = 1 := by kernel_rfl
  have hcs : Tryz.prog.cellsOf 9 = 1 := by kernel_rfl
  have hcp : Tryz.prog.cellsOf 22 = 1 := by kernel_rfl
  have hct : Tryz.prog.cellsOf 24 = 8 := by kernel_rfl
  rw [hc] at hl
  have hxl : xs.length = 5 := hxl
  obtain ⟨x0, x1, x2, x3, x4, rfl⟩ := five_of hxl
  obtain ⟨u0, u1, u2, u3, u4, u5, u6, u7, u8, u9, u10, u11, hu⟩ := twelve_of hl
  rw [hu] at hf
  have g0 : DataW.trod enc Tryz.prog W 0 spare held n 3 (([u0, u1, u2, u3, u4, u5, u6, u7, u8, u9, u10, u11].drop 0).take (Tryz.prog.cellsOf 3)) = some x0 := hf 0 _ rfl
  have g1 : DataW.trod enc Tryz.prog W 0 spare held n 9 (([u0, u1, u2, u3, u4, u5, u6, u7, u8, u9, u10, u11].drop 1).take (Tryz.prog.cellsOf 9)) = some x1 := hf 1 _ rfl
  have g2 : DataW.trod enc Tryz.prog W 0 spare held n 22 (([u0, u1, u2, u3, u4, u5, u6, u7, u8, u9, u10, u11].drop 2).take (Tryz.prog.cellsOf 22)) = some x2 := hf 2 _ rfl
  have g3 : DataW.trod enc Tryz.prog W 0 spare held n 24 (([u0, u1, u2, u3, u4, u5, u6, u7, u8, u9, u10, u11].drop 3).take (Tryz.prog.cellsOf 24)) = some x3 := hf 3 _ rfl
  have g4 : DataW.trod enc Tryz.prog W 0 spare held n 3 (([u0, u1, u2, u3, u4, u5, u6, u7, u8, u9, u10, u11].drop 11).take (Tryz.prog.cellsOf 3)) = some x4 := hf 4 _ rfl
  rw [hci] at g0 g4
  rw [hcs] at g1
  rw [hcp] at g2
  rw [hct] at g3
  simp only [List.drop_zero, List.drop_succ_cons, List.take_succ_cons, List.take_zero] at g0 g1 g2 g3 g4
  obtain rfl : d = .agg ([x0, x1, x2, x3, x4].map (·.1)) := (Prod.mk.inj hx).1
  simp only [List.map_cons, List.map_nil, Rows.uptoBulk, Rows.uptoBulkAll] at hb
  obtain ⟨n0, q0, _, _⟩ := DataW.trod_int Tryz.underlying3 g0
  obtain ⟨n4, q4, _, _⟩ := DataW.trod_int Tryz.underlying3 g4
  obtain ⟨s1, q1, e1, _⟩ := DataW.trod_string Tryz.underlying9 g1
  obtain ⟨L, r2, hs⟩ := rel_parts g2 (by omega)
  obtain ⟨t, r3⟩ := rel_stamp (R := sealBelow W W.heap.size) (v := .agg #[u3, u4, u5, u6, u7, u8, u9, u10]) (d := x3.1) (ps := x3.2) ⟨n, g3⟩
  have hbs : s1.data.toList.length ≤ 1048576 := by
    rw [e1] at hb
    simp only [Rows.uptoBulk] at hb
    omega
  have hLk := hs.k
  refine ⟨⟨n0, s1.data.toList, L, t, n4⟩, ⟨?_, ?_⟩, hbs, hs, ⟨by dsimp only; omega, hs.n, fun k => (hLk k).1, fun k j => by have h1 := lens_mem (l := L.getD k []) (j := j); have h2 := (hLk k).2; dsimp only; omega⟩⟩
  · rw [hu]
    obtain rfl := List.singleton_inj.1 q0
    obtain rfl := List.singleton_inj.1 q1
    obtain rfl := List.singleton_inj.1 q4
    have h3 : RelL (sealBelow W W.heap.size) _ [u3, u4, u5, u6, u7, u8, u9, u10] := r3.1
    exact ⟨_, _, rfl, rfl, _, _, rfl, by rw [RelC, str_mk], _, _, rfl, rel_one r2 rfl, relL_append h3 ⟨_, _, rfl, rfl, rfl⟩⟩
  · cases v with
    | agg cs => rfl
    | _ => exact absurd (congrArg List.length hu) (by simp [Value.cells])
end Go.Proofs.YtgjckfphallmeaaGreatDoor
namespace Go.Proofs.YtgjckfphallmeaaGreatDoor
open Go
section
variable {P : Program} {H : Type} {enc : TypeId × Value → H} {w : World} {base : Nat} {spare : Nat → Bool} {held : Bool}
theorem trod_pairs {t e n fuel u : Nat} {k : IntKind} {f0 f1 : Field} {cs : List Value} {ps : List MemPlace} {zs : List (Nat × Nat)} (ht : P.underlying t = some (.array n e)) (he : P.underlying e = some (.struct #[f0, f1])) (hc : P.cellsOf e = 2) (hct : P.cellsOf t = n * 2)
    (hf0 : f0.type = u) (hf1 : f1.type = u) (ho0 : f0.offset = 0) (ho1 : f1.offset = 1) (hu : P.underlying u = some (.int k)) (hcu : P.cellsOf u = 1)
    (h : DataW.trod enc P w base spare held fuel t cs = some (.agg (zs.map fun x : Nat × Nat => .agg [.lit (.int k (x.1 : Int)), .lit (.int k (x.2 : Int))]), ps)) (hz : zs.length = n) : cs = zs.flatMap fun x : Nat × Nat => [Value.int k (x.1 : Int), Value.int k (x.2 : Int)] := by
  obtain ⟨xs, m, _, ex, hl, hxl, hel⟩ := DataW.trod_array ht h
  have e3 : (xs.map (·.1)) = zs.map fun x : Nat × Nat => .agg [.lit (.int k x.1), .lit (.int k x.2)] := (DataW.agg.inj (Prod.mk.inj ex).1).symm
  refine chunks 2 _ (fun _ => rfl) zs cs (by omega) (fun i z hi => ?_)
  have hin : i < zs.length := (List.getElem?_eq_some_iff.1 hi).1
  have hE := hel i (by omega)
  rw [hc, List.getElem?_eq_getElem (by omega)] at hE
  generalize hcc : (cs.drop (i * 2)).take 2 = c at hE
  obtain ⟨y0, y1, m', e2, hl2, h0, h1⟩ := Go.ChangeShapes.trod_struct2 he hE
  rw [hf0, ho0, hcu] at h0
  rw [hf1, ho1, hcu] at h1
  obtain ⟨a0, c0, d0, _⟩ := DataW.trod_int hu h0
  obtain ⟨a1, c1, d1, _⟩ := DataW.trod_int hu h1
  have e4 : (xs.map (·.1))[i]? = (zs.map fun x : Nat × Nat => (DataW.agg [.lit (.int k x.1), .lit (.int k x.2)] : DataW H))[i]? := by rw [e3]
  rw [List.getElem?_map, List.getElem?_map, List.getElem?_eq_getElem (by omega : i < xs.length), hi, e2, d0, d1] at e4
  simp only [Option.map_some, Option.some.injEq, DataW.agg.injEq, List.cons.injEq, DataW.lit.injEq, Lit.int.injEq, true_and, and_true] at e4
  rw [hc] at hl2
  match c, hl2 with
  | [x0, x1], _ =>
    simp only [List.drop_zero, List.take_succ_cons, List.take_zero, List.cons.injEq, and_true, List.drop_succ_cons] at c0 c1
    rw [c0, c1, e4.1, e4.2]
end
theorem first_laid {W : World} {k : Nat} (hk : 3 < k) {laid : List (String × DataW Unit)} (hL : laidMetH Tryz.prog laid W) (hm : ("unicode/utf8.first", Rows.laid_unicode_utf8_first) ∈ laid) : SealedAt (sealBelow W k) 3 0 firstTab := by
  obtain ⟨C, e, fz, fuel, p, hW, hd⟩ := laid_at hL hm (by kernel_rfl) (g := 3) (t := 165) (by kernel_rfl) (by kernel_rfl)
  refine sealed_below hk hW ?_
  have hc := trod_ints (n := 256) (zs := Go.Pinned.utf8FirstZ) Tryz.underlying165 Tryz.underlying5 (by kernel_rfl) (by kernel_rfl) hd (by kernel_rfl)
  have e1 : firstTab = (Go.Pinned.utf8FirstZ.map fun x : Nat => (IntKind.u8, (x : Int))).map fun x => .int x.1 x.2 := by simp [firstTab]
  have e2 : C.toList.take firstTab.length = (Go.Pinned.utf8FirstZ.map fun x : Nat => (IntKind.u8, (x : Int))).map fun x => .int x.1 x.2 := by
    have : C.toList = Go.Pinned.utf8FirstZ.map fun x : Nat => Value.int .u8 (x : Int) := by
      rw [hc]; generalize Go.Pinned.utf8FirstZ = l; induction l <;> simp_all
    rw [this, List.take_of_length_le (by simp [firstTab])]
    simp
  rw [e2, e1]
  exact relL_ints _
def acceptZ : List (Nat × Nat) := [(128, 191), (160, 191), (128, 159), (144, 191), (128, 143), (0, 0), (0, 0), (0, 0), (0, 0), (0, 0), (0, 0), (0, 0), (0, 0), (0, 0), (0, 0), (0, 0)]
theorem accept_laid {W : World} {k : Nat} (hk : 4 < k) {laid : List (String × DataW Unit)} (hL : laidMetH Tryz.prog laid W) (hm : ("unicode/utf8.acceptRanges", Rows.laid_unicode_utf8_acceptRanges) ∈ laid) : SealedAt (sealBelow W k) 4 0 acceptTab := by
  obtain ⟨C, e, fz, fuel, p, hW, hd⟩ := laid_at hL hm (by kernel_rfl) (g := 4) (t := 187) (by kernel_rfl) (by kernel_rfl)
  refine sealed_below hk hW ?_
  rw [trod_pairs (n := 16) (zs := acceptZ) Tryz.underlying187 Tryz.underlying186 (by kernel_rfl) (by kernel_rfl) rfl rfl rfl rfl Tryz.underlying5 (by kernel_rfl) hd (by kernel_rfl)]
  exact relL_ints ((acceptZ.flatMap fun x : Nat × Nat => [x.1, x.2]).map fun x : Nat => (IntKind.u8, (x : Int)))
end Go.Proofs.YtgjckfphallmeaaGreatDoor
namespace Go.Proofs.YtgjckfphallmeaaGreatDoor
open Go Go.RowKit
theorem count_one {G : Glo} (s : List UInt8) (c : UInt8) : FnIs Tryz.prog G 95 [.str s, .str [c]] (.int .i64 (s.countP (· == c) : Nat)) := by
  refine fnis_of_calls rfl Tryz.call95 ?_
  rintro R args ⟨x, t, e, hx, y, t', e', hy, rfl⟩ w hG hs
  obtain rfl := rel_str.1 hx
  obtain rfl := rel_str.1 hy
  subst e'
  obtain rfl := arr_of e
  refine (Tryz.strings_Count_one ⟨s.toArray⟩ c w).mono ?_
  rintro e w' ⟨rfl, rfl⟩
  exact ⟨by simp [AVal.conc, Lib.countByte, List.count], Below.refl _ _⟩
end Go.Proofs.YtgjckfphallmeaaGreatDoor
namespace Go.Proofs.YtgjckfphallmeaaGreatDoor
open Go Go.RowKit
set_option maxRecDepth 20000
set_option maxHeartbeats 4000000
set_option linter.unusedSimpArgs false
set_option linter.unusedVariables false
attribute [local irreducible] AWp AOps byteAt SrcOK OrOk GloAll FnSpec
attribute [local irreducible] escF escS
theorem ref_Escape {G : Glo} (s : List UInt8) (hl : s.length ≤ 2000000) : FnIs Tryz.prog G 12 [.str s] (.str (escS s)) := by
  have hGL : GloAll G [] := gloAll_nil
  refine fn_x Tryz.func12 Tryz.call12 rfl rfl rfl rfl hGL ?_
  intro C hC
  repeat' (first
    | (conv => whnf); first
      | refine .w ?_ | refine .v ?_ | apply sc_true | apply sc_false
      | (first | apply sc_lt | apply sc_nlt | apply sc_eq | apply sc_neq | apply sc_nil | apply sc_nnil | apply sc_seq | apply sc_nseq) <;> (intro hb; try exact dd hb)
      | apply sc_not | apply sc_or | (apply sc_i <;> intro hb)
      | (apply bx_i; intro hbd) | (apply gt_i; assumption; exact rfl)
      | (apply cx_is; first | fail) | (apply cx_do (i := 0) rfl; first | fail)
      | (apply ab_i; intro bl) | (apply as_i; intro va vk vc hva) | (apply av_i; intro v) | (apply ac_i; intro bl cap hcap)
      | apply bo_l | (apply nx_i <;> intro hnx) | (apply Ia.hit; assumption) | (apply Ia.miss; assumption)
      | (apply rt_is; exact rfl) | exact rt_w | (apply iv; assumption)
      | apply dw_q mixed hC hGL (by kernel_rfl) | (apply cq; assumption; (first | fail); exact rfl))
  all_goals (try conv => whnf)
  refine lp hC hGL (fun i : Nat => [(0, .str s), (3, .str (escS (s.take i))), (6, .int .i64 (s.length : Nat)), (7, .int .i64 (i : Nat))]) (fun _ => []) (fun i => i ≤ s.length) (fun i => s.length - i) 0 (Nat.zero_le _) ⟨rfl, ?_, rfl, rfl, trivial⟩ rfl ?_
  · show some (AVal.str []) = some (AVal.str (escS (s.take 0)))
    rw [List.take_zero, escS_nil]
  · intro i hi
    have e1 := (escS_len (s.take i)).2
    rw [List.length_take, Nat.min_eq_left hi] at e1
    by_cases hlt : i < s.length
    · have et := escS_take hlt
      have hb0 := byteAt_ge hlt
      have hby := byteAt_lt s i
      have hone : (s.take (i + 1)).drop i = [s[i]] := by rw [List.drop_take, show i + 1 - i = 1 by omega, List.drop_eq_getElem_cons hlt]; rfl
      have hlo : ((s.take (i + 1)).drop i).length = 1 := by rw [hone]; rfl
      rcases (show (byteAt s i = 92 ∨ byteAt s i = 44 ∨ byteAt s i = 59) ∨ byteAt s i = 10 ∨ (byteAt s i ≠ 92 ∧ byteAt s i ≠ 44 ∧ byteAt s i ≠ 59 ∧ byteAt s i ≠ 10) by omega) with hk | hk | ⟨k1, k2, k3, k4⟩
      · have he : escF s[i] = [92] ++ (s.take (i + 1)).drop i := by
          rw [hone]
          rcases hk with hk | hk | hk
          all_goals rw [(u8_k (by decide)).2 (hb0.symm.trans hk)]
          · exact esc_92
          · exact esc_44
          · exact esc_59
        repeat' (first
          | (conv => whnf); first
            | refine .w ?_ | refine .v ?_ | apply sc_true | apply sc_false
            | (first | apply sc_lt | apply sc_nlt | apply sc_eq | apply sc_neq | apply sc_nil | apply sc_nnil | apply sc_seq | apply sc_nseq) <;> (intro hb; try exact dd hb)
            | apply sc_not | apply sc_or | (apply sc_i <;> intro hb)
            | (apply bx_i; intro hbd) | (apply gt_i; assumption; exact rfl)
            | (apply cx_is; first | fail) | (apply cx_do (i := 0) rfl; first | fail)
            | (apply ab_i; intro bl) | (apply as_i; intro va vk vc hva) | (apply av_i; intro v) | (apply ac_i; intro bl cap hcap)
            | apply bo_l | (apply nx_i <;> intro hnx) | (apply Ia.hit; assumption) | (apply Ia.miss; assumption)
            | (apply rt_is; exact rfl) | exact rt_w | (apply iv; assumption)
            | apply dw_q mixed hC hGL (by kernel_rfl) | (apply cq; assumption; (first | fail); exact rfl))
        all_goals (try conv => whnf)
        all_goals first
          | (refine nxt (i + 1) ?_ ?_ ⟨rfl, ?_, rfl, rfl, trivial⟩ rfl; exact hlt; (show s.length - (i + 1) < s.length - i; omega); (rw [et, he]; rfl))
          | skip
      · have he : escF s[i] = [92, 110] := by rw [(u8_k (by decide)).2 (hb0.symm.trans hk)]; exact esc_10
        repeat' (first
          | (conv => whnf); first
            | refine .w ?_ | refine .v ?_ | apply sc_true | apply sc_false
            | (first | apply sc_lt | apply sc_nlt | apply sc_eq | apply sc_neq | apply sc_nil | apply sc_nnil | apply sc_seq | apply sc_nseq) <;> (intro hb; try exact dd hb)
            | apply sc_not | apply sc_or | (apply sc_i <;> intro hb)
            | (apply bx_i; intro hbd) | (apply gt_i; assumption; exact rfl)
            | (apply cx_is; first | fail) | (apply cx_do (i := 0) rfl; first | fail)
            | (apply ab_i; intro bl) | (apply as_i; intro va vk vc hva) | (apply av_i; intro v) | (apply ac_i; intro bl cap hcap)
            | apply bo_l | (apply nx_i <;> intro hnx) | (apply Ia.hit; assumption) | (apply Ia.miss; assumption)
            | (apply rt_is; exact rfl) | exact rt_w | (apply iv; assumption)
            | apply dw_q mixed hC hGL (by kernel_rfl) | (apply cq; assumption; (first | fail); exact rfl))
        all_goals (try conv => whnf)
        all_goals first
          | (refine nxt (i + 1) ?_ ?_ ⟨rfl, ?_, rfl, rfl, trivial⟩ rfl; exact hlt; (show s.length - (i + 1) < s.length - i; omega); (rw [et, he]; rfl))
          | skip
      · have he : escF s[i] = (s.take (i + 1)).drop i := by
          rw [hone]
          exact esc_else (by rw [← hb0]; exact k1) (by rw [← hb0]; exact k2) (by rw [← hb0]; exact k3) (by rw [← hb0]; exact k4)
        repeat' (first
          | (conv => whnf); first
            | refine .w ?_ | refine .v ?_ | apply sc_true | apply sc_false
            | (first | apply sc_lt | apply sc_nlt | apply sc_eq | apply sc_neq | apply sc_nil | apply sc_nnil | apply sc_seq | apply sc_nseq) <;> (intro hb; try exact dd hb)
            | apply sc_not | apply sc_or | (apply sc_i <;> intro hb)
            | (apply bx_i; intro hbd) | (apply gt_i; assumption; exact rfl)
            | (apply cx_is; first | fail) | (apply cx_do (i := 0) rfl; first | fail)
            | (apply ab_i; intro bl) | (apply as_i; intro va vk vc hva) | (apply av_i; intro v) | (apply ac_i; intro bl cap hcap)
            | apply bo_l | (apply nx_i <;> intro hnx) | (apply Ia.hit; assumption) | (apply Ia.miss; assumption)
            | (apply rt_is; exact rfl) | exact rt_w | (apply iv; assumption)
            | apply dw_q mixed hC hGL (by kernel_rfl) | (apply cq; assumption; (first | fail); exact rfl))
        all_goals (try conv => whnf)
        all_goals first
          | (refine nxt (i + 1) ?_ ?_ ⟨rfl, ?_, rfl, rfl, trivial⟩ rfl; exact hlt; (show s.length - (i + 1) < s.length - i; omega); (rw [et, he]; rfl))
          | skip
    · have h9 : escS (s.take i) = escS s := by rw [List.take_of_length_le (by omega)]
      repeat' (first
        | (conv => whnf); first
          | refine .w ?_ | refine .v ?_ | apply sc_true | apply sc_false
          | (first | apply sc_lt | apply sc_nlt | apply sc_eq | apply sc_neq | apply sc_nil | apply sc_nnil | apply sc_seq | apply sc_nseq) <;> (intro hb; try exact dd hb)
          | apply sc_not | apply sc_or | (apply sc_i <;> intro hb)
          | (apply bx_i; intro hbd) | (apply gt_i; assumption; exact rfl)
          | (apply cx_is; first | fail) | (apply cx_do (i := 0) rfl; first | fail)
          | (apply ab_i; intro bl) | (apply as_i; intro va vk vc hva) | (apply av_i; intro v) | (apply ac_i; intro bl cap hcap)
          | apply bo_l | (apply nx_i <;> intro hnx) | (apply Ia.hit; assumption) | (apply Ia.miss; assumption)
          | (apply rt_is; exact rfl) | exact rt_w | (apply iv; assumption)
          | apply dw_q mixed hC hGL (by kernel_rfl) | (apply cq; assumption; (first | fail); exact rfl))
      all_goals (try conv => whnf)
      apply rt_is
      rw [h9]
end Go.Proofs.YtgjckfphallmeaaGreatDoor
namespace Go.Proofs.YtgjckfphallmeaaGreatDoor
open Go Go.RowKit
theorem spec_cells {P : Program} [Tab P] {G : Glo} {f : FuncId} {avs : List AVal} {b : Nat} {eT : Option TypeId} {cs cs' : List AVal} {v : AVal}
    (hrun : ∀ R w Cs e fz args, w.heap[b]? = some (.cells Cs e fz) → RelL R cs Cs.toList → Loose fz Cs.size → RelV R avs args.toList → ∃ x w' Cs', (callFunc f args).run P w = .ok (.value x) w' ∧ Rel R v x ∧ OneBlk w b (.cells Cs' e fz) w' ∧ RelL R cs' Cs'.toList ∧ Cs'.size = Cs.size) :
    FnSpec P G f avs [.cells b eT cs] (fun r H => r = .ret v ∧ H = [.cells b eT cs']) := by
  intro R w args hG hm ha
  obtain ⟨Cs, e, fz, hb, hl, hfz, het⟩ := hm.heap.holds _ (List.mem_cons_self ..)
  obtain ⟨x, w', Cs', h1, h2, h3, h4, h5⟩ := hrun R w Cs e fz args hb hl hfz ha
  refine .inr ⟨x, w', h1, .ret v, [.cells b eT cs'], R, ⟨rfl, rfl⟩, ⟨x, rfl, h2⟩, ?_⟩
  exact hm.write (i := 0) rfl rfl h3 rfl ⟨Cs', e, fz, h3.at_, h4, by rw [h5]; exact hfz, het⟩
theorem oneBlk_refl {w : World} {b : Nat} {o : Obj} (h : w.heap[b]? = some o) : OneBlk w b o w := ⟨rfl, rfl, rfl, rfl, h, fun _ _ => rfl⟩
theorem oneBlk_set {w : World} {b off e : Nat} {Cs : Array Value} {fz : Nat × Nat} {v : Value} (h : w.heap[b]? = some (.cells Cs e fz)) (ho : off < Cs.size) : OneBlk w b (.cells (Cs.setIfInBounds off v) e fz) (w.setCell ⟨b, off, none⟩ v) := by
  have hlt : b < w.heap.size := by
    rcases Nat.lt_or_ge b w.heap.size with h1 | h1
    · exact h1
    · simp [Array.getElem?_eq_none h1] at h
  refine ⟨rfl, rfl, rfl, by simp [World.setCell], ?_, fun k hk => ?_⟩
  · simp only [World.setCell, Array.getElem?_modify, if_true, h, Option.map_some, Option.isSome_none, Bool.false_eq_true, if_false]
  · simp only [World.setCell, Array.getElem?_modify]
    rw [if_neg (fun e => hk e.symm)]
theorem relL_put {R : Seal} {a : AVal} {v : Value} (ha : RelC R a [v]) : ∀ {cs : List AVal} {vs : List Value} {p : Nat}, RelL R cs vs → p < cs.length → RelL R (cs.set p a) (vs.set p v)
  | [], _, _, _, h => absurd h (Nat.not_lt_zero _)
  | c :: cs, _, 0, ⟨u, t, rfl, h1, h2⟩, _ => ⟨v, t, rfl, ha, h2⟩
  | c :: cs, _, p + 1, ⟨u, t, rfl, h1, h2⟩, hp => ⟨u, _, rfl, h1, relL_put ha h2 (by simpa using hp)⟩
theorem arg1 {R : Seal} {v : Value} {args : Array Value} (h : RelV R [.raw v] args.toList) : args = #[v] := by
  obtain ⟨x, t, e, hx, rfl⟩ := h
  obtain rfl := rel_raw.1 (show Rel R (.raw v) x from hx)
  exact Array.ext' e
theorem arg2 {R : Seal} {v : Value} {k : IntKind} {n : Int} {args : Array Value} (h : RelV R [.raw v, .int k n] args.toList) : args = #[v, .int k n] := by
  obtain ⟨x, t, e, hx, y, t2, rfl, hy, rfl⟩ := h
  obtain rfl := rel_raw.1 (show Rel R (.raw v) x from hx)
  obtain rfl := rel_int.1 (show Rel R (.int k n) y from hy)
  exact Array.ext' e
theorem arg3 {R : Seal} {v : Value} {k k2 : IntKind} {n m : Int} {args : Array Value} (h : RelV R [.raw v, .int k n, .int k2 m] args.toList) : args = #[v, .int k n, .int k2 m] := by
  obtain ⟨x, t, e, hx, y, t2, rfl, hy, z, t3, rfl, hz, rfl⟩ := h
  obtain rfl := rel_raw.1 (show Rel R (.raw v) x from hx)
  obtain rfl := rel_int.1 (show Rel R (.int k n) y from hy)
  obtain rfl := rel_int.1 (show Rel R (.int k2 m) z from hz)
  exact Array.ext' e
section
variable {G : Glo} {b off : Nat} {eT : Option TypeId} {cs : List AVal}
abbrev pv (b off : Nat) : Value := .pointer (some ⟨b, off, none⟩)
theorem cell_int {R : Seal} {w : World} {Cs : Array Value} {e : Nat} {fz : Nat × Nat} {k : IntKind} {n : Int} (hb : w.heap[b]? = some (.cells Cs e fz)) (hl : RelL R cs Cs.toList) (hc : cs[off]? = some (.int k n)) : w.cell? ⟨b, off, none⟩ = some (.int k n) ∧ off < Cs.size := by
  obtain ⟨v, hv, hr⟩ := relL_get hl hc
  simp only [RelC, List.cons.injEq, and_true] at hr
  subst hr
  refine ⟨by simp only [World.cell?, hb]; simpa using hv, ?_⟩
  have := (List.getElem?_eq_some_iff.1 hv).1
  simpa using this
theorem not_frozen {w : World} {Cs : Array Value} {e : Nat} {fz : Nat × Nat} (hb : w.heap[b]? = some (.cells Cs e fz)) (hfz : Loose fz Cs.size) (ho : off < Cs.size) : w.frozen? ⟨b, off, none⟩ = false := by
  obtain ⟨lo, hi⟩ := fz
  simp only [World.frozen?, hb, Loose] at hfz ⊢
  simp
  omega
theorem at_load {n : Int} (hc : cs[off]? = some (.int .u32 n)) : FnSpec Tryz.prog G 102 [.raw (pv b off)] [.cells b eT cs] (fun r H => r = .ret (.int .u32 n) ∧ H = [.cells b eT cs]) := by
  refine spec_cells fun R w Cs e fz args hb hl hfz ha => ?_
  obtain rfl := arg1 ha
  obtain ⟨h1, _⟩ := cell_int hb hl hc
  exact ⟨_, _, Cs, run_call_load Tryz.func102 (by kernel_rfl) (by kernel_rfl) (by kernel_rfl) .u32 (by kernel_rfl) h1, rel_int.2 rfl, oneBlk_refl hb, hl, rfl⟩
theorem at_store {n y : Int} (hc : cs[off]? = some (.int .u32 n)) : FnSpec Tryz.prog G 128 [.raw (pv b off), .int .u32 y] [.cells b eT cs] (fun r H => r = .ret (.tuple []) ∧ H = [.cells b eT (cs.set off (.int .u32 y))]) := by
  refine spec_cells fun R w Cs e fz args hb hl hfz ha => ?_
  obtain rfl := arg2 ha
  obtain ⟨h1, ho⟩ := cell_int hb hl hc
  have hlen := relL_length hl
  rw [Array.length_toList] at hlen
  refine ⟨_, _, Cs.setIfInBounds off (.int .u32 y), run_call_store Tryz.func128 (by kernel_rfl) (by kernel_rfl) (by kernel_rfl) (by kernel_rfl) h1 (not_frozen hb hfz ho), ⟨⟨#[], rfl, rfl⟩, rfl⟩, oneBlk_set hb ho, ?_, by simp⟩
  rw [Array.toList_setIfInBounds]
  exact relL_put (show RelC R (.int .u32 y) [.int .u32 y] from rfl) hl (by omega)
theorem at_cas {n y : Int} (hc : cs[off]? = some (.int .i32 n)) : FnSpec Tryz.prog G 138 [.raw (pv b off), .int .i32 n, .int .i32 y] [.cells b eT cs] (fun r H => r = .ret (.bool true) ∧ H = [.cells b eT (cs.set off (.int .i32 y))]) := by
  refine spec_cells fun R w Cs e fz args hb hl hfz ha => ?_
  obtain rfl := arg3 ha
  obtain ⟨h1, ho⟩ := cell_int hb hl hc
  have hlen := relL_length hl
  rw [Array.length_toList] at hlen
  refine ⟨_, _, Cs.setIfInBounds off (.int .i32 y), run_call_cas_hit Tryz.func138 (by kernel_rfl) (by kernel_rfl) (by kernel_rfl) .i32 (by kernel_rfl) h1 (not_frozen hb hfz ho), rel_bool.2 rfl, oneBlk_set hb ho, ?_, by simp⟩
  rw [Array.toList_setIfInBounds]
  exact relL_put (show RelC R (.int .i32 y) [.int .i32 y] from rfl) hl (by omega)
theorem at_dec (hc : cs[off]? = some (.int .i32 1)) : FnSpec Tryz.prog G 143 [.raw (pv b off), .int .i32 (-1)] [.cells b eT cs] (fun r H => r = .ret (.int .i32 0) ∧ H = [.cells b eT (cs.set off (.int .i32 0))]) := by
  refine spec_cells fun R w Cs e fz args hb hl hfz ha => ?_
  obtain rfl := arg2 ha
  obtain ⟨h1, ho⟩ := cell_int hb hl hc
  have hlen := relL_length hl
  rw [Array.length_toList] at hlen
  refine ⟨_, _, Cs.setIfInBounds off (.int .i32 0), run_call_add Tryz.func143 (by kernel_rfl) (by kernel_rfl) (by kernel_rfl) .i32 (by kernel_rfl) (s := 0) h1 (not_frozen hb hfz ho) (by simp [go_sem]; rfl), rel_int.2 rfl, oneBlk_set hb ho, ?_, by simp⟩
  rw [Array.toList_setIfInBounds]
  exact relL_put (show RelC R (.int .i32 0) [.int .i32 0] from rfl) hl (by omega)
end
end Go.Proofs.YtgjckfphallmeaaGreatDoor
namespace Go.Proofs.YtgjckfphallmeaaGreatDoor
open Go Go.RowKit
theorem fn_xp {P : Program} [Tab P] {G : Glo} {GL : List (Nat × List AVal)} {n : Nat} {H : Heap} {v : Value} (i : Nat) {f : FuncId} {fn : Func} {c : Code} {avs : List AVal} {Qf : ARes → Heap → Prop} {rs : List ResultVar} (hf : P.funcs[f]? = some fn)
    (hc : ∀ args w, (callFunc f args).run P w = .ok (.enter f args) w) (hb : fn.body = some c) (hn : fn.ntmps = n) (hrs : fn.results = rs.toArray) (hlen : Nat.ble (AVal.raw v :: avs).length n = true) (hGL : GloAll G GL) (hv : vAgg v = false)
    (h : ∀ C : Ctx, C.G = G → codeX P C n G GL c ((0, .own i v) :: argEnv 0 (.raw v :: avs)) H (RetX P rs Qf)) : FnSpec P G f (.raw v :: avs) H Qf :=
  fn_spec hf hb hc hn hrs hlen fun w0 R0 hG => (own_slot (C := ⟨w0, R0, blks H, G, hG, []⟩) (k := 0) i rfl hGL hv rfl (h ⟨w0, R0, blks H, G, hG, []⟩ rfl)).mono fun _ _ _ q => RetX_ok q
section
variable {P : Program} [Tab P] {C : Ctx} {n : Nat} {env : Env} {H : Heap} {G : Glo} {x : Operand} {S T u : TypeId} {xS xT xu : TI}
theorem rv_toU {i j b off : Nat} {eT : Option TypeId} {cs : List AVal} {a : AVal} (hx : evalA env x = some (.own i (pv b off))) (hj : H[j]? = some (.cells b eT cs)) (hc : cs[off]? = some a) (h1 : tab P S = some xS) (h2 : xS.desc = .pointer u) (h3 : tab P T = some xT) (h4 : xT.desc = .unsafePointer) (h5 : tab P u = some xu) (h6 : Nat.ble 1 xu.size = true) :
    RunV P C H env (.convert S T x) (.raw (pv b off)) := by
  intro R ρ w hm hf dst t p af g
  obtain ⟨Cs, el, fz, hb, hl, _⟩ := own_cells hm hj
  obtain ⟨v, hv, _⟩ := relL_get hl hc
  have hcell : w.cell? ⟨b, off, none⟩ = some v := by simp only [World.cell?, hb]; simpa using hv
  obtain ⟨iu, hiu, his, _⟩ := tab_info h5
  have h6 := Nat.le_of_ble_eq_true h6
  have hr := run_convert_to_unsafe (P := P) (src := S) (dst := T) (by rw [tab_und h1, h2]) (by rw [tab_und h3, h4]) (by rw [hiu]; simp [his]; omega) hcell
  exact ⟨_, by simp only [execOp, (rel_own.1 (hf _ _ hx)).1, Sem.run_bind, hr, Result.andThen_ok, Sem.run_pure], rel_raw.2 rfl⟩
end
section
variable {G : Glo}
theorem mark_spec {f : FuncId} (h : ∀ w, (callFunc f #[]).run Tryz.prog w = .ok (.value (.tuple #[])) w) : FnIs Tryz.prog G f [] (.tuple []) := by
  intro R w args hG hm ha
  have e : args = #[] := by
    have : args.toList = [] := ha
    exact Array.ext' this
  subst e
  exact .inr ⟨_, w, h w, _, [], R, ⟨rfl, rfl⟩, ⟨_, rfl, ⟨#[], rfl, rfl⟩, rfl⟩, hm⟩
theorem marked_spec {f : FuncId} {a : Addr} (h : ∀ w, (callFunc f #[.pointer (some a)]).run Tryz.prog w = .ok (.value (.tuple #[])) w) : FnIs Tryz.prog G f [.raw (.pointer (some a))] (.tuple []) := by
  intro R w args hG hm ha
  obtain rfl := arg1 ha
  exact .inr ⟨_, w, h w, _, [], R, ⟨rfl, rfl⟩, ⟨_, rfl, ⟨#[], rfl, rfl⟩, rfl⟩, hm⟩
theorem race_off : FnIs Tryz.prog G 137 [] (.tuple []) := mark_spec fun w => run_call_mark0 Tryz.func137 (by kernel_rfl) (by kernel_rfl) (by kernel_rfl) .disable (by kernel_rfl) w
theorem race_on : FnIs Tryz.prog G 139 [] (.tuple []) := mark_spec fun w => run_call_mark0 Tryz.func139 (by kernel_rfl) (by kernel_rfl) (by kernel_rfl) .enable (by kernel_rfl) w
theorem race_acq (a : Addr) : FnIs Tryz.prog G 140 [.raw (.pointer (some a))] (.tuple []) := marked_spec fun w => run_call_marked Tryz.func140 (by kernel_rfl) (by kernel_rfl) (by kernel_rfl) .acquire (by kernel_rfl) a w
theorem race_rel (a : Addr) : FnIs Tryz.prog G 142 [.raw (.pointer (some a))] (.tuple []) := marked_spec fun w => run_call_marked Tryz.func142 (by kernel_rfl) (by kernel_rfl) (by kernel_rfl) .releaseMerge (by kernel_rfl) a w
set_option maxRecDepth 20000
set_option maxHeartbeats 4000000
set_option linter.unusedSimpArgs false
set_option linter.unusedVariables false
attribute [local irreducible] AWp AOps byteAt SrcOK OrOk GloAll FnSpec
theorem int_lock {b off : Nat} {eT : Option TypeId} {cs : List AVal} (hc : cs[off]? = some (.int .i32 0)) : FnSpec Tryz.prog G 126 [.raw (pv b off)] [.cells b eT cs] (fun r H => r = .ret (.tuple []) ∧ H = [.cells b eT (cs.set off (.int .i32 1))]) := by
  have hGL : GloAll G [] := gloAll_nil
  have e1 := at_cas (G := G) (b := b) (eT := eT) (y := 1) hc
  have hlt := (List.getElem?_eq_some_iff.1 hc).1
  refine fn_xp 0 Tryz.func126 Tryz.call126 rfl rfl rfl rfl hGL rfl ?_
  intro C hC
  repeat' (first
    | (conv => whnf); first
      | refine .w ?_ | refine .v ?_ | apply sc_true | apply sc_false
      | (first | apply sc_lt | apply sc_nlt | apply sc_eq | apply sc_neq | apply sc_nil | apply sc_nnil | apply sc_seq | apply sc_nseq) <;> (intro hb; try exact dd hb)
      | apply sc_not | apply sc_or | (apply sc_i <;> intro hb)
      | (apply bx_i; intro hbd) | (apply gt_i; assumption; exact rfl)
      | (apply cx_is; first | exact race_off | exact race_on | exact e1) | (apply cx_do (i := 0) rfl; first | exact race_off | exact race_on | exact e1)
      | (apply ab_i; intro bl) | (apply as_i; intro va vk vc hva) | (apply av_i; intro v) | (apply ac_i; intro bl cap hcap)
      | apply bo_l | (apply nx_i <;> intro hnx) | (apply Ia.hit; assumption) | (apply Ia.miss; assumption)
      | (apply rt_is; exact rfl) | exact rt_w | (apply iv; assumption)
      | apply dw_q mixed hC hGL (by kernel_rfl) | (apply cq; assumption; (first | exact race_off | exact race_on | exact e1); exact rfl))
  all_goals (try conv => whnf)
  refine op1_run hC hGL (rv_toU (j := 0) rfl rfl (List.getElem?_set_self hlt) rfl rfl rfl rfl rfl rfl) rfl rfl ?_
  repeat' (first
    | (conv => whnf); first
      | refine .w ?_ | refine .v ?_ | apply sc_true | apply sc_false
      | (first | apply sc_lt | apply sc_nlt | apply sc_eq | apply sc_neq | apply sc_nil | apply sc_nnil | apply sc_seq | apply sc_nseq) <;> (intro hb; try exact dd hb)
      | apply sc_not | apply sc_or | (apply sc_i <;> intro hb)
      | (apply bx_i; intro hbd) | (apply gt_i; assumption; exact rfl)
      | (apply cx_is; first | exact race_acq _) | (apply cx_do (i := 0) rfl; first | exact race_acq _)
      | (apply ab_i; intro bl) | (apply as_i; intro va vk vc hva) | (apply av_i; intro v) | (apply ac_i; intro bl cap hcap)
      | apply bo_l | (apply nx_i <;> intro hnx) | (apply Ia.hit; assumption) | (apply Ia.miss; assumption)
      | (apply rt_is; exact rfl) | exact rt_w | (apply iv; assumption)
      | apply dw_q mixed hC hGL (by kernel_rfl) | (apply cq; assumption; (first | exact race_acq _); exact rfl))
  all_goals (try conv => whnf)
theorem int_unlock {b off : Nat} {eT : Option TypeId} {cs : List AVal} (hc : cs[off]? = some (.int .i32 1)) : FnSpec Tryz.prog G 127 [.raw (pv b off)] [.cells b eT cs] (fun r H => r = .ret (.tuple []) ∧ H = [.cells b eT (cs.set off (.int .i32 0))]) := by
  have hGL : GloAll G [] := gloAll_nil
  have e1 := at_dec (G := G) (b := b) (eT := eT) hc
  refine fn_xp 0 Tryz.func127 Tryz.call127 rfl rfl rfl rfl hGL rfl ?_
  intro C hC
  repeat' (first
    | (conv => whnf); first
      | refine .w ?_ | refine .v ?_ | apply sc_true | apply sc_false
      | (first | apply sc_lt | apply sc_nlt | apply sc_eq | apply sc_neq | apply sc_nil | apply sc_nnil | apply sc_seq | apply sc_nseq) <;> (intro hb; try exact dd hb)
      | apply sc_not | apply sc_or | (apply sc_i <;> intro hb)
      | (apply bx_i; intro hbd) | (apply gt_i; assumption; exact rfl)
      | (apply cx_is; first | exact race_off | exact race_on | exact e1) | (apply cx_do (i := 0) rfl; first | exact race_off | exact race_on | exact e1)
      | (apply ab_i; intro bl) | (apply as_i; intro va vk vc hva) | (apply av_i; intro v) | (apply ac_i; intro bl cap hcap)
      | apply bo_l | (apply nx_i <;> intro hnx) | (apply Ia.hit; assumption) | (apply Ia.miss; assumption)
      | (apply rt_is; exact rfl) | exact rt_w | (apply iv; assumption)
      | apply dw_q mixed hC hGL (by kernel_rfl) | (apply cq; assumption; (first | exact race_off | exact race_on | exact e1); exact rfl))
  all_goals (try conv => whnf)
  erw [hc]
  repeat' (first
    | (conv => whnf); first
      | refine .w ?_ | refine .v ?_ | apply sc_true | apply sc_false
      | (first | apply sc_lt | apply sc_nlt | apply sc_eq | apply sc_neq | apply sc_nil | apply sc_nnil | apply sc_seq | apply sc_nseq) <;> (intro hb; try exact dd hb)
      | apply sc_not | apply sc_or | (apply sc_i <;> intro hb)
      | (apply bx_i; intro hbd) | (apply gt_i; assumption; exact rfl)
      | (apply cx_is; first | exact race_off | exact race_on | exact e1) | (apply cx_do (i := 0) rfl; first | exact race_off | exact race_on | exact e1)
      | (apply ab_i; intro bl) | (apply as_i; intro va vk vc hva) | (apply av_i; intro v) | (apply ac_i; intro bl cap hcap)
      | apply bo_l | (apply nx_i <;> intro hnx) | (apply Ia.hit; assumption) | (apply Ia.miss; assumption)
      | (apply rt_is; exact rfl) | exact rt_w | (apply iv; assumption)
      | apply dw_q mixed hC hGL (by kernel_rfl) | (apply cq; assumption; (first | exact race_off | exact race_on | exact e1); exact rfl))
  all_goals (try conv => whnf)
  refine op1_run hC hGL (rv_toU (j := 0) rfl rfl hc rfl rfl rfl rfl rfl rfl) rfl rfl ?_
  repeat' (first
    | (conv => whnf); first
      | refine .w ?_ | refine .v ?_ | apply sc_true | apply sc_false
      | (first | apply sc_lt | apply sc_nlt | apply sc_eq | apply sc_neq | apply sc_nil | apply sc_nnil | apply sc_seq | apply sc_nseq) <;> (intro hb; try exact dd hb)
      | apply sc_not | apply sc_or | (apply sc_i <;> intro hb)
      | (apply bx_i; intro hbd) | (apply gt_i; assumption; exact rfl)
      | (apply cx_is; first | exact race_rel _ | exact race_off | exact race_on | exact e1) | (apply cx_do (i := 0) rfl; first | exact race_rel _ | exact race_off | exact race_on | exact e1)
      | (apply ab_i; intro bl) | (apply as_i; intro va vk vc hva) | (apply av_i; intro v) | (apply ac_i; intro bl cap hcap)
      | apply bo_l | (apply nx_i <;> intro hnx) | (apply Ia.hit; assumption) | (apply Ia.miss; assumption)
      | (apply rt_is; exact rfl) | exact rt_w | (apply iv; assumption)
      | apply dw_q mixed hC hGL (by kernel_rfl) | (apply cq; assumption; (first | exact race_rel _ | exact race_off | exact race_on | exact e1); exact rfl))
  all_goals (try conv => whnf)
theorem lock {b off : Nat} {eT : Option TypeId} {cs : List AVal} (hc : cs[off]? = some (.int .i32 0)) : FnSpec Tryz.prog G 103 [.raw (pv b off)] [.cells b eT cs] (fun r H => r = .ret (.tuple []) ∧ H = [.cells b eT (cs.set off (.int .i32 1))]) := by
  have hGL : GloAll G [] := gloAll_nil
  have e1 := int_lock (G := G) (b := b) (eT := eT) hc
  refine fn_xp 0 Tryz.func103 Tryz.call103 rfl rfl rfl rfl hGL rfl ?_
  intro C hC
  repeat' (first
    | (conv => whnf); first
      | refine .w ?_ | refine .v ?_ | apply sc_true | apply sc_false
      | (first | apply sc_lt | apply sc_nlt | apply sc_eq | apply sc_neq | apply sc_nil | apply sc_nnil | apply sc_seq | apply sc_nseq) <;> (intro hb; try exact dd hb)
      | apply sc_not | apply sc_or | (apply sc_i <;> intro hb)
      | (apply bx_i; intro hbd) | (apply gt_i; assumption; exact rfl)
      | (apply cx_is; first | exact e1) | (apply cx_do (i := 0) rfl; first | exact e1)
      | (apply ab_i; intro bl) | (apply as_i; intro va vk vc hva) | (apply av_i; intro v) | (apply ac_i; intro bl cap hcap)
      | apply bo_l | (apply nx_i <;> intro hnx) | (apply Ia.hit; assumption) | (apply Ia.miss; assumption)
      | (apply rt_is; exact rfl) | exact rt_w | (apply iv; assumption)
      | apply dw_q mixed hC hGL (by kernel_rfl) | (apply cq; assumption; (first | exact e1); exact rfl))
  all_goals (try conv => whnf)
theorem unlock {b off : Nat} {eT : Option TypeId} {cs : List AVal} (hc : cs[off]? = some (.int .i32 1)) (m : AMode) : DSpec Tryz.prog G 104 [.own 0 (pv b off)] m [.cells b eT cs] (fun r m' H => m' = m ∧ r = .ret (.tuple []) ∧ H = [.cells b eT (cs.set off (.int .i32 0))]) := by
  have hGL : GloAll G [] := gloAll_nil
  have e1 := int_unlock (G := G) (b := b) (eT := eT) hc
  refine ds_code (rs := []) (GL := []) Tryz.func104 rfl rfl rfl rfl hGL ?_
  intro C hC
  repeat' (first
    | (conv => whnf); first
      | refine .w ?_ | refine .v ?_ | apply sc_true | apply sc_false
      | (first | apply sc_lt | apply sc_nlt | apply sc_eq | apply sc_neq | apply sc_nil | apply sc_nnil | apply sc_seq | apply sc_nseq) <;> (intro hb; try exact dd hb)
      | apply sc_not | apply sc_or | (apply sc_i <;> intro hb)
      | (apply bx_i; intro hbd) | (apply gt_i; assumption; exact rfl)
      | (apply cx_is; first | exact e1) | (apply cx_do (i := 0) rfl; first | exact e1)
      | (apply ab_i; intro bl) | (apply as_i; intro va vk vc hva) | (apply av_i; intro v) | (apply ac_i; intro bl cap hcap)
      | apply bo_l | (apply nx_i <;> intro hnx) | (apply Ia.hit; assumption) | (apply Ia.miss; assumption)
      | (apply rt_is; exact rfl) | exact rt_w | (apply iv; assumption)
      | apply dw_q mixed hC hGL (by kernel_rfl) | (apply cq; assumption; (first | exact e1); exact rfl))
  all_goals (try conv => whnf)
theorem bool_load {b off : Nat} {eT : Option TypeId} {cs : List AVal} {n : Int} (hc : cs[off]? = some (.int .u32 n)) : FnSpec Tryz.prog G 81 [.raw (pv b off)] [.cells b eT cs] (fun r H => r = .ret (.bool (!eqB n 0)) ∧ H = [.cells b eT cs]) := by
  have hGL : GloAll G [] := gloAll_nil
  have e1 := at_load (G := G) (b := b) (eT := eT) hc
  refine fn_xp 0 Tryz.func81 Tryz.call81 rfl rfl rfl rfl hGL rfl ?_
  intro C hC
  repeat' (first
    | (conv => whnf); first
      | refine .w ?_ | refine .v ?_ | apply sc_true | apply sc_false
      | (first | apply sc_lt | apply sc_nlt | apply sc_eq | apply sc_neq | apply sc_nil | apply sc_nnil | apply sc_seq | apply sc_nseq) <;> (intro hb; try exact dd hb)
      | apply sc_not | apply sc_or | (apply sc_i <;> intro hb)
      | (apply bx_i; intro hbd) | (apply gt_i; assumption; exact rfl)
      | (apply cx_is; first | exact e1) | (apply cx_do (i := 0) rfl; first | exact e1)
      | (apply ab_i; intro bl) | (apply as_i; intro va vk vc hva) | (apply av_i; intro v) | (apply ac_i; intro bl cap hcap)
      | apply bo_l | (apply nx_i <;> intro hnx) | (apply Ia.hit; assumption) | (apply Ia.miss; assumption)
      | (apply rt_is; exact rfl) | exact rt_w | (apply iv; assumption)
      | apply dw_q mixed hC hGL (by kernel_rfl) | (apply cq; assumption; (first | exact e1); exact rfl))
  all_goals (try conv => whnf)
theorem b32_true : FnIs Tryz.prog G 129 [.bool true] (.int .u32 1) := by
  have hGL : GloAll G [] := gloAll_nil
  refine fn_x Tryz.func129 Tryz.call129 rfl rfl rfl rfl hGL ?_
  intro C hC
  repeat' (first
    | (conv => whnf); first
      | refine .w ?_ | refine .v ?_ | apply sc_true | apply sc_false
      | (first | apply sc_lt | apply sc_nlt | apply sc_eq | apply sc_neq | apply sc_nil | apply sc_nnil | apply sc_seq | apply sc_nseq) <;> (intro hb; try exact dd hb)
      | apply sc_not | apply sc_or | (apply sc_i <;> intro hb)
      | (apply bx_i; intro hbd) | (apply gt_i; assumption; exact rfl)
      | (apply cx_is; first | fail) | (apply cx_do (i := 0) rfl; first | fail)
      | (apply ab_i; intro bl) | (apply as_i; intro va vk vc hva) | (apply av_i; intro v) | (apply ac_i; intro bl cap hcap)
      | apply bo_l | (apply nx_i <;> intro hnx) | (apply Ia.hit; assumption) | (apply Ia.miss; assumption)
      | (apply rt_is; exact rfl) | exact rt_w | (apply iv; assumption)
      | apply dw_q mixed hC hGL (by kernel_rfl) | (apply cq; assumption; (first | fail); exact rfl))
  all_goals (try conv => whnf)
theorem bool_store {b off : Nat} {eT : Option TypeId} {cs : List AVal} {n : Int} (hc : cs[off]? = some (.int .u32 n)) (m : AMode) : DSpec Tryz.prog G 105 [.own 0 (pv b off), .bool true] m [.cells b eT cs] (fun r m' H => m' = m ∧ r = .ret (.tuple []) ∧ H = [.cells b eT (cs.set off (.int .u32 1))]) := by
  have hGL : GloAll G [] := gloAll_nil
  have e1 := at_store (G := G) (b := b) (eT := eT) (y := 1) hc
  refine ds_code (rs := []) (GL := []) Tryz.func105 rfl rfl rfl rfl hGL ?_
  intro C hC
  repeat' (first
    | (conv => whnf); first
      | refine .w ?_ | refine .v ?_ | apply sc_true | apply sc_false
      | (first | apply sc_lt | apply sc_nlt | apply sc_eq | apply sc_neq | apply sc_nil | apply sc_nnil | apply sc_seq | apply sc_nseq) <;> (intro hb; try exact dd hb)
      | apply sc_not | apply sc_or | (apply sc_i <;> intro hb)
      | (apply bx_i; intro hbd) | (apply gt_i; assumption; exact rfl)
      | (apply cx_is; first | exact e1 | exact b32_true) | (apply cx_do (i := 0) rfl; first | exact e1 | exact b32_true)
      | (apply ab_i; intro bl) | (apply as_i; intro va vk vc hva) | (apply av_i; intro v) | (apply ac_i; intro bl cap hcap)
      | apply bo_l | (apply nx_i <;> intro hnx) | (apply Ia.hit; assumption) | (apply Ia.miss; assumption)
      | (apply rt_is; exact rfl) | exact rt_w | (apply iv; assumption)
      | exact True.intro | (apply bc_i; intro C hC) | apply bt_i | apply og_n | (apply og_a; exact rfl))
  all_goals (try conv => whnf)
  refine dw_p mixed hC hGL false (fun (_ : Unit) => []) (fun _ => [.cells b eT (cs.set off (.int .u32 1))]) (.take 0 (.take 1 (.take 2 (.take 3 (.br 4 (.br 5 (.done) (.nil)) (.nil)))))) (by kernel_rfl) ?_ ?_
  · repeat' (first
      | (conv => whnf); first
        | refine .w ?_ | refine .v ?_ | apply sc_true | apply sc_false
        | (first | apply sc_lt | apply sc_nlt | apply sc_eq | apply sc_neq | apply sc_nil | apply sc_nnil | apply sc_seq | apply sc_nseq) <;> (intro hb; try exact dd hb)
        | apply sc_not | apply sc_or | (apply sc_i <;> intro hb)
        | (apply bx_i; intro hbd) | (apply gt_i; assumption; exact rfl)
        | (apply cx_is; first | exact e1 | exact b32_true) | (apply cx_do (i := 0) rfl; first | exact e1 | exact b32_true)
        | (apply ab_i; intro bl) | (apply as_i; intro va vk vc hva) | (apply av_i; intro v) | (apply ac_i; intro bl cap hcap)
        | apply bo_l | (apply nx_i <;> intro hnx) | (apply Ia.hit; assumption) | (apply Ia.miss; assumption)
        | (apply rt_is; exact rfl) | exact rt_w | (apply iv; assumption)
        | exact True.intro | (apply bc_i; intro C hC) | apply bt_i | apply og_n | (apply og_a; exact rfl))
    all_goals (try conv => whnf)
    all_goals exact ⟨(), trivial, rfl⟩
  · intro _
    repeat' (first
      | (conv => whnf); first
        | refine .w ?_ | refine .v ?_ | apply sc_true | apply sc_false
        | (first | apply sc_lt | apply sc_nlt | apply sc_eq | apply sc_neq | apply sc_nil | apply sc_nnil | apply sc_seq | apply sc_nseq) <;> (intro hb; try exact dd hb)
        | apply sc_not | apply sc_or | (apply sc_i <;> intro hb)
        | (apply bx_i; intro hbd) | (apply gt_i; assumption; exact rfl)
        | (apply cx_is; first | fail) | (apply cx_do (i := 0) rfl; first | fail)
        | (apply ab_i; intro bl) | (apply as_i; intro va vk vc hva) | (apply av_i; intro v) | (apply ac_i; intro bl cap hcap)
        | apply bo_l | (apply nx_i <;> intro hnx) | (apply Ia.hit; assumption) | (apply Ia.miss; assumption)
        | (apply rt_is; exact rfl) | exact rt_w | (apply iv; assumption)
        | exact True.intro | (apply bc_i; intro C hC) | apply bt_i | apply og_n | (apply og_a; exact rfl))
    all_goals (try conv => whnf)
end
end Go.Proofs.YtgjckfphallmeaaGreatDoor
namespace Go.Proofs.YtgjckfphallmeaaGreatDoor
open Go Go.RowKit
theorem awd_own {P : Program} {C : Ctx} {n : Nat} {c : Code} {env : Env} {H : Heap} {Q : List Deferred → AExit → Env → Heap → Prop} {k : Nat} (i : Nat) {v : Value} (hv : vAgg v = false) (hk : Env.get env k = some (.raw v)) (h : AWpD P C n c ((k, .own i v) :: env) H Q) : AWpD P C n c env H Q :=
  fun R a w hm hf => h R a w hm (fs_own hv hk hf)
theorem cx_all {P : Program} [Tab P] {G : Glo} {f : FuncId} {avs : List AVal} {H H' : Heap} {v : AVal} {K Kp : AVal → Heap → Prop} (hs : FnSpec P G f avs H (fun r H2 => r = .ret v ∧ H2 = H')) (k : K v H') : Cx P G f avs H K Kp := by
  refine ⟨_, hs, ?_, ?_⟩
  · rintro v' H2 ⟨e, rfl⟩; cases e; exact k
  · rintro v' H2 ⟨e, rfl⟩; cases e
set_option maxRecDepth 20000
set_option maxHeartbeats 4000000
set_option linter.unusedSimpArgs false
set_option linter.unusedVariables false
attribute [local irreducible] AWp AOps byteAt SrcOK OrOk GloAll FnSpec
attribute [local irreducible] DSpec Lv AWpD To
theorem once_slow {G : Glo} {b off fid : Nat} {eT : Option TypeId} {cs : List AVal} {T : Heap} {Y : Type} {cs2 : Y → List AVal} {T2 : Y → Heap} {l1 l2 : List AVal} (h0 : cs[off]? = some (.int .u32 0)) (h1 : cs[off + 1]? = some (.int .i32 0)) (k0 : ∀ y, (cs2 y)[off]? = some (.int .u32 0)) (k1 : ∀ y, (cs2 y)[off + 1]? = some (.int .i32 1))
    (hf : FnSpec Tryz.prog G fid (unownL (l1 ++ ([] ++ l2))) (.cells b eT (cs.set (off + 1) (.int .i32 1)) :: T) (fun r H => ∃ y, r = .ret (.tuple []) ∧ H = .cells b eT (cs2 y) :: T2 y)) :
    FnSpec Tryz.prog G 82 [.raw (pv b off), .func (.func fid) l1 l2] (.cells b eT cs :: T) (fun r H => ∃ y, r = .ret (.tuple []) ∧ H = .cells b eT (((cs2 y).set off (.int .u32 1)).set (off + 1) (.int .i32 0)) :: T2 y) := by
  have hGL : GloAll G [] := gloAll_nil
  have e1 := lock (G := G) (b := b) (eT := eT) h1
  have h0' : (cs.set (off + 1) (.int .i32 1))[off]? = some (.int .u32 0) := by rw [List.getElem?_set_ne (by omega)]; exact h0
  have e2 := bool_load (G := G) (b := b) (eT := eT) h0'
  refine fn_d (rs := []) Tryz.func82 Tryz.call82 rfl rfl rfl rfl ?_
  intro C hC hD
  refine awd_own (k := 0) (v := pv b off) 0 rfl rfl ?_
  refine awd_seq (awd_code hC hGL ?_)
  repeat' (first
    | (conv => whnf); first
      | refine .w ?_ | refine .v ?_ | apply sc_true | apply sc_false
      | (first | apply sc_lt | apply sc_nlt | apply sc_eq | apply sc_neq | apply sc_nil | apply sc_nnil | apply sc_seq | apply sc_nseq) <;> (intro hb; try exact dd hb)
      | apply sc_not | apply sc_or | (apply sc_i <;> intro hb)
      | (apply bx_i; intro hbd) | (apply gt_i; assumption; exact rfl)
      | (apply cx_is; first | exact e1) | (apply cx_do (i := 0) rfl; first | exact e1)
      | (apply ab_i; intro bl) | (apply as_i; intro va vk vc hva) | (apply av_i; intro v) | (apply ac_i; intro bl cap hcap)
      | apply bo_l | (apply nx_i <;> intro hnx) | (apply Ia.hit; assumption) | (apply Ia.miss; assumption)
      | (apply rt_is; exact rfl) | exact rt_w | (apply iv; assumption)
      | apply dw_q mixed hC hGL (by kernel_rfl) | (apply cq; assumption; (first | exact e1); exact rfl))
  all_goals (try conv => whnf)
  rw [forceH_eq]
  repeat' (first
    | (conv => whnf); first
      | refine .w ?_ | refine .v ?_ | apply sc_true | apply sc_false
      | (first | apply sc_lt | apply sc_nlt | apply sc_eq | apply sc_neq | apply sc_nil | apply sc_nnil | apply sc_seq | apply sc_nseq) <;> (intro hb; try exact dd hb)
      | apply sc_not | apply sc_or | (apply sc_i <;> intro hb)
      | (apply bx_i; intro hbd) | (apply gt_i; assumption; exact rfl)
      | (apply cx_is; first | fail) | (apply cx_do (i := 0) rfl; first | fail)
      | (apply ab_i; intro bl) | (apply as_i; intro va vk vc hva) | (apply av_i; intro v) | (apply ac_i; intro bl cap hcap)
      | apply bo_l | (apply nx_i <;> intro hnx) | (apply Ia.hit; assumption) | (apply Ia.miss; assumption)
      | (apply rt_is; exact rfl) | exact rt_w | (apply iv; assumption)
      | apply dw_q mixed hC hGL (by kernel_rfl) | (apply cq; assumption; (first | fail); exact rfl))
  all_goals (try conv => whnf)
  refine awd_seq (awd_defer hC hGL rfl ?_)
  repeat' (first
    | (conv => whnf); first
      | refine .w ?_ | refine .v ?_ | apply sc_true | apply sc_false
      | (first | apply sc_lt | apply sc_nlt | apply sc_eq | apply sc_neq | apply sc_nil | apply sc_nnil | apply sc_seq | apply sc_nseq) <;> (intro hb; try exact dd hb)
      | apply sc_not | apply sc_or | (apply sc_i <;> intro hb)
      | (apply bx_i; intro hbd) | (apply gt_i; assumption; exact rfl)
      | (apply cx_is; first | fail) | (apply cx_do (i := 0) rfl; first | fail)
      | (apply ab_i; intro bl) | (apply as_i; intro va vk vc hva) | (apply av_i; intro v) | (apply ac_i; intro bl cap hcap)
      | apply bo_l | (apply nx_i <;> intro hnx) | (apply Ia.hit; assumption) | (apply Ia.miss; assumption)
      | (apply rt_is; exact rfl) | exact rt_w | (apply iv; assumption)
      | apply dw_q mixed hC hGL (by kernel_rfl) | (apply cq; assumption; (first | fail); exact rfl))
  all_goals (try conv => whnf)
  refine ⟨_, rfl, ?_⟩
  refine (fun (h : ∀ C2 : Ctx, C2.G = G → C2.D = [{ target := .fn (.func 104) #[], args := #[pv b (off + 1)] }] → AWpD Tryz.prog C2 _ _ _ _ _) => h (withD C ({ target := .fn (.func 104) #[], args := #[pv b (off + 1)] } :: C.D)) hC (by show _ :: C.D = _; rw [hD])) ?_
  clear hC hD C
  intro C hC hD
  refine awd_seq (awd_code hC hGL ?_)
  repeat' (first
    | (conv => whnf); first
      | refine .w ?_ | refine .v ?_ | apply sc_true | apply sc_false
      | (first | apply sc_lt | apply sc_nlt | apply sc_eq | apply sc_neq | apply sc_nil | apply sc_nnil | apply sc_seq | apply sc_nseq) <;> (intro hb; try exact dd hb)
      | apply sc_not | apply sc_or | (apply sc_i <;> intro hb)
      | (apply bx_i; intro hbd) | (apply gt_i; assumption; exact rfl)
      | (apply cx_is; first | exact e2) | (apply cx_do (i := 0) rfl; first | exact e2)
      | (apply ab_i; intro bl) | (apply as_i; intro va vk vc hva) | (apply av_i; intro v) | (apply ac_i; intro bl cap hcap)
      | apply bo_l | (apply nx_i <;> intro hnx) | (apply Ia.hit; assumption) | (apply Ia.miss; assumption)
      | (apply rt_is; exact rfl) | exact rt_w | (apply iv; assumption)
      | apply dw_q mixed hC hGL (by kernel_rfl) | (apply cq; assumption; (first | exact e2); exact rfl))
  all_goals (try conv => whnf)
  rw [forceH_eq]
  repeat' (first
    | (conv => whnf); first
      | refine .w ?_ | refine .v ?_ | apply sc_true | apply sc_false
      | (first | apply sc_lt | apply sc_nlt | apply sc_eq | apply sc_neq | apply sc_nil | apply sc_nnil | apply sc_seq | apply sc_nseq) <;> (intro hb; try exact dd hb)
      | apply sc_not | apply sc_or | (apply sc_i <;> intro hb)
      | (apply bx_i; intro hbd) | (apply gt_i; assumption; exact rfl)
      | (apply cx_is; first | exact e2) | (apply cx_do (i := 0) rfl; first | exact e2)
      | (apply ab_i; intro bl) | (apply as_i; intro va vk vc hva) | (apply av_i; intro v) | (apply ac_i; intro bl cap hcap)
      | apply bo_l | (apply nx_i <;> intro hnx) | (apply Ia.hit; assumption) | (apply Ia.miss; assumption)
      | (apply rt_is; exact rfl) | exact rt_w | (apply iv; assumption)
      | apply dw_q mixed hC hGL (by kernel_rfl) | (apply cq; assumption; (first | exact e2); exact rfl))
  all_goals (try conv => whnf)
  refine awd_cond rfl (fun _ => ?_) (fun hb => absurd hb (by simp [eqB]))
  refine awd_seq (awd_defer hC hGL rfl ?_)
  repeat' (first
    | (conv => whnf); first
      | refine .w ?_ | refine .v ?_ | apply sc_true | apply sc_false
      | (first | apply sc_lt | apply sc_nlt | apply sc_eq | apply sc_neq | apply sc_nil | apply sc_nnil | apply sc_seq | apply sc_nseq) <;> (intro hb; try exact dd hb)
      | apply sc_not | apply sc_or | (apply sc_i <;> intro hb)
      | (apply bx_i; intro hbd) | (apply gt_i; assumption; exact rfl)
      | (apply cx_is; first | fail) | (apply cx_do (i := 0) rfl; first | fail)
      | (apply ab_i; intro bl) | (apply as_i; intro va vk vc hva) | (apply av_i; intro v) | (apply ac_i; intro bl cap hcap)
      | apply bo_l | (apply nx_i <;> intro hnx) | (apply Ia.hit; assumption) | (apply Ia.miss; assumption)
      | (apply rt_is; exact rfl) | exact rt_w | (apply iv; assumption)
      | apply dw_q mixed hC hGL (by kernel_rfl) | (apply cq; assumption; (first | fail); exact rfl))
  all_goals (try conv => whnf)
  refine ⟨_, rfl, ?_⟩
  refine awd_code (P := Tryz.prog) (C := withD C ({ target := .fn (.func 105) #[], args := #[pv b off, .bool true] } :: C.D)) (G := G) hC hGL ?_
  repeat' (first
    | (conv => whnf); first
      | refine .w ?_ | refine .v ?_ | apply sc_true | apply sc_false
      | (first | apply sc_lt | apply sc_nlt | apply sc_eq | apply sc_neq | apply sc_nil | apply sc_nnil | apply sc_seq | apply sc_nseq) <;> (intro hb; try exact dd hb)
      | apply sc_not | apply sc_or | (apply sc_i <;> intro hb)
      | (apply bx_i; intro hbd) | (apply gt_i; assumption; exact rfl)
      | (apply cx_is; first | fail) | (apply cx_do (i := 0) rfl; first | fail)
      | (apply ab_i; intro bl) | (apply as_i; intro va vk vc hva) | (apply av_i; intro v) | (apply ac_i; intro bl cap hcap)
      | apply bo_l | (apply nx_i <;> intro hnx) | (apply Ia.hit; assumption) | (apply Ia.miss; assumption)
      | (apply rt_is; exact rfl) | exact rt_w | (apply iv; assumption)
      | apply dw_q mixed hC hGL (by kernel_rfl) | (apply cq; assumption; (first | fail); exact rfl))
  all_goals (try conv => whnf)
  rw [forceL_eq]
  refine ⟨_, hf, ?_, fun v' H2 ⟨y, e, _⟩ => by cases e⟩
  rintro v' H2 ⟨y, e, rfl⟩
  cases e
  show Lv Tryz.prog _ _ _ _ ({ target := .fn (.func 105) #[], args := #[pv b off, .bool true] } :: C.D) _ _ _
  rw [hD]
  refine lv_call (ds_pre (T2 y) (bool_store (k0 y) .ret)) (fun R => ⟨_, _, rfl, rel_own.2 ⟨rfl, rfl⟩, _, _, rfl, rel_bool.2 rfl, rfl⟩) Tryz.call105 ?_
  have k1' : ((cs2 y).set off (.int .u32 1))[off + 1]? = some (.int .i32 1) := by rw [List.getElem?_set_ne (by omega)]; exact k1 y
  refine lv_call (ds_pre (T2 y) (unlock k1' .ret)) (fun R => ⟨_, _, rfl, rel_own.2 ⟨rfl, rfl⟩, rfl⟩) Tryz.call104 ?_
  refine lv_ret (P := Tryz.prog) ?_
  exact ⟨_, List.Sublist.refl _, y, rfl, rfl⟩
theorem once_do {G : Glo} {b off fid : Nat} {eT : Option TypeId} {cs : List AVal} {T : Heap} {Y : Type} {cs2 : Y → List AVal} {T2 : Y → Heap} {l1 l2 : List AVal} (h0 : cs[off]? = some (.int .u32 0)) (h1 : cs[off + 1]? = some (.int .i32 0)) (k0 : ∀ y, (cs2 y)[off]? = some (.int .u32 0)) (k1 : ∀ y, (cs2 y)[off + 1]? = some (.int .i32 1))
    (hl1 : unownL l1 = l1) (hl2 : unownL l2 = l2)
    (hf : FnSpec Tryz.prog G fid (unownL (l1 ++ ([] ++ l2))) (.cells b eT (cs.set (off + 1) (.int .i32 1)) :: T) (fun r H => ∃ y, r = .ret (.tuple []) ∧ H = .cells b eT (cs2 y) :: T2 y)) :
    FnSpec Tryz.prog G 68 [.raw (pv b off), .func (.func fid) l1 l2] (.cells b eT cs :: T) (fun r H => ∃ y, r = .ret (.tuple []) ∧ H = .cells b eT (((cs2 y).set off (.int .u32 1)).set (off + 1) (.int .i32 0)) :: T2 y) := by
  have hGL : GloAll G [] := gloAll_nil
  have e1 := bool_load (G := G) (b := b) (eT := eT) h0
  have e2 := once_slow h0 h1 k0 k1 hf
  refine fn_xp 0 Tryz.func68 Tryz.call68 rfl rfl rfl rfl hGL rfl ?_
  intro C hC
  repeat' (first
    | (conv => whnf); first
      | refine .w ?_ | refine .v ?_ | apply sc_true | apply sc_false
      | (first | apply sc_lt | apply sc_nlt | apply sc_eq | apply sc_neq | apply sc_nil | apply sc_nnil | apply sc_seq | apply sc_nseq) <;> (intro hb; try exact dd hb)
      | apply sc_not | apply sc_or | (apply sc_i <;> intro hb)
      | (apply bx_i; intro hbd) | (apply gt_i; assumption; exact rfl)
      | (apply cx_is; first | exact e1) | (apply cx_do (i := 0) rfl; first | exact e1)
      | (apply ab_i; intro bl) | (apply as_i; intro va vk vc hva) | (apply av_i; intro v) | (apply ac_i; intro bl cap hcap)
      | apply bo_l | (apply nx_i <;> intro hnx) | (apply Ia.hit; assumption) | (apply Ia.miss; assumption)
      | (apply rt_is; exact rfl) | exact rt_w | (apply iv; assumption)
      | apply dw_q mixed hC hGL (by kernel_rfl) | (apply cq; assumption; (first | exact e1); exact rfl))
  all_goals (try conv => whnf)
  rw [forceH_eq]
  repeat' (first
    | (conv => whnf); first
      | refine .w ?_ | refine .v ?_ | apply sc_true | apply sc_false
      | (first | apply sc_lt | apply sc_nlt | apply sc_eq | apply sc_neq | apply sc_nil | apply sc_nnil | apply sc_seq | apply sc_nseq) <;> (intro hb; try exact dd hb)
      | apply sc_not | apply sc_or | (apply sc_i <;> intro hb)
      | (apply bx_i; intro hbd) | (apply gt_i; assumption; exact rfl)
      | (apply cx_is; first | exact e1) | (apply cx_do (i := 0) rfl; first | exact e1)
      | (apply ab_i; intro bl) | (apply as_i; intro va vk vc hva) | (apply av_i; intro v) | (apply ac_i; intro bl cap hcap)
      | apply bo_l | (apply nx_i <;> intro hnx) | (apply Ia.hit; assumption) | (apply Ia.miss; assumption)
      | (apply rt_is; exact rfl) | exact rt_w | (apply iv; assumption)
      | apply dw_q mixed hC hGL (by kernel_rfl) | (apply cq; assumption; (first | exact e1); exact rfl))
  all_goals (try conv => whnf)
  rw [show unown (.func (.func fid) l1 l2) = .func (.func fid) l1 l2 by simp [unown, hl1, hl2]]
  refine ⟨_, e2, ?_, fun v' H2 ⟨y, e, _⟩ => by cases e⟩
  rintro v' H2 ⟨y, e, rfl⟩
  cases e
  exact ⟨_, List.Sublist.refl _, y, rfl, rfl⟩
end Go.Proofs.YtgjckfphallmeaaGreatDoor
namespace Go.Proofs.YtgjckfphallmeaaGreatDoor
open Go Go.RowKit
set_option maxRecDepth 20000
set_option maxHeartbeats 4000000
set_option linter.unusedSimpArgs false
set_option linter.unusedVariables false
attribute [local irreducible] AWp AOps SrcOK OrOk GloAll FnSpec
attribute [local irreducible] DSpec Lv AWpD To
def newC (u : Value) : List AVal := [.int .u32 0, .int .i32 0, .int .u32 0, .raw .nilIface, .own 0 u]
theorem new_replacer {G : Glo} (m : Nat) (f : Nat → AVal) (hm : m ≤ 1000) (h2 : m % 2 = 0) (hs : SrcOK 1 m f) : FnSpec Tryz.prog G 43 [.list 1 m f] [] (fun r H => ∃ bl va vk vc, RowV m va vk ∧ r = .ret (.own 1 (pv bl 0)) ∧ H = [.row (.slice va vk vc) none 1 m (rowCells m f), .cells bl (some 119) (newC (.slice va vk vc))]) := by
  have hGL : GloAll G [] := gloAll_nil
  refine fn_x Tryz.func43 Tryz.call43 rfl rfl rfl rfl hGL ?_
  intro C hC
  repeat' (first
    | (conv => whnf); first
      | refine .w ?_ | refine .v ?_ | apply sc_true | apply sc_false
      | (first | apply sc_lt | apply sc_nlt | apply sc_eq | apply sc_neq | apply sc_nil | apply sc_nnil | apply sc_seq | apply sc_nseq) <;> (intro hb; try exact dd hb)
      | apply sc_not | apply sc_or | (apply sc_i <;> intro hb)
      | (apply bx_i; intro hbd) | (apply gt_i; assumption; exact rfl)
      | (apply cx_is; first | fail) | (apply cx_do (i := 0) rfl; first | fail)
      | (apply ab_i; intro bl) | (apply as_i; intro va vk vc hva) | (apply av_i; intro v) | (apply ac_i; intro bl cap hcap)
      | apply bo_r | (apply nx_i <;> intro hnx) | (apply Ia.hit; assumption) | (apply Ia.miss; assumption)
      | (apply rt_is; exact rfl) | exact rt_w | (apply iv; assumption)
      | exact True.intro | (apply bc_i; intro C hC) | apply bt_i | apply og_n | (apply og_a; exact rfl))
  all_goals (try conv => whnf)
  exact ⟨_, List.Sublist.refl _, bl, va, vk, vc, hva, rfl, rfl⟩
abbrev escO (br vc : Nat) : HEnt := HEnt.row (.slice (some ⟨br, 0, none⟩) 8 vc) none 1 8 [.str [92], .str [92, 92], .str [44], .str [92, 44], .str [59], .str [92, 59], .str [10], .str [92, 110]]
abbrev escH (br bl vc : Nat) (cs : List AVal) (va : Option Addr) (vk vt bz b1 c1 b2 c2 b3 c3 b4 c4 : Nat) : Heap := [escO br vc, .cells bl (some 119) cs, .row (.slice va vk vt) (some 9) 1 4 [.str [10], .str [59], .str [44], .str [92]], .cells bz (some 170) (tabE (.own 4 (.slice (some ⟨b1, 0, none⟩) 2 c1)) (.own 5 (.slice (some ⟨b2, 0, none⟩) 2 c2)) (.own 6 (.slice (some ⟨b3, 0, none⟩) 2 c3)) (.own 7 (.slice (some ⟨b4, 0, none⟩) 2 c4)) (.own 2 (.slice va vk vt))), .buf b1 [92, 110] c1, .buf b2 [92, 59] c2, .buf b3 [92, 44] c3, .buf b4 [92, 92] c4]
theorem build_esc {G : Glo} (br bl vc : Nat) : FnSpec Tryz.prog G 83 [.raw (pv bl 0)] [escO br vc, .cells bl (some 119) ((newC (.slice (some ⟨br, 0, none⟩) 8 vc)).set 1 (.int .i32 1))]
    (fun r H => ∃ va vk vt bz b1 c1 b2 c2 b3 c3 b4 c4, RowV 4 va vk ∧ r = .ret (.iface 171 (.own 3 (pv bz 0))) ∧ H = escH br bl vc ((newC (.slice (some ⟨br, 0, none⟩) 8 vc)).set 1 (.int .i32 1)) va vk vt bz b1 c1 b2 c2 b3 c3 b4 c4) := by
  have hGL : GloAll G [] := gloAll_nil
  unfold newC
  refine fn_xp 1 Tryz.func83 Tryz.call83 rfl rfl rfl rfl hGL rfl ?_
  intro C hC
  repeat' (first
    | (conv => whnf); first
      | refine .w ?_ | refine .v ?_ | apply sc_true | apply sc_false
      | (first | apply sc_lt | apply sc_nlt | apply sc_eq | apply sc_neq | apply sc_nil | apply sc_nnil | apply sc_seq | apply sc_nseq) <;> (intro hb; try exact dd hb)
      | apply sc_not | apply sc_or | (apply sc_i <;> intro hb)
      | (apply bx_i; intro hbd) | (apply gt_i; assumption; exact rfl)
      | (apply cx_is; first | fail) | (apply cx_do (i := 0) rfl; first | fail)
      | (apply ab_i; intro bl) | (apply as_i; intro va vk vc hva) | (apply av_i; intro v) | (apply ac_i; intro bl cap hcap)
      | apply bo_l | (apply nx_i <;> intro hnx) | (apply Ia.hit; assumption) | (apply Ia.miss; assumption)
      | (apply rt_is; exact rfl) | exact rt_w | (apply iv; assumption)
      | exact True.intro | (apply bc_i; intro C hC) | apply bt_i | apply og_n | (apply og_a; exact rfl))
  all_goals (try conv => whnf)
  have d0 : ([.str [92], .str [92, 92], .str [44], .str [92, 44], .str [59], .str [92, 59], .str [10], .str [92, 110]] : List AVal)[0]? = some (.str [92]) := rfl
  have r0 : RowAt (.slice (some ⟨br, 0, none⟩) 8 vc) br 8 ∧ 0 < 8 * 1 := ⟨⟨_, rfl⟩, by decide⟩
  have d1 : ([.str [92], .str [92, 92], .str [44], .str [92, 44], .str [59], .str [92, 59], .str [10], .str [92, 110]] : List AVal)[1]? = some (.str [92, 92]) := rfl
  have r1 : RowAt (.slice (some ⟨br, 0, none⟩) 8 vc) br 8 ∧ 1 < 8 * 1 := ⟨⟨_, rfl⟩, by decide⟩
  have d2 : ([.str [92], .str [92, 92], .str [44], .str [92, 44], .str [59], .str [92, 59], .str [10], .str [92, 110]] : List AVal)[2]? = some (.str [44]) := rfl
  have r2 : RowAt (.slice (some ⟨br, 0, none⟩) 8 vc) br 8 ∧ 2 < 8 * 1 := ⟨⟨_, rfl⟩, by decide⟩
  have d3 : ([.str [92], .str [92, 92], .str [44], .str [92, 44], .str [59], .str [92, 59], .str [10], .str [92, 110]] : List AVal)[3]? = some (.str [92, 44]) := rfl
  have r3 : RowAt (.slice (some ⟨br, 0, none⟩) 8 vc) br 8 ∧ 3 < 8 * 1 := ⟨⟨_, rfl⟩, by decide⟩
  have d4 : ([.str [92], .str [92, 92], .str [44], .str [92, 44], .str [59], .str [92, 59], .str [10], .str [92, 110]] : List AVal)[4]? = some (.str [59]) := rfl
  have r4 : RowAt (.slice (some ⟨br, 0, none⟩) 8 vc) br 8 ∧ 4 < 8 * 1 := ⟨⟨_, rfl⟩, by decide⟩
  have d5 : ([.str [92], .str [92, 92], .str [44], .str [92, 44], .str [59], .str [92, 59], .str [10], .str [92, 110]] : List AVal)[5]? = some (.str [92, 59]) := rfl
  have r5 : RowAt (.slice (some ⟨br, 0, none⟩) 8 vc) br 8 ∧ 5 < 8 * 1 := ⟨⟨_, rfl⟩, by decide⟩
  have d6 : ([.str [92], .str [92, 92], .str [44], .str [92, 44], .str [59], .str [92, 59], .str [10], .str [92, 110]] : List AVal)[6]? = some (.str [10]) := rfl
  have r6 : RowAt (.slice (some ⟨br, 0, none⟩) 8 vc) br 8 ∧ 6 < 8 * 1 := ⟨⟨_, rfl⟩, by decide⟩
  have d7 : ([.str [92], .str [92, 92], .str [44], .str [92, 44], .str [59], .str [92, 59], .str [10], .str [92, 110]] : List AVal)[7]? = some (.str [92, 110]) := rfl
  have r7 : RowAt (.slice (some ⟨br, 0, none⟩) 8 vc) br 8 ∧ 7 < 8 * 1 := ⟨⟨_, rfl⟩, by decide⟩
  refine rds hC hGL 5 ?_
  repeat' (first
    | (conv => whnf); first
      | refine .w ?_ | refine .v ?_ | apply sc_true | apply sc_false
      | (first | apply sc_lt | apply sc_nlt | apply sc_eq | apply sc_neq | apply sc_nil | apply sc_nnil | apply sc_seq | apply sc_nseq) <;> (intro hb; try exact dd hb)
      | apply sc_not | apply sc_or | (apply sc_i <;> intro hb)
      | (apply bx_i; intro hbd) | (apply gt_i; assumption; exact rfl)
      | (apply cx_is; first | fail) | (apply cx_do (i := 0) rfl; first | fail)
      | (apply ab_i; intro bl) | (apply as_i; intro va vk vc hva) | (apply av_i; intro v) | (apply ac_i; intro bl cap hcap)
      | apply bo_l | (apply nx_i <;> intro hnx) | (apply Ia.hit; assumption) | (apply Ia.miss; assumption)
      | (apply rt_is; exact rfl) | exact rt_w | (apply iv; assumption)
      | exact True.intro | (apply bc_i; intro C hC) | apply bt_i | apply og_n | (apply og_a; exact rfl))
  all_goals (try conv => whnf)
  refine op1_makeR (m := 4) hC hGL rfl rfl (by omega) rfl rfl rfl rfl rfl rfl rfl (fun bt => ?_)
  repeat' (first
    | (conv => whnf); first
      | refine .w ?_ | refine .v ?_ | apply sc_true | apply sc_false
      | (first | apply sc_lt | apply sc_nlt | apply sc_eq | apply sc_neq | apply sc_nil | apply sc_nnil | apply sc_seq | apply sc_nseq) <;> (intro hb; try exact dd hb)
      | apply sc_not | apply sc_or | (apply sc_i <;> intro hb)
      | (apply bx_i; intro hbd) | (apply gt_i; assumption; exact rfl)
      | (apply cx_is; first | fail) | (apply cx_do (i := 0) rfl; first | fail)
      | (apply ab_i; intro bl) | (apply as_i; intro va vk vc hva) | (apply av_i; intro v) | (apply ac_i; intro bl cap hcap)
      | apply bo_l | (apply nx_i <;> intro hnx) | (apply Ia.hit; assumption) | (apply Ia.miss; assumption)
      | (apply rt_is; exact rfl) | exact rt_w | (apply iv; assumption)
      | exact True.intro | (apply bc_i; intro C hC) | apply bt_i | apply og_n | (apply og_a; exact rfl))
  all_goals (try conv => whnf)
  refine rds hC hGL 5 ?_
  repeat' (first
    | (conv => whnf); first
      | refine .w ?_ | refine .v ?_ | apply sc_true | apply sc_false
      | (first | apply sc_lt | apply sc_nlt | apply sc_eq | apply sc_neq | apply sc_nil | apply sc_nnil | apply sc_seq | apply sc_nseq) <;> (intro hb; try exact dd hb)
      | apply sc_not | apply sc_or | (apply sc_i <;> intro hb)
      | (apply bx_i; intro hbd) | (apply gt_i; assumption; exact rfl)
      | (apply cx_is; first | fail) | (apply cx_do (i := 0) rfl; first | fail)
      | (apply ab_i; intro bl) | (apply as_i; intro va vk vc hva) | (apply av_i; intro v) | (apply ac_i; intro bl cap hcap)
      | apply bo_l | (apply nx_i <;> intro hnx) | (apply Ia.hit; assumption) | (apply Ia.miss; assumption)
      | (apply rt_is; exact rfl) | exact rt_w | (apply iv; assumption)
      | exact True.intro | (apply bc_i; intro C hC) | apply bt_i | apply og_n | (apply og_a; exact rfl))
  all_goals (try conv => whnf)
  refine op1_run hC hGL (rv_bytes [10] rfl (by intro v hv; simp only [List.mem_cons, List.not_mem_nil, or_false] at hv; omega) rfl rfl rfl rfl rfl rfl) rfl rfl ?_
  repeat' (first
    | (conv => whnf); first
      | refine .w ?_ | refine .v ?_ | apply sc_true | apply sc_false
      | (first | apply sc_lt | apply sc_nlt | apply sc_eq | apply sc_neq | apply sc_nil | apply sc_nnil | apply sc_seq | apply sc_nseq) <;> (intro hb; try exact dd hb)
      | apply sc_not | apply sc_or | (apply sc_i <;> intro hb)
      | (apply bx_i; intro hbd) | (apply gt_i; assumption; exact rfl)
      | (apply cx_is; first | fail) | (apply cx_do (i := 0) rfl; first | fail)
      | (apply ab_i; intro bl) | (apply as_i; intro va vk vc hva) | (apply av_i; intro v) | (apply ac_i; intro bl cap hcap)
      | apply bo_l | (apply nx_i <;> intro hnx) | (apply Ia.hit; assumption) | (apply Ia.miss; assumption)
      | (apply rt_is; exact rfl) | exact rt_w | (apply iv; assumption)
      | exact True.intro | (apply bc_i; intro C hC) | apply bt_i | apply og_n | (apply og_a; exact rfl))
  all_goals (try conv => whnf)
  refine op1_run hC hGL (rv_bytes [59] rfl (by intro v hv; simp only [List.mem_cons, List.not_mem_nil, or_false] at hv; omega) rfl rfl rfl rfl rfl rfl) rfl rfl ?_
  repeat' (first
    | (conv => whnf); first
      | refine .w ?_ | refine .v ?_ | apply sc_true | apply sc_false
      | (first | apply sc_lt | apply sc_nlt | apply sc_eq | apply sc_neq | apply sc_nil | apply sc_nnil | apply sc_seq | apply sc_nseq) <;> (intro hb; try exact dd hb)
      | apply sc_not | apply sc_or | (apply sc_i <;> intro hb)
      | (apply bx_i; intro hbd) | (apply gt_i; assumption; exact rfl)
      | (apply cx_is; first | fail) | (apply cx_do (i := 0) rfl; first | fail)
      | (apply ab_i; intro bl) | (apply as_i; intro va vk vc hva) | (apply av_i; intro v) | (apply ac_i; intro bl cap hcap)
      | apply bo_l | (apply nx_i <;> intro hnx) | (apply Ia.hit; assumption) | (apply Ia.miss; assumption)
      | (apply rt_is; exact rfl) | exact rt_w | (apply iv; assumption)
      | exact True.intro | (apply bc_i; intro C hC) | apply bt_i | apply og_n | (apply og_a; exact rfl))
  all_goals (try conv => whnf)
  refine op1_run hC hGL (rv_bytes [44] rfl (by intro v hv; simp only [List.mem_cons, List.not_mem_nil, or_false] at hv; omega) rfl rfl rfl rfl rfl rfl) rfl rfl ?_
  repeat' (first
    | (conv => whnf); first
      | refine .w ?_ | refine .v ?_ | apply sc_true | apply sc_false
      | (first | apply sc_lt | apply sc_nlt | apply sc_eq | apply sc_neq | apply sc_nil | apply sc_nnil | apply sc_seq | apply sc_nseq) <;> (intro hb; try exact dd hb)
      | apply sc_not | apply sc_or | (apply sc_i <;> intro hb)
      | (apply bx_i; intro hbd) | (apply gt_i; assumption; exact rfl)
      | (apply cx_is; first | fail) | (apply cx_do (i := 0) rfl; first | fail)
      | (apply ab_i; intro bl) | (apply as_i; intro va vk vc hva) | (apply av_i; intro v) | (apply ac_i; intro bl cap hcap)
      | apply bo_l | (apply nx_i <;> intro hnx) | (apply Ia.hit; assumption) | (apply Ia.miss; assumption)
      | (apply rt_is; exact rfl) | exact rt_w | (apply iv; assumption)
      | exact True.intro | (apply bc_i; intro C hC) | apply bt_i | apply og_n | (apply og_a; exact rfl))
  all_goals (try conv => whnf)
  refine op1_run hC hGL (rv_bytes [92] rfl (by intro v hv; simp only [List.mem_cons, List.not_mem_nil, or_false] at hv; omega) rfl rfl rfl rfl rfl rfl) rfl rfl ?_
  repeat' (first
    | (conv => whnf); first
      | refine .w ?_ | refine .v ?_ | apply sc_true | apply sc_false
      | (first | apply sc_lt | apply sc_nlt | apply sc_eq | apply sc_neq | apply sc_nil | apply sc_nnil | apply sc_seq | apply sc_nseq) <;> (intro hb; try exact dd hb)
      | apply sc_not | apply sc_or | (apply sc_i <;> intro hb)
      | (apply bx_i; intro hbd) | (apply gt_i; assumption; exact rfl)
      | (apply cx_is; first | fail) | (apply cx_do (i := 0) rfl; first | fail)
      | (apply ab_i; intro bl) | (apply as_i; intro va vk vc hva) | (apply av_i; intro v) | (apply ac_i; intro bl cap hcap)
      | apply bo_l | (apply nx_i <;> intro hnx) | (apply Ia.hit; assumption) | (apply Ia.miss; assumption)
      | (apply rt_is; exact rfl) | exact rt_w | (apply iv; assumption)
      | exact True.intro | (apply bc_i; intro C hC) | apply bt_i | apply og_n | (apply og_a; exact rfl))
  all_goals (try conv => whnf)
  exact ⟨_, List.Sublist.refl _, _, _, _, _, _, _, _, _, _, _, _, _, by assumption, rfl, rfl⟩
attribute [local irreducible] tabE
/-- What a replacer's building leaves. -/
structure EscY where
  va : Option Addr
  vk : Nat
  vt : Nat
  bz : Nat
  b1 : Nat
  c1 : Nat
  b2 : Nat
  c2 : Nat
  b3 : Nat
  c3 : Nat
  b4 : Nat
  c4 : Nat
  h : RowV 4 va vk
abbrev EscY.H (y : EscY) (br bl vc : Nat) (cs : List AVal) : Heap := escH br bl vc cs y.va y.vk y.vt y.bz y.b1 y.c1 y.b2 y.c2 y.b3 y.c3 y.b4 y.c4
abbrev escA (y : EscY) : List AVal := [.int .u32 0, .int .i32 1, .int .u32 0, .iface 171 (.own 3 (pv y.bz 0)), .raw (.slice none 0 0)]
abbrev escQ (y : EscY) : List AVal := [.int .u32 1, .int .i32 0, .int .u32 0, .iface 171 (.own 3 (pv y.bz 0)), .raw (.slice none 0 0)]
theorem once_esc {G : Glo} (br bl vc : Nat) : FnSpec Tryz.prog G 69 [.raw (pv bl 0)] [escO br vc, .cells bl (some 119) ((newC (.slice (some ⟨br, 0, none⟩) 8 vc)).set 1 (.int .i32 1))]
    (fun r H => ∃ y : EscY, r = .ret (.tuple []) ∧ H = y.H br bl vc (escA y)) := by
  have hGL : GloAll G [] := gloAll_nil
  have e1 := build_esc (G := G) br bl vc
  unfold newC at *
  refine fn_xp 1 Tryz.func69 Tryz.call69 rfl rfl rfl rfl hGL rfl ?_
  intro C hC
  repeat' (first
    | (conv => whnf); first
      | refine .w ?_ | (first | refine Ix.v ?_ | refine Sd.v ?_ | refine Sl.v ?_) | apply sc_true | apply sc_false
      | (first | apply sc_lt | apply sc_nlt | apply sc_eq | apply sc_neq | apply sc_nil | apply sc_nnil) <;> (intro hb; try exact dd hb)
      | apply sc_not | (apply sc_i <;> intro hb) | (apply bx_i; intro hbd) | (apply gt_i; assumption; exact rfl)
      | (apply cx_is; first | fail) | (apply ab_i; intro bl) | (apply rt_is; exact rfl) | exact rt_w
      | exact True.intro | (apply bc_i; intro C hC) | apply bt_i | apply og_n | (apply og_a; exact rfl))
  all_goals (try conv => whnf)
  refine ⟨_, e1, ?_, ?_⟩
  · rintro v' H2 ⟨va, vk, vt, bz, b1, c1, b2, c2, b3, c3, b4, c4, hva, e, rfl⟩
    cases e
    repeat' (first
      | (conv => whnf); first
        | refine .w ?_ | (first | refine Ix.v ?_ | refine Sd.v ?_ | refine Sl.v ?_) | apply sc_true | apply sc_false
        | (first | apply sc_lt | apply sc_nlt | apply sc_eq | apply sc_neq | apply sc_nil | apply sc_nnil) <;> (intro hb; try exact dd hb)
        | apply sc_not | (apply sc_i <;> intro hb) | (apply bx_i; intro hbd) | (apply gt_i; assumption; exact rfl)
        | (apply cx_is; first | fail) | (apply ab_i; intro bl) | (apply rt_is; exact rfl) | exact rt_w
        | exact True.intro | (apply bc_i; intro C hC) | apply bt_i | apply og_n | (apply og_a; exact rfl))
    all_goals (try conv => whnf)
    exact ⟨_, List.Sublist.refl _, ⟨va, vk, vt, bz, b1, c1, b2, c2, b3, c3, b4, c4, hva⟩, rfl, rfl⟩
  · rintro v' H2 ⟨va, vk, vt, bz, b1, c1, b2, c2, b3, c3, b4, c4, hva, e, rfl⟩
    cases e
theorem do_esc {G : Glo} (br bl vc : Nat) : FnSpec Tryz.prog G 68 [.raw (pv bl 0), .func (.func 69) [.raw (pv bl 0)] []] [escO br vc, .cells bl (some 119) (newC (.slice (some ⟨br, 0, none⟩) 8 vc))]
    (fun r H => ∃ y : EscY, r = .ret (.tuple []) ∧ H = y.H br bl vc (escQ y)) := by
  have e1 := once_esc (G := G) br bl vc
  have e2 := once_do (G := G) (b := bl) (off := 0) (fid := 69) (eT := some 119) (cs := newC (.slice (some ⟨br, 0, none⟩) 8 vc)) (T := [escO br vc]) (Y := EscY) (cs2 := escA) (T2 := fun y => (y.H br bl vc (escA y)).eraseIdx 1) (l1 := [.raw (pv bl 0)]) (l2 := []) rfl rfl (fun _ => rfl) (fun _ => rfl) rfl rfl
    (by
      refine fn_heap (fn_perm (List.Perm.swap _ _ _) e1) ?_
      rintro r H ⟨y, rfl, rfl⟩
      exact ⟨_, List.Perm.swap _ _ _, y, rfl, rfl⟩)
  refine fn_heap (fn_perm (List.Perm.swap _ _ _) e2) ?_
  rintro r H ⟨y, rfl, rfl⟩
  exact ⟨_, List.Perm.swap _ _ _, y, rfl, rfl⟩
end Go.Proofs.YtgjckfphallmeaaGreatDoor
