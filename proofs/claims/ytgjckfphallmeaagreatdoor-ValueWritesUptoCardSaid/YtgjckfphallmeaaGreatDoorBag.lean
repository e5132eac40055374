/- Parts of the proof of valueWrites_card: Cpy, Wha, Mxc, Whb, Vld, Lao, Def, Deg, Deh, Vle, Vlf, Vlg, End, Han, Upt, Lai. -/
import Derived.Laws.IdiomCopy
import Derived.Defers
import Derived.Recover
import Derived.Test.YtgjckfphallmeaaGreatDoorRows
import Derived.ProofKit
import Derived.LaidMore
import Derived.Lay
import Derived.Stop.Joined
import Derived.LaidSub
import Derived.LaidHandle
import Derived.OpenShut
import Derived.Deep.Strs
import Derived.Lib.ItoaNum
import Derived.Shelf.Vars
import Derived.SizedLaws
import Derived.Test.YtgjckfphallmeaaGreatDoorBaf
import Derived.Test.YtgjckfphallmeaaGreatDoorBae
import Derived.Test.YtgjckfphallmeaaGreatDoorBad
namespace Go.Proofs.YtgjckfphallmeaaGreatDoor
open Go Go.RowKit
set_option linter.unusedSectionVars false
section
variable {P : Program} [Tab P] {C : Ctx} {n : Nat} {env : Env} {H : Heap} {Q : AExit → Env → Heap → Prop} {ops : Array Oper} {rest : List Oper} {G : Glo} {GL : List (Nat × List AVal)}
variable {d : Nat} {t : TypeId} {p : String} {af : Array Edge} {g : Option (Nat × Bool)} {b : Bool}
variable {x y : Operand} {T T2 e : TypeId} {xT xe : TI}
theorem ownB_put {s s2 : List UInt8} {cap o : Nat} (ho : o + s2.length ≤ s.length) (hc : s.length ≤ cap) :
    ownB (s.take o ++ s2 ++ s.drop (o + s2.length)) cap = (ownB s cap).take o ++ s2.map byteA ++ (ownB s cap).drop (o + s2.length) := by
  have e : (s.take o ++ s2 ++ s.drop (o + s2.length)).length = s.length := by
    simp only [List.length_append, List.length_take, List.length_drop]; omega
  unfold ownB
  rw [e, List.map_append, List.map_append, List.map_take, List.map_drop]
  rw [List.take_append_of_le_length (by simp; omega), List.drop_append_of_le_length (by simp; omega), ← List.append_assoc]
theorem run_copy_op {ρ : Operand → Value} {ty : TypeId} {w w' : World} {a c u : Value} (ha : ρ x = a) (hc : ρ y = c) (hr : (Builtin.copy_ #[T, T2] t #[a, c]).run P w = .ok u w') :
    (execOp ρ { dst := some d, op := .call { callee := .builtin .copy, args := #[x, y], argTypes := #[T, T2] }, type := t, pos := p, after := af, guard := g }).run P w = .ok (.value u) w' := by
  simp only [execOp, resolve, Sem.run_bind, Sem.run_pure, Result.andThen_ok, invoke, List.map_toArray, List.map_cons, List.map_nil, ha, hc]
  simp only [builtin, Sem.run_bind, hr, Result.andThen_ok, Sem.run_pure]
theorem op1_copyB {i j bl o l c b2 c2 cap cap2 : Nat} {s s2 : List UInt8} (hC : C.G = G) (hGL : GloAll G GL) (hx : evalA env x = some (.own i (.slice (some ⟨bl, o, none⟩) l c))) (hy : evalA env y = some (.own j (.slice (some ⟨b2, 0, none⟩) s2.length c2)))
    (hi : H[i]? = some (.buf bl s cap)) (hj : H[j]? = some (.buf b2 s2 cap2)) (ho : o + s2.length ≤ s.length) (hl : s2.length ≤ l) (ht : tab P T = some xT) (hd : xT.desc = .slice e) (he : tab P e = some xe) (hs : xe.size = 1)
    (hg : guardA ops env g = some (b, b)) (hdn : Nat.ble (d + 1) n = true)
    (k : opsX P C n G GL ops Q rest ((d, .int .i64 s2.length) :: env) (H.set i (.buf bl (s.take o ++ s2 ++ s.drop (o + s2.length)) cap))) :
    Op1 P C n ops ({ dst := some d, op := .call { callee := .builtin .copy, args := #[x, y], argTypes := #[T, T2] }, type := t, pos := p, after := af, guard := g } :: rest) env H Q := by
  refine ⟨ao_val hg rfl hdn (av := .int .i64 s2.length) (H' := H.set i (.buf bl (s.take o ++ s2 ++ s.drop (o + s2.length)) cap)) (fun R ρ w hm hf => ?_) (opsX_ok hC hGL _ _ _ k)⟩
  obtain ⟨hcap, Cs, e1, fz, hb, hrel, hfz⟩ := hm.heap.holds _ (List.mem_of_getElem? hi)
  obtain ⟨hcap2, Cs2, e2, fz2, hb2, hrel2, hfz2⟩ := hm.heap.holds _ (List.mem_of_getElem? hj)
  have hlen := relL_length hrel
  have hown : (ownB s cap).length = cap := by simp [ownB]; omega
  rw [hown, Array.length_toList] at hlen
  obtain ⟨ti, hti, his, _, _, _⟩ := tab_info he
  have hn1 : (s2.map fun c => Value.int .u8 (c.toNat : Int)).length = s2.length := by simp
  have hone : ∀ v ∈ s2.map (fun c => Value.int .u8 (c.toNat : Int)), v.oneCell' = true := by
    intro v hv
    obtain ⟨c, _, rfl⟩ := List.mem_map.1 hv
    rfl
  have hcell : ∀ j, j < (s2.map fun c => Value.int .u8 (c.toNat : Int)).length → (w.cell? ⟨bl, o + j, none⟩).isSome = true := by
    intro j hj
    rw [hn1] at hj
    simp only [World.cell?, hb]
    simp
    omega
  have hfro : ∀ j, j < (s2.map fun c => Value.int .u8 (c.toNat : Int)).length → w.frozen? ⟨bl, o + j, none⟩ = false := by
    intro j hj
    rw [hn1] at hj
    obtain ⟨lo, hi'⟩ := fz
    simp only [World.frozen?, hb, Loose] at hfz ⊢
    simp
    omega
  have hsrc : ∀ j v, (s2.map fun c => Value.int .u8 (c.toNat : Int))[j]? = some v → w.cell? ((⟨b2, 0, none⟩ : Addr).add j) = some v := by
    intro j v hv
    have hj2 : j < s2.length := by
      have := (List.getElem?_eq_some_iff.1 hv).1
      simpa using this
    rw [List.getElem?_map, List.getElem?_eq_getElem hj2] at hv
    simp only [Option.map_some, Option.some.injEq] at hv
    have hg2 : (ownB s2 cap2)[j]? = some (byteA s2[j]) := by
      unfold ownB
      rw [List.getElem?_append_left (by simpa using hj2), List.getElem?_map, List.getElem?_eq_getElem hj2]
      rfl
    obtain ⟨u, hu, hr⟩ := relL_get hrel2 hg2
    simp only [byteA, RelC, List.cons.injEq, and_true] at hr
    subst hr
    subst hv
    have hadd : (⟨b2, 0, none⟩ : Addr).add j = ⟨b2, j, none⟩ := by
      simp only [Addr.add]
      by_cases h0 : j = 0
      · simp [h0]
      · simp [h0]
    rw [hadd]
    simp only [World.cell?, hb2]
    simpa using hu
  have hr := run_copy_cells (P := P) w T T2 t e bl o l c ⟨b2, 0, none⟩ s2.length c2 _ (by rw [tab_und ht, hd]) (by rw [hti]; simp [his, hs]) (by rw [hn1]; exact (Nat.min_eq_left hl).symm) hsrc hcell hfro hone
  have hrun := run_copy_op (ty := t) (d := d) (p := p) (af := af) (g := g) (rel_own.1 (hf _ _ hx)).1 (rel_own.1 (hf _ _ hy)).1 hr
  obtain ⟨w', hw', ho'⟩ := storeCells_run (P := P) (s2.map fun c => Value.int .u8 (c.toNat : Int)) o 0 Cs w hb (by rw [hn1]; omega) hfz (fun u hu => by
    obtain ⟨c, _, rfl⟩ := List.mem_map.1 hu
    exact ⟨rfl, fun a h => by cases h⟩)
  have hst := run_storeCells_cells (P := P) bl o (s2.map fun c => Value.int .u8 (c.toNat : Int)) 0 w (by simpa using hcell) (by simpa using hfro) hone
  rw [hst] at hw'
  simp only [Result.ok.injEq, true_and] at hw'
  simp only [Nat.add_zero] at hw' ho'
  refine ⟨_, _, R, hrun, Seal.le_refl R, ?_, ?_⟩
  · rw [hn1]; exact rel_int.2 rfl
  · rw [hw']
    refine hm.write hi rfl ho' rfl ⟨?_, _, _, _, ho'.at_, ?_, ?_⟩
    · simp only [List.length_append, List.length_take, List.length_drop]; omega
    · rw [ownB_put ho hcap, hn1]
      exact relL_append (relL_append (relL_take _ hrel) (relL_bytes R s2)) (relL_drop _ hrel)
    · have : ((Cs.toList.take o ++ (s2.map fun c => Value.int .u8 (c.toNat : Int)) ++ Cs.toList.drop (o + (s2.map fun c => Value.int .u8 (c.toNat : Int)).length)).toArray).size = Cs.size := by
        simp only [List.size_toArray, List.length_append, List.length_take, List.length_drop, Array.length_toList, hn1]; omega
      rw [this]
      exact hfz
/-- dst[o:]. -/
theorem op1_sliceB {i bl l c o : Nat} {k0 : IntKind} (hC : C.G = G) (hGL : GloAll G GL) (hx : evalA env x = some (.own i (.slice (some ⟨bl, 0, none⟩) l c))) (hy : evalA env y = some (.int k0 (o : Int))) (ho : o ≤ l) (hoc : o < c) (ht : tab P T = some xT) (hd : xT.desc = .slice e) (he : tab P e = some xe) (hs : xe.size = 1)
    (hg : guardA ops env g = some (b, b)) (hdn : Nat.ble (d + 1) n = true)
    (k : opsX P C n G GL ops Q rest ((d, .own i (.slice (some ⟨bl, o, none⟩) (l - o) (c - o))) :: env) H) :
    Op1 P C n ops ({ dst := some d, op := .slice T x (some y) none none, type := t, pos := p, after := af, guard := g } :: rest) env H Q := by
  refine ⟨ao_val hg rfl hdn (av := .own i (.slice (some ⟨bl, o, none⟩) (l - o) (c - o))) (H' := H) (fun R ρ w hm hf => ?_) (opsX_ok hC hGL _ _ _ k)⟩
  have hel : P.elem T = e := by simp [Program.elem, tab_und ht, hd]
  have hr := run_slice_l (P := P) w T (some ⟨bl, 0, none⟩) l c (by rw [tab_und ht, hd, hel]) k0 (o : Int) (by omega) (by omega)
  have hsz := tab_run_size he w
  refine ⟨.slice (some ⟨bl, o, none⟩) (l - o) (c - o), w, R, ?_, Seal.le_refl R, rel_own.2 ⟨rfl, rfl⟩, hm⟩
  simp only [execOp, (rel_own.1 (hf _ _ hx)).1, Option.map_some, Option.map_none, rel_int.1 (hf _ _ hy), Sem.run_bind, run_sliceAt_slice w T _ _ _ _ (show P.underlying T = some (.slice (P.elem T)) by rw [tab_und ht, hd, hel]), hr, hel, hsz, Result.andThen_ok, Sem.run_pure]
  simp only [sliced, Int.toNat_natCast]
  rw [if_neg (by omega)]
  simp [hs, Addr.add]
  by_cases h0 : o = 0
  · simp [h0]
  · simp [h0]
end
end Go.Proofs.YtgjckfphallmeaaGreatDoor
namespace Go.Proofs.YtgjckfphallmeaaGreatDoor
open Go Go.RowKit
set_option maxRecDepth 20000
set_option maxHeartbeats 4000000
set_option linter.unusedSimpArgs false
set_option linter.unusedVariables false
attribute [local irreducible] AWp AOps SrcOK OrOk GloAll FnSpec byteAt
abbrev threeL (a b c : Int) : AVal := .list 1 3 (partElem [(0, .int .i64 a), (1, .int .i64 b), (2, .int .i64 c)])
theorem when_form {G : Glo} (a b c : Int) : FnIs Tryz.prog G 46 [threeL a b c] (.str (fmS (tlB a) (tlB b) (tlB c))) := by
  by_cases h1 : a = -1
  all_goals by_cases h2 : b = -1
  all_goals by_cases h3 : c = -1
  all_goals
    have hGL : GloAll G [] := gloAll_nil
    refine fn_x Tryz.func46 Tryz.call46 rfl rfl rfl rfl hGL ?_
    intro C hC
    repeat' (first
      | (conv => whnf); first
        | refine .w ?_ | refine .v ?_ | apply sc_true | apply sc_false
        | (first | apply sc_lt | apply sc_nlt | apply sc_eq | apply sc_neq | apply sc_nil | apply sc_nnil | apply sc_seq | apply sc_nseq) <;> (intro hb; try exact dd hb)
        | apply sc_not | apply sc_or | (apply sc_i <;> intro hb)
        | (apply bx_i; intro hbd) | (apply gt_i; assumption; exact rfl)
        | (apply cx_is; first | fail) | (apply cx_do (i := 0) rfl; first | fail)
        | (apply ab_i; intro bl) | (apply as_i; intro va vk vc hva) | (apply av_i; intro v) | (apply ac_i; intro bl cap hcap)
        | apply bo_l | (apply nx_i <;> intro hnx) | (apply Ia.hit; assumption) | (apply Ia.miss; assumption)
        | (apply rt_is; exact rfl) | exact rt_w | (apply iv; assumption)
        | apply dw_q mixed hC hGL (by kernel_rfl) | (apply cq; assumption; (first | fail); exact rfl))
    all_goals (try conv => whnf)
    refine op1_makeB (m := 3) hC hGL rfl rfl (by omega) rfl rfl rfl rfl rfl rfl rfl rfl (fun bo => ?_)
    repeat' (first
      | (conv => whnf); first
        | refine .w ?_ | refine .v ?_ | apply sc_true | apply sc_false
        | (first | apply sc_lt | apply sc_nlt | apply sc_eq | apply sc_neq | apply sc_nil | apply sc_nnil | apply sc_seq | apply sc_nseq) <;> (intro hb; try exact dd hb)
        | apply sc_not | apply sc_or | (apply sc_i <;> intro hb)
        | (apply bx_i; intro hbd) | (apply gt_i; assumption; exact rfl)
        | (apply cx_is; first | fail) | (apply cx_do (i := 0) rfl; first | fail)
        | (apply ab_i; intro bl) | (apply as_i; intro va vk vc hva) | (apply av_i; intro v) | (apply ac_i; intro bl cap hcap)
        | apply bo_l | (apply nx_i <;> intro hnx) | (apply Ia.hit; assumption) | (apply Ia.miss; assumption)
        | (apply rt_is; exact rfl) | exact rt_w | (apply iv; assumption)
        | apply dw_q mixed hC hGL (by kernel_rfl) | (apply cq; assumption; (first | fail); exact rfl))
    all_goals (try conv => whnf)
    refine rds hC hGL 4 ?_
    repeat' (first
      | (conv => whnf); first
        | refine .w ?_ | refine .v ?_ | apply sc_true | apply sc_false
        | (first | apply sc_lt | apply sc_nlt | apply sc_eq | apply sc_neq | apply sc_nil | apply sc_nnil | apply sc_seq | apply sc_nseq) <;> (intro hb; try exact dd hb)
        | apply sc_not | apply sc_or | (apply sc_i <;> intro hb)
        | (apply bx_i; intro hbd) | (apply gt_i; assumption; exact rfl)
        | (apply cx_is; first | fail) | (apply cx_do (i := 0) rfl; first | fail)
        | (apply ab_i; intro bl) | (apply as_i; intro va vk vc hva) | (apply av_i; intro v) | (apply ac_i; intro bl cap hcap)
        | apply bo_l | (apply nx_i <;> intro hnx) | (apply Ia.hit; assumption) | (apply Ia.miss; assumption)
        | (apply rt_is; exact rfl) | exact rt_w | (apply iv; assumption)
        | apply dw_q mixed hC hGL (by kernel_rfl) | (apply cq; assumption; (first | fail); exact rfl))
    all_goals (try conv => whnf)
    refine sp_i ⟨rfl, rfl⟩ ?_
    apply rt_is
    simp only [tlB, h1, h2, h3, ne_eq, not_true_eq_false, not_false_eq_true, decide_true, decide_false]
    rfl
theorem when_within {G : Glo} (n lo hi : Int) : FnIs Tryz.prog G 53 [.int .i64 n, .int .i64 lo, .int .i64 hi] (.bool (witB n lo hi)) := by
  have hGL : GloAll G [] := gloAll_nil
  refine fn_x Tryz.func53 Tryz.call53 rfl rfl rfl rfl hGL ?_
  intro C hC
  repeat' (first
    | (conv => whnf); first
      | refine .w ?_ | refine .v ?_ | apply sc_true | apply sc_false
      | (first | apply sc_lt | apply sc_nlt | apply sc_eq | apply sc_neq | apply sc_nil | apply sc_nnil | apply sc_seq | apply sc_nseq) <;> (intro hb; try exact dd hb)
      | apply sc_not | apply sc_or | (apply sc_i <;> intro hb)
      | (apply bx_i; intro hbd) | (apply gt_i; assumption; exact rfl)
      | (apply cx_is; first | fail) | (apply cx_do (i := 0) rfl; first | fail)
      | (apply ab_i; intro bl) | (apply as_i; intro va vk vc hva) | (apply av_i; intro v) | (apply ac_i; intro bl cap hcap)
      | apply bo_l | (apply nx_i <;> intro hnx) | (apply Ia.hit; assumption) | (apply Ia.miss; assumption)
      | (apply rt_is; exact rfl) | exact rt_w | (apply iv; assumption)
      | apply dw_q mixed hC hGL (by kernel_rfl) | (apply cq; assumption; (first | fail); exact rfl))
  all_goals (try conv => whnf)
  all_goals (apply rt_is; refine congrArg AVal.bool ?_; rw [Bool.eq_iff_iff]; simp only [witB_t, reduceCtorEq, false_iff, true_iff, Bool.not_eq_true', ltB_f]; omega)
theorem when_Days {G : Glo} (y m : Int) : FnIs Tryz.prog G 52 [.int .i64 y, .int .i64 m] (.int .i64 (dayN y m)) := by
  have hGL : GloAll G [] := gloAll_nil
  refine fn_x Tryz.func52 Tryz.call52 rfl rfl rfl rfl hGL ?_
  intro C hC
  repeat' (first
    | (conv => whnf); first
      | refine .w ?_ | refine .v ?_ | apply sc_true | apply sc_false
      | (first | apply sc_lt | apply sc_nlt | apply sc_eq | apply sc_neq | apply sc_nil | apply sc_nnil | apply sc_seq | apply sc_nseq) <;> (intro hb; try exact dd hb)
      | apply sc_not | apply sc_or | (apply sc_i <;> intro hb)
      | (apply bx_i; intro hbd) | (apply gt_i; assumption; exact rfl)
      | (apply cx_is; first | fail) | (apply cx_do (i := 0) rfl; first | fail)
      | (apply ab_i; intro bl) | (apply as_i; intro va vk vc hva) | (apply av_i; intro v) | (apply ac_i; intro bl cap hcap)
      | apply bo_l | (apply nx_i <;> intro hnx) | (apply Ia.hit; assumption) | (apply Ia.miss; assumption)
      | (apply rt_is; exact rfl) | exact rt_w | (apply iv; assumption)
      | apply dw_q mixed hC hGL (by kernel_rfl) | (apply cq; assumption; (first | fail); exact rfl))
  all_goals (try conv => whnf)
  all_goals (apply rt_is; refine congrArg (AVal.int .i64) ?_; unfold dayN; (repeat' split) <;> omega)
theorem when_two {G : Glo} (n : Int) (h0 : 0 ≤ n) (h1 : n < 100) : FnIs Tryz.prog G 47 [.int .i64 n, .int .i64 2] (.str (twoS n)) := by
  have hGL : GloAll G [] := gloAll_nil
  refine fn_x Tryz.func47 Tryz.call47 rfl rfl rfl rfl hGL ?_
  intro C hC
  repeat' (first
    | (conv => whnf); first
      | refine .w ?_ | refine .v ?_ | apply sc_true | apply sc_false
      | (first | apply sc_lt | apply sc_nlt | apply sc_eq | apply sc_neq | apply sc_nil | apply sc_nnil | apply sc_seq | apply sc_nseq) <;> (intro hb; try exact dd hb)
      | apply sc_not | apply sc_or | (apply sc_i <;> intro hb)
      | (apply bx_i; intro hbd) | (apply gt_i; assumption; exact rfl)
      | (apply cx_is; first | fail) | (apply cx_do (i := 0) rfl; first | fail)
      | (apply ab_i; intro bl) | (apply as_i; intro va vk vc hva) | (apply av_i; intro v) | (apply ac_i; intro bl cap hcap)
      | apply bo_l | (apply nx_i <;> intro hnx) | (apply Ia.hit; assumption) | (apply Ia.miss; assumption)
      | (apply rt_is; exact rfl) | exact rt_w | (apply iv; assumption)
      | apply dw_q mixed hC hGL (by kernel_rfl) | (apply cq; assumption; (first | fail); exact rfl))
  all_goals (try conv => whnf)
  refine op1_makeB (m := 2) hC hGL rfl rfl (by omega) rfl rfl rfl rfl rfl rfl rfl rfl (fun bo => ?_)
  repeat' (first
    | (conv => whnf); first
      | refine .w ?_ | refine .v ?_ | apply sc_true | apply sc_false
      | (first | apply sc_lt | apply sc_nlt | apply sc_eq | apply sc_neq | apply sc_nil | apply sc_nnil | apply sc_seq | apply sc_nseq) <;> (intro hb; try exact dd hb)
      | apply sc_not | apply sc_or | (apply sc_i <;> intro hb)
      | (apply bx_i; intro hbd) | (apply gt_i; assumption; exact rfl)
      | (apply cx_is; first | fail) | (apply cx_do (i := 0) rfl; first | fail)
      | (apply ab_i; intro bl) | (apply as_i; intro va vk vc hva) | (apply av_i; intro v) | (apply ac_i; intro bl cap hcap)
      | apply bo_l | (apply nx_i <;> intro hnx) | (apply Ia.hit; assumption) | (apply Ia.miss; assumption)
      | (apply rt_is; exact rfl) | exact rt_w | (apply iv; assumption)
      | apply dw_q mixed hC hGL (by kernel_rfl) | (apply cq; assumption; (first | fail); exact rfl))
  all_goals (try conv => whnf)
  refine rds hC hGL 3 ?_
  repeat' (first
    | (conv => whnf); first
      | refine .w ?_ | refine .v ?_ | apply sc_true | apply sc_false
      | (first | apply sc_lt | apply sc_nlt | apply sc_eq | apply sc_neq | apply sc_nil | apply sc_nnil | apply sc_seq | apply sc_nseq) <;> (intro hb; try exact dd hb)
      | apply sc_not | apply sc_or | (apply sc_i <;> intro hb)
      | (apply bx_i; intro hbd) | (apply gt_i; assumption; exact rfl)
      | (apply cx_is; first | fail) | (apply cx_do (i := 0) rfl; first | fail)
      | (apply ab_i; intro bl) | (apply as_i; intro va vk vc hva) | (apply av_i; intro v) | (apply ac_i; intro bl cap hcap)
      | apply bo_l | (apply nx_i <;> intro hnx) | (apply Ia.hit; assumption) | (apply Ia.miss; assumption)
      | (apply rt_is; exact rfl) | exact rt_w | (apply iv; assumption)
      | apply dw_q mixed hC hGL (by kernel_rfl) | (apply cq; assumption; (first | fail); exact rfl))
  all_goals (try conv => whnf)
  refine sp_i ⟨rfl, rfl⟩ ?_
  apply rt_is
  refine congrArg AVal.str ?_
  show [UInt8.ofNat (48 + n / 10 % 10).toNat, UInt8.ofNat (48 + n % 10).toNat] = twoS n
  rw [show n / 10 % 10 = n / 10 by omega]
  rfl
theorem when_four {G : Glo} (n : Int) (h0 : 0 ≤ n) (h1 : n < 10000) : FnIs Tryz.prog G 47 [.int .i64 n, .int .i64 4] (.str (fourS n)) := by
  have hGL : GloAll G [] := gloAll_nil
  refine fn_x Tryz.func47 Tryz.call47 rfl rfl rfl rfl hGL ?_
  intro C hC
  repeat' (first
    | (conv => whnf); first
      | refine .w ?_ | refine .v ?_ | apply sc_true | apply sc_false
      | (first | apply sc_lt | apply sc_nlt | apply sc_eq | apply sc_neq | apply sc_nil | apply sc_nnil | apply sc_seq | apply sc_nseq) <;> (intro hb; try exact dd hb)
      | apply sc_not | apply sc_or | (apply sc_i <;> intro hb)
      | (apply bx_i; intro hbd) | (apply gt_i; assumption; exact rfl)
      | (apply cx_is; first | fail) | (apply cx_do (i := 0) rfl; first | fail)
      | (apply ab_i; intro bl) | (apply as_i; intro va vk vc hva) | (apply av_i; intro v) | (apply ac_i; intro bl cap hcap)
      | apply bo_l | (apply nx_i <;> intro hnx) | (apply Ia.hit; assumption) | (apply Ia.miss; assumption)
      | (apply rt_is; exact rfl) | exact rt_w | (apply iv; assumption)
      | apply dw_q mixed hC hGL (by kernel_rfl) | (apply cq; assumption; (first | fail); exact rfl))
  all_goals (try conv => whnf)
  refine op1_makeB (m := 4) hC hGL rfl rfl (by omega) rfl rfl rfl rfl rfl rfl rfl rfl (fun bo => ?_)
  repeat' (first
    | (conv => whnf); first
      | refine .w ?_ | refine .v ?_ | apply sc_true | apply sc_false
      | (first | apply sc_lt | apply sc_nlt | apply sc_eq | apply sc_neq | apply sc_nil | apply sc_nnil | apply sc_seq | apply sc_nseq) <;> (intro hb; try exact dd hb)
      | apply sc_not | apply sc_or | (apply sc_i <;> intro hb)
      | (apply bx_i; intro hbd) | (apply gt_i; assumption; exact rfl)
      | (apply cx_is; first | fail) | (apply cx_do (i := 0) rfl; first | fail)
      | (apply ab_i; intro bl) | (apply as_i; intro va vk vc hva) | (apply av_i; intro v) | (apply ac_i; intro bl cap hcap)
      | apply bo_l | (apply nx_i <;> intro hnx) | (apply Ia.hit; assumption) | (apply Ia.miss; assumption)
      | (apply rt_is; exact rfl) | exact rt_w | (apply iv; assumption)
      | apply dw_q mixed hC hGL (by kernel_rfl) | (apply cq; assumption; (first | fail); exact rfl))
  all_goals (try conv => whnf)
  refine rds hC hGL 5 ?_
  repeat' (first
    | (conv => whnf); first
      | refine .w ?_ | refine .v ?_ | apply sc_true | apply sc_false
      | (first | apply sc_lt | apply sc_nlt | apply sc_eq | apply sc_neq | apply sc_nil | apply sc_nnil | apply sc_seq | apply sc_nseq) <;> (intro hb; try exact dd hb)
      | apply sc_not | apply sc_or | (apply sc_i <;> intro hb)
      | (apply bx_i; intro hbd) | (apply gt_i; assumption; exact rfl)
      | (apply cx_is; first | fail) | (apply cx_do (i := 0) rfl; first | fail)
      | (apply ab_i; intro bl) | (apply as_i; intro va vk vc hva) | (apply av_i; intro v) | (apply ac_i; intro bl cap hcap)
      | apply bo_l | (apply nx_i <;> intro hnx) | (apply Ia.hit; assumption) | (apply Ia.miss; assumption)
      | (apply rt_is; exact rfl) | exact rt_w | (apply iv; assumption)
      | apply dw_q mixed hC hGL (by kernel_rfl) | (apply cq; assumption; (first | fail); exact rfl))
  all_goals (try conv => whnf)
  refine sp_i ⟨rfl, rfl⟩ ?_
  apply rt_is
  refine congrArg AVal.str ?_
  unfold fourS bytesI
  rw [show n / 1000 = n / 10 / 10 / 10 % 10 by omega, show n / 100 % 10 = n / 10 / 10 % 10 by omega]
  rfl
theorem ref_Days {G : Glo} (y m : Int) : FnIs Tryz.prog G 63 [.int .i64 y, .int .i64 m] (.int .i64 (dayN y m)) := by
  have hw := ref_within (G := G) m 1 12
  have h4 : y.tmod 400 = 0 → y.tmod 4 = 0 ∧ y.tmod 100 = 0 := fun h => by
    have hd := Int.dvd_of_tmod_eq_zero h
    exact ⟨Int.tmod_eq_zero_of_dvd (Int.dvd_trans (by decide) hd), Int.tmod_eq_zero_of_dvd (Int.dvd_trans (by decide) hd)⟩
  by_cases hm : 1 ≤ m ∧ m ≤ 12
  · rw [show (decide (1 ≤ m) && decide (m ≤ 12)) = true by simp [hm]] at hw
    rcases (show m = 1 ∨ m = 2 ∨ m = 3 ∨ m = 4 ∨ m = 5 ∨ m = 6 ∨ m = 7 ∨ m = 8 ∨ m = 9 ∨ m = 10 ∨ m = 11 ∨ m = 12 by omega) with rfl | rfl | rfl | rfl | rfl | rfl | rfl | rfl | rfl | rfl | rfl | rfl
    all_goals
      have hGL : GloAll G [] := gloAll_nil
      refine fn_x Tryz.func63 Tryz.call63 rfl rfl rfl rfl hGL ?_
      intro C hC
      repeat' (first
        | (conv => whnf); first
          | refine .w ?_ | refine .v ?_ | apply sc_true | apply sc_false
          | (first | apply sc_lt | apply sc_nlt | apply sc_eq | apply sc_neq | apply sc_nil | apply sc_nnil | apply sc_seq | apply sc_nseq) <;> (intro hb; try exact dd hb)
          | apply sc_not | apply sc_or | (apply sc_i <;> intro hb)
          | (apply bx_i; intro hbd) | (apply gt_i; assumption; exact rfl)
          | (apply cx_is; first | exact hw) | (apply cx_do (i := 0) rfl; first | exact hw)
          | (apply ab_i; intro bl) | (apply as_i; intro va vk vc hva) | (apply av_i; intro v) | (apply ac_i; intro bl cap hcap)
          | apply bo_l | (apply nx_i <;> intro hnx) | (apply Ia.hit; assumption) | (apply Ia.miss; assumption)
          | (apply rt_is; exact rfl) | exact rt_w | (apply iv; assumption)
          | apply dw_q mixed hC hGL (by kernel_rfl) | (apply cq; assumption; (first | exact hw); exact rfl))
      all_goals (try conv => whnf)
      all_goals (apply rt_is; refine congrArg (AVal.int .i64) ?_; unfold dayN; (repeat' split) <;> first | rfl | omega)
  · rw [show (decide (1 ≤ m) && decide (m ≤ 12)) = false by simp; omega] at hw
    have hGL : GloAll G [] := gloAll_nil
    refine fn_x Tryz.func63 Tryz.call63 rfl rfl rfl rfl hGL ?_
    intro C hC
    repeat' (first
      | (conv => whnf); first
        | refine .w ?_ | refine .v ?_ | apply sc_true | apply sc_false
        | (first | apply sc_lt | apply sc_nlt | apply sc_eq | apply sc_neq | apply sc_nil | apply sc_nnil | apply sc_seq | apply sc_nseq) <;> (intro hb; try exact dd hb)
        | apply sc_not | apply sc_or | (apply sc_i <;> intro hb)
        | (apply bx_i; intro hbd) | (apply gt_i; assumption; exact rfl)
        | (apply cx_is; first | exact hw) | (apply cx_do (i := 0) rfl; first | exact hw)
        | (apply ab_i; intro bl) | (apply as_i; intro va vk vc hva) | (apply av_i; intro v) | (apply ac_i; intro bl cap hcap)
        | apply bo_l | (apply nx_i <;> intro hnx) | (apply Ia.hit; assumption) | (apply Ia.miss; assumption)
        | (apply rt_is; exact rfl) | exact rt_w | (apply iv; assumption)
        | apply dw_q mixed hC hGL (by kernel_rfl) | (apply cq; assumption; (first | exact hw); exact rfl))
    all_goals (try conv => whnf)
    apply rt_is
    refine congrArg (AVal.int .i64) ?_
    unfold dayN
    rw [if_pos (by omega)]
end Go.Proofs.YtgjckfphallmeaaGreatDoor
namespace Go.Proofs.YtgjckfphallmeaaGreatDoor
open Go Go.RowKit
theorem strings_contains {G : Glo} {m : Int} (hU : GloAll G (maxTy m)) (s t : List UInt8) (hl : s.length < 100000) : FnIs Tryz.prog G 51 [.str s, .str t] (.bool (Lib.contains s t)) := by
  refine fnis_of_calls rfl Tryz.call51 ?_
  rintro R args ⟨x, u, e, hx, y, u', e', hy, rfl⟩ w hG hs
  obtain rfl := rel_str.1 hx
  obtain rfl := rel_str.1 hy
  subst e'
  obtain rfl := arr_of e
  refine (Tryz.strings_Contains ⟨s.toArray⟩ ⟨t.toArray⟩ m w (by show s.toArray.size < _; simp; omega) (max_cell hU hG hs)).mono ?_
  rintro e w' ⟨rfl, rfl⟩
  exact ⟨by simp [AVal.conc], Below.refl _ _⟩
end Go.Proofs.YtgjckfphallmeaaGreatDoor
namespace Go.Proofs.YtgjckfphallmeaaGreatDoor
open Go Go.RowKit
def datA : List UInt8 := [32, 45, 45, 45, 32, 57, 45, 45, 32, 57, 57, 45, 32, 57, 57, 57, 32, 45, 57, 45, 32, 45, 57, 57, 32, 45, 45, 57, 32]
def datB : List UInt8 := [32, 57, 57, 57, 32, 45, 57, 57, 32, 45, 45, 57, 32]
def timB : List UInt8 := [32, 57, 45, 45, 32, 57, 57, 45, 32, 57, 57, 57, 32]
def cnB (l : List UInt8) (a b c : Bool) : Bool := Lib.contains l (([32] ++ fmS a b c) ++ [32])
theorem cnA : ∀ a b c : Bool, cnB datA a b c = decide (0 ≤ whN a b c) := by decide
theorem cnD : ∀ a b c : Bool, cnB datB a b c = decide (whN a b c = 3 ∨ whN a b c = 5 ∨ whN a b c = 6) := by decide
theorem cnT : ∀ a b c : Bool, cnB timB a b c = decide (1 ≤ whN a b c ∧ whN a b c ≤ 3) := by decide
theorem fm_nil : ∀ a b c : Bool, fmS a b c = [45, 45, 45] ↔ whN a b c = 0 := by decide
theorem fm_eq : ∀ a b c d e f : Bool, fmS a b c = fmS d e f ↔ whN a b c = whN d e f := by decide
theorem wh_le : ∀ a b c : Bool, -1 ≤ whN a b c ∧ whN a b c ≤ 6 := by decide
/-- Forms that go together, in numbers. -/
def FrmP (d t : Int) (z : Bool) (h o : Int) : Prop := (0 ≤ d ∧ 0 ≤ t ∧ ¬ (d = 0 ∧ t = 0) ∧ (0 < d ∧ 0 < t → (d = 3 ∨ d = 5 ∨ d = 6) ∧ t ≤ 3)) ∧ (if z then h ≠ -1 else o = 0)
theorem frm_iff (t : Stm) : t.frm = true ↔ FrmP t.dn t.tn t.z t.h t.o := by
  unfold Stm.frm FrmP okN
  rw [Bool.and_eq_true, decide_eq_true_eq]
  refine and_congr Iff.rfl ?_
  cases t.z <;> simp [tlB_t]
theorem cont_fm {G : Glo} {m : Int} (hU : GloAll G (maxTy m)) (l : List UInt8) (hl : l.length < 100000) (a b c : Bool) : FnIs Tryz.prog G 51 [.str l, .str (([32] ++ fmS a b c) ++ [32])] (.bool (cnB l a b c)) := strings_contains hU l _ hl
theorem E_3 {t : Stm} (h : ¬ FrmP t.dn t.tn t.z t.h t.o) : t.E = .errno 3 := by
  unfold Stm.E
  rw [if_neg (fun k => h ((frm_iff t).1 k))]
theorem E_2 {t : Stm} (h : FrmP t.dn t.tn t.z t.h t.o) (k : t.rng = false) : t.E = .errno 2 := by
  unfold Stm.E
  rw [if_pos ((frm_iff t).2 h), k]
  rfl
theorem E_0 {t : Stm} (h : FrmP t.dn t.tn t.z t.h t.o) (k : t.rng = true) : t.E = .none := by
  unfold Stm.E
  rw [if_pos ((frm_iff t).2 h), k]
  rfl
set_option maxRecDepth 20000
set_option maxHeartbeats 4000000
set_option linter.unusedSimpArgs false
set_option linter.unusedVariables false
attribute [local irreducible] AWp AOps SrcOK OrOk GloAll FnSpec byteAt
attribute [local irreducible] fmS cnB witB tlB dayN zrB
theorem when_Right {G : Glo} {m : Int} (hU : GloAll G (maxTy m)) (t : Stm) : FnIs Tryz.prog G 24 [t.A] t.E.A := by
  have h1 := when_form (G := G) t.y t.m t.d
  have h2 := when_form (G := G) t.h t.i t.s
  have h3a := cont_fm (G := G) hU datA (by decide) (tlB t.y) (tlB t.m) (tlB t.d)
  have h3b := cont_fm (G := G) hU datB (by decide) (tlB t.y) (tlB t.m) (tlB t.d)
  have h4a := cont_fm (G := G) hU datA (by decide) (tlB t.h) (tlB t.i) (tlB t.s)
  have h4b := cont_fm (G := G) hU timB (by decide) (tlB t.h) (tlB t.i) (tlB t.s)
  rw [cnA] at h3a h4a
  rw [cnD] at h3b
  rw [cnT] at h4b
  have k1 := fm_nil (tlB t.y) (tlB t.m) (tlB t.d)
  have k2 := fm_nil (tlB t.h) (tlB t.i) (tlB t.s)
  have k3 := fm_eq (tlB t.y) (tlB t.m) (tlB t.d) (tlB t.h) (tlB t.i) (tlB t.s)
  have k4 := wh_le (tlB t.y) (tlB t.m) (tlB t.d)
  have k5 := wh_le (tlB t.h) (tlB t.i) (tlB t.s)
  have h5 := when_Days (G := G) t.y t.m
  have h6 := fun n lo hi => when_within (G := G) n lo hi
  have h7 := zone_Right (G := G) t.o
  have l1 : (fmS (tlB t.y) (tlB t.m) (tlB t.d)).length = 3 := by unfold fmS; rfl
  have l2 : (fmS (tlB t.h) (tlB t.i) (tlB t.s)).length = 3 := by unfold fmS; rfl
  have hGL : GloAll G [] := gloAll_nil
  refine fn_x Tryz.func24 Tryz.call24 rfl rfl rfl rfl hGL ?_
  intro C hC
  repeat' (first
    | (conv => whnf); first
      | refine .w ?_ | refine .v ?_ | apply sc_true | apply sc_false
      | (first | apply sc_lt | apply sc_nlt | apply sc_eq | apply sc_neq | apply sc_nil | apply sc_nnil | apply sc_seq | apply sc_nseq) <;> (intro hb; try exact dd hb)
      | apply sc_not | apply sc_or | (apply sc_i <;> intro hb)
      | (apply bx_i; intro hbd) | (apply gt_i; assumption; exact rfl)
      | (apply cx_is; first | fail) | (apply cx_do (i := 0) rfl; first | fail)
      | (apply ab_i; intro bl) | (apply as_i; intro va vk vc hva) | (apply av_i; intro v) | (apply ac_i; intro bl cap hcap)
      | apply bo_l | (apply nx_i <;> intro hnx) | (apply Ia.hit; assumption) | (apply Ia.miss; assumption)
      | (apply rt_is; exact rfl) | exact rt_w | (apply iv; assumption)
      | exact True.intro | (apply bc_i; intro C hC) | apply bt_i | apply og_n | (apply og_a; exact rfl))
  all_goals (try conv => whnf)
  refine dw_p mixed hC hGL false (fun (_ : Unit) => [(1, .rop [.int .i64 t.y, .int .i64 t.m, .int .i64 t.d, .int .i64 t.h, .int .i64 t.i, .int .i64 t.s, .bool t.z, .int .i64 t.o] 0), (2, .raw .nilIface), (3, .str (fmS (tlB t.y) (tlB t.m) (tlB t.d))), (4, .str (fmS (tlB t.h) (tlB t.i) (tlB t.s)))]) (fun _ => []) (.take 0 (.take 1 (.take 2 (.take 3 (.take 4 (.take 5 (.take 8 (.take 9 (.take 10 (.take 11 (.take 12 (.take 13 (.br 6 (.br 7 (.br 14 (.br 15 (.take 16 (.take 17 (.done))) (.nil)) (.nil)) (.br 14 (.br 7 (.br 15 (.take 16 (.take 17 (.done))) (.nil)) (.nil)) (.nil))) (.br 14 (.br 6 (.br 7 (.br 15 (.take 16 (.take 17 (.done))) (.nil)) (.nil)) (.nil)) (.nil))))))))))))))) (by kernel_rfl) ?_ ?_
  · repeat' (first
      | (conv => whnf); first
        | refine .w ?_ | refine .v ?_ | apply sc_true | apply sc_false
        | (first | apply sc_lt | apply sc_nlt | apply sc_eq | apply sc_neq | apply sc_nil | apply sc_nnil | apply sc_seq | apply sc_nseq) <;> (intro hb; try exact dd hb)
        | apply sc_not | apply sc_or | (apply sc_i <;> intro hb)
        | (apply bx_i; intro hbd) | (apply gt_i; assumption; exact rfl)
        | (apply cx_is; first | exact h1 | exact h2) | (apply cx_do (i := 0) rfl; first | exact h1 | exact h2)
        | (apply ab_i; intro bl) | (apply as_i; intro va vk vc hva) | (apply av_i; intro v) | (apply ac_i; intro bl cap hcap)
        | apply bo_l | (apply nx_i <;> intro hnx) | (apply Ia.hit; assumption) | (apply Ia.miss; assumption)
        | (apply rt_is; exact rfl) | exact rt_w | (apply iv; assumption)
        | exact True.intro | (apply bc_i; intro C hC) | apply bt_i | apply og_n | (apply og_a; exact rfl))
    all_goals (try conv => whnf)
    all_goals exact ⟨(), ⟨rfl, rfl, rfl, rfl, trivial⟩, rfl⟩
  intro _
  clear h1 h2
  have hE3 := fun h => E_3 (t := t) h
  have hE2 := fun h k => E_2 (t := t) h k
  have hE0 := fun h k => E_0 (t := t) h k
  unfold FrmP Stm.dn Stm.tn at hE3 hE2 hE0
  unfold Stm.rng Stm.day at hE2 hE0
  cases hz : t.z
  all_goals
    rw [hz] at hE3 hE2 hE0
    simp only [Bool.false_eq_true, if_false, if_true] at hE3 hE2 hE0
    repeat' (first
      | (conv => whnf); first
        | refine .w ?_ | refine .v ?_ | apply sc_true | apply sc_false
        | (first | apply sc_lt | apply sc_nlt | apply sc_eq | apply sc_neq | apply sc_nil | apply sc_nnil | apply sc_seq | apply sc_nseq) <;> (intro hb; try exact dd hb)
        | apply sc_not | apply sc_or | (apply sc_i <;> intro hb)
        | (apply bx_i; intro hbd) | (apply gt_i; assumption; exact rfl)
        | (apply cx_is; first | exact h3a | exact h3b | exact h4a | exact h4b | exact h5 | exact h6 _ _ _ | exact h7) | (apply cx_do (i := 0) rfl; first | exact h3a | exact h3b | exact h4a | exact h4b | exact h5 | exact h6 _ _ _ | exact h7)
        | (apply ab_i; intro bl) | (apply as_i; intro va vk vc hva) | (apply av_i; intro v) | (apply ac_i; intro bl cap hcap)
        | apply bo_l | (apply nx_i <;> intro hnx) | (apply Ia.hit; assumption) | (apply Ia.miss; assumption)
        | (apply rt_is; exact rfl) | exact rt_w | (apply iv; assumption)
        | exact True.intro | (apply bc_i; intro C hC) | apply bt_i | apply og_n | (apply og_a; exact rfl))
    all_goals (try conv => whnf)
    all_goals
      clear h3a h3b h4a h4b h5 h6 h7
      simp only [ne_eq, fm_nil, fm_eq, decide_eq_true_eq, decide_eq_false_iff_not] at *
      apply rt_is
      generalize whN (tlB t.y) (tlB t.m) (tlB t.d) = dn at *
      generalize whN (tlB t.h) (tlB t.i) (tlB t.s) = tn at *
      generalize zrB t.o = zr at *
      first | rw [if_neg (by assumption)] at hE2 hE0 | rw [if_pos (by assumption)] at hE2 hE0 | skip
      generalize witB t.m 1 12 = w1 at *
      generalize witB t.d 1 (dayN t.y t.m) = w2 at *
      generalize witB t.d 1 31 = w8 at *
      generalize witB t.h 0 23 = w3 at *
      generalize witB t.i 0 59 = w4 at *
      generalize witB t.s 0 59 = w5 at *
      generalize witB t.y 0 9999 = w6 at *
      first
        | (rw [hE3 (by omega)]; rfl)
        | (rw [hE2 (by omega) (by simp [*])]; rfl)
        | (rw [hE0 (by omega) (by simp [*])]; rfl)
end Go.Proofs.YtgjckfphallmeaaGreatDoor
namespace Go.Proofs.YtgjckfphallmeaaGreatDoor
open Go Go.RowKit
set_option maxRecDepth 20000
set_option maxHeartbeats 4000000
set_option linter.unusedSimpArgs false
set_option linter.unusedVariables false
attribute [local irreducible] AWp AOps byteAt SrcOK OrOk GloAll FnSpec
theorem eqB_dec {a b : Int} : eqB a b = decide (a = b) := by rw [Bool.eq_iff_iff, eqB_t, decide_eq_true_eq]
theorem Vl.E_bad {v : Vl} (h : v.t < 1 ∨ 9 ≤ v.t ∨ v.only = false) : v.E = .errno 1 := if_pos h
theorem Vl.E_ok {v : Vl} (h1 : 1 ≤ v.t) (h2 : v.t < 9) (h3 : v.only = true) : v.E = if v.t = 2 ∨ v.t = 3 then ptsE v.t v.L
    else if v.t = 4 then (uriE v.s).b else if v.t = 5 then v.st.E else if v.t = 6 then zprE v.n else if v.t = 7 then (langX v.s).b else if hdB (decide (v.t = 1)) v.s then .none else .errno 3 := by
  unfold Vl.E
  rw [if_neg]
  rintro (h | h | h)
  · omega
  · omega
  · rw [h3] at h; cases h
theorem Vl.E_rest {v : Vl} (h : v.only = true) (h1 : 1 ≤ v.t) (h2 : v.t < 9) (a : v.t ≠ 2) (b : v.t ≠ 3) (c : v.t ≠ 4) (d : v.t ≠ 5) (e : v.t ≠ 6) (f : v.t ≠ 7) : v.E = if hdB (decide (v.t = 1)) v.s then .none else .errno 3 := by
  rw [Vl.E_ok h1 h2 h, if_neg (by omega), if_neg c, if_neg d, if_neg e, if_neg f]
theorem Vl.E_p {v : Vl} (h : v.only = true) (a : v.t = 2 ∨ v.t = 3) : v.E = ptsE v.t v.L := by rw [Vl.E_ok (by omega) (by omega) h, if_pos a]
theorem Vl.E_4 {v : Vl} (h : v.only = true) (a : v.t = 4) : v.E = (uriE v.s).b := by rw [Vl.E_ok (by omega) (by omega) h, if_neg (by omega), if_pos a]
theorem Vl.E_5 {v : Vl} (h : v.only = true) (a : v.t = 5) : v.E = v.st.E := by rw [Vl.E_ok (by omega) (by omega) h, if_neg (by omega), if_neg (by omega), if_pos a]
theorem Vl.E_6 {v : Vl} (h : v.only = true) (a : v.t = 6) : v.E = zprE v.n := by rw [Vl.E_ok (by omega) (by omega) h, if_neg (by omega), if_neg (by omega), if_neg (by omega), if_pos a]
theorem Vl.E_7 {v : Vl} (h : v.only = true) (a : v.t = 7) : v.E = (langX v.s).b := by rw [Vl.E_ok (by omega) (by omega) h, if_neg (by omega), if_neg (by omega), if_neg (by omega), if_neg (by omega), if_pos a]
theorem ptsE_no {t : Int} {L : List (List (List UInt8))} (h : L.length = 0 ∨ (t = 2 ∧ L.length ≠ 1)) : ptsE t L = .errno 8 := if_pos h
theorem ptsE_go {t : Int} {L : List (List (List UInt8))} (h : ¬ (L.length = 0 ∨ (t = 2 ∧ L.length ≠ 1))) : ptsE t L = if nilAt L < L.length then .errno 8 else if hdL L then .none else .errno 3 := if_neg h
/-- What a value reads. -/
structure Vl.OK (v : Vl) : Prop where
  s : v.s.length ≤ 9223372036854775000
  n : v.L.length ≤ 2000000
  r : ∀ k, (v.L.getD k []).length ≤ 2000000
  l : ∀ k j, ((v.L.getD k []).getD j []).length ≤ 9223372036854775807
attribute [local irreducible] hdC hdB badI zeroB Vl.only uriE langX Stm.E zrB nilAt hdL
theorem value_Right {G : Glo} {m : Int} (hU : GloAll G errTy) (hM : GloAll G (maxTy m)) (v : Vl) (hv : v.OK) : FnIs Tryz.prog G 8 [v.A] v.E.A := by
  have h0 := value_only (G := G) v
  have h1 := uri_Right (G := G) v.s (by have := hv.s; omega)
  have h2 := value_bare hU (uriE v.s)
  rw [← unown_uri (uriE v.s)] at h2
  have h3 := when_Right hM v.st
  have h4 := zone_Right (G := G) v.n
  have h5 := lang_Right (G := G) v.s (by have := hv.s; omega)
  have h6 := value_bare hU (langX v.s)
  rw [← unown_uri (langX v.s)] at h6
  have h7 := value_Holds (G := G) v.s (eqB v.t 1) (by have := hv.s; omega)
  have h8 := fun k j => value_Holds (G := G) ((v.L.getD k []).getD j []) true (hv.l k j)
  rw [show hdB (eqB v.t 1) v.s = hdB (decide (v.t = 1)) v.s by rw [eqB_dec]] at h7
  have k1 := fun k j (_ : (0 : Int) ≤ 0) => h8 k j
  have hn := hv.n
  have hr := hv.r
  obtain ⟨t, s, L, st, n⟩ := v
  dsimp only at *
  by_cases ht : t < 1 ∨ 9 ≤ t
  · rw [Vl.E_bad (v := ⟨t, s, L, st, n⟩) (ht.elim .inl (fun h => .inr (.inl h)))]
    have hGL : GloAll G [] := gloAll_nil
    refine fn_x Tryz.func8 Tryz.call8 rfl rfl rfl rfl hGL ?_
    intro C hC
    refine xw ?_
    repeat' (first | exact Le.n | refine Lc.mk ?_ ?_)
    all_goals intros
    all_goals dsimp only at *
    all_goals first | exact rt_is rfl | (exfalso; omega)
  cases ho : Vl.only ⟨t, s, L, st, n⟩
  · rw [Vl.E_bad (.inr (.inr ho))]
    rw [ho] at h0
    have hGL : GloAll G [] := gloAll_nil
    refine fn_x Tryz.func8 Tryz.call8 rfl rfl rfl rfl hGL ?_
    intro C hC
    exact xw0
  · rw [ho] at h0
    have hGL : GloAll G [] := gloAll_nil
    refine fn_x Tryz.func8 Tryz.call8 rfl rfl rfl rfl hGL ?_
    intro C hC
    refine xw ?_
    repeat' (first | exact Le.n | refine Lc.mk ?_ ?_)
    all_goals intros
    all_goals dsimp only at *
    all_goals try first
      | (apply rt_is; rw [Vl.E_4 ho (by assumption)]; done)
      | (apply rt_is; rw [Vl.E_5 ho (by assumption)]; done)
      | (apply rt_is; rw [Vl.E_7 ho (by assumption)]; done)
      | (apply rt_is; rw [Vl.E_6 ho (by assumption)]; unfold zprE; dsimp only; rw [show zrB n = true by assumption]; rfl)
      | (apply rt_is; rw [Vl.E_6 ho (by assumption)]; unfold zprE; dsimp only; rw [show zrB n = false by assumption]; rfl)
      | (apply rt_is; rw [Vl.E_p ho (by first | exact .inl (by assumption) | exact .inr (by assumption)), ptsE_no (by dsimp only; omega)]; rfl)
      | (apply rt_is; rw [Vl.E_rest ho (by assumption) (by assumption) (by assumption) (by assumption) (by assumption) (by assumption) (by assumption) (by assumption)]; dsimp only; rw [show hdB (decide (t = 1)) s = true by assumption]; rfl)
      | (apply rt_is; rw [Vl.E_rest ho (by assumption) (by assumption) (by assumption) (by assumption) (by assumption) (by assumption) (by assumption) (by assumption)]; dsimp only; rw [show hdB (decide (t = 1)) s = false by assumption]; rfl)
    all_goals
      rw [Vl.E_p ho (by first | exact .inl (by assumption) | exact .inr (by assumption)), ptsE_go (by dsimp only; omega)]
      dsimp only
      refine lp hC hGL (fun k : Nat => [(1, .rop [.int .i64 t, .str s, .list 1 L.length (partsF L), .int .i64 st.y, .int .i64 st.m, .int .i64 st.d, .int .i64 st.h, .int .i64 st.i, .int .i64 st.s, .bool st.z, .int .i64 st.o, .int .i64 n] 0), (45, .list 1 L.length (partsF L)), (46, .int .i64 (L.length : Nat)), (47, .int .i64 (k : Nat))]) (fun _ => []) (fun k => k ≤ nilAt L) (fun k => L.length - k) 0 ?_ env_w rfl ?_
      · exact Nat.zero_le _
      intro k hk
      have hnl := nilAt_le L
      refine xw ?_
      repeat' (first | exact Le.n | refine Lc.mk ?_ ?_)
      all_goals intros
      all_goals try first
        | (apply rt_is; rw [if_pos (nil_hit (by omega) hk (by omega))]; rfl)
        | exact nxt (k + 1) (nil_miss (by omega) hk (by omega)) (by omega) env_w rfl
      rw [if_neg (by omega)]
      refine lp hC hGL (fun k : Nat => [(57, .list 1 L.length (partsF L)), (58, .int .i64 (L.length : Nat)), (59, .int .i64 (k : Nat))]) (fun _ => []) (fun k => k ≤ L.length ∧ hdK L k) (fun k => L.length - k) 0 ?_ env_w rfl ?_
      · exact ⟨Nat.zero_le _, fun i hi => absurd hi (Nat.not_lt_zero _)⟩
      rintro i ⟨hi, hK⟩
      refine xw ?_
      repeat' (first | exact Le.n | refine Lc.mk ?_ ?_)
      all_goals intros
      all_goals try (apply rt_is; rw [hdK_all (by omega) hK]; rfl)
      · refine lp hC hGL (fun j : Nat => [(57, .list 1 L.length (partsF L)), (58, .int .i64 (L.length : Nat)), (59, .int .i64 (i : Nat)), (63, .list 1 (L.getD i []).length (strsF (L.getD i []))), (64, .int .i64 ((L.getD i []).length : Nat)), (65, .int .i64 (j : Nat))]) (fun _ => []) (fun j => j ≤ (L.getD i []).length ∧ hdJ (L.getD i []) j) (fun j => (L.getD i []).length - j) 0 ?_ env_w rfl ?_
        · exact ⟨Nat.zero_le _, fun i hi => absurd hi (Nat.not_lt_zero _)⟩
        rintro j ⟨hj, hJ⟩
        have hri := hr i
        refine xw ?_
        repeat' (first | exact Le.n | refine Lc.mk ?_ ?_)
        all_goals intros
        all_goals first
          | (apply rt_is; rw [hdK_not (k := i) (by omega) (hdJ_not (j := j) (by omega) (by assumption))]; rfl)
          | exact nxt (j + 1) ⟨by omega, hdJ_succ hJ (by assumption)⟩ (by omega) env_w rfl
          | exact nxt (i + 1) ⟨by omega, hdK_succ hK (hdJ_all (by omega) hJ)⟩ (by omega) env_w rfl
end Go.Proofs.YtgjckfphallmeaaGreatDoor
namespace Go.Proofs.YtgjckfphallmeaaGreatDoor
open Go Go.RowKit
theorem isS_byte {c : Nat} (h : c < 256) : isS (bytesI [(c : Int)]) = letterB c := by
  have hb : byteAt (bytesI [(c : Int)]) 0 = c := by
    unfold bytesI byteAt
    simp
    omega
  rw [Bool.eq_iff_iff, isS]
  have hl : (bytesI [(c : Int)]).length = 1 := rfl
  rw [hl]
  simp only [Bool.and_eq_true, allB_t, hl, decide_eq_true_eq]
  constructor
  · intro h; have := h.1 0 (by omega); rwa [hb] at this
  · intro h; exact ⟨fun j hj => by rw [show j = 0 by omega, hb]; exact h, by omega, by omega⟩
theorem letter_dig {c : Int} (h : letterB c = true) (hc : c ≠ 45) : (48 ≤ c ∧ c ≤ 57) ↔ c ≤ 57 := by
  rw [letterB_t] at h; omega
theorem langE_cons {b : Bool} {a : Nat} {x : List UInt8} {xs : List (List UInt8)} : langE b a (x :: xs) = if (pieceX b a x).isNone then langE false (a + x.length + 1) xs else pieceX b a x := by rw [langE]
theorem not_mem_byte {x : List UInt8} (h : (45 : UInt8) ∉ x) {j : Nat} (hj : j < x.length) : byteAt x j ≠ 45 := by
  intro e
  rw [byteAt_getElem hj] at e
  exact h (by rw [← show x[j] = 45 from UInt8.toNat_inj.1 (by rw [e]; rfl)]; exact List.getElem_mem hj)
theorem pieceX_bad {first : Bool} {a : Nat} {x : List UInt8} {i : Nat} (hi : i < x.length) (hb : lgB first (byteAt x i : Int) = false) (h0 : ∀ j, j < i → lgB first (byteAt x j : Int) = true) : pieceX first a x = .at 3 ((a : Int) + i) := by
  have hf : fstB (fun c => !lgB first c) x = i := fstB_at hi (by rw [hb]; rfl) (fun j hj => by rw [h0 j hj]; rfl)
  unfold pieceX
  rw [hf, if_pos (by omega)]
theorem pieceX_good {first : Bool} {a : Nat} {x : List UInt8} (h0 : ∀ j, j < x.length → lgB first (byteAt x j : Int) = true) : pieceX first a x = if x.length = 0 then .at 7 a else if 8 < x.length then .at 4 a else .none := by
  have hf : fstB (fun c => !lgB first c) x = -1 := fstB_none (fun j hj => by rw [h0 j hj]; rfl)
  unfold pieceX
  rw [hf, if_neg (by omega)]
theorem splS_lens (c : UInt8) : ∀ s : List UInt8, (splS c s).length ≤ s.length + 1 ∧ ∀ p, p ∈ splS c s → p.length ≤ s.length
  | [] => ⟨Nat.le_refl _, fun p h => by simp [splS] at h; subst h; exact Nat.le_refl _⟩
  | x :: t => by
    obtain ⟨h1, h2⟩ := splS_lens c t
    by_cases hx : x = c
    · rw [splS, if_pos hx]
      refine ⟨by simp only [List.length_cons]; omega, fun p hp => ?_⟩
      rcases List.mem_cons.1 hp with rfl | hp
      · simp
      · have := h2 p hp; simp only [List.length_cons]; omega
    · rw [splS, if_neg hx]
      cases h3 : splS c t with
      | nil => exact absurd h3 (splS_ne c t)
      | cons q qs =>
        rw [h3] at h1 h2
        refine ⟨by simp only [List.length_cons] at *; omega, fun p hp => ?_⟩
        rcases List.mem_cons.1 hp with rfl | hp
        · have := h2 q (by simp); simp only [List.length_cons]; omega
        · have := h2 p (by simp [hp]); simp only [List.length_cons]; omega
set_option maxRecDepth 20000
set_option maxHeartbeats 4000000
set_option linter.unusedSimpArgs false
set_option linter.unusedVariables false
attribute [local irreducible] AWp AOps byteAt SrcOK OrOk GloAll FnSpec
attribute [local irreducible] splS langE lgB isS letterB pieceX
theorem ref_LangRight {G : Glo} {m : Int} (hM : GloAll G (maxTy m)) (s : List UInt8) (hl : s.length ≤ 3000) : FnIs Tryz.prog G 34 [.str s] (.agg [.int .i64 (langX s).e, .int .i64 (langX s).p]) := by
  have h1 := split_list (G := G) hM s 45 (by omega)
  have hgd := ref_Good (G := G)
  have hmem : ∀ k, k < (splS 45 s).length → (45 : UInt8) ∉ (splS 45 s).getD k [] := fun k hk => by
    rw [List.getD_eq_getElem?_getD, List.getElem?_eq_getElem hk]
    exact splS_mem (List.getElem_mem hk)
  have hX : langX s = langE true 0 (splS 45 s) := rfl
  have hlen : ∀ p, p ∈ splS 45 s → p.length ≤ 3000 := fun p hp => Nat.le_trans ((splS_lens 45 s).2 p hp) hl
  have hPl : (splS 45 s).length ≤ 3001 := by have := (splS_lens 45 s).1; omega
  generalize splS 45 s = P at *
  have hGL : GloAll G [] := gloAll_nil
  refine fn_x Tryz.func34 Tryz.call34 rfl rfl rfl rfl hGL ?_
  intro C hC
  repeat' (first
    | (conv => whnf); first
      | refine .w ?_ | refine .v ?_ | apply sc_true | apply sc_false
      | (first | apply sc_lt | apply sc_nlt | apply sc_eq | apply sc_neq | apply sc_nil | apply sc_nnil | apply sc_seq | apply sc_nseq) <;> (intro hb; try exact dd hb)
      | apply sc_not | apply sc_or | (apply sc_i <;> intro hb)
      | (apply bx_i; intro hbd) | (apply gt_i; assumption; exact rfl)
      | (apply cx_is; first | exact h1) | (apply cx_do (i := 0) rfl; first | exact h1)
      | (apply ab_i; intro bl) | (apply as_i; intro va vk vc hva) | (apply av_i; intro v) | (apply ac_i; intro bl cap hcap)
      | apply bo_l | (apply nx_i <;> intro hnx) | (apply Ia.hit; assumption) | (apply Ia.miss; assumption)
      | (apply rt_is; exact rfl) | exact rt_w | (apply iv; assumption)
      | apply dw_q mixed hC hGL (by kernel_rfl) | (apply cq; assumption; (first | exact h1); exact rfl))
  all_goals (try conv => whnf)
  rename Nat => bl0
  refine lp hC hGL (fun (x : Nat × Nat) => [(2, .own 0 (.pointer (some ⟨bl0, 0, none⟩))), (3, .int .i64 x.2), (9, .list 1 P.length (strsF P)), (10, .int .i64 P.length), (11, .int .i64 x.1)]) (fun _ => [.cells bl0 (some 42) [.int .i64 0, .int .i64 0]]) (fun x => x.1 ≤ P.length ∧ x.2 ≤ 4000 * x.1 ∧ langX s = langE (decide (x.1 = 0)) x.2 (P.drop x.1)) (fun x => P.length - x.1) (0, 0) ?_ env_w rfl ?_
  · exact ⟨Nat.zero_le _, Nat.zero_le _, hX⟩
  rintro ⟨k, a⟩ ⟨g1, g2, g3⟩
  dsimp only at g1 g2 g3 ⊢
  by_cases hk : k < P.length
  · have hx : ∃ x, P.getD k [] = x ∧ P.drop k = x :: P.drop (k + 1) ∧ (45 : UInt8) ∉ x ∧ x.length ≤ 3000 := by
      refine ⟨P.getD k [], rfl, ?_, hmem k hk, ?_⟩
      · rw [List.drop_eq_getElem_cons hk, List.getD_eq_getElem?_getD, List.getElem?_eq_getElem hk]; rfl
      · rw [List.getD_eq_getElem?_getD, List.getElem?_eq_getElem hk]; exact hlen _ (List.getElem_mem hk)
    obtain ⟨x, hx, hd, hm, hxl⟩ := hx
    have hxe : strsF P k = .str x := by unfold strsF; rw [hx]
    rw [hd, langE_cons] at g3
    have hkl : k ≤ 4000 * k := by omega
    repeat' (first
      | (conv => whnf); first
        | refine .w ?_ | refine .v ?_ | apply sc_true | apply sc_false
        | (first | apply sc_lt | apply sc_nlt | apply sc_eq | apply sc_neq | apply sc_nil | apply sc_nnil | apply sc_seq | apply sc_nseq) <;> (intro hb; try exact dd hb)
        | apply sc_not | apply sc_or | (apply sc_i <;> intro hb)
        | (apply bx_i; intro hbd) | (apply gt_i; assumption; exact rfl)
        | (apply cx_is; first | exact hgd) | (apply cx_do (i := 0) rfl; first | exact hgd)
        | (apply ab_i; intro bl) | (apply as_i; intro va vk vc hva) | (apply av_i; intro v) | (apply ac_i; intro bl cap hcap)
        | apply bo_l | (apply nx_i <;> intro hnx) | (apply Ia.hit; assumption) | (apply Ia.miss; assumption)
        | (apply rt_is; exact rfl) | exact rt_w | (apply iv; assumption)
        | apply dw_q mixed hC hGL (by kernel_rfl) | (apply cq; assumption; (first | exact hgd); exact rfl))
    all_goals (try conv => whnf)
    rw [hx] at *
    rw [hxe] at *
    refine lp hC hGL (fun (i : Nat) => [(2, .own 0 (.pointer (some ⟨bl0, 0, none⟩))), (3, .int .i64 a), (4, .int .i64 k), (5, .str x), (9, .list 1 P.length (strsF P)), (10, .int .i64 P.length), (11, .int .i64 k), (17, .own 1 (.slice (some ⟨bl, 0, none⟩) x.length cap)), (18, .int .i64 x.length), (19, .int .i64 i)]) (fun _ => [.cells bl0 (some 42) [.int .i64 0, .int .i64 0], .buf bl x cap]) (fun i => i ≤ x.length ∧ ∀ j, j < i → lgB (decide (k = 0)) (byteAt x j : Int) = true) (fun i => x.length - i) 0 ?_ env_w rfl ?_
    · exact ⟨Nat.zero_le _, by intro j hj; omega⟩
    rintro i ⟨hi, hb0⟩
    have hI : i < x.length → FnIs Tryz.prog G 61 [.str (bytesI [(byteAt x i : Int)])] (.bool (letterB (byteAt x i))) := fun h => by
      have := ref_Is (G := G) (bytesI [(byteAt x i : Int)]) (by show 1 ≤ _; omega)
      rwa [isS_byte (byteAt_lt _ _)] at this
    have hW := ref_within (G := G) (byteAt x i : Int) 48 57
    repeat' (first
      | (conv => whnf); first
        | refine .w ?_ | refine .v ?_ | apply sc_true | apply sc_false
        | (first | apply sc_lt | apply sc_nlt | apply sc_eq | apply sc_neq | apply sc_nil | apply sc_nnil | apply sc_seq | apply sc_nseq) <;> (intro hb; try exact dd hb)
        | apply sc_not | apply sc_or | (apply sc_i <;> intro hb)
        | (apply bx_i; intro hbd) | (apply gt_i; assumption; exact rfl)
        | (apply cx_is; first | exact hgd) | (apply cx_do (i := 0) rfl; first | exact hgd)
        | (apply ab_i; intro bl) | (apply as_i; intro va vk vc hva) | (apply av_i; intro v) | (apply ac_i; intro bl cap hcap)
        | apply bo_l | (apply nx_i <;> intro hnx) | (apply Ia.hit; assumption) | (apply Ia.miss; assumption)
        | (apply rt_is; exact rfl) | exact rt_w | (apply iv; assumption)
        | apply dw_q mixed hC hGL (by kernel_rfl) | (apply cq; assumption; (first | exact hgd); exact rfl))
    all_goals (try conv => whnf)
    · refine op1_run hC hGL (rv_bytes [_] rfl (by intro v hv; simp only [List.mem_cons, List.not_mem_nil, or_false] at hv; omega) rfl rfl rfl rfl rfl rfl) rfl rfl ?_
      repeat' (first
        | (conv => whnf); first
          | refine .w ?_ | refine .v ?_ | apply sc_true | apply sc_false
          | (first | apply sc_lt | apply sc_nlt | apply sc_eq | apply sc_neq | apply sc_nil | apply sc_nnil | apply sc_seq | apply sc_nseq) <;> (intro hb; try exact dd hb)
          | apply sc_not | apply sc_or | (apply sc_i <;> intro hb)
          | (apply bx_i; intro hbd) | (apply gt_i; assumption; exact rfl)
          | (apply cx_is; first | exact hI (by omega) | exact hW) | (apply cx_do (i := 0) rfl; first | exact hI (by omega) | exact hW)
          | (apply ab_i; intro bl) | (apply as_i; intro va vk vc hva) | (apply av_i; intro v) | (apply ac_i; intro bl cap hcap)
          | apply bo_l | (apply nx_i <;> intro hnx) | (apply Ia.hit; assumption) | (apply Ia.miss; assumption)
          | (apply rt_is; exact rfl) | exact rt_w | (apply iv; assumption)
          | apply dw_q mixed hC hGL (by kernel_rfl) | (apply cq; assumption; (first | exact hI (by omega) | exact hW); exact rfl))
      all_goals (try conv => whnf)
      · apply rt_is
        rw [Bool.and_eq_true, decide_eq_true_eq, decide_eq_true_eq] at hb
        rw [g3, pieceX_bad (by omega) (lgB_f.2 (.inr ⟨by simp; omega, by omega⟩)) hb0]
        rfl
      · rw [Bool.and_eq_false_iff, decide_eq_false_iff_not, decide_eq_false_iff_not] at hb
        refine nxt (i + 1) ?_ ?_ env_w rfl
        · refine ⟨by omega, below_succ hb0 (lgB_t.2 ⟨by assumption, fun _ => ?_⟩)⟩
          have := (letter_dig (c := (byteAt x i : Int)) (by assumption) (by have := not_mem_byte hm (j := i) (by omega); omega))
          omega
        · omega
      · refine nxt (i + 1) ?_ ?_ env_w rfl
        · exact ⟨by omega, below_succ hb0 (lgB_t.2 ⟨by assumption, fun h => by simp at h; omega⟩)⟩
        · omega
      · apply rt_is
        rw [g3, pieceX_bad (by omega) (lgB_f.2 (.inl hb)) hb0]
        rfl
    · apply rt_is
      have hp := pieceX_good (first := decide (k = 0)) (a := a) (x := x) (fun j hj => hb0 j (by omega))
      rw [if_pos (by omega)] at hp
      rw [g3, hp]
      rfl
    · apply rt_is
      have hp := pieceX_good (first := decide (k = 0)) (a := a) (x := x) (fun j hj => hb0 j (by omega))
      rw [if_neg (by omega), if_pos (by omega)] at hp
      rw [g3, hp]
      rfl
    · have hp := pieceX_good (first := decide (k = 0)) (a := a) (x := x) (fun j hj => hb0 j (by omega))
      rw [if_neg (by omega), if_neg (by omega)] at hp
      rw [hp, if_pos (show Err.none.isNone = true from rfl)] at g3
      refine nxs (k + 1, a + x.length + 1) ⟨by omega, by dsimp only; omega, ?_⟩ (by dsimp only; omega) ⟨rfl, ?_, rfl, rfl, rfl, trivial⟩ (by repeat (first | exact List.nil_sublist _ | apply List.Sublist.cons_cons | apply List.Sublist.cons))
      · dsimp only
        rw [g3]
        simp
      · exact congrArg (fun z => some (AVal.int .i64 z)) (by dsimp only; omega)
  · repeat' (first
      | (conv => whnf); first
        | refine .w ?_ | refine .v ?_ | apply sc_true | apply sc_false
        | (first | apply sc_lt | apply sc_nlt | apply sc_eq | apply sc_neq | apply sc_nil | apply sc_nnil | apply sc_seq | apply sc_nseq) <;> (intro hb; try exact dd hb)
        | apply sc_not | apply sc_or | (apply sc_i <;> intro hb)
        | (apply bx_i; intro hbd) | (apply gt_i; assumption; exact rfl)
        | (apply cx_is; first | exact hgd) | (apply cx_do (i := 0) rfl; first | exact hgd)
        | (apply ab_i; intro bl) | (apply as_i; intro va vk vc hva) | (apply av_i; intro v) | (apply ac_i; intro bl cap hcap)
        | apply bo_l | (apply nx_i <;> intro hnx) | (apply Ia.hit; assumption) | (apply Ia.miss; assumption)
        | (apply rt_is; exact rfl) | exact rt_w | (apply iv; assumption)
        | apply dw_q mixed hC hGL (by kernel_rfl) | (apply cq; assumption; (first | exact hgd); exact rfl))
    all_goals (try conv => whnf)
    apply rt_is
    rw [g3, List.drop_eq_nil_of_le (by omega), langE]
    rfl
end Go.Proofs.YtgjckfphallmeaaGreatDoor
namespace Go.Proofs.YtgjckfphallmeaaGreatDoor
open Go Go.RowKit
/-! ## Values that are known whole -/
def concA : AVal → Option Value
  | .own _ v => some v
  | .raw v => some v
  | .int k n => some (.int k n)
  | .bool b => some (.bool b)
  | _ => none
def concL : List AVal → Option (List Value)
  | [] => some []
  | a :: t => match concA a, concL t with
    | some v, some r => some (v :: r)
    | _, _ => none
theorem conc_ok {R : Seal} {a : AVal} {v x : Value} (h : concA a = some v) (hr : Rel R a x) : x = v := by
  cases a <;> simp only [concA, Option.some.injEq, reduceCtorEq] at h <;> subst h
  · exact rel_bool.1 hr
  · exact rel_int.1 hr
  · exact rel_raw.1 hr
  · exact (rel_own.1 hr).1
theorem concL_ok {R : Seal} : ∀ {l : List AVal} {vs xs : List Value}, concL l = some vs → RelV R l xs → xs = vs
  | [], vs, xs, h, hr => by
    simp only [concL, Option.some.injEq] at h
    subst h
    simpa [RelV] using hr
  | a :: t, vs, xs, h, hr => by
    simp only [concL] at h
    split at h
    · rename_i v r hv ht
      simp only [Option.some.injEq] at h
      subst h
      obtain ⟨x, ys, rfl, h1, h2⟩ := hr
      rw [conc_ok hv h1, concL_ok ht h2]
    · cases h
/-- The call that is laid, as it will be made. -/
def deferA (env : Env) (fv : Operand) (args : List Operand) : Option Deferred :=
  match evalA env fv with
  | some (.func (.func f) l1 l2) => match concL l1, argsA env args, concL l2 with
    | some x1, some avs, some x2 => match concL avs with
      | some xs => some { target := .fn (.func f) x2.toArray, args := (x1 ++ xs).toArray }
      | none => none
    | _, _, _ => none
  | _ => none
theorem upon_map {P : Program} {o : Oper} {a : Act} {next next' : Act → World → Prop} {Q Q' : Exit → Act → World → Prop} {r : Result Next} (hn : ∀ a w, next a w → next' a w)
    (hp : ∀ ch a w, Q (.panic ch) a w → Q' (.panic ch) a w) (ho : LetsOut Q → LetsOut Q') (hh : o.upon P a next Q r) : o.upon P a next' Q' r := by
  cases r with
  | ok n w' =>
    cases n <;> simp only [Oper.upon] at hh ⊢ <;>
      first
        | exact hn _ _ hh
        | exact Calls.mono hh (fun e w'' he => by cases e <;> first | exact hn _ _ he | exact hp _ _ _ he | exact ho he)
        | exact Rows.mono hh (fun _ _ he => hn _ _ he)
  | halt x w' => cases x <;> simp only [Oper.upon] at hh ⊢ <;> exact hp _ _ _ hh
def tailQ (P : Program) (ops : Array Oper) (l : List Oper) (Q : Exit → Act → World → Prop) : Exit → Act → World → Prop
  | .normal, a, w => wpList P ops Q l a w
  | e, a, w => Q e a w
theorem wpList_app {P : Program} {ops : Array Oper} {l : List Oper} {Q : Exit → Act → World → Prop} : ∀ {pre : List Oper} {a : Act} {w : World}, wpList P ops (tailQ P ops l Q) pre a w → wpList P ops Q (pre ++ l) a w
  | [], a, w, h => h
  | o :: pre, a, w, h => by
    simp only [List.cons_append, wpList] at h ⊢
    split
    · rename_i hw
      rw [if_pos hw] at h
      rcases h with h | ⟨h1, h2⟩
      · exact .inl (upon_map (fun _ _ => wpList_app) (fun _ _ _ => id) (fun ⟨a, w, q⟩ => ⟨a, w, q⟩) h)
      · exact .inr ⟨h1, h2⟩
    · rename_i hw
      rw [if_neg hw] at h
      exact wpList_app h
/-! ## The spine -/
def withD (C : Ctx) (D : List Deferred) : Ctx := ⟨C.w0, C.R0, C.B0, C.G, C.hG, D⟩
theorem MS.withD {C : Ctx} {R : Seal} {H : Heap} {w : World} (h : MS C R H w) (D : List Deferred) : MS (withD C D) R H w := ⟨h.sealed, h.ge, h.fresh, h.heap, h.own, h.ext⟩
theorem MS.ofD {C : Ctx} {R : Seal} {H : Heap} {w : World} {D : List Deferred} (h : MS (Proofs.YtgjckfphallmeaaGreatDoor.withD C D) R H w) : MS C R H w := ⟨h.sealed, h.ge, h.fresh, h.heap, h.own, h.ext⟩
def PostD (C : Ctx) (n : Nat) (Q : List Deferred → AExit → Env → Heap → Prop) (e : Exit) (a : Act) (w : World) : Prop :=
  ∃ D x env H R, Q D x env H ∧ ExitRel R x e ∧ MS C R H w ∧ FS D n R env a
def AWpD (P : Program) (C : Ctx) (n : Nat) (c : Code) (env : Env) (H : Heap) (Q : List Deferred → AExit → Env → Heap → Prop) : Prop :=
  ∀ R a w, MS C R H w → FS C.D n R env a → c.wp P (PostD C n Q) a w
section
variable {P : Program} {C : Ctx} {n : Nat} {env : Env} {H : Heap} {Q : List Deferred → AExit → Env → Heap → Prop} {G : Glo} {GL : List (Nat × List AVal)}
theorem awd_of {c : Code} (h : AWp P C n c env H (Q C.D)) : AWpD P C n c env H Q :=
  fun R a w hm hf => wp_mono (h R a w hm hf) fun _ _ _ ⟨x, en, H', R', q, r⟩ => ⟨C.D, x, en, H', R', q, r⟩
theorem awd_code [Tab P] (hC : C.G = G) (hGL : GloAll G GL) {c : Code} (h : codeX P C n G GL c env H (Q C.D)) : AWpD P C n c env H Q := awd_of (codeX_ok hC hGL _ _ _ _ h)
def thenD (K : List Deferred → Env → Heap → Prop) (Q : List Deferred → AExit → Env → Heap → Prop) : List Deferred → AExit → Env → Heap → Prop
  | D, .normal, e, h => K D e h
  | D, x, e, h => Q D x e h
theorem awd_seq {x y : Code} (h : AWpD P C n x env H (thenD (fun D e h => AWpD P (withD C D) n y e h Q) Q)) : AWpD P C n (.seq x y) env H Q := by
  intro R a w hm hf
  refine wp_seq (wp_mono (h R a w hm hf) ?_)
  rintro e a' w' ⟨D, x, en, H', R', q, er, hm', hf'⟩
  cases x with
  | normal =>
    simp only [ExitRel] at er; subst er
    exact wp_mono (q R' a' w' (hm'.withD D) hf') fun _ _ _ ⟨D2, x, en, H', R', q, er, hm2, hf2⟩ => ⟨D2, x, en, H', R', q, er, hm2.ofD, hf2⟩
  | exit i => simp only [ExitRel] at er; subst er; exact ⟨D, .exit i, en, H', R', q, rfl, hm', hf'⟩
  | goto i => simp only [ExitRel] at er; subst er; exact ⟨D, .goto i, en, H', R', q, rfl, hm', hf'⟩
  | ret => simp only [ExitRel] at er; subst er; exact ⟨D, .ret, en, H', R', q, rfl, hm', hf'⟩
  | panic v => obtain ⟨y, rfl, hr⟩ := er; exact ⟨D, .panic v, en, H', R', q, ⟨y, rfl, hr⟩, hm', hf'⟩
theorem awd_cond {c : Operand} {x y : Code} {b : Bool} (hc : evalA env c = some (.bool b)) (ht : b = true → AWpD P C n x env H Q) (hf : b = false → AWpD P C n y env H Q) : AWpD P C n (.cond c x y) env H Q := by
  intro R a w hm hfs
  refine wp_cond (rel_bool.1 (hfs.eval hc)) ?_
  cases b with
  | true => exact ht rfl R a w hm hfs
  | false => exact hf rfl R a w hm hfs
structure Df (d : Option Deferred) (K : Deferred → Prop) : Prop where
  h : ∃ x, d = some x ∧ K x
def defQ (C : Ctx) (fv : Operand) (args : List Operand) (Q : List Deferred → AExit → Env → Heap → Prop) : AExit → Env → Heap → Prop
  | .normal, e, h => Df (deferA e fv args) fun d => Q (d :: C.D) .normal e h
  | x, e, h => Q C.D x e h
theorem awd_defer [Tab P] {id : Nat} {ops : Array Oper} {fv : Operand} {args : Array Operand} {ts : Array TypeId} {ty : TypeId} {pos : String} {af : Array Edge} (hC : C.G = G) (hGL : GloAll G GL)
    (hl : ops.toList = ops.toList.dropLast ++ [{ dst := none, op := .defer { callee := .value fv, args := args, argTypes := ts }, type := ty, pos := pos, after := af, guard := none }])
    (h : opsX P C n G GL ops (defQ C fv args.toList Q) ops.toList.dropLast env H) : AWpD P C n (.region id ops false) env H Q := by
  intro R a w hm hf
  refine wp_region_list ?_
  rw [hl]
  refine wpList_app ?_
  have h1 := opsX_ok (C := C) hC hGL _ _ _ h R a w hm hf
  have key : ∀ {l : List Oper} {a w}, wpList P ops (Post C n (defQ C fv args.toList Q)) l a w → wpList P ops (tailQ P ops [{ dst := none, op := .defer { callee := .value fv, args := args, argTypes := ts }, type := ty, pos := pos, after := af, guard := none }] (PostD C n Q)) l a w := by
    have hq : ∀ e a w, Post C n (defQ C fv args.toList Q) e a w → tailQ P ops [{ dst := none, op := .defer { callee := .value fv, args := args, argTypes := ts }, type := ty, pos := pos, after := af, guard := none }] (PostD C n Q) e a w := by
      rintro e a' w' ⟨x, en, H', R', q, er, hm', hf'⟩
      cases x with
      | normal =>
        simp only [ExitRel] at er; subst er
        obtain ⟨d, hd, q⟩ := Df.h q
        refine wpList_plain rfl fun K hK => ?_
        have hrun : (execOp a'.eval { dst := none, op := .defer { callee := .value fv, args := args, argTypes := ts }, type := ty, pos := pos, after := af, guard := none : Oper }).run P w' = .ok (.defer d) w' := by
          unfold deferA at hd
          split at hd
          · rename_i f l1 l2 hfv
            split at hd
            · rename_i x1 avs x2 h1 h2 h3
              split at hd
              · rename_i xs h4
                simp only [Option.some.injEq] at hd
                subst hd
                obtain ⟨⟨y1, y2, ey, r1, r2⟩, _⟩ := rel_one (hf'.eval hfv) rfl, trivial
                simp only [List.cons.injEq, and_true] at ey
                have e1 := concL_ok h1 r1
                have e2 := concL_ok h3 r2
                have e3 := concL_ok h4 (argsA_rel (fun x av h => hf'.eval h) h2)
                have e3' : (args.map a'.eval) = xs.toArray := by
                  apply Array.ext'
                  simpa using e3
                have e1' : y1 = x1.toArray := by apply Array.ext'; simpa using e1
                have e2' : y2 = x2.toArray := by apply Array.ext'; simpa using e2
                simp only [execOp, resolve, ey, e3', e1', e2', Deferred.ofValue, Sem.run_bind, Sem.run_pure, Result.andThen_ok]
                simp
              · cases hd
            · cases hd
          · cases hd
        rw [Oper.wp, hrun, Oper.upon_defer]
        refine hK _ _ (wpList_nil ⟨_, .normal, en, H', R', q, rfl, hm', ?_⟩)
        exact ⟨fun k v x => hf'.fr k v x, hf'.size, by show _ :: a'.defers = _; rw [hf'.defers]⟩
      | exit i => simp only [ExitRel] at er; subst er; exact ⟨C.D, .exit i, en, H', R', q, rfl, hm', hf'⟩
      | goto i => simp only [ExitRel] at er; subst er; exact ⟨C.D, .goto i, en, H', R', q, rfl, hm', hf'⟩
      | ret => simp only [ExitRel] at er; subst er; exact ⟨C.D, .ret, en, H', R', q, rfl, hm', hf'⟩
      | panic v => obtain ⟨y, rfl, hr⟩ := er; exact ⟨C.D, .panic v, en, H', R', q, ⟨y, rfl, hr⟩, hm', hf'⟩
    intro l
    induction l with
    | nil => exact fun {a w} h => hq _ _ _ h
    | cons o r ih =>
      intro a w h
      simp only [wpList] at h ⊢
      split
      · rename_i hw
        rw [if_pos hw] at h
        rcases h with h | ⟨h1, b, w2, x, en, H', R', q, er, _⟩
        · exact .inl (upon_map (fun _ _ => ih) (fun _ _ _ => hq _ _ _) (fun ⟨a, w, q⟩ => ⟨a, w, hq _ _ _ q⟩) h)
        · exact .inr ⟨h1, b, w2, hq _ _ _ ⟨x, en, H', R', q, er, by assumption⟩⟩
      · rename_i hw
        rw [if_neg hw] at h
        exact ih h
  exact key h1
end
end Go.Proofs.YtgjckfphallmeaaGreatDoor
namespace Go.Proofs.YtgjckfphallmeaaGreatDoor
open Go Go.RowKit
inductive AMode where
  | ret
  | pan (v : AVal)
  | rcv (v : AVal)
def ModeRel (R : Seal) : AMode → FrameMode → Prop
  | .ret, u => u = .returning
  | .pan v, u => ∃ x, u = .panicking [{ v := x, recovered := false }] ∧ Rel R v x
  | .rcv v, u => ∃ x, u = .panicking [{ v := x, recovered := true }] ∧ Rel R v x
theorem ModeRel.mono {R R' : Seal} (h : R.le R') : ∀ {m : AMode} {u : FrameMode}, ModeRel R m u → ModeRel R' m u
  | .ret, _, x => x
  | .pan _, _, ⟨y, e, r⟩ => ⟨y, e, rel_mono h r⟩
  | .rcv _, _, ⟨y, e, r⟩ => ⟨y, e, rel_mono h r⟩
def AMode.settle : AMode → AMode
  | .ret => .ret
  | .pan v => .pan v
  | .rcv _ => .ret
theorem settle_rel {R : Seal} : ∀ {m : AMode} {u : FrameMode}, ModeRel R m u → ModeRel R m.settle (Go.settle u)
  | .ret, _, rfl => rfl
  | .pan _, _, ⟨y, rfl, r⟩ => ⟨y, rfl, r⟩
  | .rcv _, _, ⟨y, rfl, _⟩ => rfl
theorem mode_run {R : Seal} : ∀ {m : AMode} {u : FrameMode}, ModeRel R m u → u ≠ .run
  | .ret, _, rfl => by simp
  | .pan _, _, ⟨_, rfl, _⟩ => by simp
  | .rcv _, _, ⟨_, rfl, _⟩ => by simp
/-- A deferred call's contract. -/
def DSpec (P : Program) (G : Glo) (f : FuncId) (avs : List AVal) (m : AMode) (H : Heap) (Qd : ARes → AMode → Heap → Prop) : Prop :=
  ∀ R w args u (hG : G.p R), MS ⟨w, R, blks H, G, hG, []⟩ R H w → RelV R avs args.toList → ModeRel R m u →
    CallsD P f args u w fun e u' w' => ∃ res m' H' R', Qd res m' H' ∧ EndRel R' res e ∧ ModeRel R' m' u' ∧ MS ⟨w, R, blks H, G, hG, []⟩ R' H' w'
section
variable {P : Program} [Tab P] {G : Glo} {GL : List (Nat × List AVal)} {n : Nat} {H : Heap} {m : AMode}
theorem arg_fs {R : Seal} {avs : List AVal} {args : Array Value} {n : Nat} (hlen : Nat.ble avs.length n = true) (ha : RelV R avs args.toList) :
    FS [] n R (argEnv 0 avs) { tmps := args ++ Array.replicate (n - args.size) undef, defers := [] } := by
  have hl := relV_length ha
  have hlen := Nat.le_of_ble_eq_true hlen
  simp only [Array.length_toList] at hl
  refine ⟨fun k v hk => ?_, ?_, rfl⟩
  · obtain ⟨_, x, hx, hr⟩ := argEnv_get ha hk
    refine ⟨x, ?_, hr⟩
    simp only [Nat.sub_zero, Array.getElem?_toList] at hx
    have := Array.getElem?_eq_some_iff.1 hx
    rw [Array.getElem?_append_left this.1]
    exact hx
  · simp only [Array.size_append, Array.size_replicate]; omega
/-- A deferred call of a function that recovers nothing. -/
theorem ds_code {f : FuncId} {fn : Func} {c : Code} {avs : List AVal} {Qf : ARes → Heap → Prop} {rs : List ResultVar} (hf : P.funcs[f]? = some fn)
    (hb : fn.body = some c) (hn : fn.ntmps = n) (hrs : fn.results = rs.toArray) (hlen : Nat.ble avs.length n = true) (hGL : GloAll G GL)
    (h : ∀ C : Ctx, C.G = G → codeX P C n G GL c (argEnv 0 avs) H (RetX P rs Qf)) : DSpec P G f avs m H (fun res m' H' => m' = m ∧ Qf res H') := by
  intro R w args u hG hm ha hu
  have h1 := (codeX_ok (C := ⟨w, R, blks H, G, hG, []⟩) rfl hGL _ _ _ _ (h ⟨w, R, blks H, G, hG, []⟩ rfl)).mono fun _ _ _ q => RetX_ok q
  have h2 : c.wp P (bodyPost P fn (fun e w' => ∃ res H' R', Qf res H' ∧ EndRel R' res e ∧ R.le R' ∧ MS ⟨w, R, blks H, G, hG, []⟩ R' H' w')) { tmps := args ++ Array.replicate (fn.ntmps - args.size) undef, defers := [] } w := by
    subst hn
    refine wp_mono (h1 R _ w hm (arg_fs hlen ha)) ?_
    have hrs' : fn.results.toList = rs := by rw [hrs]
    rintro e a' w' ⟨x, env', H', R', q, er, hm', hf'⟩
    cases x with
    | normal =>
      simp only [ExitRel] at er; subst er
      obtain ⟨vs, H'', hv, hs, q⟩ := q
      obtain ⟨y, hy, hr⟩ := results_run (fn := fn) hm' hf' (by rw [hrs']; exact hv)
      exact ⟨hf'.defers, y, hy, _, H'', R', q, ⟨y, rfl, hr⟩, hm'.ge, hm'.drop hs⟩
    | ret =>
      simp only [ExitRel] at er; subst er
      obtain ⟨vs, H'', hv, hs, q⟩ := q
      obtain ⟨y, hy, hr⟩ := results_run (fn := fn) hm' hf' (by rw [hrs']; exact hv)
      exact ⟨hf'.defers, y, hy, _, H'', R', q, ⟨y, rfl, hr⟩, hm'.ge, hm'.drop hs⟩
    | panic v =>
      obtain ⟨y, rfl, hr⟩ := er
      obtain ⟨H'', hs, q⟩ := q
      exact ⟨hf'.defers, _, H'', R', q, ⟨y, rfl, hr⟩, hm'.ge, hm'.drop hs⟩
    | exit i => exact q.elim
    | goto i => exact q.elim
  refine (callsD_of_wp (u := u) hf hb h2).mono ?_
  rintro e u' w' ⟨rfl, res, H', R', q, er, hle, hm'⟩
  exact ⟨res, m, H', R', ⟨rfl, q⟩, er, hu.mono hle, hm'⟩
omit [Tab P] in
theorem ds_frame {f : FuncId} {avs : List AVal} {H1 : Heap} (H2 : Heap) {Qd : ARes → AMode → Heap → Prop} (h : DSpec P G f avs m H1 Qd) : DSpec P G f avs m (H1 ++ H2) (fun r m' H' => ∃ H1', Qd r m' H1' ∧ H' = H1' ++ H2) := by
  intro R w args u hG hm ha hu
  exact (h R w args u hG hm.enter ha hu).mono fun e u' w' ⟨res, m', H', R', q, er, hu', hm'⟩ => ⟨res, m', H' ++ H2, R', ⟨H', q, rfl⟩, er, hu', MS.call hm hm'⟩
omit [Tab P] in
omit [Tab P] in
theorem ds_heap {f : FuncId} {avs : List AVal} {Qd Qd' : ARes → AMode → Heap → Prop} (h : DSpec P G f avs m H Qd) (hq : ∀ r m' H', Qd r m' H' → ∃ H'', H'.Perm H'' ∧ Qd' r m' H'') : DSpec P G f avs m H Qd' := by
  intro R w args u hG hm ha hu
  exact (h R w args u hG hm ha hu).mono fun e u' w' ⟨res, m', H', R', q, er, hu', hm'⟩ => let ⟨H'', hp, q'⟩ := hq _ _ _ q; ⟨res, m', H'', R', q', er, hu', hm'.perm hp⟩
omit [Tab P] in
omit [Tab P] in
theorem ds_pre {f : FuncId} {avs : List AVal} {H1 H1' : Heap} {r : ARes} {m' : AMode} (H2 : Heap) (hs : DSpec P G f avs m H1 (fun r2 m2 H2 => m2 = m' ∧ r2 = r ∧ H2 = H1')) :
    DSpec P G f avs m (H1 ++ H2) (fun r2 m2 H' => m2 = m' ∧ r2 = r ∧ H' = H1' ++ H2) := by
  refine ds_heap (ds_frame H2 hs) ?_
  rintro r2 m2 H' ⟨H3, ⟨rfl, rfl, rfl⟩, rfl⟩
  exact ⟨_, List.Perm.refl _, rfl, rfl, rfl⟩
/-! ## As a function leaves -/
def Lv (P : Program) (G : Glo) (n : Nat) (rs : List ResultVar) (env : Env) (D : List Deferred) (m : AMode) (H : Heap) (Qf : ARes → Heap → Prop) : Prop :=
  ∀ (C : Ctx) (R : Seal) (a : Act) (w : World) (fn : Func) (u : FrameMode) (D0 : List Deferred), C.G = G → fn.results.toList = rs → MS C R H w → FS D0 n R env a → ModeRel R m u →
    Leaves P fn a.tmps (fun e w' => ∃ res H' R', Qf res H' ∧ EndRel R' res e ∧ MS C R' H' w') D u w
variable {rs : List ResultVar} {env : Env} {Qf : ARes → Heap → Prop} {D : List Deferred}
theorem lv_ret (h : RetX P rs Qf .ret env H) : Lv P G n rs env [] .ret H Qf := by
  rintro C R a w fn u D0 hC hrs hm hf rfl
  obtain ⟨vs, H'', hv, hs, q⟩ := RetX_ok h
  obtain ⟨y, hy, hr⟩ := results_run (fn := fn) hm hf (by rw [hrs]; exact hv)
  exact ⟨y, hy, _, H'', R, q, ⟨y, rfl, hr⟩, hm.drop hs⟩
omit [Tab P] in
omit [Tab P] in
/-- A deferred call that answers. -/
theorem lv_call {f : FuncId} {avs : List AVal} {cap args : Array Value} {v : AVal} {m' : AMode} {H' : Heap} (hs : DSpec P G f avs m H (fun r2 m2 H2 => m2 = m' ∧ r2 = .ret v ∧ H2 = H')) (ha : ∀ R, RelV R avs (args ++ cap).toList)
    (hc : ∀ args w, (callFunc f args).run P w = .ok (.enter f args) w) (k : Lv P G n rs env D m'.settle H' Qf) : Lv P G n rs env ({ target := .fn (.func f) cap, args := args } :: D) m H Qf := by
  intro C R a w fn u D0 hC hrs hm hf hu
  subst hC
  refine leaves_cons (f := f) (args := args ++ cap) (mode_run hu) (by simp only [invoke]; exact hc _ _) ?_
  refine (hs R w _ u hm.glo (MS.enter (H2 := []) (by simpa using hm)) (ha R) hu).mono ?_
  rintro e u' w' ⟨res, m2, H2, R', ⟨rfl, rfl, rfl⟩, ⟨y, rfl, hr⟩, hu', hm'⟩
  have hm2 : MS C R' H2 w' := by simpa using MS.call (H2 := []) (by simpa using hm) hm'
  exact k C R' a w' fn _ D0 rfl hrs hm2 (hf.mono hm'.ge) (settle_rel hu')
def LvQ (P : Program) (G : Glo) (n : Nat) (rs : List ResultVar) (Qf : ARes → Heap → Prop) : List Deferred → AExit → Env → Heap → Prop
  | D, .ret, e, H | D, .normal, e, H => Lv P G n rs e D .ret H Qf
  | D, .panic v, e, H => Lv P G n rs e D (.pan v) H Qf
  | _, _, _, _ => False
omit [Tab P] in
/-- FROM THE SPINE TO THE CONTRACT. -/
theorem fn_d {f : FuncId} {fn : Func} {c : Code} {avs : List AVal} (hf : P.funcs[f]? = some fn)
    (hc : ∀ args w, (callFunc f args).run P w = .ok (.enter f args) w) (hb : fn.body = some c) (hn : fn.ntmps = n) (hrs : fn.results = rs.toArray) (hlen : Nat.ble avs.length n = true)
    (h : ∀ C : Ctx, C.G = G → C.D = [] → AWpD P C n c (argEnv 0 avs) H (LvQ P G n rs Qf)) : FnSpec P G f avs H Qf := by
  intro R w args hG hm ha
  refine .inl ⟨hc args w, calls_of_wp_defers hf hb ?_⟩
  subst hn
  have hrs' : fn.results.toList = rs := by rw [hrs]
  refine wp_mono (h ⟨w, R, blks H, G, hG, []⟩ rfl rfl R _ w hm (arg_fs hlen ha)) ?_
  rintro e a' w' ⟨D, x, env', H', R', q, er, hm', hf'⟩
  cases x with
  | normal =>
    simp only [ExitRel] at er; subst er
    have := q _ R' a' w' fn .returning D rfl hrs' hm' hf' rfl
    rwa [← hf'.defers] at this
  | ret =>
    simp only [ExitRel] at er; subst er
    have := q _ R' a' w' fn .returning D rfl hrs' hm' hf' rfl
    rwa [← hf'.defers] at this
  | panic v =>
    obtain ⟨y, rfl, hr⟩ := er
    have := q _ R' a' w' fn (.panicking [{ v := y, recovered := false }]) D rfl hrs' hm' hf' ⟨y, rfl, hr⟩
    rwa [← hf'.defers] at this
  | exit i => exact q.elim
  | goto i => exact q.elim
end
end Go.Proofs.YtgjckfphallmeaaGreatDoor
namespace Go.Proofs.YtgjckfphallmeaaGreatDoor
open Go Go.RowKit
theorem relL_set {R : Seal} {a a' : AVal} (ht : ∀ v, RelC R a [v] → RelC R a' [v]) : ∀ {cs : List AVal} {vs : List Value} {p : Nat}, RelL R cs vs → cs[p]? = some a → RelL R (cs.set p a') vs
  | [], _, _, _, e => by simp at e
  | c :: cs, _, 0, ⟨v, t, rfl, h1, h2⟩, e => by
    simp only [List.getElem?_cons_zero, Option.some.injEq] at e
    subst e
    exact ⟨v, t, rfl, ht v h1, h2⟩
  | c :: cs, _, p + 1, ⟨v, t, rfl, h1, h2⟩, e => by
    simp only [List.getElem?_cons_succ] at e
    exact ⟨v, t, rfl, h1, relL_set ht h2 e⟩
/-- An entry whose cell is told otherwise. -/
inductive CellTo (R : Seal) (p : Nat) (a' : AVal) : HEnt → HEnt → Prop
  | cells {b eT cs a} (hp : cs[p]? = some a) (ht : ∀ v, RelC R a [v] → RelC R a' [v]) : CellTo R p a' (.cells b eT cs) (.cells b eT (cs.set p a'))
  | row {v eT sz n cs a} (hp : cs[p]? = some a) (ht : ∀ v, RelC R a [v] → RelC R a' [v]) : CellTo R p a' (.row v eT sz n cs) (.row v eT sz n (cs.set p a'))
theorem CellTo.holds {R : Seal} {p : Nat} {a' : AVal} {x y : HEnt} {w : World} (h : CellTo R p a' x y) (hx : x.holds R w) : y.holds R w ∧ y.blk = x.blk := by
  cases h with
  | cells hp ht =>
    obtain ⟨C, e, fz, hb, hl, hf⟩ := hx
    exact ⟨⟨C, e, fz, hb, relL_set ht hl hp, hf⟩, rfl⟩
  | row hp ht =>
    rename_i v eT sz n cs a
    obtain ⟨hlen, y⟩ := hx
    refine ⟨⟨by rw [List.length_set]; exact hlen, ?_⟩, by cases v with | slice a l c => cases a <;> rfl | _ => rfl⟩
    rcases y with ⟨h1, h2⟩ | ⟨b, cap, C, e, fz, rfl, hb, hs, hn, hl, hf⟩
    · exact .inl ⟨h1, h2⟩
    · exact .inr ⟨b, cap, C, e, fz, rfl, hb, hs, hn, relL_set ht hl hp, hf⟩
def To (C : Ctx) (n : Nat) (e : Env) (h : Heap) (e' : Env) (h' : Heap) : Prop :=
  ∀ R a w, MS C R h w → FS C.D n R e a → ∃ R', R.le R' ∧ MS C R' h' w ∧ FS C.D n R' e' a
section
variable {C : Ctx} {n : Nat} {e e' e'' : Env} {h h' h'' : Heap}
end
section
variable {P : Program} [Tab P] {C : Ctx} {n : Nat} {env : Env} {H : Heap} {Q : AExit → Env → Heap → Prop} {G : Glo} {GL : List (Nat × List AVal)}
omit [Tab P] in
theorem lp_to {c : Code} {e' : Env} {h' : Heap} (hto : To C n env H e' h') (k : Lp P C n c e' h' Q) : Lp P C n c env H Q := by
  refine ⟨fun R a w hm hf => ?_⟩
  obtain ⟨R0, _, hm, hf⟩ := hto R a w hm hf
  exact k.h R0 a w hm hf
omit [Tab P] in
omit [Tab P] in
end
end Go.Proofs.YtgjckfphallmeaaGreatDoor
namespace Go.Proofs.YtgjckfphallmeaaGreatDoor
open Go Go.RowKit
set_option maxRecDepth 20000
set_option maxHeartbeats 4000000
set_option linter.unusedSimpArgs false
set_option linter.unusedVariables false
attribute [local irreducible] AWp AOps byteAt SrcOK OrOk GloAll FnSpec
/-- What is not needed any more of the call's own memory is left behind. -/
theorem lp_drop {P : Program} [Tab P] {C : Ctx} {n : Nat} {env : Env} {H : Heap} {Q : AExit → Env → Heap → Prop} {c : Code} (k : Lp P C n c env [] Q) : Lp P C n c env H Q :=
  lp_to (fun R _ _ hm hf => ⟨R, Seal.le_refl R, hm.drop (List.nil_sublist _), hf⟩) k
theorem only_iff {v : Vl} {z : Bool} (hz : zeroB v.st = z) : v.only = true ↔ (v.s.length = 0 ∨ v.t = 1 ∨ v.t = 4 ∨ v.t = 7 ∨ v.t = 8) ∧ (v.L.length = 0 ∨ v.t = 2 ∨ v.t = 3) ∧ ((if z then 0 else 1 : Int) = 0 ∨ v.t = 5) ∧ (v.n = 0 ∨ v.t = 6) := by
  unfold Vl.only
  rw [hz, decide_eq_true_eq]
  cases z <;> simp
theorem Vl.E_out {v : Vl} (h : v.t < 1 ∨ 9 ≤ v.t) : v.E = .errno 1 := Vl.E_bad (h.elim .inl (fun k => .inr (.inl k)))
theorem Vl.E_no {v : Vl} (h : ¬ v.only = true) : v.E = .errno 1 := Vl.E_bad (.inr (.inr (by simpa using h)))
attribute [local irreducible] hdC hdB badI zeroB Vl.only uriE langX Stm.e zrB nilAt hdL
theorem ref_ValueRight {G : Glo} {m : Int} (hU : GloAll G utfTy) (hM : GloAll G (maxTy m)) (v : Vl) (hv : v.OK) (hl : v.s.length ≤ 3000) (h3 : FnIs Tryz.prog G 35 [v.st.A] (.int .i64 v.st.e)) : FnIs Tryz.prog G 11 [v.A] (.int .i64 v.E.e) := by
  have h1 := ref_UriRight (G := G) v.s (by omega)
  have h4 := ref_ZoneRight (G := G) v.n
  have h5 := ref_LangRight hM v.s hl
  have h7 := ref_Holds hU v.s true (by omega)
  have h8 := ref_Holds hU v.s false (by omega)
  have k1 := fun k j (_ : (0 : Int) ≤ 0) => ref_Holds hU ((v.L.getD k []).getD j []) true (hv.l k j)
  have hW := ref_within (G := G) v.t 1 8
  have hz := zero_and v.st
  have hz0 : andL [eqB 0 0, eqB 0 0, eqB 0 0, eqB 0 0, eqB 0 0, eqB 0 0, false == false, eqB 0 0] = true := by rw [zero_and ⟨0, 0, 0, 0, 0, 0, false, 0⟩]; unfold zeroB; rfl
  have hn := hv.n
  have hr := hv.r
  by_cases ht : v.t < 1 ∨ 9 ≤ v.t
  · rw [show (decide (1 ≤ v.t) && decide (v.t ≤ 8)) = false by rw [← Bool.not_eq_true, Bool.and_eq_true, decide_eq_true_eq, decide_eq_true_eq]; omega] at hW
    rw [Vl.E_out ht]
    have hGL : GloAll G [] := gloAll_nil
    refine fn_x Tryz.func11 Tryz.call11 rfl rfl rfl rfl hGL ?_
    intro C hC
    exact xw0
  rw [show (decide (1 ≤ v.t) && decide (v.t ≤ 8)) = true by rw [Bool.and_eq_true, decide_eq_true_eq, decide_eq_true_eq]; omega] at hW
  have hO := only_iff (v := v) rfl
  cases hq : zeroB v.st
  all_goals
    rw [hq] at hz hO
    simp only [if_true, if_false, Bool.false_eq_true, true_or, true_and] at hO
    have hGL : GloAll G [] := gloAll_nil
    refine fn_x Tryz.func11 Tryz.call11 rfl rfl rfl rfl hGL ?_
    intro C hC
    refine xw ?_
    repeat' (first | exact Le.n | refine Lc.mk ?_ ?_)
    all_goals intros
    all_goals first
      | (refine op1_run hC hGL (rv_neqagg _ rfl rfl rfl rfl (by kernel_rfl) (by kernel_rfl) (by kernel_rfl) rfl hz) rfl rfl ?_; refine xw ?_)
      | (refine op1_run hC hGL (rv_neqagg _ rfl rfl rfl rfl (by kernel_rfl) (by kernel_rfl) (by kernel_rfl) rfl hz0) rfl rfl ?_; refine xw ?_)
      | skip
    repeat' (first | exact Le.n | refine Lc.mk ?_ ?_)
    all_goals intros
    all_goals try first
      | (apply rt_is; rw [Vl.E_no (fun k => by have := hO.1 k; omega)]; rfl)
      | (apply rt_is; rw [Vl.E_4 (hO.2 (by omega)) (by assumption), Err.b_e]; done)
      | (apply rt_is; rw [Vl.E_5 (hO.2 (by omega)) (by assumption), Stm.E_e]; done)
      | (apply rt_is; rw [Vl.E_7 (hO.2 (by omega)) (by assumption), Err.b_e]; done)
      | (apply rt_is; rw [Vl.E_6 (hO.2 (by omega)) (by assumption)]; unfold zprE; rw [show zrB v.n = true by assumption]; rfl)
      | (apply rt_is; rw [Vl.E_6 (hO.2 (by omega)) (by assumption)]; unfold zprE; rw [show zrB v.n = false by assumption]; rfl)
      | (apply rt_is; rw [Vl.E_p (hO.2 (by omega)) (by omega), ptsE_no (by omega)]; rfl)
      | (apply rt_is; rw [Vl.E_rest (hO.2 (by omega)) (by omega) (by omega) (by omega) (by omega) (by omega) (by omega) (by omega) (by omega)]; first
          | (rw [show decide (v.t = 1) = true from decide_eq_true (by omega), show hdB true v.s = true by assumption]; rfl)
          | (rw [show decide (v.t = 1) = true from decide_eq_true (by omega), show hdB true v.s = false by assumption]; rfl)
          | (rw [show decide (v.t = 1) = false from decide_eq_false (by omega), show hdB false v.s = true by assumption]; rfl)
          | (rw [show decide (v.t = 1) = false from decide_eq_false (by omega), show hdB false v.s = false by assumption]; rfl))
    all_goals
      rw [Vl.E_p (hO.2 (by omega)) (by omega), ptsE_go (by omega)]
      refine lp_drop ?_
      refine lp hC hGL (fun x : Nat × Bool => [(4, .bool x.2), (71, .list 1 v.L.length (partsF v.L)), (72, .int .i64 (v.L.length : Nat)), (73, .int .i64 (x.1 : Nat))]) (fun _ => []) (fun x => x.1 ≤ nilAt v.L ∧ (x.2 = false → hdK v.L x.1) ∧ (x.2 = true → hdL v.L = false)) (fun x => v.L.length - x.1) (0, false) ?_ env_w rfl ?_
      · exact ⟨Nat.zero_le _, fun _ i hi => absurd hi (Nat.not_lt_zero _), fun h => by cases h⟩
      rintro ⟨k, b⟩ ⟨hk, hb1, hb2⟩
      dsimp only at hk hb1 hb2
      have hnl := nilAt_le v.L
      refine xw ?_
      repeat' (first | exact Le.n | refine Lc.mk ?_ ?_)
      all_goals intros
      all_goals try dsimp only at *
      all_goals try first
        | (apply rt_is; rw [if_pos (nil_hit (k := k) (by omega) hk (by omega))]; rfl)
        | (apply rt_is; rw [if_neg (by omega), hb2 (by assumption)]; rfl)
        | (apply rt_is; rw [if_neg (by omega), hdK_all (by omega) (hb1 (by assumption))]; rfl)
      refine lp hC hGL (fun x : Nat × Bool => [(4, .bool x.2), (71, .list 1 v.L.length (partsF v.L)), (72, .int .i64 (v.L.length : Nat)), (73, .int .i64 (k : Nat)), (80, .list 1 (v.L.getD k []).length (strsF (v.L.getD k []))), (81, .int .i64 ((v.L.getD k []).length : Nat)), (82, .int .i64 (x.1 : Nat))]) (fun _ => []) (fun x => x.1 ≤ (v.L.getD k []).length ∧ (x.2 = false → hdK v.L k ∧ hdJ (v.L.getD k []) x.1) ∧ (x.2 = true → hdL v.L = false)) (fun x => (v.L.getD k []).length - x.1) (0, b) ?_ env_w rfl ?_
      · exact ⟨Nat.zero_le _, fun h => ⟨hb1 h, fun i hi => absurd hi (Nat.not_lt_zero _)⟩, hb2⟩
      rintro ⟨j, c⟩ ⟨hj, hc1, hc2⟩
      dsimp only at hj hc1 hc2
      have hrk := hr k
      refine xw ?_
      repeat' (first | exact Le.n | refine Lc.mk ?_ ?_)
      all_goals intros
      all_goals try dsimp only at *
      all_goals first
        | (refine nxt (k + 1, c) ⟨nil_miss (by omega) hk (by omega), fun h => hdK_succ (hc1 h).1 (hdJ_all (by omega) (hc1 h).2), hc2⟩ (by dsimp only; omega) env_w rfl)
        | (refine nxt (j + 1, true) ⟨by dsimp only; omega, fun h => Bool.noConfusion h, fun _ => hc2 (by assumption)⟩ (by dsimp only; omega) env_w rfl)
        | (refine nxt (j + 1, !(hdB true ((v.L.getD k []).getD j []))) ⟨by dsimp only; omega, fun h => ⟨(hc1 (by assumption)).1, hdJ_succ (hc1 (by assumption)).2 (by simpa using h)⟩, fun h => hdK_not (k := k) (by omega) (hdJ_not (j := j) (by omega) (by simpa using h))⟩ (by dsimp only; omega) env_w rfl)
end Go.Proofs.YtgjckfphallmeaaGreatDoor
namespace Go.Proofs.YtgjckfphallmeaaGreatDoor
open Go Go.RowKit
set_option maxRecDepth 20000
set_option maxHeartbeats 4000000
set_option linter.unusedSimpArgs false
set_option linter.unusedVariables false
attribute [local irreducible] AWp AOps byteAt SrcOK OrOk GloAll FnSpec
theorem Vl.E_none {v : Vl} (h : v.E = .none) : v.only = true ∧ 1 ≤ v.t ∧ v.t < 9 := by
  by_cases h1 : v.t < 1 ∨ 9 ≤ v.t ∨ v.only = false
  · rw [Vl.E_bad h1] at h; cases h
  · refine ⟨?_, by omega, by omega⟩
    cases ho : v.only
    · exact absurd (.inr (.inr ho)) h1
    · rfl
theorem Vl.T_ok {v : Vl} (h : v.E = .none) : v.T = if v.t = 1 then escS v.s else if v.t = 2 ∨ v.t = 3 then joinPT v.L else if v.t = 5 then v.st.T else if v.t = 6 then zprS v.n else v.s := by
  unfold Vl.T
  rw [h]
theorem Vl.T_no {v : Vl} (h : v.E ≠ .none) : v.T = [] := by
  unfold Vl.T
  split
  · rename_i k; exact absurd k h
  · rfl
theorem joinPE_none {t : Int} {L : List (List (List UInt8))} (h : ptsE t L = .none) : joinPE L = .none := by
  unfold ptsE at h
  unfold joinPE
  split at h
  · cases h
  · split at h
    · cases h
    · rename_i h1 h2
      rw [if_neg (fun k => h1 (.inl (by rw [k]; rfl))), if_neg h2]
/-- What a value that is right leads to. -/
theorem Vl.right {v : Vl} (h : v.E = .none) : (v.t = 2 ∨ v.t = 3 → joinPE v.L = .none) ∧ (v.t = 5 → v.st.E = .none) ∧ (v.t = 6 → zprE v.n = .none) := by
  obtain ⟨ho, _, _⟩ := Vl.E_none h
  refine ⟨fun k => ?_, fun k => ?_, fun k => ?_⟩
  · rw [Vl.E_p ho k] at h; exact joinPE_none h
  · rwa [Vl.E_5 ho k] at h
  · rwa [Vl.E_6 ho k] at h
theorem T_1 {v : Vl} (h : v.E = .none) (k : v.t = 1) : v.T = escS v.s := by rw [Vl.T_ok h, if_pos k]
theorem T_2 {v : Vl} (h : v.E = .none) (k : v.t = 2 ∨ v.t = 3) : v.T = joinPT v.L := by rw [Vl.T_ok h, if_neg (by omega), if_pos k]
theorem T_5 {v : Vl} (h : v.E = .none) (k : v.t = 5) : v.T = v.st.T := by rw [Vl.T_ok h, if_neg (by omega), if_neg (by omega), if_pos k]
theorem T_6 {v : Vl} (h : v.E = .none) (k : v.t = 6) : v.T = zprS v.n := by rw [Vl.T_ok h, if_neg (by omega), if_neg (by omega), if_neg (by omega), if_pos k]
theorem T_s {v : Vl} (h : v.E = .none) (a : v.t ≠ 1) (b : v.t ≠ 2) (c : v.t ≠ 3) (d : v.t ≠ 5) (e : v.t ≠ 6) : v.T = v.s := by rw [Vl.T_ok h, if_neg a, if_neg (by omega), if_neg d, if_neg e]
attribute [local irreducible] Vl.E Vl.T joinPT joinPE zprS zprE Stm.T Stm.E Stm.e escS escF
theorem value_Write {G : Glo} (v : Vl) (hR : FnIs Tryz.prog G 8 [v.A] v.E.A) (hE : FnIs Tryz.prog G 16 [.str v.s] (.str (escS v.s)))
    (hJ : FnIs Tryz.prog G 17 [.list 1 v.L.length (partsF v.L)] (.tuple [.str (joinPT v.L), (joinPE v.L).A])) (hP : FnIs Tryz.prog G 18 [v.st.A] (.tuple [.str v.st.T, v.st.E.A])) :
    FnIs Tryz.prog G 6 [v.A] (.tuple [.str v.T, v.E.A]) := by
  have hZ := zone_Print (G := G) v.n
  rcases hq : v.E with _ | e | ⟨e, p⟩
  · obtain ⟨r1, r2, r3⟩ := Vl.right hq
    have t1 := T_1 hq
    have t2 := T_2 hq
    have t5 := T_5 hq
    have t6 := T_6 hq
    have ts := T_s hq
    rw [hq] at hR
    have hGL : GloAll G [] := gloAll_nil
    refine fn_x Tryz.func6 Tryz.call6 rfl rfl rfl rfl hGL ?_
    intro C hC
    refine xw ?_
    repeat' (first | exact Le.n | refine Lc.mk ?_ ?_)
    all_goals intros
    all_goals first
      | (apply rt_is; rw [t1 (by assumption)] <;> rfl)
      | (apply rt_is; rw [t2 (by omega), r1 (by omega)] <;> rfl)
      | (apply rt_is; rw [t5 (by assumption), r2 (by assumption)] <;> rfl)
      | (apply rt_is; rw [t6 (by assumption), r3 (by assumption)] <;> rfl)
      | (apply rt_is; rw [ts (by assumption) (by assumption) (by assumption) (by assumption) (by assumption)] <;> rfl)
  · rw [Vl.T_no (by rw [hq]; exact fun k => by cases k)]
    rw [hq] at hR
    have hGL : GloAll G [] := gloAll_nil
    refine fn_x Tryz.func6 Tryz.call6 rfl rfl rfl rfl hGL ?_
    intro C hC
    exact xw0
  · rw [Vl.T_no (by rw [hq]; exact fun k => by cases k)]
    rw [hq] at hR
    have hGL : GloAll G [] := gloAll_nil
    refine fn_x Tryz.func6 Tryz.call6 rfl rfl rfl rfl hGL ?_
    intro C hC
    exact xw0
theorem ref_ValueWrite {G : Glo} (v : Vl) (hR : FnIs Tryz.prog G 11 [v.A] (.int .i64 v.E.e)) (hE : FnIs Tryz.prog G 12 [.str v.s] (.str (escS v.s)))
    (hJ : FnIs Tryz.prog G 13 [.list 1 v.L.length (partsF v.L)] (.tuple [.str (joinPT v.L), .agg [.int .i64 (joinPE v.L).e, .int .i64 (joinPE v.L).p]])) (hP : FnIs Tryz.prog G 14 [v.st.A] (.tuple [.str v.st.T, .int .i64 v.st.e]))
    (h0 : v.E.e = 0 → v.E = .none) : FnIs Tryz.prog G 5 [v.A] (.tuple [.str v.T, .int .i64 v.E.e]) := by
  have hZ := ref_ZonePrint (G := G) v.n
  by_cases hq : v.E = .none
  · obtain ⟨r1, r2, r3⟩ := Vl.right hq
    have t1 := T_1 hq
    have t2 := T_2 hq
    have t5 := T_5 hq
    have t6 := T_6 hq
    have ts := T_s hq
    have r4 : v.t = 5 → v.st.e = 0 := fun k => by rw [← Stm.E_e, r2 k]; rfl
    rw [hq] at hR ⊢
    have hR : FnIs Tryz.prog G 11 [v.A] (.int .i64 0) := hR
    have e0 : (Err.none).e = 0 := rfl
    rw [e0]
    have hGL : GloAll G [] := gloAll_nil
    refine fn_x Tryz.func5 Tryz.call5 rfl rfl rfl rfl hGL ?_
    intro C hC
    refine xw ?_
    repeat' (first | exact Le.n | refine Lc.mk ?_ ?_)
    all_goals intros
    all_goals first
      | (apply rt_is; rw [t1 (by assumption)] <;> rfl)
      | (apply rt_is; rw [t2 (by omega)] <;> rfl)
      | (apply rt_is; rw [t5 (by assumption), r4 (by assumption)] <;> rfl)
      | (apply rt_is; rw [t6 (by assumption), r3 (by assumption)] <;> rfl)
      | (apply rt_is; rw [ts (by assumption) (by assumption) (by assumption) (by assumption) (by assumption)] <;> rfl)
  · have hne : v.E.e ≠ 0 := fun k => hq (h0 k)
    rw [Vl.T_no hq]
    have hGL : GloAll G [] := gloAll_nil
    refine fn_x Tryz.func5 Tryz.call5 rfl rfl rfl rfl hGL ?_
    intro C hC
    exact xw0
end Go.Proofs.YtgjckfphallmeaaGreatDoor
namespace Go.Proofs.YtgjckfphallmeaaGreatDoor
open Go Go.RowKit
set_option maxRecDepth 20000
set_option maxHeartbeats 4000000
set_option linter.unusedSimpArgs false
set_option linter.unusedVariables false
attribute [local irreducible] AWp AOps byteAt SrcOK OrOk GloAll FnSpec
theorem lens_step {l : List (List UInt8)} {j : Nat} (h : j < l.length) : Lib.lens (l.take (j + 1)) = Lib.lens (l.take j) + (l.getD j []).length :=
  Lib.lens_take_succ l j _ (by rw [List.getD_eq_getElem?_getD, List.getElem?_eq_getElem h]; rfl)
theorem ptsE_p (t : Int) (L : List (List (List UInt8))) : (ptsE t L).p = -1 := by unfold ptsE; (repeat' split) <;> rfl
theorem Vl.E_at (v : Vl) : v.E.p = -1 := by
  unfold Vl.E
  (repeat' split)
  · rfl
  · exact ptsE_p _ _
  · exact Err.b_p _
  · exact Stm.E_p _
  · unfold zprE; split <;> rfl
  · exact Err.b_p _
  · rfl
  · rfl
theorem Vl.E_notat (v : Vl) (e p : Int) : v.E ≠ .at e p := by
  have hb : ∀ x : Err, x.b ≠ .at e p := fun x => by cases x <;> exact fun k => by cases k
  unfold Vl.E
  (repeat' split)
  · exact fun k => by cases k
  · unfold ptsE; (repeat' split) <;> exact fun k => by cases k
  · exact hb _
  · unfold Stm.E; (repeat' split) <;> exact fun k => by cases k
  · unfold zprE; split <;> exact fun k => by cases k
  · exact hb _
  · exact fun k => by cases k
  · exact fun k => by cases k
theorem uri_e0 (s : List UInt8) (h : (uriE s).e = 0) : uriE s = .none := by
  unfold uriE at h ⊢
  (repeat' split at h) <;> first | (exfalso; revert h; simp [Err.e]; done) | (rename_i h1 h2 h3; rw [if_neg h1, if_neg h2, if_neg h3])
theorem lang_e0 : ∀ (l : List (List UInt8)) (b : Bool) (a : Nat), (langE b a l).e = 0 → langE b a l = .none
  | [], _, _, _ => rfl
  | x :: xs, b, a, h => by
    rw [langE_cons] at h ⊢
    split at h
    · rename_i k
      rw [if_pos k]
      exact lang_e0 xs _ _ h
    · rename_i k
      exfalso
      revert h k
      unfold pieceX
      (repeat' split) <;> simp [Err.e, Err.isNone]
theorem Err.b_none {x : Err} (h : x.e = 0 → x = .none) (k : x.b.e = 0) : x.b = .none := by
  rw [Err.b_e] at k
  rw [h k]
  rfl
theorem Vl.E_zero (v : Vl) (h : v.E.e = 0) : v.E = .none := by
  revert h
  unfold Vl.E
  (repeat' split)
  · intro h; cases h
  · unfold ptsE; (repeat' split) <;> intro h <;> first | rfl | cases h
  · exact Err.b_none (uri_e0 _)
  · unfold Stm.E; (repeat' split) <;> intro h <;> first | rfl | cases h
  · unfold zprE; (repeat' split) <;> intro h <;> first | rfl | cases h
  · exact Err.b_none (lang_e0 _ _ _)
  · intro _; rfl
  · intro h; cases h
attribute [local irreducible] Vl.E Vl.T hdB
theorem law_thick {G : Glo} (v : Vl) (hs : v.s.length ≤ 2000000) (hL : Small v.L) : FnSpec Tryz.prog G 4 [v.A] [] (fun r H => (∃ a, r = .ret a ∧ ∃ b, a = .bool b ∧ (b = false → v.s.length ≤ 2500)) ∧ H = []) := by
  have hn := hL.n
  have hGL : GloAll G [] := gloAll_nil
  refine fn_x Tryz.func4 Tryz.call4 rfl rfl rfl rfl hGL ?_
  intro C hC
  refine xw1 ?_
  refine lp hC hGL (fun x : Nat × Nat => [(3, .int .i64 (x.2 : Nat)), (16, .list 1 v.L.length (partsF v.L)), (17, .int .i64 (v.L.length : Nat)), (18, .int .i64 (x.1 : Nat))]) (fun _ => []) (fun x => x.1 ≤ v.L.length ∧ v.s.length ≤ x.2 ∧ x.2 ≤ v.s.length + v.L.length + 4000000 * x.1) (fun x => v.L.length - x.1) (0, v.s.length + v.L.length) ?_ env_w rfl ?_
  · exact ⟨Nat.zero_le _, Nat.le_add_right _ _, Nat.le_refl _⟩
  rintro ⟨k, n⟩ ⟨h1, h2, h3⟩
  dsimp only at h1 h2 h3
  have hk := hL.k k
  refine xw ?_
  repeat' (first | exact Le.n | refine Lc.mk ?_ ?_)
  all_goals intros
  · refine lp hC hGL (fun x : Nat × Nat => [(3, .int .i64 (x.2 : Nat)), (16, .list 1 v.L.length (partsF v.L)), (17, .int .i64 (v.L.length : Nat)), (18, .int .i64 (k : Nat)), (26, .list 1 (v.L.getD k []).length (strsF (v.L.getD k []))), (27, .int .i64 ((v.L.getD k []).length : Nat)), (28, .int .i64 (x.1 : Nat))]) (fun _ => []) (fun x => x.1 ≤ (v.L.getD k []).length ∧ v.s.length ≤ x.2 ∧ x.2 ≤ v.s.length + v.L.length + 4000000 * k + 2000000 + Lib.lens ((v.L.getD k []).take x.1)) (fun x => (v.L.getD k []).length - x.1) (0, n + (v.L.getD k []).length) ?_ env_w rfl ?_
    · exact ⟨Nat.zero_le _, by dsimp only; omega, by dsimp only; omega⟩
    rintro ⟨j, q⟩ ⟨g1, g2, g3⟩
    dsimp only at g1 g2 g3
    have hj1 := Lib.lens_take_le (v.L.getD k []) j
    have hj2 := Lib.lens_take_le (v.L.getD k []) (j + 1)
    have hj3 : j < (v.L.getD k []).length → Lib.lens ((v.L.getD k []).take (j + 1)) = Lib.lens ((v.L.getD k []).take j) + ((v.L.getD k []).getD j []).length := fun h => lens_step h
    refine xw ?_
    repeat' (first | exact Le.n | refine Lc.mk ?_ ?_)
    all_goals intros
    all_goals try dsimp only at *
    · refine nxt (j + 1, q + ((v.L.getD k []).getD j []).length) ⟨by dsimp only; omega, by dsimp only; omega, ?_⟩ (by dsimp only; omega) env_w rfl
      dsimp only
      rw [hj3 (by omega)]
      omega
    · exact nxt (k + 1, q) ⟨by dsimp only; omega, by dsimp only; omega, by dsimp only; omega⟩ (by dsimp only; omega) env_w rfl
  · refine ⟨[], List.nil_sublist _, ⟨_, rfl, _, rfl, fun h => ?_⟩, rfl⟩
    have h := ltB_f.1 h
    dsimp only at h
    omega
theorem law_ValueWrites {G : Glo} (hU : GloAll G utfTy) (hE : GloAll G errTy) (v : Vl) (hs : v.s.length ≤ 2000000) (hL : Small v.L) (hl : v.s.length ≤ 2500 → FnIs Tryz.prog G 5 [v.A] (.tuple [.str v.T, .int .i64 v.E.e]) ∧ FnIs Tryz.prog G 6 [v.A] (.tuple [.str v.T, v.E.A]) ∧ FnIs Tryz.prog G 8 [v.A] v.E.A) :
    FnIs Tryz.prog G 3 [v.A] (.bool true) := by
  have h0 := law_thick (G := G) v hs hL
  have h6 := bare_ok (G := G) hE v.E v.E_at
  have h7 := value_Holds (G := G) v.s true (by omega)
  have h8 := value_Holds (G := G) v.s false (by omega)
  have h9 := ref_Holds hU v.s true (by omega)
  have h10 := ref_Holds hU v.s false (by omega)
  have hc1 := Tryz.call7
  have hc2 := Tryz.call8
  have hc3 := Tryz.call9
  have hc4 := Tryz.call10
  rcases hq : v.E with _ | e | ⟨e, p⟩
  case «at» => exact absurd hq (v.E_notat e p)
  all_goals
    rw [hq] at h6 hl
    simp only [Err.A, Err.e, errA] at h6 hl
    have hGL : GloAll G [] := gloAll_nil
    refine fn_x Tryz.func3 Tryz.call3 rfl rfl rfl rfl hGL ?_
    intro C hC
    refine xw1 ?_
    refine cx_any h0 ?_
    rintro _ ⟨b, rfl, hb⟩
    cases b
    · obtain ⟨h1, h2, h3⟩ := hl (hb rfl)
      refine xw ?_
      repeat' (first | exact Le.n | refine Lc.mk ?_ ?_)
      all_goals intros
      all_goals first
        | exact absurd rfl (by assumption)
        | (apply rt_is; rw [beq_self_eq_true]; done)
        | exact absurd (beq_self_eq_true _) (by rw [show (hdB true v.s == hdB true v.s) = false by assumption]; decide)
    · exact xw0
end Go.Proofs.YtgjckfphallmeaaGreatDoor
namespace Go.Proofs.YtgjckfphallmeaaGreatDoor
open Go
theorem Tryz.own : ownKnob Tryz.prog.godebug = none := by kernel_rfl
/-- All blocks below, sealed as they stand. -/
def sealBelow (W : World) (k : Nat) : Seal := fun b => if b < k then W.heap[b]? else none
theorem sealBelow_ok (W : World) (k : Nat) : Sealed (sealBelow W k) W := by
  intro b o h
  unfold sealBelow at h
  split at h
  · exact h
  · cases h
theorem ms_start (W : World) (R : Seal) (G : Glo) (hG : G.p R) (hs : Sealed R W) : MS ⟨W, R, blks [], G, hG, []⟩ R [] W :=
  ⟨hs, Seal.le_refl R, fun _ hb => .inl hb, ⟨fun _ h => absurd h List.not_mem_nil, List.nodup_nil, fun _ h => absurd h List.not_mem_nil⟩, fun _ h => absurd h List.not_mem_nil, Ext.refl W _⟩
theorem keptBut_of_ext {W W' : World} (h : Ext W [] W') (may : MemPlace → Prop) : W.keptBut W' may := by
  refine ⟨h.os, h.output, fun i hi => ?_⟩
  rw [h.block i hi (by simp)]
  generalize W.heap[i]? = o
  cases o with
  | none => rfl
  | some o =>
    cases o with
    | cells c t fr => exact ⟨rfl, rfl, rfl, fun _ _ => rfl⟩
    | map es clock => exact .inr ⟨rfl, rfl⟩
    | _ => rfl
end Go.Proofs.YtgjckfphallmeaaGreatDoor
namespace Go.Proofs.YtgjckfphallmeaaGreatDoor
open Go
theorem var_heap {P : Program} {w : World} {n : String} {g : Nat} {cs : Array Value} (hg : P.globalNamed n = some g) (hv : w.var? P n = some cs) : ∃ e fz, w.heap[g]? = some (.cells cs e fz) := by
  simp only [World.var?, hg, Option.bind_some] at hv
  split at hv
  · rename_i c e fz hh
    cases hv
    exact ⟨_, _, hh⟩
  · cases hv
/-- A list of package-level variables that are known. -/
def gloOf (L : List (Nat × List AVal)) : Glo := ⟨fun R => ∀ x, x ∈ L → SealedAt R x.1 0 x.2, fun _ _ hle h x hx => by
  obtain ⟨C, e, fz, h1, h2⟩ := h x hx
  exact ⟨C, e, fz, hle _ _ h1, relL_mono hle _ _ h2⟩⟩
theorem gloGet_mem : ∀ (L : List (Nat × List AVal)) {g : Nat} {cs : List AVal}, gloGet L g = some cs → (g, cs) ∈ L
  | [], _, _, h => by simp [gloGet] at h
  | (k, c) :: r, g, cs, h => by
    unfold gloGet at h
    split at h
    · rename_i e
      obtain rfl := Nat.eq_of_beq_eq_true e
      cases h
      exact List.mem_cons_self
    · exact List.mem_cons_of_mem _ (gloGet_mem r h)
theorem gloAll_of {L L' : List (Nat × List AVal)} (h : ∀ x, x ∈ L' → x ∈ L) : GloAll (gloOf L) L' := fun g cs hg R hR => hR (g, cs) (h _ (gloGet_mem L' hg))
theorem sealed_below {W : World} {k g : Nat} {C : Array Value} {e : TypeId} {fz : Nat × Nat} {cs : List AVal} (hk : g < k) (hW : W.heap[g]? = some (.cells C e fz)) (h : RelL (sealBelow W k) cs (C.toList.take cs.length)) : SealedAt (sealBelow W k) g 0 cs :=
  ⟨C, e, fz, by unfold sealBelow; rw [if_pos hk]; exact hW, by rw [List.drop_zero]; exact h⟩
theorem rowNamed_error : ∀ ty, ty < Tryz.prog.types.size → Tryz.prog.rowNamed ty [101, 114, 114, 111, 114] = true → ty = 32 := by
  have h : ((List.range Tryz.prog.types.size).all fun ty => !Tryz.prog.rowNamed ty [101, 114, 114, 111, 114] || Nat.beq ty 32) = true := by kernel_rfl
  intro ty h1 h2
  have := List.all_eq_true.1 h ty (List.mem_range.2 h1)
  rw [h2] at this
  exact Nat.eq_of_beq_eq_true (by simpa using this)
theorem error_laid {W : World} {k : Nat} (hk : 1 < k) {laid : List (String × DataW Unit)} (hL : laidMetH Tryz.prog laid W) (hm : ("errors.errorType", Rows.laid_errors_errorType) ∈ laid) : SealedAt (sealBelow W k) 1 0 [rty 32] := by
  have h := (laidMetH_iff.1 hL).2 _ (List.mem_filter.2 ⟨hm, by kernel_rfl⟩)
  have h : ∃ name u ty, (Rows.laid_errors_errorType (H := Unit)).handleName? = some name ∧ (Tryz.prog.cutTypes.find? (·.1 == "internal/reflectlite.rtype")).map (·.2) = some u ∧ ty < Tryz.prog.types.size ∧ Tryz.prog.rowNamed ty name = true ∧
      W.var? Tryz.prog "errors.errorType" = some #[.iface u (.agg #[typeHandle Tryz.prog ty])] := h
  obtain ⟨name, u, ty, h1, h2, h3, h4, h5⟩ := h
  obtain rfl : [101, 114, 114, 111, 114] = name := Option.some.inj ((show (Rows.laid_errors_errorType (H := Unit)).handleName? = some [101, 114, 114, 111, 114] by kernel_rfl).symm.trans h1)
  obtain rfl : 173 = u := Option.some.inj ((show (Tryz.prog.cutTypes.find? (·.1 == "internal/reflectlite.rtype")).map (·.2) = some 173 by kernel_rfl).symm.trans h2)
  obtain rfl := rowNamed_error ty h3 h4
  obtain ⟨e, fz, hh⟩ := var_heap (show Tryz.prog.globalNamed "errors.errorType" = some 1 by kernel_rfl) h5
  exact sealed_below hk hh ⟨_, _, rfl, (rel_rty _).1, rfl⟩
/-- The witness world of a row that lists a type's handle: the handle in its cell, the rest laid. -/
noncomputable def handleWorld (os : Os) : World :=
  let w0 := World.holding Tryz.prog os ⟨#[], #[], []⟩
  { w0 with heap := w0.heap.modify 1 fun
      | .cells _ t frozen => .cells #[.iface 173 (.agg #[hdl 32])] t frozen
      | o => o }
def plainOf (laid : List (String × DataW Unit)) : List (String × DataW Unit) := laid.filter fun x => x.2.handleName?.isNone
noncomputable def handleLaid (os : Os) (laid : List (String × DataW Unit)) : World := (handleWorld os).layVars Tryz.prog (plainOf laid)
theorem handleLaid_os (os : Os) (laid : List (String × DataW Unit)) : (handleLaid os laid).os = os := World.layVars_os _ _ _
theorem handleLaid_met {os : Os} {laid : List (String × DataW Unit)} (args : Array Value) (hf : (handleWorld os).layFits Tryz.prog (plainOf laid) [] = true) (hi : (handleWorld os).layIfaces Tryz.prog (plainOf laid) (handleLaid os laid) = true)
    (hh : ((laid.filter fun x => x.2.handleName?.isSome).all (handleAtB Tryz.prog ((handleLaid os laid).forCall (fun _ _ => 0) ⟨#[], args, []⟩).memory)) = true) :
    laidMetH Tryz.prog laid ((handleLaid os laid).forCall (fun _ _ => 0) ⟨#[], args, []⟩).memory := by
  refine laidMetH_of_parts ?_ hh
  have e1 : ((plainOf laid).filter fun x => ((plainOf laid).map (·.1)).contains x.1) = plainOf laid := List.filter_eq_self.2 fun x hx => List.contains_iff_mem.2 (List.mem_map.2 ⟨x, hx, rfl⟩)
  have e2 : ((plainOf laid).filter fun x => !((plainOf laid).map (·.1)).contains x.1) = [] := List.filter_eq_nil_iff.2 fun x hx => by rw [List.contains_iff_mem.2 (List.mem_map.2 ⟨x, hx, rfl⟩)]; simp
  have h : laidMet Tryz.prog (plainOf laid) (handleLaid os laid) := laidMet_layVars (w0 := handleWorld os) ((plainOf laid).map (·.1)) [] (by rw [e1]; rfl) (by rw [e1]; exact hf) (by rw [e1]; exact hi) (by rw [e2]; exact LaidIn.none)
  exact h.of_heap (by simp [World.memory, World.forCall, Input.heap])
theorem err_lt {W : World} {laid : List (String × DataW Unit)} (hL : laidMetH Tryz.prog laid W) (hm : ("errors.errorType", Rows.laid_errors_errorType) ∈ laid) : 1 < W.heap.size := by
  have h := (laidMetH_iff.1 hL).2 _ (List.mem_filter.2 ⟨hm, by kernel_rfl⟩)
  obtain ⟨name, u, ty, h1, h2, h3, h4, h5⟩ := h
  obtain ⟨e, fz, hh⟩ := var_heap (show Tryz.prog.globalNamed "errors.errorType" = some 1 by kernel_rfl) h5
  exact (Array.getElem?_eq_some_iff.1 hh).1
/-- A call's end; what was there below stays. -/
theorem law_below {P : Program} {G : Glo} {f : FuncId} {avs : List AVal} {c : Bool} {args : Array Value} {W : World} {R : Seal} (hs : FnIs P G f avs (.bool c)) (hc : (callFunc f args).run P W = .ok (.enter f args) W)
    (hG : G.p R) (hR : Sealed R W) (ha : RelV R avs args.toList) : Calls P f args W fun e W' => e = .returned (.bool c) ∧ (∀ may, W.keptBut W' may) ∧ Go.RowKit.Below W.heap.size W W' := by
  rcases hs R W args hG (ms_start W R G hG hR) ha with ⟨_, h⟩ | ⟨v, w', h, _⟩
  · refine h.mono fun e W' ⟨res, H', R', ⟨hr, hH⟩, he, hm⟩ => ?_
    subst hr
    obtain ⟨x, rfl, hx⟩ := he
    refine ⟨by rw [rel_bool.1 hx], fun may => keptBut_of_ext hm.ext may, ⟨hm.ext.os, hm.ext.tape, hm.ext.output, hm.ext.size, fun k hk => hm.ext.block k hk (fun h => absurd h List.not_mem_nil)⟩⟩
  · rw [hc] at h
    cases h
end Go.Proofs.YtgjckfphallmeaaGreatDoor
namespace Go.Proofs.YtgjckfphallmeaaGreatDoor
open Go.ChangeShapes Go.WideShapes Go.ChangeAt Go.RowKit Go.WideMaps Go.WideElems
theorem bulk_pos {H : Type} (d : DataW H) : 1 ≤ Rows.uptoBulk d := by
  cases d with
  | lit l => cases l <;> simp [Rows.uptoBulk]
  | _ => simp [Rows.uptoBulk]
theorem bulk_len {H : Type} : ∀ l : List (DataW H), l.length ≤ Rows.uptoBulkAll l
  | [] => Nat.zero_le _
  | x :: r => by
    have h1 := bulk_pos x
    have h2 := bulk_len r
    simp only [Rows.uptoBulkAll, List.length_cons]
    omega
theorem bulk_mem {H : Type} {d : DataW H} : ∀ {l : List (DataW H)}, d ∈ l → Rows.uptoBulk d ≤ Rows.uptoBulkAll l
  | [], h => by cases h
  | x :: r, h => by
    simp only [Rows.uptoBulkAll]
    rcases List.mem_cons.1 h with rfl | h
    · omega
    · have := bulk_mem h; omega
theorem bulk_strs {H : Type} : ∀ l : List (List UInt8), Rows.uptoBulkAll (H := H) (l.map fun s => .lit (.string s)) = Lib.lens l + l.length
  | [] => rfl
  | s :: r => by
    have e1 : Lib.lens (s :: r) = s.length + Lib.lens r := by simp [Lib.lens]
    have h := bulk_strs (H := H) r
    simp only [List.map_cons, Rows.uptoBulkAll, Rows.uptoBulk, h, e1, List.length_cons]
    omega
section
variable {H : Type} {enc : TypeId × Value → H} {W : World}
/-- A row of cells in old memory, as a list. -/
theorem rel_list {m : Nat} {f : Nat → AVal} {a : Addr} {cap : Nat} (hm : m ≤ cap) {V : Nat → Value} (hV : ∀ i, i < m → W.cell? (a.add i) = some (V i) ∧ RelC (sealBelow W W.heap.size) (f i) [V i]) :
    Rel (sealBelow W W.heap.size) (.list 1 m f) (.slice (some a) m cap) := by
  refine ⟨⟨some a, cap, rfl, hm, ?_⟩, rfl⟩
  rcases Nat.eq_zero_or_pos m with h0 | h0
  · exact .inl h0
  · refine .inr ?_
    obtain ⟨b, o, sp⟩ := a
    have h1 := (hV 0 h0).1
    rw [show (⟨b, o, sp⟩ : Addr).add 0 = ⟨b, o, sp⟩ from rfl] at h1
    unfold World.cell? at h1
    dsimp only at h1
    cases hW : W.heap[b]? with
    | none => rw [hW] at h1; cases h1
    | some ob =>
      cases ob with
      | cells C e fz =>
        rw [hW] at h1
        cases sp with
        | some s => simp at h1
        | none =>
          refine ⟨b, o, C, e, fz, rfl, ?_, fun i hi => ?_⟩
          · unfold sealBelow
            rw [if_pos (Array.getElem?_eq_some_iff.1 hW).1]
            exact hW
          · obtain ⟨h2, h3⟩ := hV i hi
            have ha : (⟨b, o, none⟩ : Addr).add i = ⟨b, o + i, none⟩ := by
              unfold Addr.add
              split
              · rename_i h; rw [h]; rfl
              · rfl
            rw [ha] at h2
            have hci : C[o + i]? = some (V i) := by
              unfold World.cell? at h2
              simpa [hW] using h2
            have hlt : o + i < C.toList.length := by simpa using (Array.getElem?_eq_some_iff.1 hci).1
            have e1 : (C.toList.drop (o + i * 1)).take 1 = [V i] := by
              rw [Nat.mul_one, List.drop_eq_getElem_cons hlt, List.take_succ_cons, List.take_zero]
              have : C.toList[o + i]? = some (V i) := by rw [Array.getElem?_toList]; exact hci
              rw [List.getElem?_eq_getElem hlt] at this
              rw [Option.some.inj this]
            rw [e1]
            exact h3
      | _ => rw [hW] at h1; cases h1
/-- A list of texts. -/
theorem rel_strs {fuel : Nat} {spare : Nat → Bool} {held : Bool} {v : Value} {x : DataW H × List MemPlace} (h : DataW.trod enc Tryz.prog W 0 spare held fuel 38 [v] = some x) :
    ∃ l : List (List UInt8), Rel (sealBelow W W.heap.size) (.list 1 l.length (strsF l)) v ∧ l.length ≤ Rows.uptoBulk x.1 ∧ Lib.lens l ≤ Rows.uptoBulk x.1 := by
  rcases Go.Deep.open_strs Tryz.underlying38 Tryz.underlying9 (by kernel_rfl) h with ⟨hv, rfl⟩ | ⟨a, len, cap, m, Sx, hv, _, hl, _, hm, rfl, hx⟩
  · obtain rfl : v = .slice none 0 0 := by simpa using hv
    exact ⟨[], ⟨⟨none, 0, rfl, Nat.le_refl _, .inl rfl⟩, rfl⟩, Nat.zero_le _, Nat.zero_le _⟩
  · obtain rfl : v = .slice (some a) len cap := by simpa using hv
    have hlm : len ≤ m := by rw [hm]; split <;> omega
    let l : List (List UInt8) := (List.range len).map fun i => (Sx i).data.toList
    have hll : l.length = len := by simp [l]
    have hget : ∀ i, i < len → l.getD i [] = (Sx i).data.toList := fun i hi => by simp [l, List.getD, hi]
    refine ⟨l, ?_, ?_⟩
    · rw [hll]
      refine rel_list hl (V := fun i => .string (Sx i)) (fun i hi => ⟨(hx i (by omega)).1, ?_⟩)
      have := (rel_str (R := sealBelow W W.heap.size) (s := l.getD i []) (v := .string (Sx i))).2 (by rw [hget i hi, str_mk])
      exact this.1
    · have e1 : ((List.range len).map fun i => (DataW.lit (.string (Sx i).data.toList) : DataW H)) = l.map fun s => .lit (.string s) := by simp [l, List.map_map, Function.comp_def]
      have h1 := bulk_strs (H := H) l
      simp only [Rows.uptoBulk]
      rw [e1, h1]
      omega
/-- A list of lists of texts. -/
theorem rel_parts {fuel : Nat} {spare : Nat → Bool} {held : Bool} {v : Value} {x : DataW H × List MemPlace} (h : DataW.trod enc Tryz.prog W 0 spare held fuel 22 [v] = some x) (hb : Rows.uptoBulk x.1 ≤ 1048576) :
    ∃ L : List (List (List UInt8)), Rel (sealBelow W W.heap.size) (.list 1 L.length (partsF L)) v ∧ Small L := by
  rcases Go.Deep.open_slice1 Tryz.underlying22 (by kernel_rfl) h with ⟨hv, rfl⟩ | ⟨a, len, cap, m, n, V, D, Pl, hv, _, hl, _, hm, rfl, hx⟩
  · obtain rfl : v = .slice none 0 0 := by simpa using hv
    refine ⟨[], ⟨⟨none, 0, rfl, Nat.le_refl _, .inl rfl⟩, rfl⟩, ⟨by simp, fun k => ?_⟩⟩
    rw [List.getD_nil]
    exact ⟨by simp, by simp [Lib.lens]⟩
  · obtain rfl : v = .slice (some a) len cap := by simpa using hv
    have hlm : len ≤ m := by rw [hm]; split <;> omega
    obtain ⟨Lx, hLx⟩ := Go.Deep.choose_lt (α := List (List UInt8)) (n := len) (p := fun i l => Rel (sealBelow W W.heap.size) (.list 1 l.length (strsF l)) (V i) ∧ l.length ≤ Rows.uptoBulk (D i) ∧ Lib.lens l ≤ Rows.uptoBulk (D i)) (fun i hi => rel_strs (hx i (by omega)).2)
    let L : List (List (List UInt8)) := (List.range len).map Lx
    have hll : L.length = len := by simp [L]
    have hget : ∀ i, i < len → L.getD i [] = Lx i := fun i hi => by simp [L, List.getD, hi]
    simp only [Rows.uptoBulk] at hb
    have h1 := bulk_len ((List.range len).map D)
    rw [List.length_map, List.length_range] at h1
    refine ⟨L, ?_, ⟨by omega, fun k => ?_⟩⟩
    · rw [hll]
      refine rel_list hl (V := V) (fun i hi => ⟨(hx i (by omega)).1, ?_⟩)
      have h2 := (hLx i hi).1
      unfold partsF
      rw [hget i hi]
      have h3 := h2.1
      obtain ⟨c, cp, e, h4⟩ := h3
      have e2 : [V i] = [.slice c (Lx i).length cp] := by
        obtain ⟨c2, cp2, e3, _⟩ := rel_one h2 rfl
        have e4 : V i = .slice c2 (Lx i).length cp2 := by simpa using e3
        rw [e4] at e ⊢
        exact e
      exact ⟨c, cp, e2, h4⟩
    · by_cases hk : k < len
      · rw [hget k hk]
        have h2 := (hLx k hk).2
        have h3 := bulk_mem (d := D k) (l := (List.range len).map D) (List.mem_map.2 ⟨k, List.mem_range.2 hk, rfl⟩)
        omega
      · rw [List.getD_eq_getElem?_getD, List.getElem?_eq_none (by omega)]
        exact ⟨by simp, by simp [Lib.lens]⟩
end
end Go.Proofs.YtgjckfphallmeaaGreatDoor
namespace Go.Proofs.YtgjckfphallmeaaGreatDoor
open Go
theorem chunks {α β : Type} (k : Nat) (E : α → List β) (hE : ∀ z, (E z).length = k) : ∀ (zs : List α) (cs : List β), cs.length = zs.length * k →
    (∀ i z, zs[i]? = some z → (cs.drop (i * k)).take k = E z) → cs = zs.flatMap E
  | [], cs, hl, _ => by
    simp only [List.length_nil, Nat.zero_mul] at hl
    simp [List.eq_nil_of_length_eq_zero hl]
  | z :: zs, cs, hl, h => by
    have h0 := h 0 z rfl
    simp only [Nat.zero_mul, List.drop_zero] at h0
    have hr := chunks k E hE zs (cs.drop k) (by rw [List.length_drop, hl, List.length_cons, Nat.succ_mul]; omega) (fun i y hy => by
      have := h (i + 1) y hy
      rw [List.drop_drop]
      rw [Nat.succ_mul, Nat.add_comm] at this
      exact this)
    rw [List.flatMap_cons, ← h0, ← hr, List.take_append_drop]
theorem relL_ints {R : Seal} : ∀ (l : List (IntKind × Int)), RelL R (l.map fun x => .int x.1 x.2) (l.map fun x => .int x.1 x.2)
  | [] => rfl
  | _ :: l => ⟨_, _, rfl, rfl, relL_ints l⟩
section
variable {P : Program} {H : Type} {enc : TypeId × Value → H} {w : World} {base : Nat} {spare : Nat → Bool} {held : Bool}
theorem trod_ints {t e n fuel : Nat} {k : IntKind} {cs : List Value} {ps : List MemPlace} {zs : List Nat} (ht : P.underlying t = some (.array n e)) (he : P.underlying e = some (.int k)) (hc : P.cellsOf e = 1) (hct : P.cellsOf t = n)
    (h : DataW.trod enc P w base spare held fuel t cs = some (.agg (zs.map fun x : Nat => .lit (.int k (x : Int))), ps)) (hz : zs.length = n) : cs = zs.flatMap fun x : Nat => [Value.int k (x : Int)] := by
  obtain ⟨xs, m, _, ex, hl, hxl, hel⟩ := DataW.trod_array ht h
  have e3 : (xs.map (·.1)) = zs.map fun x : Nat => .lit (.int k x) := (DataW.agg.inj (Prod.mk.inj ex).1).symm
  refine chunks 1 _ (fun _ => rfl) zs cs (by omega) (fun i z hi => ?_)
  have hin : i < zs.length := (List.getElem?_eq_some_iff.1 hi).1
  have hE := hel i (by omega)
  rw [hc, List.getElem?_eq_getElem (by omega)] at hE
  obtain ⟨y, e1, e2, _⟩ := DataW.trod_int he hE
  have e4 : (xs.map (·.1))[i]? = (zs.map fun x : Nat => (DataW.lit (.int k x) : DataW H))[i]? := by rw [e3]
  rw [List.getElem?_map, List.getElem?_map, List.getElem?_eq_getElem (by omega : i < xs.length), hi, e2] at e4
  simp only [Option.map_some, Option.some.injEq, DataW.lit.injEq, Lit.int.injEq, true_and] at e4
  rw [e1, e4]
end
/-- One laid variable. -/
theorem laid_at {P : Program} {W : World} {laid : List (String × DataW Unit)} (hL : laidMetH P laid W) {n : String} {d : DataW Unit} (hm : (n, d) ∈ laid) (hn : d.handleName?.isNone = true) {g : Nat} {t : TypeId} (hg : P.globalNamed n = some g) (ht : (P.globals[g]?).map (·.type) = some t) :
    ∃ cs e fz fuel p, W.heap[g]? = some (.cells cs e fz) ∧ DataW.trod (fun _ => ()) P W 0 (fun _ => true) false fuel t cs.toList = some (d, p) := by
  have h1 := (laidMetH_iff.1 hL).1
  obtain ⟨ps, h, _⟩ := h1
  have key : ∀ (l : List (String × DataW Unit)) (ps : List MemPlace), DataW.LaidVars P W l ps → (n, d) ∈ l → ∃ cs e fz fuel p, W.heap[g]? = some (.cells cs e fz) ∧ DataW.trod (fun _ => ()) P W 0 (fun _ => true) false fuel t cs.toList = some (d, p) := by
    intro l
    induction l with
    | nil => intro ps _ hm; cases hm
    | cons a r ih =>
      obtain ⟨m, b⟩ := a
      rintro ps ⟨g', t', cs, fuel, p, q, e1, e2, e3, e4, e5, _⟩ hm
      rcases List.mem_cons.1 hm with hm | hm
      · cases hm
        obtain rfl := Option.some.inj (hg.symm.trans e1)
        obtain rfl := Option.some.inj (ht.symm.trans e2)
        obtain ⟨e, fz, hh⟩ := var_heap hg e3
        exact ⟨cs, e, fz, fuel, p, hh, e4⟩
      · exact ih q e5 hm
  exact key _ ps h (List.mem_filter.2 ⟨hm, hn⟩)
/-- The bound of package bytealg is some number. -/
theorem max_some {W : World} (h : W.ShapedOpen Tryz.prog) : ∃ m, W.cell? ⟨2, 0, none⟩ = some (.int .i64 m) :=
  cell_of_shapedOpen_int (t := 3) (zero := #[.int .i64 0]) h (of_decide_eq_true (by kernel_rfl)) (by kernel_rfl) rfl (by kernel_rfl) (by kernel_rfl) Tryz.underlying3
theorem max_sealed {W : World} {k : Nat} (hk : 2 < k) {m : Int} (h : W.cell? ⟨2, 0, none⟩ = some (.int .i64 m)) : SealedAt (sealBelow W k) 2 0 [.int .i64 m] := by
  unfold World.cell? at h
  split at h
  · rename_i C e fz hW
    refine sealed_below hk hW ?_
    have h : C[0]? = some (.int .i64 m) := h
    have h0 := (Array.getElem?_eq_some_iff.1 h)
    obtain ⟨hlt, h1⟩ := h0
    have e1 : C.toList.take 1 = [.int .i64 m] := by
      have hl : 0 < C.toList.length := by simpa using hlt
      have := List.take_succ_eq_append_getElem (l := C.toList) (i := 0) hl
      simp at this
      rw [show (1 : Nat) = 0 + 1 from rfl, List.take_succ_eq_append_getElem hl]
      simp [h1]
    show RelL _ _ (C.toList.take 1)
    rw [e1]
    exact ⟨_, _, rfl, rfl, rfl⟩
  · cases h
def gloAnd (A B : Glo) : Glo := ⟨fun R => A.p R ∧ B.p R, fun R R' h k => ⟨A.mono R R' h k.1, B.mono R R' h k.2⟩⟩
theorem gloAll_l {A B : Glo} {L : List (Nat × List AVal)} (h : GloAll A L) : GloAll (gloAnd A B) L := fun g cs hg R hR => h g cs hg R hR.1
def gloPow : Glo := ⟨fun R => ∃ e fz, R 5 = some (.cells (Lib.pow10Tab.map fun z => Value.int .u64 z).toArray e fz), fun _ _ hle ⟨e, fz, h⟩ => ⟨e, fz, hle _ _ h⟩⟩
theorem pow_laid {W : World} {k : Nat} (hk : 5 < k) {laid : List (String × DataW Unit)} (hL : laidMetH Tryz.prog laid W) (hm : ("internal/strconv.uint64pow10", Rows.laid_internal_strconv_uint64pow10) ∈ laid) : gloPow.p (sealBelow W k) := by
  obtain ⟨C, e, fz, fuel, p, hW, hd⟩ := laid_at hL hm (by kernel_rfl) (g := 5) (t := 193) (by kernel_rfl) (by kernel_rfl)
  have hc := trod_ints (n := 20) (zs := (List.range 20).map (10 ^ ·)) Tryz.underlying193 Tryz.underlying152 (by kernel_rfl) (by kernel_rfl) hd (by simp)
  have e1 : C = (Lib.pow10Tab.map fun z => Value.int .u64 z).toArray := by
    apply Array.ext'
    rw [hc]
    unfold Lib.pow10Tab
    simp
    rfl
  refine ⟨e, fz, ?_⟩
  unfold sealBelow
  rw [if_pos hk, hW, e1]
theorem block_lt {W : World} {g : Nat} {o : Obj} (h : W.heap[g]? = some o) : g < W.heap.size := (Array.getElem?_eq_some_iff.1 h).1
theorem laid_lt {W : World} {laid : List (String × DataW Unit)} (hL : laidMetH Tryz.prog laid W) {n : String} {d : DataW Unit} (hm : (n, d) ∈ laid) (hn : d.handleName?.isNone = true) {g : Nat} {t : TypeId} (hg : Tryz.prog.globalNamed n = some g) (ht : (Tryz.prog.globals[g]?).map (·.type) = some t) : g < W.heap.size := by
  obtain ⟨_, _, _, _, _, hW, _⟩ := laid_at hL hm hn hg ht
  exact block_lt hW
end Go.Proofs.YtgjckfphallmeaaGreatDoor
