/- Parts of the proof of jsonReads_card: Jrg, Jrk, Jse, Jrl, Jrm, Jrn, End, Han, Lai, Lu. -/
import Derived.Test.YtmgkpbgfkjedeaaGreatDoorRows
import Derived.ProofKit
import Derived.LaidMore
import Derived.Lay
import Derived.Stop.Joined
import Derived.LaidSub
import Derived.LaidHandle
import Derived.OpenShut
import Derived.Lib.ItoaNum
import Derived.Deep.Strs
import Derived.Shelf.Vars
import Derived.SizedLaws
import Derived.Test.YtmgkpbgfkjedeaaGreatDoorBag
import Derived.Test.YtmgkpbgfkjedeaaGreatDoorBad
import Derived.Test.YtmgkpbgfkjedeaaGreatDoorBae
import Derived.Test.YtmgkpbgfkjedeaaGreatDoorBac
import Derived.Test.YtmgkpbgfkjedeaaGreatDoorBaf
set_option linter.unusedVariables false
set_option linter.unusedSimpArgs false
namespace Go.Proofs.YtmgkpbgfkjedeaaGreatDoor
open Go Go.RowKit
/-- What is handed back may be told otherwise; what is thrown, too. -/
def ResToQ (res : ARes) (H : Heap) (Qf : ARes → Heap → Prop) : Prop := ∀ (C : Ctx) (R : Seal) (w : World) (e : Ending), MS C R H w → EndRel R res e → ∃ r2 H2 R', Qf r2 H2 ∧ MS C R' H2 w ∧ EndRel R' r2 e
theorem fn_toldQ {P : Program} {G : Glo} {f : FuncId} {avs : List AVal} {H : Heap} {Qf Qf' : ARes → Heap → Prop} (h : FnSpec P G f avs H Qf) (hq : ∀ r H', Qf r H' → ResToQ r H' Qf') : FnSpec P G f avs H Qf' := by
  intro R w args hG hm ha
  rcases h R w args hG hm ha with ⟨h1, h2⟩ | ⟨x, w', h1, res, H', R', q, er, hm'⟩
  · exact .inl ⟨h1, h2.mono fun e w' ⟨res, H', R', q, er, hm'⟩ => let ⟨r2, H2, R2, q2, m2, e2⟩ := hq _ _ q _ _ _ _ hm' er; ⟨r2, H2, R2, q2, e2, m2⟩⟩
  · obtain ⟨r2, H2, R2, q2, m2, e2⟩ := hq _ _ q _ _ _ _ hm' er
    exact .inr ⟨x, w', h1, r2, H2, R2, q2, e2, m2⟩
theorem jr_nils {R : Seal} {n : Nat} {x : Js} {v : Value} (h1 : x.ks = []) (h2 : x.l = []) (h : Rel R (.agg [.int .i64 x.k, .str x.t, jN, jN]) v) : Rel R (.agg (Js.C n x)) v := by
  have g1 := agg_told (p := 2) (a' := .list 1 0 (strsF [])) (Seal.le_refl R) h rfl (fun v => nil_list)
  have g2 := agg_told (p := 3) (a' := .list 4 0 (jsF n [])) (Seal.le_refl R) g1 rfl (fun v => nil_list)
  unfold Js.C
  rw [h1, h2]
  exact g2
theorem jr_told {n : Nat} {x : Rj Js} {r : ARes} {H : Heap} (h : jrQ n x r H) : ResToQ r H (RjQ x fun x b => .tuple [.agg (Js.C n x), .int .i64 (b : Nat)]) := by
  obtain ⟨rfl, h⟩ := h
  cases x with
  | bad e p =>
    cases h
    exact fun C R w e hm er => ⟨_, [], R, ⟨rfl, rfl⟩, hm, er⟩
  | ok x b =>
    obtain ⟨q1, q2, rfl, h⟩ := h
    rintro C R w e hm ⟨y, rfl, hy⟩
    refine ⟨_, [], R, ⟨rfl, rfl⟩, hm, y, rfl, tuple_one (Seal.le_refl R) hy fun u hu => ?_⟩
    rcases h with ⟨rfl, rfl, h1, h2⟩ | ⟨rfl, rfl⟩
    · exact jr_nils h1 h2 hu
    · exact hu
/-- The tree that a text is, whose points are all right. -/
def rdP (s : List UInt8) : Rj Js := if 0 ≤ badI s then .bad 3 (badI s).toNat else
  match trP s 12 0 with
  | .bad e p => .bad e p
  | .ok x b => if skE s b < s.length then .bad 3 (skE s b) else .ok x (skE s b)
def rdX (s : List UInt8) : Js := if 20000 < s.length then Js.z else match rdP s with | .ok x _ => x | .bad _ _ => Js.z
def rdE (s : List UInt8) : Err := if 20000 < s.length then .errno 4 else match rdP s with | .ok _ _ => .none | .bad e p => .atp e (p : Nat)
theorem jr_big {s : List UInt8} (h : 20000 < s.length) : rdX s = Js.z ∧ rdE s = .errno 4 := ⟨if_pos h, if_pos h⟩
theorem jr_P {s : List UInt8} {e : Int} {p : Nat} (h : ¬ 20000 < s.length) (h1 : rdP s = .bad e p) : rdX s = Js.z ∧ rdE s = .atp e (p : Nat) := by
  unfold rdX rdE
  rw [if_neg h, if_neg h, h1]
  exact ⟨rfl, rfl⟩
theorem jr_K {s : List UInt8} {x : Js} {b : Nat} (h : ¬ 20000 < s.length) (h1 : rdP s = .ok x b) : rdX s = x ∧ rdE s = .none := by
  unfold rdX rdE
  rw [if_neg h, if_neg h, h1]
  exact ⟨rfl, rfl⟩
/-- A reader's answer as it comes; an empty tree has nil. -/
def jaQ (x : Js) (y : AVal) (r : ARes) (H : Heap) : Prop := H = [] ∧ ∃ c, r = .ret (.tuple [.agg c, y]) ∧ ((c = [.int .i64 0, .str [], jN, jN] ∧ x = Js.z) ∨ c = Js.C 12 x)
theorem ja_told {x : Js} {y : AVal} {r : ARes} {H : Heap} (h : jaQ x y r H) : ResTo r H (.tuple [.agg (Js.C 12 x), y]) := by
  obtain ⟨rfl, c, rfl, h⟩ := h
  rintro C R w e hm ⟨z, rfl, hz⟩
  refine ⟨R, hm, z, rfl, tuple_one (Seal.le_refl R) hz fun u hu => ?_⟩
  rcases h with ⟨rfl, rfl⟩ | rfl
  · exact jr_nils rfl rfl hu
  · exact hu
set_option maxRecDepth 20000
set_option maxHeartbeats 4000000
set_option linter.unusedSimpArgs false
set_option linter.unusedVariables false
attribute [local irreducible] AWp AOps byteAt SrcOK OrOk GloAll FnSpec
attribute [local irreducible] trP rdP rdX rdE To DSpec Lv AWpD
theorem ref_tree {G : Glo} (s : List UInt8) (hl : s.length ≤ 100000) : ∀ n a d : Nat, d + n = 13 → a ≤ s.length → FnSpec Tryz.prog G 15 [.str s, .int .i64 (a : Nat), .int .i64 (d : Nat)] [] (RjQ (trP s n a) fun x b => .tuple [.agg (Js.C n x), .int .i64 (b : Nat)])
  | 0, a, d, hd, ha => by
    have hS := ref_skip (G := G) s a (by omega) (by omega)
    have hT := fun e p => ref_throw (G := G) e p
    have hR : trP s 0 a = .bad 4 (skE s a) := by rw [trP]
    generalize trP s 0 a = T at *
    generalize skE s a = i at *
    obtain rfl : d = 13 := by omega
    have hGL : GloAll G [] := gloAll_nil
    refine fn_a Tryz.func15 Tryz.call15 rfl rfl rfl rfl ?_
    intro C hC
    refine aw_code hC hGL (xn1 ?_)
    intros
    exact cx_panic (hT _ _) (rj_bad hR rfl)
  | n + 1, a, d, hd, ha => fn_toldQ (ref_tree0 s n (fun a d h1 h2 => ref_tree s hl n a d h1 h2) a d hd hl ha) fun _ _ h => jr_told h
abbrev dCaughtJ (b3 : Nat) : Deferred := { target := .fn (.func 12) #[], args := #[jAt b3] }
abbrev dRead (b2 b3 : Nat) : Deferred := { target := .fn (.func 10) #[jAt b3, jAt b2], args := #[] }
abbrev z4 : List AVal := [.int .i64 0, .str [], jN, jN]
theorem ref_Read1 {G : Glo} (b2 b3 : Nat) (x0 x1 x2 x3 : AVal) (e p : Int) : DSpec Tryz.prog G 10 [.own 1 (.pointer (some ⟨b3, 0, none⟩)), .own 0 (.pointer (some ⟨b2, 0, none⟩))] .ret [.cells b2 (some 25) [x0, x1, x2, x3], .cells b3 (some 28) [.int .i64 e, .int .i64 p]]
    (fun r m H => m = .ret ∧ r = .ret (.tuple []) ∧ H = [.cells b2 (some 25) (if e = 0 then [x0, x1, x2, x3] else z4), .cells b3 (some 28) [.int .i64 e, .int .i64 p]]) := by
  have hGL : GloAll G [] := gloAll_nil
  have hI := ref_Fault_Is (G := G) e p
  refine ds_code (rs := []) (GL := []) Tryz.func10 rfl rfl rfl rfl hGL ?_
  intro C hC
  by_cases he : e = 0
  · rw [eqB_t.2 he] at hI
    rw [if_pos he]
    repeat' (first | (conv => whnf); first | refine .w ?_ | refine .v ?_ | refine sc_c ?_ ?_ <;> (intro hb; try exact dd hb) | apply sc_not | apply sc_or | (apply sc_i <;> intro hb) | (apply bx_i; intro hbd) | (apply cx_is; first | exact hI) | (apply cx_do (i := 0) rfl; first | exact hI) | (apply ab_i; intro bl) | (apply as_i; intro va vk vc hva) | (apply av_i; intro v) | (apply ac_i; intro bl cap hcap) | apply bo_l | (apply nx_i <;> intro hnx) | apply dw_q mixed hC hGL (by kernel_rfl) | (apply cq; assumption; (first | exact hI); exact rfl) | (show Rt _ _ _; exact rt_w) | fail)
    all_goals try conv => whnf
    all_goals skip
  · rw [eqB_f.2 he] at hI
    rw [if_neg he]
    repeat' (first | (conv => whnf); first | refine .w ?_ | refine .v ?_ | refine sc_c ?_ ?_ <;> (intro hb; try exact dd hb) | apply sc_not | apply sc_or | (apply sc_i <;> intro hb) | (apply bx_i; intro hbd) | (apply cx_is; first | exact hI) | (apply cx_do (i := 0) rfl; first | exact hI) | (apply ab_i; intro bl) | (apply as_i; intro va vk vc hva) | (apply av_i; intro v) | (apply ac_i; intro bl cap hcap) | apply bo_l | (apply nx_i <;> intro hnx) | apply dw_q mixed hC hGL (by kernel_rfl) | (apply cq; assumption; (first | exact hI); exact rfl) | (show Rt _ _ _; exact rt_w) | fail)
    all_goals try conv => whnf
    all_goals skip
theorem lv_retJ {P : Program} [Tab P] {G : Glo} {n : Nat} {rs : List ResultVar} {env : Env} {H : Heap} {Qf : ARes → Heap → Prop} (h : RetQ P rs Qf .ret env H) : Lv P G n rs env [] .ret H Qf := by
  unfold Lv
  rintro C R a w fn u D0 hC hrs hm hf rfl
  obtain ⟨vs, H'', hv, hs, q⟩ := h
  obtain ⟨y, hy, hr⟩ := results_run (fn := fn) hm hf (by rw [hrs]; exact hv)
  exact ⟨y, hy, _, H'', R, q, ⟨y, rfl, hr⟩, hm.drop hs⟩
section
variable {G : Glo} {n : Nat} {env : Env} {Qf : ARes → Heap → Prop} {b2 b3 : Nat} {T : Heap} {x0 x1 x2 x3 y z : AVal} {e p : Int}
theorem rel_ptrJ (R : Seal) (i b : Nat) : RelV R [.own i (jAt b)] [jAt b] := ⟨_, _, rfl, rel_own.2 ⟨rfl, rfl⟩, rfl⟩
theorem read_ret (h2 : Env.get env 2 = some (.own 0 (jAt b2))) (h3 : Env.get env 3 = some (.own 1 (jAt b3))) (hq : Qf (.ret (.tuple [.agg [x0, x1, x2, x3], .agg [.int .i64 e, .int .i64 p]])) []) :
    Lv Tryz.prog G n [.cell 2 25, .cell 3 28] env [] .ret (.cells b2 (some 25) [x0, x1, x2, x3] :: .cells b3 (some 28) [.int .i64 e, .int .i64 p] :: T) Qf := by
  refine lv_retJ ⟨[.agg [x0, x1, x2, x3], .agg [.int .i64 e, .int .i64 p]], [], ⟨_, _, rfl, ⟨b2, 0, _, _, _, .inr ⟨0, h2⟩, rfl, rfl, rfl, .inl ⟨rfl, rfl⟩⟩, _, _, rfl, ⟨b3, 1, _, _, _, .inr ⟨1, h3⟩, rfl, rfl, rfl, .inl ⟨rfl, rfl⟩⟩, rfl⟩, List.nil_sublist _, hq⟩
theorem read_thrown (h2 : Env.get env 2 = some (.own 0 (jAt b2))) (h3 : Env.get env 3 = some (.own 1 (jAt b3))) (he : e ≠ 0) (hq : Qf (.ret (.tuple [.agg z4, .agg [.int .i64 e, .int .i64 p]])) []) :
    Lv Tryz.prog G n [.cell 2 25, .cell 3 28] env [dCaughtJ b3, dRead b2 b3] (.pan (thrA e p)) (.cells b2 (some 25) [x0, x1, x2, x3] :: .cells b3 (some 28) [y, z] :: T) Qf := by
  refine lv_call (ds_at (i := 1) rfl (ref_caught b3 e p y z)) (fun R => rel_ptrJ R 0 b3) Tryz.call12 ?_
  have h1 := ref_Read1 (G := G) b2 b3 x0 x1 x2 x3 e p
  rw [if_neg he] at h1
  refine lv_call (ds_pre T h1) (fun R => ⟨_, _, rfl, rel_own.2 ⟨rfl, rfl⟩, _, _, rfl, rel_own.2 ⟨rfl, rfl⟩, rfl⟩) Tryz.call10 ?_
  exact read_ret h2 h3 hq
theorem read_left (h2 : Env.get env 2 = some (.own 0 (jAt b2))) (h3 : Env.get env 3 = some (.own 1 (jAt b3))) (hq : Qf (.ret (.tuple [.agg [x0, x1, x2, x3], .agg [.int .i64 0, .int .i64 p]])) []) :
    Lv Tryz.prog G n [.cell 2 25, .cell 3 28] env [dCaughtJ b3, dRead b2 b3] .ret (.cells b2 (some 25) [x0, x1, x2, x3] :: .cells b3 (some 28) [.int .i64 0, .int .i64 p] :: T) Qf := by
  refine lv_call (ds_at (i := 0) rfl (ref_uncaught b3 _)) (fun R => rel_ptrJ R 0 b3) Tryz.call12 ?_
  have h1 := ref_Read1 (G := G) b2 b3 x0 x1 x2 x3 0 p
  rw [if_pos rfl] at h1
  refine lv_call (ds_pre T h1) (fun R => ⟨_, _, rfl, rel_own.2 ⟨rfl, rfl⟩, _, _, rfl, rel_own.2 ⟨rfl, rfl⟩, rfl⟩) Tryz.call10 ?_
  exact read_ret h2 h3 hq
end
theorem ref_Read0 {G : Glo} (hU : GloAll G utfTy) (s : List UInt8) (hl : s.length ≤ 30000) : FnSpec Tryz.prog G 4 [.str s] [] (jaQ (rdX s) (.agg [.int .i64 (rdE s).e, .int .i64 (rdE s).p])) := by
  have hGL : GloAll G [] := gloAll_nil
  have hbare := ref_Bare (G := G)
  have hgood := ref_Good (G := G)
  have hB := ref_Bad (G := G) hU s (by omega)
  have hT := fun e p => ref_throw (G := G) e p
  refine fn_d (rs := [.cell 2 25, .cell 3 28]) Tryz.func4 Tryz.call4 rfl rfl rfl rfl ?_
  intro C hC hD
  refine awd_seq (awd_code hC hGL (xn1 ?_))
  intro b2 b3
  refine awd_seq (awd_seq (awd_code hC hGL (xn1 ?_)))
  by_cases h0 : 20000 < s.length
  · obtain ⟨e1, e2⟩ := jr_big h0
    have hb4 := hbare 4
    have hcl := Tryz.call8
    refine awd_cond rfl (fun hb => awd_code hC hGL (xn1 ?_)) (fun hb => absurd (ltB_f.1 hb) (by omega))
    refine dw_p mixed hC hGL false (fun _ : Unit => [(2, .own 0 (jAt b2)), (3, .own 1 (jAt b3))]) (fun _ => [.cells b2 (some 25) z4, .cells b3 (some 28) [.int .i64 4, .int .i64 (-1)]]) (.br 0 (.br 1 (.br 2 (.br 3 (.done) (.nil)) (.nil)) (.nil)) (.br 1 (.br 0 (.br 2 (.br 3 (.done) (.nil)) (.nil)) (.nil)) (.nil))) (by kernel_rfl) ?_ ?_
    · refine xn ?_
      repeat' (first | exact Le.n | refine Lc.mk ?_ ?_)
      all_goals intros
      all_goals exact ⟨(), env_w, rfl⟩
    intro _
    refine xn1 ?_
    rw [e1, e2, hD]
    exact read_ret rfl rfl ⟨rfl, _, rfl, .inl ⟨rfl, rfl⟩⟩
  refine awd_cond rfl (fun hb => absurd (ltB_t.1 hb) (by omega)) (fun hb => awd_code hC hGL (xn1 ?_))
  refine awd_seq (awd_code hC hGL (xn1 ?_))
  refine awd_seq (awd_defer hC hGL rfl (xn1 ?_))
  refine ⟨_, rfl, ?_⟩
  refine awd_seq (awd_defer hC hGL rfl (xn1 ?_))
  refine ⟨_, rfl, ?_⟩
  refine (fun (h : ∀ C2 : Ctx, C2.G = G → C2.D = [dCaughtJ b3, dRead b2 b3] → AWpD Tryz.prog C2 _ _ _ _ _) => h (withD C (dCaughtJ b3 :: dRead b2 b3 :: C.D)) hC (by show dCaughtJ b3 :: dRead b2 b3 :: C.D = _; rw [hD])) ?_
  clear hC hD C
  intro C hC hD
  have hP : rdP s = rdP s := rfl
  conv at hP => rhs; unfold rdP
  refine awd_code hC hGL ?_
  by_cases hb : 0 ≤ badI s
  · rw [if_pos hb] at hP
    obtain ⟨e1, e2⟩ := jr_P h0 hP
    refine xn1 ?_
    intros
    refine cx_panic (hT _ _) ?_
    (conv => whnf)
    rw [hD, e1, e2, show (((badI s).toNat : Nat) : Int) = badI s by omega]
    exact read_thrown rfl rfl (by decide) ⟨rfl, _, rfl, .inl ⟨rfl, rfl⟩⟩
  rw [if_neg hb] at hP
  have hTr := ref_tree (G := G) s (by omega) 12 0 1 rfl (Nat.zero_le _)
  refine xn1 ?_
  intros
  refine cx_rj hTr (fun x b hc => ?_) (fun e p hc => ?_)
  · rw [hc] at hP
    dsimp only at hP
    have hg := trP_ge (Nat.zero_le _) hc
    have hS := ref_skip (G := G) s b (by omega) (by omega)
    have hs := skE_ge s b
    generalize skE s b = c at *
    by_cases hc1 : c < s.length
    · rw [if_pos hc1] at hP
      obtain ⟨e1, e2⟩ := jr_P h0 hP
      refine xn1 ?_
      intros
      refine cx_panic (hT _ _) ?_
      (conv => whnf)
      rw [hD, e1, e2]
      exact read_thrown rfl rfl (by decide) ⟨rfl, _, rfl, .inl ⟨rfl, rfl⟩⟩
    · rw [if_neg hc1] at hP
      obtain ⟨e1, e2⟩ := jr_K h0 hP
      refine xn1 ?_
      intro _
      refine dw_p mixed hC hGL false (fun _ : Unit => [(2, .own 0 (jAt b2)), (3, .own 1 (jAt b3))]) (fun _ => [.cells b2 (some 25) (Js.C 12 x), .cells b3 (some 28) [.int .i64 0, .int .i64 (-1)]]) (.br 0 (.br 1 (.br 2 (.br 3 (.done) (.nil)) (.nil)) (.br 2 (.br 1 (.br 3 (.done) (.nil)) (.nil)) (.nil))) (.br 1 (.br 0 (.br 2 (.br 3 (.done) (.nil)) (.nil)) (.nil)) (.nil))) (by kernel_rfl) ?_ ?_
      · refine xn ?_
        repeat' (first | exact Le.n | refine Lc.mk ?_ ?_)
        all_goals intros
        all_goals exact ⟨(), env_w, rfl⟩
      intro _
      refine xn1 ?_
      rw [hD, e1, e2]
      exact read_left rfl rfl ⟨rfl, _, rfl, .inr rfl⟩
  · rw [hc] at hP
    dsimp only at hP
    obtain ⟨e1, e2⟩ := jr_P h0 hP
    (conv => whnf)
    rw [hD, e1, e2]
    exact read_thrown rfl rfl (trP_ne hc) ⟨rfl, _, rfl, .inl ⟨rfl, rfl⟩⟩
theorem ref_Read {G : Glo} (hU : GloAll G utfTy) (s : List UInt8) (hl : s.length ≤ 30000) : FnIs Tryz.prog G 4 [.str s] (.tuple [.agg (Js.C 12 (rdX s)), .agg [.int .i64 (rdE s).e, .int .i64 (rdE s).p]]) := fn_told (ref_Read0 hU s hl) fun _ _ h => ja_told h
end Go.Proofs.YtmgkpbgfkjedeaaGreatDoor
namespace Go.Proofs.YtmgkpbgfkjedeaaGreatDoor
open Go Go.RowKit
/-- What the program's reader of trees answers; what is no list is nil. -/
def jpQ (b : Nat) (s : List UInt8) (n : Nat) (x : Rj Js) (r : ARes) (H : Heap) : Prop :=
  match x with
  | .bad e p => r = .panic (fauA e (p : Nat)) ∧ ∃ y, H = [jrC b s y]
  | .ok x z => H = [jrC b s z] ∧ ∃ q1 q2, r = .ret (.agg [.int .i64 x.k, .str x.t, q1, q2]) ∧ ((q1 = jN ∧ q2 = jN ∧ x.ks = [] ∧ x.l = []) ∨ (q1 = .list 1 x.ks.length (strsF x.ks) ∧ q2 = .list 4 x.l.length (jsF n x.l)))
theorem jp_bad {b : Nat} {s : List UInt8} {n : Nat} {x : Rj Js} {e : Int} {p y : Nat} {v : AVal} {H : Heap} (h : x = .bad e p) (h1 : v = fauA e (p : Nat)) (h2 : [jrC b s y].Sublist H) : Pn (jpQ b s n x) v H := ⟨_, h2, by subst h h1; exact ⟨rfl, y, rfl⟩⟩
theorem jp_nil {b : Nat} {s : List UInt8} {n : Nat} {x : Rj Js} {k : Int} {t : List UInt8} {z : Nat} {v : AVal} {H : Heap} (h : x = .ok (.mk k t [] []) z) (e1 : v = .agg [.int .i64 k, .str t, jN, jN]) (h2 : [jrC b s z].Sublist H) : Rt (jpQ b s n x) v H := ⟨_, h2, by subst h e1; exact ⟨rfl, jN, jN, rfl, .inl ⟨rfl, rfl, rfl, rfl⟩⟩⟩
theorem jp_lst {b : Nat} {s : List UInt8} {n : Nat} {x : Rj Js} {k : Int} {ks : List (List UInt8)} {l : List Js} {z : Nat} {v : AVal} {H : Heap} (h : x = .ok (.mk k [] ks l) z) (e1 : v = .agg [.int .i64 k, .str [], .list 1 ks.length (strsF ks), .list 4 l.length (jsF n l)]) (h2 : [jrC b s z].Sublist H) : Rt (jpQ b s n x) v H := ⟨_, h2, by subst h e1; exact ⟨rfl, _, _, rfl, .inr ⟨rfl, rfl⟩⟩⟩
theorem jp_tree {b : Nat} {s : List UInt8} {n : Nat} {x : Rj Js} {y : Js} {z : Nat} {v : AVal} {H : Heap} (h : x = .ok y z) (e1 : v = .agg (Js.C n y)) (h2 : [jrC b s z].Sublist H) : Rt (jpQ b s n x) v H := ⟨_, h2, by subst h e1; exact ⟨rfl, _, _, rfl, .inr ⟨rfl, rfl⟩⟩⟩
abbrev jA (b : Nat) (v : Value) : HEnt := .cells b (some 25) [.int .i64 6, .str [], .list 1 0 (strsF []), .own 3 v]
theorem wn_some {s : List UInt8} {a c : Nat} {e : Int} {p : Nat} (h : wnR s a c = .bad e p) : wnP s a c = some (e, p) := by
  unfold wnR at h
  split at h
  · cases h
  · rename_i h1
    cases h
    exact h1
theorem jp_told {b : Nat} {s : List UInt8} {n : Nat} {x : Rj Js} {r : ARes} {H : Heap} (h : jpQ b s n x r H) : ResToQ r H (RwQ b s x fun x => .agg (Js.C n x)) := by
  cases x with
  | bad e p =>
    obtain ⟨rfl, y, rfl⟩ := h
    exact fun C R w e hm er => ⟨_, _, R, ⟨rfl, y, rfl⟩, hm, er⟩
  | ok x z =>
    obtain ⟨rfl, q1, q2, rfl, h⟩ := h
    rintro C R w e hm ⟨y, rfl, hy⟩
    refine ⟨_, _, R, ⟨rfl, rfl⟩, hm, y, rfl, ?_⟩
    rcases h with ⟨rfl, rfl, h1, h2⟩ | ⟨rfl, rfl⟩
    · exact jr_nils h1 h2 hy
    · exact hy
theorem skE_end (s : List UInt8) (i : Nat) : ¬ (skE s i < s.length ∧ blB (byteAt s (skE s i))) := by
  by_cases h : i < s.length ∧ blB (byteAt s i)
  · rw [skE_go h.1 h.2]
    exact skE_end s (i + 1)
  · rw [skE_no h]
    exact h
termination_by s.length - i
decreasing_by omega
theorem skE_idem (s : List UInt8) (i : Nat) : skE s (skE s i) = skE s i := skE_no (skE_end s i)
theorem pre_34 {s : List UInt8} {i : Nat} (h : i < s.length) : [34].isPrefixOf (s.drop i) = decide (byteAt s i = 34) := by
  rw [List.drop_eq_getElem_cons h, byteAt_getElem h]
  have : ∀ x : UInt8, ((34 : UInt8) == x) = decide (x.toNat = 34) := fun x => by
    rw [Bool.eq_iff_iff, beq_iff_eq, decide_eq_true_eq]
    exact ⟨fun h => h ▸ rfl, fun h => (UInt8.toNat_inj.1 (h.trans rfl)).symm⟩
  simp only [List.isPrefixOf_cons_cons, List.isPrefixOf_nil_left, Bool.and_true]
  exact this _
/-- An element of an array of three texts. -/
theorem rv_idx3 {P : Program} [Tab P] {C : Ctx} {H : Heap} {env : Env} {x y : Operand} {T e : TypeId} {xT xe : TI} {s0 s1 s2 : List UInt8} {k : Nat} (t : List UInt8) (ht : [s0, s1, s2][k]? = some t) (hx : evalA env x = some (.agg [.str s0, .str s1, .str s2])) (hy : evalA env y = some (.int .i64 (k : Int))) (hT : tab P T = some xT) (hd : xT.desc = .array 3 e) (he : tab P e = some xe) (hs : xe.size = 1) (ha : descAgg xe.desc = false) : RunV P C H env (.index T x y) (.str t) := by
  intro R ρ w hm hf dst ty p af g
  have hk : k < 3 := by
    rcases Nat.lt_or_ge k 3 with h | h
    · exact h
    · rw [List.getElem?_eq_none (by simpa using h)] at ht
      cases ht
  obtain ⟨h1, h2⟩ := hf _ _ hx
  generalize hv : ρ x = v at h1 h2
  cases v with
  | agg cs =>
    have h1 : RelL R [.str s0, .str s1, .str s2] cs.toList := h1
    obtain ⟨v0, t0, e0, r0, v1, t1, e1, r1, v2, t2, e2, r2, e3⟩ := h1
    have r0 : [v0] = [.string ⟨s0.toArray⟩] := r0
    have r1 : [v1] = [.string ⟨s1.toArray⟩] := r1
    have r2 : [v2] = [.string ⟨s2.toArray⟩] := r2
    simp only [List.cons.injEq, and_true] at r0 r1 r2
    have ecs : cs = #[.string ⟨s0.toArray⟩, .string ⟨s1.toArray⟩, .string ⟨s2.toArray⟩] := by
      apply Array.toList_inj.1
      rw [e0, e1, e2, e3, r0, r1, r2]
    refine ⟨.string ⟨t.toArray⟩, ?_, rel_str.2 rfl⟩
    have hpart : (part e cs (k * 1)).run P w = .ok (.string ⟨t.toArray⟩) w := by
      unfold part
      simp only [Sem.run_bind, tab_run_agg he, ha, Result.andThen_ok, Bool.false_eq_true, if_false]
      rw [ecs]
      rcases (show k = 0 ∨ k = 1 ∨ k = 2 by omega) with rfl | rfl | rfl <;> (simp at ht; subst ht; rfl)
    simp only [execOp, Instr.index, rel_int.1 (hf _ _ hy), hv, asIntOf, Sem.run_bind, Sem.run_pure, Result.andThen_ok, tab_run_und hT, hd]
    rw [if_pos (by omega)]
    simp only [Sem.run_bind, tab_run_size he, hs, Result.andThen_ok, Int.toNat_natCast, hpart, Sem.run_pure]
  | _ => exact Bool.noConfusion (show true = false from h2)
set_option maxRecDepth 20000
set_option maxHeartbeats 4000000
set_option linter.unusedSimpArgs false
set_option linter.unusedVariables false
attribute [local irreducible] AWp AOps byteAt SrcOK OrOk GloAll FnSpec
attribute [local irreducible] numI txP elP kyP hdP
theorem json_tree0 {G : Glo} (b : Nat) (s : List UInt8) (n : Nat) (hl : s.length ≤ 100000) (IH : ∀ a d : Nat, d + n = 13 → a ≤ s.length → FnSpec Tryz.prog G 19 [.raw (jP b), .int .i64 (d : Nat)] [jrC b s a] (RwQ b s (trP s n a) fun x => .agg (Js.C n x)))
    (IOh : ∀ a d : Nat, d + (n + 1) = 13 → a ≤ s.length → FnSpec Tryz.prog G 34 [.raw (jP b), .int .i64 (d : Nat)] [jrC b s a] (RwQ b s (elP s (trP s n) true (s.length + 1) (skE s a) [] []) fun x => .agg (Js.C (n + 1) x)))
    (a d : Nat) (hd : d + (n + 1) = 13) (ha : a ≤ s.length) :
    FnSpec Tryz.prog G 19 [.raw (jP b), .int .i64 (d : Nat)] [jrC b s a] (jpQ b s (n + 1) (trP s (n + 1) a)) := by
  have hT := fun e p => json_throw (G := G) (jP b) e p
  have hB := json_blank (G := G) b s a (by omega) ha
  have hN := json_number (G := G) (s.drop (skE s a)) (by rw [List.length_drop]; omega)
  have hH := fun p => has_prefix (G := G) (s.drop (skE s a)) p
  have sg := skE_ge s a
  have hR : trP s (n + 1) a = trP s (n + 1) a := rfl
  conv at hR => rhs; rw [trP]
  generalize trP s (n + 1) a = T at *
  generalize skE s a = i at *
  have hi := sg.2 ha
  have hGL : GloAll G [] := gloAll_nil
  refine fn_own [(0, 0, jP b)] Tryz.func19 Tryz.call19 rfl rfl rfl rfl (by repeat (first | exact trivial | refine And.intro ⟨rfl, rfl⟩ ?_)) ?_
  intro C hC
  refine cuty hC hGL (fun x : Nat => [(0, .own 0 (jP b)), (1, .int .i64 (d : Nat)), (4, .own 1 (jAt x))]) (fun x => [jrC b s a, jZ x]) (fun _ => True) ?_ ?_
  · refine xn1 ?_
    intro b4
    intros
    exact cy b4 trivial
  intro b4 _
  refine cut hC hGL [(0, .own 0 (jP b)), (1, .int .i64 (d : Nat)), (4, .own 1 (jAt b4))] [jrC b s i, jZ b4] True xw0 fun _ => ?_
  refine cut hC hGL [(0, .own 0 (jP b)), (1, .int .i64 (d : Nat)), (4, .own 1 (jAt b4)), (5, .int .i64 (i : Nat))] [jrC b s i, jZ b4] True xn0 fun _ => ?_
  refine cut hC hGL [(0, .own 0 (jP b)), (1, .int .i64 (d : Nat)), (4, .own 1 (jAt b4)), (5, .int .i64 (i : Nat))] [jrC b s i, jZ b4] True xn0 fun _ => ?_
  refine cut hC hGL [(0, .own 0 (jP b)), (1, .int .i64 (d : Nat)), (4, .own 1 (jAt b4)), (6, .str (s.drop i))] [jrC b s i, jZ b4] True xw0 fun _ => ?_
  have q0 := hH nulW
  have q1 := hH falW
  have q2 := hH truW
  by_cases w0 : nulW.isPrefixOf (s.drop i) = true
  · have hl0 := pre_len w0
    rw [List.length_drop] at hl0
    simp only [List.length_cons, List.length_nil] at hl0
    rw [if_neg (by omega), if_pos w0] at hR
    rw [w0] at q0
    refine aw_code hC hGL (xn1 ?_)
    refine rds hC hGL 1 ?_
    refine xw1 ?_
    intros
    refine op1_run hC hGL (rv_idx3 (k := 0) nulW rfl rfl rfl rfl rfl rfl rfl rfl) rfl rfl ?_
    refine xw1 ?_
    intros
    exact jp_nil hR rfl (List.Sublist.cons_cons _ (List.nil_sublist _))
  rw [Bool.eq_false_iff.2 w0] at q0
  by_cases w1 : falW.isPrefixOf (s.drop i) = true
  · have hl0 := pre_len w1
    rw [List.length_drop] at hl0
    simp only [List.length_cons, List.length_nil] at hl0
    rw [if_neg (by omega), if_neg w0, if_pos w1] at hR
    rw [w1] at q1
    refine aw_code hC hGL (xn1 ?_)
    refine rds hC hGL 2 ?_
    refine xw1 ?_
    intros
    refine op1_run hC hGL (rv_idx3 (k := 0) nulW rfl rfl rfl rfl rfl rfl rfl rfl) rfl rfl ?_
    refine xw1 ?_
    intros
    refine op1_run hC hGL (rv_idx3 (k := 1) falW rfl rfl rfl rfl rfl rfl rfl rfl) rfl rfl ?_
    refine xw1 ?_
    intros
    exact jp_nil hR rfl (List.Sublist.cons_cons _ (List.nil_sublist _))
  rw [Bool.eq_false_iff.2 w1] at q1
  by_cases w2 : truW.isPrefixOf (s.drop i) = true
  · have hl0 := pre_len w2
    rw [List.length_drop] at hl0
    simp only [List.length_cons, List.length_nil] at hl0
    rw [if_neg (by omega), if_neg w0, if_neg w1, if_pos w2] at hR
    rw [w2] at q2
    refine aw_code hC hGL (xn1 ?_)
    refine rds hC hGL 3 ?_
    refine xw1 ?_
    intros
    refine op1_run hC hGL (rv_idx3 (k := 0) nulW rfl rfl rfl rfl rfl rfl rfl rfl) rfl rfl ?_
    refine xw1 ?_
    intros
    refine op1_run hC hGL (rv_idx3 (k := 1) falW rfl rfl rfl rfl rfl rfl rfl rfl) rfl rfl ?_
    refine xw1 ?_
    intros
    refine op1_run hC hGL (rv_idx3 (k := 2) truW rfl rfl rfl rfl rfl rfl rfl rfl) rfl rfl ?_
    refine xw1 ?_
    intros
    exact jp_nil hR rfl (List.Sublist.cons_cons _ (List.nil_sublist _))
  rw [Bool.eq_false_iff.2 w2] at q2
  refine cut hC hGL [(0, .own 0 (jP b)), (1, .int .i64 (d : Nat)), (4, .own 1 (jAt b4)), (6, .str (s.drop i))] [jrC b s i, jZ b4] True ?_ fun _ => ?_
  · refine xn1 ?_
    refine rds hC hGL 4 ?_
    refine xw1 ?_
    intros
    refine op1_run hC hGL (rv_idx3 (k := 0) nulW rfl rfl rfl rfl rfl rfl rfl rfl) rfl rfl ?_
    refine xw1 ?_
    intros
    refine op1_run hC hGL (rv_idx3 (k := 1) falW rfl rfl rfl rfl rfl rfl rfl rfl) rfl rfl ?_
    refine xw1 ?_
    intros
    refine op1_run hC hGL (rv_idx3 (k := 2) truW rfl rfl rfl rfl rfl rfl rfl rfl) rfl rfl ?_
    exact xw0
  have q34 := hH [34]
  have i91 := json_is (G := G) b s i 91 (by omega) hi
  have i123 := json_is (G := G) b s i 123 (by omega) hi
  have hK := json_lacks (G := G) b s i (by omega) hi
  by_cases h1 : s.length ≤ i
  · rw [if_pos h1] at hR
    rw [List.drop_eq_nil_of_le h1] at hN q34 ⊢
    rw [show numI [] = 0 by decide +kernel] at hN
    rw [decide_eq_false (by omega), if_neg (by omega)] at i91 i123
    rw [show lkE s i = 7 from if_pos h1] at hK
    change FnIs _ _ _ _ (.bool false) at q34
    refine cut hC hGL [(0, .own 0 (jP b)), (1, .int .i64 (d : Nat)), (4, .own 1 (jAt b4)), (6, .str [])] [jrC b s i, jZ b4] True xn0 fun _ => ?_
    refine aw_code hC hGL (xn1 ?_)
    refine cx_dop (i := 0) rfl hK ?_
    exact jp_bad hR rfl (List.Sublist.cons_cons _ (List.nil_sublist _))
  rw [if_neg h1, if_neg w0, if_neg w1, if_neg w2] at hR
  rw [pre_34 (by omega)] at q34
  by_cases h2 : numI (s.drop i) = 0
  case neg =>
    rw [if_pos h2] at hR
    have hle := numI_le (s.drop i)
    have hle2 := hle
    rw [List.length_drop] at hle2
    have hlen : (s.drop i).length = s.length - i := List.length_drop
    generalize numI (s.drop i) = m at *
    refine aw_code hC hGL (xw1 ?_)
    intros
    exact jp_nil hR rfl (List.Sublist.cons_cons _ (List.nil_sublist _))
  rw [if_neg (fun h => h h2)] at hR
  rw [h2] at hN
  refine cut hC hGL [(0, .own 0 (jP b)), (1, .int .i64 (d : Nat)), (4, .own 1 (jAt b4)), (6, .str (s.drop i))] [jrC b s i, jZ b4] True xn0 fun _ => ?_
  by_cases h3 : byteAt s i = 34
  · rw [if_pos h3] at hR
    rw [decide_eq_true h3] at q34
    have hQ := json_text (G := G) b s i (by omega) hi
    refine aw_code hC hGL (xn1 ?_)
    refine cx_rw 0 hQ rfl (fun t z hc => ?_) (fun e p y hc => ?_)
    · rw [hc] at hR
      refine xn1 ?_
      exact jp_nil hR rfl (List.Sublist.cons_cons _ (List.nil_sublist _))
    · rw [hc] at hR
      exact jp_bad hR rfl (List.Sublist.cons_cons _ (List.nil_sublist _))
  rw [if_neg h3] at hR
  rw [decide_eq_false h3] at q34
  by_cases h4 : byteAt s i = 91
  case neg =>
    rw [if_neg h4] at hR
    rw [decide_eq_false (fun h => h4 h.2), if_neg (fun h => h4 h.2)] at i91
    by_cases h5 : byteAt s i = 123
    · rw [if_pos h5] at hR
      rw [decide_eq_true ⟨by omega, h5⟩, if_pos ⟨by omega, h5⟩] at i123
      have hO := IOh (i + 1) d hd (by omega)
      refine aw_code hC hGL (xn1 ?_)
      refine cx_rw 0 hO rfl (fun x z hc => ?_) (fun e p y hc => ?_)
      · rw [hc] at hR
        refine xn1 ?_
        exact jp_tree hR rfl (List.Sublist.cons_cons _ (List.nil_sublist _))
      · rw [hc] at hR
        exact jp_bad hR rfl (List.Sublist.cons_cons _ (List.nil_sublist _))
    · rw [if_neg h5] at hR
      rw [decide_eq_false (fun h => h5 h.2), if_neg (fun h => h5 h.2)] at i123
      rw [show lkE s i = 3 from if_neg h1] at hK
      refine aw_code hC hGL (xn1 ?_)
      refine cx_dop (i := 0) rfl hK ?_
      exact jp_bad hR rfl (List.Sublist.cons_cons _ (List.nil_sublist _))
  rw [if_pos h4] at hR
  rw [decide_eq_true ⟨by omega, h4⟩, if_pos ⟨by omega, h4⟩] at i91
  have hB2 := json_blank (G := G) b s (i + 1) (by omega) (by omega)
  have hA : 1 ≤ skE s (i + 1) ∧ skE s (i + 1) ≤ s.length := by have := skE_ge s (i + 1); omega
  generalize skE s (i + 1) = a1 at *
  refine aw_code hC hGL (xn1 ?_)
  intro b10
  refine lp_to (to_trans (to_ghost 4) (to_trans (to_cell (i := 2) (p := 2) (x := .cells b10 (some 25) [.int .i64 6, .str [], jN, jN]) (a' := .list 1 0 (strsF [])) rfl (fun R => .cells rfl fun _ => nil_list)) (to_cell (i := 2) (p := 3) (x := .cells b10 (some 25) [.int .i64 6, .str [], .list 1 0 (strsF []), jN]) (a' := .own 3 (.slice none 0 0)) rfl (fun R => .cells rfl fun _ => nil_own)))) ?_
  refine lpA hC hGL (fun _ : Nat × List Js × Nat × Value => [(0, .own 0 (jP b)), (1, .int .i64 (d : Nat)), (4, .own 1 (jAt b4)), (10, .own 2 (jAt b10))]) (fun z => [jrC b s z.1, jZ b4, jA b10 z.2.2.2, rwJ n z.2.2.2 z.2.1])
    (fun z => elP s (trP s n) false z.2.2.1 z.1 [] z.2.1 = T ∧ z.1 ≤ s.length ∧ s.length + 2 ≤ z.2.2.1 + z.1 ∧ z.2.1.length ≤ z.1) (fun z => s.length - z.1) (a1, [], s.length + 1, .slice none 0 0) ⟨hR.symm, hA.2, by show s.length + 2 ≤ s.length + 1 + a1; omega, Nat.zero_le _⟩ env_w rfl ?_
  rintro ⟨x, l, k, v⟩ ⟨k1, k2, k3, k4⟩
  simp only at k1 k2 k3 k4
  dsimp only
  obtain ⟨k, rfl⟩ : ∃ j, k = j + 1 := ⟨k - 1, by omega⟩
  have i93 := json_is (G := G) b s x 93 (by omega) k2
  by_cases c0 : x < s.length ∧ byteAt s x = 93
  · rw [elP, if_pos (show x < s.length ∧ byteAt s x = enB false from c0)] at k1
    rw [decide_eq_true c0, if_pos c0] at i93
    refine aw_to (to_seal (i := 3) (k := 2) (p := 3) (jsF (n + 1) l) rfl rfl (jsF_ok n l) (fun R hr => .cells (a := .own 3 v) rfl fun _ => own_list hr)) ?_
    refine aw_code hC hGL (xn1 ?_)
    exact jp_lst k1.symm rfl (List.Sublist.cons_cons _ (List.nil_sublist _))
  rw [elP, if_neg (show ¬ (x < s.length ∧ byteAt s x = enB false) from c0)] at k1
  rw [decide_eq_false c0, if_neg c0] at i93
  refine cut hC hGL [(0, .own 0 (jP b)), (1, .int .i64 (d : Nat)), (4, .own 1 (jAt b4)), (10, .own 2 (jAt b10))] [jrC b s x, jZ b4, jA b10 v, rwJ n v l] True xn0 fun _ => ?_
  refine aw_block ?_
  by_cases hcm : l = [] ∨ x < s.length ∧ byteAt s x = 44
  case neg =>
    have hl0 : ¬ l = [] := fun h => hcm (.inl h)
    have hl1 : 0 < l.length := List.length_pos_iff.2 hl0
    have hW := json_want (G := G) b s x 44 (by omega) k2
    refine aw_code hC hGL (xn1 ?_)
    intros
    refine cx_rw 0 hW rfl (fun t z hc => ?_) (fun e p y hc => ?_)
    · exact absurd (.inr (wn_ok hc).2) hcm
    · have hcp : cmP s l x = some (e, p) := (if_neg hl0).trans (wn_some hc)
      rw [hdP_bad hcp] at k1
      exact jp_bad k1.symm rfl (List.Sublist.cons_cons _ (List.nil_sublist _))
  refine cut hC hGL [(0, .own 0 (jP b)), (1, .int .i64 (d : Nat)), (4, .own 1 (jAt b4)), (10, .own 2 (jAt b10))] [jrC b s (cmA l x), jZ b4, jA b10 v, rwJ n v l] True ?_ fun _ => ?_
  · by_cases hl0 : l = []
    · subst hl0
      exact xn0
    · have hl1 : 0 < l.length := List.length_pos_iff.2 hl0
      obtain ⟨hw1, hw2⟩ := hcm.resolve_left hl0
      have hW := json_want (G := G) b s x 44 (by omega) k2
      rw [show cmA l x = x + 1 from if_neg hl0]
      refine xn1 ?_
      intros
      refine cx_rw 0 hW rfl (fun t z hc => ?_) (fun e p y hc => ?_)
      · obtain ⟨rfl, -, -⟩ := wn_ok hc
        exact xn0
      · have := wn_some hc
        unfold wnP at this
        rw [if_neg (by omega), if_neg (by omega)] at this
        cases this
  have hcp : cmP s l x = none := by
    unfold cmP
    by_cases hl0 : l = []
    · rw [if_pos hl0]
    · obtain ⟨hw1, hw2⟩ := hcm.resolve_left hl0
      unfold wnP
      rw [if_neg hl0, if_neg (by omega), if_neg (by omega)]
  have hx1 : x ≤ cmA l x ∧ cmA l x ≤ s.length := hdP_ge (s := s) (ob := false) (ks := []) (l := l) (a := x) (k := []) (b := cmA l x) k2 (hdP_arr hcp)
  rw [hdP_arr hcp] at k1
  dsimp only at k1
  have hIH := IH (cmA l x) (d + 1) (by omega) hx1.2
  generalize cmA l x = y at *
  refine aw_code hC hGL (xn1 ?_)
  refine dw_pp mixed hC hGL false (fun v h => ∃ (e : Int) (q yy : Nat) (TT : Heap), trP s n y = .bad e q ∧ v = fauA e q ∧ h = jrC b s yy :: TT)
    (fun _ : { z : Js × Nat × Option Addr × Nat × Nat // trP s n y = .ok z.1 z.2.1 } => [(0, .own 0 (jP b)), (1, .int .i64 (d : Nat)), (4, .own 1 (jAt b4)), (10, .own 2 (jAt b10))])
    (fun z => [jrC b s z.1.2.1, jZ b4, jA b10 (.slice z.1.2.2.1 z.1.2.2.2.1 z.1.2.2.2.2), .row (.slice z.1.2.2.1 z.1.2.2.2.1 z.1.2.2.2.2) none 4 (l.length + 1) (jsC n l ++ Js.C n z.1.1)])
    (.take 0 (.take 2 (.take 3 (.take 4 (.br 1 (.br 5 (.br 6 (.br 7 (.take 8 (.br 9 (.done) (.nil))) (.nil)) (.nil)) (.nil)) (.br 5 (.br 1 (.br 6 (.br 7 (.take 8 (.br 9 (.done) (.nil))) (.nil)) (.nil)) (.br 6 (.br 1 (.br 7 (.take 8 (.br 9 (.done) (.nil))) (.nil)) (.nil)) (.nil))) (.nil))))))) (by kernel_rfl) ?_ ?_ ?_
  · refine xn ?_
    repeat' (first | exact Le.n | refine Lc.mk ?_ ?_)
    all_goals intros
    all_goals
      refine cx_rw 0 hIH rfl (fun t e h => ?_) (fun e q yy h => ?_)
      · refine xn ?_
        repeat' (first | exact Le.n | refine Lc.mk ?_ ?_)
        all_goals intros
        all_goals exact ⟨⟨(t, e, _, _, _), h⟩, env_w, sub_w⟩
      · exact ⟨e, q, yy, _, h, rfl, rfl⟩
  rotate_left
  · rintro v h ⟨e, q, yy, TT, hv, rfl, rfl⟩
    rw [hv] at k1
    exact jp_bad k1.symm rfl (List.Sublist.cons_cons _ (List.nil_sublist _))
  rintro ⟨⟨w, c, va, vk, vc⟩, hc⟩
  dsimp only at hc ⊢
  rw [hc] at k1
  dsimp only at k1
  have hg := trP_ge hx1.2 hc
  have hB3 := json_blank (G := G) b s c (by omega) (by omega)
  have hs := skE_ge s c
  generalize skE s c = c2 at *
  have e2 : l.length + 1 = (l ++ [w]).length := by rw [List.length_append]; rfl
  refine xn1 ?_
  refine nxs (c2, l ++ [w], k, .slice va vk vc) ⟨k1, hs.2 hg.2, by dsimp only; omega, by dsimp only; omega⟩ (by dsimp only; omega) env_w ?_
  refine List.Sublist.cons_cons _ (List.Sublist.cons_cons _ (List.Sublist.cons_cons _ ?_))
  show [HEnt.row (.slice va vk vc) none 4 (l ++ [w]).length (jsC n (l ++ [w]))].Sublist _
  rw [← e2, ← jsC_push]
  exact List.Sublist.refl _
end Go.Proofs.YtmgkpbgfkjedeaaGreatDoor
namespace Go.Proofs.YtmgkpbgfkjedeaaGreatDoor
open Go Go.RowKit
/-- A set of texts. -/
def mapT (L : List (List UInt8)) : List (AVal × AVal) := L.map fun s => (.str s, .bool true)
theorem mapT_push (L : List (List UInt8)) (s : List UInt8) : mapT L ++ [(AVal.str s, AVal.bool true)] = mapT (L ++ [s]) := by unfold mapT; rw [List.map_append]; rfl
theorem set_look (s : List UInt8) {z : Nat → Prop} {f : AVal × AVal → List (AVal × AVal) → (Nat → Prop) → Nat → Prop} {L : List (List UInt8)} (h1 : s ∈ L → f (.str s, .bool true) [] (fun _ => True) 0) (h2 : s ∉ L → ∀ i, z i)
    (hf : ∀ t r ih i, (seqB s t = true → f (.str s, .bool true) [] (fun _ => True) 0) → (seqB s t = false → ih (i + 1)) → f (.str t, .bool true) r ih i := by exact fun _ _ _ _ h1 h2 => (⟨fun e => (h1 e).1 (seqB_t.2 rfl), h2⟩ : Sc _ _ _)) :
    List.rec (motive := fun _ => Nat → Prop) z f (mapT L) 0 := by
  have g : ∀ (L : List (List UInt8)) (i : Nat), (s ∈ L → f (.str s, .bool true) [] (fun _ => True) 0) → (s ∉ L → ∀ i, z i) → List.rec (motive := fun _ => Nat → Prop) z f (mapT L) i := by
    intro L
    induction L with
    | nil => exact fun i _ h => h (by simp) i
    | cons x L ih =>
      intro i k1 k2
      refine hf x (mapT L) _ i (fun e => k1 ?_) (fun e => ih (i + 1) (fun h => k1 (List.mem_cons_of_mem _ h)) fun h => k2 ?_)
      · rw [seqB_t.1 e]; exact List.mem_cons_self
      · rw [List.mem_cons]
        rintro (h3 | h3)
        · exact absurd h3 (seqB_f.1 e)
        · exact h h3
  exact g L 0 h1 h2
theorem set_lay (s : List UInt8) {z : Nat → Prop} {f : AVal × AVal → List (AVal × AVal) → (Nat → Prop) → Nat → Prop} {L : List (List UInt8)} (hs : s ∉ L) (h2 : ∀ i, z i)
    (hf : ∀ t r ih i, (seqB s t = false → ih (i + 1)) → seqB s t = false → f (.str t, .bool true) r ih i := by exact fun _ _ _ _ h1 h => (⟨fun e => absurd (e.symm.trans h) (by decide), h1⟩ : Sc _ _ _)) :
    List.rec (motive := fun _ => Nat → Prop) z f (mapT L) 0 := by
  have g : ∀ (L : List (List UInt8)) (i : Nat), s ∉ L → List.rec (motive := fun _ => Nat → Prop) z f (mapT L) i := by
    intro L
    induction L with
    | nil => exact fun i _ => h2 i
    | cons x L ih =>
      intro i k
      rw [List.mem_cons, not_or] at k
      exact hf x (mapT L) _ i (fun _ => ih (i + 1) k.2) (seqB_f.2 k.1)
  exact g L 0 hs
/-! ## What a kind has -/
set_option maxRecDepth 20000
set_option maxHeartbeats 4000000
set_option linter.unusedSimpArgs false
set_option linter.unusedVariables false
attribute [local irreducible] AWp AOps byteAt SrcOK OrOk GloAll FnSpec
attribute [local irreducible] numI badI
end Go.Proofs.YtmgkpbgfkjedeaaGreatDoor
namespace Go.Proofs.YtmgkpbgfkjedeaaGreatDoor
open Go Go.RowKit
abbrev jO (b : Nat) (v1 v2 : Value) : HEnt := .cells b (some 25) [.int .i64 7, .str [], .own 4 v1, .own 5 v2]
set_option maxRecDepth 20000
set_option maxHeartbeats 4000000
set_option linter.unusedSimpArgs false
set_option linter.unusedVariables false
attribute [local irreducible] AWp AOps byteAt SrcOK OrOk GloAll FnSpec
attribute [local irreducible] numI txP elP kyP hdP
theorem json_object0 {G : Glo} (b : Nat) (s : List UInt8) (n : Nat) (hl : s.length ≤ 100000) (IH : ∀ a d : Nat, d + n = 13 → a ≤ s.length → FnSpec Tryz.prog G 19 [.raw (jP b), .int .i64 (d : Nat)] [jrC b s a] (RwQ b s (trP s n a) fun x => .agg (Js.C n x)))
    (a d : Nat) (hd : d + (n + 1) = 13) (ha : a ≤ s.length) :
    FnSpec Tryz.prog G 34 [.raw (jP b), .int .i64 (d : Nat)] [jrC b s a] (jpQ b s (n + 1) (elP s (trP s n) true (s.length + 1) (skE s a) [] [])) := by
  have hT := fun e p => json_throw (G := G) (jP b) e p
  have hB := json_blank (G := G) b s a (by omega) ha
  have sg := skE_ge s a
  have sid := skE_idem s a
  have hR : elP s (trP s n) true (s.length + 1) (skE s a) [] [] = elP s (trP s n) true (s.length + 1) (skE s a) [] [] := rfl
  generalize hTT : elP s (trP s n) true (s.length + 1) (skE s a) [] [] = T
  rw [hTT] at hR
  replace hR : elP s (trP s n) true (s.length + 1) (skE s a) [] [] = T := hTT
  clear hTT
  generalize skE s a = a1 at *
  have ha1 := sg.2 ha
  have hGL : GloAll G [] := gloAll_nil
  refine fn_own [(0, 0, jP b)] Tryz.func34 Tryz.call34 rfl rfl rfl rfl (by repeat (first | exact trivial | refine And.intro ⟨rfl, rfl⟩ ?_)) ?_
  intro C hC
  refine cuty hC hGL (fun x : Nat => [(0, .own 0 (jP b)), (1, .int .i64 (d : Nat)), (4, .own 1 (jAt x))]) (fun x => [jrC b s a, jZ x]) (fun _ => True) ?_ ?_
  · refine xn1 ?_
    intro b4
    intros
    exact cy b4 trivial
  intro b4 _
  refine cuty hC hGL (fun x : Nat => [(0, .own 0 (jP b)), (1, .int .i64 (d : Nat)), (4, .own 1 (jAt b4)), (5, .own 2 (jAt x))]) (fun x => [jrC b s a, jZ b4, .cells x (some 25) [.int .i64 7, .str [], jN, jN]]) (fun _ => True) ?_ ?_
  · refine xn1 ?_
    intro b5
    intros
    exact cy b5 trivial
  intro b5 _
  refine cuty hC hGL (fun x : Nat => [(0, .own 0 (jP b)), (1, .int .i64 (d : Nat)), (4, .own 1 (jAt b4)), (5, .own 2 (jAt b5)), (6, .own 3 (.map (some x)))]) (fun x => [jrC b s a, jZ b4, .cells b5 (some 25) [.int .i64 7, .str [], jN, jN], .mp x []]) (fun _ => True) ?_ ?_
  · refine xn1 ?_
    intro bm
    intros
    exact cy bm trivial
  intro bm _
  refine cut hC hGL [(0, .own 0 (jP b)), (1, .int .i64 (d : Nat)), (4, .own 1 (jAt b4)), (5, .own 2 (jAt b5)), (6, .own 3 (.map (some bm)))] [jrC b s a1, jZ b4, .cells b5 (some 25) [.int .i64 7, .str [], jN, jN], .mp bm []] True xw0 fun _ => ?_
  refine aw_code hC hGL (xn1 ?_)
  refine lp_to (to_trans (to_ghost 1) (to_trans (to_ghost 4) (to_trans (to_cell (i := 2) (p := 2) (x := .cells b5 (some 25) [.int .i64 7, .str [], jN, jN]) (a' := .own 4 (.slice none 0 0)) rfl (fun R => .cells rfl fun _ => nil_own)) (to_cell (i := 2) (p := 3) (x := .cells b5 (some 25) [.int .i64 7, .str [], .own 4 (.slice none 0 0), jN]) (a' := .own 5 (.slice none 0 0)) rfl (fun R => .cells rfl fun _ => nil_own))))) ?_
  refine lpA hC hGL (fun _ : Nat × List (List UInt8) × List Js × Nat × Value × Value => [(0, .own 0 (jP b)), (1, .int .i64 (d : Nat)), (4, .own 1 (jAt b4)), (5, .own 2 (jAt b5)), (6, .own 3 (.map (some bm)))]) (fun z => [jrC b s z.1, jZ b4, jO b5 z.2.2.2.2.1 z.2.2.2.2.2, .mp bm (mapT z.2.1), rwK z.2.2.2.2.1 z.2.1, rwJ n z.2.2.2.2.2 z.2.2.1])
    (fun z => elP s (trP s n) true z.2.2.2.1 z.1 z.2.1 z.2.2.1 = T ∧ z.1 ≤ s.length ∧ s.length + 2 ≤ z.2.2.2.1 + z.1 + 1 ∧ z.2.1.length ≤ z.1 ∧ z.2.2.1.length ≤ z.1 ∧ skE s z.1 = z.1) (fun z => s.length - z.1) (a1, [], [], s.length + 1, .slice none 0 0, .slice none 0 0) ⟨hR, ha1, by show s.length + 2 ≤ s.length + 1 + a1 + 1; omega, Nat.zero_le _, Nat.zero_le _, sid⟩ env_w rfl ?_
  rintro ⟨x, ks, l, k, v1, v2⟩ ⟨k1, k2, k3, k4, k5, k6⟩
  simp only at k1 k2 k3 k4 k5 k6
  dsimp only
  obtain ⟨k, rfl⟩ : ∃ j, k = j + 1 := ⟨k - 1, by omega⟩
  have i125 := json_is (G := G) b s x 125 (by omega) k2
  by_cases c0 : x < s.length ∧ byteAt s x = 125
  · rw [elP, if_pos (show x < s.length ∧ byteAt s x = enB true from c0)] at k1
    rw [decide_eq_true c0, if_pos c0] at i125
    refine aw_to (to_seal (i := 5) (k := 2) (p := 3) (jsF (n + 1) l) rfl rfl (jsF_ok n l) (fun R hr => .cells (a := .own 5 v2) rfl fun _ => own_list hr)) ?_
    refine aw_to (to_seal (i := 4) (k := 2) (p := 2) (strsF ks) rfl rfl (strsF_ok ks) (fun R hr => .cells (a := .own 4 v1) rfl fun _ => own_list hr)) ?_
    refine aw_code hC hGL (xn1 ?_)
    exact jp_lst k1.symm rfl (List.Sublist.cons_cons _ (List.nil_sublist _))
  rw [elP, if_neg (show ¬ (x < s.length ∧ byteAt s x = enB true) from c0)] at k1
  rw [decide_eq_false c0, if_neg c0] at i125
  refine cut hC hGL [(0, .own 0 (jP b)), (1, .int .i64 (d : Nat)), (4, .own 1 (jAt b4)), (5, .own 2 (jAt b5)), (6, .own 3 (.map (some bm)))] [jrC b s x, jZ b4, jO b5 v1 v2, .mp bm (mapT ks), rwK v1 ks, rwJ n v2 l] True xn0 fun _ => ?_
  refine aw_block ?_
  by_cases hcm : l = [] ∨ x < s.length ∧ byteAt s x = 44
  case neg =>
    have hl0 : ¬ l = [] := fun h => hcm (.inl h)
    have hl1 : 0 < l.length := List.length_pos_iff.2 hl0
    have hW := json_want (G := G) b s x 44 (by omega) k2
    refine aw_code hC hGL (xn1 ?_)
    intros
    refine cx_rw 0 hW rfl (fun t z hc => ?_) (fun e p y hc => ?_)
    · exact absurd (.inr (wn_ok hc).2) hcm
    · have hcp : cmP s l x = some (e, p) := (if_neg hl0).trans (wn_some hc)
      rw [hdP_bad hcp] at k1
      exact jp_bad k1.symm rfl (List.Sublist.cons_cons _ (List.nil_sublist _))
  have hcp : cmP s l x = none := by
    unfold cmP
    by_cases hl0 : l = []
    · rw [if_pos hl0]
    · obtain ⟨hw1, hw2⟩ := hcm.resolve_left hl0
      unfold wnP
      rw [if_neg hl0, if_neg (by omega), if_neg (by omega)]
  have hx1 : x ≤ cmA l x ∧ cmA l x ≤ s.length := hdP_ge (s := s) (ob := false) (ks := []) (l := l) (a := x) (k := []) (b := cmA l x) k2 (hdP_arr hcp)
  refine cut hC hGL [(0, .own 0 (jP b)), (1, .int .i64 (d : Nat)), (4, .own 1 (jAt b4)), (5, .own 2 (jAt b5)), (6, .own 3 (.map (some bm)))] [jrC b s (skE s (cmA l x)), jZ b4, jO b5 v1 v2, .mp bm (mapT ks), rwK v1 ks, rwJ n v2 l] True ?_ fun _ => ?_
  · by_cases hl0 : l = []
    · subst hl0
      rw [show cmA [] x = x from rfl, k6]
      exact xn0
    · have hl1 : 0 < l.length := List.length_pos_iff.2 hl0
      obtain ⟨hw1, hw2⟩ := hcm.resolve_left hl0
      have hW := json_want (G := G) b s x 44 (by omega) k2
      have hB2 := json_blank (G := G) b s (x + 1) (by omega) (by omega)
      rw [show cmA l x = x + 1 from if_neg hl0]
      refine xn1 ?_
      intros
      refine cx_rw 0 hW rfl (fun t z hc => ?_) (fun e p y hc => ?_)
      · obtain ⟨rfl, -, -⟩ := wn_ok hc
        exact xn0
      · have := wn_some hc
        unfold wnP at this
        rw [if_neg (by omega), if_neg (by omega)] at this
        cases this
  have hdo := hdP_obj (ks := ks) hcp
  rw [hdo] at k1
  have hp := skE_ge s (cmA l x)
  generalize skE s (cmA l x) = p at *
  have hQ := json_text (G := G) b s p (by omega) (by omega)
  refine aw_code hC hGL (xn1 ?_)
  refine cx_rw 0 hQ rfl (fun key z hc => ?_) (fun e q y hc => ?_)
  case refine_2 =>
    rw [kyP_bad hc] at k1
    exact jp_bad k1.symm rfl (List.Sublist.cons_cons _ (List.nil_sublist _))
  have hz := txP_ge hc
  refine xn1 ?_
  intros
  refine set_look key (fun hm => ?_) (fun hm _ => ?_)
  · rw [kyP_two hc hm] at k1
    refine ⟨fun _ => ?_, fun h => absurd (h.symm.trans (seqB_t.2 rfl)) (by decide)⟩
    refine xn1 ?_
    intros
    exact cx_panic (hT _ _) (jp_bad k1.symm rfl (List.Sublist.cons_cons _ (List.nil_sublist _)))
  have hB3 := json_blank (G := G) b s z (by omega) hz.2
  have hz3 := skE_ge s z
  have hW := json_want (G := G) b s (skE s z) 58 (by omega) (hz3.2 hz.2)
  have hkb := fun h => kyP_lack hc hm h
  have hko := fun h1 h2 => kyP_ok hc hm h1 h2
  generalize skE s z = c at *
  refine xn1 ?_
  refine set_lay key hm (fun _ => ?_)
  refine xn1 ?_
  refine cx_rw 0 hW rfl (fun _ y hw => ?_) (fun e q y hw => ?_)
  case refine_2 =>
    have hnw : ¬ (c < s.length ∧ byteAt s c = 58) := fun h => by
      have := wn_some hw
      unfold wnP at this
      rw [if_neg (by omega), if_neg (by omega)] at this
      cases this
    have e1 : wnP s c 58 = some (lkE s c, c) := by
      unfold wnP lkE
      by_cases h3 : s.length ≤ c
      · rw [if_pos h3, if_pos h3]
      · rw [if_neg h3, if_neg h3, if_pos (by omega)]
    have e2 := (wn_some hw).symm.trans e1
    cases e2
    rw [hkb hnw] at k1
    exact jp_bad k1.symm rfl (List.Sublist.cons_cons _ (List.nil_sublist _))
  obtain ⟨rfl, w1, w2⟩ := wn_ok hw
  rw [hko w1 w2] at k1
  dsimp only at k1
  have hIH := IH (c + 1) (d + 1) (by omega) w1
  refine xn1 ?_
  intro va2 vk2 vc2 _
  refine dw_pp mixed hC hGL false (fun v h => ∃ (e : Int) (q yy : Nat) (TT : Heap), trP s n (c + 1) = .bad e q ∧ v = fauA e q ∧ h = jrC b s yy :: TT)
    (fun _ : { z : Js × Nat × Option Addr × Nat × Nat // trP s n (c + 1) = .ok z.1 z.2.1 } => [(0, .own 0 (jP b)), (1, .int .i64 (d : Nat)), (4, .own 1 (jAt b4)), (5, .own 2 (jAt b5)), (6, .own 3 (.map (some bm)))])
    (fun z => [jrC b s z.1.2.1, jZ b4, jO b5 (.slice va2 vk2 vc2) (.slice z.1.2.2.1 z.1.2.2.2.1 z.1.2.2.2.2), .mp bm (mapT ks ++ [(AVal.str key, AVal.bool true)]), .row (.slice va2 vk2 vc2) none 1 (ks.length + 1) (strsC ks ++ [.str key]), .row (.slice z.1.2.2.1 z.1.2.2.2.1 z.1.2.2.2.2) none 4 (l.length + 1) (jsC n l ++ Js.C n z.1.1)])
    (.take 0 (.take 2 (.take 3 (.take 4 (.br 1 (.br 5 (.br 6 (.br 7 (.take 8 (.br 9 (.done) (.nil))) (.nil)) (.nil)) (.nil)) (.br 5 (.br 1 (.br 6 (.br 7 (.take 8 (.br 9 (.done) (.nil))) (.nil)) (.nil)) (.br 6 (.br 1 (.br 7 (.take 8 (.br 9 (.done) (.nil))) (.nil)) (.nil)) (.nil))) (.nil))))))) (by kernel_rfl) ?_ ?_ ?_
  · refine xn ?_
    repeat' (first | exact Le.n | refine Lc.mk ?_ ?_)
    all_goals intros
    all_goals
      refine cx_rw 0 hIH rfl (fun t e h => ?_) (fun e q yy h => ?_)
      · refine xn ?_
        repeat' (first | exact Le.n | refine Lc.mk ?_ ?_)
        all_goals intros
        all_goals exact ⟨⟨(t, e, _, _, _), h⟩, env_w, sub_w⟩
      · exact ⟨e, q, yy, _, h, rfl, rfl⟩
  rotate_left
  · rintro v h ⟨e, q, yy, TT, hv, rfl, rfl⟩
    rw [hv] at k1
    exact jp_bad k1.symm rfl (List.Sublist.cons_cons _ (List.nil_sublist _))
  rintro ⟨⟨w, c1, va, vk, vc⟩, hc1⟩
  dsimp only at hc1 ⊢
  rw [hc1] at k1
  dsimp only at k1
  have hg := trP_ge (show c + 1 ≤ s.length from w1) hc1
  have hB4 := json_blank (G := G) b s c1 (by omega) (by omega)
  have hs := skE_ge s c1
  have hid := skE_idem s c1
  generalize skE s c1 = c2 at *
  have e2 : l.length + 1 = (l ++ [w]).length := by rw [List.length_append]; rfl
  have e3 : ks.length + 1 = (ks ++ [key]).length := by rw [List.length_append]; rfl
  refine xn1 ?_
  refine nxs (c2, ks ++ [key], l ++ [w], k, .slice va2 vk2 vc2, .slice va vk vc) ⟨k1, hs.2 hg.2, by dsimp only; omega, by dsimp only; omega, by dsimp only; omega, hid⟩ (by dsimp only; omega) env_w ?_
  refine List.Sublist.cons_cons _ (List.Sublist.cons_cons _ (List.Sublist.cons_cons _ ?_))
  show [HEnt.mp bm (mapT (ks ++ [key])), HEnt.row (.slice va2 vk2 vc2) none 1 (ks ++ [key]).length (strsC (ks ++ [key])), HEnt.row (.slice va vk vc) none 4 (l ++ [w]).length (jsC n (l ++ [w]))].Sublist _
  rw [← e2, ← e3, ← jsC_push, ← strsC_snoc, ← mapT_push]
  exact List.Sublist.refl _
theorem json_tree {G : Glo} (b : Nat) (s : List UInt8) (hl : s.length ≤ 100000) : ∀ n a d : Nat, d + n = 13 → a ≤ s.length → FnSpec Tryz.prog G 19 [.raw (jP b), .int .i64 (d : Nat)] [jrC b s a] (RwQ b s (trP s n a) fun x => .agg (Js.C n x))
  | 0, a, d, hd, ha => by
    have hB := json_blank (G := G) b s a (by omega) ha
    have hT := fun e p => json_throw (G := G) (jP b) e p
    have hR : trP s 0 a = .bad 4 (skE s a) := by rw [trP]
    generalize trP s 0 a = T at *
    generalize skE s a = i at *
    obtain rfl : d = 13 := by omega
    have hGL : GloAll G [] := gloAll_nil
    refine fn_own [(0, 0, jP b)] Tryz.func19 Tryz.call19 rfl rfl rfl rfl (by repeat (first | exact trivial | refine And.intro ⟨rfl, rfl⟩ ?_)) ?_
    intro C hC
    refine aw_code hC hGL (xn1 ?_)
    intros
    exact cx_panic (hT _ _) (rw_bad hR rfl (List.Sublist.cons_cons _ (List.nil_sublist _)))
  | n + 1, a, d, hd, ha => by
    have ih := fun a d h1 h2 => json_tree (G := G) b s hl n a d h1 h2
    exact fn_toldQ (json_tree0 b s n hl ih (fun a d h1 h2 => fn_toldQ (json_object0 b s n hl ih a d h1 h2) fun _ _ h => jp_told h) a d hd ha) fun _ _ h => jp_told h
end Go.Proofs.YtmgkpbgfkjedeaaGreatDoor
namespace Go.Proofs.YtmgkpbgfkjedeaaGreatDoor
open Go Go.RowKit
abbrev eC (b : Nat) (x : AVal) : HEnt := .cells b (some 32) [x]
abbrev j4 (b : Nat) (c : List AVal) : HEnt := .cells b (some 25) c
abbrev dRd (b2 b3 : Nat) : Deferred := { target := .fn (.func 18) #[jP b2, jP b3], args := #[] }
set_option maxRecDepth 20000
set_option maxHeartbeats 4000000
set_option linter.unusedSimpArgs false
set_option linter.unusedVariables false
attribute [local irreducible] AWp AOps byteAt SrcOK OrOk GloAll FnSpec
attribute [local irreducible] trP rdP rdX rdE To DSpec Lv AWpD
theorem read_caught {G : Glo} (b2 b3 : Nat) (e p : Int) (x0 x1 x2 x3 x : AVal) : DSpec Tryz.prog G 18 [.own 0 (jP b2), .own 1 (jP b3)] (.pan (fauA e p)) [j4 b2 [x0, x1, x2, x3], eC b3 x]
    (fun r m H => m = .rcv (fauA e p) ∧ r = .ret (.tuple []) ∧ H = [j4 b2 z4, eC b3 (atA e p)]) := by
  have hGL : GloAll G [] := gloAll_nil
  refine ds_told (Y := Nat) (H1 := fun b => [j4 b2 z4, eC b3 (.iface 48 (.own 2 (jP b))), .cells b (some 52) [.int .i64 e, .int .i64 p]]) ?_ ?_
  · refine ds_rec (rs := []) (GL := []) Tryz.func18 rfl rfl rfl rfl rfl rfl hGL ?_
    intro C hC
    refine xn1 ?_
    intro b
    intros
    exact ⟨_, List.Sublist.refl _, rfl, b, rfl⟩
  · intro b C R w hm
    obtain ⟨R', hle, hm', hr⟩ := MS.seal_cells (hm.perm (perm_front (i := 2) rfl))
    obtain ⟨h1, h2⟩ := (CellTo.cells (R := R') (b := b3) (eT := some 32) (p := 0) (a := .iface 48 (.own 2 (jP b))) (a' := atA e p) (cs := [.iface 48 (.own 2 (jP b))]) rfl (fun v => iface_told (own_told hr))).holds (hm'.heap.holds _ (List.mem_of_getElem? (i := 1) rfl))
    exact ⟨R', hle, hm'.setEnt (i := 1) rfl h2 h1⟩
theorem read_uncaught {G : Glo} (b2 b3 : Nat) (x y : HEnt) : DSpec Tryz.prog G 18 [.own 0 (jP b2), .own 1 (jP b3)] .ret [x, y] (fun r m H => m = .ret ∧ r = .ret (.tuple []) ∧ H = [x, y]) := by
  have hGL : GloAll G [] := gloAll_nil
  refine ds_rec (rs := []) (GL := []) Tryz.func18 rfl rfl rfl rfl rfl rfl hGL ?_
  intro C hC
  exact xn0
section
variable {G : Glo} {n : Nat} {env : Env} {Qf : ARes → Heap → Prop} {b2 b3 : Nat} {T : Heap} {x0 x1 x2 x3 x : AVal} {e p : Int}
theorem rdp_ret (h2 : Env.get env 2 = some (.own 0 (jP b2))) (h3 : Env.get env 3 = some (.own 1 (jP b3))) (hx : x.isAgg = false) (hq : Qf (.ret (.tuple [.agg [x0, x1, x2, x3], x])) []) :
    Lv Tryz.prog G n [.cell 2 25, .cell 3 32] env [] .ret (j4 b2 [x0, x1, x2, x3] :: eC b3 x :: T) Qf := by
  refine lv_retJ ⟨[.agg [x0, x1, x2, x3], x], [], ⟨_, _, rfl, ⟨b2, 0, _, _, _, .inr ⟨0, h2⟩, rfl, rfl, rfl, .inl ⟨rfl, rfl⟩⟩, _, _, rfl, ⟨b3, 1, _, _, _, .inr ⟨1, h3⟩, rfl, rfl, rfl, .inr ⟨rfl, rfl, hx⟩⟩, rfl⟩, List.nil_sublist _, hq⟩
theorem rdp_thrown (h2 : Env.get env 2 = some (.own 0 (jP b2))) (h3 : Env.get env 3 = some (.own 1 (jP b3))) (hq : Qf (.ret (.tuple [.agg z4, atA e p])) []) :
    Lv Tryz.prog G n [.cell 2 25, .cell 3 32] env [dRd b2 b3] (.pan (fauA e p)) (j4 b2 [x0, x1, x2, x3] :: eC b3 x :: T) Qf := by
  refine lv_call (ds_pre T (read_caught (G := G) b2 b3 e p x0 x1 x2 x3 x)) (fun R => ⟨_, _, rfl, rel_own.2 ⟨rfl, rfl⟩, _, _, rfl, rel_own.2 ⟨rfl, rfl⟩, rfl⟩) Tryz.call18 ?_
  exact rdp_ret h2 h3 rfl hq
theorem rdp_left (h2 : Env.get env 2 = some (.own 0 (jP b2))) (h3 : Env.get env 3 = some (.own 1 (jP b3))) (hx : x.isAgg = false) (hq : Qf (.ret (.tuple [.agg [x0, x1, x2, x3], x])) []) :
    Lv Tryz.prog G n [.cell 2 25, .cell 3 32] env [dRd b2 b3] .ret (j4 b2 [x0, x1, x2, x3] :: eC b3 x :: T) Qf := by
  refine lv_call (ds_pre T (read_uncaught (G := G) b2 b3 _ _)) (fun R => ⟨_, _, rfl, rel_own.2 ⟨rfl, rfl⟩, _, _, rfl, rel_own.2 ⟨rfl, rfl⟩, rfl⟩) Tryz.call18 ?_
  exact rdp_ret h2 h3 hx hq
end
theorem json_Read0 {G : Glo} (s : List UInt8) (hl : s.length ≤ 30000) : FnSpec Tryz.prog G 5 [.str s] [] (jaQ (rdX s) (rdE s).A) := by
  have hGL : GloAll G [] := gloAll_nil
  have hB := utf_Bad (G := G) s (by omega)
  refine fn_d (rs := [.cell 2 25, .cell 3 32]) Tryz.func5 Tryz.call5 rfl rfl rfl rfl ?_
  intro C hC hD
  refine awd_seq (awd_code hC hGL (xn1 ?_))
  intro b2 b3
  refine awd_seq (awd_seq (awd_code hC hGL (xn1 ?_)))
  by_cases h0 : 20000 < s.length
  · obtain ⟨e1, e2⟩ := jr_big h0
    refine awd_cond rfl (fun hb => awd_code hC hGL (xn1 ?_)) (fun hb => absurd (ltB_f.1 hb) (by omega))
    rw [e1, e2, hD]
    exact rdp_ret rfl rfl rfl ⟨rfl, _, rfl, .inl ⟨rfl, rfl⟩⟩
  refine awd_cond rfl (fun hb => absurd (ltB_t.1 hb) (by omega)) (fun hb => awd_code hC hGL (xn1 ?_))
  have hP : rdP s = rdP s := rfl
  conv at hP => rhs; unfold rdP
  refine awd_cuty hC hGL (fun _ : Unit => [(0, .str s), (2, .own 0 (jP b2)), (3, .own 1 (jP b3))]) (fun _ => [j4 b2 z4, eC b3 (.raw .nilIface)]) (fun _ => badI s < 0) ?_ ?_
  · by_cases hb : 0 ≤ badI s
    · rw [if_pos hb] at hP
      obtain ⟨e1, e2⟩ := jr_P h0 hP
      refine xn1 ?_
      intros
      rw [show (withD (withD C C.D) C.D).D = [] from hD, e1, e2, show (((badI s).toNat : Nat) : Int) = badI s by omega]
      exact rdp_ret rfl rfl rfl ⟨rfl, _, rfl, .inl ⟨rfl, rfl⟩⟩
    · refine xn1 ?_
      intros
      exact cy () (by omega)
  intro _ hb
  refine awd_seq (awd_defer hC hGL rfl ?_)
  refine xn1 ?_
  refine ⟨_, rfl, ?_⟩
  refine (fun (h : ∀ C2 : Ctx, C2.G = G → C2.D = [dRd b2 b3] → AWpD Tryz.prog C2 _ _ _ _ _) => h (withD C (dRd b2 b3 :: C.D)) hC (by show dRd b2 b3 :: C.D = _; rw [hD])) ?_
  clear hC hD C
  intro C hC hD
  rw [if_neg (by omega)] at hP
  refine awd_cuty hC hGL (fun br : Nat => [(0, .str s), (2, .own 0 (jP b2)), (3, .own 1 (jP b3)), (5, .own 2 (jP br))]) (fun br => [j4 b2 z4, eC b3 (.raw .nilIface), jrC br s 0]) (fun _ => True) ?_ ?_
  · refine xb1 ?_
    intro br
    intros
    exact cy br trivial
  intro br _
  have hT := fun e p => json_throw (G := G) (jP br) e p
  have hTr := json_tree (G := G) br s (by omega) 12 0 1 rfl (Nat.zero_le _)
  refine awd_code hC hGL (xn1 ?_)
  refine cx_rw 2 hTr rfl (fun x z hc => ?_) (fun e p y hc => ?_)
  · rw [hc] at hP
    dsimp only at hP
    have hg := trP_ge (Nat.zero_le _) hc
    have hB4 := json_blank (G := G) br s z (by omega) (by omega)
    have hs := skE_ge s z
    generalize skE s z = c at *
    by_cases hc1 : c < s.length
    · rw [if_pos hc1] at hP
      obtain ⟨e1, e2⟩ := jr_P h0 hP
      refine xn1 ?_
      intros
      refine cx_panic (hT _ _) ?_
      (conv => whnf)
      rw [hD, e1, e2]
      exact rdp_thrown rfl rfl ⟨rfl, _, rfl, .inl ⟨rfl, rfl⟩⟩
    · rw [if_neg hc1] at hP
      obtain ⟨e1, e2⟩ := jr_K h0 hP
      refine xn1 ?_
      intros
      rw [hD, e1, e2]
      exact rdp_left rfl rfl rfl ⟨rfl, _, rfl, .inr rfl⟩
  · rw [hc] at hP
    dsimp only at hP
    obtain ⟨e1, e2⟩ := jr_P h0 hP
    (conv => whnf)
    rw [hD, e1, e2]
    exact rdp_thrown rfl rfl ⟨rfl, _, rfl, .inl ⟨rfl, rfl⟩⟩
theorem json_Read {G : Glo} (s : List UInt8) (hl : s.length ≤ 30000) : FnIs Tryz.prog G 5 [.str s] (.tuple [.agg (Js.C 12 (rdX s)), (rdE s).A]) := fn_told (json_Read0 s hl) fun _ _ h => ja_told h
end Go.Proofs.YtmgkpbgfkjedeaaGreatDoor
namespace Go.Proofs.YtmgkpbgfkjedeaaGreatDoor
open Go Go.RowKit
/-- A tree of so many levels, none of whose lists is longer than so. -/
def Js.fits (B : Nat) : Nat → Js → Prop
  | 0, x => x.ks.length ≤ B ∧ x.l = []
  | d + 1, x => x.ks.length ≤ B ∧ x.l.length ≤ B ∧ ∀ i, i < x.l.length → Js.fits B d (atJ x.l i)
theorem elP_fits {s : List UInt8} {f : Nat → Rj Js} {ob : Bool} {n : Nat} (hg : ∀ a x b, a ≤ s.length → f a = .ok x b → a < b ∧ b ≤ s.length) (hf : ∀ a x b, a ≤ s.length → f a = .ok x b → Js.fits s.length n x) : ∀ {k a : Nat} {ks : List (List UInt8)} {l : List Js} {x : Js} {b : Nat}, a ≤ s.length → ks.length ≤ a → l.length ≤ a → (∀ i, i < l.length → Js.fits s.length n (atJ l i)) → elP s f ob k a ks l = .ok x b → Js.fits s.length (n + 1) x
  | 0, _, _, _, _, _, _, _, _, _, h => by cases h
  | k + 1, a, ks, l, x, b, ha, h1, h2, h3, h => by
    rw [elP] at h
    split at h
    · cases h
      exact ⟨by show ks.length ≤ _; omega, by show l.length ≤ _; omega, h3⟩
    · split at h
      · cases h
      · rename_i hk
        have hc := hdP_ge ha hk
        split at h
        · cases h
        · rename_i y c hy
          have g1 := hg _ _ _ hc.2 hy
          have g2 := hf _ _ _ hc.2 hy
          have g3 := skE_ge s c
          refine elP_fits hg hf (g3.2 g1.2) ?_ ?_ ?_ h
          · have : (ksJ ob ks ‹List UInt8›).length ≤ ks.length + 1 := by unfold ksJ; split <;> simp
            omega
          · rw [List.length_append]
            simp only [List.length_cons, List.length_nil]
            omega
          · intro i hi
            rw [List.length_append] at hi
            simp only [List.length_cons, List.length_nil] at hi
            rcases Nat.lt_or_ge i l.length with q | q
            · have e : atJ (l ++ [y]) i = atJ l i := by simp [atJ, List.getD, List.getElem?_append_left q]
              rw [e]
              exact h3 i q
            · obtain rfl : i = l.length := by omega
              have e : atJ (l ++ [y]) l.length = y := by simp [atJ, List.getD]
              rw [e]
              exact g2
theorem fits_nil {B d : Nat} {k : Int} {t : List UInt8} : Js.fits B d (.mk k t [] []) := by
  cases d with
  | zero => exact ⟨Nat.zero_le _, rfl⟩
  | succ d => exact ⟨Nat.zero_le _, Nat.zero_le _, fun i h => absurd h (Nat.not_lt_zero _)⟩
theorem trP_fits {s : List UInt8} : ∀ {n a : Nat} {x : Js} {b : Nat}, a ≤ s.length → trP s n a = .ok x b → Js.fits s.length n x
  | 0, a, x, b, _, h => by cases h
  | n + 1, a, x, b, ha, h => by
    have h0 := skE_ge s a
    have hel : ∀ {ob : Bool}, skE s a < s.length → elP s (trP s n) ob (s.length + 1) (skE s (skE s a + 1)) [] [] = .ok x b → Js.fits s.length (n + 1) x := fun hlt h => by
      have := skE_ge s (skE s a + 1)
      exact elP_fits (fun a x b h1 h2 => trP_ge h1 h2) (fun a x b h1 h2 => trP_fits h1 h2) (this.2 hlt) (Nat.zero_le _) (Nat.zero_le _) (fun i h => absurd h (Nat.not_lt_zero _)) h
    rw [trP] at h
    (repeat' split at h) <;> first | (cases h; done) | (cases h; exact fits_nil) | exact hel (by omega) h
theorem rdX_fits (s : List UInt8) : Js.fits s.length 12 (rdX s) := by
  unfold rdX
  split
  · exact fits_nil
  · split
    · rename_i h
      unfold rdP at h
      split at h
      · cases h
      · split at h
        · cases h
        · split at h
          · cases h
          · rename_i h2 _
            cases h
            exact trP_fits (Nat.zero_le _) h2
    · exact fits_nil
set_option maxRecDepth 20000
set_option maxHeartbeats 4000000
set_option linter.unusedSimpArgs false
set_option linter.unusedVariables false
attribute [local irreducible] AWp AOps byteAt SrcOK OrOk GloAll FnSpec
attribute [local irreducible] rdX rdE
theorem json_same {G : Glo} (B : Nat) (hB : B ≤ 30000) : ∀ (d : Nat) (x : Js), Js.fits B d x → FnIs Tryz.prog G 7 [.agg (Js.C d x), .agg (Js.C d x)] (.bool true) := by
  intro d
  induction d with
  | zero =>
    intro x hx
    obtain ⟨h1, h2⟩ := hx
    have hl0 : x.l.length = 0 := by rw [h2]; rfl
    unfold Js.C
    have hGL : GloAll G [] := gloAll_nil
    refine fn_a Tryz.func7 Tryz.call7 rfl rfl rfl rfl ?_
    intro C hC
    refine aw_code hC hGL (xw1 ?_)
    intros
    refine lp hC hGL (fun k : Nat => [(2, .rop (Js.C (0) x) 0), (3, .rop (Js.C (0) x) 0), (39, .int .i64 (x.ks.length : Nat)), (40, .int .i64 (k : Nat))]) (fun _ => []) (fun k => k ≤ x.ks.length) (fun k => x.ks.length - k) 0 (Nat.zero_le _) env_w rfl ?_
    intro k hk
    by_cases h : k < x.ks.length
    · refine xw1 ?_
      intros
      exact nxs (k + 1) h (by omega) env_w sub_w
    obtain rfl : k = x.ks.length := by omega
    refine xw1 ?_
    intros
    refine rds hC hGL 1 ?_
    exact xw0
  | succ d ih =>
    intro x hx
    obtain ⟨h1, h2, h3⟩ := hx
    have ih := fun i hi => ih (atJ x.l i) (h3 i hi)
    have hcl := Tryz.call7
    unfold Js.C
    have hGL : GloAll G [] := gloAll_nil
    refine fn_a Tryz.func7 Tryz.call7 rfl rfl rfl rfl ?_
    intro C hC
    refine aw_code hC hGL (xw1 ?_)
    intros
    refine lp hC hGL (fun k : Nat => [(2, .rop (Js.C (d + 1) x) 0), (3, .rop (Js.C (d + 1) x) 0), (39, .int .i64 (x.ks.length : Nat)), (40, .int .i64 (k : Nat))]) (fun _ => []) (fun k => k ≤ x.ks.length) (fun k => x.ks.length - k) 0 (Nat.zero_le _) env_w rfl ?_
    intro k hk
    by_cases h : k < x.ks.length
    · refine xw1 ?_
      intros
      exact nxs (k + 1) h (by omega) env_w sub_w
    obtain rfl : k = x.ks.length := by omega
    refine xw1 ?_
    intros
    refine lp hC hGL (fun k : Nat => [(2, .rop (Js.C (d + 1) x) 0), (3, .rop (Js.C (d + 1) x) 0), (57, .int .i64 (x.l.length : Nat)), (58, .int .i64 (k : Nat))]) (fun _ => []) (fun k => k ≤ x.l.length) (fun k => x.l.length - k) 0 (Nat.zero_le _) env_w rfl ?_
    intro k hk
    by_cases h : k < x.l.length
    · have hi := ih k h
      refine xw1 ?_
      intros
      exact nxs (k + 1) h (by omega) env_w sub_w
    obtain rfl : k = x.l.length := by omega
    exact xw0
theorem law_JsonReads {G : Glo} (hU : GloAll G utfTy) (hE : GloAll G errTy) (s : List UInt8) (hl : s.length ≤ 9223372036854775807) : FnIs Tryz.prog G 3 [.str s] (.bool true) := by
  by_cases h0 : s.length ≤ 20009
  · have hA := ref_Read (G := G) hU s (by omega)
    have hR := json_Read (G := G) s (by omega)
    have hS := json_same (G := G) s.length (by omega) 12 (rdX s) (rdX_fits s)
    have hP := placed_ok hE (rdE s)
    have hc1 := Tryz.call6
    have hc2 := Tryz.call7
    generalize rdX s = X at *
    generalize rdE s = E at *
    have hGL : GloAll G [] := gloAll_nil
    refine fn_a Tryz.func3 Tryz.call3 rfl rfl rfl rfl ?_
    intro C hC
    refine aw_code hC hGL ?_
    by_cases h1 : s.length ≤ 2000
    · rcases E with _ | e | ⟨e, p⟩
      · exact xw0
      · exact xw0
      · exact xw0
    · by_cases h2 : s.length ≤ 20000
      · exact xw0
      · rcases E with _ | e | ⟨e, p⟩
        · exact xw0
        · exact xw0
        · exact xw0
  · have hGL : GloAll G [] := gloAll_nil
    refine fn_a Tryz.func3 Tryz.call3 rfl rfl rfl rfl ?_
    intro C hC
    refine aw_code hC hGL ?_
    exact xw0
end Go.Proofs.YtmgkpbgfkjedeaaGreatDoor
namespace Go.Proofs.YtmgkpbgfkjedeaaGreatDoor
open Go
theorem Tryz.own : ownKnob Tryz.prog.godebug = none := by kernel_rfl
/-- All blocks below, sealed as they stand. -/
def sealBelow (W : World) (k : Nat) : Seal := fun b => if b < k then W.heap[b]? else none
theorem sealBelow_ok (W : World) (k : Nat) : Sealed (sealBelow W k) W := by
  intro b o h
  unfold sealBelow at h
  split at h
  · exact h
  · cases h
theorem ms_start (W : World) (R : Seal) (G : Glo) (hG : G.p R) (hs : Sealed R W) : MS ⟨W, R, blks [], G, hG, []⟩ R [] W :=
  ⟨hs, Seal.le_refl R, fun _ hb => .inl hb, ⟨fun _ h => absurd h List.not_mem_nil, List.nodup_nil, fun _ h => absurd h List.not_mem_nil⟩, fun _ h => absurd h List.not_mem_nil, Ext.refl W _⟩
theorem keptBut_of_ext {W W' : World} (h : Ext W [] W') (may : MemPlace → Prop) : W.keptBut W' may := by
  refine ⟨h.os, h.output, fun i hi => ?_⟩
  rw [h.block i hi (by simp)]
  generalize W.heap[i]? = o
  cases o with
  | none => rfl
  | some o =>
    cases o with
    | cells c t fr => exact ⟨rfl, rfl, rfl, fun _ _ => rfl⟩
    | map es clock => exact .inr ⟨rfl, rfl⟩
    | _ => rfl
theorem law_end {P : Program} {G : Glo} {f : FuncId} {avs : List AVal} {c : Bool} {args : Array Value} {W : World} {R : Seal} (hs : FnIs P G f avs (.bool c)) (hc : (callFunc f args).run P W = .ok (.enter f args) W)
    (hG : G.p R) (hR : Sealed R W) (ha : RelV R avs args.toList) : Calls P f args W fun e W' => e = .returned (.bool c) ∧ ∀ may, W.keptBut W' may := by
  rcases hs R W args hG (ms_start W R G hG hR) ha with ⟨_, h⟩ | ⟨v, w', h, _⟩
  · refine h.mono fun e W' ⟨res, H', R', ⟨hr, hH⟩, he, hm⟩ => ?_
    subst hr
    obtain ⟨x, rfl, hx⟩ := he
    refine ⟨by rw [rel_bool.1 hx], fun may => keptBut_of_ext hm.ext may⟩
  · rw [hc] at h
    cases h
theorem len_of_size {x : ByteArray} (h : x.size ≤ maxLen) : x.data.toList.length ≤ 9223372036854775807 := by
  have : x.data.toList.length = x.size := by cases x; rfl
  rw [this]
  exact h
end Go.Proofs.YtmgkpbgfkjedeaaGreatDoor
namespace Go.Proofs.YtmgkpbgfkjedeaaGreatDoor
open Go
theorem var_heap {P : Program} {w : World} {n : String} {g : Nat} {cs : Array Value} (hg : P.globalNamed n = some g) (hv : w.var? P n = some cs) : ∃ e fz, w.heap[g]? = some (.cells cs e fz) := by
  simp only [World.var?, hg, Option.bind_some] at hv
  split at hv
  · rename_i c e fz hh
    cases hv
    exact ⟨_, _, hh⟩
  · cases hv
/-- A list of package-level variables that are known. -/
def gloOf (L : List (Nat × List AVal)) : Glo := ⟨fun R => ∀ x, x ∈ L → SealedAt R x.1 0 x.2, fun _ _ hle h x hx => by
  obtain ⟨C, e, fz, h1, h2⟩ := h x hx
  exact ⟨C, e, fz, hle _ _ h1, relL_mono hle _ _ h2⟩⟩
theorem gloGet_mem : ∀ (L : List (Nat × List AVal)) {g : Nat} {cs : List AVal}, gloGet L g = some cs → (g, cs) ∈ L
  | [], _, _, h => by simp [gloGet] at h
  | (k, c) :: r, g, cs, h => by
    unfold gloGet at h
    split at h
    · rename_i e
      obtain rfl := Nat.eq_of_beq_eq_true e
      cases h
      exact List.mem_cons_self
    · exact List.mem_cons_of_mem _ (gloGet_mem r h)
theorem gloAll_of {L L' : List (Nat × List AVal)} (h : ∀ x, x ∈ L' → x ∈ L) : GloAll (gloOf L) L' := fun g cs hg R hR => hR (g, cs) (h _ (gloGet_mem L' hg))
theorem sealed_below {W : World} {k g : Nat} {C : Array Value} {e : TypeId} {fz : Nat × Nat} {cs : List AVal} (hk : g < k) (hW : W.heap[g]? = some (.cells C e fz)) (h : RelL (sealBelow W k) cs (C.toList.take cs.length)) : SealedAt (sealBelow W k) g 0 cs :=
  ⟨C, e, fz, by unfold sealBelow; rw [if_pos hk]; exact hW, by rw [List.drop_zero]; exact h⟩
theorem rowNamed_error : ∀ ty, ty < Tryz.prog.types.size → Tryz.prog.rowNamed ty [101, 114, 114, 111, 114] = true → ty = 32 := by
  have h : ((List.range Tryz.prog.types.size).all fun ty => !Tryz.prog.rowNamed ty [101, 114, 114, 111, 114] || Nat.beq ty 32) = true := by kernel_rfl
  intro ty h1 h2
  have := List.all_eq_true.1 h ty (List.mem_range.2 h1)
  rw [h2] at this
  exact Nat.eq_of_beq_eq_true (by simpa using this)
theorem error_laid {W : World} {k : Nat} (hk : 0 < k) {laid : List (String × DataW Unit)} (hL : laidMetH Tryz.prog laid W) (hm : ("errors.errorType", Rows.laid_errors_errorType) ∈ laid) : SealedAt (sealBelow W k) 0 0 [rty 32] := by
  have h := (laidMetH_iff.1 hL).2 _ (List.mem_filter.2 ⟨hm, by kernel_rfl⟩)
  have h : ∃ name u ty, (Rows.laid_errors_errorType (H := Unit)).handleName? = some name ∧ (Tryz.prog.cutTypes.find? (·.1 == "internal/reflectlite.rtype")).map (·.2) = some u ∧ ty < Tryz.prog.types.size ∧ Tryz.prog.rowNamed ty name = true ∧
      W.var? Tryz.prog "errors.errorType" = some #[.iface u (.agg #[typeHandle Tryz.prog ty])] := h
  obtain ⟨name, u, ty, h1, h2, h3, h4, h5⟩ := h
  obtain rfl : [101, 114, 114, 111, 114] = name := Option.some.inj ((show (Rows.laid_errors_errorType (H := Unit)).handleName? = some [101, 114, 114, 111, 114] by kernel_rfl).symm.trans h1)
  obtain rfl : 128 = u := Option.some.inj ((show (Tryz.prog.cutTypes.find? (·.1 == "internal/reflectlite.rtype")).map (·.2) = some 128 by kernel_rfl).symm.trans h2)
  obtain rfl := rowNamed_error ty h3 h4
  obtain ⟨e, fz, hh⟩ := var_heap (show Tryz.prog.globalNamed "errors.errorType" = some 0 by kernel_rfl) h5
  exact sealed_below hk hh ⟨_, _, rfl, (rel_rty _).1, rfl⟩
/-- The witness world of a row that lists a type's handle: the handle in its cell, the rest laid. -/
noncomputable def handleWorld (os : Os) : World :=
  let w0 := World.holding Tryz.prog os ⟨#[], #[], []⟩
  { w0 with heap := w0.heap.modify 0 fun
      | .cells _ t frozen => .cells #[.iface 128 (.agg #[hdl 32])] t frozen
      | o => o }
def plainOf (laid : List (String × DataW Unit)) : List (String × DataW Unit) := laid.filter fun x => x.2.handleName?.isNone
noncomputable def handleLaid (os : Os) (laid : List (String × DataW Unit)) : World := (handleWorld os).layVars Tryz.prog (plainOf laid)
theorem handleLaid_os (os : Os) (laid : List (String × DataW Unit)) : (handleLaid os laid).os = os := World.layVars_os _ _ _
theorem handleLaid_met {os : Os} {laid : List (String × DataW Unit)} (args : Array Value) (hf : (handleWorld os).layFits Tryz.prog (plainOf laid) [] = true) (hi : (handleWorld os).layIfaces Tryz.prog (plainOf laid) (handleLaid os laid) = true)
    (hh : ((laid.filter fun x => x.2.handleName?.isSome).all (handleAtB Tryz.prog ((handleLaid os laid).forCall (fun _ _ => 0) ⟨#[], args, []⟩).memory)) = true) :
    laidMetH Tryz.prog laid ((handleLaid os laid).forCall (fun _ _ => 0) ⟨#[], args, []⟩).memory := by
  refine laidMetH_of_parts ?_ hh
  have e1 : ((plainOf laid).filter fun x => ((plainOf laid).map (·.1)).contains x.1) = plainOf laid := List.filter_eq_self.2 fun x hx => List.contains_iff_mem.2 (List.mem_map.2 ⟨x, hx, rfl⟩)
  have e2 : ((plainOf laid).filter fun x => !((plainOf laid).map (·.1)).contains x.1) = [] := List.filter_eq_nil_iff.2 fun x hx => by rw [List.contains_iff_mem.2 (List.mem_map.2 ⟨x, hx, rfl⟩)]; simp
  have h : laidMet Tryz.prog (plainOf laid) (handleLaid os laid) := laidMet_layVars (w0 := handleWorld os) ((plainOf laid).map (·.1)) [] (by rw [e1]; rfl) (by rw [e1]; exact hf) (by rw [e1]; exact hi) (by rw [e2]; exact LaidIn.none)
  exact h.of_heap (by simp [World.memory, World.forCall, Input.heap])
theorem err_lt {W : World} {laid : List (String × DataW Unit)} (hL : laidMetH Tryz.prog laid W) (hm : ("errors.errorType", Rows.laid_errors_errorType) ∈ laid) : 0 < W.heap.size := by
  have h := (laidMetH_iff.1 hL).2 _ (List.mem_filter.2 ⟨hm, by kernel_rfl⟩)
  obtain ⟨name, u, ty, h1, h2, h3, h4, h5⟩ := h
  obtain ⟨e, fz, hh⟩ := var_heap (show Tryz.prog.globalNamed "errors.errorType" = some 0 by kernel_rfl) h5
  exact (Array.getElem?_eq_some_iff.1 hh).1
end Go.Proofs.YtmgkpbgfkjedeaaGreatDoor
namespace Go.Proofs.YtmgkpbgfkjedeaaGreatDoor
open Go
theorem chunks {α β : Type} (k : Nat) (E : α → List β) (hE : ∀ z, (E z).length = k) : ∀ (zs : List α) (cs : List β), cs.length = zs.length * k →
    (∀ i z, zs[i]? = some z → (cs.drop (i * k)).take k = E z) → cs = zs.flatMap E
  | [], cs, hl, _ => by
    simp only [List.length_nil, Nat.zero_mul] at hl
    simp [List.eq_nil_of_length_eq_zero hl]
  | z :: zs, cs, hl, h => by
    have h0 := h 0 z rfl
    simp only [Nat.zero_mul, List.drop_zero] at h0
    have hr := chunks k E hE zs (cs.drop k) (by rw [List.length_drop, hl, List.length_cons, Nat.succ_mul]; omega) (fun i y hy => by
      have := h (i + 1) y hy
      rw [List.drop_drop]
      rw [Nat.succ_mul, Nat.add_comm] at this
      exact this)
    rw [List.flatMap_cons, ← h0, ← hr, List.take_append_drop]
theorem relL_ints {R : Seal} : ∀ (l : List (IntKind × Int)), RelL R (l.map fun x => .int x.1 x.2) (l.map fun x => .int x.1 x.2)
  | [] => rfl
  | _ :: l => ⟨_, _, rfl, rfl, relL_ints l⟩
section
variable {P : Program} {H : Type} {enc : TypeId × Value → H} {w : World} {base : Nat} {spare : Nat → Bool} {held : Bool}
theorem trod_ints {t e n fuel : Nat} {k : IntKind} {cs : List Value} {ps : List MemPlace} {zs : List Nat} (ht : P.underlying t = some (.array n e)) (he : P.underlying e = some (.int k)) (hc : P.cellsOf e = 1) (hct : P.cellsOf t = n)
    (h : DataW.trod enc P w base spare held fuel t cs = some (.agg (zs.map fun x : Nat => .lit (.int k (x : Int))), ps)) (hz : zs.length = n) : cs = zs.flatMap fun x : Nat => [Value.int k (x : Int)] := by
  obtain ⟨xs, m, _, ex, hl, hxl, hel⟩ := DataW.trod_array ht h
  have e3 : (xs.map (·.1)) = zs.map fun x : Nat => .lit (.int k x) := (DataW.agg.inj (Prod.mk.inj ex).1).symm
  refine chunks 1 _ (fun _ => rfl) zs cs (by omega) (fun i z hi => ?_)
  have hin : i < zs.length := (List.getElem?_eq_some_iff.1 hi).1
  have hE := hel i (by omega)
  rw [hc, List.getElem?_eq_getElem (by omega)] at hE
  obtain ⟨y, e1, e2, _⟩ := DataW.trod_int he hE
  have e4 : (xs.map (·.1))[i]? = (zs.map fun x : Nat => (DataW.lit (.int k x) : DataW H))[i]? := by rw [e3]
  rw [List.getElem?_map, List.getElem?_map, List.getElem?_eq_getElem (by omega : i < xs.length), hi, e2] at e4
  simp only [Option.map_some, Option.some.injEq, DataW.lit.injEq, Lit.int.injEq, true_and] at e4
  rw [e1, e4]
end
/-- One laid variable. -/
theorem laid_at {P : Program} {W : World} {laid : List (String × DataW Unit)} (hL : laidMetH P laid W) {n : String} {d : DataW Unit} (hm : (n, d) ∈ laid) (hn : d.handleName?.isNone = true) {g : Nat} {t : TypeId} (hg : P.globalNamed n = some g) (ht : (P.globals[g]?).map (·.type) = some t) :
    ∃ cs e fz fuel p, W.heap[g]? = some (.cells cs e fz) ∧ DataW.trod (fun _ => ()) P W 0 (fun _ => true) false fuel t cs.toList = some (d, p) := by
  have h1 := (laidMetH_iff.1 hL).1
  obtain ⟨ps, h, _⟩ := h1
  have key : ∀ (l : List (String × DataW Unit)) (ps : List MemPlace), DataW.LaidVars P W l ps → (n, d) ∈ l → ∃ cs e fz fuel p, W.heap[g]? = some (.cells cs e fz) ∧ DataW.trod (fun _ => ()) P W 0 (fun _ => true) false fuel t cs.toList = some (d, p) := by
    intro l
    induction l with
    | nil => intro ps _ hm; cases hm
    | cons a r ih =>
      obtain ⟨m, b⟩ := a
      rintro ps ⟨g', t', cs, fuel, p, q, e1, e2, e3, e4, e5, _⟩ hm
      rcases List.mem_cons.1 hm with hm | hm
      · cases hm
        obtain rfl := Option.some.inj (hg.symm.trans e1)
        obtain rfl := Option.some.inj (ht.symm.trans e2)
        obtain ⟨e, fz, hh⟩ := var_heap hg e3
        exact ⟨cs, e, fz, fuel, p, hh, e4⟩
      · exact ih q e5 hm
  exact key _ ps h (List.mem_filter.2 ⟨hm, hn⟩)
theorem block_lt {W : World} {g : Nat} {o : Obj} (h : W.heap[g]? = some o) : g < W.heap.size := (Array.getElem?_eq_some_iff.1 h).1
theorem laid_lt {W : World} {laid : List (String × DataW Unit)} (hL : laidMetH Tryz.prog laid W) {n : String} {d : DataW Unit} (hm : (n, d) ∈ laid) (hn : d.handleName?.isNone = true) {g : Nat} {t : TypeId} (hg : Tryz.prog.globalNamed n = some g) (ht : (Tryz.prog.globals[g]?).map (·.type) = some t) : g < W.heap.size := by
  obtain ⟨_, _, _, _, _, hW, _⟩ := laid_at hL hm hn hg ht
  exact block_lt hW
end Go.Proofs.YtmgkpbgfkjedeaaGreatDoor
namespace Go.Proofs.YtmgkpbgfkjedeaaGreatDoor
open Go
section
variable {P : Program} {H : Type} {enc : TypeId × Value → H} {w : World} {base : Nat} {spare : Nat → Bool} {held : Bool}
theorem trod_pairs {t e n fuel u : Nat} {k : IntKind} {f0 f1 : Field} {cs : List Value} {ps : List MemPlace} {zs : List (Nat × Nat)} (ht : P.underlying t = some (.array n e)) (he : P.underlying e = some (.struct #[f0, f1])) (hc : P.cellsOf e = 2) (hct : P.cellsOf t = n * 2)
    (hf0 : f0.type = u) (hf1 : f1.type = u) (ho0 : f0.offset = 0) (ho1 : f1.offset = 1) (hu : P.underlying u = some (.int k)) (hcu : P.cellsOf u = 1)
    (h : DataW.trod enc P w base spare held fuel t cs = some (.agg (zs.map fun x : Nat × Nat => .agg [.lit (.int k (x.1 : Int)), .lit (.int k (x.2 : Int))]), ps)) (hz : zs.length = n) : cs = zs.flatMap fun x : Nat × Nat => [Value.int k (x.1 : Int), Value.int k (x.2 : Int)] := by
  obtain ⟨xs, m, _, ex, hl, hxl, hel⟩ := DataW.trod_array ht h
  have e3 : (xs.map (·.1)) = zs.map fun x : Nat × Nat => .agg [.lit (.int k x.1), .lit (.int k x.2)] := (DataW.agg.inj (Prod.mk.inj ex).1).symm
  refine chunks 2 _ (fun _ => rfl) zs cs (by omega) (fun i z hi => ?_)
  have hin : i < zs.length := (List.getElem?_eq_some_iff.1 hi).1
  have hE := hel i (by omega)
  rw [hc, List.getElem?_eq_getElem (by omega)] at hE
  generalize hcc : (cs.drop (i * 2)).take 2 = c at hE
  obtain ⟨y0, y1, m', e2, hl2, h0, h1⟩ := Go.ChangeShapes.trod_struct2 he hE
  rw [hf0, ho0, hcu] at h0
  rw [hf1, ho1, hcu] at h1
  obtain ⟨a0, c0, d0, _⟩ := DataW.trod_int hu h0
  obtain ⟨a1, c1, d1, _⟩ := DataW.trod_int hu h1
  have e4 : (xs.map (·.1))[i]? = (zs.map fun x : Nat × Nat => (DataW.agg [.lit (.int k x.1), .lit (.int k x.2)] : DataW H))[i]? := by rw [e3]
  rw [List.getElem?_map, List.getElem?_map, List.getElem?_eq_getElem (by omega : i < xs.length), hi, e2, d0, d1] at e4
  simp only [Option.map_some, Option.some.injEq, DataW.agg.injEq, List.cons.injEq, DataW.lit.injEq, Lit.int.injEq, true_and, and_true] at e4
  rw [hc] at hl2
  match c, hl2 with
  | [x0, x1], _ =>
    simp only [List.drop_zero, List.take_succ_cons, List.take_zero, List.cons.injEq, and_true, List.drop_succ_cons] at c0 c1
    rw [c0, c1, e4.1, e4.2]
end
theorem first_laid {W : World} {k : Nat} (hk : 1 < k) {laid : List (String × DataW Unit)} (hL : laidMetH Tryz.prog laid W) (hm : ("unicode/utf8.first", Rows.laid_unicode_utf8_first) ∈ laid) : SealedAt (sealBelow W k) 1 0 firstTab := by
  obtain ⟨C, e, fz, fuel, p, hW, hd⟩ := laid_at hL hm (by kernel_rfl) (g := 1) (t := 121) (by kernel_rfl) (by kernel_rfl)
  refine sealed_below hk hW ?_
  have hc := trod_ints (n := 256) (zs := Go.Pinned.utf8FirstZ) Tryz.underlying121 Tryz.underlying5 (by kernel_rfl) (by kernel_rfl) hd (by kernel_rfl)
  have e1 : firstTab = (Go.Pinned.utf8FirstZ.map fun x : Nat => (IntKind.u8, (x : Int))).map fun x => .int x.1 x.2 := by simp [firstTab]
  have e2 : C.toList.take firstTab.length = (Go.Pinned.utf8FirstZ.map fun x : Nat => (IntKind.u8, (x : Int))).map fun x => .int x.1 x.2 := by
    have : C.toList = Go.Pinned.utf8FirstZ.map fun x : Nat => Value.int .u8 (x : Int) := by
      rw [hc]; generalize Go.Pinned.utf8FirstZ = l; induction l <;> simp_all
    rw [this, List.take_of_length_le (by simp [firstTab])]
    simp
  rw [e2, e1]
  exact relL_ints _
def acceptZ : List (Nat × Nat) := [(128, 191), (160, 191), (128, 159), (144, 191), (128, 143), (0, 0), (0, 0), (0, 0), (0, 0), (0, 0), (0, 0), (0, 0), (0, 0), (0, 0), (0, 0), (0, 0)]
theorem accept_laid {W : World} {k : Nat} (hk : 2 < k) {laid : List (String × DataW Unit)} (hL : laidMetH Tryz.prog laid W) (hm : ("unicode/utf8.acceptRanges", Rows.laid_unicode_utf8_acceptRanges) ∈ laid) : SealedAt (sealBelow W k) 2 0 acceptTab := by
  obtain ⟨C, e, fz, fuel, p, hW, hd⟩ := laid_at hL hm (by kernel_rfl) (g := 2) (t := 124) (by kernel_rfl) (by kernel_rfl)
  refine sealed_below hk hW ?_
  rw [trod_pairs (n := 16) (zs := acceptZ) Tryz.underlying124 Tryz.underlying123 (by kernel_rfl) (by kernel_rfl) rfl rfl rfl rfl Tryz.underlying5 (by kernel_rfl) hd (by kernel_rfl)]
  exact relL_ints ((acceptZ.flatMap fun x : Nat × Nat => [x.1, x.2]).map fun x : Nat => (IntKind.u8, (x : Int)))
end Go.Proofs.YtmgkpbgfkjedeaaGreatDoor
