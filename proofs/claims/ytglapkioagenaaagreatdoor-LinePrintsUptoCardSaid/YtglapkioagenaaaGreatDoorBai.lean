/- Parts of the proof of linePrints_card: Lne, Cnt, Rqe, Lnd, Thr, Lnf, Lng, End, Han, Upt, Lnb, Lai, Lu. -/
import Derived.Lib.ItoaNum
import Derived.Test.YtglapkioagenaaaGreatDoorRows
import Derived.ProofKit
import Derived.LaidMore
import Derived.Lay
import Derived.Stop.Joined
import Derived.LaidSub
import Derived.LaidHandle
import Derived.OpenShut
import Derived.Deep.Strs
import Derived.Shelf.Vars
import Derived.SizedLaws
import Derived.Test.YtglapkioagenaaaGreatDoorBah
import Derived.Test.YtglapkioagenaaaGreatDoorBae
import Derived.Test.YtglapkioagenaaaGreatDoorBad
import Derived.Test.YtglapkioagenaaaGreatDoorBaf
set_option linter.unusedVariables false
set_option linter.unusedSimpArgs false
namespace Go.Proofs.YtglapkioagenaaaGreatDoor
open Go Go.RowKit
theorem firE_inv {c : Bool} : ∀ {l : List Pr} {i : Nat}, firE c l i = .none → ∀ q ∈ l, prE c q = 0
  | [], _, _, q, h => by cases h
  | x :: l, i, h, q, hq => by
    simp only [firE] at h
    split at h
    · rename_i h0
      rcases List.mem_cons.1 hq with rfl | hq
      · exact h0
      · exact firE_inv h q hq
    · cases h
theorem Ln.E_inv {c : Bool} {p : Ln} (h : p.E c = .none) : p.ps.length ≤ 20 ∧ ∀ k, k < p.ps.length → (p.ps.getD k Pr.z).vs.length ≠ 0 := by
  unfold Ln.E at h
  split at h
  · cases h
  · split at h
    · cases h
    · refine ⟨by omega, fun k hk h0 => ?_⟩
      have hf : firE c p.ps 0 = .none := by
        cases hf : firE c p.ps 0 with
        | none => rfl
        | errno e => rw [hf] at h; cases h
        | «at» e q => rw [hf] at h; cases h
      have h1 := firE_inv hf (p.ps.getD k Pr.z) (by rw [List.getD_eq_getElem?_getD, List.getElem?_eq_getElem hk]; exact List.getElem_mem hk)
      cases hn : isS (p.ps.getD k Pr.z).n with
      | false => rw [prE_5 hn] at h1; cases h1
      | true => rw [prE_8 hn h0] at h1; cases h1
/-- A fresh builder, told as one. -/
theorem aw_bldr {P : Program} [Tab P] {C : Ctx} {n : Nat} {env : Env} {H : Heap} {Q : AExit → Env → Heap → Prop} {c : Code} (i : Nat) {b : Nat} (hi : H[i]? = some (.cells b (some 52) [.raw (.pointer none), .raw (.slice none 0 0)]))
    (h : AWp P C n c env (H.set i (bldC b (.pointer none) H.length (.slice none 0 0)) ++ [bldR (.slice none 0 0) []]) Q) : AWp P C n c env H Q := by
  refine aw_ghost_row (eT := some 5) 1 ?_
  unfold AWp at h ⊢
  intro R a w hm hf
  obtain ⟨Cs, e, fz, hb, hl, hr⟩ := hm.heap.holds (.cells b (some 52) [.raw (.pointer none), .raw (.slice none 0 0)]) (List.mem_cons_of_mem _ (List.mem_of_getElem? hi))
  obtain ⟨v1, t1, e1, r1, v2, t2, e2, r2, e3⟩ := hl
  have r2' : RelC R (.own H.length (.slice none 0 0)) [v2] := by
    have : v2 = .slice none 0 0 := by simpa [RelC, Value.cells] using r2
    subst this
    simp [RelC, vAgg]
  have h1 := hm.swap (i := i + 1) (x := .cells b (some 52) [.raw (.pointer none), .raw (.slice none 0 0)]) (y := bldC b (.pointer none) H.length (.slice none 0 0)) (by rw [List.getElem?_cons_succ]; exact hi) rfl
    ⟨Cs, e, fz, hb, ⟨v1, t1, e1, r1, v2, t2, e2, r2', e3⟩, hr⟩
  rw [List.set_cons_succ] at h1
  exact h R a w (h1.perm (List.perm_append_singleton _ _).symm) hf
theorem any_quo {s : List UInt8} : 0 ≤ Lib.indexAny s [44, 59, 58] ↔ 0 ≤ fstB quoC s := by
  have key : ∀ x : UInt8, ([44, 59, 58] : List UInt8).contains x = quoC (x.toNat : Int) := by
    intro x
    unfold quoC
    rw [Bool.eq_iff_iff, has_iff, decide_eq_true_eq]
    simp only [List.mem_cons, List.not_mem_nil, or_false, exists_eq_or_imp, exists_eq_left]
    exact Iff.rfl
  rcases fstB_cases quoC s with ⟨h1, h2⟩ | ⟨m, h1, h2, h3, h4⟩
  · rw [Lib.indexAny_none (fun j x hj hx => by
      rw [key, get_of_byteAt hx]
      exact h2 j hj), h1]
  · have hx : s[m]? = some s[m] := List.getElem?_eq_getElem h1
    rw [Lib.indexAny_hit (i := m) (fun j x hj hx => by
      rw [key, get_of_byteAt hx]
      exact h4 j hj) hx (by rw [key, get_of_byteAt hx]; exact h3), h2]
set_option maxRecDepth 20000
set_option maxHeartbeats 4000000
set_option linter.unusedSimpArgs false
set_option linter.unusedVariables false
attribute [local irreducible] AWp AOps byteAt SrcOK OrOk GloAll FnSpec
attribute [local irreducible] hdC hdB badI isS mayV encS quoS vaT psT hdT eIf
theorem contains_quo {G : Glo} (s : List UInt8) (hl : s.length ≤ 1000000) : FnIs Tryz.prog G 20 [.str s, .str [44, 59, 58]] (.bool (decide (0 ≤ fstB quoC s))) := by
  have hI := indexAny_L (G := G) (cs := [44, 59, 58]) (any_three (by decide) (by decide) (by decide)) (by decide) (by decide) (by decide) s (by omega)
  have hGL : GloAll G [] := gloAll_nil
  refine fn_x Tryz.func20 Tryz.call20 rfl rfl rfl rfl hGL ?_
  intro C hC
  refine xw1 ?_
  apply rt_is
  refine congrArg AVal.bool ?_
  rw [Bool.eq_iff_iff]
  simp only [Bool.not_eq_true', ltB_f, decide_eq_true_eq, any_quo]
theorem quo_y {c : Bool} {s : List UInt8} (h : decide (0 ≤ fstB quoC (eIf c s)) = true) : quoS c s = 34 :: eIf c s ++ [34] := by
  unfold quoS
  rw [if_neg (by have := of_decide_eq_true h; omega)]
theorem quo_n {c : Bool} {s : List UInt8} (h : decide (0 ≤ fstB quoC (eIf c s)) = false) : quoS c s = eIf c s := by
  unfold quoS
  rw [if_pos (by have := of_decide_eq_false h; omega)]
theorem eIf_t (s : List UInt8) : eIf true s = encS s := by unfold eIf; rfl
theorem eIf_f (s : List UInt8) : eIf false s = s := by unfold eIf; rfl
theorem va_0 {c : Bool} {vs : List (List UInt8)} {j : Nat} (hj : j < vs.length) (h : (j : Int) = 0) (t : List UInt8) : t ++ vaT c vs (j + 1) = t ++ vaT c vs j ++ [61] ++ quoS c (vs.getD j []) := by
  rw [vaT_succ hj, if_pos (by omega)]
  simp only [List.append_assoc]
theorem va_1 {c : Bool} {vs : List (List UInt8)} {j : Nat} (hj : j < vs.length) (h : (j : Int) ≠ 0) (t : List UInt8) : t ++ vaT c vs (j + 1) = t ++ vaT c vs j ++ [44] ++ quoS c (vs.getD j []) := by
  rw [vaT_succ hj, if_neg (by omega)]
  simp only [List.append_assoc]
theorem line_Print {G : Glo} (p : Ln) (c : Bool) (ho : p.OK 2500) : FnIs Tryz.prog G 6 [p.A, .bool c] (.tuple [.str (p.T c), (p.E c).A]) := by
  have h0 := line_Right (G := G) p c ho
  rcases hq : p.E c with _ | e | ⟨e, i⟩
  case errno =>
    rw [hq] at h0
    rw [show p.T c = [] by unfold Ln.T; rw [hq]]
    have hGL : GloAll G [] := gloAll_nil
    refine fn_x Tryz.func6 Tryz.call6 rfl rfl rfl rfl hGL ?_
    intro C hC
    exact xw0
  case «at» =>
    rw [hq] at h0
    rw [show p.T c = [] by unfold Ln.T; rw [hq]]
    have hGL : GloAll G [] := gloAll_nil
    refine fn_x Tryz.func6 Tryz.call6 rfl rfl rfl rfl hGL ?_
    intro C hC
    exact xw0
  rw [hq] at h0
  rw [show p.T c = p.txt c by unfold Ln.T; rw [hq], txt_psT]
  obtain ⟨i1, i2⟩ := Ln.E_inv hq
  have o1 := ho.g
  have o2 := ho.n
  have o3 := ho.v
  have o4 : ∀ k, k ≤ p.ps.length → (psT c p.ps k).length ≤ 20 * 15002 := fun k hk => by
    have h1 := psT_len (c := c) ho.q k hk
    rw [show 2 + 6 * 2500 = 15002 by decide] at h1
    have h2 := Nat.mul_le_mul_right 15002 (show k ≤ 20 by omega)
    exact Nat.le_trans h1 h2
  have hd1 : p.g.length ≠ 0 → p.g ++ [46] ++ p.n = hdT p := fun h => by unfold hdT; rw [if_neg h]
  have hd0 : p.g.length = 0 → p.n = hdT p := fun h => by unfold hdT; rw [if_pos h]
  have hdl : (hdT p).length ≤ 5001 := by
    unfold hdT
    split
    · omega
    · simp only [List.length_append, List.length_cons, List.length_nil]; omega
  have hGL : GloAll G [] := gloAll_nil
  refine fn_a Tryz.func6 Tryz.call6 rfl rfl rfl rfl ?_
  intro C hC
  refine cut hC hGL [(1, .bool c), (2, .rop [.str p.g, .str p.n, .list 2 p.ps.length (prF p.ps), .str p.v] 0)] [] True ?_ fun _ => ?_
  · exact xw0
  refine cut hC hGL [(1, .bool c), (2, .rop [.str p.g, .str p.n, .list 2 p.ps.length (prF p.ps), .str p.v] 0)] [] True ?_ fun _ => ?_
  · exact xw0
  refine cuty hC hGL (fun bl : Nat => [(1, .bool c), (2, .rop [.str p.g, .str p.n, .list 2 p.ps.length (prF p.ps), .str p.v] 0), (7, .own 0 (ptrA bl))]) (fun bl => [.cells bl (some 52) [.raw (.pointer none), .raw (.slice none 0 0)]]) (fun _ => True) ?_ fun bl _ => ?_
  · refine xw1 ?_
    intro bl
    exact cy bl trivial
  refine aw_bldr 0 rfl ?_
  refine cuty hC hGL (fun x : Value × Value × List UInt8 => [(1, .bool c), (2, .rop [.str p.g, .str p.n, .list 2 p.ps.length (prF p.ps), .str p.v] 0), (7, .own 0 (ptrA bl))]) (fun x => [bldC bl x.1 1 x.2.1, bldR x.2.1 x.2.2]) (fun x => AddrOK bl x.1 ∧ x.2.2.length ≤ 2501 ∧ x.2.2 ++ p.n = hdT p) ?_ fun x hx => ?_
  · refine xw ?_
    repeat' (first | exact Le.n | refine Lc.mk ?_ ?_)
    all_goals intros
    · apply cx_bld (i := 0) (j := 1) rfl rfl (by decide) (write_string1 (.inl rfl) _ [] (p.g ++ [46]) (by simp only [List.length_append, List.length_cons, List.length_nil]; omega))
      intro ua uk uc
      refine xw1 ?_
      exact cy (ptrA bl, .slice ua uk uc, [] ++ (p.g ++ [46])) ⟨.inr rfl, by simp only [List.length_append, List.length_cons, List.length_nil]; omega, by rw [List.nil_append]; exact hd1 (by assumption)⟩
    · exact cy (.pointer none, .slice none 0 0, []) ⟨.inl rfl, by simp, by rw [List.nil_append]; exact hd0 (by assumption)⟩
  obtain ⟨pa, va, tx⟩ := x
  obtain ⟨hp, hlx, htx⟩ := hx
  dsimp only at hp hlx htx
  refine cuty hC hGL (fun x : Value => [(1, .bool c), (2, .rop [.str p.g, .str p.n, .list 2 p.ps.length (prF p.ps), .str p.v] 0), (7, .own 0 (ptrA bl))]) (fun x => [bldC bl (ptrA bl) 1 x, bldR x (hdT p ++ psT c p.ps 0)]) (fun x => True) ?_ fun vb _ => ?_
  · refine xw1 ?_
    apply cx_bld (i := 0) (j := 1) rfl rfl (by decide) (write_string1 hp va tx p.n (by omega))
    intro ua uk uc
    rw [htx.trans (show hdT p = hdT p ++ psT c p.ps 0 by rw [show psT c p.ps 0 = [] by unfold psT; rfl, List.append_nil])]
    refine xw1 ?_
    exact cy (.slice ua uk uc) trivial
  clear htx hp hlx
  refine aw_code hC hGL ?_
  refine xw1 ?_
  refine lp hC hGL (fun x : Nat × Value => [(1, .bool c), (2, .rop [.str p.g, .str p.n, .list 2 p.ps.length (prF p.ps), .str p.v] 0), (7, .own 0 (ptrA bl)), (29, .list 2 p.ps.length (prF p.ps)), (30, .int .i64 (p.ps.length : Nat)), (31, .int .i64 (x.1 : Nat))]) (fun x => [bldC bl (ptrA bl) 1 x.2, bldR x.2 (hdT p ++ psT c p.ps x.1)]) (fun x => x.1 ≤ p.ps.length) (fun x => p.ps.length - x.1) (0, vb) ?_ env_w rfl ?_
  · exact Nat.zero_le _
  rintro ⟨k, v⟩ h1
  dsimp only at h1
  have ol := o4 k h1
  have hqk := ho.q k
  refine xn ?_
  repeat' (first | exact Le.n | refine Lc.mk ?_ ?_)
  all_goals intros
  · rename_i b9 hkl
    dsimp only at hkl
    have hk : k < p.ps.length := by omega
    apply cx_bld (i := 0) (j := 1) rfl rfl (by decide) (write_string1 (.inr rfl) v (hdT p ++ psT c p.ps k) ([59] ++ (p.ps.getD k Pr.z).n) (by simp only [List.length_append, List.length_cons, List.length_nil]; omega))
    intro ua uk uc
    generalize hX : hdT p ++ psT c p.ps k ++ ([59] ++ (p.ps.getD k Pr.z).n) = X
    have hXl : X.length ≤ 500000 := by
      rw [← hX]
      simp only [List.length_append, List.length_cons, List.length_nil]
      omega
    refine xw1 ?_
    refine lp hC hGL (fun x : Nat × Value => [(1, .bool c), (2, .rop [.str p.g, .str p.n, .list 2 p.ps.length (prF p.ps), .str p.v] 0), (7, .own 0 (ptrA bl)), (29, .list 2 p.ps.length (prF p.ps)), (30, .int .i64 (p.ps.length : Nat)), (31, .int .i64 (k : Nat)), (40, .list 1 (p.ps.getD k Pr.z).vs.length (strsF (p.ps.getD k Pr.z).vs)), (41, .int .i64 ((p.ps.getD k Pr.z).vs.length : Nat)), (42, .int .i64 (x.1 : Nat))]) (fun x => [bldC bl (ptrA bl) 1 x.2, bldR x.2 (X ++ vaT c (p.ps.getD k Pr.z).vs x.1), .cells b9 (some 41) [.str (p.ps.getD k Pr.z).n, .list 1 (p.ps.getD k Pr.z).vs.length (strsF (p.ps.getD k Pr.z).vs)]]) (fun x => x.1 ≤ (p.ps.getD k Pr.z).vs.length) (fun x => (p.ps.getD k Pr.z).vs.length - x.1) (0, .slice ua uk uc) ?_ env_w ?_ ?_
    · exact Nat.zero_le _
    · dsimp only
      rw [show vaT c (p.ps.getD k Pr.z).vs 0 = [] by unfold vaT; rfl, List.append_nil]
    rintro ⟨j, u⟩ g1
    dsimp only at g1
    have hvl := vaT_len c (p.ps.getD k Pr.z).vs j
    have hj1 := lens_at (l := (p.ps.getD k Pr.z).vs) (k := j)
    have hel := eIf_len c ((p.ps.getD k Pr.z).vs.getD j [])
    have hql := quoS_len c ((p.ps.getD k Pr.z).vs.getD j [])
    have hE := caret_Encode (G := G) ((p.ps.getD k Pr.z).vs.getD j []) (by omega) (count_one _)
    have hQ := contains_quo (G := G) (eIf c ((p.ps.getD k Pr.z).vs.getD j [])) (by omega)
    have hY := quo_y (c := c) (s := (p.ps.getD k Pr.z).vs.getD j [])
    have hN := quo_n (c := c) (s := (p.ps.getD k Pr.z).vs.getD j [])
    have hv0 := fun (hj : j < (p.ps.getD k Pr.z).vs.length) (h : (j : Int) = 0) => va_0 (c := c) hj h X
    have hv1 := fun (hj : j < (p.ps.getD k Pr.z).vs.length) (h : (j : Int) ≠ 0) => va_1 (c := c) hj h X
    refine xw ?_
    repeat' (first | exact Le.n | refine Lc.mk ?_ ?_)
    all_goals intros
    all_goals first
      | (have hj0 := hv0 (by omega) (by assumption)
         apply cx_bld (i := 0) (j := 1) rfl rfl (by decide) (write_string1 (.inr rfl) u (X ++ vaT c (p.ps.getD k Pr.z).vs j) [61] (by simp only [List.length_append, List.length_cons, List.length_nil]; omega))
         intro xa xk xc
         cases c
         all_goals
           simp only [eIf_t, eIf_f] at hQ hY hN hel
           refine xw ?_
           repeat' (first | exact Le.n | refine Lc.mk ?_ ?_)
           all_goals intros
           all_goals
             first
             | (have hy := hY (by assumption)
                apply cx_bld (i := 0) (j := 1) rfl rfl (by decide) (write_string1 (.inr rfl) (.slice xa xk xc) _ _ (by rw [hy] at hql; simp only [List.length_append, List.length_cons, List.length_nil] at *; omega))
                intro ya yk yc
                refine xw1 ?_
                refine nxs (j + 1, .slice ya yk yc) (by dsimp only; omega) (by dsimp only; omega) env_w ?_
                dsimp only
                rw [hj0, hy]
                exact sub_w)
             | (have hy := hN (by assumption)
                apply cx_bld (i := 0) (j := 1) rfl rfl (by decide) (write_string1 (.inr rfl) (.slice xa xk xc) _ _ (by simp only [List.length_append, List.length_cons, List.length_nil] at *; omega))
                intro ya yk yc
                refine xw1 ?_
                refine nxs (j + 1, .slice ya yk yc) (by dsimp only; omega) (by dsimp only; omega) env_w ?_
                dsimp only
                rw [hj0, hy]
                exact sub_w))
      | (have hj1 := hv1 (by omega) (by assumption)
         apply cx_bld (i := 0) (j := 1) rfl rfl (by decide) (write_string1 (.inr rfl) u (X ++ vaT c (p.ps.getD k Pr.z).vs j) [44] (by simp only [List.length_append, List.length_cons, List.length_nil]; omega))
         intro xa xk xc
         cases c
         all_goals
           simp only [eIf_t, eIf_f] at hQ hY hN hel
           refine xw ?_
           repeat' (first | exact Le.n | refine Lc.mk ?_ ?_)
           all_goals intros
           all_goals
             first
             | (have hy := hY (by assumption)
                apply cx_bld (i := 0) (j := 1) rfl rfl (by decide) (write_string1 (.inr rfl) (.slice xa xk xc) _ _ (by rw [hy] at hql; simp only [List.length_append, List.length_cons, List.length_nil] at *; omega))
                intro ya yk yc
                refine xw1 ?_
                refine nxs (j + 1, .slice ya yk yc) (by dsimp only; omega) (by dsimp only; omega) env_w ?_
                dsimp only
                rw [hj1, hy]
                exact sub_w)
             | (have hy := hN (by assumption)
                apply cx_bld (i := 0) (j := 1) rfl rfl (by decide) (write_string1 (.inr rfl) (.slice xa xk xc) _ _ (by simp only [List.length_append, List.length_cons, List.length_nil] at *; omega))
                intro ya yk yc
                refine xw1 ?_
                refine nxs (j + 1, .slice ya yk yc) (by dsimp only; omega) (by dsimp only; omega) env_w ?_
                dsimp only
                rw [hj1, hy]
                exact sub_w))
      | (have hj9 : (p.ps.getD k Pr.z).vs.length = j := by omega
         refine nxs (k + 1, u) (by dsimp only; omega) (by dsimp only; omega) env_w ?_
         dsimp only
         rw [show hdT p ++ psT c p.ps (k + 1) = X ++ vaT c (p.ps.getD k Pr.z).vs j by
           rw [psT_succ hk, vaT_all (i2 k hk), ← hX, hj9]
           simp only [List.append_assoc, List.cons_append, List.nil_append]]
         exact sub_w)
  · have hkk : k = p.ps.length := by dsimp only at *; omega
    subst hkk
    refine dw_p mixed hC hGL false (fun (_ : Unit) => [(4, .str (hdT p ++ psT c p.ps p.ps.length ++ [58] ++ p.v)), (5, .raw .nilIface)]) (fun _ => [ghostR, ghostR]) (.take 2 (.take 3 (.br 0 (.take 1 (.take 4 (.take 5 (.take 6 (.done))))) (.nil)))) (by kernel_rfl) ?_ ?_
    · refine xn1 ?_
      intro C hC
      refine cx_ble (i := 0) (j := 1) rfl rfl (by decide) (builder_string (hdT p ++ psT c p.ps p.ps.length) (by rw [List.length_append]; omega)) ?_
      have hlen : (hdT p ++ psT c p.ps p.ps.length).length ≤ 400000 := by rw [List.length_append]; omega
      refine xn ?_
      repeat' (first | exact Le.n | refine Lc.mk ?_ ?_)
      all_goals intros
      all_goals exact ⟨(), ⟨rfl, rfl, trivial⟩, rfl⟩
    · intro _
      exact xn0
end Go.Proofs.YtglapkioagenaaaGreatDoor
namespace Go.Proofs.YtglapkioagenaaaGreatDoor
open Go Go.RowKit
theorem encS_take1 {s : List UInt8} {i : Nat} (h : i < s.length) : encS (s.take (i + 1)) = encS (s.take i) ++ encF s[i] := by
  rw [List.take_succ_eq_append_getElem h, encS_app]
  simp [encS]
theorem u8_l {c : UInt8} {k : Nat} (hk : k < 256) (h : c.toNat = k) : c = UInt8.ofNat k := by
  rw [← h, UInt8.ofNat_toNat]
set_option maxRecDepth 20000
set_option maxHeartbeats 4000000
set_option linter.unusedSimpArgs false
set_option linter.unusedVariables false
attribute [local irreducible] AWp AOps byteAt SrcOK OrOk GloAll FnSpec
attribute [local irreducible] encF encS
theorem ref_Encode {G : Glo} (s : List UInt8) (hl : s.length ≤ 1000000) : FnIs Tryz.prog G 13 [.str s] (.str (encS s)) := by
  have hGL : GloAll G [] := gloAll_nil
  refine fn_x Tryz.func13 Tryz.call13 rfl rfl rfl rfl hGL ?_
  intro C hC
  repeat' (first
    | (conv => whnf); first
      | refine .w ?_ | refine .v ?_ | apply sc_true | apply sc_false
      | (first | apply sc_lt | apply sc_nlt | apply sc_eq | apply sc_neq | apply sc_nil | apply sc_nnil | apply sc_seq | apply sc_nseq) <;> (intro hb; try exact dd hb)
      | apply sc_not | apply sc_or | (apply sc_i <;> intro hb)
      | (apply bx_i; intro hbd) | (apply gt_i; assumption; exact rfl)
      | (apply cx_is; first | fail) | (apply cx_do (i := 0) rfl; first | fail)
      | (apply ab_i; intro bl) | (apply as_i; intro va vk vc hva) | (apply av_i; intro v) | (apply ac_i; intro bl cap hcap)
      | apply bo_l | (apply nx_i <;> intro hnx) | (apply Ia.hit; assumption) | (apply Ia.miss; assumption)
      | (apply rt_is; exact rfl) | exact rt_w | (apply iv; assumption)
      | apply dw_q mixed hC hGL (by kernel_rfl) | (apply cq; assumption; (first | fail); exact rfl))
  all_goals (try conv => whnf)
  refine lp hC hGL (fun i : Nat => [(3, .str (encS (s.take i))), (7, .own 0 (.slice (some ⟨bl, 0, none⟩) s.length cap)), (8, .int .i64 (s.length : Nat)), (9, .int .i64 (i : Nat))]) (fun _ => [.buf bl s cap]) (fun i => i ≤ s.length) (fun i => s.length - i) 0 (Nat.zero_le _) ⟨?_, rfl, rfl, rfl, trivial⟩ rfl ?_
  · show some (AVal.str []) = some (AVal.str (encS (s.take 0)))
    rw [List.take_zero, encS_nil]
  · intro i hi
    have e1 := (encS_len (s.take i)).2
    rw [List.length_take, Nat.min_eq_left hi] at e1
    by_cases hlt : i < s.length
    · have et := encS_take1 hlt
      have hb0 := ca_byteAt_ge hlt
      have hby := byteAt_lt s i
      rcases (show byteAt s i = 94 ∨ byteAt s i = 10 ∨ byteAt s i = 34 ∨ (byteAt s i ≠ 94 ∧ byteAt s i ≠ 10 ∧ byteAt s i ≠ 34) by omega) with hk | hk | hk | ⟨k1, k2, k3⟩
      · have he : encF s[i] = [94, 94] := by rw [u8_l (by decide) (hb0.symm.trans hk)]; exact enc_94
        repeat' (first
          | (conv => whnf); first
            | refine .w ?_ | refine .v ?_ | apply sc_true | apply sc_false
            | (first | apply sc_lt | apply sc_nlt | apply sc_eq | apply sc_neq | apply sc_nil | apply sc_nnil | apply sc_seq | apply sc_nseq) <;> (intro hb; try exact dd hb)
            | apply sc_not | apply sc_or | (apply sc_i <;> intro hb)
            | (apply bx_i; intro hbd) | (apply gt_i; assumption; exact rfl)
            | (apply cx_is; first | fail) | (apply cx_do (i := 0) rfl; first | fail)
            | (apply ab_i; intro bl) | (apply as_i; intro va vk vc hva) | (apply av_i; intro v) | (apply ac_i; intro bl cap hcap)
            | apply bo_l | (apply nx_i <;> intro hnx) | (apply Ia.hit; assumption) | (apply Ia.miss; assumption)
            | (apply rt_is; exact rfl) | exact rt_w | (apply iv; assumption)
            | apply dw_q mixed hC hGL (by kernel_rfl) | (apply cq; assumption; (first | fail); exact rfl))
        all_goals (try conv => whnf)
        refine nxt (i + 1) ?_ ?_ ⟨?_, rfl, rfl, rfl, trivial⟩ rfl
        · exact hlt
        · show s.length - (i + 1) < s.length - i; omega
        · rw [et, he]; rfl
      · have he : encF s[i] = [94, 110] := by rw [u8_l (by decide) (hb0.symm.trans hk)]; exact enc_10
        repeat' (first
          | (conv => whnf); first
            | refine .w ?_ | refine .v ?_ | apply sc_true | apply sc_false
            | (first | apply sc_lt | apply sc_nlt | apply sc_eq | apply sc_neq | apply sc_nil | apply sc_nnil | apply sc_seq | apply sc_nseq) <;> (intro hb; try exact dd hb)
            | apply sc_not | apply sc_or | (apply sc_i <;> intro hb)
            | (apply bx_i; intro hbd) | (apply gt_i; assumption; exact rfl)
            | (apply cx_is; first | fail) | (apply cx_do (i := 0) rfl; first | fail)
            | (apply ab_i; intro bl) | (apply as_i; intro va vk vc hva) | (apply av_i; intro v) | (apply ac_i; intro bl cap hcap)
            | apply bo_l | (apply nx_i <;> intro hnx) | (apply Ia.hit; assumption) | (apply Ia.miss; assumption)
            | (apply rt_is; exact rfl) | exact rt_w | (apply iv; assumption)
            | apply dw_q mixed hC hGL (by kernel_rfl) | (apply cq; assumption; (first | fail); exact rfl))
        all_goals (try conv => whnf)
        refine nxt (i + 1) ?_ ?_ ⟨?_, rfl, rfl, rfl, trivial⟩ rfl
        · exact hlt
        · show s.length - (i + 1) < s.length - i; omega
        · rw [et, he]; rfl
      · have he : encF s[i] = [94, 39] := by rw [u8_l (by decide) (hb0.symm.trans hk)]; exact enc_34
        repeat' (first
          | (conv => whnf); first
            | refine .w ?_ | refine .v ?_ | apply sc_true | apply sc_false
            | (first | apply sc_lt | apply sc_nlt | apply sc_eq | apply sc_neq | apply sc_nil | apply sc_nnil | apply sc_seq | apply sc_nseq) <;> (intro hb; try exact dd hb)
            | apply sc_not | apply sc_or | (apply sc_i <;> intro hb)
            | (apply bx_i; intro hbd) | (apply gt_i; assumption; exact rfl)
            | (apply cx_is; first | fail) | (apply cx_do (i := 0) rfl; first | fail)
            | (apply ab_i; intro bl) | (apply as_i; intro va vk vc hva) | (apply av_i; intro v) | (apply ac_i; intro bl cap hcap)
            | apply bo_l | (apply nx_i <;> intro hnx) | (apply Ia.hit; assumption) | (apply Ia.miss; assumption)
            | (apply rt_is; exact rfl) | exact rt_w | (apply iv; assumption)
            | apply dw_q mixed hC hGL (by kernel_rfl) | (apply cq; assumption; (first | fail); exact rfl))
        all_goals (try conv => whnf)
        refine nxt (i + 1) ?_ ?_ ⟨?_, rfl, rfl, rfl, trivial⟩ rfl
        · exact hlt
        · show s.length - (i + 1) < s.length - i; omega
        · rw [et, he]; rfl
      · have he : encF s[i] = bytesI [(byteAt s i : Int)] := by
          rw [enc_else (by rw [← hb0]; exact k1) (by rw [← hb0]; exact k2) (by rw [← hb0]; exact k3), hb0]
          simp [bytesI]
        repeat' (first
          | (conv => whnf); first
            | refine .w ?_ | refine .v ?_ | apply sc_true | apply sc_false
            | (first | apply sc_lt | apply sc_nlt | apply sc_eq | apply sc_neq | apply sc_nil | apply sc_nnil | apply sc_seq | apply sc_nseq) <;> (intro hb; try exact dd hb)
            | apply sc_not | apply sc_or | (apply sc_i <;> intro hb)
            | (apply bx_i; intro hbd) | (apply gt_i; assumption; exact rfl)
            | (apply cx_is; first | fail) | (apply cx_do (i := 0) rfl; first | fail)
            | (apply ab_i; intro bl) | (apply as_i; intro va vk vc hva) | (apply av_i; intro v) | (apply ac_i; intro bl cap hcap)
            | apply bo_l | (apply nx_i <;> intro hnx) | (apply Ia.hit; assumption) | (apply Ia.miss; assumption)
            | (apply rt_is; exact rfl) | exact rt_w | (apply iv; assumption)
            | apply dw_q mixed hC hGL (by kernel_rfl) | (apply cq; assumption; (first | fail); exact rfl))
        all_goals (try conv => whnf)
        refine op1_run hC hGL (rv_bytes [(byteAt s i : Int)] rfl (by intro v hv; simp only [List.mem_cons, List.not_mem_nil, or_false] at hv; omega) rfl rfl rfl rfl rfl rfl) rfl rfl ?_
        have hl9 : (bytesI [(byteAt s i : Int)]).length = 1 := rfl
        repeat' (first
          | (conv => whnf); first
            | refine .w ?_ | refine .v ?_ | apply sc_true | apply sc_false
            | (first | apply sc_lt | apply sc_nlt | apply sc_eq | apply sc_neq | apply sc_nil | apply sc_nnil | apply sc_seq | apply sc_nseq) <;> (intro hb; try exact dd hb)
            | apply sc_not | apply sc_or | (apply sc_i <;> intro hb)
            | (apply bx_i; intro hbd) | (apply gt_i; assumption; exact rfl)
            | (apply cx_is; first | fail) | (apply cx_do (i := 0) rfl; first | fail)
            | (apply ab_i; intro bl) | (apply as_i; intro va vk vc hva) | (apply av_i; intro v) | (apply ac_i; intro bl cap hcap)
            | apply bo_l | (apply nx_i <;> intro hnx) | (apply Ia.hit; assumption) | (apply Ia.miss; assumption)
            | (apply rt_is; exact rfl) | exact rt_w | (apply iv; assumption)
            | apply dw_q mixed hC hGL (by kernel_rfl) | (apply cq; assumption; (first | fail); exact rfl))
        all_goals (try conv => whnf)
        refine nxt (i + 1) ?_ ?_ ⟨?_, rfl, rfl, rfl, trivial⟩ rfl
        · exact hlt
        · show s.length - (i + 1) < s.length - i; omega
        · rw [et, he]; rfl
    · have h9 : encS (s.take i) = encS s := by rw [List.take_of_length_le (by omega)]
      repeat' (first
        | (conv => whnf); first
          | refine .w ?_ | refine .v ?_ | apply sc_true | apply sc_false
          | (first | apply sc_lt | apply sc_nlt | apply sc_eq | apply sc_neq | apply sc_nil | apply sc_nnil | apply sc_seq | apply sc_nseq) <;> (intro hb; try exact dd hb)
          | apply sc_not | apply sc_or | (apply sc_i <;> intro hb)
          | (apply bx_i; intro hbd) | (apply gt_i; assumption; exact rfl)
          | (apply cx_is; first | fail) | (apply cx_do (i := 0) rfl; first | fail)
          | (apply ab_i; intro bl) | (apply as_i; intro va vk vc hva) | (apply av_i; intro v) | (apply ac_i; intro bl cap hcap)
          | apply bo_l | (apply nx_i <;> intro hnx) | (apply Ia.hit; assumption) | (apply Ia.miss; assumption)
          | (apply rt_is; exact rfl) | exact rt_w | (apply iv; assumption)
          | apply dw_q mixed hC hGL (by kernel_rfl) | (apply cq; assumption; (first | fail); exact rfl))
      all_goals (try conv => whnf)
      apply rt_is
      rw [h9]
end Go.Proofs.YtglapkioagenaaaGreatDoor
namespace Go.Proofs.YtglapkioagenaaaGreatDoor
open Go Go.RowKit
theorem idxF_has (c : UInt8) : ∀ (l : List UInt8) (k : Nat), (0 ≤ idxF (c.toNat : Int) l k ∧ c ∈ l) ∨ (idxF (c.toNat : Int) l k < 0 ∧ c ∉ l)
  | [], k => .inr ⟨by simp [idxF], by simp⟩
  | x :: t, k => by
    unfold idxF
    by_cases h : (x.toNat : Int) = c.toNat
    · have : x = c := UInt8.toNat_inj.1 (by omega)
      rw [if_pos h]
      exact .inl ⟨by omega, by simp [this]⟩
    · have hne : c ≠ x := fun e => h (by rw [e])
      rw [if_neg h]
      rcases idxF_has c t (k + 1) with ⟨h1, h2⟩ | ⟨h1, h2⟩
      · exact .inl ⟨h1, List.mem_cons_of_mem _ h2⟩
      · exact .inr ⟨h1, fun h3 => (List.mem_cons.1 h3).elim hne h2⟩
theorem idxB_has {s : List UInt8} {c : UInt8} : 0 ≤ idxB s (c.toNat : Int) ↔ c ∈ s := by
  unfold idxB
  rcases idxF_has c s 0 with ⟨h1, h2⟩ | ⟨h1, h2⟩
  · exact ⟨fun _ => h2, fun _ => h1⟩
  · exact ⟨fun h => by omega, fun h => absurd h h2⟩
theorem index_has {s : List UInt8} {c : UInt8} : 0 ≤ Lib.indexByte s c ↔ c ∈ s := by
  induction s with
  | nil => simp [Lib.indexByte]
  | cons x t ih =>
    have hge := Lib.indexByte_ge t c
    unfold Lib.indexByte
    by_cases h : (x == c) = true
    · rw [if_pos h]
      have := beq_iff_eq.1 h
      simp [this]
    · rw [if_neg h]
      have hn : c ≠ x := fun e => h (beq_iff_eq.2 e.symm)
      simp only [List.mem_cons, hn, false_or]
      rw [← ih]
      split
      · rename_i h2
        have := beq_iff_eq.1 h2
        omega
      · rename_i h2
        have : Lib.indexByte t c ≠ -1 := fun e => h2 (beq_iff_eq.2 e)
        omega
set_option maxRecDepth 20000
set_option maxHeartbeats 4000000
set_option linter.unusedSimpArgs false
set_option linter.unusedVariables false
attribute [local irreducible] AWp AOps byteAt SrcOK OrOk GloAll FnSpec
attribute [local irreducible] hdC hdB badI isS mayV encS idxB
theorem contains_quote {G : Glo} (s : List UInt8) : FnIs Tryz.prog G 27 [.str s, .str [34]] (.bool (decide (0 ≤ idxB s 34))) := by
  refine fnis_of_calls rfl Tryz.call27 ?_
  rintro R args ⟨x, t, e, hx, y, t', e', hy, rfl⟩ w hG hs
  obtain rfl := rel_str.1 hx
  obtain rfl := rel_str.1 hy
  subst e'
  obtain rfl := arr_of e
  refine (Tryz.strings_Contains_one ⟨s.toArray⟩ 34 w).mono ?_
  rintro e w' ⟨rfl, rfl⟩
  have e : decide (0 ≤ Lib.indexByte s 34) = decide (0 ≤ idxB s 34) := by
    have h1 := index_has (s := s) (c := 34)
    have h2 := idxB_has (s := s) (c := 34)
    have h3 : ((34 : UInt8).toNat : Int) = 34 := rfl
    rw [h3] at h2
    simp only [h1, h2]
  exact ⟨by simp [AVal.conc, e], Below.refl _ _⟩
theorem ref_clean {G : Glo} (hU : GloAll G utfTy) (s : List UInt8) (hl : s.length ≤ 9223372036854775807) : FnIs Tryz.prog G 26 [.str s] (.bool (hdB false s)) := by
  have h1 := ref_Bad hU s hl
  have h2 := ref_firstOf (G := G) s 41 (hdC false) hl (fun c _ => ref_control c)
  have hGL : GloAll G [] := gloAll_nil
  refine fn_x Tryz.func26 Tryz.call26 rfl rfl rfl rfl hGL ?_
  intro C hC
  refine xw ?_; refine ⟨fun h => ?_, fun h => ?_, .n⟩
  all_goals (apply rt_is; refine congrArg AVal.bool ?_; unfold hdB; rw [Bool.eq_iff_iff]; simp only [ltB_t, decide_eq_true_eq, reduceCtorEq, false_iff]; omega)
theorem ref_LineHolds {G : Glo} (hU : GloAll G utfTy) (s : List UInt8) (c : Bool) (hl : s.length ≤ 1000000) : FnIs Tryz.prog G 10 [.str s, .bool c] (.bool (mayV c s)) := by
  cases c with
  | true =>
    have hE := ref_Encode (G := G) s hl
    have hC1 := ref_clean hU (encS s) (by have := (encS_len s).2; omega)
    have hq1 := contains_quote (G := G) (encS s)
    have e : mayV true s = (hdB false (encS s) && decide (idxB (encS s) 34 < 0)) := by unfold mayV eIf; rfl
    rw [e]
    have hGL : GloAll G [] := gloAll_nil
    refine fn_x Tryz.func10 Tryz.call10 rfl rfl rfl rfl hGL ?_
    intro C hC
    refine xw ?_
    repeat' (first | exact Le.n | refine Lc.mk ?_ ?_)
    all_goals intros
    all_goals (apply rt_is; refine congrArg AVal.bool ?_; rw [show hdB false (encS s) = _ by assumption])
    all_goals (rw [Bool.eq_iff_iff]; simp)
  | false =>
    have hC1 := ref_clean hU s (by omega)
    have hq1 := contains_quote (G := G) s
    have e : mayV false s = (hdB false s && decide (idxB s 34 < 0)) := by unfold mayV eIf; rfl
    rw [e]
    have hGL : GloAll G [] := gloAll_nil
    refine fn_x Tryz.func10 Tryz.call10 rfl rfl rfl rfl hGL ?_
    intro C hC
    refine xw ?_
    repeat' (first | exact Le.n | refine Lc.mk ?_ ?_)
    all_goals intros
    all_goals (apply rt_is; refine congrArg AVal.bool ?_; rw [show hdB false s = _ by assumption])
    all_goals (rw [Bool.eq_iff_iff]; simp)
theorem ref_LineRight {G : Glo} (hU : GloAll G utfTy) (p : Ln) (c : Bool) (ho : p.OK 2500) : FnIs Tryz.prog G 11 [p.A, .bool c] (.agg [.int .i64 (p.E c).e, .int .i64 (p.E c).p]) := by
  have n1 := ref_Is (G := G) p.n (by have := ho.n; omega)
  have n2 := ref_Is (G := G) p.g (by have := ho.g; omega)
  have hv := ref_clean hU p.v (by have := ho.v; omega)
  have hps := ho.ps
  have b5 := ref_Bare (G := G) 5
  have b4 := ref_Bare (G := G) 4
  have b3 := ref_Bare (G := G) 3
  have b0 := ref_Good (G := G)
  have hGL : GloAll G [] := gloAll_nil
  refine fn_x Tryz.func11 Tryz.call11 rfl rfl rfl rfl hGL ?_
  intro C hC
  refine xw ?_
  repeat' (first | exact Le.n | refine Lc.mk ?_ ?_)
  all_goals intros
  all_goals try (apply rt_is; first | (rw [Ln.E_5 (.inl (by assumption))]; rfl) | (rw [Ln.E_5 (.inr ⟨by assumption, by assumption⟩)]; rfl) | (rw [Ln.E_4 (by assumption) (.inl (by assumption)) (by omega)]; rfl) | (rw [Ln.E_4 (by assumption) (.inr (by assumption)) (by omega)]; rfl); done)
  all_goals
    have q1 : isS p.n = true := by assumption
    have q2 : p.g.length = 0 ∨ isS p.g = true := by first | exact .inl (by assumption) | exact .inr (by assumption)
    have q3 : p.ps.length ≤ 20 := by omega
    refine lp hC hGL (fun k : Nat => [(1, .bool c), (2, .rop [.str p.g, .str p.n, .list 2 p.ps.length (prF p.ps), .str p.v] 0), (4, .own 0 (.pointer (some ⟨_, 0, none⟩))), (31, .list 2 p.ps.length (prF p.ps)), (32, .int .i64 (p.ps.length : Nat)), (33, .int .i64 (k : Nat))]) (fun _ => [.cells _ (some 28) [.int .i64 0, .int .i64 0]]) (fun k => k ≤ p.ps.length ∧ ∀ j, j < k → prE c (p.ps.getD j Pr.z) = 0) (fun k => p.ps.length - k) 0 ?_ env_w rfl ?_
    · exact ⟨Nat.zero_le _, fun j h => absurd h (Nat.not_lt_zero _)⟩
    rintro k ⟨h1, h2⟩
    have hq := ho.q k
    have n3 := ref_Is (G := G) (p.ps.getD k Pr.z).n (by omega)
    refine xw ?_
    repeat' (first | exact Le.n | refine Lc.mk ?_ ?_)
    all_goals intros
    all_goals try (apply rt_is; first | (rw [Ln.E_3 q1 q2 q3 (by omega) h2 (by assumption)]; rfl) | (rw [Ln.E_0 q1 q2 q3 (by omega) h2 (by assumption)]; rfl); done)
    all_goals try (apply rt_is; first | (rw [Ln.E_at q1 q2 q3 (by omega) h2 (by rw [prE_5 (by assumption)]; decide), prE_5 (by assumption)]; rfl) | (rw [Ln.E_at q1 q2 q3 (by omega) h2 (by rw [prE_8 (by assumption) (by omega)]; decide), prE_8 (by assumption) (by omega)]; rfl); done)
    refine lp hC hGL (fun j : Nat => [(1, .bool c), (2, .rop [.str p.g, .str p.n, .list 2 p.ps.length (prF p.ps), .str p.v] 0), (4, .own 0 (.pointer (some ⟨_, 0, none⟩))), (5, .int .i64 (k : Nat)), (31, .list 2 p.ps.length (prF p.ps)), (32, .int .i64 (p.ps.length : Nat)), (33, .int .i64 (k : Nat)), (51, .list 1 (p.ps.getD k Pr.z).vs.length (strsF (p.ps.getD k Pr.z).vs)), (52, .int .i64 ((p.ps.getD k Pr.z).vs.length : Nat)), (53, .int .i64 (j : Nat))]) (fun _ => [.cells _ (some 28) [.int .i64 0, .int .i64 0], .cells _ (some 41) [.str (p.ps.getD k Pr.z).n, .list 1 (p.ps.getD k Pr.z).vs.length (strsF (p.ps.getD k Pr.z).vs)]]) (fun j => j ≤ (p.ps.getD k Pr.z).vs.length ∧ mayJ c (p.ps.getD k Pr.z).vs j) (fun j => (p.ps.getD k Pr.z).vs.length - j) 0 ?_ env_w rfl ?_
    · exact ⟨Nat.zero_le _, fun i hi => absurd hi (Nat.not_lt_zero _)⟩
    rintro j ⟨g1, g2⟩
    have hj := ref_LineHolds hU ((p.ps.getD k Pr.z).vs.getD j []) c (by have := lens_at (l := (p.ps.getD k Pr.z).vs) (k := j); omega)
    refine xw ?_
    repeat' (first | exact Le.n | refine Lc.mk ?_ ?_)
    all_goals intros
    all_goals first
      | exact nxt (j + 1) ⟨by omega, mayJ_succ g2 (by assumption)⟩ (by omega) env_w rfl
      | exact nxs (k + 1) ⟨by omega, below_next h2 (prE_0 (by assumption) (by omega) (mayJ_all (by omega) g2))⟩ (by omega) env_w sub_w
      | (apply rt_is
         have e1 := prE_3 (c := c) (q := p.ps.getD k Pr.z) (by assumption) (by omega) (mayJ_not (j := j) (by omega) (by assumption))
         rw [Ln.E_at q1 q2 q3 (by omega) h2 (by rw [e1]; decide), e1]
         rfl)
end Go.Proofs.YtglapkioagenaaaGreatDoor
namespace Go.Proofs.YtglapkioagenaaaGreatDoor
open Go Go.RowKit
set_option maxRecDepth 20000
set_option maxHeartbeats 4000000
set_option linter.unusedSimpArgs false
set_option linter.unusedVariables false
attribute [local irreducible] AWp AOps byteAt SrcOK OrOk GloAll FnSpec
attribute [local irreducible] DSpec Lv AWpD
theorem ref_Fault_Is {G : Glo} (e p : Int) : FnIs Tryz.prog G 12 [.agg [.int .i64 e, .int .i64 p]] (.bool (eqB e 0)) := by
  have hGL : GloAll G [] := gloAll_nil
  refine fn_x Tryz.func12 Tryz.call12 rfl rfl rfl rfl hGL ?_
  intro C hC
  repeat' (first
    | (conv => whnf); first
      | refine .w ?_ | refine .v ?_ | apply sc_true | apply sc_false
      | (first | apply sc_lt | apply sc_nlt | apply sc_eq | apply sc_neq | apply sc_nil | apply sc_nnil | apply sc_seq | apply sc_nseq) <;> (intro hb; try exact dd hb)
      | apply sc_not | apply sc_or | (apply sc_i <;> intro hb)
      | (apply bx_i; intro hbd) | (apply gt_i; assumption; exact rfl)
      | (apply cx_is; first | fail) | (apply cx_do (i := 0) rfl; first | fail)
      | (apply ab_i; intro bl) | (apply as_i; intro va vk vc hva) | (apply av_i; intro v) | (apply ac_i; intro bl cap hcap)
      | apply bo_l | (apply nx_i <;> intro hnx) | (apply Ia.hit; assumption) | (apply Ia.miss; assumption)
      | (apply rt_is; exact rfl) | exact rt_w | (apply iv; assumption)
      | apply dw_q mixed hC hGL (by kernel_rfl) | (apply cq; assumption; (first | fail); exact rfl))
  all_goals (try conv => whnf)
  all_goals skip
end Go.Proofs.YtglapkioagenaaaGreatDoor
namespace Go.Proofs.YtglapkioagenaaaGreatDoor
open Go Go.RowKit
theorem firE_ne {c : Bool} : ∀ {l : List Pr} {i : Nat}, (firE c l i).e = 0 → firE c l i = .none
  | [], _, _ => rfl
  | x :: l, i, h => by
    simp only [firE] at h ⊢
    split at h
    · rename_i h0
      rw [if_pos h0]
      exact firE_ne h
    · rename_i h0
      exact absurd h h0
theorem Ln.E_zero {c : Bool} {p : Ln} (h : (p.E c).e = 0) : p.E c = .none := by
  unfold Ln.E at h ⊢
  split at h
  · cases h
  · rename_i h1
    rw [if_neg h1]
    split at h
    · cases h
    · rename_i h2
      rw [if_neg h2]
      have := firE_ne (c := c) (l := p.ps) (i := 0)
      cases hf : firE c p.ps 0 with
      | none =>
        rw [hf] at h
        simp only at h ⊢
        split at h
        · rename_i h3
          rw [if_pos h3]
        · cases h
      | errno e =>
        rw [hf] at h this
        exact absurd (this h) (by simp)
      | «at» e q =>
        rw [hf] at h this
        exact absurd (this h) (by simp)
set_option maxRecDepth 20000
set_option maxHeartbeats 4000000
set_option linter.unusedSimpArgs false
set_option linter.unusedVariables false
attribute [local irreducible] AWp AOps byteAt SrcOK OrOk GloAll FnSpec
attribute [local irreducible] hdC hdB badI isS mayV encS quoS psT hdT eIf quoC
theorem ref_quo {G : Glo} (c : Int) : FnIs Tryz.prog G 15 [.int .u8 c] (.bool (quoC c)) := by
  have hGL : GloAll G [] := gloAll_nil
  refine fn_x Tryz.func15 Tryz.call15 rfl rfl rfl rfl hGL ?_
  intro C hC
  refine xw ?_
  repeat' (first | exact Le.n | refine Lc.mk ?_ ?_)
  all_goals intros
  all_goals (apply rt_is; refine congrArg AVal.bool ?_)
  all_goals (unfold quoC; rw [Bool.eq_iff_iff]; simp only [eqB_t, decide_eq_true_eq, reduceCtorEq, true_iff, false_iff]; omega)
theorem take_quo {c : Bool} {vs : List (List UInt8)} {j : Nat} (hj : j < vs.length) : (vs.map (quoS c)).take (j + 1) = (vs.map (quoS c)).take j ++ [quoS c (vs.getD j [])] := by
  rw [List.take_succ_eq_append_getElem (by simpa using hj), List.getElem_map, List.getD_eq_getElem?_getD, List.getElem?_eq_getElem hj]
  rfl
theorem ref_LinePrint {G : Glo} (hU : GloAll G utfTy) (p : Ln) (c : Bool) (ho : p.OK 2500) : FnIs Tryz.prog G 5 [p.A, .bool c] (.tuple [.str (p.T c), .agg [.int .i64 (p.E c).e, .int .i64 (p.E c).p]]) := by
  have h0 := ref_LineRight hU p c ho
  have hI := ref_Fault_Is (G := G) (p.E c).e (p.E c).p
  by_cases hz : (p.E c).e = 0
  case neg =>
    rw [eqB_f.2 hz] at hI
    rw [show p.T c = [] by
      unfold Ln.T
      split
      · rename_i hq; rw [hq] at hz; exact absurd rfl hz
      · rfl]
    have hGL : GloAll G [] := gloAll_nil
    refine fn_x Tryz.func5 Tryz.call5 rfl rfl rfl rfl hGL ?_
    intro C hC
    refine xn1 ?_
    intro b1 b2
    refine dw_p mixed hC hGL false (fun (_ : Unit) => [(4, .str []), (5, .own 0 (.pointer (some ⟨b1, 0, none⟩)))]) (fun _ => [.cells b1 (some 28) [.int .i64 (p.E c).e, .int .i64 (p.E c).p], .cells b2 (some 28) [.int .i64 (p.E c).e, .int .i64 (p.E c).p]]) (.br 0 (.take 1 (.br 2 (.done) (.nil))) (.br 1 (.br 0 (.br 2 (.done) (.nil)) (.nil)) (.nil))) (by kernel_rfl) ?_ ?_
    · refine xn ?_
      repeat' (first | exact Le.n | refine Lc.mk ?_ ?_)
      all_goals intros
      all_goals exact ⟨(), ⟨rfl, rfl, trivial⟩, rfl⟩
    · intro _
      exact xn0
  have hq := Ln.E_zero hz
  rw [hq] at h0 hI
  rw [hq]
  simp only [Err.e, Err.p] at h0 hI ⊢
  rw [eqB_t.2 rfl] at hI
  rw [show p.T c = p.txt c by unfold Ln.T; rw [hq], txt_psT]
  have hb0 := ref_Good (G := G)
  have i1 : p.ps.length ≤ 20 := by
    have h := hq
    unfold Ln.E at h
    split at h
    · cases h
    · split at h
      · cases h
      · omega
  have i2 : ∀ k, k < p.ps.length → (p.ps.getD k Pr.z).vs.length ≠ 0 ∨ True := fun _ _ => .inr trivial
  have o1 := ho.g
  have o2 := ho.n
  have o3 := ho.v
  have o4 : ∀ k, k ≤ p.ps.length → (psT c p.ps k).length ≤ 20 * 15002 := fun k hk => by
    have h1 := psT_len (c := c) ho.q k hk
    rw [show 2 + 6 * 2500 = 15002 by decide] at h1
    have h2 := Nat.mul_le_mul_right 15002 (show k ≤ 20 by omega)
    exact Nat.le_trans h1 h2
  have hd1 : p.g.length ≠ 0 → p.g ++ [46] ++ p.n = hdT p := fun h => by unfold hdT; rw [if_neg h]
  have hd0 : p.g.length = 0 → p.n = hdT p := fun h => by unfold hdT; rw [if_pos h]
  have hdl : (hdT p).length ≤ 5001 := by
    unfold hdT
    split
    · omega
    · simp only [List.length_append, List.length_cons, List.length_nil]; omega
  have hGL : GloAll G [] := gloAll_nil
  refine fn_a Tryz.func5 Tryz.call5 rfl rfl rfl rfl ?_
  intro C hC
  refine cuty hC hGL (fun bl : Nat => [(1, .bool c), (2, .rop [.str p.g, .str p.n, .list 2 p.ps.length (prF p.ps), .str p.v] 0), (5, .own 0 (.pointer (some ⟨bl, 0, none⟩)))]) (fun bl => [.cells bl (some 28) [.int .i64 0, .int .i64 0]]) (fun _ => True) ?_ fun b1 _ => ?_
  · refine xw1 ?_
    intro bl
    exact cy bl trivial
  refine cuty hC hGL (fun bl : Nat => [(1, .bool c), (2, .rop [.str p.g, .str p.n, .list 2 p.ps.length (prF p.ps), .str p.v] 0), (5, .own 0 (.pointer (some ⟨b1, 0, none⟩)))]) (fun bl => [.cells b1 (some 28) [.int .i64 0, .int .i64 0], .cells bl (some 28) [.int .i64 0, .int .i64 (-1)]]) (fun _ => True) ?_ fun b2 _ => ?_
  · refine xw1 ?_
    intro bl
    exact cy bl trivial
  refine cut hC hGL [(1, .bool c), (2, .rop [.str p.g, .str p.n, .list 2 p.ps.length (prF p.ps), .str p.v] 0), (5, .own 0 (.pointer (some ⟨b1, 0, none⟩))), (7, .str p.n)] [.cells b1 (some 28) [.int .i64 0, .int .i64 0], .cells b2 (some 28) [.int .i64 0, .int .i64 (-1)]] True ?_ fun _ => ?_
  · exact xw0
  refine cuty hC hGL (fun q : List UInt8 => [(1, .bool c), (2, .rop [.str p.g, .str p.n, .list 2 p.ps.length (prF p.ps), .str p.v] 0), (5, .own 0 (.pointer (some ⟨b1, 0, none⟩))), (7, .str q)]) (fun _ => [.cells b1 (some 28) [.int .i64 0, .int .i64 0], .cells b2 (some 28) [.int .i64 0, .int .i64 (-1)]]) (fun q => q = hdT p ++ psT c p.ps 0) ?_ fun q hq => ?_
  · rw [show psT c p.ps 0 = [] by unfold psT; rfl, List.append_nil]
    refine xn ?_
    repeat' (first | exact Le.n | refine Lc.mk ?_ ?_)
    all_goals intros
    all_goals first
      | exact cy _ (hd1 (by assumption))
      | exact cy _ (hd0 (by assumption))
  subst hq
  refine aw_code hC hGL ?_
  refine xn1 ?_
  refine lp hC hGL (fun k : Nat => [(1, .bool c), (2, .rop [.str p.g, .str p.n, .list 2 p.ps.length (prF p.ps), .str p.v] 0), (5, .own 0 (.pointer (some ⟨b1, 0, none⟩))), (7, .str (hdT p ++ psT c p.ps k)), (31, .list 2 p.ps.length (prF p.ps)), (32, .int .i64 (p.ps.length : Nat)), (33, .int .i64 (k : Nat))]) (fun _ => [.cells b1 (some 28) [.int .i64 0, .int .i64 0], .cells b2 (some 28) [.int .i64 0, .int .i64 (-1)]]) (fun k => k ≤ p.ps.length) (fun k => p.ps.length - k) 0 ?_ env_w rfl ?_
  · exact Nat.zero_le _
  intro k h1
  have ol := o4 k h1
  have hqk := ho.q k
  refine xn ?_
  repeat' (first | exact Le.n | refine Lc.mk ?_ ?_)
  all_goals intros
  · rename_i b9 hkl
    have hkn : k < p.ps.length := by omega
    have hsucc := psT_succ (c := c) hkn
    have hpl := prT_len c (p.ps.getD k Pr.z)
    have hjl : (Lib.join ((p.ps.getD k Pr.z).vs.map (quoS c)) [44]).length ≤ 100000 := by
      have h2 := join_len ((p.ps.getD k Pr.z).vs.map (quoS c))
      have h3 := lens_quo c (p.ps.getD k Pr.z).vs
      rw [List.length_map] at h2
      omega
    refine lp_row 10 1 rfl ?_
    refine lp hC hGL (fun y : List (List UInt8) × Value => [(1, .bool c), (2, .rop [.str p.g, .str p.n, .list 2 p.ps.length (prF p.ps), .str p.v] 0), (5, .own 0 (.pointer (some ⟨b1, 0, none⟩))), (7, .str (hdT p ++ psT c p.ps k)), (9, .own 2 (.pointer (some ⟨b9, 0, none⟩))), (10, .own 3 y.2), (31, .list 2 p.ps.length (prF p.ps)), (32, .int .i64 (p.ps.length : Nat)), (33, .int .i64 (k : Nat)), (38, .list 1 (p.ps.getD k Pr.z).vs.length (strsF (p.ps.getD k Pr.z).vs)), (39, .int .i64 ((p.ps.getD k Pr.z).vs.length : Nat)), (40, .int .i64 (y.1.length : Nat))]) (fun y => [.cells b1 (some 28) [.int .i64 0, .int .i64 0], .cells b2 (some 28) [.int .i64 0, .int .i64 (-1)], .cells b9 (some 41) [.str (p.ps.getD k Pr.z).n, .list 1 (p.ps.getD k Pr.z).vs.length (strsF (p.ps.getD k Pr.z).vs)], .row y.2 none 1 y.1.length (strsC y.1)]) (fun y => y.1.length ≤ (p.ps.getD k Pr.z).vs.length ∧ y.1 = ((p.ps.getD k Pr.z).vs.map (quoS c)).take y.1.length) (fun y => (p.ps.getD k Pr.z).vs.length - y.1.length) ([], .slice none 0 0) ?_ env_w rfl ?_
    · exact ⟨Nat.zero_le _, rfl⟩
    rintro ⟨l, v⟩ ⟨g1, g2⟩
    dsimp only at g1 g2
    have hj1 := lens_at (l := (p.ps.getD k Pr.z).vs) (k := l.length)
    have hel := eIf_len c ((p.ps.getD k Pr.z).vs.getD l.length [])
    have hE := ref_Encode (G := G) ((p.ps.getD k Pr.z).vs.getD l.length []) (by omega)
    have hQ := ref_firstOf (G := G) (eIf c ((p.ps.getD k Pr.z).vs.getD l.length [])) 15 quoC (by omega) (fun c _ => ref_quo c)
    have hY : 0 ≤ fstB quoC (eIf c ((p.ps.getD k Pr.z).vs.getD l.length [])) → quoS c ((p.ps.getD k Pr.z).vs.getD l.length []) = 34 :: eIf c ((p.ps.getD k Pr.z).vs.getD l.length []) ++ [34] := fun h => by unfold quoS; rw [if_neg (by omega)]
    have hN : fstB quoC (eIf c ((p.ps.getD k Pr.z).vs.getD l.length [])) < 0 → quoS c ((p.ps.getD k Pr.z).vs.getD l.length []) = eIf c ((p.ps.getD k Pr.z).vs.getD l.length []) := fun h => by unfold quoS; rw [if_pos h]
    have hT := fun (h : l.length < (p.ps.getD k Pr.z).vs.length) => take_quo (c := c) h
    have hx1 : eIf true ((p.ps.getD k Pr.z).vs.getD l.length []) = encS ((p.ps.getD k Pr.z).vs.getD l.length []) := by unfold eIf; rfl
    have hx2 : eIf false ((p.ps.getD k Pr.z).vs.getD l.length []) = (p.ps.getD k Pr.z).vs.getD l.length [] := by unfold eIf; rfl
    have fin : (p.ps.getD k Pr.z).vs.length ≤ l.length → l = (p.ps.getD k Pr.z).vs.map (quoS c) := fun h => by rw [g2, List.take_of_length_le (by rw [List.length_map]; omega)]
    have go : ∀ (w : List UInt8), w = quoS c ((p.ps.getD k Pr.z).vs.getD l.length []) → l.length < (p.ps.getD k Pr.z).vs.length → (l ++ [w]).length ≤ (p.ps.getD k Pr.z).vs.length ∧ l ++ [w] = ((p.ps.getD k Pr.z).vs.map (quoS c)).take (l ++ [w]).length := fun w hw h => by
      rw [List.length_append, List.length_singleton, hT h, ← g2, hw]
      exact ⟨by omega, rfl⟩
    cases c
    all_goals
      simp only [hx1, hx2] at hQ hY hN hel
      refine xn ?_
      repeat' (first | exact Le.n | refine Lc.mk ?_ ?_)
      all_goals intros
      all_goals try dsimp only at *
    all_goals first
      | (refine nxt (l ++ [_], .slice _ _ _) (go _ (hY (by assumption)).symm (by omega)) (by dsimp only; rw [List.length_append, List.length_singleton]; omega) ⟨rfl, rfl, rfl, rfl, rfl, rfl, rfl, rfl, rfl, rfl, rfl, ?_, trivial⟩ ?_
         · show some (AVal.int .i64 (((l.length : Nat) : Int) + 1)) = some (AVal.int .i64 ((l ++ [_]).length : Nat))
           rw [List.length_append]; rfl
         · dsimp only
           rw [← strsC_snoc, List.length_append]
           rfl)
      | (refine nxt (l ++ [_], .slice _ _ _) (go _ (hN (by assumption)).symm (by omega)) (by dsimp only; rw [List.length_append, List.length_singleton]; omega) ⟨rfl, rfl, rfl, rfl, rfl, rfl, rfl, rfl, rfl, rfl, rfl, ?_, trivial⟩ ?_
         · show some (AVal.int .i64 (((l.length : Nat) : Int) + 1)) = some (AVal.int .i64 ((l ++ [_]).length : Nat))
           rw [List.length_append]; rfl
         · dsimp only
           rw [← strsC_snoc, List.length_append]
           rfl)
      | skip
    · obtain rfl := fin (by omega)
      refine dw_p mixed hC hGL true (fun (_ : Unit) => [(1, .bool false), (2, .rop [.str p.g, .str p.n, .list 2 p.ps.length (prF p.ps), .str p.v] 0), (5, .own 0 (.pointer (some ⟨b1, 0, none⟩))), (7, .str (hdT p ++ psT false p.ps (k + 1))), (31, .list 2 p.ps.length (prF p.ps)), (32, .int .i64 (p.ps.length : Nat)), (33, .int .i64 (k : Nat))]) (fun _ => [.cells b1 (some 28) [.int .i64 0, .int .i64 0], .cells b2 (some 28) [.int .i64 0, .int .i64 (-1)], .cells b9 (some 41) [.str (p.ps.getD k Pr.z).n, .list 1 (p.ps.getD k Pr.z).vs.length (strsF (p.ps.getD k Pr.z).vs)], .row v none 1 ((p.ps.getD k Pr.z).vs.map (quoS false)).length (strsC ((p.ps.getD k Pr.z).vs.map (quoS false)))]) (.take 0 (.take 1 (.take 2 (.take 3 (.take 4 (.take 5 (.br 6 (.take 7 (.take 8 (.take 9 (.done)))) (.nil)))))))) (by kernel_rfl) ?_ ?_
      · refine xn1 ?_
        intro C hC
        refine cx_do (i := 3) rfl (strings_Join_row ((p.ps.getD k Pr.z).vs.map (quoS false)) [44] v (by rw [List.length_map]; omega) (by omega)) ?_
        have hlen : (hdT p ++ psT false p.ps k).length ≤ 400000 := by rw [List.length_append]; omega
        refine xn ?_
        repeat' (first | exact Le.n | refine Lc.mk ?_ ?_)
        all_goals intros
        all_goals
          refine ⟨(), ⟨rfl, rfl, rfl, ?_, rfl, rfl, rfl, trivial⟩, rfl⟩
          rw [hsucc]
          unfold prT
          simp only [List.append_assoc, List.cons_append, List.nil_append]
          rfl
      · intro _
        refine xn1 ?_
        exact nxs (k + 1) (by omega) (by omega) env_w sub_w
    · obtain rfl := fin (by omega)
      refine dw_p mixed hC hGL true (fun (_ : Unit) => [(1, .bool true), (2, .rop [.str p.g, .str p.n, .list 2 p.ps.length (prF p.ps), .str p.v] 0), (5, .own 0 (.pointer (some ⟨b1, 0, none⟩))), (7, .str (hdT p ++ psT true p.ps (k + 1))), (31, .list 2 p.ps.length (prF p.ps)), (32, .int .i64 (p.ps.length : Nat)), (33, .int .i64 (k : Nat))]) (fun _ => [.cells b1 (some 28) [.int .i64 0, .int .i64 0], .cells b2 (some 28) [.int .i64 0, .int .i64 (-1)], .cells b9 (some 41) [.str (p.ps.getD k Pr.z).n, .list 1 (p.ps.getD k Pr.z).vs.length (strsF (p.ps.getD k Pr.z).vs)], .row v none 1 ((p.ps.getD k Pr.z).vs.map (quoS true)).length (strsC ((p.ps.getD k Pr.z).vs.map (quoS true)))]) (.take 0 (.take 1 (.take 2 (.take 3 (.take 4 (.take 5 (.br 6 (.take 7 (.take 8 (.take 9 (.done)))) (.nil)))))))) (by kernel_rfl) ?_ ?_
      · refine xn1 ?_
        intro C hC
        refine cx_do (i := 3) rfl (strings_Join_row ((p.ps.getD k Pr.z).vs.map (quoS true)) [44] v (by rw [List.length_map]; omega) (by omega)) ?_
        have hlen : (hdT p ++ psT true p.ps k).length ≤ 400000 := by rw [List.length_append]; omega
        refine xn ?_
        repeat' (first | exact Le.n | refine Lc.mk ?_ ?_)
        all_goals intros
        all_goals
          refine ⟨(), ⟨rfl, rfl, rfl, ?_, rfl, rfl, rfl, trivial⟩, rfl⟩
          rw [hsucc]
          unfold prT
          simp only [List.append_assoc, List.cons_append, List.nil_append]
          rfl
      · intro _
        refine xn1 ?_
        exact nxs (k + 1) (by omega) (by omega) env_w sub_w
  · have hkk : k = p.ps.length := by omega
    subst hkk
    refine dw_p mixed hC hGL false (fun (_ : Unit) => [(4, .str (hdT p ++ psT c p.ps p.ps.length ++ [58] ++ p.v)), (5, .own 0 (.pointer (some ⟨b1, 0, none⟩)))]) (fun _ => [.cells b1 (some 28) [.int .i64 0, .int .i64 (-1)], .cells b2 (some 28) [.int .i64 0, .int .i64 (-1)]]) (.take 0 (.take 1 (.take 2 (.take 3 (.take 4 (.br 5 (.take 6 (.br 7 (.done) (.nil))) (.nil))))))) (by kernel_rfl) ?_ ?_
    · refine xn ?_
      repeat' (first | exact Le.n | refine Lc.mk ?_ ?_)
      all_goals intros
      all_goals exact ⟨(), ⟨rfl, rfl, trivial⟩, rfl⟩
    · intro _
      exact xn0
end Go.Proofs.YtglapkioagenaaaGreatDoor
namespace Go.Proofs.YtglapkioagenaaaGreatDoor
open Go Go.RowKit
theorem lens_next {l : List (List UInt8)} {j : Nat} (h : j < l.length) : Lib.lens (l.take (j + 1)) = Lib.lens (l.take j) + (l.getD j []).length :=
  Lib.lens_take_succ l j _ (by rw [List.getD_eq_getElem?_getD, List.getElem?_eq_getElem h]; rfl)
theorem lens_full {l : List (List UInt8)} {j : Nat} (h : l.length ≤ j) : Lib.lens (l.take j) = Lib.lens l := by rw [List.take_of_length_le h]
def Pr.w (q : Pr) : Nat := q.n.length + q.vs.length + Lib.lens q.vs
def Ln.b (p : Ln) : Nat := p.ps.length + p.g.length + p.n.length + p.v.length
set_option maxRecDepth 20000
set_option maxHeartbeats 4000000
set_option linter.unusedSimpArgs false
set_option linter.unusedVariables false
attribute [local irreducible] AWp AOps byteAt SrcOK OrOk GloAll FnSpec
theorem law_wide {G : Glo} (p : Ln) (ho : p.OK 1048576) : FnSpec Tryz.prog G 4 [p.A] [] (fun r H => (∃ a, r = .ret a ∧ ∃ b, a = .bool b ∧ (b = false → p.OK 2500)) ∧ H = []) := by
  have o1 := ho.g
  have o2 := ho.n
  have o3 := ho.v
  have o4 := ho.ps
  have hGL : GloAll G [] := gloAll_nil
  refine fn_x Tryz.func4 Tryz.call4 rfl rfl rfl rfl hGL ?_
  intro C hC
  refine xw1 ?_
  refine lp hC hGL (fun x : Nat × Nat => [(3, .int .i64 (x.2 : Nat)), (24, .list 2 p.ps.length (prF p.ps)), (25, .int .i64 (p.ps.length : Nat)), (26, .int .i64 (x.1 : Nat))]) (fun _ => []) (fun x => x.1 ≤ p.ps.length ∧ p.b ≤ x.2 ∧ (∀ j, j < x.1 → p.b + (p.ps.getD j Pr.z).w ≤ x.2) ∧ x.2 ≤ p.b + x.1 * 3145728) (fun x => p.ps.length - x.1) (0, p.b) ?_ env_w rfl ?_
  · exact ⟨Nat.zero_le _, Nat.le_refl _, fun j h => absurd h (Nat.not_lt_zero _), by simp⟩
  rintro ⟨k, n⟩ ⟨h1, h2, h3, h4⟩
  dsimp only at h1 h2 h3 h4
  have hq := ho.q k
  have hbl : p.b ≤ 4194304 := by unfold Ln.b; omega
  refine xw ?_
  repeat' (first | exact Le.n | refine Lc.mk ?_ ?_)
  all_goals intros
  · refine lp hC hGL (fun x : Nat × Nat => [(3, .int .i64 (x.2 : Nat)), (24, .list 2 p.ps.length (prF p.ps)), (25, .int .i64 (p.ps.length : Nat)), (26, .int .i64 (k : Nat)), (40, .list 1 (p.ps.getD k Pr.z).vs.length (strsF (p.ps.getD k Pr.z).vs)), (41, .int .i64 ((p.ps.getD k Pr.z).vs.length : Nat)), (42, .int .i64 (x.1 : Nat))]) (fun _ => [.cells _ (some 41) [.str (p.ps.getD k Pr.z).n, .list 1 (p.ps.getD k Pr.z).vs.length (strsF (p.ps.getD k Pr.z).vs)]]) (fun x => x.1 ≤ (p.ps.getD k Pr.z).vs.length ∧ x.2 = n + ((p.ps.getD k Pr.z).n.length + (p.ps.getD k Pr.z).vs.length) + Lib.lens ((p.ps.getD k Pr.z).vs.take x.1)) (fun x => (p.ps.getD k Pr.z).vs.length - x.1) (0, n + ((p.ps.getD k Pr.z).n.length + (p.ps.getD k Pr.z).vs.length)) ?_ env_w rfl ?_
    · exact ⟨Nat.zero_le _, by simp [Lib.lens]⟩
    rintro ⟨j, m⟩ ⟨g1, g2⟩
    dsimp only at g1 g2
    have hj1 := Lib.lens_take_le (p.ps.getD k Pr.z).vs j
    have hj2 := Lib.lens_take_le (p.ps.getD k Pr.z).vs (j + 1)
    have hj3 : j < (p.ps.getD k Pr.z).vs.length → _ := fun h => lens_next h
    have hj4 : (p.ps.getD k Pr.z).vs.length ≤ j → _ := fun h => lens_full h
    refine xw ?_
    repeat' (first | exact Le.n | refine Lc.mk ?_ ?_)
    all_goals intros
    all_goals try dsimp only at *
    · refine nxt (j + 1, m + ((p.ps.getD k Pr.z).vs.getD j []).length) ⟨by dsimp only; omega, ?_⟩ (by dsimp only; omega) env_w rfl
      dsimp only
      rw [hj3 (by omega)]
      omega
    · have e := hj4 (by omega)
      have hw : (p.ps.getD k Pr.z).w = (p.ps.getD k Pr.z).n.length + (p.ps.getD k Pr.z).vs.length + Lib.lens (p.ps.getD k Pr.z).vs := rfl
      refine nxs (k + 1, m) ⟨by dsimp only; omega, by dsimp only; omega, below_next (fun j hj => by have := h3 j hj; dsimp only; omega) (by dsimp only; omega), by dsimp only; omega⟩ (by dsimp only; omega) env_w sub_w
  · refine ⟨[], List.nil_sublist _, ⟨_, rfl, _, rfl, fun h => ?_⟩, rfl⟩
    have h := ltB_f.1 h
    dsimp only at h
    have hn : n ≤ 2500 := by omega
    unfold Ln.b at h2 h3
    refine ⟨by omega, by omega, by omega, by omega, fun j => ?_⟩
    by_cases hj : j < p.ps.length
    · have := h3 j (by omega)
      unfold Pr.w at this
      omega
    · rw [List.getD_eq_getElem?_getD, List.getElem?_eq_none (by omega)]
      exact ⟨by simp [Pr.z], by simp [Pr.z], by simp [Pr.z, Lib.lens]⟩
attribute [local irreducible] Ln.E Ln.T mayV
theorem law_LinePrints {G : Glo} (hU : GloAll G utfTy) (hE : GloAll G errTy) (p : Ln) (c : Bool) (ho : p.OK 1048576) : FnIs Tryz.prog G 3 [p.A, .bool c] (.bool true) := by
  have h0 := law_wide (G := G) p ho
  have hp := placed_ok (G := G) hE (p.E c)
  have hc1 := Tryz.call7
  have hc2 := Tryz.call8
  have hc3 := Tryz.call9
  have hc4 := Tryz.call10
  have hu := unown_uri (p.E c)
  have hGL : GloAll G [] := gloAll_nil
  refine fn_x Tryz.func3 Tryz.call3 rfl rfl rfl rfl hGL ?_
  intro C hC
  refine xw1 ?_
  refine cx_any h0 ?_
  rintro _ ⟨b, rfl, hb⟩
  cases b
  · have ok := hb rfl
    have h1 := ref_LinePrint hU p c ok
    have h2 := line_Print (G := G) p c ok
    have h3 := line_Right (G := G) p c ok
    have h4 := line_Holds (G := G) p.v c (by have := ok.v; omega)
    have h5 := ref_LineHolds hU p.v c (by have := ok.v; omega)
    rw [← hu] at hp
    refine xn1 ?_
    intro bl
    refine dw_p mixed hC hGL true (fun (_ : Unit) => [(4, .bool true)]) (fun _ => [.cells bl (some 28) [.int .i64 (p.E c).e, .int .i64 (p.E c).p]]) (.take 0 (.br 1 (.br 2 (.take 3 (.take 4 (.take 5 (.take 6 (.take 7 (.take 8 (.take 9 (.take 10 (.br 11 (.br 12 (.br 13 (.take 14 (.take 15 (.take 16 (.take 17 (.take 18 (.take 20 (.take 21 (.take 22 (.br 19 (.br 23 (.take 24 (.take 25 (.take 26 (.done)))) (.nil)) (.nil)))))))))) (.nil)) (.nil)) (.br 12 (.br 11 (.br 13 (.take 14 (.take 15 (.take 16 (.take 17 (.take 18 (.take 20 (.take 21 (.take 22 (.br 19 (.br 23 (.take 24 (.take 25 (.take 26 (.done)))) (.nil)) (.nil)))))))))) (.nil)) (.nil)) (.nil))))))))))) (.nil)) (.nil))) (by kernel_rfl) ?_ ?_
    · refine xn ?_
      repeat' (first | exact Le.n | refine Lc.mk ?_ ?_)
      all_goals intros
      all_goals first
        | exact ⟨(), ⟨rfl, trivial⟩, rfl⟩
        | (refine ⟨(), ⟨?_, trivial⟩, rfl⟩; show some (AVal.bool (mayV c p.v == mayV c p.v)) = some (AVal.bool true); rw [beq_self_eq_true]; done)
        | (exfalso; exact absurd rfl (by assumption))
        | trace_state
    · intro _
      exact xn0
  · exact xw0
end Go.Proofs.YtglapkioagenaaaGreatDoor
namespace Go.Proofs.YtglapkioagenaaaGreatDoor
open Go
theorem Tryz.own : ownKnob Tryz.prog.godebug = none := by kernel_rfl
/-- All blocks below, sealed as they stand. -/
def sealBelow (W : World) (k : Nat) : Seal := fun b => if b < k then W.heap[b]? else none
theorem sealBelow_ok (W : World) (k : Nat) : Sealed (sealBelow W k) W := by
  intro b o h
  unfold sealBelow at h
  split at h
  · exact h
  · cases h
theorem ms_start (W : World) (R : Seal) (G : Glo) (hG : G.p R) (hs : Sealed R W) : MS ⟨W, R, blks [], G, hG, []⟩ R [] W :=
  ⟨hs, Seal.le_refl R, fun _ hb => .inl hb, ⟨fun _ h => absurd h List.not_mem_nil, List.nodup_nil, fun _ h => absurd h List.not_mem_nil⟩, fun _ h => absurd h List.not_mem_nil, Ext.refl W _⟩
theorem keptBut_of_ext {W W' : World} (h : Ext W [] W') (may : MemPlace → Prop) : W.keptBut W' may := by
  refine ⟨h.os, h.output, fun i hi => ?_⟩
  rw [h.block i hi (by simp)]
  generalize W.heap[i]? = o
  cases o with
  | none => rfl
  | some o =>
    cases o with
    | cells c t fr => exact ⟨rfl, rfl, rfl, fun _ _ => rfl⟩
    | map es clock => exact .inr ⟨rfl, rfl⟩
    | _ => rfl
end Go.Proofs.YtglapkioagenaaaGreatDoor
namespace Go.Proofs.YtglapkioagenaaaGreatDoor
open Go
theorem var_heap {P : Program} {w : World} {n : String} {g : Nat} {cs : Array Value} (hg : P.globalNamed n = some g) (hv : w.var? P n = some cs) : ∃ e fz, w.heap[g]? = some (.cells cs e fz) := by
  simp only [World.var?, hg, Option.bind_some] at hv
  split at hv
  · rename_i c e fz hh
    cases hv
    exact ⟨_, _, hh⟩
  · cases hv
/-- A list of package-level variables that are known. -/
def gloOf (L : List (Nat × List AVal)) : Glo := ⟨fun R => ∀ x, x ∈ L → SealedAt R x.1 0 x.2, fun _ _ hle h x hx => by
  obtain ⟨C, e, fz, h1, h2⟩ := h x hx
  exact ⟨C, e, fz, hle _ _ h1, relL_mono hle _ _ h2⟩⟩
theorem gloGet_mem : ∀ (L : List (Nat × List AVal)) {g : Nat} {cs : List AVal}, gloGet L g = some cs → (g, cs) ∈ L
  | [], _, _, h => by simp [gloGet] at h
  | (k, c) :: r, g, cs, h => by
    unfold gloGet at h
    split at h
    · rename_i e
      obtain rfl := Nat.eq_of_beq_eq_true e
      cases h
      exact List.mem_cons_self
    · exact List.mem_cons_of_mem _ (gloGet_mem r h)
theorem gloAll_of {L L' : List (Nat × List AVal)} (h : ∀ x, x ∈ L' → x ∈ L) : GloAll (gloOf L) L' := fun g cs hg R hR => hR (g, cs) (h _ (gloGet_mem L' hg))
theorem sealed_below {W : World} {k g : Nat} {C : Array Value} {e : TypeId} {fz : Nat × Nat} {cs : List AVal} (hk : g < k) (hW : W.heap[g]? = some (.cells C e fz)) (h : RelL (sealBelow W k) cs (C.toList.take cs.length)) : SealedAt (sealBelow W k) g 0 cs :=
  ⟨C, e, fz, by unfold sealBelow; rw [if_pos hk]; exact hW, by rw [List.drop_zero]; exact h⟩
theorem rowNamed_error : ∀ ty, ty < Tryz.prog.types.size → Tryz.prog.rowNamed ty [101, 114, 114, 111, 114] = true → ty = 32 := by
  have h : ((List.range Tryz.prog.types.size).all fun ty => !Tryz.prog.rowNamed ty [101, 114, 114, 111, 114] || Nat.beq ty 32) = true := by kernel_rfl
  intro ty h1 h2
  have := List.all_eq_true.1 h ty (List.mem_range.2 h1)
  rw [h2] at this
  exact Nat.eq_of_beq_eq_true (by simpa using this)
theorem error_laid {W : World} {k : Nat} (hk : 0 < k) {laid : List (String × DataW Unit)} (hL : laidMetH Tryz.prog laid W) (hm : ("errors.errorType", Rows.laid_errors_errorType) ∈ laid) : SealedAt (sealBelow W k) 0 0 [rty 32] := by
  have h := (laidMetH_iff.1 hL).2 _ (List.mem_filter.2 ⟨hm, by kernel_rfl⟩)
  have h : ∃ name u ty, (Rows.laid_errors_errorType (H := Unit)).handleName? = some name ∧ (Tryz.prog.cutTypes.find? (·.1 == "internal/reflectlite.rtype")).map (·.2) = some u ∧ ty < Tryz.prog.types.size ∧ Tryz.prog.rowNamed ty name = true ∧
      W.var? Tryz.prog "errors.errorType" = some #[.iface u (.agg #[typeHandle Tryz.prog ty])] := h
  obtain ⟨name, u, ty, h1, h2, h3, h4, h5⟩ := h
  obtain rfl : [101, 114, 114, 111, 114] = name := Option.some.inj ((show (Rows.laid_errors_errorType (H := Unit)).handleName? = some [101, 114, 114, 111, 114] by kernel_rfl).symm.trans h1)
  obtain rfl : 150 = u := Option.some.inj ((show (Tryz.prog.cutTypes.find? (·.1 == "internal/reflectlite.rtype")).map (·.2) = some 150 by kernel_rfl).symm.trans h2)
  obtain rfl := rowNamed_error ty h3 h4
  obtain ⟨e, fz, hh⟩ := var_heap (show Tryz.prog.globalNamed "errors.errorType" = some 0 by kernel_rfl) h5
  exact sealed_below hk hh ⟨_, _, rfl, (rel_rty _).1, rfl⟩
/-- The witness world of a row that lists a type's handle: the handle in its cell, the rest laid. -/
noncomputable def handleWorld (os : Os) : World :=
  let w0 := World.holding Tryz.prog os ⟨#[], #[], []⟩
  { w0 with heap := w0.heap.modify 0 fun
      | .cells _ t frozen => .cells #[.iface 150 (.agg #[hdl 32])] t frozen
      | o => o }
def plainOf (laid : List (String × DataW Unit)) : List (String × DataW Unit) := laid.filter fun x => x.2.handleName?.isNone
noncomputable def handleLaid (os : Os) (laid : List (String × DataW Unit)) : World := (handleWorld os).layVars Tryz.prog (plainOf laid)
theorem handleLaid_os (os : Os) (laid : List (String × DataW Unit)) : (handleLaid os laid).os = os := World.layVars_os _ _ _
theorem handleLaid_met {os : Os} {laid : List (String × DataW Unit)} (args : Array Value) (hf : (handleWorld os).layFits Tryz.prog (plainOf laid) [] = true) (hi : (handleWorld os).layIfaces Tryz.prog (plainOf laid) (handleLaid os laid) = true)
    (hh : ((laid.filter fun x => x.2.handleName?.isSome).all (handleAtB Tryz.prog ((handleLaid os laid).forCall (fun _ _ => 0) ⟨#[], args, []⟩).memory)) = true) :
    laidMetH Tryz.prog laid ((handleLaid os laid).forCall (fun _ _ => 0) ⟨#[], args, []⟩).memory := by
  refine laidMetH_of_parts ?_ hh
  have e1 : ((plainOf laid).filter fun x => ((plainOf laid).map (·.1)).contains x.1) = plainOf laid := List.filter_eq_self.2 fun x hx => List.contains_iff_mem.2 (List.mem_map.2 ⟨x, hx, rfl⟩)
  have e2 : ((plainOf laid).filter fun x => !((plainOf laid).map (·.1)).contains x.1) = [] := List.filter_eq_nil_iff.2 fun x hx => by rw [List.contains_iff_mem.2 (List.mem_map.2 ⟨x, hx, rfl⟩)]; simp
  have h : laidMet Tryz.prog (plainOf laid) (handleLaid os laid) := laidMet_layVars (w0 := handleWorld os) ((plainOf laid).map (·.1)) [] (by rw [e1]; rfl) (by rw [e1]; exact hf) (by rw [e1]; exact hi) (by rw [e2]; exact LaidIn.none)
  exact h.of_heap (by simp [World.memory, World.forCall, Input.heap])
theorem err_lt {W : World} {laid : List (String × DataW Unit)} (hL : laidMetH Tryz.prog laid W) (hm : ("errors.errorType", Rows.laid_errors_errorType) ∈ laid) : 0 < W.heap.size := by
  have h := (laidMetH_iff.1 hL).2 _ (List.mem_filter.2 ⟨hm, by kernel_rfl⟩)
  obtain ⟨name, u, ty, h1, h2, h3, h4, h5⟩ := h
  obtain ⟨e, fz, hh⟩ := var_heap (show Tryz.prog.globalNamed "errors.errorType" = some 0 by kernel_rfl) h5
  exact (Array.getElem?_eq_some_iff.1 hh).1
/-- A call's end; what was there below stays. -/
theorem law_below {P : Program} {G : Glo} {f : FuncId} {avs : List AVal} {c : Bool} {args : Array Value} {W : World} {R : Seal} (hs : FnIs P G f avs (.bool c)) (hc : (callFunc f args).run P W = .ok (.enter f args) W)
    (hG : G.p R) (hR : Sealed R W) (ha : RelV R avs args.toList) : Calls P f args W fun e W' => e = .returned (.bool c) ∧ (∀ may, W.keptBut W' may) ∧ Go.RowKit.Below W.heap.size W W' := by
  rcases hs R W args hG (ms_start W R G hG hR) ha with ⟨_, h⟩ | ⟨v, w', h, _⟩
  · refine h.mono fun e W' ⟨res, H', R', ⟨hr, hH⟩, he, hm⟩ => ?_
    subst hr
    obtain ⟨x, rfl, hx⟩ := he
    refine ⟨by rw [rel_bool.1 hx], fun may => keptBut_of_ext hm.ext may, ⟨hm.ext.os, hm.ext.tape, hm.ext.output, hm.ext.size, fun k hk => hm.ext.block k hk (fun h => absurd h List.not_mem_nil)⟩⟩
  · rw [hc] at h
    cases h
end Go.Proofs.YtglapkioagenaaaGreatDoor
namespace Go.Proofs.YtglapkioagenaaaGreatDoor
open Go.ChangeShapes Go.WideShapes Go.ChangeAt Go.RowKit Go.WideMaps Go.WideElems
theorem bulk_pos {H : Type} (d : DataW H) : 1 ≤ Rows.uptoBulk d := by
  cases d with
  | lit l => cases l <;> simp [Rows.uptoBulk]
  | _ => simp [Rows.uptoBulk]
theorem bulk_len {H : Type} : ∀ l : List (DataW H), l.length ≤ Rows.uptoBulkAll l
  | [] => Nat.zero_le _
  | x :: r => by
    have h1 := bulk_pos x
    have h2 := bulk_len r
    simp only [Rows.uptoBulkAll, List.length_cons]
    omega
theorem bulk_mem {H : Type} {d : DataW H} : ∀ {l : List (DataW H)}, d ∈ l → Rows.uptoBulk d ≤ Rows.uptoBulkAll l
  | [], h => by cases h
  | x :: r, h => by
    simp only [Rows.uptoBulkAll]
    rcases List.mem_cons.1 h with rfl | h
    · omega
    · have := bulk_mem h; omega
theorem bulk_strs {H : Type} : ∀ l : List (List UInt8), Rows.uptoBulkAll (H := H) (l.map fun s => .lit (.string s)) = Lib.lens l + l.length
  | [] => rfl
  | s :: r => by
    have e1 : Lib.lens (s :: r) = s.length + Lib.lens r := by simp [Lib.lens]
    have h := bulk_strs (H := H) r
    simp only [List.map_cons, Rows.uptoBulkAll, Rows.uptoBulk, h, e1, List.length_cons]
    omega
section
variable {H : Type} {enc : TypeId × Value → H} {W : World}
/-- A row of cells in old memory, as a list. -/
theorem rel_list {m : Nat} {f : Nat → AVal} {a : Addr} {cap : Nat} (hm : m ≤ cap) {V : Nat → Value} (hV : ∀ i, i < m → W.cell? (a.add i) = some (V i) ∧ RelC (sealBelow W W.heap.size) (f i) [V i]) :
    Rel (sealBelow W W.heap.size) (.list 1 m f) (.slice (some a) m cap) := by
  refine ⟨⟨some a, cap, rfl, hm, ?_⟩, rfl⟩
  rcases Nat.eq_zero_or_pos m with h0 | h0
  · exact .inl h0
  · refine .inr ?_
    obtain ⟨b, o, sp⟩ := a
    have h1 := (hV 0 h0).1
    rw [show (⟨b, o, sp⟩ : Addr).add 0 = ⟨b, o, sp⟩ from rfl] at h1
    unfold World.cell? at h1
    dsimp only at h1
    cases hW : W.heap[b]? with
    | none => rw [hW] at h1; cases h1
    | some ob =>
      cases ob with
      | cells C e fz =>
        rw [hW] at h1
        cases sp with
        | some s => simp at h1
        | none =>
          refine ⟨b, o, C, e, fz, rfl, ?_, fun i hi => ?_⟩
          · unfold sealBelow
            rw [if_pos (Array.getElem?_eq_some_iff.1 hW).1]
            exact hW
          · obtain ⟨h2, h3⟩ := hV i hi
            have ha : (⟨b, o, none⟩ : Addr).add i = ⟨b, o + i, none⟩ := by
              unfold Addr.add
              split
              · rename_i h; rw [h]; rfl
              · rfl
            rw [ha] at h2
            have hci : C[o + i]? = some (V i) := by
              unfold World.cell? at h2
              simpa [hW] using h2
            have hlt : o + i < C.toList.length := by simpa using (Array.getElem?_eq_some_iff.1 hci).1
            have e1 : (C.toList.drop (o + i * 1)).take 1 = [V i] := by
              rw [Nat.mul_one, List.drop_eq_getElem_cons hlt, List.take_succ_cons, List.take_zero]
              have : C.toList[o + i]? = some (V i) := by rw [Array.getElem?_toList]; exact hci
              rw [List.getElem?_eq_getElem hlt] at this
              rw [Option.some.inj this]
            rw [e1]
            exact h3
      | _ => rw [hW] at h1; cases h1
/-- A list of texts. -/
theorem rel_strs {fuel : Nat} {spare : Nat → Bool} {held : Bool} {v : Value} {x : DataW H × List MemPlace} (h : DataW.trod enc Tryz.prog W 0 spare held fuel 39 [v] = some x) :
    ∃ l : List (List UInt8), Rel (sealBelow W W.heap.size) (.list 1 l.length (strsF l)) v ∧ l.length ≤ Rows.uptoBulk x.1 ∧ Lib.lens l ≤ Rows.uptoBulk x.1 := by
  rcases Go.Deep.open_strs Tryz.underlying39 Tryz.underlying9 (by kernel_rfl) h with ⟨hv, rfl⟩ | ⟨a, len, cap, m, Sx, hv, _, hl, _, hm, rfl, hx⟩
  · obtain rfl : v = .slice none 0 0 := by simpa using hv
    exact ⟨[], ⟨⟨none, 0, rfl, Nat.le_refl _, .inl rfl⟩, rfl⟩, Nat.zero_le _, Nat.zero_le _⟩
  · obtain rfl : v = .slice (some a) len cap := by simpa using hv
    have hlm : len ≤ m := by rw [hm]; split <;> omega
    let l : List (List UInt8) := (List.range len).map fun i => (Sx i).data.toList
    have hll : l.length = len := by simp [l]
    have hget : ∀ i, i < len → l.getD i [] = (Sx i).data.toList := fun i hi => by simp [l, List.getD, hi]
    refine ⟨l, ?_, ?_⟩
    · rw [hll]
      refine rel_list hl (V := fun i => .string (Sx i)) (fun i hi => ⟨(hx i (by omega)).1, ?_⟩)
      have := (rel_str (R := sealBelow W W.heap.size) (s := l.getD i []) (v := .string (Sx i))).2 (by rw [hget i hi, str_mk])
      exact this.1
    · have e1 : ((List.range len).map fun i => (DataW.lit (.string (Sx i).data.toList) : DataW H)) = l.map fun s => .lit (.string s) := by simp [l, List.map_map, Function.comp_def]
      have h1 := bulk_strs (H := H) l
      simp only [Rows.uptoBulk]
      rw [e1, h1]
      omega
end
end Go.Proofs.YtglapkioagenaaaGreatDoor
namespace Go.Proofs.YtglapkioagenaaaGreatDoor
open Go Go.ChangeShapes Go.WideShapes Go.ChangeAt Go.RowKit Go.WideMaps Go.WideElems
theorem two_of {α : Type} {l : List α} (h : l.length = 2) : ∃ a b, l = [a, b] := by
  match l, h with
  | [a, b], _ => exact ⟨a, b, rfl⟩
theorem four_of {α : Type} {l : List α} (h : l.length = 4) : ∃ a b c d, l = [a, b, c, d] := by
  match l, h with
  | [a, b, c, d], _ => exact ⟨a, b, c, d, rfl⟩
theorem addr_add (b o n : Nat) : (⟨b, o, none⟩ : Addr).add n = ⟨b, o + n, none⟩ := by
  unfold Addr.add
  split
  · rename_i h; rw [h]; rfl
  · rfl
theorem cell_none {W : World} {b o : Nat} {C : Array Value} {e : TypeId} {fz : Nat × Nat} (h : W.heap[b]? = some (.cells C e fz)) : W.cell? ⟨b, o, none⟩ = C[o]? := by
  unfold World.cell?
  simp [h]
section
variable {H : Type} {enc : TypeId × Value → H} {W : World}
/-- A row in old memory whose elements have several cells, as a list. -/
theorem rel_listZ {sz m : Nat} (hz : 0 < sz) {f : Nat → AVal} {a : Addr} {cap : Nat} (hm : m ≤ cap) {cs : Nat → List Value} (hV : ∀ i, i < m → W.cells? 0 (a.add (i * sz)) sz = some (cs i) ∧ RelC (sealBelow W W.heap.size) (f i) (cs i)) :
    Rel (sealBelow W W.heap.size) (.list sz m f) (.slice (some a) m cap) := by
  refine ⟨⟨some a, cap, rfl, hm, ?_⟩, rfl⟩
  rcases Nat.eq_zero_or_pos m with h0 | h0
  · exact .inl h0
  · refine .inr ?_
    obtain ⟨b, o, sp⟩ := a
    obtain ⟨_, hl0, hc0⟩ := World.cells?_some (hV 0 h0).1
    have h1 := hc0 0 hz
    rw [Nat.zero_mul, show (⟨b, o, sp⟩ : Addr).add 0 = ⟨b, o, sp⟩ from rfl, show (⟨b, o, sp⟩ : Addr).add 0 = ⟨b, o, sp⟩ from rfl, List.getElem?_eq_getElem (by omega)] at h1
    unfold World.cell? at h1
    dsimp only at h1
    cases hW : W.heap[b]? with
    | none => rw [hW] at h1; cases h1
    | some ob =>
      cases ob with
      | cells C e fz =>
        rw [hW] at h1
        cases sp with
        | some s => simp at h1
        | none =>
          refine ⟨b, o, C, e, fz, rfl, ?_, fun i hi => ?_⟩
          · unfold sealBelow
            rw [if_pos (Array.getElem?_eq_some_iff.1 hW).1]
            exact hW
          · obtain ⟨h2, h3⟩ := hV i hi
            obtain ⟨_, hl, hc⟩ := World.cells?_some h2
            have e1 : (C.toList.drop (o + i * sz)).take sz = cs i := by
              refine List.ext_getElem? fun k => ?_
              by_cases hk : k < sz
              · have h4 := hc k hk
                rw [addr_add, addr_add, cell_none hW] at h4
                rw [← h4, List.getElem?_take_of_lt hk, List.getElem?_drop, Array.getElem?_toList]
              · rw [List.getElem?_eq_none (by rw [List.length_take]; omega), List.getElem?_eq_none (by omega)]
            rw [e1]
            exact h3
      | _ => rw [hW] at h1; cases h1
/-- A parameter. -/
theorem rel_param {fuel : Nat} {spare : Nat → Bool} {held : Bool} {cs : List Value} {x : DataW H × List MemPlace} (h : DataW.trod enc Tryz.prog W 0 spare held fuel 41 cs = some x) :
    ∃ q : Pr, RelC (sealBelow W W.heap.size) (.agg [.str q.n, .list 1 q.vs.length (strsF q.vs)]) cs ∧ q.n.length ≤ Rows.uptoBulk x.1 ∧ q.vs.length ≤ Rows.uptoBulk x.1 ∧ Lib.lens q.vs ≤ Rows.uptoBulk x.1 := by
  obtain ⟨xs, n, _, hx, hl, hxl, hf⟩ := DataW.trod_struct Tryz.underlying41 h
  have hc : Tryz.prog.cellsOf 41 = 2 := by kernel_rfl
  have hcs : Tryz.prog.cellsOf 9 = 1 := by kernel_rfl
  have hcp : Tryz.prog.cellsOf 39 = 1 := by kernel_rfl
  rw [hc] at hl
  have hxl : xs.length = 2 := hxl
  obtain ⟨x0, x1, rfl⟩ := two_of hxl
  obtain ⟨u0, u1, rfl⟩ := two_of hl
  have g0 : DataW.trod enc Tryz.prog W 0 spare held n 9 (([u0, u1].drop 0).take (Tryz.prog.cellsOf 9)) = some x0 := hf 0 _ rfl
  have g1 : DataW.trod enc Tryz.prog W 0 spare held n 39 (([u0, u1].drop 1).take (Tryz.prog.cellsOf 39)) = some x1 := hf 1 _ rfl
  rw [hcs] at g0
  rw [hcp] at g1
  simp only [List.drop_zero, List.drop_succ_cons, List.take_succ_cons, List.take_zero] at g0 g1
  obtain ⟨s0, q0, e0, _⟩ := DataW.trod_string Tryz.underlying9 g0
  obtain ⟨l, r1, hb1, hb2⟩ := rel_strs g1
  obtain rfl := List.singleton_inj.1 q0
  rw [hx]
  simp only [List.map_cons, List.map_nil, Rows.uptoBulk, Rows.uptoBulkAll]
  refine ⟨⟨s0.data.toList, l⟩, ⟨_, _, rfl, by rw [RelC, str_mk], _, _, rfl, rel_one r1 rfl, rfl⟩, ?_, by dsimp only; omega, by dsimp only; omega⟩
  rw [e0]
  simp only [Rows.uptoBulk]
  omega
/-- A list of parameters. -/
theorem rel_params {fuel : Nat} {spare : Nat → Bool} {held : Bool} {v : Value} {x : DataW H × List MemPlace} (h : DataW.trod enc Tryz.prog W 0 spare held fuel 22 [v] = some x) :
    ∃ L : List Pr, Rel (sealBelow W W.heap.size) (.list 2 L.length (prF L)) v ∧ L.length ≤ Rows.uptoBulk x.1 ∧ ∀ k, (L.getD k Pr.z).n.length ≤ Rows.uptoBulk x.1 ∧ (L.getD k Pr.z).vs.length ≤ Rows.uptoBulk x.1 ∧ Lib.lens (L.getD k Pr.z).vs ≤ Rows.uptoBulk x.1 := by
  have hc : Tryz.prog.cellsOf 41 = 2 := by kernel_rfl
  rcases Go.Deep.open_slice Tryz.underlying22 h with ⟨hv, rfl⟩ | ⟨a, len, cap, m, n, D, Pl, hv, _, hl, _, hm, rfl, hx⟩
  · obtain rfl : v = .slice none 0 0 := by simpa using hv
    refine ⟨[], ⟨⟨none, 0, rfl, Nat.le_refl _, .inl rfl⟩, rfl⟩, Nat.zero_le _, fun k => ?_⟩
    rw [List.getD_nil]
    exact ⟨by simp [Pr.z], by simp [Pr.z], by simp [Pr.z, Lib.lens]⟩
  · obtain rfl : v = .slice (some a) len cap := by simpa using hv
    rw [hc] at hx
    have hlm : len ≤ m := by rw [hm]; split <;> omega
    obtain ⟨Cx, hCx⟩ := Go.Deep.choose_lt (α := List Value) (n := len) (p := fun i cs => W.cells? 0 (a.add (i * 2)) 2 = some cs ∧ DataW.trod enc Tryz.prog W 0 spare held n 41 cs = some (D i, Pl i)) (fun i hi => hx i (by omega))
    obtain ⟨Lx, hLx⟩ := Go.Deep.choose_lt (α := Pr) (n := len) (p := fun i q => RelC (sealBelow W W.heap.size) (.agg [.str q.n, .list 1 q.vs.length (strsF q.vs)]) (Cx i) ∧ q.n.length ≤ Rows.uptoBulk (D i) ∧ q.vs.length ≤ Rows.uptoBulk (D i) ∧ Lib.lens q.vs ≤ Rows.uptoBulk (D i)) (fun i hi => rel_param (hCx i hi).2)
    let L : List Pr := (List.range len).map Lx
    have hll : L.length = len := by simp [L]
    have hget : ∀ i, i < len → L.getD i Pr.z = Lx i := fun i hi => by simp [L, List.getD, hi]
    have h1 := bulk_len ((List.range len).map D)
    rw [List.length_map, List.length_range] at h1
    simp only [Rows.uptoBulk]
    refine ⟨L, ?_, by omega, fun k => ?_⟩
    · rw [hll]
      refine rel_listZ (by decide) hl (cs := Cx) (fun i hi => ⟨(hCx i hi).1, ?_⟩)
      unfold prF
      rw [hget i hi]
      exact (hLx i hi).1
    · by_cases hk : k < len
      · rw [hget k hk]
        have h2 := (hLx k hk).2
        have h3 := bulk_mem (d := D k) (l := (List.range len).map D) (List.mem_map.2 ⟨k, List.mem_range.2 hk, rfl⟩)
        omega
      · rw [List.getD_eq_getElem?_getD, List.getElem?_eq_none (by omega)]
        exact ⟨by simp [Pr.z], by simp [Pr.z], by simp [Pr.z, Lib.lens]⟩
theorem rel_prop {spare : Nat → Bool} {held : Bool} {v : Value} {d : DataW H} {ps : List MemPlace} (h : DataW.Trod enc Tryz.prog W 0 spare held 24 v d ps) (hb : Rows.uptoBulk d ≤ 1048576) :
    ∃ u : Ln, Rel (sealBelow W W.heap.size) u.A v ∧ u.OK 1048576 := by
  obtain ⟨fuel, h⟩ := h
  obtain ⟨xs, n, _, hx, hl, hxl, hf⟩ := DataW.trod_struct Tryz.underlying24 h
  have hc : Tryz.prog.cellsOf 24 = 4 := by kernel_rfl
  have hcs : Tryz.prog.cellsOf 9 = 1 := by kernel_rfl
  have hcp : Tryz.prog.cellsOf 22 = 1 := by kernel_rfl
  rw [hc] at hl
  have hxl : xs.length = 4 := hxl
  obtain ⟨x0, x1, x2, x3, rfl⟩ := four_of hxl
  obtain ⟨u0, u1, u2, u3, hu⟩ := four_of hl
  rw [hu] at hf
  have g0 : DataW.trod enc Tryz.prog W 0 spare held n 9 (([u0, u1, u2, u3].drop 0).take (Tryz.prog.cellsOf 9)) = some x0 := hf 0 _ rfl
  have g1 : DataW.trod enc Tryz.prog W 0 spare held n 9 (([u0, u1, u2, u3].drop 1).take (Tryz.prog.cellsOf 9)) = some x1 := hf 1 _ rfl
  have g2 : DataW.trod enc Tryz.prog W 0 spare held n 22 (([u0, u1, u2, u3].drop 2).take (Tryz.prog.cellsOf 22)) = some x2 := hf 2 _ rfl
  have g3 : DataW.trod enc Tryz.prog W 0 spare held n 9 (([u0, u1, u2, u3].drop 3).take (Tryz.prog.cellsOf 9)) = some x3 := hf 3 _ rfl
  rw [hcs] at g0 g1 g3
  rw [hcp] at g2
  simp only [List.drop_zero, List.drop_succ_cons, List.take_succ_cons, List.take_zero] at g0 g1 g2 g3
  obtain rfl : d = .agg ([x0, x1, x2, x3].map (·.1)) := (Prod.mk.inj hx).1
  simp only [List.map_cons, List.map_nil, Rows.uptoBulk, Rows.uptoBulkAll] at hb
  obtain ⟨s0, q0, e0, _⟩ := DataW.trod_string Tryz.underlying9 g0
  obtain ⟨s1, q1, e1, _⟩ := DataW.trod_string Tryz.underlying9 g1
  obtain ⟨s3, q3, e3, _⟩ := DataW.trod_string Tryz.underlying9 g3
  obtain ⟨L, r2, hn, hk⟩ := rel_params g2
  rw [e0, e1, e3] at hb
  simp only [Rows.uptoBulk] at hb
  refine ⟨⟨s0.data.toList, s1.data.toList, L, s3.data.toList⟩, ⟨?_, ?_⟩, ⟨by dsimp only; omega, by dsimp only; omega, by dsimp only; omega, by dsimp only; omega, fun k => by have := hk k; dsimp only; omega⟩⟩
  · rw [hu]
    obtain rfl := List.singleton_inj.1 q0
    obtain rfl := List.singleton_inj.1 q1
    obtain rfl := List.singleton_inj.1 q3
    exact ⟨_, _, rfl, by rw [RelC, str_mk], _, _, rfl, by rw [RelC, str_mk], _, _, rfl, rel_one r2 rfl, _, _, rfl, by rw [RelC, str_mk], rfl⟩
  · cases v with
    | agg cs => rfl
    | _ => exact absurd (congrArg List.length hu) (by simp [Value.cells])
end
end Go.Proofs.YtglapkioagenaaaGreatDoor
namespace Go.Proofs.YtglapkioagenaaaGreatDoor
open Go
theorem chunks {α β : Type} (k : Nat) (E : α → List β) (hE : ∀ z, (E z).length = k) : ∀ (zs : List α) (cs : List β), cs.length = zs.length * k →
    (∀ i z, zs[i]? = some z → (cs.drop (i * k)).take k = E z) → cs = zs.flatMap E
  | [], cs, hl, _ => by
    simp only [List.length_nil, Nat.zero_mul] at hl
    simp [List.eq_nil_of_length_eq_zero hl]
  | z :: zs, cs, hl, h => by
    have h0 := h 0 z rfl
    simp only [Nat.zero_mul, List.drop_zero] at h0
    have hr := chunks k E hE zs (cs.drop k) (by rw [List.length_drop, hl, List.length_cons, Nat.succ_mul]; omega) (fun i y hy => by
      have := h (i + 1) y hy
      rw [List.drop_drop]
      rw [Nat.succ_mul, Nat.add_comm] at this
      exact this)
    rw [List.flatMap_cons, ← h0, ← hr, List.take_append_drop]
theorem relL_ints {R : Seal} : ∀ (l : List (IntKind × Int)), RelL R (l.map fun x => .int x.1 x.2) (l.map fun x => .int x.1 x.2)
  | [] => rfl
  | _ :: l => ⟨_, _, rfl, rfl, relL_ints l⟩
section
variable {P : Program} {H : Type} {enc : TypeId × Value → H} {w : World} {base : Nat} {spare : Nat → Bool} {held : Bool}
theorem trod_ints {t e n fuel : Nat} {k : IntKind} {cs : List Value} {ps : List MemPlace} {zs : List Nat} (ht : P.underlying t = some (.array n e)) (he : P.underlying e = some (.int k)) (hc : P.cellsOf e = 1) (hct : P.cellsOf t = n)
    (h : DataW.trod enc P w base spare held fuel t cs = some (.agg (zs.map fun x : Nat => .lit (.int k (x : Int))), ps)) (hz : zs.length = n) : cs = zs.flatMap fun x : Nat => [Value.int k (x : Int)] := by
  obtain ⟨xs, m, _, ex, hl, hxl, hel⟩ := DataW.trod_array ht h
  have e3 : (xs.map (·.1)) = zs.map fun x : Nat => .lit (.int k x) := (DataW.agg.inj (Prod.mk.inj ex).1).symm
  refine chunks 1 _ (fun _ => rfl) zs cs (by omega) (fun i z hi => ?_)
  have hin : i < zs.length := (List.getElem?_eq_some_iff.1 hi).1
  have hE := hel i (by omega)
  rw [hc, List.getElem?_eq_getElem (by omega)] at hE
  obtain ⟨y, e1, e2, _⟩ := DataW.trod_int he hE
  have e4 : (xs.map (·.1))[i]? = (zs.map fun x : Nat => (DataW.lit (.int k x) : DataW H))[i]? := by rw [e3]
  rw [List.getElem?_map, List.getElem?_map, List.getElem?_eq_getElem (by omega : i < xs.length), hi, e2] at e4
  simp only [Option.map_some, Option.some.injEq, DataW.lit.injEq, Lit.int.injEq, true_and] at e4
  rw [e1, e4]
end
/-- One laid variable. -/
theorem laid_at {P : Program} {W : World} {laid : List (String × DataW Unit)} (hL : laidMetH P laid W) {n : String} {d : DataW Unit} (hm : (n, d) ∈ laid) (hn : d.handleName?.isNone = true) {g : Nat} {t : TypeId} (hg : P.globalNamed n = some g) (ht : (P.globals[g]?).map (·.type) = some t) :
    ∃ cs e fz fuel p, W.heap[g]? = some (.cells cs e fz) ∧ DataW.trod (fun _ => ()) P W 0 (fun _ => true) false fuel t cs.toList = some (d, p) := by
  have h1 := (laidMetH_iff.1 hL).1
  obtain ⟨ps, h, _⟩ := h1
  have key : ∀ (l : List (String × DataW Unit)) (ps : List MemPlace), DataW.LaidVars P W l ps → (n, d) ∈ l → ∃ cs e fz fuel p, W.heap[g]? = some (.cells cs e fz) ∧ DataW.trod (fun _ => ()) P W 0 (fun _ => true) false fuel t cs.toList = some (d, p) := by
    intro l
    induction l with
    | nil => intro ps _ hm; cases hm
    | cons a r ih =>
      obtain ⟨m, b⟩ := a
      rintro ps ⟨g', t', cs, fuel, p, q, e1, e2, e3, e4, e5, _⟩ hm
      rcases List.mem_cons.1 hm with hm | hm
      · cases hm
        obtain rfl := Option.some.inj (hg.symm.trans e1)
        obtain rfl := Option.some.inj (ht.symm.trans e2)
        obtain ⟨e, fz, hh⟩ := var_heap hg e3
        exact ⟨cs, e, fz, fuel, p, hh, e4⟩
      · exact ih q e5 hm
  exact key _ ps h (List.mem_filter.2 ⟨hm, hn⟩)
theorem block_lt {W : World} {g : Nat} {o : Obj} (h : W.heap[g]? = some o) : g < W.heap.size := (Array.getElem?_eq_some_iff.1 h).1
theorem laid_lt {W : World} {laid : List (String × DataW Unit)} (hL : laidMetH Tryz.prog laid W) {n : String} {d : DataW Unit} (hm : (n, d) ∈ laid) (hn : d.handleName?.isNone = true) {g : Nat} {t : TypeId} (hg : Tryz.prog.globalNamed n = some g) (ht : (Tryz.prog.globals[g]?).map (·.type) = some t) : g < W.heap.size := by
  obtain ⟨_, _, _, _, _, hW, _⟩ := laid_at hL hm hn hg ht
  exact block_lt hW
end Go.Proofs.YtglapkioagenaaaGreatDoor
namespace Go.Proofs.YtglapkioagenaaaGreatDoor
open Go
section
variable {P : Program} {H : Type} {enc : TypeId × Value → H} {w : World} {base : Nat} {spare : Nat → Bool} {held : Bool}
theorem trod_pairs {t e n fuel u : Nat} {k : IntKind} {f0 f1 : Field} {cs : List Value} {ps : List MemPlace} {zs : List (Nat × Nat)} (ht : P.underlying t = some (.array n e)) (he : P.underlying e = some (.struct #[f0, f1])) (hc : P.cellsOf e = 2) (hct : P.cellsOf t = n * 2)
    (hf0 : f0.type = u) (hf1 : f1.type = u) (ho0 : f0.offset = 0) (ho1 : f1.offset = 1) (hu : P.underlying u = some (.int k)) (hcu : P.cellsOf u = 1)
    (h : DataW.trod enc P w base spare held fuel t cs = some (.agg (zs.map fun x : Nat × Nat => .agg [.lit (.int k (x.1 : Int)), .lit (.int k (x.2 : Int))]), ps)) (hz : zs.length = n) : cs = zs.flatMap fun x : Nat × Nat => [Value.int k (x.1 : Int), Value.int k (x.2 : Int)] := by
  obtain ⟨xs, m, _, ex, hl, hxl, hel⟩ := DataW.trod_array ht h
  have e3 : (xs.map (·.1)) = zs.map fun x : Nat × Nat => .agg [.lit (.int k x.1), .lit (.int k x.2)] := (DataW.agg.inj (Prod.mk.inj ex).1).symm
  refine chunks 2 _ (fun _ => rfl) zs cs (by omega) (fun i z hi => ?_)
  have hin : i < zs.length := (List.getElem?_eq_some_iff.1 hi).1
  have hE := hel i (by omega)
  rw [hc, List.getElem?_eq_getElem (by omega)] at hE
  generalize hcc : (cs.drop (i * 2)).take 2 = c at hE
  obtain ⟨y0, y1, m', e2, hl2, h0, h1⟩ := Go.ChangeShapes.trod_struct2 he hE
  rw [hf0, ho0, hcu] at h0
  rw [hf1, ho1, hcu] at h1
  obtain ⟨a0, c0, d0, _⟩ := DataW.trod_int hu h0
  obtain ⟨a1, c1, d1, _⟩ := DataW.trod_int hu h1
  have e4 : (xs.map (·.1))[i]? = (zs.map fun x : Nat × Nat => (DataW.agg [.lit (.int k x.1), .lit (.int k x.2)] : DataW H))[i]? := by rw [e3]
  rw [List.getElem?_map, List.getElem?_map, List.getElem?_eq_getElem (by omega : i < xs.length), hi, e2, d0, d1] at e4
  simp only [Option.map_some, Option.some.injEq, DataW.agg.injEq, List.cons.injEq, DataW.lit.injEq, Lit.int.injEq, true_and, and_true] at e4
  rw [hc] at hl2
  match c, hl2 with
  | [x0, x1], _ =>
    simp only [List.drop_zero, List.take_succ_cons, List.take_zero, List.cons.injEq, and_true, List.drop_succ_cons] at c0 c1
    rw [c0, c1, e4.1, e4.2]
end
theorem first_laid {W : World} {k : Nat} (hk : 3 < k) {laid : List (String × DataW Unit)} (hL : laidMetH Tryz.prog laid W) (hm : ("unicode/utf8.first", Rows.laid_unicode_utf8_first) ∈ laid) : SealedAt (sealBelow W k) 3 0 firstTab := by
  obtain ⟨C, e, fz, fuel, p, hW, hd⟩ := laid_at hL hm (by kernel_rfl) (g := 3) (t := 142) (by kernel_rfl) (by kernel_rfl)
  refine sealed_below hk hW ?_
  have hc := trod_ints (n := 256) (zs := Go.Pinned.utf8FirstZ) Tryz.underlying142 Tryz.underlying5 (by kernel_rfl) (by kernel_rfl) hd (by kernel_rfl)
  have e1 : firstTab = (Go.Pinned.utf8FirstZ.map fun x : Nat => (IntKind.u8, (x : Int))).map fun x => .int x.1 x.2 := by simp [firstTab]
  have e2 : C.toList.take firstTab.length = (Go.Pinned.utf8FirstZ.map fun x : Nat => (IntKind.u8, (x : Int))).map fun x => .int x.1 x.2 := by
    have : C.toList = Go.Pinned.utf8FirstZ.map fun x : Nat => Value.int .u8 (x : Int) := by
      rw [hc]; generalize Go.Pinned.utf8FirstZ = l; induction l <;> simp_all
    rw [this, List.take_of_length_le (by simp [firstTab])]
    simp
  rw [e2, e1]
  exact relL_ints _
def acceptZ : List (Nat × Nat) := [(128, 191), (160, 191), (128, 159), (144, 191), (128, 143), (0, 0), (0, 0), (0, 0), (0, 0), (0, 0), (0, 0), (0, 0), (0, 0), (0, 0), (0, 0), (0, 0)]
theorem accept_laid {W : World} {k : Nat} (hk : 4 < k) {laid : List (String × DataW Unit)} (hL : laidMetH Tryz.prog laid W) (hm : ("unicode/utf8.acceptRanges", Rows.laid_unicode_utf8_acceptRanges) ∈ laid) : SealedAt (sealBelow W k) 4 0 acceptTab := by
  obtain ⟨C, e, fz, fuel, p, hW, hd⟩ := laid_at hL hm (by kernel_rfl) (g := 4) (t := 183) (by kernel_rfl) (by kernel_rfl)
  refine sealed_below hk hW ?_
  rw [trod_pairs (n := 16) (zs := acceptZ) Tryz.underlying183 Tryz.underlying182 (by kernel_rfl) (by kernel_rfl) rfl rfl rfl rfl Tryz.underlying5 (by kernel_rfl) hd (by kernel_rfl)]
  exact relL_ints ((acceptZ.flatMap fun x : Nat × Nat => [x.1, x.2]).map fun x : Nat => (IntKind.u8, (x : Int)))
end Go.Proofs.YtglapkioagenaaaGreatDoor
