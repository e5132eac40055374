/- Parts of the proof of prints_root: Cro, Crs, Crv. -/
import Derived.Test.YtahebkecmlmlfaaGreatDoorBan
import Derived.Test.YtahebkecmlmlfaaGreatDoorBam
import Derived.Test.YtahebkecmlmlfaaGreatDoorBaj
set_option linter.unusedVariables false
set_option linter.unusedSimpArgs false
set_option linter.unusedSectionVars false
namespace Go.Proofs.YtahebkecmlmlfaaGreatDoor
set_option maxRecDepth 20000
set_option maxHeartbeats 4000000
section
open Go Go.RowKit
attribute [local irreducible] AWp AOps aa ax OrOk ad ae
attribute [local irreducible] al bO Pr.fit Ln.E Ln.T Vl.E Vl.T eO ba cntI
theorem vI {G : Glo} (s : List UInt8) (hs : s.length ≤ 1000000) : FnIs Tryz.prog G 51 [.str s] (.bool (frB s)) := by
 have h1 := dG (G := G) s (by omega)
 unfold frB
 generalize al 97 122 (-32) s = u at *
 have hGL : ad G [] := ab
 refine fn_x Tryz.func51 Tryz.call51 rfl rfl rfl rfl hGL ?_
 intro C hC
 refine xw ?_
 repeat' (first | exact Le.n | refine Lc.mk ?_ ?_)
 all_goals intros
 all_goals
  apply aj
  refine congrArg AVal.bool ?_
  rw [Bool.eq_iff_iff]
  simp only [Bool.or_eq_true, a7]
  simp [*]
theorem Bg {G : Glo} {m : Int} (hE : ad G errTy) (hM : ad G (bI m)) (x : Vl) (hs : x.s.length ≤ 2500) (hL : Small x.L) (hv : x.OK) : FnIs Tryz.prog G 57 [x.A] (.tuple [.str x.T, x.E.A]) :=
 tB x (mF hE hM x hv) (mH x.s (by omega) (jv _)) (nX x.L hL) (v8 hM x.st)
theorem mz {G : Glo} {m : Int} (hE : ad G errTy) (hM : ad G (bI m)) (v : Int) (x : Itm) (hx : x.OK 2500) : FnIs Tryz.prog G 22 [itR x, .int .i64 v] (.tuple [x.ln.A, x.2.E.A]) := by
 have h1 := Bg hE hM x.2 hx.s hx.L hx.v
 generalize x.2.E = e at *
 unfold Vl.A at h1
 rcases e with _ | e | ⟨e, p⟩
 ·simp only [Err.A] at h1 ⊢
  have hGL : ad G [] := ab
  refine fn_x Tryz.func22 Tryz.call22 rfl rfl rfl rfl hGL ?_
  intro C hC
  exact xw0
 ·simp only [Err.A, errA] at h1 ⊢
  have hGL : ad G [] := ab
  refine fn_x Tryz.func22 Tryz.call22 rfl rfl rfl rfl hGL ?_
  intro C hC
  exact xw0
 ·simp only [Err.A, atA] at h1 ⊢
  have hGL : ad G [] := ab
  refine fn_x Tryz.func22 Tryz.call22 rfl rfl rfl rfl hGL ?_
  intro C hC
  exact xw0
theorem vH {G : Glo} {m : Int} (hE : ad G errTy) (hE2 : ij G) (hP : co G) (hM : ad G (bI m)) (hS : SpIs G) (v : Int) (hv : v = 3 ∨ v = 4) (x : Itm) (hx : x.OK 2500) : FnIs Tryz.prog G 21 [itR x, .int .i64 v] (.int .i64 (x.w v)) := by
 have q1 := Tryz.call24
 have q2 := Tryz.call50
 have q3 := Tryz.call23
 have hc := iO (G := G) v
 have h1 := oS (G := G) x.p (eqB v 4) hx.p.fit
 have h4 := lz (G := G) hE (x.p.E (eqB v 4))
 have hn : x.1.n.length ≤ 2500 := hx.p.n
 have hps : x.1.ps.length ≤ 2500 := hx.p.ps
 have hq : ∀ k, (x.1.ps.getD k Pr.z).n.length ≤ 2500 ∧ (x.1.ps.getD k Pr.z).vs.length ≤ 2500 ∧ Lib.lens (x.1.ps.getD k Pr.z).vs ≤ 2500 := hx.p.q
 have hvl : ∀ k j, ((x.1.ps.getD k Pr.z).vs.getD j []).length ≤ 2500 := fun k j => by
  have := cI (l := (x.1.ps.getD k Pr.z).vs) (k := j); have := (hq k).2.2; omega
 have hF := vI (G := G) x.1.n (by omega)
 have hve : verE v = .none := by unfold verE; rw [if_pos hv]
 have hT := wH (G := G) hS v x.1.n x.1.ps (by omega) (by omega) (fun k => by have := (hq k).1; omega) (fun k => ⟨by have := (hq k).2.1; omega, by have := hvl k 0; omega⟩)
 have hV := mF hE hM x.2 hx.v
 have h5 := lz (G := G) hE x.2.E
 have hR := kG (G := G) hS v x.1.n (by omega)
 have hpr := mz (G := G) hE hM v x hx
 have hLP := j7 (G := G) x.ln (eqB v 4) (Itm.fit hx)
 have hw : ∀ (_ : x.p.E (eqB v 4) = .none) (_ : frB x.1.n = false), (parE x.1.ps ≠ 0 → x.w v = parE x.1.ps) ∧ (parE x.1.ps = 0 → (x.k v ≠ x.2.t → x.w v = 1) ∧ (x.k v = x.2.t → (x.2.E ≠ .none → x.w v = x.2.E.e) ∧ (x.2.E = .none → x.w v = x.r v))) := fun a b => ⟨Fb a b, fun c => ⟨Fc a b c, fun d => ⟨Fa a b c d, w_r a b c d⟩⟩⟩
 have hwl := fun a => w_ln (v := v) (x := x) a
 have hwf := fun a b => w_fr (v := v) (x := x) a b
 have hln : x.2.E = .none → x.p.E (eqB v 4) = .none → x.ln.E (eqB v 4) = .none := fun _ b => Ln.E_v (p := x.ln) b (Vl.T_hd _)
 rw [hve] at hT hR
 generalize x.w v = W at *
 unfold Itm.r Itm.L at hw
 unfold Itm.k at hw
 obtain ⟨⟨g, n, ps, vv⟩, u⟩ := x
 unfold itR at hpr ⊢
 unfold Vl.A at hV
 unfold Itm.p at h1 h4 hw hwl hwf hln
 unfold Itm.ln at hpr hLP hln hw
 dsimp only at *
 generalize Ln.E (eqB v 4) ⟨g, n, ps, u.T⟩ = eL at *
 generalize Ln.T (eqB v 4) ⟨g, n, ps, u.T⟩ = tL at *
 generalize eO v n ps = K at *
 generalize ba v n = r at *
 unfold Rl.A at hR
 obtain ⟨r0, r1, r2, r3⟩ := r
 dsimp only at *
 generalize u.E = eV at *
 generalize u.T = tV at *
 generalize hE0 : Ln.E (eqB v 4) ⟨g, n, ps, []⟩ = e0 at *
 rcases e0 with _ | e | ⟨e, p⟩
 ·simp only [Err.A] at h1
  cases hfr : frB n with
  | true =>
   rw [hwf rfl hfr]
   rw [hfr] at hF
   have hGL : ad G [] := ab
   refine fn_x Tryz.func21 Tryz.call21 rfl rfl rfl rfl hGL ?_
   intro C hC
   exact xw0
  | false =>
   rw [hfr] at hF
   have hw := hw rfl hfr
   have hGL : ad G [] := ab
   refine fn_x Tryz.func21 Tryz.call21 rfl rfl rfl rfl hGL ?_
   intro C hC
   refine xw1 ?_
   intros
   refine lp hC hGL (fun k : Nat => [(1, .int .i64 v), (2, .rop (za (⟨g, n, ps, vv⟩, u)) 0), (35, .list 2 ps.length (prF ps)), (36, .int .i64 (ps.length : Nat)), (37, .int .i64 (k : Nat))]) (fun _ => []) (fun k => k ≤ ps.length ∧ ∀ j, j < k → pE ps j = 0) (fun k => ps.length - k) 0 ⟨Nat.zero_le _, fun j h => absurd h (Nat.not_lt_zero _)⟩ ai rfl ?_
   rintro k ⟨k1, k2⟩
   by_cases hk : k < ps.length
   ·have hqk := hq k
    have hfi := wI hE2 hP hM (ps.getD k Pr.z) (by omega) (by omega) (fun j => by have := hvl k j; omega)
    have hsa := qP (G := G) (ps.getD k Pr.z).n nTYP (by omega) (by decide)
    rw [show al 97 122 (-32) nTYP = nTYP by decide +kernel] at hsa
    have hfd := on (G := G) ps (ps.getD k Pr.z).n (by omega) (fun k => by have := (hq k).1; omega) (by omega)
    cases hf : (ps.getD k Pr.z).fit with
    | false =>
     rw [hf] at hfi
     have e := pE_3 hf
     rw [hw.1 (by rw [fw hk k2 (by rw [e]; decide), e]; decide), fw hk k2 (by rw [e]; decide), e]
     exact xw0
    | true =>
     rw [hf] at hfi
     cases hty : seqB (al 97 122 (-32) (ps.getD k Pr.z).n) nTYP with
     | true =>
      rw [hty] at hsa
      have e := pE_0 hf (fun h => h.1 (a7.1 hty))
      refine xw1 ?_
      intros
      exact nxs (k + 1) ⟨by omega, aM k2 e⟩ (by omega) ai aR
     | false =>
      rw [hty] at hsa
      by_cases hd : bO (ps.getD k Pr.z).n ps 0 < (k : Int)
      ·have e := pE_9 hf (iq.1 hty) hd
       rw [hw.1 (by rw [fw hk k2 (by rw [e]; decide), e]; decide), fw hk k2 (by rw [e]; decide), e]
       exact xw0
      ·have e := pE_0 hf (fun h => hd h.2)
       refine xw1 ?_
       intros
       exact nxs (k + 1) ⟨by omega, aM k2 e⟩ (by omega) ai aR
   ·have hw := hw.2 (B8 (by omega) k2)
    by_cases hK : K = u.t
    ·have hw := hw.2 hK
     rcases eV with _ | e | ⟨e, p⟩
     ·have hw := hw.2 rfl
      have hln := hln rfl rfl
      subst hln
      simp only [Err.A] at hV hpr hLP
      subst hw
      obtain rfl := hK
      by_cases ha : u.t = 3 ∧ 0 < r3 ∧ r3 ≠ (u.L.length : Int)
      ·rw [if_pos ha]
       obtain ⟨a1, a2, a3⟩ := ha
       have a4 : (u.L.length : Int) ≠ r3 := fun h => a3 h.symm
       exact xw0
      ·rw [if_neg ha]
       by_cases a1 : u.t = 3
       ·by_cases a2 : 0 < r3
        ·have a3 : (u.L.length : Int) = r3 := by
          apply Classical.byContradiction
          intro h
          exact ha ⟨a1, a2, fun k => h k.symm⟩
         by_cases hl : 1500 < tL.length
         ·rw [if_pos hl]
          refine xn1 ?_
          intros
          rename_i b11 b13 _ _ _ _ _
          refine eb (aX (i := 1) (k := 13) rfl rfl) ?_
          refine dw_p mixed hC hGL false (fun _ : Unit => [(15, .str tL)]) (fun _ => [.cells b11 (some 76) [.int .i64 r0, .int .i64 r1, .int .i64 r2, .int .i64 r3], bE]) (.take 0 (.take 1 (.br 2 (.br 3 (.take 4 (.take 5 (.take 6 (.take 7 (.take 8 (.done)))))) (.nil)) (.nil)))) (by kernel_rfl) ?_ ?_
          ·refine xn ?_
           repeat' (first | exact Le.n | refine Lc.mk ?_ ?_)
           all_goals intros
           all_goals exact ⟨(), ai, rfl⟩
          intro _
          exact xw0
         ·rw [if_neg hl]
          refine xn1 ?_
          intros
          rename_i b11 b13 _ _ _ _ _
          refine eb (aX (i := 1) (k := 13) rfl rfl) ?_
          refine dw_p mixed hC hGL false (fun _ : Unit => [(15, .str tL)]) (fun _ => [.cells b11 (some 76) [.int .i64 r0, .int .i64 r1, .int .i64 r2, .int .i64 r3], bE]) (.take 0 (.take 1 (.br 2 (.br 3 (.take 4 (.take 5 (.take 6 (.take 7 (.take 8 (.done)))))) (.nil)) (.nil)))) (by kernel_rfl) ?_ ?_
          ·refine xn ?_
           repeat' (first | exact Le.n | refine Lc.mk ?_ ?_)
           all_goals intros
           all_goals exact ⟨(), ai, rfl⟩
          intro _
          exact xw0
        ·have a2' : ¬ 0 < r3 := a2
         by_cases hl : 1500 < tL.length
         ·rw [if_pos hl]
          refine xn1 ?_
          intros
          rename_i b11 b13 _ _ _ _
          refine eb (aX (i := 1) (k := 13) rfl rfl) ?_
          refine dw_p mixed hC hGL false (fun _ : Unit => [(15, .str tL)]) (fun _ => [.cells b11 (some 76) [.int .i64 r0, .int .i64 r1, .int .i64 r2, .int .i64 r3], bE]) (.take 0 (.take 1 (.br 2 (.br 3 (.take 4 (.take 5 (.take 6 (.take 7 (.take 8 (.done)))))) (.nil)) (.nil)))) (by kernel_rfl) ?_ ?_
          ·refine xn ?_
           repeat' (first | exact Le.n | refine Lc.mk ?_ ?_)
           all_goals intros
           all_goals exact ⟨(), ai, rfl⟩
          intro _
          exact xw0
         ·rw [if_neg hl]
          refine xn1 ?_
          intros
          rename_i b11 b13 _ _ _ _
          refine eb (aX (i := 1) (k := 13) rfl rfl) ?_
          refine dw_p mixed hC hGL false (fun _ : Unit => [(15, .str tL)]) (fun _ => [.cells b11 (some 76) [.int .i64 r0, .int .i64 r1, .int .i64 r2, .int .i64 r3], bE]) (.take 0 (.take 1 (.br 2 (.br 3 (.take 4 (.take 5 (.take 6 (.take 7 (.take 8 (.done)))))) (.nil)) (.nil)))) (by kernel_rfl) ?_ ?_
          ·refine xn ?_
           repeat' (first | exact Le.n | refine Lc.mk ?_ ?_)
           all_goals intros
           all_goals exact ⟨(), ai, rfl⟩
          intro _
          exact xw0
       ·by_cases hl : 1500 < tL.length
        ·rw [if_pos hl]
         refine xn1 ?_
         intros
         rename_i b11 b13 _ _ _
         refine eb (aX (i := 1) (k := 13) rfl rfl) ?_
         refine dw_p mixed hC hGL false (fun _ : Unit => [(15, .str tL)]) (fun _ => [.cells b11 (some 76) [.int .i64 r0, .int .i64 r1, .int .i64 r2, .int .i64 r3], bE]) (.take 0 (.take 1 (.br 2 (.br 3 (.take 4 (.take 5 (.take 6 (.take 7 (.take 8 (.done)))))) (.nil)) (.nil)))) (by kernel_rfl) ?_ ?_
         ·refine xn ?_
          repeat' (first | exact Le.n | refine Lc.mk ?_ ?_)
          all_goals intros
          all_goals exact ⟨(), ai, rfl⟩
         intro _
         exact xw0
        ·rw [if_neg hl]
         refine xn1 ?_
         intros
         rename_i b11 b13 _ _ _
         refine eb (aX (i := 1) (k := 13) rfl rfl) ?_
         refine dw_p mixed hC hGL false (fun _ : Unit => [(15, .str tL)]) (fun _ => [.cells b11 (some 76) [.int .i64 r0, .int .i64 r1, .int .i64 r2, .int .i64 r3], bE]) (.take 0 (.take 1 (.br 2 (.br 3 (.take 4 (.take 5 (.take 6 (.take 7 (.take 8 (.done)))))) (.nil)) (.nil)))) (by kernel_rfl) ?_ ?_
         ·refine xn ?_
          repeat' (first | exact Le.n | refine Lc.mk ?_ ?_)
          all_goals intros
          all_goals exact ⟨(), ai, rfl⟩
         intro _
         exact xw0
     ·rw [hw.1 (fun h => by cases h)]
      simp only [Err.A, Err.e, errA] at hV h5 ⊢
      exact xw0
     ·rw [hw.1 (fun h => by cases h)]
      simp only [Err.A, Err.e, atA] at hV h5 ⊢
      exact xw0
    ·rw [hw.1 hK]
     exact xw0
 ·rw [hwl (fun h => by cases h)]
  simp only [Err.A, Err.e, errA] at h1 h4 ⊢
  have hGL : ad G [] := ab
  refine fn_x Tryz.func21 Tryz.call21 rfl rfl rfl rfl hGL ?_
  intro C hC
  exact xw0
 ·rw [hwl (fun h => by cases h)]
  simp only [Err.A, Err.e, atA] at h1 h4 ⊢
  have hGL : ad G [] := ab
  refine fn_x Tryz.func21 Tryz.call21 rfl rfl rfl rfl hGL ?_
  intro C hC
  refine xn1 ?_
  intros
  refine dw_p mixed hC hGL false (fun _ : Unit => [(5, atA e p)]) (fun _ => []) (.take 0 (.take 1 (.take 2 (.take 3 (.take 4 (.take 5 (.take 6 (.take 7 (.br 8 (.br 9 (.take 10 (.done)) (.nil)) (.nil)))))))))) (by kernel_rfl) ?_ ?_
  ·refine xn ?_
   repeat' (first | exact Le.n | refine Lc.mk ?_ ?_)
   all_goals intros
   all_goals exact ⟨(), ai, rfl⟩
  intro _
  exact xw0
end
section
open Go Go.RowKit
theorem eW (s : List UInt8) {z : Nat → Prop} {f : AVal × AVal → List (AVal × AVal) → (Nat → Prop) → Nat → Prop} {L : List (List UInt8 × Int)} (h : f (.str s, .int .i64 (numL s L)) [] (fun _ => True) 0)
  (hf : ∀ t n r ih i, (seqB s t = true → f (.str s, .int .i64 n) [] (fun _ => True) 0) → (seqB s t = false → ih (i + 1)) → f (.str t, .int .i64 n) r ih i := by exact fun _ _ _ _ _ h1 h2 => (⟨fun e => (h1 e).1 (a7.2 rfl), h2⟩ : Sc _ _ _))
  (hz : f (.str s, .int .i64 0) [] (fun _ => True) 0 → ∀ i, z i := by exact fun h _ => h.1 (a7.2 rfl)) : List.rec (motive := fun _ => Nat → Prop) z f (mapE L) 0 := by
 have h1 : ∀ (L : List (List UInt8 × Int)) (i : Nat), (match bT s L i with | some (_, n) => f (.str s, .int .i64 n) [] (fun _ => True) 0 | none => ∀ i, z i) → List.rec (motive := fun _ => Nat → Prop) z f (mapE L) i := by
  intro L
  induction L with
  | nil => exact fun i h => h i
  | cons x L ih =>
   intro i h
   refine hf x.1 x.2 (mapE L) _ i (fun e => ?_) (fun e => ?_)
   ·simp only [bT, e, if_true] at h
    exact h
   ·simp only [bT, e, Bool.false_eq_true, if_false] at h
    exact ih (i + 1) h
 refine h1 L 0 ?_
 unfold numL at h
 cases hl : bT s L 0 with
 | none => rw [hl] at h; exact hz h
 | some y => rw [hl] at h; exact h
theorem sw (s : List UInt8) {z : Nat → Prop} {f : AVal × AVal → List (AVal × AVal) → (Nat → Prop) → Nat → Prop} {L : List (List UInt8 × Int)} (h1 : ∀ j n, bT s L 0 = some (j, n) → f (.str s, .int .i64 n) [] (fun _ => True) j) (h2 : bT s L 0 = none → ∀ i, z i)
  (hf : ∀ t n r ih i, (seqB s t = true → f (.str s, .int .i64 n) [] (fun _ => True) i) → (seqB s t = false → ih (i + 1)) → f (.str t, .int .i64 n) r ih i := by exact fun _ _ _ _ _ h1 h2 => (⟨fun e => (h1 e).1 (a7.2 rfl), h2⟩ : Sc _ _ _)) : List.rec (motive := fun _ => Nat → Prop) z f (mapE L) 0 := by
 have g : ∀ (L : List (List UInt8 × Int)) (i : Nat), (∀ j n, bT s L i = some (j, n) → f (.str s, .int .i64 n) [] (fun _ => True) j) → (bT s L i = none → ∀ i, z i) → List.rec (motive := fun _ => Nat → Prop) z f (mapE L) i := by
  intro L
  induction L with
  | nil => exact fun i _ h => h rfl i
  | cons x L ih =>
   intro i k1 k2
   refine hf x.1 x.2 (mapE L) _ i (fun e => ?_) (fun e => ?_)
   ·exact k1 i x.2 (by simp only [bT, e, if_true])
   ·refine ih (i + 1) (fun j n hj => k1 j n ?_) (fun hj => k2 ?_)
    ·simp only [bT, e, Bool.false_eq_true, if_false]; exact hj
    ·simp only [bT, e, Bool.false_eq_true, if_false]; exact hj
 exact g L 0 h1 h2
theorem wg (s : List UInt8) : (al 97 122 (-32) s).length = s.length := by unfold al; rw [List.length_map]
theorem Ft {v : Int} {l : List Itm} (hv : v = 3 ∨ v = 4) (h : 60 < l.length) : Crd.E ⟨v, l⟩ = .errno 4 := by unfold Crd.E; rw [if_pos hv, if_pos h]
theorem Fu {v : Int} {l : List Itm} (hv : ¬ (v = 3 ∨ v = 4)) : Crd.E ⟨v, l⟩ = .errno 1 := by unfold Crd.E; rw [if_neg hv]
theorem Fq {v : Int} {l : List Itm} (hv : v = 3 ∨ v = 4) (h : ¬ 60 < l.length) {k : Nat} (hk : k < l.length) (hj : ∀ j, j < k → (l.getD j Itm.z).w v = 0) (hb : (l.getD k Itm.z).w v ≠ 0) : Crd.E ⟨v, l⟩ = .at ((l.getD k Itm.z).w v) k := by
 unfold Crd.E
 rw [if_pos hv, if_neg h, sM (f := fun i => (l.getD i Itm.z).w v) hk hj hb]
theorem Fr {v : Int} {l : List Itm} (hv : v = 3 ∨ v = 4) (h : ¬ 60 < l.length) (hw : ∀ j, j < l.length → (l.getD j Itm.z).w v = 0) {k : Nat} (hk : k < l.length) (hj : ∀ j, j < k → fx v l j = 0) (hb : fx v l k ≠ 0) : Crd.E ⟨v, l⟩ = .at (fx v l k) k := by
 unfold Crd.E
 rw [if_pos hv, if_neg h, gi (f := fun i => (l.getD i Itm.z).w v) hw]
 dsimp only
 rw [sM hk hj hb]
theorem Fs {v : Int} {l : List Itm} (hv : v = 3 ∨ v = 4) (h : ¬ 60 < l.length) (hw : ∀ j, j < l.length → (l.getD j Itm.z).w v = 0) (hm : ∀ j, j < l.length → fx v l j = 0) : Crd.E ⟨v, l⟩ = if fstN (leE v l) (au v).length = 0 then .none else .errno 7 := by
 unfold Crd.E
 rw [if_pos hv, if_neg h, gi (f := fun i => (l.getD i Itm.z).w v) hw]
 dsimp only
 rw [gi hm]
theorem Cn {v : Int} {l : List Itm} {i : Nat} (h : 0 < (ba v (l.getD i Itm.z).1.n).b) (h2 : (ba v (l.getD i Itm.z).1.n).b ≤ (cntI l (al 97 122 (-32) (l.getD i Itm.z).1.n) i : Int)) : fx v l i = 9 := by unfold fx; rw [if_pos ⟨h, h2⟩]
theorem Co {v : Int} {l : List Itm} {i : Nat} (h : ¬ (0 < (ba v (l.getD i Itm.z).1.n).b ∧ (ba v (l.getD i Itm.z).1.n).b ≤ (cntI l (al 97 122 (-32) (l.getD i Itm.z).1.n) i : Int))) : fx v l i = 0 := by unfold fx; rw [if_neg h]
theorem le_7 {v : Int} {l : List Itm} {i : Nat} (h : (cntI l ((au v).getD i []) l.length : Int) < (ba v ((au v).getD i [])).a) : leE v l i = 7 := by unfold leE; rw [if_pos h]
theorem le_0 {v : Int} {l : List Itm} {i : Nat} (h : ¬ (cntI l ((au v).getD i []) l.length : Int) < (ba v ((au v).getD i [])).a) : leE v l i = 0 := by unfold leE; rw [if_neg h]
theorem EQ {l : List Itm} {k : Nat} (hk : k < l.length) {L : List (List UInt8 × Int)} (h : ∀ s, numL s L = cntI l s k) : ∀ s, numL s (updL (al 97 122 (-32) (l.getD k Itm.z).1.n) (numL (al 97 122 (-32) (l.getD k Itm.z).1.n) L + 1) L) = cntI l s (k + 1) := by
 intro s
 rw [Cj, my hk, h, h]
 cases hs : seqB s (al 97 122 (-32) (l.getD k Itm.z).1.n) with
 | true =>
  have := a7.1 hs
  rw [if_pos rfl, ← this, if_pos (a7.2 rfl)]
  omega
 | false =>
  rw [if_neg (by decide), if_neg (fun h => absurd (a7.2 (a7.1 h).symm) (by rw [hs]; decide))]
  omega
attribute [local irreducible] AWp AOps aa ax OrOk ad ae
attribute [local irreducible] al ba cntI mapE bT numL updL au Itm.w fx leE
theorem AR {G : Glo} {m : Int} (hE : ad G errTy) (hE2 : ij G) (hP : co G) (hM : ad G (bI m)) (hS : SpIs G) (v : Int) (x : Itm) (hx : x.OK 2500) : FnIs Tryz.prog G 8 [itR x, .int .i64 v] (.tuple [.str (x.lT v), (x.lE v).A]) := by
 have q1 := Tryz.call24
 have q3 := Tryz.call23
 have hc := iO (G := G) v
 have hpr := mz (G := G) hE hM v x hx
 have hLP := j7 (G := G) x.ln (eqB v 4) (Itm.fit hx)
 have ho : ∀ _ : v = 3 ∨ v = 4, FnIs Tryz.prog G 21 [itR x, .int .i64 v] (.int .i64 (x.w v)) := fun hv => vH hE hE2 hP hM hS v hv x hx
 have h2 := Bb (v := v) (x := x)
 have h3 := w_E (v := v) (x := x)
 unfold Itm.lT Itm.lE Itm.L
 unfold Ln.A at hpr hLP
 unfold itR at hpr ho ⊢
 obtain ⟨⟨g, n, ps, vv⟩, u⟩ := x
 unfold Itm.ln at hpr hLP h2 ⊢
 dsimp only at *
 generalize Itm.w v _ = W at *
 generalize Ln.E (eqB v 4) ⟨g, n, ps, u.T⟩ = eL at *
 generalize Ln.T (eqB v 4) ⟨g, n, ps, u.T⟩ = tL at *
 generalize u.E = eV at *
 generalize u.T = tV at *
 by_cases hv : v = 3 ∨ v = 4
 ·have ho := ho hv
  rw [if_pos hv, if_pos hv]
  by_cases hw : W = 0
  ·subst hw
   obtain rfl := h2 rfl
   obtain rfl := h3 rfl
   simp only [if_true, Err.A] at *
   have key : ∀ _ : v = 3 ∨ v = 4, FnIs Tryz.prog G 8 [itR (⟨g, n, ps, vv⟩, u), .int .i64 v] (.tuple [.str tL, .raw .nilIface]) := by
    intro hv
    unfold itR
    have hGL : ad G [] := ab
    refine fn_x Tryz.func8 Tryz.call8 rfl rfl rfl rfl hGL ?_
    intro C hC
    rcases hv with e3 | e3
    ·refine xn1 ?_
     intros
     refine eb (aX (i := 0) (k := 7) rfl rfl) ?_
     refine dw_p mixed hC hGL false (fun _ : Unit => [(4, .str tL), (5, .raw .nilIface)]) (fun _ => [bE]) (.take 0 (.take 1 (.br 2 (.br 3 (.take 4 (.take 5 (.take 6 (.take 7 (.done))))) (.nil)) (.nil)))) (by kernel_rfl) ?_ ?_
     ·refine xn ?_
      repeat' (first | exact Le.n | refine Lc.mk ?_ ?_)
      all_goals intros
      all_goals exact ⟨(), ai, rfl⟩
     intro _
     exact xw0
    ·have e4 : v ≠ 3 := by omega
     refine xn1 ?_
     intros
     refine eb (aX (i := 0) (k := 7) rfl rfl) ?_
     refine dw_p mixed hC hGL false (fun _ : Unit => [(4, .str tL), (5, .raw .nilIface)]) (fun _ => [bE]) (.take 0 (.take 1 (.br 2 (.br 3 (.take 4 (.take 5 (.take 6 (.take 7 (.done))))) (.nil)) (.nil)))) (by kernel_rfl) ?_ ?_
     ·refine xn ?_
      repeat' (first | exact Le.n | refine Lc.mk ?_ ?_)
      all_goals intros
      all_goals exact ⟨(), ai, rfl⟩
     intro _
     exact xw0
   exact key hv
  ·rw [if_neg hw, if_neg hw]
   simp only [Err.A, errA]
   have hGL : ad G [] := ab
   refine fn_x Tryz.func8 Tryz.call8 rfl rfl rfl rfl hGL ?_
   intro C hC
   rcases hv with rfl | rfl <;> exact xw0
 ·rw [if_neg hv, if_neg hv]
  simp only [Err.A, errA]
  have hv1 : v ≠ 3 := fun h => hv (.inl h)
  have hv2 : v ≠ 4 := fun h => hv (.inr h)
  have hGL : ad G [] := ab
  refine fn_x Tryz.func8 Tryz.call8 rfl rfl rfl rfl hGL ?_
  intro C hC
  exact xw0
theorem pF {G : Glo} {m : Int} (hE : ad G errTy) (hE2 : ij G) (hP : co G) (hM : ad G (bI m)) (hS : SpIs G) (c : Crd) (hf : c.ok) : FnIs Tryz.prog G 11 [c.A] c.E.A := by
 obtain ⟨v, l⟩ := c
 obtain ⟨h70, ho⟩ := hf
 dsimp only at h70 ho
 have hN := uj (G := G) v
 by_cases hv : v = 3 ∨ v = 4
 ·have hve : verE v = .none := by unfold verE; rw [if_pos hv]
  rw [hve] at hN
  simp only [Err.A] at hN
  by_cases h60 : 60 < l.length
  ·rw [Ft hv h60]
   have hGL : ad G [] := ab
   refine fn_x Tryz.func11 Tryz.call11 rfl rfl rfl rfl hGL ?_
   intro C hC
   exact xw0
  ·have hone : ∀ k, k < l.length → FnIs Tryz.prog G 21 [itR (l.getD k Itm.z), .int .i64 v] (.int .i64 ((l.getD k Itm.z).w v)) := fun k hk => vH hE hE2 hP hM hS v hv _ (eX ho hk)
   have hGL : ad G [] := ab
   refine fn_x Tryz.func11 Tryz.call11 rfl rfl rfl rfl hGL ?_
   intro C hC
   refine xw1 ?_
   intros
   refine lp hC hGL (fun k : Nat => [(1, .rop [.int .i64 v, .list 15 l.length (itsF l)] 0), (3, .list 1 (au v).length (aF (au v))), (33, .list 15 l.length (itsF l)), (34, .int .i64 (l.length : Nat)), (35, .int .i64 (k : Nat))]) (fun _ => []) (fun k => k ≤ l.length ∧ ∀ j, j < k → (l.getD j Itm.z).w v = 0) (fun k => l.length - k) 0 ⟨Nat.zero_le _, fun j h => absurd h (Nat.not_lt_zero _)⟩ ai rfl ?_
   rintro k ⟨k1, k2⟩
   by_cases hk : k < l.length
   ·have h1 := hone k hk
    unfold itR at h1
    by_cases hw : (l.getD k Itm.z).w v = 0
    ·rw [hw] at h1
     refine xw1 ?_
     intros
     exact nxs (k + 1) ⟨hk, aM k2 hw⟩ (by omega) ai aR
    ·rw [Fq hv h60 hk k2 hw]
     simp only [Err.A, atA]
     exact xw0
   ·obtain rfl : k = l.length := by omega
    refine xw1 ?_
    intro bl
    intros
    refine lp hC hGL (fun z : Nat × List (List UInt8 × Int) => [(1, .rop [.int .i64 v, .list 15 l.length (itsF l)] 0), (3, .list 1 (au v).length (aF (au v))), (8, .own 0 (.map (some bl))), (54, .list 15 l.length (itsF l)), (55, .int .i64 (l.length : Nat)), (56, .int .i64 (z.1 : Nat))]) (fun z => [.mp bl (mapE z.2)]) (fun z => z.1 ≤ l.length ∧ (∀ s, numL s z.2 = cntI l s z.1) ∧ ∀ j, j < z.1 → fx v l j = 0) (fun z => l.length - z.1) (0, []) ⟨Nat.zero_le _, fun s => by rw [ro]; unfold numL; simp only [bT]; rfl, fun j h => absurd h (Nat.not_lt_zero _)⟩ ai (by unfold mapE; rfl) ?_
    rintro ⟨k, L⟩ ⟨k1, kL, km⟩
    dsimp only at k1 kL km ⊢
    by_cases hk : k < l.length
    ·have hnl : (l.getD k Itm.z).1.n.length ≤ 2500 := (eX ho hk).p.n
     have hU := dG (G := G) (l.getD k Itm.z).1.n (by omega)
     have hul := wg (l.getD k Itm.z).1.n
     have hR := kG (G := G) hS v (al 97 122 (-32) (l.getD k Itm.z).1.n) (by omega)
     have hcnt := kL (al 97 122 (-32) (l.getD k Itm.z).1.n)
     have hcl := lm l (al 97 122 (-32) (l.getD k Itm.z).1.n) k
     have hupd := EQ hk kL
     have h9 := Cn (v := v) (l := l) (i := k)
     have h0 := Co (v := v) (l := l) (i := k)
     have hsc := hupd (al 97 122 (-32) (l.getD k Itm.z).1.n)
     have hsu := my (s := al 97 122 (-32) (l.getD k Itm.z).1.n) hk
     rw [if_pos (a7.2 rfl)] at hsu
     rw [D8, hve] at hR
     unfold Rl.A at hR
     simp only [Err.A] at hR
     refine xw1 ?_
     intros
     have hcm := fun h => Fr (v := v) hv h60 k2 hk km h
     generalize ba v (l.getD k Itm.z).1.n = r at *
     obtain ⟨r0, r1, r2, r3⟩ := r
     dsimp only at *
     generalize al 97 122 (-32) (l.getD k Itm.z).1.n = U at *
     refine eW U ?_
     generalize numL U L = NN at *
     generalize cntI l U k = cn at *
     by_cases hb : 0 < r2
     ·by_cases hc : r2 ≤ (cn : Int)
      ·have h9 := h9 hb hc
       rw [h9] at hcm
       rw [hcm (by decide)]
       simp only [Err.A, atA]
       refine xw1 ?_
       intros
       refine sw U (fun j n hl => ?_) (fun hl i => ?_)
       ·have eL : (mapE L).set j (AVal.str U, AVal.int .i64 (NN + 1)) = mapE (updL U (NN + 1) L) := by rw [oQ]; unfold updL; rw [hl]
        refine xw1 ?_
        intros
        rw [eL]
        refine eW U ?_
        generalize numL U (updL U (NN + 1) L) = N2 at *
        exact xw0
       ·have eL : mapE L ++ [(AVal.str U, AVal.int .i64 (NN + 1))] = mapE (updL U (NN + 1) L) := by rw [mf]; unfold updL; rw [hl]
        refine xw1 ?_
        intros
        rw [eL]
        refine eW U ?_
        generalize numL U (updL U (NN + 1) L) = N2 at *
        exact xw0
      ·have h0 := h0 (fun h => hc h.2)
       refine xw1 ?_
       intros
       refine sw U (fun j n hl => ?_) (fun hl i => ?_)
       ·have eL : (mapE L).set j (AVal.str U, AVal.int .i64 (NN + 1)) = mapE (updL U (NN + 1) L) := by rw [oQ]; unfold updL; rw [hl]
        refine xw1 ?_
        intros
        rw [eL]
        refine eW U ?_
        have hsc2 := hsc
        generalize numL U (updL U (NN + 1) L) = N2 at hsc2 ⊢
        refine xw1 ?_
        intros
        exact nxs (k + 1, updL U (NN + 1) L) ⟨hk, hupd, aM km h0⟩ (by dsimp only; omega) ai aR
       ·have eL : mapE L ++ [(AVal.str U, AVal.int .i64 (NN + 1))] = mapE (updL U (NN + 1) L) := by rw [mf]; unfold updL; rw [hl]
        refine xw1 ?_
        intros
        rw [eL]
        refine eW U ?_
        have hsc2 := hsc
        generalize numL U (updL U (NN + 1) L) = N2 at hsc2 ⊢
        refine xw1 ?_
        intros
        exact nxs (k + 1, updL U (NN + 1) L) ⟨hk, hupd, aM km h0⟩ (by dsimp only; omega) ai aR
     ·have h0 := h0 (fun h => hb h.1)
      refine xw1 ?_
      intros
      refine sw U (fun j n hl => ?_) (fun hl i => ?_)
      ·have eL : (mapE L).set j (AVal.str U, AVal.int .i64 (NN + 1)) = mapE (updL U (NN + 1) L) := by rw [oQ]; unfold updL; rw [hl]
       refine xw1 ?_
       intros
       rw [eL]
       exact nxs (k + 1, updL U (NN + 1) L) ⟨hk, hupd, aM km h0⟩ (by dsimp only; omega) ai aR
      ·have eL : mapE L ++ [(AVal.str U, AVal.int .i64 (NN + 1))] = mapE (updL U (NN + 1) L) := by rw [mf]; unfold updL; rw [hl]
       refine xw1 ?_
       intros
       rw [eL]
       exact nxs (k + 1, updL U (NN + 1) L) ⟨hk, hupd, aM km h0⟩ (by dsimp only; omega) ai aR
    ·obtain rfl : k = l.length := by omega
     rw [Fs hv h60 k2 km]
     refine xw1 ?_
     intros
     refine lp hC hGL (fun k : Nat => [(1, .rop [.int .i64 v, .list 15 l.length (itsF l)] 0), (8, .own 0 (.map (some bl))), (91, .list 1 (au v).length (aF (au v))), (92, .int .i64 ((au v).length : Nat)), (93, .int .i64 (k : Nat))]) (fun _ => [.mp bl (mapE L)]) (fun k => k ≤ (au v).length ∧ ∀ j, j < k → leE v l j = 0) (fun k => (au v).length - k) 0 ⟨Nat.zero_le _, fun j h => absurd h (Nat.not_lt_zero _)⟩ ai rfl ?_
     rintro k ⟨k1, kl⟩
     by_cases hk : k < (au v).length
     ·have hnn := uK hk
      have hnl := qN v
      have hR := kG (G := G) hS v ((au v).getD k []) (by omega)
      have hcl := lm l ((au v).getD k []) l.length
      have hcnt := kL ((au v).getD k [])
      rw [hve] at hR
      unfold Rl.A at hR
      simp only [Err.A] at hR
      have h7 := le_7 (v := v) (l := l) (i := k)
      have h0 := le_0 (v := v) (l := l) (i := k)
      have hf7 := fun h => nz (f := leE v l) hk kl h
      generalize ba v ((au v).getD k []) = r at *
      obtain ⟨r0, r1, r2, r3⟩ := r
      dsimp only at *
      generalize cntI l ((au v).getD k []) l.length = N at *
      by_cases hb : (N : Int) < r1
      ·have h7 := h7 hb
       rw [h7] at hf7
       rw [hf7 (by decide), if_neg (by decide)]
       simp only [Err.A, errA]
       refine xw1 ?_
       intros
       refine eW ((au v).getD k []) ?_
       rw [hcnt]
       exact xw0
      ·have h0 := h0 hb
       refine xw1 ?_
       intros
       refine eW ((au v).getD k []) ?_
       rw [hcnt]
       refine xw1 ?_
       intros
       exact nxs (k + 1) ⟨hk, aM kl h0⟩ (by omega) ai aR
     ·obtain rfl : k = (au v).length := by omega
      rw [gh (f := leE v l) kl, if_pos rfl]
      simp only [Err.A]
      exact xw0
 ·rw [Fu hv]
  have hve : verE v = .errno 1 := by unfold verE; rw [if_neg hv]
  rw [hve] at hN
  simp only [Err.A, errA] at hN ⊢
  have hGL : ad G [] := ab
  refine fn_x Tryz.func11 Tryz.call11 rfl rfl rfl rfl hGL ?_
  intro C hC
  exact xw0
end
section
open Go Go.RowKit
attribute [local irreducible] AWp AOps aa ax OrOk ad ae
attribute [local irreducible] al ba cntI au Itm.w fx leE
theorem sj {G : Glo} {m : Int} (hU : ad G utfTy) (hM : ad G (bI m)) (hH : ad G shapesTy) (hP : co G) (v : Int) (x : Itm) (hx : x.OK 2500) : FnIs Tryz.prog G 7 [itR x, .int .i64 v] (.tuple [.str (x.lT v), .int .i64 (x.lE v).e]) := by
 have hlo := jY hU hM hH hP v x hx
 have ho : ∀ _ : v = 3 ∨ v = 4, FnIs Tryz.prog G 19 [itR x, .int .i64 v] (.int .i64 (x.w v)) := fun hv => qF hU hM hH hP v hv x hx
 unfold Itm.lT Itm.lE
 unfold itR at hlo ho ⊢
 generalize x.w v = W at *
 generalize x.L v = tL at *
 by_cases hv : v = 3 ∨ v = 4
 ·have ho := ho hv
  rw [if_pos hv, if_pos hv]
  by_cases hw : W = 0
  ·subst hw
   simp only [if_true, Err.e]
   have hGL : ad G [] := ab
   refine fn_x Tryz.func7 Tryz.call7 rfl rfl rfl rfl hGL ?_
   intro C hC
   rcases hv with rfl | rfl <;> exact xw0
  ·rw [if_neg hw, if_neg hw]
   simp only [Err.e]
   have hGL : ad G [] := ab
   refine fn_x Tryz.func7 Tryz.call7 rfl rfl rfl rfl hGL ?_
   intro C hC
   rcases hv with rfl | rfl <;> exact xw0
 ·rw [if_neg hv, if_neg hv]
  simp only [Err.e]
  have hv1 : v ≠ 3 := fun h => hv (.inl h)
  have hv2 : v ≠ 4 := fun h => hv (.inr h)
  have hGL : ad G [] := ab
  refine fn_x Tryz.func7 Tryz.call7 rfl rfl rfl rfl hGL ?_
  intro C hC
  exact xw0
theorem qH {G : Glo} (v : Int) (l : List Itm) (h70 : l.length ≤ 1000000) (ho : ∀ x ∈ l, Itm.OK 2500 x) (s : List UInt8) (hs : s.length ≤ 1000000) (n : Nat) (hn : n ≤ l.length) : FnIs Tryz.prog G 31 [.str s, .int .i64 (n : Int), .rop [.int .i64 v, .list 15 l.length (itsF l)] 0] (.int .i64 (cntI l (al 97 122 (-32) s) n : Nat)) := by
 have hGL : ad G [] := ab
 refine fn_x Tryz.func31 Tryz.call31 rfl rfl rfl rfl hGL ?_
 intro C hC
 refine xw1 ?_
 intros
 refine lp hC hGL (fun k : Nat => [(0, .str s), (6, .int .i64 (cntI l (al 97 122 (-32) s) k : Nat)), (12, .list 15 n (itsF l)), (13, .int .i64 (n : Nat)), (14, .int .i64 (k : Nat))]) (fun _ => []) (fun k => k ≤ n) (fun k => n - k) 0 (Nat.zero_le _) (by rw [ro]; exact ai) rfl ?_
 intro k k1
 have k1 : k ≤ n := k1
 have hcl := lm l (al 97 122 (-32) s) k
 by_cases hk : k < n
 ·have hkl : k < l.length := by omega
  have hnl : (l.getD k Itm.z).1.n.length ≤ 2500 := (eX ho hkl).p.n
  have hS := dY (G := G) (l.getD k Itm.z).1.n s (by omega) (by omega)
  have hsu := my (s := al 97 122 (-32) s) hkl
  rw [e8] at hS
  generalize al 97 122 (-32) s = U at *
  cases hb : seqB (al 97 122 (-32) (l.getD k Itm.z).1.n) U with
  | true =>
   rw [hb] at hS hsu
   rw [if_pos rfl] at hsu
   have e : ((cntI l U k : Nat) : Int) + 1 = ((cntI l U (k + 1) : Nat) : Int) := by omega
   refine xw1 ?_
   intros
   exact nxs (k + 1) hk (by omega) (by refine ⟨rfl, ?_, rfl, rfl, rfl, trivial⟩; exact congrArg (fun z => some (AVal.int .i64 z)) e) aR
  | false =>
   rw [hb] at hS hsu
   rw [if_neg (by decide), Nat.add_zero] at hsu
   refine xw1 ?_
   intros
   exact nxs (k + 1) hk (by omega) (by rw [hsu]; exact ai) aR
 ·obtain rfl : k = n := by omega
  exact xw0
theorem jI {G : Glo} {m : Int} (hU : ad G utfTy) (hM : ad G (bI m)) (hH : ad G shapesTy) (hP : co G) (c : Crd) (hf : c.ok) : FnIs Tryz.prog G 12 [c.A] (.agg [.int .i64 c.E.e, .int .i64 c.E.p]) := by
 obtain ⟨v, l⟩ := c
 obtain ⟨h70, ho⟩ := hf
 dsimp only at h70 ho
 have q1 := Tryz.call31
 have hN := p7 (G := G) v
 have hB := fun e => dj (G := G) e
 have hG := di (G := G)
 by_cases hv : v = 3 ∨ v = 4
 ·have hve : verE v = .none := by unfold verE; rw [if_pos hv]
  rw [hve] at hN
  simp only [Err.e] at hN
  by_cases h60 : 60 < l.length
  ·rw [Ft hv h60]
   have hB := hB 4
   simp only [Err.e, Err.p]
   have hGL : ad G [] := ab
   refine fn_x Tryz.func12 Tryz.call12 rfl rfl rfl rfl hGL ?_
   intro C hC
   exact xw0
  ·have hone : ∀ k, k < l.length → FnIs Tryz.prog G 19 [itR (l.getD k Itm.z), .int .i64 v] (.int .i64 ((l.getD k Itm.z).w v)) := fun k hk => qF hU hM hH hP v hv _ (eX ho hk)
   have hGL : ad G [] := ab
   refine fn_x Tryz.func12 Tryz.call12 rfl rfl rfl rfl hGL ?_
   intro C hC
   refine xw1 ?_
   intro bl
   intros
   refine lp hC hGL (fun k : Nat => [(1, .rop [.int .i64 v, .list 15 l.length (itsF l)] 0), (2, .own 0 (.pointer (some ⟨bl, 0, none⟩))), (3, .list 1 (au v).length (aF (au v))), (33, .list 15 l.length (itsF l)), (34, .int .i64 (l.length : Nat)), (35, .int .i64 (k : Nat))]) (fun _ => [.cells bl (some 45) [.int .i64 0, .int .i64 0]]) (fun k => k ≤ l.length ∧ ∀ j, j < k → (l.getD j Itm.z).w v = 0) (fun k => l.length - k) 0 ⟨Nat.zero_le _, fun j h => absurd h (Nat.not_lt_zero _)⟩ ai rfl ?_
   rintro k ⟨k1, k2⟩
   by_cases hk : k < l.length
   ·have h1 := hone k hk
    unfold itR at h1
    by_cases hw : (l.getD k Itm.z).w v = 0
    ·rw [hw] at h1
     refine xw1 ?_
     intros
     exact nxs (k + 1) ⟨hk, aM k2 hw⟩ (by omega) ai aR
    ·rw [Fq hv h60 hk k2 hw]
     simp only [Err.e, Err.p]
     exact xw0
   ·obtain rfl : k = l.length := by omega
    refine xw1 ?_
    intros
    refine lp hC hGL (fun k : Nat => [(1, .rop [.int .i64 v, .list 15 l.length (itsF l)] 0), (2, .own 0 (.pointer (some ⟨bl, 0, none⟩))), (3, .list 1 (au v).length (aF (au v))), (8, .func (.func 31) [] [.rop [.int .i64 v, .list 15 l.length (itsF l)] 0]), (52, .list 15 l.length (itsF l)), (53, .int .i64 (l.length : Nat)), (54, .int .i64 (k : Nat))]) (fun _ => [.cells bl (some 45) [.int .i64 0, .int .i64 0]]) (fun k => k ≤ l.length ∧ ∀ j, j < k → fx v l j = 0) (fun k => l.length - k) 0 ⟨Nat.zero_le _, fun j h => absurd h (Nat.not_lt_zero _)⟩ ai rfl ?_
    rintro k ⟨k1, km⟩
    by_cases hk : k < l.length
    ·have hnl : (l.getD k Itm.z).1.n.length ≤ 2500 := (eX ho hk).p.n
     have hR := kO (G := G) v (l.getD k Itm.z).1.n (by omega)
     have hA := qH (G := G) v l h70 ho (l.getD k Itm.z).1.n (by omega) k k1
     have hcl := lm l (al 97 122 (-32) (l.getD k Itm.z).1.n) k
     have h9 := Cn (v := v) (l := l) (i := k)
     have h0 := Co (v := v) (l := l) (i := k)
     have hcm := fun h => Fr (v := v) hv h60 k2 hk km h
     rw [hve] at hR
     unfold Rl.A at hR
     simp only [Err.e] at hR
     generalize ba v (l.getD k Itm.z).1.n = r at *
     obtain ⟨r0, r1, r2, r3⟩ := r
     dsimp only at *
     generalize cntI l (al 97 122 (-32) (l.getD k Itm.z).1.n) k = N at *
     by_cases hb : 0 < r2
     ·by_cases hc : r2 ≤ (N : Int)
      ·have h9 := h9 hb hc
       rw [h9] at hcm
       rw [hcm (by decide)]
       simp only [Err.e, Err.p]
       refine xn1 ?_
       intros
       refine eb (dT (aX (i := 2) (k := 11) rfl rfl) (aX (i := 1) (k := 10) rfl rfl)) ?_
       refine dw_p mixed hC hGL false (fun _ : Unit => [(1, .rop [.int .i64 v, .list 15 l.length (itsF l)] 0), (2, .own 0 (.pointer (some ⟨bl, 0, none⟩))), (3, .list 1 (au v).length (aF (au v))), (8, .func (.func 31) [] [.rop [.int .i64 v, .list 15 l.length (itsF l)] 0]), (9, .int .i64 (k : Nat)), (52, .list 15 l.length (itsF l)), (53, .int .i64 (l.length : Nat)), (54, .int .i64 (k : Nat)), (79, .bool (!ltB (N : Int) r2))]) (fun _ => [.cells bl (some 45) [.int .i64 0, .int .i64 0], bE, bE]) (.take 0 (.take 1 (.take 2 (.take 3 (.take 4 (.take 5 (.take 6 (.take 7 (.take 9 (.take 10 (.br 8 (.take 11 (.take 12 (.done))) (.nil)))))))))))) (by kernel_rfl) ?_ ?_
       ·refine xn ?_
        repeat' (first | exact Le.n | refine Lc.mk ?_ ?_)
        all_goals intros
        all_goals exact ⟨(), ai, rfl⟩
       intro _
       exact xw0
      ·have h0 := h0 (fun h => hc h.2)
       refine xn1 ?_
       intros
       refine eb (dT (aX (i := 2) (k := 11) rfl rfl) (aX (i := 1) (k := 10) rfl rfl)) ?_
       refine dw_p mixed hC hGL false (fun _ : Unit => [(1, .rop [.int .i64 v, .list 15 l.length (itsF l)] 0), (2, .own 0 (.pointer (some ⟨bl, 0, none⟩))), (3, .list 1 (au v).length (aF (au v))), (8, .func (.func 31) [] [.rop [.int .i64 v, .list 15 l.length (itsF l)] 0]), (9, .int .i64 (k : Nat)), (52, .list 15 l.length (itsF l)), (53, .int .i64 (l.length : Nat)), (54, .int .i64 (k : Nat)), (79, .bool (!ltB (N : Int) r2))]) (fun _ => [.cells bl (some 45) [.int .i64 0, .int .i64 0], bE, bE]) (.take 0 (.take 1 (.take 2 (.take 3 (.take 4 (.take 5 (.take 6 (.take 7 (.take 9 (.take 10 (.br 8 (.take 11 (.take 12 (.done))) (.nil)))))))))))) (by kernel_rfl) ?_ ?_
       ·refine xn ?_
        repeat' (first | exact Le.n | refine Lc.mk ?_ ?_)
        all_goals intros
        all_goals exact ⟨(), ai, rfl⟩
       intro _
       refine xw1 ?_
       intros
       exact nxs (k + 1) ⟨hk, aM km h0⟩ (by omega) ai aR
     ·have h0 := h0 (fun h => hb h.1)
      refine xn1 ?_
      intros
      refine eb (dT (aX (i := 2) (k := 11) rfl rfl) (aX (i := 1) (k := 10) rfl rfl)) ?_
      refine dw_p mixed hC hGL false (fun _ : Unit => [(1, .rop [.int .i64 v, .list 15 l.length (itsF l)] 0), (2, .own 0 (.pointer (some ⟨bl, 0, none⟩))), (3, .list 1 (au v).length (aF (au v))), (8, .func (.func 31) [] [.rop [.int .i64 v, .list 15 l.length (itsF l)] 0]), (9, .int .i64 (k : Nat)), (52, .list 15 l.length (itsF l)), (53, .int .i64 (l.length : Nat)), (54, .int .i64 (k : Nat)), (79, .bool false)]) (fun _ => [.cells bl (some 45) [.int .i64 0, .int .i64 0], bE, bE]) (.take 0 (.take 1 (.take 2 (.take 3 (.take 4 (.take 5 (.take 6 (.take 7 (.take 9 (.take 10 (.br 8 (.take 11 (.take 12 (.done))) (.nil)))))))))))) (by kernel_rfl) ?_ ?_
      ·refine xn ?_
       repeat' (first | exact Le.n | refine Lc.mk ?_ ?_)
       all_goals intros
       all_goals exact ⟨(), ai, rfl⟩
      intro _
      refine xw1 ?_
      intros
      exact nxs (k + 1) ⟨hk, aM km h0⟩ (by omega) ai aR
    ·obtain rfl : k = l.length := by omega
     rw [Fs hv h60 k2 km]
     refine xw1 ?_
     intros
     refine lp hC hGL (fun k : Nat => [(1, .rop [.int .i64 v, .list 15 l.length (itsF l)] 0), (2, .own 0 (.pointer (some ⟨bl, 0, none⟩))), (8, .func (.func 31) [] [.rop [.int .i64 v, .list 15 l.length (itsF l)] 0]), (83, .list 1 (au v).length (aF (au v))), (84, .int .i64 ((au v).length : Nat)), (85, .int .i64 (k : Nat))]) (fun _ => [.cells bl (some 45) [.int .i64 0, .int .i64 0]]) (fun k => k ≤ (au v).length ∧ ∀ j, j < k → leE v l j = 0) (fun k => (au v).length - k) 0 ⟨Nat.zero_le _, fun j h => absurd h (Nat.not_lt_zero _)⟩ ai rfl ?_
     rintro k ⟨k1, kl⟩
     by_cases hk : k < (au v).length
     ·have hnn := uK hk
      have hnl := qN v
      have hR := kO (G := G) v ((au v).getD k []) (by omega)
      have hA := qH (G := G) v l h70 ho ((au v).getD k []) (by omega) l.length (Nat.le_refl _)
      have hcl := lm l ((au v).getD k []) l.length
      have hB := hB 7
      rw [hnn.1] at hA
      rw [hve] at hR
      unfold Rl.A at hR
      simp only [Err.e] at hR
      have h7 := le_7 (v := v) (l := l) (i := k)
      have h0 := le_0 (v := v) (l := l) (i := k)
      have hf7 := fun h => nz (f := leE v l) hk kl h
      generalize ba v ((au v).getD k []) = r at *
      obtain ⟨r0, r1, r2, r3⟩ := r
      dsimp only at *
      generalize cntI l ((au v).getD k []) l.length = N at *
      by_cases hb : (N : Int) < r1
      ·have h7 := h7 hb
       rw [h7] at hf7
       rw [hf7 (by decide), if_neg (by decide)]
       simp only [Err.e, Err.p]
       refine xn1 ?_
       intros
       refine eb (aX (i := 1) (k := 15) rfl rfl) ?_
       refine dw_p mixed hC hGL false (fun _ : Unit => [(1, .rop [.int .i64 v, .list 15 l.length (itsF l)] 0), (2, .own 0 (.pointer (some ⟨bl, 0, none⟩))), (8, .func (.func 31) [] [.rop [.int .i64 v, .list 15 l.length (itsF l)] 0]), (83, .list 1 (au v).length (aF (au v))), (84, .int .i64 ((au v).length : Nat)), (85, .int .i64 (k : Nat)), (104, .bool (ltB (N : Int) r1))]) (fun _ => [.cells bl (some 45) [.int .i64 0, .int .i64 0], bE]) (.take 0 (.take 1 (.take 2 (.take 3 (.take 4 (.take 6 (.take 7 (.br 5 (.take 8 (.done)) (.nil))))))))) (by kernel_rfl) ?_ ?_
       ·refine xn ?_
        repeat' (first | exact Le.n | refine Lc.mk ?_ ?_)
        all_goals intros
        all_goals exact ⟨(), ai, rfl⟩
       intro _
       exact xw0
      ·have h0 := h0 hb
       refine xn1 ?_
       intros
       refine eb (aX (i := 1) (k := 15) rfl rfl) ?_
       refine dw_p mixed hC hGL false (fun _ : Unit => [(1, .rop [.int .i64 v, .list 15 l.length (itsF l)] 0), (2, .own 0 (.pointer (some ⟨bl, 0, none⟩))), (8, .func (.func 31) [] [.rop [.int .i64 v, .list 15 l.length (itsF l)] 0]), (83, .list 1 (au v).length (aF (au v))), (84, .int .i64 ((au v).length : Nat)), (85, .int .i64 (k : Nat)), (104, .bool (ltB (N : Int) r1))]) (fun _ => [.cells bl (some 45) [.int .i64 0, .int .i64 0], bE]) (.take 0 (.take 1 (.take 2 (.take 3 (.take 4 (.take 6 (.take 7 (.br 5 (.take 8 (.done)) (.nil))))))))) (by kernel_rfl) ?_ ?_
       ·refine xn ?_
        repeat' (first | exact Le.n | refine Lc.mk ?_ ?_)
        all_goals intros
        all_goals exact ⟨(), ai, rfl⟩
       intro _
       refine xw1 ?_
       intros
       exact nxs (k + 1) ⟨hk, aM kl h0⟩ (by omega) ai aR
     ·obtain rfl : k = (au v).length := by omega
      rw [gh (f := leE v l) kl, if_pos rfl]
      simp only [Err.e, Err.p]
      exact xw0
 ·rw [Fu hv]
  have hve : verE v = .errno 1 := by unfold verE; rw [if_neg hv]
  rw [hve] at hN
  have hB := hB 1
  simp only [Err.e, Err.p] at hN ⊢
  have hGL : ad G [] := ab
  refine fn_x Tryz.func12 Tryz.call12 rfl rfl rfl rfl hGL ?_
  intro C hC
  exact xw0
end
end Go.Proofs.YtahebkecmlmlfaaGreatDoor
