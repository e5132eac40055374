/- Parts of the proof of prints_root: Crs, Crv, Cru. -/
import Derived.Test.YtahebkecmlmlfaaGreatDoorBao
import Derived.Test.YtahebkecmlmlfaaGreatDoorBal
import Derived.Test.YtahebkecmlmlfaaGreatDoorBah
import Derived.Test.YtahebkecmlmlfaaGreatDoorBae
set_option linter.unusedVariables false
set_option linter.unusedSimpArgs false
set_option linter.unusedSectionVars false
namespace Go.Proofs.YtahebkecmlmlfaaGreatDoor
set_option maxRecDepth 20000
set_option maxHeartbeats 4000000
section
open Go Go.RowKit
theorem eY (s : List UInt8) {z : Nat → Prop} {f : AVal × AVal → List (AVal × AVal) → (Nat → Prop) → Nat → Prop} {L : List (List UInt8 × Int)} (h : f (.str s, .int .i64 (numL s L)) [] (fun _ => True) 0)
  (hf : ∀ t n r ih i, (seqB s t = true → f (.str s, .int .i64 n) [] (fun _ => True) 0) → (seqB s t = false → ih (i + 1)) → f (.str t, .int .i64 n) r ih i := by exact fun _ _ _ _ _ h1 h2 => (⟨fun e => (h1 e).1 (a7.2 rfl), h2⟩ : Sc _ _ _))
  (hz : f (.str s, .int .i64 0) [] (fun _ => True) 0 → ∀ i, z i := by exact fun h _ => h.1 (a7.2 rfl)) : List.rec (motive := fun _ => Nat → Prop) z f (mapE L) 0 := by
 have h1 : ∀ (L : List (List UInt8 × Int)) (i : Nat), (match bT s L i with | some (_, n) => f (.str s, .int .i64 n) [] (fun _ => True) 0 | none => ∀ i, z i) → List.rec (motive := fun _ => Nat → Prop) z f (mapE L) i := by
  intro L
  induction L with
  | nil => exact fun i h => h i
  | cons x L ih =>
   intro i h
   refine hf x.1 x.2 (mapE L) _ i (fun e => ?_) (fun e => ?_)
   ·simp only [bT, e, if_true] at h
    exact h
   ·simp only [bT, e, Bool.false_eq_true, if_false] at h
    exact ih (i + 1) h
 refine h1 L 0 ?_
 unfold numL at h
 cases hl : bT s L 0 with
 | none => rw [hl] at h; exact hz h
 | some y => rw [hl] at h; exact h
theorem sq (s : List UInt8) {z : Nat → Prop} {f : AVal × AVal → List (AVal × AVal) → (Nat → Prop) → Nat → Prop} {L : List (List UInt8 × Int)} (h1 : ∀ j n, bT s L 0 = some (j, n) → f (.str s, .int .i64 n) [] (fun _ => True) j) (h2 : bT s L 0 = none → ∀ i, z i)
  (hf : ∀ t n r ih i, (seqB s t = true → f (.str s, .int .i64 n) [] (fun _ => True) i) → (seqB s t = false → ih (i + 1)) → f (.str t, .int .i64 n) r ih i := by exact fun _ _ _ _ _ h1 h2 => (⟨fun e => (h1 e).1 (a7.2 rfl), h2⟩ : Sc _ _ _)) : List.rec (motive := fun _ => Nat → Prop) z f (mapE L) 0 := by
 have g : ∀ (L : List (List UInt8 × Int)) (i : Nat), (∀ j n, bT s L i = some (j, n) → f (.str s, .int .i64 n) [] (fun _ => True) j) → (bT s L i = none → ∀ i, z i) → List.rec (motive := fun _ => Nat → Prop) z f (mapE L) i := by
  intro L
  induction L with
  | nil => exact fun i _ h => h rfl i
  | cons x L ih =>
   intro i k1 k2
   refine hf x.1 x.2 (mapE L) _ i (fun e => ?_) (fun e => ?_)
   ·exact k1 i x.2 (by simp only [bT, e, if_true])
   ·refine ih (i + 1) (fun j n hj => k1 j n ?_) (fun hj => k2 ?_)
    ·simp only [bT, e, Bool.false_eq_true, if_false]; exact hj
    ·simp only [bT, e, Bool.false_eq_true, if_false]; exact hj
 exact g L 0 h1 h2
theorem wd (s : List UInt8) : (ap 97 122 (-32) s).length = s.length := by unfold ap; rw [List.length_map]
theorem FB {v : Int} {l : List Itm} (hv : v = 3 ∨ v = 4) (h : 60 < l.length) : Crd.E ⟨v, l⟩ = .errno 4 := by unfold Crd.E; rw [if_pos hv, if_pos h]
theorem FC {v : Int} {l : List Itm} (hv : ¬ (v = 3 ∨ v = 4)) : Crd.E ⟨v, l⟩ = .errno 1 := by unfold Crd.E; rw [if_neg hv]
theorem Fy {v : Int} {l : List Itm} (hv : v = 3 ∨ v = 4) (h : ¬ 60 < l.length) {k : Nat} (hk : k < l.length) (hj : ∀ j, j < k → (l.getD j Itm.z).w v = 0) (hb : (l.getD k Itm.z).w v ≠ 0) : Crd.E ⟨v, l⟩ = .at ((l.getD k Itm.z).w v) k := by
 unfold Crd.E
 rw [if_pos hv, if_neg h, sH (f := fun i => (l.getD i Itm.z).w v) hk hj hb]
theorem Fz {v : Int} {l : List Itm} (hv : v = 3 ∨ v = 4) (h : ¬ 60 < l.length) (hw : ∀ j, j < l.length → (l.getD j Itm.z).w v = 0) {k : Nat} (hk : k < l.length) (hj : ∀ j, j < k → fA v l j = 0) (hb : fA v l k ≠ 0) : Crd.E ⟨v, l⟩ = .at (fA v l k) k := by
 unfold Crd.E
 rw [if_pos hv, if_neg h, gj (f := fun i => (l.getD i Itm.z).w v) hw]
 dsimp only
 rw [sH hk hj hb]
theorem FA {v : Int} {l : List Itm} (hv : v = 3 ∨ v = 4) (h : ¬ 60 < l.length) (hw : ∀ j, j < l.length → (l.getD j Itm.z).w v = 0) (hm : ∀ j, j < l.length → fA v l j = 0) : Crd.E ⟨v, l⟩ = if fstN (leE v l) (ax v).length = 0 then .none else .errno 7 := by
 unfold Crd.E
 rw [if_pos hv, if_neg h, gj (f := fun i => (l.getD i Itm.z).w v) hw]
 dsimp only
 rw [gj hm]
theorem Cu {v : Int} {l : List Itm} {i : Nat} (h : 0 < (ba v (l.getD i Itm.z).1.n).b) (h2 : (ba v (l.getD i Itm.z).1.n).b ≤ (cntI l (ap 97 122 (-32) (l.getD i Itm.z).1.n) i : Int)) : fA v l i = 9 := by unfold fA; rw [if_pos ⟨h, h2⟩]
theorem Cv {v : Int} {l : List Itm} {i : Nat} (h : ¬ (0 < (ba v (l.getD i Itm.z).1.n).b ∧ (ba v (l.getD i Itm.z).1.n).b ≤ (cntI l (ap 97 122 (-32) (l.getD i Itm.z).1.n) i : Int))) : fA v l i = 0 := by unfold fA; rw [if_neg h]
theorem le_7 {v : Int} {l : List Itm} {i : Nat} (h : (cntI l ((ax v).getD i []) l.length : Int) < (ba v ((ax v).getD i [])).a) : leE v l i = 7 := by unfold leE; rw [if_pos h]
theorem le_0 {v : Int} {l : List Itm} {i : Nat} (h : ¬ (cntI l ((ax v).getD i []) l.length : Int) < (ba v ((ax v).getD i [])).a) : leE v l i = 0 := by unfold leE; rw [if_neg h]
theorem EY {l : List Itm} {k : Nat} (hk : k < l.length) {L : List (List UInt8 × Int)} (h : ∀ s, numL s L = cntI l s k) : ∀ s, numL s (updL (ap 97 122 (-32) (l.getD k Itm.z).1.n) (numL (ap 97 122 (-32) (l.getD k Itm.z).1.n) L + 1) L) = cntI l s (k + 1) := by
 intro s
 rw [Cn, mu hk, h, h]
 cases hs : seqB s (ap 97 122 (-32) (l.getD k Itm.z).1.n) with
 | true =>
  have := a7.1 hs
  rw [if_pos rfl, ← this, if_pos (a7.2 rfl)]
  omega
 | false =>
  rw [if_neg (by decide), if_neg (fun h => absurd (a7.2 (a7.1 h).symm) (by rw [hs]; decide))]
  omega
attribute [local irreducible] AWp AOps aa az OrOk ad ah
attribute [local irreducible] ap ba cntI mapE bT numL updL ax Itm.w fA leE
theorem AT {G : Glo} {m : Int} (hE : ad G errTy) (hE2 : ik G) (hP : co G) (hM : ad G (bI m)) (hS : SpIs G) (v : Int) (x : Itm) (hx : x.OK 2500) : FnIs Tryz.prog G 8 [itR x, .int .i64 v] (.tuple [.str (x.lT v), (x.lE v).A]) := by
 have q1 := Tryz.call24
 have q3 := Tryz.call23
 have hc := iO (G := G) v
 have hpr := mw (G := G) hE hM v x hx
 have hLP := j6 (G := G) x.ln (eqB v 4) (Itm.fit hx)
 have ho : ∀ _ : v = 3 ∨ v = 4, FnIs Tryz.prog G 21 [itR x, .int .i64 v] (.int .i64 (x.w v)) := fun hv => vC hE hE2 hP hM hS v hv x hx
 have h2 := Be (v := v) (x := x)
 have h3 := w_E (v := v) (x := x)
 unfold Itm.lT Itm.lE Itm.L
 unfold Ln.A at hpr hLP
 unfold itR at hpr ho ⊢
 obtain ⟨⟨g, n, ps, vv⟩, u⟩ := x
 unfold Itm.ln at hpr hLP h2 ⊢
 dsimp only at *
 generalize Itm.w v _ = W at *
 generalize Ln.E (eqB v 4) ⟨g, n, ps, u.T⟩ = eL at *
 generalize Ln.T (eqB v 4) ⟨g, n, ps, u.T⟩ = tL at *
 generalize u.E = eV at *
 generalize u.T = tV at *
 by_cases hv : v = 3 ∨ v = 4
 ·have ho := ho hv
  rw [if_pos hv, if_pos hv]
  by_cases hw : W = 0
  ·subst hw
   obtain rfl := h2 rfl
   obtain rfl := h3 rfl
   simp only [if_true, Err.A] at *
   have key : ∀ _ : v = 3 ∨ v = 4, FnIs Tryz.prog G 8 [itR (⟨g, n, ps, vv⟩, u), .int .i64 v] (.tuple [.str tL, .raw .nilIface]) := by
    intro hv
    unfold itR
    have hGL : ad G [] := ab
    refine fn_x Tryz.func8 Tryz.call8 rfl rfl rfl rfl hGL ?_
    intro C hC
    rcases hv with e3 | e3
    ·refine xn1 ?_
     intros
     refine eg (aX (i := 0) (k := 7) rfl rfl) ?_
     refine dw_p mixed hC hGL false (fun _ : Unit => [(4, .str tL), (5, .raw .nilIface)]) (fun _ => [bE]) (.take 0 (.take 1 (.br 2 (.br 3 (.take 4 (.take 5 (.take 6 (.take 7 (.done))))) (.nil)) (.nil)))) (by kernel_rfl) ?_ ?_
     ·refine xn ?_
      repeat' (first | exact Le.n | refine Lc.mk ?_ ?_)
      all_goals intros
      all_goals exact ⟨(), ak, rfl⟩
     intro _
     exact xw0
    ·have e4 : v ≠ 3 := by omega
     refine xn1 ?_
     intros
     refine eg (aX (i := 0) (k := 7) rfl rfl) ?_
     refine dw_p mixed hC hGL false (fun _ : Unit => [(4, .str tL), (5, .raw .nilIface)]) (fun _ => [bE]) (.take 0 (.take 1 (.br 2 (.br 3 (.take 4 (.take 5 (.take 6 (.take 7 (.done))))) (.nil)) (.nil)))) (by kernel_rfl) ?_ ?_
     ·refine xn ?_
      repeat' (first | exact Le.n | refine Lc.mk ?_ ?_)
      all_goals intros
      all_goals exact ⟨(), ak, rfl⟩
     intro _
     exact xw0
   exact key hv
  ·rw [if_neg hw, if_neg hw]
   simp only [Err.A, errA]
   have hGL : ad G [] := ab
   refine fn_x Tryz.func8 Tryz.call8 rfl rfl rfl rfl hGL ?_
   intro C hC
   rcases hv with rfl | rfl <;> exact xw0
 ·rw [if_neg hv, if_neg hv]
  simp only [Err.A, errA]
  have hv1 : v ≠ 3 := fun h => hv (.inl h)
  have hv2 : v ≠ 4 := fun h => hv (.inr h)
  have hGL : ad G [] := ab
  refine fn_x Tryz.func8 Tryz.call8 rfl rfl rfl rfl hGL ?_
  intro C hC
  exact xw0
theorem pz {G : Glo} {m : Int} (hE : ad G errTy) (hE2 : ik G) (hP : co G) (hM : ad G (bI m)) (hS : SpIs G) (c : Crd) (hf : c.ok) : FnIs Tryz.prog G 11 [c.A] c.E.A := by
 obtain ⟨v, l⟩ := c
 obtain ⟨h70, ho⟩ := hf
 dsimp only at h70 ho
 have hN := ue (G := G) v
 by_cases hv : v = 3 ∨ v = 4
 ·have hve : verE v = .none := by unfold verE; rw [if_pos hv]
  rw [hve] at hN
  simp only [Err.A] at hN
  by_cases h60 : 60 < l.length
  ·rw [FB hv h60]
   have hGL : ad G [] := ab
   refine fn_x Tryz.func11 Tryz.call11 rfl rfl rfl rfl hGL ?_
   intro C hC
   exact xw0
  ·have hone : ∀ k, k < l.length → FnIs Tryz.prog G 21 [itR (l.getD k Itm.z), .int .i64 v] (.int .i64 ((l.getD k Itm.z).w v)) := fun k hk => vC hE hE2 hP hM hS v hv _ (eZ ho hk)
   have hGL : ad G [] := ab
   refine fn_x Tryz.func11 Tryz.call11 rfl rfl rfl rfl hGL ?_
   intro C hC
   refine xw1 ?_
   intros
   refine lp hC hGL (fun k : Nat => [(1, .rop [.int .i64 v, .list 15 l.length (itsF l)] 0), (3, .list 1 (ax v).length (aG (ax v))), (33, .list 15 l.length (itsF l)), (34, .int .i64 (l.length : Nat)), (35, .int .i64 (k : Nat))]) (fun _ => []) (fun k => k ≤ l.length ∧ ∀ j, j < k → (l.getD j Itm.z).w v = 0) (fun k => l.length - k) 0 ⟨Nat.zero_le _, fun j h => absurd h (Nat.not_lt_zero _)⟩ ak rfl ?_
   rintro k ⟨k1, k2⟩
   by_cases hk : k < l.length
   ·have h1 := hone k hk
    unfold itR at h1
    by_cases hw : (l.getD k Itm.z).w v = 0
    ·rw [hw] at h1
     refine xw1 ?_
     intros
     exact nxs (k + 1) ⟨hk, aN k2 hw⟩ (by omega) ak aS
    ·rw [Fy hv h60 hk k2 hw]
     simp only [Err.A, atA]
     exact xw0
   ·obtain rfl : k = l.length := by omega
    refine xw1 ?_
    intro bl
    intros
    refine lp hC hGL (fun z : Nat × List (List UInt8 × Int) => [(1, .rop [.int .i64 v, .list 15 l.length (itsF l)] 0), (3, .list 1 (ax v).length (aG (ax v))), (8, .own 0 (.map (some bl))), (54, .list 15 l.length (itsF l)), (55, .int .i64 (l.length : Nat)), (56, .int .i64 (z.1 : Nat))]) (fun z => [.mp bl (mapE z.2)]) (fun z => z.1 ≤ l.length ∧ (∀ s, numL s z.2 = cntI l s z.1) ∧ ∀ j, j < z.1 → fA v l j = 0) (fun z => l.length - z.1) (0, []) ⟨Nat.zero_le _, fun s => by rw [rj]; unfold numL; simp only [bT]; rfl, fun j h => absurd h (Nat.not_lt_zero _)⟩ ak (by unfold mapE; rfl) ?_
    rintro ⟨k, L⟩ ⟨k1, kL, km⟩
    dsimp only at k1 kL km ⊢
    by_cases hk : k < l.length
    ·have hnl : (l.getD k Itm.z).1.n.length ≤ 2500 := (eZ ho hk).p.n
     have hU := dH (G := G) (l.getD k Itm.z).1.n (by omega)
     have hul := wd (l.getD k Itm.z).1.n
     have hR := kE (G := G) hS v (ap 97 122 (-32) (l.getD k Itm.z).1.n) (by omega)
     have hcnt := kL (ap 97 122 (-32) (l.getD k Itm.z).1.n)
     have hcl := lk l (ap 97 122 (-32) (l.getD k Itm.z).1.n) k
     have hupd := EY hk kL
     have h9 := Cu (v := v) (l := l) (i := k)
     have h0 := Cv (v := v) (l := l) (i := k)
     have hsc := hupd (ap 97 122 (-32) (l.getD k Itm.z).1.n)
     have hsu := mu (s := ap 97 122 (-32) (l.getD k Itm.z).1.n) hk
     rw [if_pos (a7.2 rfl)] at hsu
     rw [Eg, hve] at hR
     unfold Rl.A at hR
     simp only [Err.A] at hR
     refine xw1 ?_
     intros
     have hcm := fun h => Fz (v := v) hv h60 k2 hk km h
     generalize ba v (l.getD k Itm.z).1.n = r at *
     obtain ⟨r0, r1, r2, r3⟩ := r
     dsimp only at *
     generalize ap 97 122 (-32) (l.getD k Itm.z).1.n = U at *
     refine eY U ?_
     generalize numL U L = NN at *
     generalize cntI l U k = cn at *
     by_cases hb : 0 < r2
     ·by_cases hc : r2 ≤ (cn : Int)
      ·have h9 := h9 hb hc
       rw [h9] at hcm
       rw [hcm (by decide)]
       simp only [Err.A, atA]
       refine xw1 ?_
       intros
       refine sq U (fun j n hl => ?_) (fun hl i => ?_)
       ·have eL : (mapE L).set j (AVal.str U, AVal.int .i64 (NN + 1)) = mapE (updL U (NN + 1) L) := by rw [oM]; unfold updL; rw [hl]
        refine xw1 ?_
        intros
        rw [eL]
        refine eY U ?_
        generalize numL U (updL U (NN + 1) L) = N2 at *
        exact xw0
       ·have eL : mapE L ++ [(AVal.str U, AVal.int .i64 (NN + 1))] = mapE (updL U (NN + 1) L) := by rw [mc]; unfold updL; rw [hl]
        refine xw1 ?_
        intros
        rw [eL]
        refine eY U ?_
        generalize numL U (updL U (NN + 1) L) = N2 at *
        exact xw0
      ·have h0 := h0 (fun h => hc h.2)
       refine xw1 ?_
       intros
       refine sq U (fun j n hl => ?_) (fun hl i => ?_)
       ·have eL : (mapE L).set j (AVal.str U, AVal.int .i64 (NN + 1)) = mapE (updL U (NN + 1) L) := by rw [oM]; unfold updL; rw [hl]
        refine xw1 ?_
        intros
        rw [eL]
        refine eY U ?_
        have hsc2 := hsc
        generalize numL U (updL U (NN + 1) L) = N2 at hsc2 ⊢
        refine xw1 ?_
        intros
        exact nxs (k + 1, updL U (NN + 1) L) ⟨hk, hupd, aN km h0⟩ (by dsimp only; omega) ak aS
       ·have eL : mapE L ++ [(AVal.str U, AVal.int .i64 (NN + 1))] = mapE (updL U (NN + 1) L) := by rw [mc]; unfold updL; rw [hl]
        refine xw1 ?_
        intros
        rw [eL]
        refine eY U ?_
        have hsc2 := hsc
        generalize numL U (updL U (NN + 1) L) = N2 at hsc2 ⊢
        refine xw1 ?_
        intros
        exact nxs (k + 1, updL U (NN + 1) L) ⟨hk, hupd, aN km h0⟩ (by dsimp only; omega) ak aS
     ·have h0 := h0 (fun h => hb h.1)
      refine xw1 ?_
      intros
      refine sq U (fun j n hl => ?_) (fun hl i => ?_)
      ·have eL : (mapE L).set j (AVal.str U, AVal.int .i64 (NN + 1)) = mapE (updL U (NN + 1) L) := by rw [oM]; unfold updL; rw [hl]
       refine xw1 ?_
       intros
       rw [eL]
       exact nxs (k + 1, updL U (NN + 1) L) ⟨hk, hupd, aN km h0⟩ (by dsimp only; omega) ak aS
      ·have eL : mapE L ++ [(AVal.str U, AVal.int .i64 (NN + 1))] = mapE (updL U (NN + 1) L) := by rw [mc]; unfold updL; rw [hl]
       refine xw1 ?_
       intros
       rw [eL]
       exact nxs (k + 1, updL U (NN + 1) L) ⟨hk, hupd, aN km h0⟩ (by dsimp only; omega) ak aS
    ·obtain rfl : k = l.length := by omega
     rw [FA hv h60 k2 km]
     refine xw1 ?_
     intros
     refine lp hC hGL (fun k : Nat => [(1, .rop [.int .i64 v, .list 15 l.length (itsF l)] 0), (8, .own 0 (.map (some bl))), (91, .list 1 (ax v).length (aG (ax v))), (92, .int .i64 ((ax v).length : Nat)), (93, .int .i64 (k : Nat))]) (fun _ => [.mp bl (mapE L)]) (fun k => k ≤ (ax v).length ∧ ∀ j, j < k → leE v l j = 0) (fun k => (ax v).length - k) 0 ⟨Nat.zero_le _, fun j h => absurd h (Nat.not_lt_zero _)⟩ ak rfl ?_
     rintro k ⟨k1, kl⟩
     by_cases hk : k < (ax v).length
     ·have hnn := uF hk
      have hnl := qI v
      have hR := kE (G := G) hS v ((ax v).getD k []) (by omega)
      have hcl := lk l ((ax v).getD k []) l.length
      have hcnt := kL ((ax v).getD k [])
      rw [hve] at hR
      unfold Rl.A at hR
      simp only [Err.A] at hR
      have h7 := le_7 (v := v) (l := l) (i := k)
      have h0 := le_0 (v := v) (l := l) (i := k)
      have hf7 := fun h => nx (f := leE v l) hk kl h
      generalize ba v ((ax v).getD k []) = r at *
      obtain ⟨r0, r1, r2, r3⟩ := r
      dsimp only at *
      generalize cntI l ((ax v).getD k []) l.length = N at *
      by_cases hb : (N : Int) < r1
      ·have h7 := h7 hb
       rw [h7] at hf7
       rw [hf7 (by decide), if_neg (by decide)]
       simp only [Err.A, errA]
       refine xw1 ?_
       intros
       refine eY ((ax v).getD k []) ?_
       rw [hcnt]
       exact xw0
      ·have h0 := h0 hb
       refine xw1 ?_
       intros
       refine eY ((ax v).getD k []) ?_
       rw [hcnt]
       refine xw1 ?_
       intros
       exact nxs (k + 1) ⟨hk, aN kl h0⟩ (by omega) ak aS
     ·obtain rfl : k = (ax v).length := by omega
      rw [gi (f := leE v l) kl, if_pos rfl]
      simp only [Err.A]
      exact xw0
 ·rw [FC hv]
  have hve : verE v = .errno 1 := by unfold verE; rw [if_neg hv]
  rw [hve] at hN
  simp only [Err.A, errA] at hN ⊢
  have hGL : ad G [] := ab
  refine fn_x Tryz.func11 Tryz.call11 rfl rfl rfl rfl hGL ?_
  intro C hC
  exact xw0
end
section
open Go Go.RowKit
attribute [local irreducible] AWp AOps aa az OrOk ad ah
attribute [local irreducible] ap ba cntI ax Itm.w fA leE
theorem se {G : Glo} {m : Int} (hU : ad G utfTy) (hM : ad G (bI m)) (hH : ad G shapesTy) (hP : co G) (v : Int) (x : Itm) (hx : x.OK 2500) : FnIs Tryz.prog G 7 [itR x, .int .i64 v] (.tuple [.str (x.lT v), .int .i64 (x.lE v).e]) := by
 have hlo := jX hU hM hH hP v x hx
 have ho : ∀ _ : v = 3 ∨ v = 4, FnIs Tryz.prog G 19 [itR x, .int .i64 v] (.int .i64 (x.w v)) := fun hv => qA hU hM hH hP v hv x hx
 unfold Itm.lT Itm.lE
 unfold itR at hlo ho ⊢
 generalize x.w v = W at *
 generalize x.L v = tL at *
 by_cases hv : v = 3 ∨ v = 4
 ·have ho := ho hv
  rw [if_pos hv, if_pos hv]
  by_cases hw : W = 0
  ·subst hw
   simp only [if_true, Err.e]
   have hGL : ad G [] := ab
   refine fn_x Tryz.func7 Tryz.call7 rfl rfl rfl rfl hGL ?_
   intro C hC
   rcases hv with rfl | rfl <;> exact xw0
  ·rw [if_neg hw, if_neg hw]
   simp only [Err.e]
   have hGL : ad G [] := ab
   refine fn_x Tryz.func7 Tryz.call7 rfl rfl rfl rfl hGL ?_
   intro C hC
   rcases hv with rfl | rfl <;> exact xw0
 ·rw [if_neg hv, if_neg hv]
  simp only [Err.e]
  have hv1 : v ≠ 3 := fun h => hv (.inl h)
  have hv2 : v ≠ 4 := fun h => hv (.inr h)
  have hGL : ad G [] := ab
  refine fn_x Tryz.func7 Tryz.call7 rfl rfl rfl rfl hGL ?_
  intro C hC
  exact xw0
theorem qC {G : Glo} (v : Int) (l : List Itm) (h70 : l.length ≤ 1000000) (ho : ∀ x ∈ l, Itm.OK 2500 x) (s : List UInt8) (hs : s.length ≤ 1000000) (n : Nat) (hn : n ≤ l.length) : FnIs Tryz.prog G 31 [.str s, .int .i64 (n : Int), .rop [.int .i64 v, .list 15 l.length (itsF l)] 0] (.int .i64 (cntI l (ap 97 122 (-32) s) n : Nat)) := by
 have hGL : ad G [] := ab
 refine fn_x Tryz.func31 Tryz.call31 rfl rfl rfl rfl hGL ?_
 intro C hC
 refine xw1 ?_
 intros
 refine lp hC hGL (fun k : Nat => [(0, .str s), (6, .int .i64 (cntI l (ap 97 122 (-32) s) k : Nat)), (12, .list 15 n (itsF l)), (13, .int .i64 (n : Nat)), (14, .int .i64 (k : Nat))]) (fun _ => []) (fun k => k ≤ n) (fun k => n - k) 0 (Nat.zero_le _) (by rw [rj]; exact ak) rfl ?_
 intro k k1
 have k1 : k ≤ n := k1
 have hcl := lk l (ap 97 122 (-32) s) k
 by_cases hk : k < n
 ·have hkl : k < l.length := by omega
  have hnl : (l.getD k Itm.z).1.n.length ≤ 2500 := (eZ ho hkl).p.n
  have hS := d8 (G := G) (l.getD k Itm.z).1.n s (by omega) (by omega)
  have hsu := mu (s := ap 97 122 (-32) s) hkl
  rw [fb] at hS
  generalize ap 97 122 (-32) s = U at *
  cases hb : seqB (ap 97 122 (-32) (l.getD k Itm.z).1.n) U with
  | true =>
   rw [hb] at hS hsu
   rw [if_pos rfl] at hsu
   have e : ((cntI l U k : Nat) : Int) + 1 = ((cntI l U (k + 1) : Nat) : Int) := by omega
   refine xw1 ?_
   intros
   exact nxs (k + 1) hk (by omega) (by refine ⟨rfl, ?_, rfl, rfl, rfl, trivial⟩; exact congrArg (fun z => some (AVal.int .i64 z)) e) aS
  | false =>
   rw [hb] at hS hsu
   rw [if_neg (by decide), Nat.add_zero] at hsu
   refine xw1 ?_
   intros
   exact nxs (k + 1) hk (by omega) (by rw [hsu]; exact ak) aS
 ·obtain rfl : k = n := by omega
  exact xw0
theorem jH {G : Glo} {m : Int} (hU : ad G utfTy) (hM : ad G (bI m)) (hH : ad G shapesTy) (hP : co G) (c : Crd) (hf : c.ok) : FnIs Tryz.prog G 12 [c.A] (.agg [.int .i64 c.E.e, .int .i64 c.E.p]) := by
 obtain ⟨v, l⟩ := c
 obtain ⟨h70, ho⟩ := hf
 dsimp only at h70 ho
 have q1 := Tryz.call31
 have hN := pY (G := G) v
 have hB := fun e => dk (G := G) e
 have hG := dj (G := G)
 by_cases hv : v = 3 ∨ v = 4
 ·have hve : verE v = .none := by unfold verE; rw [if_pos hv]
  rw [hve] at hN
  simp only [Err.e] at hN
  by_cases h60 : 60 < l.length
  ·rw [FB hv h60]
   have hB := hB 4
   simp only [Err.e, Err.p]
   have hGL : ad G [] := ab
   refine fn_x Tryz.func12 Tryz.call12 rfl rfl rfl rfl hGL ?_
   intro C hC
   exact xw0
  ·have hone : ∀ k, k < l.length → FnIs Tryz.prog G 19 [itR (l.getD k Itm.z), .int .i64 v] (.int .i64 ((l.getD k Itm.z).w v)) := fun k hk => qA hU hM hH hP v hv _ (eZ ho hk)
   have hGL : ad G [] := ab
   refine fn_x Tryz.func12 Tryz.call12 rfl rfl rfl rfl hGL ?_
   intro C hC
   refine xw1 ?_
   intro bl
   intros
   refine lp hC hGL (fun k : Nat => [(1, .rop [.int .i64 v, .list 15 l.length (itsF l)] 0), (2, .own 0 (.pointer (some ⟨bl, 0, none⟩))), (3, .list 1 (ax v).length (aG (ax v))), (33, .list 15 l.length (itsF l)), (34, .int .i64 (l.length : Nat)), (35, .int .i64 (k : Nat))]) (fun _ => [.cells bl (some 45) [.int .i64 0, .int .i64 0]]) (fun k => k ≤ l.length ∧ ∀ j, j < k → (l.getD j Itm.z).w v = 0) (fun k => l.length - k) 0 ⟨Nat.zero_le _, fun j h => absurd h (Nat.not_lt_zero _)⟩ ak rfl ?_
   rintro k ⟨k1, k2⟩
   by_cases hk : k < l.length
   ·have h1 := hone k hk
    unfold itR at h1
    by_cases hw : (l.getD k Itm.z).w v = 0
    ·rw [hw] at h1
     refine xw1 ?_
     intros
     exact nxs (k + 1) ⟨hk, aN k2 hw⟩ (by omega) ak aS
    ·rw [Fy hv h60 hk k2 hw]
     simp only [Err.e, Err.p]
     exact xw0
   ·obtain rfl : k = l.length := by omega
    refine xw1 ?_
    intros
    refine lp hC hGL (fun k : Nat => [(1, .rop [.int .i64 v, .list 15 l.length (itsF l)] 0), (2, .own 0 (.pointer (some ⟨bl, 0, none⟩))), (3, .list 1 (ax v).length (aG (ax v))), (8, .func (.func 31) [] [.rop [.int .i64 v, .list 15 l.length (itsF l)] 0]), (52, .list 15 l.length (itsF l)), (53, .int .i64 (l.length : Nat)), (54, .int .i64 (k : Nat))]) (fun _ => [.cells bl (some 45) [.int .i64 0, .int .i64 0]]) (fun k => k ≤ l.length ∧ ∀ j, j < k → fA v l j = 0) (fun k => l.length - k) 0 ⟨Nat.zero_le _, fun j h => absurd h (Nat.not_lt_zero _)⟩ ak rfl ?_
    rintro k ⟨k1, km⟩
    by_cases hk : k < l.length
    ·have hnl : (l.getD k Itm.z).1.n.length ≤ 2500 := (eZ ho hk).p.n
     have hR := kM (G := G) v (l.getD k Itm.z).1.n (by omega)
     have hA := qC (G := G) v l h70 ho (l.getD k Itm.z).1.n (by omega) k k1
     have hcl := lk l (ap 97 122 (-32) (l.getD k Itm.z).1.n) k
     have h9 := Cu (v := v) (l := l) (i := k)
     have h0 := Cv (v := v) (l := l) (i := k)
     have hcm := fun h => Fz (v := v) hv h60 k2 hk km h
     rw [hve] at hR
     unfold Rl.A at hR
     simp only [Err.e] at hR
     generalize ba v (l.getD k Itm.z).1.n = r at *
     obtain ⟨r0, r1, r2, r3⟩ := r
     dsimp only at *
     generalize cntI l (ap 97 122 (-32) (l.getD k Itm.z).1.n) k = N at *
     by_cases hb : 0 < r2
     ·by_cases hc : r2 ≤ (N : Int)
      ·have h9 := h9 hb hc
       rw [h9] at hcm
       rw [hcm (by decide)]
       simp only [Err.e, Err.p]
       refine xn1 ?_
       intros
       refine eg (dV (aX (i := 2) (k := 11) rfl rfl) (aX (i := 1) (k := 10) rfl rfl)) ?_
       refine dw_p mixed hC hGL false (fun _ : Unit => [(1, .rop [.int .i64 v, .list 15 l.length (itsF l)] 0), (2, .own 0 (.pointer (some ⟨bl, 0, none⟩))), (3, .list 1 (ax v).length (aG (ax v))), (8, .func (.func 31) [] [.rop [.int .i64 v, .list 15 l.length (itsF l)] 0]), (9, .int .i64 (k : Nat)), (52, .list 15 l.length (itsF l)), (53, .int .i64 (l.length : Nat)), (54, .int .i64 (k : Nat)), (79, .bool (!ltB (N : Int) r2))]) (fun _ => [.cells bl (some 45) [.int .i64 0, .int .i64 0], bE, bE]) (.take 0 (.take 1 (.take 2 (.take 3 (.take 4 (.take 5 (.take 6 (.take 7 (.take 9 (.take 10 (.br 8 (.take 11 (.take 12 (.done))) (.nil)))))))))))) (by kernel_rfl) ?_ ?_
       ·refine xn ?_
        repeat' (first | exact Le.n | refine Lc.mk ?_ ?_)
        all_goals intros
        all_goals exact ⟨(), ak, rfl⟩
       intro _
       exact xw0
      ·have h0 := h0 (fun h => hc h.2)
       refine xn1 ?_
       intros
       refine eg (dV (aX (i := 2) (k := 11) rfl rfl) (aX (i := 1) (k := 10) rfl rfl)) ?_
       refine dw_p mixed hC hGL false (fun _ : Unit => [(1, .rop [.int .i64 v, .list 15 l.length (itsF l)] 0), (2, .own 0 (.pointer (some ⟨bl, 0, none⟩))), (3, .list 1 (ax v).length (aG (ax v))), (8, .func (.func 31) [] [.rop [.int .i64 v, .list 15 l.length (itsF l)] 0]), (9, .int .i64 (k : Nat)), (52, .list 15 l.length (itsF l)), (53, .int .i64 (l.length : Nat)), (54, .int .i64 (k : Nat)), (79, .bool (!ltB (N : Int) r2))]) (fun _ => [.cells bl (some 45) [.int .i64 0, .int .i64 0], bE, bE]) (.take 0 (.take 1 (.take 2 (.take 3 (.take 4 (.take 5 (.take 6 (.take 7 (.take 9 (.take 10 (.br 8 (.take 11 (.take 12 (.done))) (.nil)))))))))))) (by kernel_rfl) ?_ ?_
       ·refine xn ?_
        repeat' (first | exact Le.n | refine Lc.mk ?_ ?_)
        all_goals intros
        all_goals exact ⟨(), ak, rfl⟩
       intro _
       refine xw1 ?_
       intros
       exact nxs (k + 1) ⟨hk, aN km h0⟩ (by omega) ak aS
     ·have h0 := h0 (fun h => hb h.1)
      refine xn1 ?_
      intros
      refine eg (dV (aX (i := 2) (k := 11) rfl rfl) (aX (i := 1) (k := 10) rfl rfl)) ?_
      refine dw_p mixed hC hGL false (fun _ : Unit => [(1, .rop [.int .i64 v, .list 15 l.length (itsF l)] 0), (2, .own 0 (.pointer (some ⟨bl, 0, none⟩))), (3, .list 1 (ax v).length (aG (ax v))), (8, .func (.func 31) [] [.rop [.int .i64 v, .list 15 l.length (itsF l)] 0]), (9, .int .i64 (k : Nat)), (52, .list 15 l.length (itsF l)), (53, .int .i64 (l.length : Nat)), (54, .int .i64 (k : Nat)), (79, .bool false)]) (fun _ => [.cells bl (some 45) [.int .i64 0, .int .i64 0], bE, bE]) (.take 0 (.take 1 (.take 2 (.take 3 (.take 4 (.take 5 (.take 6 (.take 7 (.take 9 (.take 10 (.br 8 (.take 11 (.take 12 (.done))) (.nil)))))))))))) (by kernel_rfl) ?_ ?_
      ·refine xn ?_
       repeat' (first | exact Le.n | refine Lc.mk ?_ ?_)
       all_goals intros
       all_goals exact ⟨(), ak, rfl⟩
      intro _
      refine xw1 ?_
      intros
      exact nxs (k + 1) ⟨hk, aN km h0⟩ (by omega) ak aS
    ·obtain rfl : k = l.length := by omega
     rw [FA hv h60 k2 km]
     refine xw1 ?_
     intros
     refine lp hC hGL (fun k : Nat => [(1, .rop [.int .i64 v, .list 15 l.length (itsF l)] 0), (2, .own 0 (.pointer (some ⟨bl, 0, none⟩))), (8, .func (.func 31) [] [.rop [.int .i64 v, .list 15 l.length (itsF l)] 0]), (83, .list 1 (ax v).length (aG (ax v))), (84, .int .i64 ((ax v).length : Nat)), (85, .int .i64 (k : Nat))]) (fun _ => [.cells bl (some 45) [.int .i64 0, .int .i64 0]]) (fun k => k ≤ (ax v).length ∧ ∀ j, j < k → leE v l j = 0) (fun k => (ax v).length - k) 0 ⟨Nat.zero_le _, fun j h => absurd h (Nat.not_lt_zero _)⟩ ak rfl ?_
     rintro k ⟨k1, kl⟩
     by_cases hk : k < (ax v).length
     ·have hnn := uF hk
      have hnl := qI v
      have hR := kM (G := G) v ((ax v).getD k []) (by omega)
      have hA := qC (G := G) v l h70 ho ((ax v).getD k []) (by omega) l.length (Nat.le_refl _)
      have hcl := lk l ((ax v).getD k []) l.length
      have hB := hB 7
      rw [hnn.1] at hA
      rw [hve] at hR
      unfold Rl.A at hR
      simp only [Err.e] at hR
      have h7 := le_7 (v := v) (l := l) (i := k)
      have h0 := le_0 (v := v) (l := l) (i := k)
      have hf7 := fun h => nx (f := leE v l) hk kl h
      generalize ba v ((ax v).getD k []) = r at *
      obtain ⟨r0, r1, r2, r3⟩ := r
      dsimp only at *
      generalize cntI l ((ax v).getD k []) l.length = N at *
      by_cases hb : (N : Int) < r1
      ·have h7 := h7 hb
       rw [h7] at hf7
       rw [hf7 (by decide), if_neg (by decide)]
       simp only [Err.e, Err.p]
       refine xn1 ?_
       intros
       refine eg (aX (i := 1) (k := 15) rfl rfl) ?_
       refine dw_p mixed hC hGL false (fun _ : Unit => [(1, .rop [.int .i64 v, .list 15 l.length (itsF l)] 0), (2, .own 0 (.pointer (some ⟨bl, 0, none⟩))), (8, .func (.func 31) [] [.rop [.int .i64 v, .list 15 l.length (itsF l)] 0]), (83, .list 1 (ax v).length (aG (ax v))), (84, .int .i64 ((ax v).length : Nat)), (85, .int .i64 (k : Nat)), (104, .bool (ltB (N : Int) r1))]) (fun _ => [.cells bl (some 45) [.int .i64 0, .int .i64 0], bE]) (.take 0 (.take 1 (.take 2 (.take 3 (.take 4 (.take 6 (.take 7 (.br 5 (.take 8 (.done)) (.nil))))))))) (by kernel_rfl) ?_ ?_
       ·refine xn ?_
        repeat' (first | exact Le.n | refine Lc.mk ?_ ?_)
        all_goals intros
        all_goals exact ⟨(), ak, rfl⟩
       intro _
       exact xw0
      ·have h0 := h0 hb
       refine xn1 ?_
       intros
       refine eg (aX (i := 1) (k := 15) rfl rfl) ?_
       refine dw_p mixed hC hGL false (fun _ : Unit => [(1, .rop [.int .i64 v, .list 15 l.length (itsF l)] 0), (2, .own 0 (.pointer (some ⟨bl, 0, none⟩))), (8, .func (.func 31) [] [.rop [.int .i64 v, .list 15 l.length (itsF l)] 0]), (83, .list 1 (ax v).length (aG (ax v))), (84, .int .i64 ((ax v).length : Nat)), (85, .int .i64 (k : Nat)), (104, .bool (ltB (N : Int) r1))]) (fun _ => [.cells bl (some 45) [.int .i64 0, .int .i64 0], bE]) (.take 0 (.take 1 (.take 2 (.take 3 (.take 4 (.take 6 (.take 7 (.br 5 (.take 8 (.done)) (.nil))))))))) (by kernel_rfl) ?_ ?_
       ·refine xn ?_
        repeat' (first | exact Le.n | refine Lc.mk ?_ ?_)
        all_goals intros
        all_goals exact ⟨(), ak, rfl⟩
       intro _
       refine xw1 ?_
       intros
       exact nxs (k + 1) ⟨hk, aN kl h0⟩ (by omega) ak aS
     ·obtain rfl : k = (ax v).length := by omega
      rw [gi (f := leE v l) kl, if_pos rfl]
      simp only [Err.e, Err.p]
      exact xw0
 ·rw [FC hv]
  have hve : verE v = .errno 1 := by unfold verE; rw [if_neg hv]
  rw [hve] at hN
  have hB := hB 1
  simp only [Err.e, Err.p] at hN ⊢
  have hGL : ad G [] := ab
  refine fn_x Tryz.func12 Tryz.call12 rfl rfl rfl rfl hGL ?_
  intro C hC
  exact xw0
end
section
open Go Go.RowKit
attribute [local irreducible] AWp AOps aa az OrOk ad ah
attribute [local irreducible] Crd.E Itm.lE Itm.lT
theorem iF {G : Glo} {m : Int} (hU : ad G utfTy) (hE : ad G errTy) (hE2 : ik G) (hP : co G) (hM : ad G (bI m)) (hH : ad G shapesTy) (hS : SpIs G) (c : Crd) (ho : ∀ x ∈ c.l, Itm.OK 1048576 x) (hl : c.l.length ≤ 1048576) : FnIs Tryz.prog G 3 [c.A] (.bool true) := by
 have hB := sv (G := G) c ho hl
 have hf1 := fun hf : c.fine => pz hE hE2 hP hM hS c hf.ok
 have hf2 := fun hf : c.fine => jH hU hM hH hP c hf.ok
 have hpl := lY (G := G) hE c.E
 have hfin : c.fine → c.l.length ≤ 70 ∧ ∀ x ∈ c.l, Itm.OK 2500 x := fun h => h
 generalize c.E = e at *
 generalize hcf : c.fine = fine at *
 obtain ⟨v, l⟩ := c
 unfold Crd.A at *
 dsimp only at *
 have hGL : ad G [] := ab
 refine fn_x Tryz.func3 Tryz.call3 rfl rfl rfl rfl hGL ?_
 intro C hC
 refine xw1 ?_
 intros
 refine mt hB ?_
 rintro _ ⟨b, rfl, hb⟩
 cases b with
 | true => exact xw0
 | false =>
  have hf := hb rfl
  have h1 := hf1 hf
  have h2 := hf2 hf
  obtain ⟨h70, ho2⟩ := hfin hf
  refine xw1 ?_
  intros
  refine lp hC hGL (fun k : Nat => [(1, .rop [.int .i64 v, .list 15 l.length (itsF l)] 0), (12, .list 15 l.length (itsF l)), (13, .int .i64 (l.length : Nat)), (14, .int .i64 (k : Nat))]) (fun _ => []) (fun k => k ≤ l.length) (fun k => l.length - k) 0 (Nat.zero_le _) ak rfl ?_
  intro k k1
  have k1 : k ≤ l.length := k1
  by_cases hk : k < l.length
  ·have a1 := se hU hM hH hP v (l.getD k Itm.z) (eZ ho2 hk)
   have a2 := AT hE hE2 hP hM hS v (l.getD k Itm.z) (eZ ho2 hk)
   have hp : ((l.getD k Itm.z).lE v).p = -1 := by
    unfold Itm.lE
    (repeat' split) <;> rfl
   have a3 := E3 (G := G) hE ((l.getD k Itm.z).lE v) hp
   unfold itR at a1 a2
   generalize (l.getD k Itm.z).lE v = x at *
   generalize (l.getD k Itm.z).lT v = t at *
   have hrf : (t != t) = false := by simp
   cases x <;> simp only [Err.A, Err.e, errA, atA] at a1 a2 a3
   all_goals
    refine xw1 ?_
    intros
    exact nxs (k + 1) hk (by omega) ak aS
  ·cases e <;> simp only [Err.A, Err.e, Err.p, errA, atA] at h1 h2 hpl
   all_goals
    refine xn1 ?_
    intros
    refine dw_p mixed hC hGL false (fun _ : Unit => [(2, .bool true)]) (fun _ => []) (.take 0 (.take 2 (.br 1 (.br 3 (.br 4 (.take 5 (.done)) (.nil)) (.nil)) (.nil)))) (by kernel_rfl) ?_ ?_
    ·refine xn ?_
     repeat' (first | exact Le.n | refine Lc.mk ?_ ?_)
     all_goals intros
     all_goals exact ⟨(), ak, rfl⟩
    intro _
    exact xw0
end
end Go.Proofs.YtahebkecmlmlfaaGreatDoor
