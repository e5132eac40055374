/- Parts of the proof of lineParses_card: Lpc, Dfx, Lpd, Mx0, Cnt, Rqe, Thr, Lpf, Lpg, Lph, Lpi, Lpe, Lpj, Lpk, End. -/
import Derived.Lib.ItoaNum
import Derived.Test.YtkmpcdlmeiophaaGreatDoorRows
import Derived.ProofKit
import Derived.LaidMore
import Derived.Lay
import Derived.Stop.Joined
import Derived.Test.YtkmpcdlmeiophaaGreatDoorBah
import Derived.Test.YtkmpcdlmeiophaaGreatDoorBae
import Derived.Test.YtkmpcdlmeiophaaGreatDoorBaf
import Derived.Test.YtkmpcdlmeiophaaGreatDoorBad
set_option linter.unusedVariables false
set_option linter.unusedSimpArgs false
namespace Go.Proofs.YtkmpcdlmeiophaaGreatDoor
open Go Go.RowKit
def prsC (ps : List Pr) : List AVal := ps.flatMap fun q => [.str q.n, .list 1 q.vs.length (strsF q.vs)]
theorem prsC_len : ∀ ps : List Pr, (prsC ps).length = ps.length * 2
  | [] => rfl
  | q :: l => by
    have := prsC_len l
    simp only [prsC, List.flatMap_cons, List.length_append, List.length_cons, List.length_nil] at *
    omega
theorem prsC_snoc (ps : List Pr) (q : Pr) : prsC (ps ++ [q]) = prsC ps ++ [.str q.n, .list 1 q.vs.length (strsF q.vs)] := by
  simp [prsC]
/-- What comes behind a value. -/
def valsC (c : Bool) (s : List UInt8) (a : Nat) (vs : List (List UInt8)) : PR (List (List UInt8) × Nat) := if atB s a 44 then valsP c s (a + 1) vs else .ok (vs, a)
theorem valsP_val {c : Bool} {s v : List UInt8} {a b : Nat} {acc : List (List UInt8)} (h : valP c s a = .ok (v, b)) : valsP c s a acc = valsC c s b (acc ++ [v]) := by
  unfold valsC
  cases hb : atB s b 44 with
  | true => rw [valsP_go h hb, if_pos rfl]
  | false => rw [valsP_end h hb, if_neg (by decide)]
section
variable {C : Ctx} {n : Nat} {e : Env}
theorem to_drop {h h' : Heap} (hh : h'.Sublist h) : To C n e h e h' := fun R _ _ hm hf => ⟨R, Seal.le_refl R, hm.drop hh, hf⟩
theorem to_prm {c0 : HEnt} {va : Value} {acc : List Pr} {w : List UInt8} {vs : List (List UInt8)} {u : Value} {m bp : Nat} (hm : m = (acc ++ [(⟨w, vs⟩ : Pr)]).length) : To C n e [c0, .row va none 2 m (prsC acc ++ ([.str w, .own 3 u] : List AVal)), .cells bp (some 51) [.str w, .own 3 u], .row u none 1 vs.length (strsC vs)] e
    [c0, .row va none 2 (acc ++ [(⟨w, vs⟩ : Pr)]).length (prsC (acc ++ [⟨w, vs⟩]))] := by
  have hI := prsC_len acc
  rw [← hm]
  have e1 : (prsC acc ++ ([.str w, .own 3 u] : List AVal)).set (acc.length * 2 + 1) (.list 1 vs.length (strsF vs)) = prsC (acc ++ [⟨w, vs⟩]) := by
    rw [List.set_append_right _ _ (by omega), hI, Nat.add_sub_cancel_left, prsC_snoc]
    rfl
  rw [← e1]
  refine to_trans (to_seal (i := 3) (k := 1) (p := acc.length * 2 + 1) (strsF vs) rfl rfl (strsF_ok vs) (fun R hr => .row (a := .own 3 u) ?_ fun _ => own_list hr)) (to_drop ?_)
  · rw [List.getElem?_append_right (by omega), hI, Nat.add_sub_cancel_left]; rfl
  · exact List.Sublist.cons_cons _ (List.Sublist.cons_cons _ (List.nil_sublist _))
end
set_option maxRecDepth 20000
set_option maxHeartbeats 4000000
set_option linter.unusedSimpArgs false
set_option linter.unusedVariables false
attribute [local irreducible] AWp AOps byteAt SrcOK OrOk GloAll FnSpec
attribute [local irreducible] hdC hdB badI isS decS letterB prsC To
abbrev slV (a : Option Addr) (k c : Nat) : Value := .slice a k c
theorem line_params {G : Glo} (b : Nat) (s : List UInt8) (a : Nat) (cr : Bool) (hl : s.length ≤ 1000000) (ha : a ≤ s.length) : FnSpec Tryz.prog G 26 [.raw (pS b)] [rdC b s a cr]
    (fun r H => (∃ ps j va vk vc, parsP cr s a [] = .ok (ps, j) ∧ r = .ret (.own 1 (.slice va vk vc)) ∧ H = [rdC b s j cr, .row (.slice va vk vc) none 2 ps.length (prsC ps)]) ∨ (∃ e p j, parsP cr s a [] = .bad e p ∧ r = .panic (fltA e p) ∧ H = [rdC b s j cr])) := by
  have hT := fun e p => line_throw (G := G) (pS b) e p
  have bad : ∀ {e p : Int} {q j : Nat} {T : Heap}, parsP cr s a [] = .bad e q → p = q → Pn (fun r H => (∃ ps j va vk vc, parsP cr s a [] = .ok (ps, j) ∧ r = .ret (.own 1 (.slice va vk vc)) ∧ H = [rdC b s j cr, .row (.slice va vk vc) none 2 ps.length (prsC ps)]) ∨ (∃ e p j, parsP cr s a [] = .bad e p ∧ r = .panic (fltA e p) ∧ H = [rdC b s j cr])) (fltA e p) (rdC b s j cr :: T) := by
    rintro e p q j T h1 rfl
    exact ⟨_, List.Sublist.cons_cons _ (List.nil_sublist _), .inr ⟨_, _, _, h1, rfl, rfl⟩⟩
  have hGL : GloAll G [] := gloAll_nil
  refine fn_own [(0, 0, pS b)] Tryz.func26 Tryz.call26 rfl rfl rfl rfl (by repeat (first | exact trivial | refine And.intro ⟨rfl, rfl⟩ ?_)) ?_
  intro C hC
  refine aw_code hC hGL (xn1 ?_)
  refine lpT hC hGL (fun x : Nat × List Pr × Option Addr × Nat × Nat => [(0, .own 0 (pS b)), (3, .own 1 (slV x.2.2.1 x.2.2.2.1 x.2.2.2.2))]) (fun x => [rdC b s x.1 cr, .row (slV x.2.2.1 x.2.2.2.1 x.2.2.2.2) none 2 x.2.1.length (prsC x.2.1)]) (fun x => x.1 ≤ s.length ∧ x.2.1.length ≤ 20 ∧ parsP cr s x.1 x.2.1 = parsP cr s a []) (fun x => s.length - x.1) (a, [], none, 0, 0) ⟨ha, Nat.zero_le _, rfl⟩ ?_ ?_
  · refine to_trans (to_ghost 2) (to_trans (to_own (k := 3) (i := 1) rfl rfl) (to_sub env_w ?_))
    rw [show prsC [] = [] by unfold prsC; rfl]
    exact List.Sublist.refl _
  rintro ⟨at0, acc, va, vk, vc⟩ ⟨h1, h2, h3⟩
  dsimp only at h1 h2 h3 ⊢
  have hi0 := line_is (G := G) b s at0 cr 59 hl h1
  cases hq : atB s at0 59 with
  | false =>
    rw [hq, if_neg (by decide)] at hi0
    refine xn1 ?_
    intros
    exact ⟨_, List.Sublist.refl _, .inl ⟨acc, at0, _, _, _, h3.symm.trans (parsP_end hq), rfl, rfl⟩⟩
  | true =>
    rw [hq, if_pos rfl] at hi0
    have hb1 := (atB_t.1 hq).1
    have hw0 := line_word (G := G) b s (at0 + 1) cr hl (by omega)
    refine xn1 ?_
    intros
    refine ⟨_, fn_frame [.row (slV va vk vc) none 2 acc.length (prsC acc)] hw0, ?_, ?_⟩
    rotate_left
    · rintro _ _ ⟨_, (⟨_, _, _, e, _⟩ | ⟨e', q, jj, hw, e, rfl⟩), rfl⟩
      · cases e
      · cases e
        exact bad (h3.symm.trans (parsP_word hq hw)) rfl
    rintro _ _ ⟨_, (⟨w, j, hw, e, rfl⟩ | ⟨_, _, _, _, e, _⟩), rfl⟩
    rotate_left
    · cases e
    cases e
    have hj := wordP_ge hw
    have hjl : j ≤ s.length := hj.2.1 (by omega)
    have hi1 := line_is (G := G) b s j cr 61 hl hjl
    cases h61 : atB s j 61 with
    | false =>
      rw [h61, if_neg (by decide)] at hi1
      refine xn1 ?_
      intros
      refine cx_panic (hT 7 j) ?_
      exact bad (h3.symm.trans (parsP_eq hq hw h61)) rfl
    | true =>
      rw [h61, if_pos rfl] at hi1
      have hb2 := (atB_t.1 h61).1
      have hv0 := line_value (G := G) b s (j + 1) cr hl (by omega)
      refine xn1 ?_
      intro bp
      intros
      refine dw_pp mixed hC hGL false (fun v h => ∃ (e : Int) (q jj : Nat) (T : Heap), valP cr s (j + 1) = .bad e q ∧ v = fltA e q ∧ h = rdC b s jj cr :: T)
        (fun _ : { x : List UInt8 × Nat × Option Addr × Nat × Nat // valP cr s (j + 1) = .ok (x.1, x.2.1) } => [(0, .own 0 (pS b)), (3, .own 1 (slV va vk vc)), (4, .int .i64 ((at0 + 1 : Nat) : Int)), (5, .own 2 (pS bp))])
        (fun x => [rdC b s x.1.2.1 cr, .row (slV va vk vc) none 2 acc.length (prsC acc), .cells bp (some 51) [.str w, .own 3 (slV x.1.2.2.1 x.1.2.2.2.1 x.1.2.2.2.2)], .row (slV x.1.2.2.1 x.1.2.2.2.1 x.1.2.2.2.2) none 1 1 (strsC [x.1.1])])
        (.take 0 (.take 2 (.br 1 (.br 3 (.br 4 (.br 5 (.take 6 (.br 7 (.done) (.nil))) (.nil)) (.nil)) (.nil)) (.br 3 (.br 1 (.br 4 (.br 5 (.take 6 (.br 7 (.done) (.nil))) (.nil)) (.nil)) (.br 4 (.br 1 (.br 5 (.take 6 (.br 7 (.done) (.nil))) (.nil)) (.nil)) (.nil))) (.nil))))) (by kernel_rfl) ?_ ?_ ?_
      · refine xn ?_
        repeat' (first | exact Le.n | refine Lc.mk ?_ ?_)
        all_goals intros
        all_goals (
          refine ⟨_, fn_frame [.row (slV va vk vc) none 2 acc.length (prsC acc), .cells bp (some 51) [.str w, .raw (.slice none 0 0)]] hv0, ?_, ?_⟩
          · rintro _ _ ⟨_, (⟨v, b', hv, e, rfl⟩ | ⟨_, _, _, _, e, _⟩), rfl⟩
            · cases e
              refine xn ?_
              repeat' (first | exact Le.n | refine Lc.mk ?_ ?_)
              all_goals intros
              all_goals exact ⟨⟨(v, b', _, _, _), hv⟩, env_w, sub_w⟩
            · cases e
          · rintro _ _ ⟨_, (⟨_, _, _, e, _⟩ | ⟨e', q, jj, hv, e, rfl⟩), rfl⟩
            · cases e
            · cases e
              exact ⟨e', q, jj, _, hv, rfl, rfl⟩)
      rotate_left
      · rintro v h ⟨e', q, jj, T, hv, rfl, rfl⟩
        exact bad (h3.symm.trans (parsP_vals hq hw h61 (valsP_bad hv))) rfl
      rintro ⟨⟨v1, b1, ua, uk, uc⟩, hv1⟩
      dsimp only at hv1 ⊢
      have hg1 := valP_ge hv1
      refine xn1 ?_
      intros
      refine lpT hC hGL (fun x : Nat × List (List UInt8) × Option Addr × Nat × Nat => [(0, .own 0 (pS b)), (3, .own 1 (slV va vk vc)), (4, .int .i64 ((at0 + 1 : Nat) : Int)), (5, .own 2 (pS bp))])
        (fun x => [rdC b s x.1 cr, .row (slV va vk vc) none 2 acc.length (prsC acc), .cells bp (some 51) [.str w, .own 3 (slV x.2.2.1 x.2.2.2.1 x.2.2.2.2)], .row (slV x.2.2.1 x.2.2.2.1 x.2.2.2.2) none 1 x.2.1.length (strsC x.2.1)])
        (fun x => x.1 ≤ s.length ∧ j + 1 ≤ x.1 ∧ x.2.1.length ≤ x.1 ∧ valsC cr s x.1 x.2.1 = valsP cr s (j + 1) []) (fun x => s.length - x.1) (b1, [v1], ua, uk, uc) ⟨hg1.2 (by omega), hg1.1, by simp only [List.length_cons, List.length_nil]; omega, (valsP_val (acc := []) hv1).symm⟩ (to_sub env_w sub_w) ?_
      rintro ⟨at2, vs, ua, uk, uc⟩ ⟨g1, g2, g3, g4⟩
      dsimp only at g1 g2 g3 g4 ⊢
      have hi2 := line_is (G := G) b s at2 cr 44 hl g1
      cases h44 : atB s at2 44 with
      | false =>
        rw [h44, if_neg (by decide)] at hi2
        have hvs : valsP cr s (j + 1) [] = .ok (vs, at2) := by rw [← g4]; unfold valsC; rw [h44, if_neg (by decide)]
        by_cases h20 : acc.length = 20
        · refine xn1 ?_
          intros
          refine cx_panic (hT 4 ((at0 + 1 : Nat) : Int)) ?_
          exact bad (h3.symm.trans (parsP_lim hq hw h61 hvs h20)) rfl
        · refine xn1 ?_
          intro wa wk wc _
          intros
          refine nxT (at2, acc ++ [⟨w, vs⟩], wa, wk, wc) ⟨g1, by simp only [List.length_append, List.length_cons, List.length_nil]; omega, (parsP_go hq hw h61 hvs h20).symm.trans h3⟩ (by dsimp only; omega) ?_
          exact to_trans (to_sub env_w (List.Sublist.refl _)) (to_prm (by simp))
      | true =>
        rw [h44, if_pos rfl] at hi2
        have hb3 := (atB_t.1 h44).1
        have hv2 := line_value (G := G) b s (at2 + 1) cr hl (by omega)
        have hgo : valsC cr s at2 vs = valsP cr s (at2 + 1) vs := by unfold valsC; rw [h44, if_pos rfl]
        refine xn1 ?_
        intros
        refine dw_pp mixed hC hGL false (fun v h => ∃ (e : Int) (q jj : Nat) (T : Heap), valP cr s (at2 + 1) = .bad e q ∧ v = fltA e q ∧ h = rdC b s jj cr :: T)
          (fun _ : { x : List UInt8 × Nat × Option Addr × Nat × Nat // valP cr s (at2 + 1) = .ok (x.1, x.2.1) } => [(0, .own 0 (pS b)), (3, .own 1 (slV va vk vc)), (4, .int .i64 ((at0 + 1 : Nat) : Int)), (5, .own 2 (pS bp))])
          (fun x => [rdC b s x.1.2.1 cr, .row (slV va vk vc) none 2 acc.length (prsC acc), .cells bp (some 51) [.str w, .own 3 (slV x.1.2.2.1 x.1.2.2.2.1 x.1.2.2.2.2)], .row (slV x.1.2.2.1 x.1.2.2.2.1 x.1.2.2.2.2) none 1 (vs ++ [x.1.1]).length (strsC (vs ++ [x.1.1]))])
          (.take 0 (.take 2 (.br 1 (.br 3 (.br 4 (.br 5 (.take 6 (.br 7 (.done) (.nil))) (.nil)) (.nil)) (.nil)) (.br 3 (.br 1 (.br 4 (.br 5 (.take 6 (.br 7 (.done) (.nil))) (.nil)) (.nil)) (.br 4 (.br 1 (.br 5 (.take 6 (.br 7 (.done) (.nil))) (.nil)) (.nil)) (.nil))) (.nil))))) (by kernel_rfl) ?_ ?_ ?_
        · refine xn ?_
          repeat' (first | exact Le.n | refine Lc.mk ?_ ?_)
          all_goals intros
          all_goals (
            refine ⟨_, fn_frame [.row (slV va vk vc) none 2 acc.length (prsC acc), .cells bp (some 51) [.str w, .own 3 (slV ua uk uc)], .row (slV ua uk uc) none 1 vs.length (strsC vs)] hv2, ?_, ?_⟩
            · rintro _ _ ⟨_, (⟨v, b', hv, e, rfl⟩ | ⟨_, _, _, _, e, _⟩), rfl⟩
              · cases e
                refine xn ?_
                repeat' (first | exact Le.n | refine Lc.mk ?_ ?_)
                all_goals intros
                all_goals (
                  rename_i wa wk wc wh
                  refine ⟨⟨(v, b', wa, wk, wc), hv⟩, env_w, ?_⟩
                  dsimp only
                  rw [← strsC_snoc, List.length_append]
                  exact sub_w)
              · cases e
            · rintro _ _ ⟨_, (⟨_, _, _, e, _⟩ | ⟨e', q, jj, hv, e, rfl⟩), rfl⟩
              · cases e
              · cases e
                exact ⟨e', q, jj, _, hv, rfl, rfl⟩)
        rotate_left
        · rintro v h ⟨e', q, jj, T, hv, rfl, rfl⟩
          exact bad (h3.symm.trans (parsP_vals hq hw h61 (g4.symm.trans (hgo.trans (valsP_bad hv))))) rfl
        rintro ⟨⟨v3, b3, xa, xk, xc⟩, hv3⟩
        dsimp only at hv3 ⊢
        have hg3 := valP_ge hv3
        refine xn1 ?_
        intros
        exact nxT (b3, vs ++ [v3], xa, xk, xc) ⟨hg3.2 (by omega), by omega, by simp only [List.length_append, List.length_cons, List.length_nil]; omega, ((valsP_val hv3).symm.trans hgo.symm).trans g4⟩ (by dsimp only; omega) (to_sub env_w sub_w)
end Go.Proofs.YtkmpcdlmeiophaaGreatDoor
namespace Go.Proofs.YtkmpcdlmeiophaaGreatDoor
open Go Go.RowKit
theorem iface_told {R : Seal} {t : TypeId} {a a' : AVal} (h : ∀ v, Rel R a v → Rel R a' v) {u : Value} : RelC R (.iface t a) [u] → RelC R (.iface t a') [u] := by
  rintro ⟨w, e, h1, h2⟩
  have := h w ⟨h1, h2⟩
  exact ⟨w, e, this.1, this.2⟩
theorem own_told {R : Seal} {j : Nat} {x : Value} {a : AVal} (h : Rel R a x) : ∀ v, Rel R (.own j x) v → Rel R a v := fun v hv => by rw [(rel_own.1 hv).1]; exact h
theorem ds_told {P : Program} {G : Glo} {f : FuncId} {avs : List AVal} {m m' : AMode} {H H' : Heap} {v : AVal} {Y : Type} {H1 : Y → Heap} (h : DSpec P G f avs m H (fun r2 m2 H2 => m2 = m' ∧ r2 = .ret v ∧ ∃ y, H2 = H1 y))
    (hto : ∀ y (C : Ctx) R w, MS C R (H1 y) w → ∃ R', R.le R' ∧ MS C R' H' w) : DSpec P G f avs m H (fun r2 m2 H2 => m2 = m' ∧ r2 = .ret v ∧ H2 = H') := by
  intro R w args u hG hm ha hu
  refine (h R w args u hG hm ha hu).mono ?_
  rintro e u' w' ⟨res, m2, H2, R', ⟨rfl, rfl, y, rfl⟩, ⟨x, rfl, hr⟩, hu', hm'⟩
  obtain ⟨R2, hle, hm2⟩ := hto y _ _ _ hm'
  exact ⟨_, _, _, R2, ⟨rfl, rfl, rfl⟩, ⟨x, rfl, rel_mono hle hr⟩, hu'.mono hle, hm2⟩
theorem fn_at3 {P : Program} [Tab P] {G : Glo} {f : FuncId} {avs : List AVal} {H : Heap} {i : Nat} {x : HEnt} {Qf : ARes → Heap → Prop} (hi : H[i]? = some x) (hs : FnSpec P G f avs [x] Qf) (hne : ∀ r H1, Qf r H1 → H1 ≠ []) :
    FnSpec P G f avs H (fun r H' => ∃ y t, Qf r (y :: t) ∧ H' = H.set i y ++ t) := by
  have hp := perm_front hi
  refine fn_heap (fn_perm (H1 := [x] ++ H.eraseIdx i) (by simpa using hp.symm) (fn_frame (H.eraseIdx i) hs)) ?_
  rintro r H' ⟨H1', q, rfl⟩
  cases H1' with
  | nil => exact absurd rfl (hne _ _ q)
  | cons y t =>
    refine ⟨H.set i y ++ t, ?_, y, t, q, rfl⟩
    have h1 := set_perm y hi
    exact ((List.perm_append_comm (l₁ := t) (l₂ := H.eraseIdx i)).cons y).trans (h1.append_right t)
/-- The entries at some places, one by one; what is left. -/
def pickL : List Nat → Heap → Heap
  | [], _ => []
  | i :: is, H => match H[i]? with
    | some x => x :: pickL is (H.eraseIdx i)
    | none => []
def restL : List Nat → Heap → Heap
  | [], H => H
  | i :: is, H => match H[i]? with
    | some _ => restL is (H.eraseIdx i)
    | none => H
theorem pick_perm : ∀ (is : List Nat) (H : Heap), H.Perm (pickL is H ++ restL is H)
  | [], H => List.Perm.refl _
  | i :: is, H => by
    unfold pickL restL
    cases h : H[i]? with
    | none => exact List.Perm.refl _
    | some x =>
      have h1 := perm_front h
      exact h1.trans ((pick_perm is (H.eraseIdx i)).cons x)
/-- A call that is handed the entries at some places. -/
theorem cx_pick (is : List Nat) {P : Program} [Tab P] {G : Glo} {f : FuncId} {avs : List AVal} {H H1 : Heap} {K Kp : AVal → Heap → Prop} {Qf : ARes → Heap → Prop} (hs : FnSpec P G f avs H1 Qf) (e1 : pickL is H = H1)
    (kr : ∀ v H1', Qf (.ret v) H1' → ∃ H2, pickL is H2 = H1' ∧ restL is H2 = restL is H ∧ K v H2) (kp : ∀ v H1', Qf (.panic v) H1' → ∃ H2, pickL is H2 = H1' ∧ restL is H2 = restL is H ∧ Kp v H2) : Cx P G f avs H K Kp := by
  subst e1
  have h1 := fn_perm (pick_perm is H).symm (fn_frame (restL is H) hs)
  refine ⟨fun r H' => match r with | .ret v => K v H' | .panic v => Kp v H', fn_heap h1 ?_, fun v H' h => h, fun v H' h => h⟩
  rintro r H' ⟨H1', q, rfl⟩
  cases r with
  | ret v =>
    obtain ⟨H2, g1, g2, k⟩ := kr v H1' q
    refine ⟨H2, ?_, k⟩
    have := pick_perm is H2
    rw [g1, g2] at this
    exact this.symm
  | panic v =>
    obtain ⟨H2, g1, g2, k⟩ := kp v H1' q
    refine ⟨H2, ?_, k⟩
    have := pick_perm is H2
    rw [g1, g2] at this
    exact this.symm
theorem tuple_one {R R' : Seal} {a a' b : AVal} {x : Value} (hle : R.le R') (h : Rel R (.tuple [a, b]) x) (ht : ∀ v, Rel R a v → Rel R' a' v) : Rel R' (.tuple [a', b]) x := by
  obtain ⟨⟨ws, e, u, t, e1, hu, u2, t2, e2, hu2, rfl⟩, h2⟩ := h
  have k := ht u ⟨hu.1, hu.2⟩
  have k2 := rel_mono hle (show Rel R b u2 from ⟨hu2.1, hu2.2⟩)
  exact ⟨⟨ws, e, _, _, e1, ⟨k.1, k.2⟩, _, _, e2, ⟨k2.1, k2.2⟩, rfl⟩, h2⟩
theorem agg_told {R R' : Seal} {cs : List AVal} {p : Nat} {a a' : AVal} {v : Value} (hle : R.le R') (h : Rel R (.agg cs) v) (hp : cs[p]? = some a) (ht : ∀ v, RelC R' a [v] → RelC R' a' [v]) : Rel R' (.agg (cs.set p a')) v :=
  ⟨relL_set ht (relL_mono hle _ _ h.1) hp, h.2⟩
section
variable {P : Program} [Tab P] {C : Ctx} {n : Nat} {env : Env} {H : Heap} {Q : List Deferred → AExit → Env → Heap → Prop} {G : Glo} {GL : List (Nat × List AVal)}
theorem awd_cuty {a b : Code} {X : Type} (hC : C.G = G) (hGL : GloAll G GL) (I : X → Env) (J : X → Heap) (Inv : X → Prop) (h1 : codeX P C n G GL a env H (thenQ (fun e h => Cy I J Inv e h) (Q C.D))) (h2 : ∀ x, Inv x → AWpD P C n b (I x) (J x) Q) : AWpD P C n (.seq a b) env H Q := by
  refine awd_seq (awd_of ((codeX_ok hC hGL _ _ _ _ h1).mono fun x e h q => ?_))
  cases x with
  | normal =>
    obtain ⟨y, hy, hs, rfl⟩ := q.h
    exact fun R a w hm hf => h2 y hy R a w hm (hf.sub hs)
  | exit i => exact q
  | goto i => exact q
  | ret => exact q
  | panic v => exact q
theorem lv_rq {rs : List ResultVar} {Qf : ARes → Heap → Prop} (h : RetQ P rs Qf .ret env H) : Lv P G n rs env [] .ret H Qf := by
  unfold Lv
  rintro C R a w fn u D0 hC hrs hm hf rfl
  obtain ⟨vs, H'', hv, hs, q⟩ := h
  obtain ⟨y, hy, hr⟩ := results_run (fn := fn) hm hf (by rw [hrs]; exact hv)
  exact ⟨y, hy, _, H'', R, q, ⟨y, rfl, hr⟩, hm.drop hs⟩
end
end Go.Proofs.YtkmpcdlmeiophaaGreatDoor
namespace Go.Proofs.YtkmpcdlmeiophaaGreatDoor
open Go Go.RowKit
abbrev prC (b : Nat) (g n : List UInt8) (q : AVal) (v : List UInt8) : HEnt := .cells b (some 24) [.str g, .str n, q, .str v]
abbrev erC (b : Nat) (x : AVal) : HEnt := .cells b (some 31) [x]
abbrev nilS : AVal := .raw (.slice none 0 0)
abbrev atEA (e p : Int) : AVal := .iface 53 (.rop [.int .i64 e, .int .i64 p] 0)
abbrev dPar (b4 b5 : Nat) : Deferred := { target := .fn (.func 23) #[pS b4, pS b5], args := #[] }
theorem word_at {G : Glo} {H : Heap} {i : Nat} (b : Nat) (s : List UInt8) (a : Nat) (cr : Bool) (hi : H[i]? = some (rdC b s a cr)) (hl : s.length ≤ 1000000) (ha : a ≤ s.length) : FnSpec Tryz.prog G 24 [.raw (pS b)] H
    (fun r H' => (∃ w j, wordP s a = .ok (w, j) ∧ r = .ret (.str w) ∧ H' = H.set i (rdC b s j cr)) ∨ (∃ e p j, wordP s a = .bad e p ∧ r = .panic (fltA e p) ∧ H' = H.set i (rdC b s j cr))) := by
  refine (fn_at3 hi (line_word b s a cr hl ha) (by rintro _ _ (⟨_, _, _, _, rfl⟩ | ⟨_, _, _, _, _, rfl⟩) <;> simp)).mono ?_
  rintro r H' ⟨y, t, (⟨w, j, h1, h2, h3⟩ | ⟨e, p, j, h1, h2, h3⟩), rfl⟩
  · cases h3; exact .inl ⟨w, j, h1, h2, by simp⟩
  · cases h3; exact .inr ⟨e, p, j, h1, h2, by simp⟩
theorem params_at {G : Glo} {H : Heap} {i : Nat} (b : Nat) (s : List UInt8) (a : Nat) (cr : Bool) (hi : H[i]? = some (rdC b s a cr)) (hl : s.length ≤ 1000000) (ha : a ≤ s.length) : FnSpec Tryz.prog G 26 [.raw (pS b)] H
    (fun r H' => (∃ ps j va vk vc, parsP cr s a [] = .ok (ps, j) ∧ r = .ret (.own 1 (.slice va vk vc)) ∧ H' = H.set i (rdC b s j cr) ++ [.row (.slice va vk vc) none 2 ps.length (prsC ps)]) ∨ (∃ e p j, parsP cr s a [] = .bad e p ∧ r = .panic (fltA e p) ∧ H' = H.set i (rdC b s j cr))) := by
  refine (fn_at3 hi (line_params b s a cr hl ha) (by rintro _ _ (⟨_, _, _, _, _, _, _, rfl⟩ | ⟨_, _, _, _, _, rfl⟩) <;> simp)).mono ?_
  rintro r H' ⟨y, t, (⟨ps, j, va, vk, vc, h1, h2, h3⟩ | ⟨e, p, j, h1, h2, h3⟩), rfl⟩
  · cases h3; exact .inl ⟨ps, j, va, vk, vc, h1, h2, rfl⟩
  · cases h3; exact .inr ⟨e, p, j, h1, h2, by simp⟩
theorem parsP_ge {c : Bool} {s : List UInt8} : ∀ (n : Nat) {a b : Nat} {acc ps : List Pr}, s.length - a ≤ n → parsP c s a acc = .ok (ps, b) → a ≤ b ∧ (a ≤ s.length → b ≤ s.length)
  | n, a, b, acc, ps, hn, h => by
    cases hq : atB s a 59 with
    | false => rw [parsP_end hq] at h; cases h; exact ⟨Nat.le_refl _, id⟩
    | true =>
      have h1 := atB_t.1 hq
      cases hw : wordP s (a + 1) with
      | bad e p => rw [parsP_word hq hw] at h; cases h
      | ok x =>
        obtain ⟨w, j⟩ := x
        have h2 := wordP_ge hw
        cases hj : atB s j 61 with
        | false => rw [parsP_eq hq hw hj] at h; cases h
        | true =>
          cases hv : valsP c s (j + 1) [] with
          | bad e p => rw [parsP_vals hq hw hj hv] at h; cases h
          | ok x =>
            obtain ⟨vs, d⟩ := x
            have h3 := valsP_ge _ (Nat.le_refl _) hv
            by_cases h20 : acc.length = 20
            · rw [parsP_lim hq hw hj hv h20] at h; cases h
            · rw [parsP_go hq hw hj hv h20] at h
              cases n with
              | zero => omega
              | succ n =>
                have ih := parsP_ge n (by omega) h
                have h4 := (atB_t.1 hj).1
                omega
set_option maxRecDepth 20000
set_option maxHeartbeats 4000000
set_option linter.unusedSimpArgs false
set_option linter.unusedVariables false
attribute [local irreducible] AWp AOps byteAt SrcOK OrOk GloAll FnSpec
attribute [local irreducible] hdC hdB badI isS decS letterB prsC To DSpec Lv AWpD
theorem line_caught {G : Glo} (b4 b5 : Nat) (e p : Int) (g n v : List UInt8) (q x : AVal) : DSpec Tryz.prog G 23 [.own 0 (pS b4), .own 1 (pS b5)] (.pan (fltA e p)) [prC b4 g n q v, erC b5 x]
    (fun r m H => m = .rcv (fltA e p) ∧ r = .ret (.tuple []) ∧ H = [prC b4 [] [] nilS [], erC b5 (atEA e p)]) := by
  have hGL : GloAll G [] := gloAll_nil
  refine ds_told (Y := Nat) (H1 := fun b3 => [prC b4 [] [] nilS [], erC b5 (.iface 53 (.own 2 (pS b3))), .cells b3 (some 57) [.int .i64 e, .int .i64 p]]) ?_ ?_
  · refine ds_rec (rs := []) (GL := []) Tryz.func23 rfl rfl rfl rfl rfl rfl hGL ?_
    intro C hC
    refine xn1 ?_
    intro b3
    intros
    exact ⟨_, List.Sublist.refl _, rfl, b3, rfl⟩
  · intro b3 C R w hm
    obtain ⟨R', hle, hm', hr⟩ := MS.seal_cells (hm.perm (perm_front (i := 2) rfl))
    obtain ⟨h1, h2⟩ := (CellTo.cells (R := R') (b := b5) (eT := some 31) (p := 0) (a := .iface 53 (.own 2 (pS b3))) (a' := atEA e p) (cs := [.iface 53 (.own 2 (pS b3))]) rfl (fun v => iface_told (own_told hr))).holds (hm'.heap.holds _ (List.mem_of_getElem? (i := 1) rfl))
    exact ⟨R', hle, hm'.setEnt (i := 1) rfl h2 h1⟩
theorem line_uncaught {G : Glo} (b4 b5 : Nat) (x y : HEnt) : DSpec Tryz.prog G 23 [.own 0 (pS b4), .own 1 (pS b5)] .ret [x, y] (fun r m H => m = .ret ∧ r = .ret (.tuple []) ∧ H = [x, y]) := by
  have hGL : GloAll G [] := gloAll_nil
  refine ds_rec (rs := []) (GL := []) Tryz.func23 rfl rfl rfl rfl rfl rfl hGL ?_
  intro C hC
  exact xn0
section
variable {G : Glo} {n : Nat} {env : Env} {Qf : ARes → Heap → Prop} {b4 b5 : Nat} {T : Heap} {q x : AVal} {e p : Int} {g m v : List UInt8}
theorem par_ret (h4 : Env.get env 4 = some (.own 0 (pS b4))) (h5 : Env.get env 5 = some (.own 1 (pS b5))) (hx : x.isAgg = false) {H' : Heap} (hs : H'.Sublist T) (hq : Qf (.ret (.tuple [.agg [.str g, .str m, q, .str v], x])) H') :
    Lv Tryz.prog G n [.cell 4 24, .cell 5 31] env [] .ret (prC b4 g m q v :: erC b5 x :: T) Qf := by
  refine lv_rq ⟨[.agg [.str g, .str m, q, .str v], x], H', ⟨_, _, rfl, ⟨b4, 0, _, _, _, .inr ⟨0, h4⟩, rfl, rfl, rfl, .inl ⟨rfl, rfl⟩⟩, _, _, rfl, ⟨b5, 1, _, _, _, .inr ⟨1, h5⟩, rfl, rfl, rfl, .inr ⟨rfl, rfl, hx⟩⟩, rfl⟩, (hs.cons _).cons _, hq⟩
theorem par_thrown (h4 : Env.get env 4 = some (.own 0 (pS b4))) (h5 : Env.get env 5 = some (.own 1 (pS b5))) (hq : Qf (.ret (.tuple [.agg [.str [], .str [], nilS, .str []], atEA e p])) []) :
    Lv Tryz.prog G n [.cell 4 24, .cell 5 31] env [dPar b4 b5] (.pan (fltA e p)) (prC b4 g m q v :: erC b5 x :: T) Qf := by
  refine lv_call (ds_pre T (line_caught (G := G) b4 b5 e p g m v q x)) (fun R => ⟨_, _, rfl, rel_own.2 ⟨rfl, rfl⟩, _, _, rfl, rel_own.2 ⟨rfl, rfl⟩, rfl⟩) Tryz.call23 ?_
  exact par_ret h4 h5 rfl (List.nil_sublist _) hq
theorem par_left (h4 : Env.get env 4 = some (.own 0 (pS b4))) (h5 : Env.get env 5 = some (.own 1 (pS b5))) (hx : x.isAgg = false) {H' : Heap} (hs : H'.Sublist T) (hq : Qf (.ret (.tuple [.agg [.str g, .str m, q, .str v], x])) H') :
    Lv Tryz.prog G n [.cell 4 24, .cell 5 31] env [dPar b4 b5] .ret (prC b4 g m q v :: erC b5 x :: T) Qf := by
  refine lv_call (ds_pre T (line_uncaught (G := G) b4 b5 _ _)) (fun R => ⟨_, _, rfl, rel_own.2 ⟨rfl, rfl⟩, _, _, rfl, rel_own.2 ⟨rfl, rfl⟩, rfl⟩) Tryz.call23 ?_
  exact par_ret h4 h5 hx hs hq
end
theorem lineP_bad {c : Bool} {s : List UInt8} (h : 0 ≤ badI s) : lineP c s = .bad 3 (badI s).toNat := by unfold lineP; rw [if_neg (by omega)]
theorem lineP_head {c : Bool} {s : List UInt8} {e : Int} {p : Nat} (h : badI s < 0) (k : headP s = .bad e p) : lineP c s = .bad e p := by unfold lineP; rw [if_pos h, k]
theorem lineP_pars {c : Bool} {s g n : List UInt8} {a : Nat} {e : Int} {p : Nat} (h : badI s < 0) (k : headP s = .ok ((g, n), a)) (m : parsP c s a [] = .bad e p) : lineP c s = .bad e p := by
  unfold lineP; rw [if_pos h, k]; dsimp only; rw [m]
theorem lineP_tail {c : Bool} {s g n : List UInt8} {a b : Nat} {ps : List Pr} (h : badI s < 0) (k : headP s = .ok ((g, n), a)) (m : parsP c s a [] = .ok (ps, b)) : lineP c s = tailP s g n ps b := by
  unfold lineP; rw [if_pos h, k]; dsimp only; rw [m]
theorem headP_1 {s : List UInt8} {e : Int} {p : Nat} (h : wordP s 0 = .bad e p) : headP s = .bad e p := by unfold headP; rw [h]
theorem headP_2 {s w : List UInt8} {j : Nat} (h : wordP s 0 = .ok (w, j)) (k : atB s j 46 = false) : headP s = .ok (([], w), j) := by unfold headP; rw [h]; dsimp only; rw [k]; rfl
theorem headP_3 {s w : List UInt8} {j p : Nat} {e : Int} (h : wordP s 0 = .ok (w, j)) (k : atB s j 46 = true) (m : wordP s (j + 1) = .bad e p) : headP s = .bad e p := by unfold headP; rw [h]; dsimp only; rw [k, if_pos rfl, m]
theorem headP_4 {s w n : List UInt8} {j i : Nat} (h : wordP s 0 = .ok (w, j)) (k : atB s j 46 = true) (m : wordP s (j + 1) = .ok (n, i)) : headP s = .ok ((w, n), i) := by unfold headP; rw [h]; dsimp only; rw [k, if_pos rfl, m]
theorem tailP_7 {s g n : List UInt8} {ps : List Pr} {b : Nat} (h : atB s b 58 = false) : tailP s g n ps b = .bad 7 b := by unfold tailP; rw [h]; rfl
theorem tailP_3 {s g n : List UInt8} {ps : List Pr} {b i : Nat} (h : atB s b 58 = true) (hb : b + 1 ≤ i) (hi : i < s.length) (hc : hdC false (byteAt s i : Int) = true) (h0 : ∀ j, b + 1 ≤ j → j < i → hdC false (byteAt s j : Int) = false) : tailP s g n ps b = .bad 3 i := by
  have e : fstB (hdC false) (s.drop (b + 1)) = ((i - (b + 1) : Nat) : Int) := fstB_at (i := i - (b + 1)) (by rw [List.length_drop]; omega) (by rw [drop_byte, show b + 1 + (i - (b + 1)) = i by omega]; exact hc) (fun j hj => by rw [drop_byte]; exact h0 _ (by omega) (by omega))
  unfold tailP
  rw [h, if_pos rfl, e, if_neg (by omega), Int.toNat_natCast, show b + 1 + (i - (b + 1)) = i by omega]
theorem tailP_ok {s g n : List UInt8} {ps : List Pr} {b i : Nat} (h : atB s b 58 = true) (hi : s.length ≤ i) (h0 : ∀ j, b + 1 ≤ j → j < i → hdC false (byteAt s j : Int) = false) : tailP s g n ps b = .ok ⟨g, n, ps, s.drop (b + 1)⟩ := by
  have e : fstB (hdC false) (s.drop (b + 1)) = -1 := fstB_none (fun j hj => by rw [drop_byte]; rw [List.length_drop] at hj; exact h0 _ (by omega) (by omega))
  unfold tailP
  rw [h, if_pos rfl, e, if_pos (by decide)]
attribute [local irreducible] lineP headP wordP tailP
theorem line_Parse0 {G : Glo} (s : List UInt8) (cr : Bool) (hl : s.length ≤ 1000000) : FnSpec Tryz.prog G 5 [.str s, .bool cr] []
    (fun r H => (∃ (e : Int) (p : Nat), lineP cr s = .bad e p ∧ r = .ret (.tuple [.agg [.str [], .str [], nilS, .str []], atEA e p]) ∧ H = []) ∨
      (∃ (l : Ln) (v : Value), lineP cr s = .ok l ∧ r = .ret (.tuple [.agg [.str l.g, .str l.n, .own 1 v, .str l.v], .raw .nilIface]) ∧ H = [.row v none 2 l.ps.length (prsC l.ps)])) := by
  have hGL : GloAll G [] := gloAll_nil
  have hB := utf_Bad (G := G) s (by omega)
  refine fn_d (rs := [.cell 4 24, .cell 5 31]) Tryz.func5 Tryz.call5 rfl rfl rfl rfl ?_
  intro C hC hD
  refine awd_cuty hC hGL (fun x : Nat × Nat => [(0, .str s), (1, .bool cr), (4, .own 0 (pS x.1)), (5, .own 1 (pS x.2))]) (fun x => [prC x.1 [] [] nilS [], erC x.2 (.raw .nilIface)]) (fun _ => True) ?_ ?_
  · refine xn1 ?_
    intro b4 b5
    exact cy (b4, b5) trivial
  rintro ⟨b4, b5⟩ -
  dsimp only
  refine awd_cuty hC hGL (fun _ : Unit => [(0, .str s), (1, .bool cr), (4, .own 0 (pS b4)), (5, .own 1 (pS b5))]) (fun _ => [prC b4 [] [] nilS [], erC b5 (.raw .nilIface)]) (fun _ => badI s < 0) ?_ ?_
  · by_cases hb : 0 ≤ badI s
    · have e9 : badI s = (((badI s).toNat : Nat) : Int) := by omega
      refine xn1 ?_
      intros
      rw [hD]
      exact par_ret rfl rfl rfl (List.nil_sublist _) (.inl ⟨3, (badI s).toNat, lineP_bad hb, by rw [← e9]; rfl, rfl⟩)
    · refine xn1 ?_
      intros
      exact cy () (by omega)
  intro _ hb
  refine awd_seq (awd_defer hC hGL rfl ?_)
  refine xn1 ?_
  refine ⟨_, rfl, ?_⟩
  refine (fun (h : ∀ C2 : Ctx, C2.G = G → C2.D = [dPar b4 b5] → AWpD Tryz.prog C2 _ _ _ _ _) => h (withD C (dPar b4 b5 :: C.D)) hC (by show dPar b4 b5 :: C.D = _; rw [hD])) ?_
  clear hC hD C
  intro C hC hD
  have thr : ∀ {n : Nat} {env : Env} {T : Heap} {q x : AVal} {g m v : List UInt8} {e : Int} {p : Nat} {p' : Int}, Env.get env 4 = some (.own 0 (pS b4)) → Env.get env 5 = some (.own 1 (pS b5)) → lineP cr s = .bad e p → p' = p → Lv Tryz.prog G n [.cell 4 24, .cell 5 31] env [dPar b4 b5] (.pan (fltA e p')) (prC b4 g m q v :: erC b5 x :: T)
      (fun r H => (∃ (e : Int) (p : Nat), lineP cr s = .bad e p ∧ r = .ret (.tuple [.agg [.str [], .str [], nilS, .str []], atEA e p]) ∧ H = []) ∨
      (∃ (l : Ln) (v : Value), lineP cr s = .ok l ∧ r = .ret (.tuple [.agg [.str l.g, .str l.n, .own 1 v, .str l.v], .raw .nilIface]) ∧ H = [.row v none 2 l.ps.length (prsC l.ps)])) := by
    rintro n env T q x g m v e p p' h4 h5 h rfl
    exact par_thrown h4 h5 (.inl ⟨_, _, h, rfl, rfl⟩)
  refine awd_cuty hC hGL (fun br : Nat => [(0, .str s), (4, .own 0 (pS b4)), (5, .own 1 (pS b5)), (7, .own 2 (pS br))]) (fun br => [prC b4 [] [] nilS [], erC b5 (.raw .nilIface), rdC br s 0 cr]) (fun _ => True) ?_ ?_
  · refine xb1 ?_
    intro br
    intros
    exact cy br trivial
  intro br _
  have hT := fun e p => line_throw (G := G) (pS br) e p
  refine awd_cuty hC hGL (fun x : List UInt8 × Nat => [(0, .str s), (4, .own 0 (pS b4)), (5, .own 1 (pS b5)), (7, .own 2 (pS br))]) (fun x => [prC b4 [] x.1 nilS [], erC b5 (.raw .nilIface), rdC br s x.2 cr]) (fun x => wordP s 0 = .ok x) ?_ ?_
  · refine xn1 ?_
    intros
    refine ⟨_, word_at (i := 2) br s 0 cr rfl hl (Nat.zero_le _), ?_, ?_⟩
    · rintro _ _ (⟨w, j, hw, e, rfl⟩ | ⟨_, _, _, _, e, _⟩)
      · cases e
        refine xn1 ?_
        intros
        exact cy (w, j) hw
      · cases e
    · rintro _ _ (⟨_, _, _, e, _⟩ | ⟨e', p, j, hw, e, rfl⟩)
      · cases e
      · cases e
        (conv => whnf)
        rw [hD]
        exact thr rfl rfl (lineP_head hb (headP_1 hw)) rfl
  rintro ⟨w, j⟩ hw
  dsimp only
  have hg := wordP_ge hw
  have hjl := hg.2.1 (Nat.zero_le _)
  have hi1 := line_is (G := G) br s j cr 46 hl hjl
  refine awd_cuty hC hGL (fun x : List UInt8 × List UInt8 × Nat => [(0, .str s), (4, .own 0 (pS b4)), (5, .own 1 (pS b5)), (7, .own 2 (pS br))]) (fun x => [prC b4 x.1 x.2.1 nilS [], erC b5 (.raw .nilIface), rdC br s x.2.2 cr]) (fun x => headP s = .ok ((x.1, x.2.1), x.2.2) ∧ x.2.2 ≤ s.length) ?_ ?_
  · cases h46 : atB s j 46 with
    | false =>
      rw [h46, if_neg (by decide)] at hi1
      refine xn1 ?_
      intros
      exact cy ([], w, j) ⟨headP_2 hw h46, hjl⟩
    | true =>
      rw [h46, if_pos rfl] at hi1
      have hb1 := (atB_t.1 h46).1
      refine xn1 ?_
      intros
      refine ⟨_, word_at (i := 2) br s (j + 1) cr rfl hl (by omega), ?_, ?_⟩
      · rintro _ _ (⟨n, k, hn, e, rfl⟩ | ⟨_, _, _, _, e, _⟩)
        · cases e
          refine xn1 ?_
          intros
          exact cy (w, n, k) ⟨headP_4 hw h46 hn, (wordP_ge hn).2.1 (by omega)⟩
        · cases e
      · rintro _ _ (⟨_, _, _, e, _⟩ | ⟨e', p, k, hn, e, rfl⟩)
        · cases e
        · cases e
          (conv => whnf)
          rw [hD]
          exact thr rfl rfl (lineP_head hb (headP_3 hw h46 hn)) rfl
  rintro ⟨g, n, a⟩ ⟨hh, hal⟩
  dsimp only at hh hal ⊢
  refine awd_cuty hC hGL (fun x : List Pr × Nat × Option Addr × Nat × Nat => [(0, .str s), (4, .own 0 (pS b4)), (5, .own 1 (pS b5)), (7, .own 2 (pS br))]) (fun x => [prC b4 g n (.own 1 (.slice x.2.2.1 x.2.2.2.1 x.2.2.2.2)) [], erC b5 (.raw .nilIface), rdC br s x.2.1 cr, .row (.slice x.2.2.1 x.2.2.2.1 x.2.2.2.2) none 2 x.1.length (prsC x.1)]) (fun x => parsP cr s a [] = .ok (x.1, x.2.1) ∧ x.2.1 ≤ s.length) ?_ ?_
  · refine xn1 ?_
    intros
    refine ⟨_, params_at (i := 2) br s a cr rfl hl hal, ?_, ?_⟩
    · rintro _ _ (⟨ps, k, va, vk, vc, hn, e, rfl⟩ | ⟨_, _, _, _, e, _⟩)
      · cases e
        refine xn1 ?_
        intros
        exact cy (ps, k, va, vk, vc) ⟨hn, (parsP_ge _ (Nat.le_refl _) hn).2 hal⟩
      · cases e
    · rintro _ _ (⟨_, _, _, _, _, _, e, _⟩ | ⟨e', p, k, hn, e, rfl⟩)
      · cases e
      · cases e
        (conv => whnf)
        rw [hD]
        exact thr rfl rfl (lineP_pars hb hh hn) rfl
  rintro ⟨ps, k, va, vk, vc⟩ ⟨hp, hkl⟩
  dsimp only at hp hkl ⊢
  have hLP := lineP_tail (c := cr) hb hh hp
  have hi2 := line_is (G := G) br s k cr 58 hl hkl
  cases h58 : atB s k 58 with
  | false =>
    rw [h58, if_neg (by decide)] at hi2
    refine awd_code hC hGL (xn1 ?_)
    intros
    refine cx_panic (hT 7 k) ?_
    (conv => whnf)
    rw [hD]
    exact thr rfl rfl (hLP.trans (tailP_7 h58)) rfl
  | true =>
    rw [h58, if_pos rfl] at hi2
    have hb2 := (atB_t.1 h58).1
    refine awd_code hC hGL (xn1 ?_)
    intros
    refine lp hC hGL (fun i : Nat => [(0, .str s), (4, .own 0 (pS b4)), (5, .own 1 (pS b5)), (7, .own 2 (pS br)), (8, .int .i64 (i : Nat))]) (fun _ => [prC b4 g n (.own 1 (.slice va vk vc)) [], erC b5 (.raw .nilIface), rdC br s (k + 1) cr, .row (.slice va vk vc) none 2 ps.length (prsC ps)]) (fun i => k + 1 ≤ i ∧ i ≤ s.length ∧ ∀ j, k + 1 ≤ j → j < i → hdC false (byteAt s j : Int) = false) (fun i => s.length - i) (k + 1) ⟨Nat.le_refl _, hb2, fun j h1 h2 => by omega⟩ env_w rfl ?_
    rintro i ⟨i1, i2, i3⟩
    by_cases hi : i < s.length
    · have hN := line_control (G := G) (byteAt s i : Int)
      cases hc : hdC false (byteAt s i : Int) with
      | false =>
        rw [hc] at hN
        refine xn1 ?_
        intros
        refine nxt (i + 1) ⟨by omega, by omega, fun j h1 h2 => ?_⟩ (by omega) env_w rfl
        rcases Nat.lt_or_ge j i with g | g
        · exact i3 j h1 g
        · rw [show j = i by omega]; exact hc
      | true =>
        rw [hc] at hN
        refine xn1 ?_
        intros
        refine cx_panic (hT 3 i) ?_
        (conv => whnf)
        rw [hD]
        exact thr rfl rfl (hLP.trans (tailP_3 h58 i1 hi hc i3)) rfl
    · refine xn1 ?_
      intros
      rw [hD]
      refine par_left (H' := [.row (.slice va vk vc) none 2 ps.length (prsC ps)]) rfl rfl rfl ?_ ?_
      · exact List.Sublist.cons _ (List.Sublist.refl _)
      · exact .inr ⟨⟨g, n, ps, s.drop (k + 1)⟩, _, hLP.trans (tailP_ok h58 (by omega) i3), rfl, rfl⟩
end Go.Proofs.YtkmpcdlmeiophaaGreatDoor
namespace Go.Proofs.YtkmpcdlmeiophaaGreatDoor
open Go Go.RowKit
/-- What is known of the bound that package bytealg keeps. -/
noncomputable abbrev maxTy (m : Int) : List (Nat × List AVal) := [(0, [.int .i64 m])]
theorem max_cell {G : Glo} {m : Int} (hU : GloAll G (maxTy m)) {R : Seal} {w : World} (hG : G.p R) (hs : Sealed R w) : w.cell? ⟨0, 0, none⟩ = some (.int .i64 m) := by
  obtain ⟨v, hc, hr⟩ := SealedAt.cell hs (hU 0 [.int .i64 m] rfl R hG) (i := 0) rfl
  have hr : [v] = [Value.int .i64 m] := hr
  rw [(List.cons.inj hr).1] at hc
  exact hc
end Go.Proofs.YtkmpcdlmeiophaaGreatDoor
namespace Go.Proofs.YtkmpcdlmeiophaaGreatDoor
open Go Go.RowKit
theorem strings_index {G : Glo} {m : Int} (hU : GloAll G (maxTy m)) (s t : List UInt8) (hl : s.length < 100000) : FnIs Tryz.prog G 37 [.str s, .str t] (.int .i64 (Lib.index s t)) := by
  refine fnis_of_calls rfl Tryz.call37 ?_
  rintro R args ⟨x, u, e, hx, y, u', e', hy, rfl⟩ w hG hs
  obtain rfl := rel_str.1 hx
  obtain rfl := rel_str.1 hy
  subst e'
  obtain rfl := arr_of e
  refine (Tryz.strings_Index ⟨s.toArray⟩ ⟨t.toArray⟩ m w (by show s.toArray.size < _; simp; omega) (max_cell hU hG hs)).mono ?_
  rintro e w' ⟨rfl, rfl⟩
  exact ⟨by simp [AVal.conc], Below.refl _ _⟩
end Go.Proofs.YtkmpcdlmeiophaaGreatDoor
namespace Go.Proofs.YtkmpcdlmeiophaaGreatDoor
open Go Go.RowKit
theorem u8_l {c : UInt8} {k : Nat} (hk : k < 256) (h : c.toNat = k) : c = UInt8.ofNat k := by
  rw [← h, UInt8.ofNat_toNat]
def carP : List UInt8 := [94, 94, 94, 110, 94, 39]
theorem idx_all : ∀ d : _root_.Fin 256, Lib.index carP [94, UInt8.ofNat d.1] = if d.1 = 94 then 0 else if d.1 = 110 then 2 else if d.1 = 39 then 4 else -1 := by decide +kernel
theorem ca_idx_two {d : UInt8} : Lib.index carP [94, d] = if d.toNat = 94 then 0 else if d.toNat = 110 then 2 else if d.toNat = 39 then 4 else -1 := by
  have := idx_all ⟨d.toNat, d.toNat_lt⟩
  rwa [UInt8.ofNat_toNat] at this
set_option maxRecDepth 20000
set_option maxHeartbeats 4000000
set_option linter.unusedSimpArgs false
set_option linter.unusedVariables false
attribute [local irreducible] AWp AOps byteAt SrcOK OrOk GloAll FnSpec
attribute [local irreducible] encF encS decS
theorem ref_Decode {G : Glo} {m : Int} (hU : GloAll G (maxTy m)) (s : List UInt8) (hl : s.length ≤ 1000000) : FnIs Tryz.prog G 20 [.str s] (.str (decS s)) := by
  have hI := fun t : List UInt8 => strings_index (G := G) hU carP t (by decide)
  have hGL : GloAll G [] := gloAll_nil
  refine fn_x Tryz.func20 Tryz.call20 rfl rfl rfl rfl hGL ?_
  intro C hC
  repeat' (first
    | (conv => whnf); first
      | refine .w ?_ | refine .v ?_ | apply sc_true | apply sc_false
      | (first | apply sc_lt | apply sc_nlt | apply sc_eq | apply sc_neq | apply sc_nil | apply sc_nnil | apply sc_seq | apply sc_nseq) <;> (intro hb; try exact dd hb)
      | apply sc_not | apply sc_or | (apply sc_i <;> intro hb)
      | (apply bx_i; intro hbd) | (apply gt_i; assumption; exact rfl)
      | (apply cx_is; first | fail) | (apply cx_do (i := 0) rfl; first | fail)
      | (apply ab_i; intro bl) | (apply as_i; intro va vk vc hva) | (apply av_i; intro v) | (apply ac_i; intro bl cap hcap)
      | apply bo_l | (apply nx_i <;> intro hnx) | (apply Ia.hit; assumption) | (apply Ia.miss; assumption)
      | (apply rt_is; exact rfl) | exact rt_w | (apply iv; assumption)
      | apply dw_q mixed hC hGL (by kernel_rfl) | (apply cq; assumption; (first | fail); exact rfl))
  all_goals (try conv => whnf)
  refine lp hC hGL (fun x : Nat × List UInt8 => [(0, .str s), (3, .str x.2), (4, .int .i64 (x.1 : Nat))]) (fun _ => []) (fun x => x.1 ≤ s.length ∧ x.2.length ≤ x.1 ∧ x.2 ++ decS (s.drop x.1) = decS s) (fun x => s.length - x.1) (0, []) ⟨Nat.zero_le _, Nat.zero_le _, rfl⟩ ⟨rfl, rfl, rfl, trivial⟩ rfl ?_
  rintro ⟨i, out⟩ ⟨hi, ho, hd⟩
  have hi : i ≤ s.length := hi
  have ho : out.length ≤ i := ho
  have hd : out ++ decS (s.drop i) = decS s := hd
  by_cases hlt : i < s.length
  · have hT : ((s.take (min ((s.length : Nat) : Int) (((i : Nat) : Int) + 2)).toNat).drop ((i : Nat) : Int).toNat) = (s.drop i).take (min 2 (s.length - i)) := by
      rw [Int.toNat_natCast, show (min ((s.length : Nat) : Int) (((i : Nat) : Int) + 2)).toNat = i + min 2 (s.length - i) by omega, List.drop_take, show i + min 2 (s.length - i) - i = min 2 (s.length - i) by omega]
    have hTl : ((s.take (min ((s.length : Nat) : Int) (((i : Nat) : Int) + 2)).toNat).drop ((i : Nat) : Int).toNat).length = min 2 (s.length - i) := by rw [hT, List.length_take, List.length_drop]; omega
    by_cases hk : byteAt s i = 94
    · by_cases hi2 : i + 1 < s.length
      · have e0 := ca_byteAt_ge hlt
        have e1 := ca_byteAt_ge hi2
        have hT2 : ((s.take (min ((s.length : Nat) : Int) (((i : Nat) : Int) + 2)).toNat).drop ((i : Nat) : Int).toNat) = [94, s[i + 1]] := by
          rw [hT, show min 2 (s.length - i) = 2 by omega, List.drop_eq_getElem_cons hlt, List.drop_eq_getElem_cons hi2, u8_l (by decide) (e0.symm.trans hk)]
          rfl
        have hx := hI ((s.take (min ((s.length : Nat) : Int) (((i : Nat) : Int) + 2)).toNat).drop ((i : Nat) : Int).toNat)
        rw [show Lib.index carP ((s.take (min ((s.length : Nat) : Int) (((i : Nat) : Int) + 2)).toNat).drop ((i : Nat) : Int).toNat) = _ from (congrArg (Lib.index carP) hT2).trans ca_idx_two, ← e1] at hx
        have hTl2 : ((((s.take (min ((s.length : Nat) : Int) (((i : Nat) : Int) + 2)).toNat).drop ((i : Nat) : Int).toNat).length : Nat) : Int) = 2 := by rw [hTl]; omega
        rcases (show byteAt s (i + 1) = 94 ∨ byteAt s (i + 1) = 110 ∨ byteAt s (i + 1) = 39 ∨ (byteAt s (i + 1) ≠ 94 ∧ byteAt s (i + 1) ≠ 110 ∧ byteAt s (i + 1) ≠ 39) by omega) with hq | hq | hq | ⟨k1, k2, k3⟩
        · rw [if_pos hq] at hx
          repeat' (first
            | (conv => whnf); first
              | refine .w ?_ | refine .v ?_ | apply sc_true | apply sc_false
              | (first | apply sc_lt | apply sc_nlt | apply sc_eq | apply sc_neq | apply sc_nil | apply sc_nnil | apply sc_seq | apply sc_nseq) <;> (intro hb; try exact dd hb)
              | apply sc_not | apply sc_or | (apply sc_i <;> intro hb)
              | (apply bx_i; intro hbd) | (apply gt_i; assumption; exact rfl)
              | (apply cx_is; first | exact hx) | (apply cx_do (i := 0) rfl; first | exact hx)
              | (apply ab_i; intro bl) | (apply as_i; intro va vk vc hva) | (apply av_i; intro v) | (apply ac_i; intro bl cap hcap)
              | apply bo_l | (apply nx_i <;> intro hnx) | (apply Ia.hit; assumption) | (apply Ia.miss; assumption)
              | (apply rt_is; exact rfl) | exact rt_w | (apply iv; assumption)
              | apply dw_q mixed hC hGL (by kernel_rfl) | (apply cq; assumption; (first | exact hx); exact rfl))
          all_goals (try conv => whnf)
          · refine nxt (i + 2, out ++ [94]) ?_ ?_ ⟨rfl, rfl, rfl, trivial⟩ rfl
            · refine ⟨hi2, ?_, ?_⟩
              · show (out ++ [(94 : UInt8)]).length ≤ i + 2
                rw [List.length_append, List.length_singleton]; omega
              · show out ++ [94] ++ decS (s.drop (i + 2)) = decS s
                rw [← hd, dec_two hi2 hk (e := 94) (.inl ⟨hq, rfl⟩), List.append_assoc]; rfl
            · show s.length - (i + 2) < s.length - i; omega
          all_goals exact absurd hTl2 ‹_›
        · rw [if_neg (by omega), if_pos hq] at hx
          repeat' (first
            | (conv => whnf); first
              | refine .w ?_ | refine .v ?_ | apply sc_true | apply sc_false
              | (first | apply sc_lt | apply sc_nlt | apply sc_eq | apply sc_neq | apply sc_nil | apply sc_nnil | apply sc_seq | apply sc_nseq) <;> (intro hb; try exact dd hb)
              | apply sc_not | apply sc_or | (apply sc_i <;> intro hb)
              | (apply bx_i; intro hbd) | (apply gt_i; assumption; exact rfl)
              | (apply cx_is; first | exact hx) | (apply cx_do (i := 0) rfl; first | exact hx)
              | (apply ab_i; intro bl) | (apply as_i; intro va vk vc hva) | (apply av_i; intro v) | (apply ac_i; intro bl cap hcap)
              | apply bo_l | (apply nx_i <;> intro hnx) | (apply Ia.hit; assumption) | (apply Ia.miss; assumption)
              | (apply rt_is; exact rfl) | exact rt_w | (apply iv; assumption)
              | apply dw_q mixed hC hGL (by kernel_rfl) | (apply cq; assumption; (first | exact hx); exact rfl))
          all_goals (try conv => whnf)
          · refine nxt (i + 2, out ++ [10]) ?_ ?_ ⟨rfl, rfl, rfl, trivial⟩ rfl
            · refine ⟨hi2, ?_, ?_⟩
              · show (out ++ [(10 : UInt8)]).length ≤ i + 2
                rw [List.length_append, List.length_singleton]; omega
              · show out ++ [10] ++ decS (s.drop (i + 2)) = decS s
                rw [← hd, dec_two hi2 hk (e := 10) (.inr (.inl ⟨hq, rfl⟩)), List.append_assoc]; rfl
            · show s.length - (i + 2) < s.length - i; omega
          all_goals exact absurd hTl2 ‹_›
        · rw [if_neg (by omega), if_neg (by omega), if_pos hq] at hx
          repeat' (first
            | (conv => whnf); first
              | refine .w ?_ | refine .v ?_ | apply sc_true | apply sc_false
              | (first | apply sc_lt | apply sc_nlt | apply sc_eq | apply sc_neq | apply sc_nil | apply sc_nnil | apply sc_seq | apply sc_nseq) <;> (intro hb; try exact dd hb)
              | apply sc_not | apply sc_or | (apply sc_i <;> intro hb)
              | (apply bx_i; intro hbd) | (apply gt_i; assumption; exact rfl)
              | (apply cx_is; first | exact hx) | (apply cx_do (i := 0) rfl; first | exact hx)
              | (apply ab_i; intro bl) | (apply as_i; intro va vk vc hva) | (apply av_i; intro v) | (apply ac_i; intro bl cap hcap)
              | apply bo_l | (apply nx_i <;> intro hnx) | (apply Ia.hit; assumption) | (apply Ia.miss; assumption)
              | (apply rt_is; exact rfl) | exact rt_w | (apply iv; assumption)
              | apply dw_q mixed hC hGL (by kernel_rfl) | (apply cq; assumption; (first | exact hx); exact rfl))
          all_goals (try conv => whnf)
          · refine nxt (i + 2, out ++ [34]) ?_ ?_ ⟨rfl, rfl, rfl, trivial⟩ rfl
            · refine ⟨hi2, ?_, ?_⟩
              · show (out ++ [(34 : UInt8)]).length ≤ i + 2
                rw [List.length_append, List.length_singleton]; omega
              · show out ++ [34] ++ decS (s.drop (i + 2)) = decS s
                rw [← hd, dec_two hi2 hk (e := 34) (.inr (.inr ⟨hq, rfl⟩)), List.append_assoc]; rfl
            · show s.length - (i + 2) < s.length - i; omega
          all_goals exact absurd hTl2 ‹_›
        · rw [if_neg k1, if_neg k2, if_neg k3] at hx
          repeat' (first
            | (conv => whnf); first
              | refine .w ?_ | refine .v ?_ | apply sc_true | apply sc_false
              | (first | apply sc_lt | apply sc_nlt | apply sc_eq | apply sc_neq | apply sc_nil | apply sc_nnil | apply sc_seq | apply sc_nseq) <;> (intro hb; try exact dd hb)
              | apply sc_not | apply sc_or | (apply sc_i <;> intro hb)
              | (apply bx_i; intro hbd) | (apply gt_i; assumption; exact rfl)
              | (apply cx_is; first | exact hx) | (apply cx_do (i := 0) rfl; first | exact hx)
              | (apply ab_i; intro bl) | (apply as_i; intro va vk vc hva) | (apply av_i; intro v) | (apply ac_i; intro bl cap hcap)
              | apply bo_l | (apply nx_i <;> intro hnx) | (apply Ia.hit; assumption) | (apply Ia.miss; assumption)
              | (apply rt_is; exact rfl) | exact rt_w | (apply iv; assumption)
              | apply dw_q mixed hC hGL (by kernel_rfl) | (apply cq; assumption; (first | exact hx); exact rfl))
          all_goals (try conv => whnf)
          · refine nxt (i + 1, out ++ (s.take (i + 1)).drop i) ?_ ?_ ⟨rfl, rfl, rfl, trivial⟩ rfl
            · refine ⟨hlt, ?_, ?_⟩
              · show (out ++ (s.take (i + 1)).drop i).length ≤ i + 1
                rw [List.length_append, List.length_drop, List.length_take]; omega
              · show out ++ (s.take (i + 1)).drop i ++ decS (s.drop (i + 1)) = decS s
                rw [List.append_assoc, List.drop_take, show i + 1 - i = 1 by omega, ← dec_one hlt (.inr (.inr ⟨k1, k2, k3⟩))]; exact hd
            · show s.length - (i + 1) < s.length - i; omega
          all_goals exact absurd hTl2 ‹_›
      · repeat' (first
          | (conv => whnf); first
            | refine .w ?_ | refine .v ?_ | apply sc_true | apply sc_false
            | (first | apply sc_lt | apply sc_nlt | apply sc_eq | apply sc_neq | apply sc_nil | apply sc_nnil | apply sc_seq | apply sc_nseq) <;> (intro hb; try exact dd hb)
            | apply sc_not | apply sc_or | (apply sc_i <;> intro hb)
            | (apply bx_i; intro hbd) | (apply gt_i; assumption; exact rfl)
            | (apply cx_is; first | exact hI _) | (apply cx_do (i := 0) rfl; first | exact hI _)
            | (apply ab_i; intro bl) | (apply as_i; intro va vk vc hva) | (apply av_i; intro v) | (apply ac_i; intro bl cap hcap)
            | apply bo_l | (apply nx_i <;> intro hnx) | (apply Ia.hit; assumption) | (apply Ia.miss; assumption)
            | (apply rt_is; exact rfl) | exact rt_w | (apply iv; assumption)
            | apply dw_q mixed hC hGL (by kernel_rfl) | (apply cq; assumption; (first | exact hI _); exact rfl))
        all_goals (try conv => whnf)
        refine nxt (i + 1, out ++ (s.take (i + 1)).drop i) ?_ ?_ ⟨rfl, rfl, rfl, trivial⟩ rfl
        · refine ⟨hlt, ?_, ?_⟩
          · show (out ++ (s.take (i + 1)).drop i).length ≤ i + 1
            rw [List.length_append, List.length_drop, List.length_take]; omega
          · show out ++ (s.take (i + 1)).drop i ++ decS (s.drop (i + 1)) = decS s
            rw [List.append_assoc, List.drop_take, show i + 1 - i = 1 by omega, ← dec_one hlt (.inr (.inl (by omega)))]; exact hd
        · show s.length - (i + 1) < s.length - i; omega
    · repeat' (first
        | (conv => whnf); first
          | refine .w ?_ | refine .v ?_ | apply sc_true | apply sc_false
          | (first | apply sc_lt | apply sc_nlt | apply sc_eq | apply sc_neq | apply sc_nil | apply sc_nnil | apply sc_seq | apply sc_nseq) <;> (intro hb; try exact dd hb)
          | apply sc_not | apply sc_or | (apply sc_i <;> intro hb)
          | (apply bx_i; intro hbd) | (apply gt_i; assumption; exact rfl)
          | (apply cx_is; first | exact hI _) | (apply cx_do (i := 0) rfl; first | exact hI _)
          | (apply ab_i; intro bl) | (apply as_i; intro va vk vc hva) | (apply av_i; intro v) | (apply ac_i; intro bl cap hcap)
          | apply bo_l | (apply nx_i <;> intro hnx) | (apply Ia.hit; assumption) | (apply Ia.miss; assumption)
          | (apply rt_is; exact rfl) | exact rt_w | (apply iv; assumption)
          | apply dw_q mixed hC hGL (by kernel_rfl) | (apply cq; assumption; (first | exact hI _); exact rfl))
      all_goals (try conv => whnf)
      refine nxt (i + 1, out ++ (s.take (i + 1)).drop i) ?_ ?_ ⟨rfl, rfl, rfl, trivial⟩ rfl
      · refine ⟨hlt, ?_, ?_⟩
        · show (out ++ (s.take (i + 1)).drop i).length ≤ i + 1
          rw [List.length_append, List.length_drop, List.length_take]; omega
        · show out ++ (s.take (i + 1)).drop i ++ decS (s.drop (i + 1)) = decS s
          rw [List.append_assoc, List.drop_take, show i + 1 - i = 1 by omega, ← dec_one hlt (.inl hk)]; exact hd
      · show s.length - (i + 1) < s.length - i; omega
  · have h9 : out = decS s := by rw [← hd, List.drop_eq_nil_of_le (by omega), decS_nil, List.append_nil]
    repeat' (first
      | (conv => whnf); first
        | refine .w ?_ | refine .v ?_ | apply sc_true | apply sc_false
        | (first | apply sc_lt | apply sc_nlt | apply sc_eq | apply sc_neq | apply sc_nil | apply sc_nnil | apply sc_seq | apply sc_nseq) <;> (intro hb; try exact dd hb)
        | apply sc_not | apply sc_or | (apply sc_i <;> intro hb)
        | (apply bx_i; intro hbd) | (apply gt_i; assumption; exact rfl)
        | (apply cx_is; first | fail) | (apply cx_do (i := 0) rfl; first | fail)
        | (apply ab_i; intro bl) | (apply as_i; intro va vk vc hva) | (apply av_i; intro v) | (apply ac_i; intro bl cap hcap)
        | apply bo_l | (apply nx_i <;> intro hnx) | (apply Ia.hit; assumption) | (apply Ia.miss; assumption)
        | (apply rt_is; exact rfl) | exact rt_w | (apply iv; assumption)
        | apply dw_q mixed hC hGL (by kernel_rfl) | (apply cq; assumption; (first | fail); exact rfl))
    all_goals (try conv => whnf)
    apply rt_is
    rw [h9]
end Go.Proofs.YtkmpcdlmeiophaaGreatDoor
namespace Go.Proofs.YtkmpcdlmeiophaaGreatDoor
open Go Go.RowKit
set_option maxRecDepth 20000
set_option maxHeartbeats 4000000
set_option linter.unusedSimpArgs false
set_option linter.unusedVariables false
attribute [local irreducible] AWp AOps byteAt SrcOK OrOk GloAll FnSpec
attribute [local irreducible] DSpec Lv AWpD To
abbrev thrA (e p : Int) : AVal := .iface 69 (.agg [.int .i64 e, .int .i64 p])
theorem ref_throw {G : Glo} (e p : Int) : FnSpec Tryz.prog G 13 [.int .i64 e, .int .i64 p] [] (fun r H => r = .panic (thrA e p) ∧ H = []) := by
  have hGL : GloAll G [] := gloAll_nil
  refine fn_x Tryz.func13 Tryz.call13 rfl rfl rfl rfl hGL ?_
  intro C hC
  repeat' (first
    | (conv => whnf); first
      | refine .w ?_ | refine .v ?_ | apply sc_true | apply sc_false
      | (first | apply sc_lt | apply sc_nlt | apply sc_eq | apply sc_neq | apply sc_nil | apply sc_nnil | apply sc_seq | apply sc_nseq) <;> (intro hb; try exact dd hb)
      | apply sc_not | apply sc_or | (apply sc_i <;> intro hb)
      | (apply bx_i; intro hbd) | (apply gt_i; assumption; exact rfl)
      | (apply cx_is; first | fail) | (apply cx_do (i := 0) rfl; first | fail)
      | (apply ab_i; intro bl) | (apply as_i; intro va vk vc hva) | (apply av_i; intro v) | (apply ac_i; intro bl cap hcap)
      | apply bo_l | (apply nx_i <;> intro hnx) | (apply Ia.hit; assumption) | (apply Ia.miss; assumption)
      | (apply rt_is; exact rfl) | exact rt_w | (apply iv; assumption)
      | apply dw_q mixed hC hGL (by kernel_rfl) | (apply cq; assumption; (first | fail); exact rfl))
  all_goals (try conv => whnf)
  exact pn_is rfl
theorem ref_caught {G : Glo} (b : Nat) (e p : Int) (x y : AVal) : DSpec Tryz.prog G 11 [.own 0 (.pointer (some ⟨b, 0, none⟩))] (.pan (thrA e p)) [.cells b (some 27) [x, y]]
    (fun r m H => m = .rcv (thrA e p) ∧ r = .ret (.tuple []) ∧ H = [.cells b (some 27) [.int .i64 e, .int .i64 p]]) := by
  have hGL : GloAll G [] := gloAll_nil
  refine ds_rec (rs := []) (GL := []) Tryz.func11 rfl rfl rfl rfl rfl rfl hGL ?_
  intro C hC
  repeat' (first
    | (conv => whnf); first
      | refine .w ?_ | refine .v ?_ | apply sc_true | apply sc_false
      | (first | apply sc_lt | apply sc_nlt | apply sc_eq | apply sc_neq | apply sc_nil | apply sc_nnil | apply sc_seq | apply sc_nseq) <;> (intro hb; try exact dd hb)
      | apply sc_not | apply sc_or | (apply sc_i <;> intro hb)
      | (apply bx_i; intro hbd) | (apply gt_i; assumption; exact rfl)
      | (apply cx_is; first | fail) | (apply cx_do (i := 0) rfl; first | fail)
      | (apply ab_i; intro bl) | (apply as_i; intro va vk vc hva) | (apply av_i; intro v) | (apply ac_i; intro bl cap hcap)
      | apply bo_l | (apply nx_i <;> intro hnx) | (apply Ia.hit; assumption) | (apply Ia.miss; assumption)
      | (apply rt_is; exact rfl) | exact rt_w | (apply iv; assumption)
      | apply dw_q mixed hC hGL (by kernel_rfl) | (apply cq; assumption; (first | fail); exact rfl))
  all_goals (try conv => whnf)
  all_goals skip
theorem ref_uncaught {G : Glo} (b : Nat) (x : HEnt) : DSpec Tryz.prog G 11 [.own 0 (.pointer (some ⟨b, 0, none⟩))] .ret [x]
    (fun r m H => m = .ret ∧ r = .ret (.tuple []) ∧ H = [x]) := by
  have hGL : GloAll G [] := gloAll_nil
  refine ds_rec (rs := []) (GL := []) Tryz.func11 rfl rfl rfl rfl rfl rfl hGL ?_
  intro C hC
  repeat' (first
    | (conv => whnf); first
      | refine .w ?_ | refine .v ?_ | apply sc_true | apply sc_false
      | (first | apply sc_lt | apply sc_nlt | apply sc_eq | apply sc_neq | apply sc_nil | apply sc_nnil | apply sc_seq | apply sc_nseq) <;> (intro hb; try exact dd hb)
      | apply sc_not | apply sc_or | (apply sc_i <;> intro hb)
      | (apply bx_i; intro hbd) | (apply gt_i; assumption; exact rfl)
      | (apply cx_is; first | fail) | (apply cx_do (i := 0) rfl; first | fail)
      | (apply ab_i; intro bl) | (apply as_i; intro va vk vc hva) | (apply av_i; intro v) | (apply ac_i; intro bl cap hcap)
      | apply bo_l | (apply nx_i <;> intro hnx) | (apply Ia.hit; assumption) | (apply Ia.miss; assumption)
      | (apply rt_is; exact rfl) | exact rt_w | (apply iv; assumption)
      | apply dw_q mixed hC hGL (by kernel_rfl) | (apply cq; assumption; (first | fail); exact rfl))
  all_goals (try conv => whnf)
  all_goals skip
theorem ref_Fault_Is {G : Glo} (e p : Int) : FnIs Tryz.prog G 10 [.agg [.int .i64 e, .int .i64 p]] (.bool (eqB e 0)) := by
  have hGL : GloAll G [] := gloAll_nil
  refine fn_x Tryz.func10 Tryz.call10 rfl rfl rfl rfl hGL ?_
  intro C hC
  repeat' (first
    | (conv => whnf); first
      | refine .w ?_ | refine .v ?_ | apply sc_true | apply sc_false
      | (first | apply sc_lt | apply sc_nlt | apply sc_eq | apply sc_neq | apply sc_nil | apply sc_nnil | apply sc_seq | apply sc_nseq) <;> (intro hb; try exact dd hb)
      | apply sc_not | apply sc_or | (apply sc_i <;> intro hb)
      | (apply bx_i; intro hbd) | (apply gt_i; assumption; exact rfl)
      | (apply cx_is; first | fail) | (apply cx_do (i := 0) rfl; first | fail)
      | (apply ab_i; intro bl) | (apply as_i; intro va vk vc hva) | (apply av_i; intro v) | (apply ac_i; intro bl cap hcap)
      | apply bo_l | (apply nx_i <;> intro hnx) | (apply Ia.hit; assumption) | (apply Ia.miss; assumption)
      | (apply rt_is; exact rfl) | exact rt_w | (apply iv; assumption)
      | apply dw_q mixed hC hGL (by kernel_rfl) | (apply cq; assumption; (first | fail); exact rfl))
  all_goals (try conv => whnf)
  all_goals skip
end Go.Proofs.YtkmpcdlmeiophaaGreatDoor
namespace Go.Proofs.YtkmpcdlmeiophaaGreatDoor
open Go Go.RowKit
abbrev atC (b a : Nat) : HEnt := .cells b (some 3) [.int .i64 (a : Nat)]
abbrev bxS (b : Nat) (s : List UInt8) : HEnt := .cells b (some 9) [.str s]
abbrev bxB (b : Nat) (c : Bool) : HEnt := .cells b (some 4) [.bool c]
/-- The byte at a place, 0 behind the end. -/
def nxB (s : List UInt8) (a : Nat) : Nat := if a < s.length then byteAt s a else 0
theorem nxB_at {s : List UInt8} {a : Nat} {c : Int} (h : c ≠ 0) : (nxB s a : Int) = c ↔ atB s a c = true := by
  unfold nxB
  rw [atB_t]
  split <;> omega
theorem nxB_y {s : List UInt8} {a : Nat} {c : Int} (h : c ≠ 0) (k : atB s a c = true) : (nxB s a : Int) = c := (nxB_at h).2 k
theorem nxB_n {s : List UInt8} {a : Nat} {c : Int} (h : c ≠ 0) (k : atB s a c = false) : (nxB s a : Int) ≠ c := fun e => by rw [(nxB_at h).1 e] at k; cases k
set_option maxRecDepth 20000
set_option maxHeartbeats 4000000
set_option linter.unusedSimpArgs false
set_option linter.unusedVariables false
attribute [local irreducible] AWp AOps byteAt SrcOK OrOk GloAll FnSpec
attribute [local irreducible] hdC hdB badI isS decS letterB
theorem ref_next {G : Glo} (ba bs : Nat) (s : List UInt8) (a : Nat) (hl : s.length ≤ 1000000) (ha : a ≤ s.length) : FnSpec Tryz.prog G 14 [.raw (pS ba), .raw (pS bs)] [atC ba a, bxS bs s]
    (fun r H => r = .ret (.int .u8 (nxB s a : Nat)) ∧ H = [atC ba a, bxS bs s]) := by
  have hGL : GloAll G [] := gloAll_nil
  refine fn_own [(0, 0, pS ba), (1, 1, pS bs)] Tryz.func14 Tryz.call14 rfl rfl rfl rfl (by repeat (first | exact trivial | refine And.intro ⟨rfl, rfl⟩ ?_)) ?_
  intro C hC
  by_cases h : a < s.length
  · have e : nxB s a = byteAt s a := if_pos h
    rw [e]
    exact aw_code hC hGL xw0
  · have e : nxB s a = 0 := if_neg h
    rw [e]
    exact aw_code hC hGL xw0
theorem ref_word {G : Glo} (ba bs : Nat) (s : List UInt8) (a : Nat) (hl : s.length ≤ 1000000) (ha : a ≤ s.length) : FnSpec Tryz.prog G 15 [.raw (pS ba), .raw (pS bs)] [atC ba a, bxS bs s]
    (fun r H => (∃ w j, wordP s a = .ok (w, j) ∧ r = .ret (.str w) ∧ H = [atC ba j, bxS bs s]) ∨ (∃ e p j, wordP s a = .bad e p ∧ r = .panic (thrA e p) ∧ H = [atC ba j, bxS bs s])) := by
  have hI := fun t h => ref_Is (G := G) t h
  have hc := Tryz.call16
  have hT := fun e p => ref_throw (G := G) e p
  have hGL : GloAll G [] := gloAll_nil
  refine fn_own [(0, 0, pS ba), (1, 1, pS bs)] Tryz.func15 Tryz.call15 rfl rfl rfl rfl (by repeat (first | exact trivial | refine And.intro ⟨rfl, rfl⟩ ?_)) ?_
  intro C hC
  refine aw_code hC hGL (xw1 ?_)
  refine lp hC hGL (fun x : Nat => [(0, .own 0 (pS ba)), (1, .own 1 (pS bs)), (3, .int .i64 (x : Nat))]) (fun x => [atC ba a, bxS bs s]) (fun x => a + x ≤ s.length ∧ spanN letterB s (a + x) = spanN letterB s a) (fun x => s.length - x) 0 ⟨ha, rfl⟩ env_w rfl ?_
  rintro x ⟨h2, h3⟩
  have hlen : ((s.take (a + x)).drop a).length ≤ 9223372036854775807 := by rw [List.length_drop, List.length_take]; omega
  have k2 := hI ((s.take (a + x)).drop a) hlen
  have fin : spanN letterB s a = a + x → (isS ((s.take (a + x)).drop a) = true → wordP s a = .ok ((s.take (a + x)).drop a, a + x)) ∧ (isS ((s.take (a + x)).drop a) = false → wordP s a = .bad 5 a) := fun hsp =>
    ⟨fun hw => by unfold wordP; rw [hsp, if_pos hw], fun hw => by unfold wordP; rw [hsp, if_neg (by rw [hw]; decide)]⟩
  by_cases hx : a + x < s.length
  · have k1 : FnIs Tryz.prog G 16 [.str ((s.take (a + x + 1)).drop (a + x))] (.bool (letterB (byteAt s (a + x) : Int))) := by
      have := hI ((s.take (a + x + 1)).drop (a + x)) (by rw [List.length_drop, List.length_take]; omega)
      rwa [one_letter hx] at this
    cases hk : letterB (byteAt s (a + x) : Int) with
    | true =>
      rw [hk] at k1
      refine xw1 ?_
      intros
      exact nxt (x + 1) ⟨by omega, (span_go hx hk).symm.trans h3⟩ (by omega) env_w rfl
    | false =>
      rw [hk] at k1
      have hf := fin (h3.symm.trans (span_no hk))
      cases hw : isS ((s.take (a + x)).drop a) with
      | true =>
        have hr := hf.1 hw
        rw [hw] at k2
        refine xw1 ?_
        intros
        exact ⟨_, List.Sublist.refl _, .inl ⟨_, _, hr, rfl, rfl⟩⟩
      | false =>
        have hr := hf.2 hw
        rw [hw] at k2
        refine xw1 ?_
        intros
        refine cx_panic (hT 5 a) ?_
        exact ⟨_, List.Sublist.refl _, .inr ⟨_, _, _, hr, rfl, rfl⟩⟩
  · have hf := fin (h3.symm.trans (span_end (by omega)))
    cases hw : isS ((s.take (a + x)).drop a) with
    | true =>
      have hr := hf.1 hw
      rw [hw] at k2
      refine xw1 ?_
      intros
      exact ⟨_, List.Sublist.refl _, .inl ⟨_, _, hr, rfl, rfl⟩⟩
    | false =>
      have hr := hf.2 hw
      rw [hw] at k2
      refine xw1 ?_
      intros
      refine cx_panic (hT 5 a) ?_
      exact ⟨_, List.Sublist.refl _, .inr ⟨_, _, _, hr, rfl, rfl⟩⟩
end Go.Proofs.YtkmpcdlmeiophaaGreatDoor
namespace Go.Proofs.YtkmpcdlmeiophaaGreatDoor
open Go Go.RowKit
abbrev nxF (i j ba bs : Nat) : AVal := .func (.func 14) [] [.own i (pS ba), .own j (pS bs)]
abbrev fnC (b i j ba bs : Nat) : HEnt := .cells b (some 43) [nxF i j ba bs]
theorem idx_four {a b c d : UInt8} (r : Int) : (0 ≤ idxB [a, b, c, d] r ↔ ∃ x ∈ [a, b, c, d], r = x.toNat) := by
  unfold idxB
  simp only [idxF, List.mem_cons, List.not_mem_nil, or_false, exists_eq_or_imp, exists_eq_left]
  split
  · omega
  · split
    · omega
    · split
      · omega
      · split <;> omega
theorem endQ_ref {q : Bool} {c : Int} : endQ q c = decide (0 ≤ (if q then idxB [34] c else idxB [44, 59, 58, 34] c)) := by
  have e0 : ((34 : UInt8).toNat : Int) = 34 := by decide
  have e1 : 0 ≤ idxB [34] c ↔ c = 34 := by
    unfold idxB
    simp only [idxF]
    split <;> omega
  have e2 : 0 ≤ idxB [44, 59, 58, 34] c ↔ (c = 44 ∨ c = 59 ∨ c = 58 ∨ c = 34) := by
    have := idx_four (a := 44) (b := 59) (c := 58) (d := 34) c
    rw [this]
    simp
  rw [Bool.eq_iff_iff, endQ_t, decide_eq_true_eq]
  cases q with
  | true => rw [if_pos rfl, e1]; simp
  | false => rw [if_neg (by decide), e2]; simp; omega
theorem cx_keep (is : List Nat) {P : Program} [Tab P] {G : Glo} {f : FuncId} {avs : List AVal} {H H1 : Heap} {K Kp : AVal → Heap → Prop} {v : AVal} (hs : FnSpec P G f avs H1 (fun r H => r = .ret v ∧ H = H1)) (e1 : pickL is H = H1) (k : K v H) : Cx P G f avs H K Kp :=
  cx_pick is hs e1 (by rintro v H1' ⟨e, rfl⟩; cases e; exact ⟨H, e1, rfl, k⟩) (by rintro v H1' ⟨e, _⟩; cases e)
set_option maxRecDepth 20000
set_option maxHeartbeats 4000000
set_option linter.unusedSimpArgs false
set_option linter.unusedVariables false
attribute [local irreducible] AWp AOps byteAt SrcOK OrOk GloAll FnSpec
attribute [local irreducible] hdC hdB badI isS decS letterB
theorem ref_val {G : Glo} {m : Int} (hM : GloAll G (maxTy m)) (bf i0 j0 ba bs bc : Nat) (s : List UInt8) (a : Nat) (cr : Bool) (hl : s.length ≤ 1000000) (ha : a ≤ s.length) :
    FnSpec Tryz.prog G 17 [.raw (pS bf), .raw (pS ba), .raw (pS bs), .raw (pS bc)] [fnC bf i0 j0 ba bs, atC ba a, bxS bs s, bxB bc cr]
    (fun r H => (∃ v j, valP cr s a = .ok (v, j) ∧ r = .ret (.str v) ∧ H = [fnC bf i0 j0 ba bs, atC ba j, bxS bs s, bxB bc cr]) ∨ (∃ e p j, valP cr s a = .bad e p ∧ r = .panic (thrA e p) ∧ H = [fnC bf i0 j0 ba bs, atC ba j, bxS bs s, bxB bc cr])) := by
  have hX := fun l c h0 h1 => strings_IndexByte (G := G) l c h0 h1
  have hN := fun c => ref_control (G := G) c
  have hT := fun e p => ref_throw (G := G) e p
  have hD := fun t h => ref_Decode (G := G) hM t h
  have hNx := ref_next (G := G) ba bs s a hl ha
  have hq := valF_ge s a
  have hGL : GloAll G [] := gloAll_nil
  refine fn_own [(0, 0, pS bf), (1, 1, pS ba), (2, 2, pS bs), (3, 3, pS bc)] Tryz.func17 Tryz.call17 rfl rfl rfl rfl (by repeat (first | exact trivial | refine And.intro ⟨rfl, rfl⟩ ?_)) ?_
  intro C hC
  refine cut hC hGL [(0, .own 0 (pS bf)), (1, .own 1 (pS ba)), (2, .own 2 (pS bs)), (3, .own 3 (pS bc))] [fnC bf i0 j0 ba bs, atC ba a, bxS bs s, bxB bc cr] True xn0 fun _ => ?_
  refine cut hC hGL [(0, .own 0 (pS bf)), (1, .own 1 (pS ba)), (2, .own 2 (pS bs)), (3, .own 3 (pS bc)), (5, .str [44, 59, 58, 34])] [fnC bf i0 j0 ba bs, atC ba a, bxS bs s, bxB bc cr] True xn0 fun _ => ?_
  refine cut hC hGL [(0, .own 0 (pS bf)), (1, .own 1 (pS ba)), (2, .own 2 (pS bs)), (3, .own 3 (pS bc)), (5, .str [44, 59, 58, 34]), (6, .bool (atB s a 34))] [fnC bf i0 j0 ba bs, atC ba a, bxS bs s, bxB bc cr] True ?_ fun _ => ?_
  · rcases Bool.eq_false_or_eq_true (atB s a 34) with h | h
    · have e1 := nxB_y (by decide) h
      have e2 := (atB_t.1 h).1
      rw [e1] at hNx
      rw [show atB s a 34 = ltB (a : Int) (s.length : Int) from h.trans (ltB_t.2 (by omega)).symm]
      refine xn1 ?_
      refine cx_keep [1, 1] hNx rfl ?_
      exact xn0
    · have e1 := nxB_n (by decide) h
      rw [h]
      refine xn1 ?_
      refine cx_keep [1, 1] hNx rfl ?_
      exact xn0
  refine cut hC hGL [(0, .own 0 (pS bf)), (1, .own 1 (pS ba)), (2, .own 2 (pS bs)), (3, .own 3 (pS bc)), (5, .str (if atB s a 34 then [34] else [44, 59, 58, 34])), (6, .bool (atB s a 34))] [fnC bf i0 j0 ba bs, atC ba (valF s a), bxS bs s, bxB bc cr] True ?_ fun _ => ?_
  · cases h : atB s a 34 with
    | true =>
      have e2 := (atB_t.1 h).1
      have e3 : valF s a = a + 1 := by unfold valF; rw [h, if_pos rfl]
      rw [e3, if_pos rfl]
      exact xn0
    | false =>
      have e3 : valF s a = a := by unfold valF; rw [h, if_neg (by decide)]
      rw [e3, if_neg (by decide)]
      exact xn0
  refine aw_code hC hGL (xn1 ?_)
  intros
  have hlv : (if atB s a 34 then [34] else [44, 59, 58, 34] : List UInt8).length ≤ 4 := by split <;> decide
  have hE := fun c => endQ_ref (q := atB s a 34) (c := c)
  have hEq : ∀ c, (if atB s a 34 then idxB [34] c else idxB [44, 59, 58, 34] c) = idxB (if atB s a 34 then [34] else [44, 59, 58, 34]) c := fun c => by split <;> rfl
  simp only [hEq] at hE
  generalize (if atB s a 34 then [34] else [44, 59, 58, 34] : List UInt8) = ends at *
  refine lp hC hGL (fun x : Nat => [(1, .own 1 (pS ba)), (2, .own 2 (pS bs)), (3, .own 3 (pS bc)), (5, .str ends), (6, .bool (atB s a 34)), (7, .int .i64 (valF s a : Nat))]) (fun x => [fnC bf i0 j0 ba bs, atC ba x, bxS bs s, bxB bc cr]) (fun x => valF s a ≤ x ∧ x ≤ s.length ∧ spanN (goQ (atB s a 34)) s x = valJ s a) (fun x => s.length - x) (valF s a) ⟨Nat.le_refl _, hq.2.2 ha, rfl⟩ env_w rfl ?_
  rintro x ⟨h1, h2, h3⟩
  have hlv : ((s.take x).drop (valF s a)).length ≤ 1000000 := by rw [List.length_drop, List.length_take]; omega
  have hd := hD ((s.take x).drop (valF s a)) hlv
  have fin : ∀ {v : List UInt8} {j : Nat} {w : AVal} {H : Heap}, valP cr s a = .ok (v, j) → w = .str v → H = [fnC bf i0 j0 ba bs, atC ba j, bxS bs s, bxB bc cr] → Rt (fun r H => (∃ v j, valP cr s a = .ok (v, j) ∧ r = .ret (.str v) ∧ H = [fnC bf i0 j0 ba bs, atC ba j, bxS bs s, bxB bc cr]) ∨ (∃ e p j, valP cr s a = .bad e p ∧ r = .panic (thrA e p) ∧ H = [fnC bf i0 j0 ba bs, atC ba j, bxS bs s, bxB bc cr])) w H := by
    rintro v j w H h1 rfl rfl
    exact ⟨_, List.Sublist.refl _, .inl ⟨_, _, h1, rfl, rfl⟩⟩
  have bad : ∀ {e p : Int} {n j : Nat} {H : Heap}, valP cr s a = .bad e n → p = n → H = [fnC bf i0 j0 ba bs, atC ba j, bxS bs s, bxB bc cr] → Pn (fun r H => (∃ v j, valP cr s a = .ok (v, j) ∧ r = .ret (.str v) ∧ H = [fnC bf i0 j0 ba bs, atC ba j, bxS bs s, bxB bc cr]) ∨ (∃ e p j, valP cr s a = .bad e p ∧ r = .panic (thrA e p) ∧ H = [fnC bf i0 j0 ba bs, atC ba j, bxS bs s, bxB bc cr])) (thrA e p) H := by
    rintro e p n j H h1 rfl rfl
    exact ⟨_, List.Sublist.refl _, .inr ⟨_, _, _, h1, rfl, rfl⟩⟩
  by_cases hx : x < s.length
  · have hb := byteAt_lt s x
    have hx1 := hX ends (byteAt s x : Int) (by omega) (by omega)
    have hn1 := hN (byteAt s x : Int)
    have he := hE (byteAt s x : Int)
    generalize idxB ends (byteAt s x : Int) = ix at hx1 he
    cases hk : endQ (atB s a 34) (byteAt s x : Int) with
    | false =>
      have hix : ix < 0 := by
        rw [hk] at he
        have := of_decide_eq_false he.symm
        omega
      cases hc : hdC false (byteAt s x : Int) with
      | false =>
        rw [hc] at hn1
        have hgo : goQ (atB s a 34) (byteAt s x : Int) = true := by unfold goQ; rw [hk, hc]; rfl
        refine xw1 ?_
        intros
        exact nxt (x + 1) ⟨by omega, by omega, (span_go hx hgo).symm.trans h3⟩ (by omega) env_w rfl
      | true =>
        rw [hc] at hn1
        have hJ : valJ s a = x := h3.symm.trans (span_no (by unfold goQ; rw [hk, hc]; rfl))
        have hv : valP cr s a = .bad 3 x := by unfold valP; rw [hJ, if_pos ⟨hx, hk⟩]
        refine xw1 ?_
        intros
        refine cx_panic (hT 3 x) ?_
        exact bad hv rfl rfl
    | true =>
      have hix : 0 ≤ ix := by
        rw [hk] at he
        exact of_decide_eq_true he.symm
      have hJ : valJ s a = x := h3.symm.trans (span_no (by unfold goQ; rw [hk]; rfl))
      cases hqa : atB s a 34 with
      | true =>
        have hv : valP cr s a = .ok (dIf cr ((s.take x).drop (valF s a)), x + 1) := by
          unfold valP
          rw [hJ, if_neg (by rw [hk]; simp), hqa, if_neg (by decide), if_pos hx]
        cases cr with
        | true =>
          refine xw1 ?_
          intros
          exact fin hv rfl rfl
        | false =>
          refine xw1 ?_
          intros
          exact fin hv rfl rfl
      | false =>
        have hv : valP cr s a = .ok (dIf cr ((s.take x).drop (valF s a)), x) := by
          unfold valP
          rw [hJ, hk, if_neg (by simp), if_pos hqa]
        cases cr with
        | true =>
          refine xw1 ?_
          intros
          exact fin hv rfl rfl
        | false =>
          refine xw1 ?_
          intros
          exact fin hv rfl rfl
  · have hJ : valJ s a = x := h3.symm.trans (span_end (by omega))
    cases hqa : atB s a 34 with
    | true =>
      have hv : valP cr s a = .bad 7 x := by
        unfold valP
        rw [hJ, hqa, if_neg (by omega), if_neg (by decide), if_neg hx]
      refine xw1 ?_
      intros
      refine cx_panic (hT 7 x) ?_
      exact bad hv rfl rfl
    | false =>
      have hv : valP cr s a = .ok (dIf cr ((s.take x).drop (valF s a)), x) := by
        unfold valP
        rw [hJ, hqa, if_neg (by omega), if_pos rfl]
      cases cr with
      | true =>
        refine xw1 ?_
        intros
        exact fin hv rfl rfl
      | false =>
        refine xw1 ?_
        intros
        exact fin hv rfl rfl
end Go.Proofs.YtkmpcdlmeiophaaGreatDoor
namespace Go.Proofs.YtkmpcdlmeiophaaGreatDoor
open Go Go.RowKit
abbrev flC (b : Nat) (e p : Int) : HEnt := .cells b (some 27) [.int .i64 e, .int .i64 p]
abbrev dCau (b5 : Nat) : Deferred := { target := .fn (.func 11) #[], args := #[pS b5] }
abbrev dLp1 (b4 b5 : Nat) : Deferred := { target := .fn (.func 9) #[pS b5, pS b4], args := #[] }
theorem lv_sub {P : Program} [Tab P] {G : Glo} {n : Nat} {rs : List ResultVar} {env : Env} {H H' : Heap} {D : List Deferred} {m : AMode} {Qf : ARes → Heap → Prop} (hs : H'.Sublist H) (h : Lv P G n rs env D m H' Qf) : Lv P G n rs env D m H Qf := by
  unfold Lv at *
  intro C R a w fn u D0 hC hrs hm hf hu
  exact h C R a w fn u D0 hC hrs (hm.drop hs) hf hu
section
variable {c : Bool} {s : List UInt8} {e : Int} {p : Nat}
theorem wordP_ne {a : Nat} (h : wordP s a = .bad e p) : e ≠ 0 := by
  unfold wordP at h
  split at h
  · cases h
  · cases h; decide
theorem valP_ne {a : Nat} (h : valP c s a = .bad e p) : e ≠ 0 := by
  unfold valP at h
  (repeat' split at h) <;> (cases h; try decide)
theorem valsP_ne : ∀ (n : Nat) {a : Nat} {acc : List (List UInt8)}, s.length - a ≤ n → valsP c s a acc = .bad e p → e ≠ 0
  | n, a, acc, hn, h => by
    cases hv : valP c s a with
    | bad e' p' => rw [valsP_bad hv] at h; cases h; exact valP_ne hv
    | ok x =>
      obtain ⟨v, d⟩ := x
      have h1 := valP_ge hv
      cases hb : atB s d 44 with
      | true =>
        have h2 := atB_t.1 hb
        rw [valsP_go hv hb] at h
        cases n with
        | zero => omega
        | succ n => exact valsP_ne n (by omega) h
      | false => rw [valsP_end hv hb] at h; cases h
theorem parsP_ne : ∀ (n : Nat) {a : Nat} {acc : List Pr}, s.length - a ≤ n → parsP c s a acc = .bad e p → e ≠ 0
  | n, a, acc, hn, h => by
    cases hq : atB s a 59 with
    | false => rw [parsP_end hq] at h; cases h
    | true =>
      have h1 := atB_t.1 hq
      cases hw : wordP s (a + 1) with
      | bad e' p' => rw [parsP_word hq hw] at h; cases h; exact wordP_ne hw
      | ok x =>
        obtain ⟨w, j⟩ := x
        have h2 := wordP_ge hw
        cases hj : atB s j 61 with
        | false => rw [parsP_eq hq hw hj] at h; cases h; decide
        | true =>
          cases hv : valsP c s (j + 1) [] with
          | bad e' p' => rw [parsP_vals hq hw hj hv] at h; cases h; exact valsP_ne _ (Nat.le_refl _) hv
          | ok x =>
            obtain ⟨vs, d⟩ := x
            have h3 := valsP_ge _ (Nat.le_refl _) hv
            by_cases h20 : acc.length = 20
            · rw [parsP_lim hq hw hj hv h20] at h; cases h; decide
            · rw [parsP_go hq hw hj hv h20] at h
              cases n with
              | zero => omega
              | succ n => exact parsP_ne n (by omega) h
theorem lineP_ne (h : lineP c s = .bad e p) : e ≠ 0 := by
  unfold lineP at h
  split at h
  · cases hh : headP s with
    | bad e' p' =>
      rw [hh] at h
      cases h
      unfold headP at hh
      cases hw : wordP s 0 with
      | bad e'' p'' => rw [hw] at hh; cases hh; exact wordP_ne hw
      | ok x =>
        obtain ⟨w, j⟩ := x
        rw [hw] at hh
        dsimp only at hh
        split at hh
        · cases hv : wordP s (j + 1) with
          | bad e'' p'' => rw [hv] at hh; cases hh; exact wordP_ne hv
          | ok x => rw [hv] at hh; cases hh
        · cases hh
    | ok x =>
      obtain ⟨⟨g, n⟩, a⟩ := x
      rw [hh] at h
      dsimp only at h
      cases hp : parsP c s a [] with
      | bad e' p' => rw [hp] at h; cases h; exact parsP_ne _ (Nat.le_refl _) hp
      | ok x =>
        obtain ⟨ps, b⟩ := x
        rw [hp] at h
        dsimp only at h
        unfold tailP at h
        (repeat' split at h) <;> (cases h; try decide)
  · cases h; decide
end
set_option maxRecDepth 20000
set_option maxHeartbeats 4000000
set_option linter.unusedSimpArgs false
set_option linter.unusedVariables false
attribute [local irreducible] AWp AOps byteAt SrcOK OrOk GloAll FnSpec
attribute [local irreducible] hdC hdB badI isS decS letterB prsC To DSpec Lv AWpD
theorem ref_LineParse1 {G : Glo} (b4 b5 : Nat) (g n v : List UInt8) (q : AVal) (e p : Int) : DSpec Tryz.prog G 9 [.own 1 (pS b5), .own 0 (pS b4)] .ret [prC b4 g n q v, flC b5 e p]
    (fun r m H => m = .ret ∧ r = .ret (.tuple []) ∧ H = [if e = 0 then prC b4 g n q v else prC b4 [] [] nilS [], flC b5 e p]) := by
  have hGL : GloAll G [] := gloAll_nil
  have hI := ref_Fault_Is (G := G) e p
  refine ds_code (rs := []) (GL := []) Tryz.func9 rfl rfl rfl rfl hGL ?_
  intro C hC
  by_cases he : e = 0
  · rw [eqB_t.2 he] at hI
    rw [if_pos he]
    exact xw0
  · rw [eqB_f.2 he] at hI
    rw [if_neg he]
    exact xw0
section
variable {G : Glo} {n : Nat} {env : Env} {Qf : ARes → Heap → Prop} {b4 b5 : Nat} {T : Heap} {q : AVal} {y z : AVal} {e p : Int} {g m v : List UInt8}
theorem lpr_ret (h4 : Env.get env 4 = some (.own 2 (pS b4))) (h5 : Env.get env 5 = some (.own 3 (pS b5))) {H' : Heap} (hs : H'.Sublist T) (hq : Qf (.ret (.tuple [.agg [.str g, .str m, q, .str v], .agg [.int .i64 e, .int .i64 p]])) H') :
    Lv Tryz.prog G n [.cell 4 24, .cell 5 27] env [] .ret (prC b4 g m q v :: flC b5 e p :: T) Qf := by
  refine lv_rq ⟨[.agg [.str g, .str m, q, .str v], .agg [.int .i64 e, .int .i64 p]], H', ⟨_, _, rfl, ⟨b4, 0, _, _, _, .inr ⟨2, h4⟩, rfl, rfl, rfl, .inl ⟨rfl, rfl⟩⟩, _, _, rfl, ⟨b5, 1, _, _, _, .inr ⟨3, h5⟩, rfl, rfl, rfl, .inl ⟨rfl, rfl⟩⟩, rfl⟩, (hs.cons _).cons _, hq⟩
theorem lpr_one (h4 : Env.get env 4 = some (.own 2 (pS b4))) (h5 : Env.get env 5 = some (.own 3 (pS b5))) (he : e ≠ 0) (hq : Qf (.ret (.tuple [.agg [.str [], .str [], nilS, .str []], .agg [.int .i64 e, .int .i64 p]])) []) :
    Lv Tryz.prog G n [.cell 4 24, .cell 5 27] env [dLp1 b4 b5] .ret (prC b4 g m q v :: flC b5 e p :: T) Qf := by
  have h1 := ref_LineParse1 (G := G) b4 b5 g m v q e p
  rw [if_neg he] at h1
  refine lv_call (ds_pre T h1) (fun R => ⟨_, _, rfl, rel_own.2 ⟨rfl, rfl⟩, _, _, rfl, rel_own.2 ⟨rfl, rfl⟩, rfl⟩) Tryz.call9 ?_
  exact lpr_ret h4 h5 (List.nil_sublist _) hq
theorem lpr_thrown {c0 c1 : HEnt} (h4 : Env.get env 4 = some (.own 2 (pS b4))) (h5 : Env.get env 5 = some (.own 3 (pS b5))) (he : e ≠ 0) (hq : Qf (.ret (.tuple [.agg [.str [], .str [], nilS, .str []], .agg [.int .i64 e, .int .i64 p]])) []) :
    Lv Tryz.prog G n [.cell 4 24, .cell 5 27] env [dCau b5, dLp1 b4 b5] (.pan (thrA e p)) (c0 :: c1 :: prC b4 g m q v :: .cells b5 (some 27) [y, z] :: T) Qf := by
  refine lv_sub (H' := prC b4 g m q v :: .cells b5 (some 27) [y, z] :: T) ((List.Sublist.refl _).cons _ |>.cons _) ?_
  refine lv_call (ds_at (i := 1) rfl (ref_caught b5 e p y z)) (fun R => ⟨_, _, rfl, rel_own.2 ⟨rfl, rfl⟩, rfl⟩) Tryz.call11 ?_
  exact lpr_one h4 h5 he hq
theorem lpr_left {c0 c1 : HEnt} (h4 : Env.get env 4 = some (.own 2 (pS b4))) (h5 : Env.get env 5 = some (.own 3 (pS b5))) {H' : Heap} (hs : H'.Sublist T) (hq : Qf (.ret (.tuple [.agg [.str g, .str m, q, .str v], .agg [.int .i64 0, .int .i64 p]])) H') :
    Lv Tryz.prog G n [.cell 4 24, .cell 5 27] env [dCau b5, dLp1 b4 b5] .ret (c0 :: c1 :: prC b4 g m q v :: flC b5 0 p :: T) Qf := by
  refine lv_sub (H' := prC b4 g m q v :: flC b5 0 p :: T) ((List.Sublist.refl _).cons _ |>.cons _) ?_
  refine lv_call (ds_at (i := 0) rfl (ref_uncaught b5 _)) (fun R => ⟨_, _, rfl, rel_own.2 ⟨rfl, rfl⟩, rfl⟩) Tryz.call11 ?_
  have h1 := ref_LineParse1 (G := G) b4 b5 g m v q 0 p
  rw [if_pos rfl] at h1
  refine lv_call (ds_pre T h1) (fun R => ⟨_, _, rfl, rel_own.2 ⟨rfl, rfl⟩, _, _, rfl, rel_own.2 ⟨rfl, rfl⟩, rfl⟩) Tryz.call9 ?_
  exact lpr_ret h4 h5 hs hq
end
section
variable {G : Glo} {K Kp : AVal → Heap → Prop} {b7 b2 b3 b8 : Nat} {s : List UInt8} {a : Nat} {cr : Bool} {c1 c2 c3 c5 : HEnt} {T : Heap} {m : Int}
theorem cx_nextR (hl : s.length ≤ 1000000) (ha : a ≤ s.length) (k : K (.int .u8 (nxB s a : Nat)) (bxS b2 s :: c1 :: c2 :: c3 :: atC b7 a :: c5 :: T)) : Cx Tryz.prog G 14 [.raw (pS b7), .raw (pS b2)] (bxS b2 s :: c1 :: c2 :: c3 :: atC b7 a :: c5 :: T) K Kp :=
  cx_keep [4, 0] (ref_next b7 b2 s a hl ha) rfl k
theorem cx_wordR (hl : s.length ≤ 1000000) (ha : a ≤ s.length) (k : ∀ w j, wordP s a = .ok (w, j) → K (.str w) (bxS b2 s :: c1 :: c2 :: c3 :: atC b7 j :: c5 :: T)) (k2 : ∀ (e : Int) (p : Nat) j, wordP s a = .bad e p → Kp (thrA e p) (bxS b2 s :: c1 :: c2 :: c3 :: atC b7 j :: c5 :: T)) :
    Cx Tryz.prog G 15 [.raw (pS b7), .raw (pS b2)] (bxS b2 s :: c1 :: c2 :: c3 :: atC b7 a :: c5 :: T) K Kp := by
  refine cx_pick [4, 0] (ref_word b7 b2 s a hl ha) rfl ?_ ?_
  · rintro v H1' (⟨w, j, h1, e, rfl⟩ | ⟨_, _, _, _, e, _⟩)
    · cases e
      exact ⟨bxS b2 s :: c1 :: c2 :: c3 :: atC b7 j :: c5 :: T, rfl, rfl, k w j h1⟩
    · cases e
  · rintro v H1' (⟨_, _, _, e, _⟩ | ⟨e', p, j, h1, e, rfl⟩)
    · cases e
    · cases e
      exact ⟨bxS b2 s :: c1 :: c2 :: c3 :: atC b7 j :: c5 :: T, rfl, rfl, k2 e' p j h1⟩
theorem cx_valR (hM : GloAll G (maxTy m)) (hl : s.length ≤ 1000000) (ha : a ≤ s.length) {i0 j0 : Nat} (k : ∀ w j, valP cr s a = .ok (w, j) → K (.str w) (bxS b2 s :: bxB b3 cr :: c2 :: c3 :: atC b7 j :: fnC b8 i0 j0 b7 b2 :: T)) (k2 : ∀ (e : Int) (p : Nat) j, valP cr s a = .bad e p → Kp (thrA e p) (bxS b2 s :: bxB b3 cr :: c2 :: c3 :: atC b7 j :: fnC b8 i0 j0 b7 b2 :: T)) :
    Cx Tryz.prog G 17 [.raw (pS b8), .raw (pS b7), .raw (pS b2), .raw (pS b3)] (bxS b2 s :: bxB b3 cr :: c2 :: c3 :: atC b7 a :: fnC b8 i0 j0 b7 b2 :: T) K Kp := by
  refine cx_pick [5, 4, 0, 0] (ref_val hM b8 i0 j0 b7 b2 b3 s a cr hl ha) rfl ?_ ?_
  · rintro v H1' (⟨w, j, h1, e, rfl⟩ | ⟨_, _, _, _, e, _⟩)
    · cases e
      exact ⟨bxS b2 s :: bxB b3 cr :: c2 :: c3 :: atC b7 j :: fnC b8 i0 j0 b7 b2 :: T, rfl, rfl, k w j h1⟩
    · cases e
  · rintro v H1' (⟨_, _, _, e, _⟩ | ⟨e', p, j, h1, e, rfl⟩)
    · cases e
    · cases e
      exact ⟨bxS b2 s :: bxB b3 cr :: c2 :: c3 :: atC b7 j :: fnC b8 i0 j0 b7 b2 :: T, rfl, rfl, k2 e' p j h1⟩
end
end Go.Proofs.YtkmpcdlmeiophaaGreatDoor
namespace Go.Proofs.YtkmpcdlmeiophaaGreatDoor
open Go Go.RowKit
theorem tailP_f {s g n : List UInt8} {ps : List Pr} {b : Nat} (h : atB s b 58 = true) (hf : ¬ fstB (hdC false) (s.drop (b + 1)) < 0) : tailP s g n ps b = .bad 3 (b + 1 + (fstB (hdC false) (s.drop (b + 1))).toNat) := by
  unfold tailP
  rw [h, if_pos rfl, if_neg hf]
theorem tailP_g {s g n : List UInt8} {ps : List Pr} {b : Nat} (h : atB s b 58 = true) (hf : fstB (hdC false) (s.drop (b + 1)) < 0) : tailP s g n ps b = .ok ⟨g, n, ps, s.drop (b + 1)⟩ := by
  unfold tailP
  rw [h, if_pos rfl, if_pos hf]
section
variable {C : Ctx} {n : Nat} {e : Env}
theorem to_prm6 {c0 c1 c2 c3 c4 c5 : HEnt} {va : Value} {acc : List Pr} {w : List UInt8} {vs : List (List UInt8)} {u : Value} {m bp : Nat} (hm : m = (acc ++ [(⟨w, vs⟩ : Pr)]).length) : To C n e [c0, c1, c2, c3, c4, c5, .row va none 2 m (prsC acc ++ ([.str w, .own 8 u] : List AVal)), .cells bp (some 51) [.str w, .own 8 u], .row u none 1 vs.length (strsC vs)] e
    [c0, c1, c2, c3, c4, c5, .row va none 2 (acc ++ [(⟨w, vs⟩ : Pr)]).length (prsC (acc ++ [⟨w, vs⟩]))] := by
  have hI := prsC_len acc
  rw [← hm]
  have e1 : (prsC acc ++ ([.str w, .own 8 u] : List AVal)).set (acc.length * 2 + 1) (.list 1 vs.length (strsF vs)) = prsC (acc ++ [⟨w, vs⟩]) := by
    rw [List.set_append_right _ _ (by omega), hI, Nat.add_sub_cancel_left, prsC_snoc]
    rfl
  rw [← e1]
  refine to_trans (to_seal (i := 8) (k := 6) (p := acc.length * 2 + 1) (strsF vs) rfl rfl (strsF_ok vs) (fun R hr => .row (a := .own 8 u) ?_ fun _ => own_list hr)) (to_drop ?_)
  · rw [List.getElem?_append_right (by omega), hI, Nat.add_sub_cancel_left]; rfl
  · exact List.Sublist.cons_cons _ (List.Sublist.cons_cons _ (List.Sublist.cons_cons _ (List.Sublist.cons_cons _ (List.Sublist.cons_cons _ (List.Sublist.cons_cons _ (List.Sublist.cons_cons _ (List.nil_sublist _)))))))
end
set_option maxRecDepth 20000
set_option maxHeartbeats 4000000
set_option linter.unusedSimpArgs false
set_option linter.unusedVariables false
attribute [local irreducible] AWp AOps byteAt SrcOK OrOk GloAll FnSpec
attribute [local irreducible] hdC hdB badI isS decS letterB prsC To DSpec Lv AWpD lineP headP wordP tailP nxB
theorem ref_LineParse0 {G : Glo} {m : Int} (hU : GloAll G utfTy) (hM : GloAll G (maxTy m)) (s : List UInt8) (cr : Bool) (hl : s.length ≤ 1000000) : FnSpec Tryz.prog G 4 [.str s, .bool cr] []
    (fun r H => (∃ (e : Int) (p : Nat), lineP cr s = .bad e p ∧ r = .ret (.tuple [.agg [.str [], .str [], nilS, .str []], .agg [.int .i64 e, .int .i64 p]]) ∧ H = []) ∨
      (∃ (l : Ln) (i : Nat) (v : Value), lineP cr s = .ok l ∧ r = .ret (.tuple [.agg [.str l.g, .str l.n, .own i v, .str l.v], .agg [.int .i64 0, .int .i64 (-1)]]) ∧ H = [.row v none 2 l.ps.length (prsC l.ps)])) := by
  have hGL : GloAll G [] := gloAll_nil
  have hB := ref_Bad (G := G) hU s (by omega)
  have hG0 := ref_Good (G := G)
  have hT := fun e p => ref_throw (G := G) e p
  refine fn_d (rs := [.cell 4 24, .cell 5 27]) Tryz.func4 Tryz.call4 rfl rfl rfl rfl ?_
  intro C hC hD
  refine awd_cuty hC hGL (fun x : Nat × Nat × Nat × Nat => [(2, .own 0 (pS x.1)), (3, .own 1 (pS x.2.1)), (4, .own 2 (pS x.2.2.1)), (5, .own 3 (pS x.2.2.2))]) (fun x => [bxS x.1 s, bxB x.2.1 cr, prC x.2.2.1 [] [] nilS [], flC x.2.2.2 0 0]) (fun _ => True) ?_ ?_
  · refine xb1 ?_
    intro b2 b3 b4 b5
    intros
    exact cy (b2, b3, b4, b5) trivial
  rintro ⟨b2, b3, b4, b5⟩ -
  dsimp only
  refine awd_cuty hC hGL (fun _ : Unit => [(2, .own 0 (pS b2)), (3, .own 1 (pS b3)), (4, .own 2 (pS b4)), (5, .own 3 (pS b5))]) (fun _ => [bxS b2 s, bxB b3 cr, prC b4 [] [] nilS [], flC b5 0 (-1)]) (fun _ => True) ?_ ?_
  · refine xn1 ?_
    intros
    exact cy () trivial
  intro _ _
  refine awd_seq (awd_defer hC hGL rfl ?_)
  refine xn1 ?_
  refine ⟨_, rfl, ?_⟩
  refine awd_seq (awd_defer hC hGL rfl ?_)
  refine xn1 ?_
  refine ⟨_, rfl, ?_⟩
  refine (fun (h : ∀ C2 : Ctx, C2.G = G → C2.D = [dCau b5, dLp1 b4 b5] → AWpD Tryz.prog C2 _ _ _ _ _) => h (withD C (dCau b5 :: dLp1 b4 b5 :: C.D)) hC (by show dCau b5 :: dLp1 b4 b5 :: C.D = _; rw [hD])) ?_
  clear hC hD C
  intro C hC hD
  have thr : ∀ {n : Nat} {env : Env} {T : Heap} {q : AVal} {y z : AVal} {g m v : List UInt8} {e : Int} {p : Nat} {p' : Int}, Env.get env 4 = some (.own 2 (pS b4)) → Env.get env 5 = some (.own 3 (pS b5)) → lineP cr s = .bad e p → p' = p → Lv Tryz.prog G n [.cell 4 24, .cell 5 27] env [dCau b5, dLp1 b4 b5] (.pan (thrA e p')) (bxS b2 s :: bxB b3 cr :: prC b4 g m q v :: .cells b5 (some 27) [y, z] :: T)
      (fun r H => (∃ (e : Int) (p : Nat), lineP cr s = .bad e p ∧ r = .ret (.tuple [.agg [.str [], .str [], nilS, .str []], .agg [.int .i64 e, .int .i64 p]]) ∧ H = []) ∨
      (∃ (l : Ln) (i : Nat) (v : Value), lineP cr s = .ok l ∧ r = .ret (.tuple [.agg [.str l.g, .str l.n, .own i v, .str l.v], .agg [.int .i64 0, .int .i64 (-1)]]) ∧ H = [.row v none 2 l.ps.length (prsC l.ps)])) := by
    rintro n env T q y z g m v e p p' h4 h5 h rfl
    exact lpr_thrown h4 h5 (lineP_ne h) (.inl ⟨_, _, h, rfl, rfl⟩)
  refine awd_cuty hC hGL (fun _ : Unit => [(2, .own 0 (pS b2)), (3, .own 1 (pS b3)), (4, .own 2 (pS b4)), (5, .own 3 (pS b5))]) (fun _ => [bxS b2 s, bxB b3 cr, prC b4 [] [] nilS [], flC b5 0 (-1)]) (fun _ => badI s < 0) ?_ ?_
  · by_cases hb : 0 ≤ badI s
    · have e9 : badI s = (((badI s).toNat : Nat) : Int) := by omega
      refine xn1 ?_
      intros
      refine cx_panic (hT 3 (badI s)) ?_
      (conv => whnf)
      rw [hD]
      exact thr rfl rfl (lineP_bad hb) e9
    · refine xn1 ?_
      intros
      exact cy () (by omega)
  intro _ hb
  refine awd_cuty hC hGL (fun b7 : Nat => [(2, .own 0 (pS b2)), (3, .own 1 (pS b3)), (4, .own 2 (pS b4)), (5, .own 3 (pS b5)), (7, .own 4 (pS b7))]) (fun b7 => [bxS b2 s, bxB b3 cr, prC b4 [] [] nilS [], flC b5 0 (-1), atC b7 0]) (fun _ => True) ?_ ?_
  · refine xb1 ?_
    intro b7
    intros
    exact cy b7 trivial
  intro b7 _
  refine awd_cuty hC hGL (fun b8 : Nat => [(2, .own 0 (pS b2)), (3, .own 1 (pS b3)), (4, .own 2 (pS b4)), (5, .own 3 (pS b5)), (7, .own 4 (pS b7)), (8, .own 5 (pS b8))]) (fun b8 => [bxS b2 s, bxB b3 cr, prC b4 [] [] nilS [], flC b5 0 (-1), atC b7 0, fnC b8 4 0 b7 b2]) (fun _ => True) ?_ ?_
  · refine xb1 ?_
    intro b8
    intros
    exact cy b8 trivial
  intro b8 _
  refine awd_cuty hC hGL (fun _ : Unit => [(2, .own 0 (pS b2)), (3, .own 1 (pS b3)), (4, .own 2 (pS b4)), (5, .own 3 (pS b5)), (7, .own 4 (pS b7)), (8, .own 5 (pS b8)), (9, .func (.func 15) [] [.own 4 (pS b7), .own 0 (pS b2)])]) (fun _ => [bxS b2 s, bxB b3 cr, prC b4 [] [] nilS [], flC b5 0 (-1), atC b7 0, fnC b8 4 0 b7 b2]) (fun _ => True) ?_ ?_
  · refine xn1 ?_
    intros
    exact cy () trivial
  intro _ _
  refine awd_cuty hC hGL (fun _ : Unit => [(2, .own 0 (pS b2)), (4, .own 2 (pS b4)), (5, .own 3 (pS b5)), (7, .own 4 (pS b7)), (8, .own 5 (pS b8)), (9, .func (.func 15) [] [.own 4 (pS b7), .own 0 (pS b2)]), (10, .func (.func 17) [] [.own 5 (pS b8), .own 4 (pS b7), .own 0 (pS b2), .own 1 (pS b3)])]) (fun _ => [bxS b2 s, bxB b3 cr, prC b4 [] [] nilS [], flC b5 0 (-1), atC b7 0, fnC b8 4 0 b7 b2]) (fun _ => True) ?_ ?_
  · refine xn1 ?_
    intros
    exact cy () trivial
  intro _ _
  refine awd_cuty hC hGL (fun _ : List UInt8 × Nat => [(2, .own 0 (pS b2)), (4, .own 2 (pS b4)), (5, .own 3 (pS b5)), (7, .own 4 (pS b7)), (8, .own 5 (pS b8)), (9, .func (.func 15) [] [.own 4 (pS b7), .own 0 (pS b2)]), (10, .func (.func 17) [] [.own 5 (pS b8), .own 4 (pS b7), .own 0 (pS b2), .own 1 (pS b3)])]) (fun x => [bxS b2 s, bxB b3 cr, prC b4 [] x.1 nilS [], flC b5 0 (-1), atC b7 x.2, fnC b8 4 0 b7 b2]) (fun x => wordP s 0 = .ok x) ?_ ?_
  · refine xn1 ?_
    refine cx_wordR hl (Nat.zero_le _) (fun w j hw => ?_) (fun e p j hw => ?_)
    · refine xn1 ?_
      intros
      exact cy (w, j) hw
    · (conv => whnf)
      rw [hD]
      exact thr rfl rfl (lineP_head hb (headP_1 hw)) rfl
  rintro ⟨w, j⟩ hw
  dsimp only
  have hg := wordP_ge hw
  have hjl := hg.2.1 (Nat.zero_le _)
  refine awd_cuty hC hGL (fun _ : List UInt8 × List UInt8 × Nat => [(2, .own 0 (pS b2)), (4, .own 2 (pS b4)), (5, .own 3 (pS b5)), (7, .own 4 (pS b7)), (8, .own 5 (pS b8)), (9, .func (.func 15) [] [.own 4 (pS b7), .own 0 (pS b2)]), (10, .func (.func 17) [] [.own 5 (pS b8), .own 4 (pS b7), .own 0 (pS b2), .own 1 (pS b3)])]) (fun x => [bxS b2 s, bxB b3 cr, prC b4 x.1 x.2.1 nilS [], flC b5 0 (-1), atC b7 x.2.2, fnC b8 4 0 b7 b2]) (fun x => headP s = .ok ((x.1, x.2.1), x.2.2) ∧ x.2.2 ≤ s.length) ?_ ?_
  · cases h46 : atB s j 46 with
    | false =>
      have hne := nxB_n (by decide) h46
      refine xn1 ?_
      refine cx_nextR hl hjl ?_
      refine xn1 ?_
      intros
      exact cy ([], w, j) ⟨headP_2 hw h46, hjl⟩
    | true =>
      have hy := nxB_y (by decide) h46
      have hb1 : j + 1 ≤ s.length := (atB_t.1 h46).1
      refine xn1 ?_
      refine cx_nextR hl hjl ?_
      rw [hy]
      refine xn1 ?_
      intros
      refine cx_wordR hl hb1 (fun n k hn => ?_) (fun e p k hn => ?_)
      · refine xn1 ?_
        intros
        exact cy (w, n, k) ⟨headP_4 hw h46 hn, (wordP_ge hn).2.1 hb1⟩
      · (conv => whnf)
        rw [hD]
        exact thr rfl rfl (lineP_head hb (headP_3 hw h46 hn)) rfl
  rintro ⟨g, n, a⟩ ⟨hh, hal⟩
  dsimp only at hh hal ⊢
  refine awd_cuty hC hGL (fun _ : List Pr × Nat × Option Addr × Nat × Nat => [(2, .own 0 (pS b2)), (4, .own 2 (pS b4)), (5, .own 3 (pS b5)), (7, .own 4 (pS b7)), (8, .own 5 (pS b8)), (9, .func (.func 15) [] [.own 4 (pS b7), .own 0 (pS b2)]), (10, .func (.func 17) [] [.own 5 (pS b8), .own 4 (pS b7), .own 0 (pS b2), .own 1 (pS b3)])]) (fun x => [bxS b2 s, bxB b3 cr, prC b4 g n (.own 6 (slV x.2.2.1 x.2.2.2.1 x.2.2.2.2)) [], flC b5 0 (-1), atC b7 x.2.1, fnC b8 4 0 b7 b2, .row (slV x.2.2.1 x.2.2.2.1 x.2.2.2.2) none 2 x.1.length (prsC x.1)]) (fun x => parsP cr s a [] = .ok (x.1, x.2.1) ∧ x.2.1 ≤ s.length) ?_ ?_
  · refine xn1 ?_
    refine lpT hC hGL (fun x : Nat × List Pr × Option Addr × Nat × Nat => [(2, .own 0 (pS b2)), (4, .own 2 (pS b4)), (5, .own 3 (pS b5)), (7, .own 4 (pS b7)), (8, .own 5 (pS b8)), (9, .func (.func 15) [] [.own 4 (pS b7), .own 0 (pS b2)]), (10, .func (.func 17) [] [.own 5 (pS b8), .own 4 (pS b7), .own 0 (pS b2), .own 1 (pS b3)])]) (fun x => [bxS b2 s, bxB b3 cr, prC b4 g n (.own 6 (slV x.2.2.1 x.2.2.2.1 x.2.2.2.2)) [], flC b5 0 (-1), atC b7 x.1, fnC b8 4 0 b7 b2, .row (slV x.2.2.1 x.2.2.2.1 x.2.2.2.2) none 2 x.2.1.length (prsC x.2.1)]) (fun x => x.1 ≤ s.length ∧ x.2.1.length ≤ 20 ∧ parsP cr s x.1 x.2.1 = parsP cr s a []) (fun x => s.length - x.1) (a, [], none, 0, 0) ⟨hal, Nat.zero_le _, rfl⟩ ?_ ?_
    · refine to_trans (to_ghost 2) (to_trans (to_cell (i := 2) (p := 2) (x := prC b4 g n nilS []) (a' := .own 6 (.slice none 0 0)) rfl (fun R => .cells rfl fun _ => nil_own)) (to_sub env_w ?_))
      rw [show prsC [] = [] by unfold prsC; rfl]
      exact List.Sublist.refl _
    rintro ⟨at0, acc, va, vk, vc⟩ ⟨h1, h2, h3⟩
    dsimp only at h1 h2 h3 ⊢
    cases hq : atB s at0 59 with
    | false =>
      have hne := nxB_n (by decide) hq
      refine xn1 ?_
      refine cx_nextR hl h1 ?_
      refine xn1 ?_
      intros
      exact cy (acc, at0, va, vk, vc) ⟨h3.symm.trans (parsP_end hq), h1⟩
    | true =>
      have hy := nxB_y (by decide) hq
      have hb1 : at0 + 1 ≤ s.length := (atB_t.1 hq).1
      refine xn1 ?_
      refine cx_nextR hl h1 ?_
      rw [hy]
      refine xn1 ?_
      intros
      refine cx_wordR hl hb1 (fun w j hw => ?_) (fun e p j hw => ?_)
      rotate_left
      · (conv => whnf)
        rw [hD]
        exact thr rfl rfl (lineP_pars hb hh (h3.symm.trans (parsP_word hq hw))) rfl
      have hj := wordP_ge hw
      have hjl : j ≤ s.length := hj.2.1 hb1
      refine xn1 ?_
      intro bp
      intros
      refine cx_nextR hl hjl ?_
      cases h61 : atB s j 61 with
      | false =>
        have hne := nxB_n (by decide) h61
        refine xn1 ?_
        intros
        refine cx_panic (hT 7 j) ?_
        (conv => whnf)
        rw [hD]
        exact thr rfl rfl (lineP_pars hb hh (h3.symm.trans (parsP_eq hq hw h61))) rfl
      | true =>
        have hy61 := nxB_y (by decide) h61
        have hb2 : j + 1 ≤ s.length := (atB_t.1 h61).1
        rw [hy61]
        refine xn1 ?_
        intros
        refine lpT hC hGL (fun x : Nat × List (List UInt8) × Option Addr × Nat × Nat => [(2, .own 0 (pS b2)), (4, .own 2 (pS b4)), (5, .own 3 (pS b5)), (7, .own 4 (pS b7)), (8, .own 5 (pS b8)), (9, .func (.func 15) [] [.own 4 (pS b7), .own 0 (pS b2)]), (10, .func (.func 17) [] [.own 5 (pS b8), .own 4 (pS b7), .own 0 (pS b2), .own 1 (pS b3)]), (11, .int .i64 ((at0 + 1 : Nat) : Int)), (12, .own 7 (pS bp))])
          (fun x => [bxS b2 s, bxB b3 cr, prC b4 g n (.own 6 (slV va vk vc)) [], flC b5 0 (-1), atC b7 x.1, fnC b8 4 0 b7 b2, .row (slV va vk vc) none 2 acc.length (prsC acc), .cells bp (some 51) [.str w, .own 8 (slV x.2.2.1 x.2.2.2.1 x.2.2.2.2)], .row (slV x.2.2.1 x.2.2.2.1 x.2.2.2.2) none 1 x.2.1.length (strsC x.2.1)])
          (fun x => x.1 ≤ s.length ∧ x.2.1.length ≤ x.1 ∧ ((x.2.1 = [] ∧ j = x.1) ∨ (x.2.1 ≠ [] ∧ j + 1 ≤ x.1 ∧ valsC cr s x.1 x.2.1 = valsP cr s (j + 1) []))) (fun x => s.length - x.1) (j, [], none, 0, 0) ⟨hjl, Nat.zero_le _, .inl ⟨rfl, rfl⟩⟩ ?_ ?_
        · refine to_trans (to_ghost 1) (to_trans (to_cell (i := 7) (p := 1) (x := .cells bp (some 51) [.str w, .raw (.slice none 0 0)]) (a' := .own 8 (.slice none 0 0)) rfl (fun R => .cells rfl fun _ => nil_own)) (to_sub env_w ?_))
          exact List.Sublist.refl _
        rintro ⟨at2, vs, ua, uk, uc⟩ ⟨g1, g2, g3⟩
        dsimp only at g1 g2 g3 ⊢
        rcases g3 with ⟨rfl, rfl⟩ | ⟨g3, g4, g5⟩
        · refine xn1 ?_
          refine cx_nextR hl hjl ?_
          rw [hy61]
          refine xn1 ?_
          intros
          refine dw_pe [(4, .own 2 (pS b4)), (5, .own 3 (pS b5))] (by kernel_rfl) mixed hC hGL false (fun v h => ∃ (e : Int) (q : Nat) (jj : Nat) (T : Heap), valP cr s (j + 1) = .bad e q ∧ v = thrA e q ∧ h = bxS b2 s :: bxB b3 cr :: prC b4 g n (.own 6 (slV va vk vc)) [] :: flC b5 0 (-1) :: T)
            (fun _ : { x : List UInt8 × Nat × Option Addr × Nat × Nat // valP cr s (j + 1) = .ok (x.1, x.2.1) } => [(2, .own 0 (pS b2)), (4, .own 2 (pS b4)), (5, .own 3 (pS b5)), (7, .own 4 (pS b7)), (8, .own 5 (pS b8)), (9, .func (.func 15) [] [.own 4 (pS b7), .own 0 (pS b2)]), (10, .func (.func 17) [] [.own 5 (pS b8), .own 4 (pS b7), .own 0 (pS b2), .own 1 (pS b3)]), (11, .int .i64 ((at0 + 1 : Nat) : Int)), (12, .own 7 (pS bp))])
            (fun x => [bxS b2 s, bxB b3 cr, prC b4 g n (.own 6 (slV va vk vc)) [], flC b5 0 (-1), atC b7 x.1.2.1, fnC b8 4 0 b7 b2, .row (slV va vk vc) none 2 acc.length (prsC acc), .cells bp (some 51) [.str w, .own 8 (slV x.1.2.2.1 x.1.2.2.2.1 x.1.2.2.2.2)], .row (slV x.1.2.2.1 x.1.2.2.2.1 x.1.2.2.2.2) none 1 (([] : List (List UInt8)) ++ [x.1.1]).length (strsC (([] : List (List UInt8)) ++ [x.1.1]))])
            (.take 0 (.take 2 (.br 1 (.br 3 (.br 4 (.br 5 (.take 6 (.br 7 (.done) (.nil))) (.nil)) (.nil)) (.nil)) (.br 3 (.br 1 (.br 4 (.br 5 (.take 6 (.br 7 (.done) (.nil))) (.nil)) (.nil)) (.br 4 (.br 1 (.br 5 (.take 6 (.br 7 (.done) (.nil))) (.nil)) (.nil)) (.nil))) (.nil))))) (by kernel_rfl) ?_ ?_ ?_
          · refine xn ?_
            repeat' (first | exact Le.n | refine Lc.mk ?_ ?_)
            all_goals intros
            all_goals (
              refine cx_valR hM hl (hb2) (fun v b' hv => ?_) (fun e' q jj hv => ?_)
              · refine xn ?_
                repeat' (first | exact Le.n | refine Lc.mk ?_ ?_)
                all_goals intros
                all_goals (
                  rename_i wa wk wc wh
                  refine ⟨⟨(v, b', wa, wk, wc), hv⟩, env_w, ?_⟩
                  dsimp only
                  rw [← strsC_snoc, List.length_append]
                  exact sub_w)
              · exact ⟨⟨e', q, jj, _, hv, rfl, rfl⟩, rfl, rfl, trivial⟩)
          rotate_left
          · rintro v h ⟨e', q, jj, T, hv, rfl, rfl⟩
            (conv => whnf)
            rw [hD]
            exact thr rfl rfl (lineP_pars hb hh (h3.symm.trans (parsP_vals hq hw h61 (valsP_bad hv)))) rfl
          rintro ⟨⟨v3, b3', xa, xk, xc⟩, hv3⟩
          dsimp only at hv3 ⊢
          have hg3 := valP_ge hv3
          refine xn1 ?_
          intros
          exact nxT (b3', [] ++ [v3], xa, xk, xc) ⟨hg3.2 hb2, by simp only [List.nil_append, List.length_cons, List.length_nil]; omega, .inr ⟨by simp, hg3.1, (valsP_val (acc := []) hv3).symm⟩⟩ (by dsimp only; omega) (to_sub env_w sub_w)
        · have hvl : vs.length ≠ 0 := fun h => g3 (List.eq_nil_of_length_eq_zero h)
          cases h44 : atB s at2 44 with
          | true =>
            have hy := nxB_y (by decide) h44
            have hb3 : at2 + 1 ≤ s.length := (atB_t.1 h44).1
            have hgo : valsC cr s at2 vs = valsP cr s (at2 + 1) vs := by unfold valsC; rw [h44, if_pos rfl]
            refine xn1 ?_
            refine cx_nextR hl g1 ?_
            rw [hy]
            refine xn1 ?_
            intros
            refine cx_nextR hl g1 ?_
            rw [hy]
            refine xn1 ?_
            intros
            refine dw_pe [(4, .own 2 (pS b4)), (5, .own 3 (pS b5))] (by kernel_rfl) mixed hC hGL false (fun v h => ∃ (e : Int) (q : Nat) (jj : Nat) (T : Heap), valP cr s (at2 + 1) = .bad e q ∧ v = thrA e q ∧ h = bxS b2 s :: bxB b3 cr :: prC b4 g n (.own 6 (slV va vk vc)) [] :: flC b5 0 (-1) :: T)
              (fun _ : { x : List UInt8 × Nat × Option Addr × Nat × Nat // valP cr s (at2 + 1) = .ok (x.1, x.2.1) } => [(2, .own 0 (pS b2)), (4, .own 2 (pS b4)), (5, .own 3 (pS b5)), (7, .own 4 (pS b7)), (8, .own 5 (pS b8)), (9, .func (.func 15) [] [.own 4 (pS b7), .own 0 (pS b2)]), (10, .func (.func 17) [] [.own 5 (pS b8), .own 4 (pS b7), .own 0 (pS b2), .own 1 (pS b3)]), (11, .int .i64 ((at0 + 1 : Nat) : Int)), (12, .own 7 (pS bp))])
              (fun x => [bxS b2 s, bxB b3 cr, prC b4 g n (.own 6 (slV va vk vc)) [], flC b5 0 (-1), atC b7 x.1.2.1, fnC b8 4 0 b7 b2, .row (slV va vk vc) none 2 acc.length (prsC acc), .cells bp (some 51) [.str w, .own 8 (slV x.1.2.2.1 x.1.2.2.2.1 x.1.2.2.2.2)], .row (slV x.1.2.2.1 x.1.2.2.2.1 x.1.2.2.2.2) none 1 (vs ++ [x.1.1]).length (strsC (vs ++ [x.1.1]))])
              (.take 0 (.take 2 (.br 1 (.br 3 (.br 4 (.br 5 (.take 6 (.br 7 (.done) (.nil))) (.nil)) (.nil)) (.nil)) (.br 3 (.br 1 (.br 4 (.br 5 (.take 6 (.br 7 (.done) (.nil))) (.nil)) (.nil)) (.br 4 (.br 1 (.br 5 (.take 6 (.br 7 (.done) (.nil))) (.nil)) (.nil)) (.nil))) (.nil))))) (by kernel_rfl) ?_ ?_ ?_
            · refine xn ?_
              repeat' (first | exact Le.n | refine Lc.mk ?_ ?_)
              all_goals intros
              all_goals (
                refine cx_valR hM hl (hb3) (fun v b' hv => ?_) (fun e' q jj hv => ?_)
                · refine xn ?_
                  repeat' (first | exact Le.n | refine Lc.mk ?_ ?_)
                  all_goals intros
                  all_goals (
                    rename_i wa wk wc wh
                    refine ⟨⟨(v, b', wa, wk, wc), hv⟩, env_w, ?_⟩
                    dsimp only
                    rw [← strsC_snoc, List.length_append]
                    exact sub_w)
                · exact ⟨⟨e', q, jj, _, hv, rfl, rfl⟩, rfl, rfl, trivial⟩)
            rotate_left
            · rintro v h ⟨e', q, jj, T, hv, rfl, rfl⟩
              (conv => whnf)
              rw [hD]
              exact thr rfl rfl (lineP_pars hb hh (h3.symm.trans (parsP_vals hq hw h61 (g5.symm.trans (hgo.trans (valsP_bad hv)))))) rfl
            rintro ⟨⟨v3, b3', xa, xk, xc⟩, hv3⟩
            dsimp only at hv3 ⊢
            have hg3 := valP_ge hv3
            refine xn1 ?_
            intros
            exact nxT (b3', vs ++ [v3], xa, xk, xc) ⟨hg3.2 hb3, by simp only [List.length_append, List.length_cons, List.length_nil]; omega, .inr ⟨by simp, by omega, ((valsP_val hv3).symm.trans hgo.symm).trans g5⟩⟩ (by dsimp only; omega) (to_sub env_w sub_w)
          | false =>
            have hvs : valsP cr s (j + 1) [] = .ok (vs, at2) := by rw [← g5]; unfold valsC; rw [h44, if_neg (by decide)]
            have hne := nxB_n (by decide) h44
            by_cases h20 : acc.length = 20
            · by_cases h61' : (nxB s at2 : Int) = 61
              all_goals (
                refine xn1 ?_
                refine cx_nextR hl g1 ?_
                try rw [h61']
                refine xn1 ?_
                intros
                refine cx_nextR hl g1 ?_
                try rw [h61']
                refine xn1 ?_
                intros
                refine cx_panic (hT 4 ((at0 + 1 : Nat) : Int)) ?_
                (conv => whnf)
                rw [hD]
                exact thr rfl rfl (lineP_pars hb hh (h3.symm.trans (parsP_lim hq hw h61 hvs h20))) rfl)
            · by_cases h61' : (nxB s at2 : Int) = 61
              all_goals (
                refine xn1 ?_
                refine cx_nextR hl g1 ?_
                try rw [h61']
                refine xn1 ?_
                intros
                refine cx_nextR hl g1 ?_
                try rw [h61']
                refine xn1 ?_
                intro wa wk wc _
                intros
                refine nxT (at2, acc ++ [⟨w, vs⟩], wa, wk, wc) ⟨g1, by simp only [List.length_append, List.length_cons, List.length_nil]; omega, (parsP_go hq hw h61 hvs h20).symm.trans h3⟩ (by dsimp only; omega) ?_
                exact to_trans (to_sub env_w (List.Sublist.refl _)) (to_prm6 (by simp)))
  rintro ⟨ps, k, va, vk, vc⟩ ⟨hp, hkl⟩
  dsimp only at hp hkl ⊢
  have hLP := lineP_tail (c := cr) hb hh hp
  cases h58 : atB s k 58 with
  | false =>
    have hne := nxB_n (by decide) h58
    refine awd_code hC hGL (xn1 ?_)
    refine cx_nextR hl hkl ?_
    refine xn1 ?_
    intros
    refine cx_panic (hT 7 k) ?_
    (conv => whnf)
    rw [hD]
    exact thr rfl rfl (hLP.trans (tailP_7 h58)) rfl
  | true =>
    have hy := nxB_y (by decide) h58
    have hb2 : k + 1 ≤ s.length := (atB_t.1 h58).1
    have hf := ref_firstOf (G := G) (s.drop (k + 1)) 19 (hdC false) (by rw [List.length_drop]; omega) (fun c _ => ref_control (c : Int))
    by_cases hfst : fstB (hdC false) (s.drop (k + 1)) < 0
    · have hE := hLP.trans (tailP_g h58 hfst)
      generalize fstB (hdC false) (s.drop (k + 1)) = fi at *
      refine awd_code hC hGL (xn1 ?_)
      refine cx_nextR hl hkl ?_
      rw [hy]
      refine xn1 ?_
      intros
      refine dw_p mixed hC hGL false (fun (_ : Unit) => [(4, .own 2 (pS b4)), (5, .own 3 (pS b5))]) (fun _ => [bxS b2 s, bxB b3 cr, prC b4 g n (.own 6 (slV va vk vc)) (s.drop (k + 1)), flC b5 0 (-1), atC b7 (k + 1), fnC b8 4 0 b7 b2, .row (slV va vk vc) none 2 ps.length (prsC ps)]) (.br 0 (.br 1 (.br 2 (.br 3 (.done) (.nil)) (.nil)) (.br 2 (.br 1 (.br 3 (.done) (.nil)) (.nil)) (.nil))) (.br 1 (.br 0 (.br 2 (.br 3 (.done) (.nil)) (.nil)) (.nil)) (.nil))) (by kernel_rfl) ?_ ?_
      · refine xn ?_
        repeat' (first | exact Le.n | refine Lc.mk ?_ ?_)
        all_goals intros
        all_goals exact ⟨(), env_w, rfl⟩
      intro _
      refine xn1 ?_
      intros
      rw [hD]
      refine lpr_left (H' := [.row (slV va vk vc) none 2 ps.length (prsC ps)]) rfl rfl ?_ ?_
      · exact List.Sublist.cons _ (List.Sublist.cons _ (List.Sublist.refl _))
      · exact .inr ⟨⟨g, n, ps, s.drop (k + 1)⟩, 6, _, hE, rfl, rfl⟩
    · have hE := hLP.trans (tailP_f h58 hfst)
      have hfl : fstB (hdC false) (s.drop (k + 1)) ≤ 1000000 := by
        rcases fstB_cases (hdC false) (s.drop (k + 1)) with ⟨h, _⟩ | ⟨m', h1, h2, _⟩
        · rw [h]; omega
        · rw [h2]; rw [List.length_drop] at h1; omega
      generalize fstB (hdC false) (s.drop (k + 1)) = fi at *
      refine awd_code hC hGL (xn1 ?_)
      refine cx_nextR hl hkl ?_
      rw [hy]
      refine xn1 ?_
      intros
      refine cx_panic (hT 3 _) ?_
      (conv => whnf)
      rw [hD]
      exact thr rfl rfl hE (by omega)
end Go.Proofs.YtkmpcdlmeiophaaGreatDoor
namespace Go.Proofs.YtkmpcdlmeiophaaGreatDoor
open Go Go.RowKit
theorem prF_ok : ∀ (l : List Pr) (i : Nat), i < l.length → (prF l i).cells = ((prsC l).drop (i * 2)).take 2 ∧ (prF l i).plain = true
  | [], i, h => absurd h (Nat.not_lt_zero _)
  | q :: l, 0, h => ⟨by simp [prF, AVal.cells, prsC], rfl⟩
  | q :: l, i + 1, h => by
    have ih := prF_ok l i (by simpa using h)
    refine ⟨?_, rfl⟩
    have e : prF (q :: l) (i + 1) = prF l i := rfl
    have e2 : prsC (q :: l) = [.str q.n, .list 1 q.vs.length (strsF q.vs)] ++ prsC l := by simp [prsC]
    rw [e, ih.1, e2, show (i + 1) * 2 = 2 + i * 2 by omega, ← List.drop_drop]
    rfl
theorem line_Parse {G : Glo} (s : List UInt8) (cr : Bool) (hl : s.length ≤ 1000000) : FnIs Tryz.prog G 5 [.str s, .bool cr] (.tuple [(lpL cr s).A, (lpE cr s).A]) := by
  refine fn_told (line_Parse0 s cr hl) ?_
  rintro r H (⟨e, p, h, rfl, rfl⟩ | ⟨l, v, h, rfl, rfl⟩)
  · rintro C R w e' hm ⟨x, rfl, hx⟩
    have e1 : lpL cr s = Ln.no := by unfold lpL; rw [h]
    have e2 : lpE cr s = .at e p := by unfold lpE; rw [h]
    rw [e1, e2]
    exact ⟨R, hm, x, rfl, tuple_one (Seal.le_refl R) hx fun u hu => agg_told (p := 2) (a' := .list 2 0 (prF [])) (Seal.le_refl R) hu rfl (fun v => nil_list)⟩
  · rintro C R w e' hm ⟨x, rfl, hx⟩
    have e1 : lpL cr s = l := by unfold lpL; rw [h]
    have e2 : lpE cr s = .none := by unfold lpE; rw [h]
    rw [e1, e2]
    obtain ⟨R', hle, m2, hr⟩ := MS.seal_row (f := prF l.ps) hm (prF_ok l.ps)
    exact ⟨R', m2, x, rfl, tuple_one hle hx fun u hu => agg_told (p := 2) (a' := .list 2 l.ps.length (prF l.ps)) hle hu rfl (fun v => own_list hr)⟩
end Go.Proofs.YtkmpcdlmeiophaaGreatDoor
namespace Go.Proofs.YtkmpcdlmeiophaaGreatDoor
open Go Go.RowKit
theorem ref_LineParse {G : Glo} {m : Int} (hU : GloAll G utfTy) (hM : GloAll G (maxTy m)) (s : List UInt8) (cr : Bool) (hl : s.length ≤ 1000000) : FnIs Tryz.prog G 4 [.str s, .bool cr] (.tuple [(lpL cr s).A, .agg [.int .i64 (lpE cr s).e, .int .i64 (lpE cr s).p]]) := by
  refine fn_told (ref_LineParse0 hU hM s cr hl) ?_
  rintro r H (⟨e, p, h, rfl, rfl⟩ | ⟨l, i, v, h, rfl, rfl⟩)
  · rintro C R w e' hm ⟨x, rfl, hx⟩
    have e1 : lpL cr s = Ln.no := by unfold lpL; rw [h]
    have e2 : lpE cr s = .at e p := by unfold lpE; rw [h]
    rw [e1, e2]
    exact ⟨R, hm, x, rfl, tuple_one (Seal.le_refl R) hx fun u hu => agg_told (p := 2) (a' := .list 2 0 (prF [])) (Seal.le_refl R) hu rfl (fun v => nil_list)⟩
  · rintro C R w e' hm ⟨x, rfl, hx⟩
    have e1 : lpL cr s = l := by unfold lpL; rw [h]
    have e2 : lpE cr s = .none := by unfold lpE; rw [h]
    rw [e1, e2]
    obtain ⟨R', hle, m2, hr⟩ := MS.seal_row (f := prF l.ps) hm (prF_ok l.ps)
    exact ⟨R', m2, x, rfl, tuple_one hle hx fun u hu => agg_told (p := 2) (a' := .list 2 l.ps.length (prF l.ps)) hle hu rfl (fun v => own_list hr)⟩
end Go.Proofs.YtkmpcdlmeiophaaGreatDoor
namespace Go.Proofs.YtkmpcdlmeiophaaGreatDoor
open Go Go.RowKit
theorem parsP_bnd {c : Bool} {s : List UInt8} : ∀ (n : Nat) {a b : Nat} {acc ps : List Pr}, s.length - a ≤ n → acc.length ≤ 20 → (∀ q ∈ acc, q.vs.length ≤ s.length + 1) → parsP c s a acc = .ok (ps, b) → ps.length ≤ 20 ∧ ∀ q ∈ ps, q.vs.length ≤ s.length + 1
  | n, a, b, acc, ps, hn, h0, h1, h => by
    cases hq : atB s a 59 with
    | false => rw [parsP_end hq] at h; cases h; exact ⟨h0, h1⟩
    | true =>
      have g1 := atB_t.1 hq
      cases hw : wordP s (a + 1) with
      | bad e' p' => rw [parsP_word hq hw] at h; cases h
      | ok x =>
        obtain ⟨w, j⟩ := x
        have g2 := wordP_ge hw
        cases hj : atB s j 61 with
        | false => rw [parsP_eq hq hw hj] at h; cases h
        | true =>
          have g4 := (atB_t.1 hj).1
          cases hv : valsP c s (j + 1) [] with
          | bad e' p' => rw [parsP_vals hq hw hj hv] at h; cases h
          | ok x =>
            obtain ⟨vs, d⟩ := x
            have g3 := valsP_ge _ (Nat.le_refl _) hv
            by_cases h20 : acc.length = 20
            · rw [parsP_lim hq hw hj hv h20] at h; cases h
            · rw [parsP_go hq hw hj hv h20] at h
              cases n with
              | zero => omega
              | succ n =>
                refine parsP_bnd n (by omega) (by rw [List.length_append, List.length_singleton]; omega) (fun q hq => ?_) h
                rcases List.mem_append.1 hq with hq | hq
                · exact h1 q hq
                · rw [List.mem_singleton.1 hq]
                  have := g3.2.1 (by omega)
                  have := g3.2.2.2
                  rw [List.length_nil] at this
                  show vs.length ≤ _
                  omega
theorem lpL_bnd (c : Bool) (s : List UInt8) : (lpL c s).ps.length ≤ 20 ∧ ∀ q ∈ (lpL c s).ps, q.vs.length ≤ s.length + 1 := by
  unfold lpL
  cases hl : lineP c s with
  | bad e p => exact ⟨Nat.zero_le _, fun q hq => by cases hq⟩
  | ok l =>
    unfold lineP at hl
    split at hl
    · cases hh : headP s with
      | bad e p => rw [hh] at hl; cases hl
      | ok x =>
        obtain ⟨⟨g, n⟩, a⟩ := x
        rw [hh] at hl
        dsimp only at hl
        cases hp : parsP c s a [] with
        | bad e p => rw [hp] at hl; cases hl
        | ok x =>
          obtain ⟨ps, b⟩ := x
          rw [hp] at hl
          dsimp only at hl
          have hb := parsP_bnd _ (Nat.le_refl _) (Nat.zero_le _) (fun q hq => by cases hq) hp
          unfold tailP at hl
          (repeat' split at hl) <;> first | (cases hl; exact hb) | cases hl
    · cases hl
set_option maxRecDepth 20000
set_option maxHeartbeats 4000000
set_option linter.unusedSimpArgs false
set_option linter.unusedVariables false
attribute [local irreducible] AWp AOps byteAt SrcOK OrOk GloAll FnSpec
attribute [local irreducible] lpL lpE
theorem strl_Equal {G : Glo} (l : List (List UInt8)) (hn : l.length ≤ 20000) : FnIs Tryz.prog G 32 [.list 1 l.length (strsF l), .list 1 l.length (strsF l)] (.bool true) := by
  have hGL : GloAll G [] := gloAll_nil
  refine fn_x Tryz.func32 Tryz.call32 rfl rfl rfl rfl hGL ?_
  intro C hC
  refine xw1 ?_
  intros
  refine lp hC hGL (fun (k : Nat) => [(0, .list 1 l.length (strsF l)), (1, .list 1 l.length (strsF l)), (12, .int .i64 (l.length : Nat)), (13, .int .i64 (k : Nat))]) (fun _ => []) (fun k => k ≤ l.length) (fun k => l.length - k) 0 (Nat.zero_le _) env_w rfl ?_
  intro k hk
  have hk : k ≤ l.length := hk
  by_cases hk2 : k < l.length
  · refine xw1 ?_
    intros
    exact nxt (k + 1) (show k + 1 ≤ l.length by omega) (by omega) env_w rfl
  · exact xw0
theorem same_prm {G : Glo} (q : Pr) (hq : q.vs.length ≤ 20000) : FnIs Tryz.prog G 31 [.agg [.str q.n, .list 1 q.vs.length (strsF q.vs)], .agg [.str q.n, .list 1 q.vs.length (strsF q.vs)]] (.bool true) := by
  have h1 := strl_Equal (G := G) q.vs hq
  have hGL : GloAll G [] := gloAll_nil
  refine fn_x Tryz.func31 Tryz.call31 rfl rfl rfl rfl hGL ?_
  intro C hC
  exact xw0
theorem prms_EqualFunc {G : Glo} (L : List Pr) (hn : L.length ≤ 20) (hk : ∀ q ∈ L, q.vs.length ≤ 20000) : FnIs Tryz.prog G 30 [.list 2 L.length (prF L), .list 2 L.length (prF L), .func (.func 31) [] []] (.bool true) := by
  have hGL : GloAll G [] := gloAll_nil
  refine fn_x Tryz.func30 Tryz.call30 rfl rfl rfl rfl hGL ?_
  intro C hC
  refine xw1 ?_
  intros
  refine lp hC hGL (fun (k : Nat) => [(1, .list 2 L.length (prF L)), (2, .func (.func 31) [] []), (15, .list 2 L.length (prF L)), (16, .int .i64 (L.length : Nat)), (17, .int .i64 (k : Nat))]) (fun _ => []) (fun k => k ≤ L.length) (fun k => L.length - k) 0 (Nat.zero_le _) env_w rfl ?_
  intro k hkl
  have hkl : k ≤ L.length := hkl
  by_cases hk2 : k < L.length
  · have h1 := same_prm (G := G) (L.getD k Pr.z) (hk _ (by rw [List.getD_eq_getElem?_getD, List.getElem?_eq_getElem hk2]; exact List.getElem_mem hk2))
    have hcl := Tryz.call31
    refine xw1 ?_
    intros
    exact nxs (k + 1) (show k + 1 ≤ L.length by omega) (by omega) env_w (List.nil_sublist _)
  · exact xw0
theorem same_prop {G : Glo} (l : Ln) (hn : l.ps.length ≤ 20) (hk : ∀ q ∈ l.ps, q.vs.length ≤ 20000) : FnIs Tryz.prog G 7 [l.A, l.A] (.bool true) := by
  have h1 := prms_EqualFunc (G := G) l.ps hn hk
  have hGL : GloAll G [] := gloAll_nil
  refine fn_x Tryz.func7 Tryz.call7 rfl rfl rfl rfl hGL ?_
  intro C hC
  exact xw0
theorem law_LineParses {G : Glo} {m : Int} (hE : GloAll G errTy) (hU : GloAll G utfTy) (hM : GloAll G (maxTy m)) (s : List UInt8) (cr : Bool) (hl : s.length ≤ 9223372036854775807) : FnIs Tryz.prog G 3 [.str s, .bool cr] (.bool true) := by
  have h6 := placed_ok (G := G) hE (lpE cr s)
  have hc1 := Tryz.call6
  have hc2 := Tryz.call7
  by_cases hs : s.length ≤ 2000
  · have h1 := ref_LineParse (G := G) hU hM s cr (by omega)
    have h2 := line_Parse (G := G) s cr (by omega)
    have hb := lpL_bnd cr s
    have h3 := same_prop (G := G) (lpL cr s) hb.1 (fun q hq => by have := hb.2 q hq; omega)
    generalize lpL cr s = l at *
    rcases hq : lpE cr s with _ | e | ⟨e, p⟩
    all_goals
      rw [hq] at h6 h1 h2
      simp only [Err.A, Err.e, Err.p, errA] at h6 h1 h2
      have hGL : GloAll G [] := gloAll_nil
      refine fn_x Tryz.func3 Tryz.call3 rfl rfl rfl rfl hGL ?_
      intro C hC
      exact xw0
  · have hGL : GloAll G [] := gloAll_nil
    refine fn_x Tryz.func3 Tryz.call3 rfl rfl rfl rfl hGL ?_
    intro C hC
    exact xw0
end Go.Proofs.YtkmpcdlmeiophaaGreatDoor
namespace Go.Proofs.YtkmpcdlmeiophaaGreatDoor
open Go
theorem Tryz.own : ownKnob Tryz.prog.godebug = none := by kernel_rfl
/-- All blocks below, sealed as they stand. -/
def sealBelow (W : World) (k : Nat) : Seal := fun b => if b < k then W.heap[b]? else none
theorem sealBelow_ok (W : World) (k : Nat) : Sealed (sealBelow W k) W := by
  intro b o h
  unfold sealBelow at h
  split at h
  · exact h
  · cases h
theorem ms_start (W : World) (R : Seal) (G : Glo) (hG : G.p R) (hs : Sealed R W) : MS ⟨W, R, blks [], G, hG, []⟩ R [] W :=
  ⟨hs, Seal.le_refl R, fun _ hb => .inl hb, ⟨fun _ h => absurd h List.not_mem_nil, List.nodup_nil, fun _ h => absurd h List.not_mem_nil⟩, fun _ h => absurd h List.not_mem_nil, Ext.refl W _⟩
theorem keptBut_of_ext {W W' : World} (h : Ext W [] W') (may : MemPlace → Prop) : W.keptBut W' may := by
  refine ⟨h.os, h.output, fun i hi => ?_⟩
  rw [h.block i hi (by simp)]
  generalize W.heap[i]? = o
  cases o with
  | none => rfl
  | some o =>
    cases o with
    | cells c t fr => exact ⟨rfl, rfl, rfl, fun _ _ => rfl⟩
    | map es clock => exact .inr ⟨rfl, rfl⟩
    | _ => rfl
theorem law_end {P : Program} {G : Glo} {f : FuncId} {avs : List AVal} {c : Bool} {args : Array Value} {W : World} {R : Seal} (hs : FnIs P G f avs (.bool c)) (hc : (callFunc f args).run P W = .ok (.enter f args) W)
    (hG : G.p R) (hR : Sealed R W) (ha : RelV R avs args.toList) : Calls P f args W fun e W' => e = .returned (.bool c) ∧ ∀ may, W.keptBut W' may := by
  rcases hs R W args hG (ms_start W R G hG hR) ha with ⟨_, h⟩ | ⟨v, w', h, _⟩
  · refine h.mono fun e W' ⟨res, H', R', ⟨hr, hH⟩, he, hm⟩ => ?_
    subst hr
    obtain ⟨x, rfl, hx⟩ := he
    refine ⟨by rw [rel_bool.1 hx], fun may => keptBut_of_ext hm.ext may⟩
  · rw [hc] at h
    cases h
theorem len_of_size {x : ByteArray} (h : x.size ≤ maxLen) : x.data.toList.length ≤ 9223372036854775807 := by
  have : x.data.toList.length = x.size := by cases x; rfl
  rw [this]
  exact h
end Go.Proofs.YtkmpcdlmeiophaaGreatDoor
