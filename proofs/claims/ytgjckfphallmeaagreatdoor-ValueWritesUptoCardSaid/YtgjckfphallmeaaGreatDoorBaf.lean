/- Parts of the proof of valueWrites_card: Exd, Uf, Ug, Lan, Esn, Tja, Vla, Wk, Dc, Rf, Vlb, Eqa, Vlc, Mak. -/
import Derived.OrdersHeld
import Derived.Lib.Builder
import Derived.Lib.UnsafeStr
import Derived.Scope
import Derived.Lib.IndexAny
import GoSem.PinnedTables
import Derived.Laws.StructEq
import Derived.Laws.MakeOwn
import Derived.Test.YtgjckfphallmeaaGreatDoorBad
import Derived.Test.YtgjckfphallmeaaGreatDoorBae
namespace Go.Proofs.YtgjckfphallmeaaGreatDoor
open Go
set_option linter.unusedSimpArgs false
set_option linter.unusedSectionVars false
set_option linter.unusedVariables false
/-- Which operation comes up next: one that may be taken first, or any of several. -/
inductive DPlan
  | done
  | take (i : Nat) (p : DPlan)
  | br (i : Nat) (p q : DPlan)
  | nil
def planB (ops : Array Oper) : DPlan → Nat → Array Bool → List Nat → Bool
  | .done, _, l, acc => acc.isEmpty && (Region.ready .any ops l).isEmpty
  | .take _ _, 0, _, _ => false
  | .take i p, k + 1, l, acc => acc.isEmpty && (Region.free .any ops l i && ((Region.ready .any ops l).contains i && planB ops p k (l.setIfInBounds i true) []))
  | .br _ _ _, 0, _, _ => false
  | .br i p q, k + 1, l, acc => planB ops p k (l.setIfInBounds i true) [] && planB ops q (k + 1) l (acc ++ [i])
  | .nil, _, l, acc => !acc.isEmpty && decide (Region.ready .any ops l = acc)
structure Both (a b : Prop) : Prop where
  l : a
  r : b
theorem bt_i {a b : Prop} (h : a) (k : b) : Both a b := ⟨h, k⟩
/-- Nothing serves here. -/
inductive Stk (ops : Array Oper) (i : Nat) (env : Env) (H : Heap) : Prop
/-- An operation's end: what stood stands. -/
inductive Og (kf : Bool) (H h : Heap) (k : Prop) : Prop
  | all (X : Heap) (e : h = H ++ X) (h : k)
  | none (e : kf = false) (h : k)
theorem og_n {H h : Heap} {k : Prop} (hk : k) : Og false H h k := .none rfl hk
theorem og_a {H h : Heap} {k : Prop} (X : Heap) (e : h = H ++ X) (hk : k) : Og true H h k := .all X e hk
/-- The end of a region. -/
inductive Fie {X : Type} (I : X → Env) (J : X → Heap) (e : Env) (h : Heap) : Prop
  | mk (x : X) (hs : Env.sub e (I x)) (hj : h = J x)
section
/-- Whatever the call began with. -/
structure Bc (G : Glo) (k : Ctx → Prop) : Prop where
  h : ∀ C : Ctx, C.G = G → k C
theorem bc_i {G : Glo} {k : Ctx → Prop} (h : ∀ C : Ctx, C.G = G → k C) : Bc G k := ⟨h⟩
variable (P : Program) [Tab P] (n : Nat) (G : Glo) (GL : List (Nat × List AVal))
def hk (kf : Bool) (H : Heap) : Heap := match kf with
  | true => H
  | false => []
def takeX (kf : Bool) (ops : Array Oper) (i : Nat) (ih : Env → Heap → Prop) (env : Env) (H : Heap) : Prop :=
  match ops[i]? with
  | some o => guardX ops env o.guard (Stk ops i env H)
    (fun env' => match o.dst with
      | some d => match Nat.ble (d + 1) n with
        | true => fixX P GL (hk kf H) env' o.op (Stk ops i env' H) fun av => ih ((d, av) :: env') H
        | false => Stk ops i env' H
      | none => Stk ops i env' H)
    (fun env' => match o.dst with
      | some d => match Nat.ble (d + 1) n with
        | true => ih ((d, .raw undef) :: env') H
        | false => Stk ops i env' H
      | none => ih env' H)
  | none => Stk ops i env H
def brX (kf : Bool) (ops : Array Oper) (i : Nat) (ih : Env → Heap → Prop) (env : Env) (H : Heap) : Prop :=
  match ops[i]? with
  | some o => Bc G fun C => opsX P C n G GL ops (fun x e h => match x with
    | .normal => Og kf H h (ih e h)
    | _ => False) [o] env H
  | none => Stk ops i env H
noncomputable def dpX (kf : Bool) (ops : Array Oper) (Q : Env → Heap → Prop) (p : DPlan) : Env → Heap → Prop :=
  DPlan.rec (motive := fun _ => Env → Heap → Prop) Q (fun i _ ih => takeX P n GL kf ops i ih) (fun i _ _ ihp ihq env H => Both (brX P n G GL kf ops i ihp env H) (ihq env H)) (fun _ _ => True) p
end
theorem wpAnyH_S {P : Program} {ops : Array Oper} {Q : Exit → Act → World → Prop} {md : Region.Mode} {S S' : World → Prop} (h : ∀ w, S' w → S w) : ∀ (fuel : Nat) (listed : Array Bool) (a : Act) (w : World), wpAnyH P md ops Q S' fuel listed a w → wpAnyH P md ops Q S fuel listed a w
  | 0, _, _, _, k => k
  | fuel + 1, _, _, _, k => ⟨k.1, fun i hi => wpOp_mono (fun a' w' k' => ⟨h _ k'.1, wpAnyH_S h fuel _ a' w' k'.2⟩) (k.2 i hi)⟩
def reCtx (C : Ctx) (R : Seal) (hR : C.R0.le R) : Ctx := ⟨C.w0, R, C.B0, C.G, C.G.mono _ _ hR C.hG, C.D⟩
theorem MS.re {C : Ctx} {R : Seal} {H : Heap} {w : World} (h : MS C R H w) : MS (reCtx C R h.ge) R H w :=
  ⟨h.sealed, Seal.le_refl R, fun b hb => .inl hb, h.heap, h.own, h.ext⟩
theorem MS.back {C : Ctx} {R R' : Seal} {H H' : Heap} {w w' : World} (h : MS C R H w) (k : MS (reCtx C R h.ge) R' H' w') : MS C R' H' w' :=
  ⟨k.sealed, Seal.le_trans h.ge k.ge, fun b hb => (k.fresh b hb).elim (h.fresh b) .inr, k.heap, k.own, k.ext⟩
section
variable {P : Program} [Tab P] {n : Nat} {env : Env} {H : Heap} {ops : Array Oper} {G : Glo} {GL : List (Nat × List AVal)} {kf : Bool}
/-- What is asked of the world through a region. -/
def DS (C : Ctx) (kf : Bool) (R : Seal) (H : Heap) (w : World) : Prop := ∃ R' X, R.le R' ∧ MS C R' (hk kf H ++ X) w
theorem ds_of {C : Ctx} {R : Seal} {w : World} (h : MS C R H w) : DS C kf R H w := by
  cases kf with
  | true => exact ⟨R, [], Seal.le_refl R, by simpa [hk] using h⟩
  | false => exact ⟨R, H, Seal.le_refl R, by simpa [hk] using h⟩
def QN (Q : Env → Heap → Prop) : AExit → Env → Heap → Prop := fun x e h => x = .normal ∧ Q e h
theorem qn_panic {C : Ctx} {Q : Env → Heap → Prop} {ex : Exit} {a : Act} {w : World} (hx : ex ≠ .normal) : ¬ Post C n (QN Q) ex a w := by
  rintro ⟨x, e, h, R, ⟨rfl, _⟩, hr, _⟩
  exact hx hr
def DA (P : Program) (G : Glo) (n : Nat) (ops : Array Oper) (kf : Bool) (Q : Env → Heap → Prop) (fuel : Nat) (listed : Array Bool) (env : Env) (H : Heap) : Prop :=
  ∀ C : Ctx, C.G = G → ∀ R a w, MS C R H w → FS C.D n R env a → wpAnyH P .any ops (Post C n (QN Q)) (DS C kf R H) fuel listed a w
variable {Q : Env → Heap → Prop} {fuel : Nat} {listed : Array Bool} {i : Nat} {o : Oper} {av : AVal}
theorem da_yield {env' : Env} {C : Ctx} (hC : C.G = G) {R : Seal} {a : Act} {w : World} (hm : MS C R H w) (hns : Region.noSelect ops = true) (hi : ops[i]? = some o) (hf : Region.free .any ops listed i = true) (hr : (Region.ready .any ops listed).contains i = true)
    (hy : ∃ x, YieldsIf P ops (DS C kf R H) o x a ∧ FS C.D n R env' (a.put o.dst x)) (h : DA P G n ops kf Q fuel (listed.setIfInBounds i true) env' H) : wpAnyH P .any ops (Post C n (QN Q)) (DS C kf R H) (fuel + 1) listed a w := by
  obtain ⟨x, h1, h2⟩ := hy
  exact wpAnyH_take hi hns hf hr (fun c a w hp => absurd hp (qn_panic (by simp))) h1 (ds_of hm) (h C hC R _ w hm h2)
theorem da_env {env' : Env} (hs : ∀ {D : List Deferred} R a, FS D n R env a → FS D n R env' a) (h : DA P G n ops kf Q fuel listed env' H) : DA P G n ops kf Q fuel listed env H := fun C hC R a w hm hf => h C hC R a w hm (hs R a hf)
theorem da_split {b : Bool} {d : Nat} (hv : Env.get env d = some (.bool b))
    (ht : b = true → DA P G n ops kf Q fuel listed ((d, .bool true) :: env) H) (hf : b = false → DA P G n ops kf Q fuel listed ((d, .bool false) :: env) H) : DA P G n ops kf Q fuel listed env H := by
  have key : ∀ x, b = x → ∀ {D : List Deferred} R a, FS D n R env a → FS D n R ((d, .bool x) :: env) a := by
    rintro x rfl D R a hfr
    refine ⟨fun k v hk => ?_, hfr.size, hfr.defers⟩
    simp only [Env.get] at hk
    cases hb : Nat.beq d k with
    | true =>
      rw [hb] at hk
      have := Nat.eq_of_beq_eq_true hb
      subst this
      simp only [Option.some.injEq] at hk
      subst hk
      exact hfr.fr d _ hv
    | false => rw [hb] at hk; exact hfr.fr k v hk
  cases hb : b with
  | true => exact da_env (key true hb) (ht hb)
  | false => exact da_env (key false hb) (hf hb)
theorem guardSlot_unwanted {D : List Deferred} {R : Seal} {a : Act} {e : Nat} (hs : guardSlot ops o.guard = some e) (hv : Env.get env e = some (.raw undef)) (hf : FS D n R env a) : Region.wanted o (yielded ops a.tmps) = false := by
  unfold guardSlot at hs
  unfold Region.wanted
  split at hs
  · rename_i j want h
    rw [h]
    split at hs
    · rename_i o' ho
      obtain ⟨x, hx, hr⟩ := hf.fr e _ hv
      rw [rel_raw.1 hr] at hx
      simp [yielded, ho, hs, hx, undef]
    · cases hs
  · cases hs
theorem take_ok (hGL : GloAll G GL) (hns : Region.noSelect ops = true) (hf : Region.free .any ops listed i = true) (hr : (Region.ready .any ops listed).contains i = true) {ih : Env → Heap → Prop}
    (hih : ∀ env H, ih env H → DA P G n ops kf Q fuel (listed.setIfInBounds i true) env H) (h : takeX P n GL kf ops i ih env H) : DA P G n ops kf Q (fuel + 1) listed env H := by
  unfold takeX at h
  split at h
  case h_2 => cases h
  rename_i o ho
  have run : ∀ env' b, guardA ops env' o.guard = some (b, b) → (match o.dst with
      | some d => match Nat.ble (d + 1) n with
        | true => fixX P GL (hk kf H) env' o.op (Stk ops i env' H) fun av => ih ((d, av) :: env') H
        | false => Stk ops i env' H
      | none => Stk ops i env' H) → DA P G n ops kf Q (fuel + 1) listed env' H := by
    intro env' b hg h
    split at h
    · rename_i d hd
      split at h
      · rename_i hdn
        intro C hC R a w hm hfs
        rcases fixX_ok (C := C) (GL := GL) (by rw [hC]; exact hGL) h with h | ⟨av, h1, h2⟩
        · cases h
        · refine da_yield (env' := (d, av) :: env') hC hm hns ho hf hr ?_ (hih _ _ h2)
          obtain ⟨x, hx, hrun⟩ := h1 R a.eval (fun x a hx => hfs.eval hx)
          refine ⟨x, .inl ⟨by rw [wanted_of hfs hg]; simp, ?_⟩, by rw [hd]; exact hfs.put hdn hx⟩
          rintro w' ⟨R', X, hle, hms⟩
          exact hrun R' w' hle (hms.drop (List.sublist_append_left _ _)) o.dst o.type o.pos o.after o.guard
      · cases h
    · cases h
  have skip : ∀ env', (∀ {D : List Deferred} R a, FS D n R env' a → Region.wanted o (yielded ops a.tmps) = false) → (match o.dst with
      | some d => match Nat.ble (d + 1) n with
        | true => ih ((d, .raw undef) :: env') H
        | false => Stk ops i env' H
      | none => ih env' H) → DA P G n ops kf Q (fuel + 1) listed env' H := by
    intro env' hw h
    split at h
    · rename_i d hd
      split at h
      · rename_i hdn
        intro C hC R a w hm hfs
        refine da_yield (env' := (d, .raw undef) :: env') hC hm hns ho hf hr ⟨undef, .inr ⟨hw R a hfs, rfl⟩, ?_⟩ (hih _ _ h)
        rw [hd]
        exact hfs.put hdn (rel_raw.2 rfl)
      · cases h
    · rename_i hd
      intro C hC R a w hm hfs
      refine da_yield (env' := env') hC hm hns ho hf hr ⟨undef, .inr ⟨hw R a hfs, rfl⟩, ?_⟩ (hih _ _ h)
      rw [hd]
      exact hfs
  unfold guardX at h
  split at h
  · rename_i hgn
    exact run env true (by rw [hgn]; rfl) h
  · rename_i j want hgn
    split at h
    case h_2 => cases h
    rename_i o' ho'
    split at h
    case h_2 => cases h
    rename_i e he
    split at h
    · rename_i b hb
      have hgT : ∀ v, guardA ops ((e, .bool v) :: env) o.guard = some (v, want) := fun v => by rw [hgn]; exact guard_const ho' he
      split at h
      · refine da_split hb (fun hv => ?_) (fun hv => ?_)
        · exact run _ true (hgT true) (h.1 hv)
        · exact skip _ (fun R a hfs => by rw [wanted_of hfs (hgT false)]; rfl) (h.2 hv)
      · refine da_split hb (fun hv => ?_) (fun hv => ?_)
        · exact skip _ (fun R a hfs => by rw [wanted_of hfs (hgT true)]; rfl) (h.1 hv)
        · exact run _ false (hgT false) (h.2 hv)
    · rename_i v hv
      have hgS : guardSlot ops o.guard = some e := by rw [hgn]; simp only [guardSlot, ho', he]
      obtain ⟨rfl, h⟩ := h
      exact skip _ (fun R a hfs => guardSlot_unwanted hgS hv hfs) h
    · cases h
theorem wpOp_of_list {QP : Exit → Act → World → Prop} {K : Act → World → Prop} {Q' : Exit → Act → World → Prop} {a : Act} {w : World} (hi : ops[i]? = some o) (hp : ∀ ex a w, ex ≠ .normal → ¬ Q' ex a w) (hK : ∀ a w, Q' .normal a w → K a w)
    (h : wpList P ops Q' [o] a w) : wpOp P ops QP i K a w := by
  unfold wpOp
  rw [hi]
  simp only [wpList] at h
  dsimp only
  split at h
  · rename_i hw
    rw [if_pos hw]
    rcases h with h | ⟨_, a, w, h⟩
    · refine .inl ?_
      unfold Oper.wp at h ⊢
      generalize (execOp a.eval o).run P w = r at h ⊢
      cases r with
      | ok n w' =>
        cases n <;> simp only [Oper.upon] at h ⊢
        case value u => exact hK _ _ h
        case skip => exact hK _ _ h
        case defer d => exact hK _ _ h
        case enter f args =>
          refine Calls.mono h fun e w'' he => ?_
          cases e with
          | returned u => exact hK _ _ he
          | panicked c => exact absurd he (hp _ _ _ (by simp))
          | outgrown => obtain ⟨a, w, he⟩ := he; exact absurd he (hp _ _ _ (by simp))
        case row row args => exact Rows.mono h fun u w'' he => hK _ _ he
      | halt x w' =>
        cases x <;> simp only [Oper.upon] at h ⊢
        case panic u => exact absurd h (hp _ _ _ (by simp))
    · exact absurd h (hp _ _ _ (by simp))
  · rename_i hw
    rw [if_neg hw]
    exact hK _ _ h
theorem br_ok (hGL : GloAll G GL) {ih : Env → Heap → Prop} (hih : ∀ env H, ih env H → DA P G n ops kf Q fuel (listed.setIfInBounds i true) env H)
    {C : Ctx} (hC : C.G = G) (h : brX P n G GL kf ops i ih env H) {R : Seal} {a : Act} {w : World} (hm : MS C R H w) (hfs : FS C.D n R env a) :
    wpOp P ops (Post C n (QN Q)) i (fun a' w' => DS C kf R H w' ∧ wpAnyH P .any ops (Post C n (QN Q)) (DS C kf R H) fuel (listed.setIfInBounds i true) a' w') a w := by
  unfold brX at h
  split at h
  case h_2 => cases h
  rename_i o ho
  have h1 := opsX_ok (C := reCtx C R hm.ge) (show (reCtx C R hm.ge).G = G from hC) hGL _ _ _ (h.h _ hC) R a w hm.re hfs
  refine wpOp_of_list ho ?_ ?_ h1
  · rintro ex a w hx ⟨x, e, h, R, hq, hr, _⟩
    cases x with
    | normal => exact hx hr
    | _ => exact hq.elim
  · rintro a' w' ⟨x, e, h', R', hq, _, hm', hf'⟩
    have hle : R.le R' := hm'.ge
    have hm2 := hm.back hm'
    have step : (∃ X, hk kf h' = hk kf H ++ X) → ih e h' → DS C kf R H w' ∧ wpAnyH P .any ops (Post C n (QN Q)) (DS C kf R H) fuel (listed.setIfInBounds i true) a' w' := by
      rintro ⟨X, hX⟩ k
      have sub : ∀ w, DS C kf R' h' w → DS C kf R H w := by
        rintro w ⟨R2, X2, hle2, hms⟩
        rw [hX, List.append_assoc] at hms
        exact ⟨R2, X ++ X2, Seal.le_trans hle hle2, hms⟩
      exact ⟨sub _ (ds_of hm2), wpAnyH_S sub _ _ _ _ (hih _ _ k C hC R' a' w' hm2 hf')⟩
    cases x with
    | normal =>
      cases hq with
      | all X e k =>
        refine step ?_ k
        subst e
        cases kf
        · exact ⟨[], rfl⟩
        · exact ⟨X, rfl⟩
      | none e k => subst e; exact step ⟨[], rfl⟩ k
    | _ => exact hq.elim
/-- The plan, sound. -/
theorem dp_ok (hGL : GloAll G GL) (hns : Region.noSelect ops = true) : ∀ (p : DPlan) (fuel : Nat) (listed : Array Bool) (acc : List Nat) (env : Env) (H : Heap), planB ops p fuel listed acc = true → dpX P n G GL kf ops Q p env H →
    (acc = [] → DA P G n ops kf Q fuel listed env H) ∧ (acc ≠ [] → ∀ C : Ctx, C.G = G → ∀ R a w, MS C R H w → FS C.D n R env a → ∃ f, (∀ k, fuel = k + 1 → f = k) ∧ Region.ready .any ops listed ≠ [] ∧
      ∀ i ∈ Region.ready .any ops listed, i ∈ acc ∨ wpOp P ops (Post C n (QN Q)) i (fun a' w' => DS C kf R H w' ∧ wpAnyH P .any ops (Post C n (QN Q)) (DS C kf R H) f (listed.setIfInBounds i true) a' w') a w) := by
  intro p
  induction p with
  | done =>
    intro fuel listed acc env H hp h
    simp only [planB, Bool.and_eq_true, List.isEmpty_iff] at hp
    refine ⟨fun _ C hC R a w hm hfs => wpAnyH_done hp.2 ⟨.normal, env, H, R, ⟨rfl, h⟩, rfl, hm, hfs⟩ fuel, fun ha => absurd hp.1 ha⟩
  | take i p ih =>
    intro fuel listed acc env H hp h
    cases fuel with
    | zero => simp [planB] at hp
    | succ fuel =>
      simp only [planB, Bool.and_eq_true, List.isEmpty_iff] at hp
      obtain ⟨h1, h2, h3, h4⟩ := hp
      exact ⟨fun _ => take_ok hGL hns h2 h3 (fun env H k => (ih fuel _ [] env H h4 k).1 rfl) h, fun ha => absurd h1 ha⟩
  | br i p q ihp ihq =>
    intro fuel listed acc env H hp h
    cases fuel with
    | zero => simp [planB] at hp
    | succ fuel =>
      simp only [planB, Bool.and_eq_true] at hp
      obtain ⟨hl, hr⟩ : Both (brX P n G GL kf ops i (dpX P n G GL kf ops Q p) env H) (dpX P n G GL kf ops Q q env H) := h
      have hq := (ihq (fuel + 1) listed (acc ++ [i]) env H hp.2 hr).2 (by simp)
      have key : ∀ C : Ctx, C.G = G → ∀ R a w, MS C R H w → FS C.D n R env a → Region.ready .any ops listed ≠ [] ∧
          ∀ j ∈ Region.ready .any ops listed, j ∈ acc ∨ wpOp P ops (Post C n (QN Q)) j (fun a' w' => DS C kf R H w' ∧ wpAnyH P .any ops (Post C n (QN Q)) (DS C kf R H) fuel (listed.setIfInBounds j true) a' w') a w := by
        intro C hC R a w hm hfs
        obtain ⟨f, hf, hne, hall⟩ := hq C hC R a w hm hfs
        obtain rfl := hf fuel rfl
        refine ⟨hne, fun j hj => ?_⟩
        rcases hall j hj with hj' | hj'
        · rcases List.mem_append.1 hj' with hj' | hj'
          · exact .inl hj'
          · rw [List.mem_singleton] at hj'
            subst hj'
            exact .inr (br_ok hGL (fun env H k => (ihp f _ [] env H hp.1 k).1 rfl) hC hl hm hfs)
        · exact .inr hj'
      refine ⟨fun ha C hC R a w hm hfs => ?_, fun _ C hC R a w hm hfs => ⟨fuel, fun k hk => by omega, key C hC R a w hm hfs⟩⟩
      obtain ⟨hne, hall⟩ := key C hC R a w hm hfs
      refine wpAnyH_all rfl hne fun j hj => ?_
      rcases hall j hj with hj' | hj'
      · rw [ha] at hj'; cases hj'
      · exact hj'
  | nil =>
    intro fuel listed acc env H hp h
    simp only [planB, Bool.and_eq_true, Bool.not_eq_true', List.isEmpty_eq_false_iff, decide_eq_true_eq] at hp
    obtain ⟨h1, h2⟩ := hp
    refine ⟨fun ha => absurd ha h1, fun _ C hC R a w hm hfs => ⟨fuel - 1, fun k hk => by omega, by rw [h2]; exact h1, fun i hi => .inl (by rw [h2] at hi; exact hi)⟩⟩
/-- A region that draws, by a plan; what holds behind it, whatever the order. -/
theorem dw_p {X : Type} {C : Ctx} {id : Nat} {QQ : AExit → Env → Heap → Prop} (hm : P.follows .mixedOrders = true) (hC : C.G = G) (hGL : GloAll G GL) (kf : Bool) (I : X → Env) (J : X → Heap) (plan : DPlan)
    (hB : (Region.noSelect ops && planB ops plan ops.size (Array.replicate ops.size false) []) = true) (h : dpX P n G GL kf ops (Fie I J) plan env H) (k : ∀ x, QQ .normal (I x) (J x)) : Dw P C n id ops env H QQ := by
  simp only [Bool.and_eq_true] at hB
  have hd := (dp_ok hGL hB.1 plan _ _ [] env H hB.2 h).1 rfl
  refine ⟨fun R a w hms hfs => ?_⟩
  refine wp_mono (wp_region_held (S := DS C kf R H) hm (hd C hC R a _ (hms.drawn _) hfs)) ?_
  rintro ex a w ⟨x, e, h, R, ⟨rfl, ⟨x0, hs, hj⟩⟩, hr, hm', hf'⟩
  subst hj
  exact ⟨.normal, I x0, J x0, R, k x0, hr, hm', hf'.sub hs⟩
end
end Go.Proofs.YtgjckfphallmeaaGreatDoor
namespace Go.Proofs.YtgjckfphallmeaaGreatDoor
open Go
set_option maxRecDepth 20000
set_option maxHeartbeats 4000000
set_option linter.unusedSimpArgs false
set_option linter.unusedVariables false
attribute [local irreducible] AWp AOps byteAt SrcOK OrOk GloAll FnSpec
attribute [local irreducible] nextS badI badS stepS rngR ownB
def mayZ (r : Int) : Bool := decide (0 ≤ r ∧ r ≤ 1114111 ∧ (r < 55296 ∨ 57343 < r))
theorem mayZ_t {r : Int} : mayZ r = true ↔ (0 ≤ r ∧ r ≤ 1114111 ∧ (r < 55296 ∨ 57343 < r)) := by simp [mayZ]
theorem mayZ_f {r : Int} : mayZ r = false ↔ ¬ (0 ≤ r ∧ r ≤ 1114111 ∧ (r < 55296 ∨ 57343 < r)) := by simp [mayZ]
attribute [local irreducible] mayZ
theorem utf_May {G : Glo} (r : Int) : FnIs Tryz.prog G 73 [.int .i64 r] (.bool (mayZ r)) := by
  have hGL : GloAll G [] := gloAll_nil
  refine fn_x Tryz.func73 Tryz.call73 rfl rfl rfl rfl hGL ?_
  intro C hC
  repeat' (first
    | (conv => whnf); first
      | refine .w ?_ | refine .v ?_ | apply sc_true | apply sc_false
      | (first | apply sc_lt | apply sc_nlt | apply sc_eq | apply sc_neq | apply sc_nil | apply sc_nnil | apply sc_seq | apply sc_nseq) <;> (intro hb; try exact dd hb)
      | apply sc_not | apply sc_or | (apply sc_i <;> intro hb)
      | (apply bx_i; intro hbd) | (apply gt_i; assumption; exact rfl)
      | (apply cx_is; first | fail) | (apply cx_do (i := 0) rfl; first | fail)
      | (apply ab_i; intro bl) | (apply as_i; intro va vk vc hva) | (apply av_i; intro v) | (apply ac_i; intro bl cap hcap)
      | apply bo_l | (apply nx_i <;> intro hnx) | (apply Ia.hit; assumption) | (apply Ia.miss; assumption)
      | (apply rt_is; exact rfl) | exact rt_w | (apply iv; assumption)
      | apply dw_q mixed hC hGL (by kernel_rfl) | (apply cq; assumption; (first | fail); exact rfl))
  all_goals (try conv => whnf)
  all_goals (apply rt_is)
  all_goals (refine congrArg AVal.bool ?_)
  all_goals (rw [Bool.eq_iff_iff]; simp [mayZ_t, ltB_t, ltB_f, Bool.not_eq_true'] <;> omega)
theorem tup2 {k j : IntKind} {a b c e : Int} {H' : Heap} (h : c = a ∧ e = b) : Rt (fun (x : ARes) (H : Heap) => x = .ret (.tuple [.int k c, .int j e]) ∧ H = []) (.tuple [.int k a, .int j b]) H' := by
  obtain ⟨rfl, rfl⟩ := h
  exact rt_is rfl
theorem utf_Next {G : Glo} (s : List UInt8) : FnIs Tryz.prog G 55 [.str s] (.tuple [.int .i64 ((nextS s).1 : Int), .int .i64 ((nextS s).2 : Int)]) := by
  have hGL : GloAll G [] := gloAll_nil
  refine fn_x Tryz.func55 Tryz.call55 rfl rfl rfl rfl hGL ?_
  intro C hC
  repeat' (first
    | (conv => whnf); first
      | refine .w ?_ | refine .v ?_ | apply sc_true | apply sc_false
      | (first | apply sc_lt | apply sc_nlt | apply sc_eq | apply sc_neq | apply sc_nil | apply sc_nnil | apply sc_seq | apply sc_nseq) <;> (intro hb; try exact dd hb)
      | apply sc_not | apply sc_or | (apply sc_i <;> intro hb)
      | (apply bx_i; intro hbd) | (apply gt_i; assumption; exact rfl)
      | (apply cx_is; first | exact utf_May _) | (apply cx_do (i := 0) rfl; first | exact utf_May _)
      | (apply ab_i; intro bl) | (apply as_i; intro va vk vc hva) | (apply av_i; intro v) | (apply ac_i; intro bl cap hcap)
      | apply bo_l | (apply nx_i <;> intro hnx) | (apply Ia.hit; assumption) | (apply Ia.miss; assumption)
      | (apply rt_is; exact rfl) | exact rt_w | (apply iv; assumption)
      | apply dw_q mixed hC hGL (by kernel_rfl) | (apply cq; assumption; (first | exact utf_May _); exact rfl))
  all_goals (try conv => whnf)
  any_goals (refine rds hC hGL 4 ?_)
  repeat' (first
    | (conv => whnf); first
      | refine .w ?_ | refine .v ?_ | apply sc_true | apply sc_false
      | (first | apply sc_lt | apply sc_nlt | apply sc_eq | apply sc_neq | apply sc_nil | apply sc_nnil | apply sc_seq | apply sc_nseq) <;> (intro hb; try exact dd hb)
      | apply sc_not | apply sc_or | (apply sc_i <;> intro hb)
      | (apply bx_i; intro hbd) | (apply gt_i; assumption; exact rfl)
      | (apply cx_is; first | exact utf_May _) | (apply cx_do (i := 0) rfl; first | exact utf_May _)
      | (apply ab_i; intro bl) | (apply as_i; intro va vk vc hva) | (apply av_i; intro v) | (apply ac_i; intro bl cap hcap)
      | apply bo_l | (apply nx_i <;> intro hnx) | (apply Ia.hit; assumption) | (apply Ia.miss; assumption)
      | (apply rt_is; exact rfl) | exact rt_w | (apply iv; assumption)
      | apply dw_q mixed hC hGL (by kernel_rfl) | (apply cq; assumption; (first | exact utf_May _); exact rfl))
  all_goals (try conv => whnf)
  all_goals (refine tup2 ?_)
  all_goals (
    try simp only [show Int.toNat 0 = 0 from rfl, show Int.toNat 1 = 1 from rfl, show Int.toNat (1 + 1) = 2 from rfl, show Int.toNat (1 + 1 + 1) = 3 from rfl, Int.ofNat_toNat, mayZ_t, mayZ_f, ltB_t, ltB_f] at *
    generalize hz : nextS s = z
    unfold nextS contAt mayN cp2 cp3 cp4 at hz
    generalize byteAt s 0 = b0 at *
    generalize byteAt s 1 = b1 at *
    generalize byteAt s 2 = b2 at *
    generalize byteAt s 3 = b3 at *
    generalize s.length = l at *)
  all_goals (
    repeat' (split at hz; try (exfalso; omega))
    all_goals (try subst z)
    all_goals (first
      | exact ⟨rfl, rfl⟩
      | (simp only [Bool.and_eq_true, Bool.or_eq_true, decide_eq_true_eq, beq_iff_eq] at *; first | (exfalso; omega) | omega)))
end Go.Proofs.YtgjckfphallmeaaGreatDoor
namespace Go.Proofs.YtgjckfphallmeaaGreatDoor
open Go
set_option maxRecDepth 20000
set_option maxHeartbeats 4000000
set_option linter.unusedSimpArgs false
set_option linter.unusedVariables false
attribute [local irreducible] AWp AOps byteAt SrcOK OrOk GloAll FnSpec
attribute [local irreducible] nextS badI badS stepS rngR ownB
theorem utf_Bad {G : Glo} (s : List UInt8) (hl : s.length ≤ 9223372036854775807) : FnIs Tryz.prog G 27 [.str s] (.int .i64 (badI s)) := by
  have hGL : GloAll G [] := gloAll_nil
  refine fn_x Tryz.func27 Tryz.call27 rfl rfl rfl rfl hGL ?_
  intro C hC
  have hle := fun k => nextS_le (s.drop k)
  repeat' (first
    | (conv => whnf); first
      | refine .w ?_ | refine .v ?_ | apply sc_true | apply sc_false
      | (first | apply sc_lt | apply sc_nlt | apply sc_eq | apply sc_neq | apply sc_nil | apply sc_nnil | apply sc_seq | apply sc_nseq) <;> (intro hb; try exact dd hb)
      | apply sc_not | apply sc_or | (apply sc_i <;> intro hb)
      | (apply bx_i; intro hbd) | (apply gt_i; assumption; exact rfl)
      | (apply cx_is; first | exact utf_Next _) | (apply cx_do (i := 0) rfl; first | exact utf_Next _)
      | (apply ab_i; intro bl) | (apply as_i; intro va vk vc hva) | (apply av_i; intro v) | (apply ac_i; intro bl cap hcap)
      | apply bo_l | (apply nx_i <;> intro hnx) | (apply Ia.hit; assumption) | (apply Ia.miss; assumption)
      | (apply rt_is; exact rfl) | exact rt_w | (apply iv; assumption)
      | apply dw_q mixed hC hGL (by kernel_rfl) | (apply cq; assumption; (first | exact utf_Next _); exact rfl))
  all_goals (try conv => whnf)
  refine lp hC hGL (fun (i : Nat) => [(0, .str s), (3, .int .i64 i)]) (fun _ => []) (fun i => i ≤ s.length ∧ badS s = (badS (s.drop i)).map (· + i)) (fun i => s.length - i) 0 ?_ env_w rfl ?_
  · exact ⟨Nat.zero_le _, by simp⟩
  rintro i ⟨hi, hb0⟩
  have hn := hle i
  rw [List.length_drop] at hn
  repeat' (first
    | (conv => whnf); first
      | refine .w ?_ | refine .v ?_ | apply sc_true | apply sc_false
      | (first | apply sc_lt | apply sc_nlt | apply sc_eq | apply sc_neq | apply sc_nil | apply sc_nnil | apply sc_seq | apply sc_nseq) <;> (intro hb; try exact dd hb)
      | apply sc_not | apply sc_or | (apply sc_i <;> intro hb)
      | (apply bx_i; intro hbd) | (apply gt_i; assumption; exact rfl)
      | (apply cx_is; first | exact utf_Next _) | (apply cx_do (i := 0) rfl; first | exact utf_Next _)
      | (apply ab_i; intro bl) | (apply as_i; intro va vk vc hva) | (apply av_i; intro v) | (apply ac_i; intro bl cap hcap)
      | apply bo_l | (apply nx_i <;> intro hnx) | (apply Ia.hit; assumption) | (apply Ia.miss; assumption)
      | (apply rt_is; exact rfl) | exact rt_w | (apply iv; assumption)
      | apply dw_q mixed hC hGL (by kernel_rfl) | (apply cq; assumption; (first | exact utf_Next _); exact rfl))
  all_goals (try conv => whnf)
  · apply rt_is
    refine congrArg (AVal.int .i64) ?_
    have h1 := badS_step (s.drop i) (by rw [List.length_drop]; omega)
    rw [if_pos (by omega)] at h1
    rw [h1] at hb0
    simp only [badI, hb0, Option.map_some, Nat.zero_add]
  · have h1 := badS_step (s.drop i) (by rw [List.length_drop]; omega)
    rw [if_neg (by omega)] at h1
    refine nxt (i + (nextS (s.drop i)).2) ?_ ?_ env_w rfl
    · refine ⟨by omega, ?_⟩
      rw [hb0, h1, List.drop_drop]
      cases badS (s.drop (i + (nextS (s.drop i)).2)) <;> simp <;> omega
    · omega
  · apply rt_is
    refine congrArg (AVal.int .i64) ?_
    rw [badS_nil (s.drop i) (by rw [List.length_drop]; omega)] at hb0
    simp only [badI, hb0, Option.map_none]
end Go.Proofs.YtgjckfphallmeaaGreatDoor
namespace Go.Proofs.YtgjckfphallmeaaGreatDoor
open Go Go.RowKit
/-- A byte that may stand in a piece. -/
def lgB (first : Bool) (c : Int) : Bool := letterB c && !(first && decide (c ≤ 57))
/-- What is wrong with a piece that begins at a byte. -/
def pieceX (first : Bool) (a : Nat) (x : List UInt8) : Err :=
  if 0 ≤ fstB (fun c => !lgB first c) x then .at 3 (a + fstB (fun c => !lgB first c) x) else if x.length = 0 then .at 7 a else if 8 < x.length then .at 4 a else .none
def Err.isNone : Err → Bool
  | .none => true
  | _ => false
def langE : Bool → Nat → List (List UInt8) → Err
  | _, _, [] => .none
  | first, a, x :: xs => if (pieceX first a x).isNone then langE false (a + x.length + 1) xs else pieceX first a x
def langX (s : List UInt8) : Err := langE true 0 (splS 45 s)
theorem splS_mem {c : UInt8} : ∀ {s p : List UInt8}, p ∈ splS c s → c ∉ p
  | [], p, h => by simp [splS] at h; subst h; simp
  | x :: t, p, h => by
    by_cases hx : x = c
    · rw [splS, if_pos hx] at h
      rcases List.mem_cons.1 h with rfl | h
      · simp
      · exact splS_mem h
    · rw [splS, if_neg hx] at h
      cases h1 : splS c t with
      | nil => exact absurd h1 (splS_ne c t)
      | cons q qs =>
        rw [h1] at h
        rcases List.mem_cons.1 h with rfl | h
        · have := splS_mem (s := t) (p := q) (c := c) (by rw [h1]; simp)
          simp [this, Ne.symm hx]
        · exact splS_mem (s := t) (by rw [h1]; simp [h])
theorem splS_at {c : UInt8} {u v : List UInt8} {x : UInt8} (hu : c ∉ u) (hx : x ≠ c) : ∃ q qs, splS c (u ++ x :: v) = (u ++ x :: q) :: qs := by
  obtain ⟨p, ps, h1, h2⟩ := splS_app (v := x :: v) hu
  rw [splS, if_neg hx] at h1
  cases h3 : splS c v with
  | nil => exact absurd h3 (splS_ne c v)
  | cons q qs =>
    rw [h3] at h1
    cases h1
    exact ⟨_, _, h2⟩
theorem byteAt_app1 {u v : List UInt8} {j : Nat} (h : j < u.length) : byteAt (u ++ v) j = byteAt u j := by
  unfold byteAt; simp [List.getD, List.getElem?_append, h]
theorem byteAt_app2 {u v : List UInt8} {j : Nat} (h : u.length ≤ j) : byteAt (u ++ v) j = byteAt v (j - u.length) := by
  unfold byteAt; simp [List.getD, List.getElem?_append, show ¬ j < u.length by omega]
theorem fst_bad {f : Int → Bool} {u q : List UInt8} {x : UInt8} (hu : ∀ j, j < u.length → f (byteAt u j : Int) = false) (hx : f (x.toNat : Int) = true) : fstB f (u ++ x :: q) = u.length := by
  refine fstB_at (by simp) ?_ (fun j hj => by rw [byteAt_app1 hj]; exact hu j hj)
  rw [byteAt_app2 (Nat.le_refl _), Nat.sub_self]
  exact hx
theorem drop_split (s : List UInt8) (k i : Nat) (h1 : k ≤ i) (h2 : i ≤ s.length) : s.drop k = (s.drop k).take (i - k) ++ s.drop i := by
  have e := (List.take_append_drop (i - k) (s.drop k)).symm
  rw [List.drop_drop, show k + (i - k) = i by omega] at e
  exact e
theorem lang_bad {s : List UInt8} {k i : Nat} (h1 : k ≤ i) (h2 : i < s.length) (hg : ∀ j, k ≤ j → j < i → byteAt s j ≠ 45 ∧ lgB (decide (k = 0)) (byteAt s j : Int) = true) (hc : byteAt s i ≠ 45) (hb : lgB (decide (k = 0)) (byteAt s i : Int) = false) (b : Bool) (hbk : b = decide (k = 0)) :
    langE b k (splS 45 (s.drop k)) = .at 3 i := by
  subst hbk
  have e := drop_split s k i h1 (by omega)
  rw [List.drop_eq_getElem_cons h2] at e
  have hl : ((s.drop k).take (i - k)).length = i - k := by rw [List.length_take, List.length_drop]; omega
  have hba : ∀ j, j < i - k → byteAt ((s.drop k).take (i - k)) j = byteAt s (k + j) := fun j hj => by rw [byteAt_take hj, drop_byteAt]
  have hu : (45 : UInt8) ∉ (s.drop k).take (i - k) := by
    intro hm
    obtain ⟨j, hj, ej⟩ := List.getElem_of_mem hm
    rw [hl] at hj
    have h3 := (hg (k + j) (by omega) (by omega)).1
    rw [← hba j hj, byteAt_getElem (by omega), ej] at h3
    exact h3 rfl
  have hx : s[i] ≠ 45 := fun h => hc (by rw [byteAt_getElem h2, h]; rfl)
  obtain ⟨q, qs, hs⟩ := splS_at (v := s.drop (i + 1)) hu hx
  rw [← e] at hs
  rw [hs, langE]
  have hf : fstB (fun c => !lgB (decide (k = 0)) c) ((s.drop k).take (i - k) ++ s[i] :: q) = ((i - k : Nat) : Int) := by
    rw [fst_bad (f := fun c => !lgB (decide (k = 0)) c), hl]
    · intro j hj
      rw [hl] at hj
      rw [hba j hj, (hg (k + j) (by omega) (by omega)).2]
      rfl
    · rw [← byteAt_getElem h2, hb]; rfl
  have hp : pieceX (decide (k = 0)) k ((s.drop k).take (i - k) ++ s[i] :: q) = .at 3 i := by
    unfold pieceX
    rw [hf, if_pos (by omega), show ((k : Nat) : Int) + ((i - k : Nat) : Int) = i by omega]
  rw [hp]
  rfl
/-- A piece's end. -/
theorem lang_end {s : List UInt8} {k i : Nat} (h1 : k ≤ i) (h2 : i ≤ s.length) (hg : ∀ j, k ≤ j → j < i → byteAt s j ≠ 45 ∧ lgB (decide (k = 0)) (byteAt s j : Int) = true) (hc : i = s.length ∨ byteAt s i = 45) (b : Bool) (hbk : b = decide (k = 0)) :
    langE b k (splS 45 (s.drop k)) = if i = k then .at 7 k else if 8 < i - k then .at 4 k else if i = s.length then .none else langE false (i + 1) (splS 45 (s.drop (i + 1))) := by
  subst hbk
  have e := drop_split s k i h1 (by omega)
  have hl : ((s.drop k).take (i - k)).length = i - k := by rw [List.length_take, List.length_drop]; omega
  have hba : ∀ j, j < i - k → byteAt ((s.drop k).take (i - k)) j = byteAt s (k + j) := fun j hj => by rw [byteAt_take hj, drop_byteAt]
  have hu : (45 : UInt8) ∉ (s.drop k).take (i - k) := by
    intro hm
    obtain ⟨j, hj, ej⟩ := List.getElem_of_mem hm
    rw [hl] at hj
    have h3 := (hg (k + j) (by omega) (by omega)).1
    rw [← hba j hj, byteAt_getElem (by omega), ej] at h3
    exact h3 rfl
  have hs : splS 45 (s.drop k) = (s.drop k).take (i - k) :: (if i = s.length then [] else splS 45 (s.drop (i + 1))) := by
    by_cases hi : i = s.length
    · rw [if_pos hi]
      rw [List.drop_eq_nil_of_le (show s.length ≤ i by omega), List.append_nil] at e
      have hu' : (45 : UInt8) ∉ s.drop k := by rw [e]; exact hu
      rw [splS_none hu']
      exact congrArg (fun z => [z]) e
    · rw [if_neg hi]
      have hc := hc.resolve_left hi
      have h2 : i < s.length := by omega
      rw [List.drop_eq_getElem_cons h2] at e
      have hx : s[i] = 45 := UInt8.toNat_inj.1 (by rw [← byteAt_getElem h2, hc]; rfl)
      rw [hx] at e
      generalize hw : (s.drop k).take (i - k) = w at *
      rw [e, splS_cut hu]
  have hf : fstB (fun c => !lgB (decide (k = 0)) c) ((s.drop k).take (i - k)) = -1 := fstB_none fun j hj => by
    rw [hl] at hj
    rw [hba j hj, (hg (k + j) (by omega) (by omega)).2]
    rfl
  rw [hs, langE]
  have hp : pieceX (decide (k = 0)) k ((s.drop k).take (i - k)) = if i = k then .at 7 k else if 8 < i - k then .at 4 k else .none := by
    unfold pieceX
    rw [hf, if_neg (by omega), hl]
    by_cases h3 : i = k
    · rw [if_pos (by omega), if_pos h3]
    · rw [if_neg (by omega), if_neg h3]
  rw [hp, hl]
  by_cases h3 : i = k
  · rw [if_pos h3, if_pos h3]; rfl
  · rw [if_neg h3, if_neg h3]
    by_cases h4 : 8 < i - k
    · rw [if_pos h4, if_pos h4]; rfl
    · rw [if_neg h4, if_neg h4, if_pos (show Err.none.isNone = true from rfl), show k + (i - k) + 1 = i + 1 by omega]
      by_cases h5 : i = s.length
      · rw [if_pos h5, if_pos h5]; rfl
      · rw [if_neg h5, if_neg h5]
theorem isS_one {s : List UInt8} {i : Nat} (h : i < s.length) : isS ((s.take (i + 1)).drop i) = letterB (byteAt s i) := by
  have hl : ((s.take (i + 1)).drop i).length = 1 := by rw [List.length_drop, List.length_take]; omega
  have hb : byteAt ((s.take (i + 1)).drop i) 0 = byteAt s i := by rw [drop_byteAt, byteAt_take (by omega), Nat.add_zero]
  rw [Bool.eq_iff_iff, isS, hl]
  simp only [Bool.and_eq_true, allB_t, hl, decide_eq_true_eq]
  constructor
  · intro h; rw [← hb]; exact h.1 0 (by omega)
  · intro h; exact ⟨fun j hj => by rw [show j = 0 by omega, hb]; exact h, by omega, by omega⟩
theorem lgB_t {b : Bool} {c : Int} : lgB b c = true ↔ letterB c = true ∧ (b = true → 57 < c) := by
  unfold lgB
  cases b <;> simp
theorem lgB_f {b : Bool} {c : Int} : lgB b c = false ↔ (letterB c = false ∨ (b = true ∧ c ≤ 57)) := by
  unfold lgB
  cases b <;> cases letterB c <;> simp
set_option maxRecDepth 20000
set_option maxHeartbeats 4000000
set_option linter.unusedSimpArgs false
set_option linter.unusedVariables false
attribute [local irreducible] AWp AOps byteAt SrcOK OrOk GloAll FnSpec
attribute [local irreducible] splS langE lgB isS letterB
theorem lang_Right {G : Glo} (s : List UInt8) (hl : s.length ≤ 9223372036854775000) : FnIs Tryz.prog G 26 [.str s] (langX s).A := by
  have hGL : GloAll G [] := gloAll_nil
  refine fn_x Tryz.func26 Tryz.call26 rfl rfl rfl rfl hGL ?_
  intro C hC
  have hN := fun i (h : i < s.length) => name_Is (G := G) ((s.take (i + 1)).drop i) (by rw [List.length_drop, List.length_take]; omega)
  repeat' (first
    | (conv => whnf); first
      | refine .w ?_ | refine .v ?_ | apply sc_true | apply sc_false
      | (first | apply sc_lt | apply sc_nlt | apply sc_eq | apply sc_neq | apply sc_nil | apply sc_nnil | apply sc_seq | apply sc_nseq) <;> (intro hb; try exact dd hb)
      | apply sc_not | apply sc_or | (apply sc_i <;> intro hb)
      | (apply bx_i; intro hbd) | (apply gt_i; assumption; exact rfl)
      | (apply cx_is; first | fail) | (apply cx_do (i := 0) rfl; first | fail)
      | (apply ab_i; intro bl) | (apply as_i; intro va vk vc hva) | (apply av_i; intro v) | (apply ac_i; intro bl cap hcap)
      | apply bo_l | (apply nx_i <;> intro hnx) | (apply Ia.hit; assumption) | (apply Ia.miss; assumption)
      | (apply rt_is; exact rfl) | exact rt_w | (apply iv; assumption)
      | apply dw_q mixed hC hGL (by kernel_rfl) | (apply cq; assumption; (first | fail); exact rfl))
  all_goals (try conv => whnf)
  refine lp hC hGL (fun (x : Nat × Nat) => [(0, .str s), (3, .int .i64 x.2), (4, .int .i64 x.1)]) (fun _ => []) (fun x => x.2 ≤ x.1 ∧ x.1 ≤ s.length + 1 ∧ (x.1 = s.length + 1 → x.2 = s.length + 1) ∧ (∀ j, x.2 ≤ j → j < x.1 → byteAt s j ≠ 45 ∧ lgB (decide (x.2 = 0)) (byteAt s j : Int) = true) ∧ langX s = if x.2 = s.length + 1 then .none else langE (decide (x.2 = 0)) x.2 (splS 45 (s.drop x.2))) (fun x => s.length + 1 - x.1) (0, 0) ?_ env_w rfl ?_
  · exact ⟨Nat.le_refl _, Nat.zero_le _, fun h => by omega, fun j _ h => absurd h (Nat.not_lt_zero _), by rw [if_neg (by omega)]; rfl⟩
  rintro ⟨i, k⟩ ⟨h1, h2, h3, h4, h5⟩
  dsimp only at h1 h2 h3 h4 h5 ⊢
  by_cases hi : i < s.length
  · have hN := hN i hi
    rw [isS_one hi] at hN
    have hE := fun h => lang_end h1 (by omega) h4 (.inr h) _ rfl
    have hB := fun hc hb => lang_bad h1 hi h4 hc hb _ rfl
    rw [if_neg (by omega)] at h5
    repeat' (first
      | (conv => whnf); first
        | refine .w ?_ | refine .v ?_ | apply sc_true | apply sc_false
        | (first | apply sc_lt | apply sc_nlt | apply sc_eq | apply sc_neq | apply sc_nil | apply sc_nnil | apply sc_seq | apply sc_nseq) <;> (intro hb; try exact dd hb)
        | apply sc_not | apply sc_or | (apply sc_i <;> intro hb)
        | (apply bx_i; intro hbd) | (apply gt_i; assumption; exact rfl)
        | (apply cx_is; first | exact hN) | (apply cx_do (i := 0) rfl; first | exact hN)
        | (apply ab_i; intro bl) | (apply as_i; intro va vk vc hva) | (apply av_i; intro v) | (apply ac_i; intro bl cap hcap)
        | apply bo_l | (apply nx_i <;> intro hnx) | (apply Ia.hit; assumption) | (apply Ia.miss; assumption)
        | (apply rt_is; exact rfl) | exact rt_w | (apply iv; assumption)
        | apply dw_q mixed hC hGL (by kernel_rfl) | (apply cq; assumption; (first | exact hN); exact rfl))
    all_goals (try conv => whnf)
    · apply rt_is
      rw [h5, hB (by omega) (lgB_f.2 (.inr ⟨by simp; omega, by omega⟩))]
      rfl
    · refine nxt (i + 1, k) ?_ ?_ env_w rfl
      · refine ⟨by omega, by omega, fun h => by omega, fun j g1 g2 => ?_, by rw [if_neg (by omega)]; exact h5⟩
        by_cases g : j = i
        · subst g; exact ⟨by omega, lgB_t.2 ⟨by assumption, fun _ => by omega⟩⟩
        · exact h4 j g1 (by omega)
      · dsimp only; omega
    · refine nxt (i + 1, k) ?_ ?_ env_w rfl
      · refine ⟨by omega, by omega, fun h => by omega, fun j g1 g2 => ?_, by rw [if_neg (by omega)]; exact h5⟩
        by_cases g : j = i
        · subst g; exact ⟨by omega, lgB_t.2 ⟨by assumption, fun h => by simp at h; omega⟩⟩
        · exact h4 j g1 (by omega)
      · dsimp only; omega
    · apply rt_is
      rw [h5, hB (by omega) (lgB_f.2 (.inl hb))]
      rfl
    · apply rt_is
      have hE := hE (by omega)
      obtain rfl : i = k := by omega
      rw [h5, hE, if_pos rfl]
      rfl
    · apply rt_is
      have hE := hE (by omega)
      rw [h5, hE, if_neg (by omega), if_pos (by omega)]
      rfl
    · have hE := hE (by omega)
      rw [if_neg (by omega), if_neg (by omega)] at hE
      refine nxt (i + 1, i + 1) ?_ ?_ env_w rfl
      · refine ⟨Nat.le_refl _, by omega, fun _ => by omega, fun j g1 g2 => by omega, ?_⟩
        rw [h5, hE]
        dsimp only
        by_cases g : i = s.length
        · rw [if_pos g, if_pos (by omega)]
        · rw [if_neg g, if_neg (by omega)]
          simp
      · dsimp only; omega
  · have hE := fun h => lang_end h1 h h4 (.inl (by omega)) _ rfl
    repeat' (first
      | (conv => whnf); first
        | refine .w ?_ | refine .v ?_ | apply sc_true | apply sc_false
        | (first | apply sc_lt | apply sc_nlt | apply sc_eq | apply sc_neq | apply sc_nil | apply sc_nnil | apply sc_seq | apply sc_nseq) <;> (intro hb; try exact dd hb)
        | apply sc_not | apply sc_or | (apply sc_i <;> intro hb)
        | (apply bx_i; intro hbd) | (apply gt_i; assumption; exact rfl)
        | (apply cx_is; first | fail) | (apply cx_do (i := 0) rfl; first | fail)
        | (apply ab_i; intro bl) | (apply as_i; intro va vk vc hva) | (apply av_i; intro v) | (apply ac_i; intro bl cap hcap)
        | apply bo_l | (apply nx_i <;> intro hnx) | (apply Ia.hit; assumption) | (apply Ia.miss; assumption)
        | (apply rt_is; exact rfl) | exact rt_w | (apply iv; assumption)
        | apply dw_q mixed hC hGL (by kernel_rfl) | (apply cq; assumption; (first | fail); exact rfl))
    all_goals (try conv => whnf)
    · apply rt_is
      have hE := hE (by omega)
      rw [if_neg (by omega)] at h5
      obtain rfl : i = k := by omega
      rw [h5, hE, if_pos rfl]
      rfl
    · apply rt_is
      have hE := hE (by omega)
      rw [if_neg (by omega)] at h5
      rw [h5, hE, if_neg (by omega), if_pos (by omega)]
      rfl
    · have hE := hE (by omega)
      rw [if_neg (by omega)] at h5
      rw [if_neg (by omega), if_neg (by omega)] at hE
      refine nxt (i + 1, i + 1) ?_ ?_ env_w rfl
      · refine ⟨Nat.le_refl _, by omega, fun _ => by omega, fun j g1 g2 => by omega, ?_⟩
        rw [h5, hE]
        dsimp only
        by_cases g : i = s.length
        · rw [if_pos g, if_pos (by omega)]
        · rw [if_neg g, if_neg (by omega)]
          simp
      · dsimp only; omega
    · apply rt_is
      rw [h5, if_pos (h3 (by omega))]
      rfl
end Go.Proofs.YtgjckfphallmeaaGreatDoor
namespace Go.Proofs.YtgjckfphallmeaaGreatDoor
open Go Go.RowKit
theorem byteAt_ge {s : List UInt8} {j : Nat} (h : j < s.length) : byteAt s j = s[j].toNat := by
  simp [byteAt, List.getD, h]
theorem u8_k {c : UInt8} {k : Nat} (hk : k < 256) : c = UInt8.ofNat k ↔ c.toNat = k := by
  constructor
  · rintro rfl
    rw [UInt8.toNat_ofNat_of_lt' hk]
  · intro h
    rw [← h, UInt8.ofNat_toNat]
/-- What a byte is written as. -/
def escF (c : UInt8) : List UInt8 := if c = 92 then [92, 92] else if c = 44 then [92, 44] else if c = 59 then [92, 59] else if c = 10 then [92, 110] else [c]
def escS (s : List UInt8) : List UInt8 := s.flatMap escF
theorem esc_92 : escF 92 = [92, 92] := rfl
theorem esc_44 : escF 44 = [92, 44] := rfl
theorem esc_59 : escF 59 = [92, 59] := rfl
theorem esc_10 : escF 10 = [92, 110] := rfl
theorem esc_else {c : UInt8} (h0 : c.toNat ≠ 92) (h1 : c.toNat ≠ 44) (h2 : c.toNat ≠ 59) (h3 : c.toNat ≠ 10) : escF c = [c] := by
  unfold escF
  rw [if_neg (by rintro rfl; exact h0 rfl), if_neg (by rintro rfl; exact h1 rfl), if_neg (by rintro rfl; exact h2 rfl), if_neg (by rintro rfl; exact h3 rfl)]
theorem escS_nil : escS [] = [] := rfl
theorem escS_cons (c : UInt8) (s : List UInt8) : escS (c :: s) = escF c ++ escS s := rfl
theorem escS_app (s t : List UInt8) : escS (s ++ t) = escS s ++ escS t := by simp [escS]
theorem escF_len (c : UInt8) : 1 ≤ (escF c).length ∧ (escF c).length ≤ 2 := by
  unfold escF
  (repeat' split) <;> simp
theorem escS_len (s : List UInt8) : s.length ≤ (escS s).length ∧ (escS s).length ≤ 2 * s.length := by
  induction s with
  | nil => exact ⟨Nat.le_refl _, Nat.le_refl _⟩
  | cons c t ih =>
    have := escF_len c
    rw [escS_cons, List.length_append, List.length_cons]
    omega
theorem escS_take {s : List UInt8} {i : Nat} (h : i < s.length) : escS (s.take (i + 1)) = escS (s.take i) ++ escF s[i] := by
  rw [List.take_succ_eq_append_getElem h, escS_app]
  simp [escS]
theorem escS_all {s : List UInt8} {i : Nat} (h : s.length ≤ i) : escS (s.take i) = escS s := by rw [List.take_of_length_le h]
theorem escS_le {s : List UInt8} {i : Nat} : (escS (s.take i)).length + (escS (s.drop i)).length = (escS s).length := by
  rw [← List.length_append, ← escS_app, List.take_append_drop]
theorem escS_id {s : List UInt8} (h : (escS s).length = s.length) : escS s = s := by
  induction s with
  | nil => rfl
  | cons c t ih =>
    have h1 := escF_len c
    have h2 := escS_len t
    rw [escS_cons, List.length_append, List.length_cons] at h
    have h3 : (escF c).length = 1 := by omega
    rw [escS_cons, ih (by omega)]
    revert h3
    unfold escF
    (repeat' split) <;> simp
theorem escS_count (s : List UInt8) : (escS s).length = s.length + (s.countP (· == 10) + s.countP (· == 59) + s.countP (· == 44) + s.countP (· == 92)) := by
  induction s with
  | nil => rfl
  | cons c t ih =>
    rw [escS_cons, List.length_append, ih, List.countP_cons, List.countP_cons, List.countP_cons, List.countP_cons, List.length_cons]
    unfold escF
    by_cases h0 : c = 92
    · subst h0; simp; omega
    · by_cases h1 : c = 44
      · subst h1; simp; omega
      · by_cases h2 : c = 59
        · subst h2; simp; omega
        · by_cases h3 : c = 10
          · subst h3; simp; omega
          · simp [h0, h1, h2, h3]; omega
/-- The cells: the slices by bytes, then toReplace. -/
def tabN (N : Nat) (a0 a1 a2 a3 t : AVal) : List AVal := (((((List.replicate N (.raw (.slice none 0 0))).set 10 a0).set 59 a1).set 44 a2).set 92 a3) ++ [t]
def tabE (a0 a1 a2 a3 t : AVal) : List AVal := tabN 256 a0 a1 a2 a3 t
theorem tabN_end (N : Nat) (a0 a1 a2 a3 t : AVal) : (tabN N a0 a1 a2 a3 t)[N]? = some t := by
  unfold tabN
  rw [List.getElem?_append_right (by simp)]
  simp
theorem tabE_end (a0 a1 a2 a3 t : AVal) : (tabE a0 a1 a2 a3 t)[256]? = some t := tabN_end 256 a0 a1 a2 a3 t
theorem tabN_get {N n : Nat} {a0 a1 a2 a3 t : AVal} (hn : n < N) : (tabN N a0 a1 a2 a3 t)[n]? = some (if n = 92 then a3 else if n = 44 then a2 else if n = 59 then a1 else if n = 10 then a0 else .raw (.slice none 0 0)) := by
  unfold tabN
  rw [List.getElem?_append_left (by simpa using hn)]
  by_cases h3 : n = 92
  · subst h3; rw [List.getElem?_set_self (by simpa using hn), if_pos rfl]
  · rw [if_neg h3, List.getElem?_set_ne (Ne.symm h3)]
    by_cases h2 : n = 44
    · subst h2; rw [List.getElem?_set_self (by simpa using hn), if_pos rfl]
    · rw [if_neg h2, List.getElem?_set_ne (Ne.symm h2)]
      by_cases h1 : n = 59
      · subst h1; rw [List.getElem?_set_self (by simpa using hn), if_pos rfl]
      · rw [if_neg h1, List.getElem?_set_ne (Ne.symm h1)]
        by_cases h0 : n = 10
        · subst h0; rw [List.getElem?_set_self (by simpa using hn), if_pos rfl]
        · rw [if_neg h0, List.getElem?_set_ne (Ne.symm h0)]
          simp [hn]
theorem tabE_get {n : Nat} {a0 a1 a2 a3 t : AVal} (hn : n < 256) : (tabE a0 a1 a2 a3 t)[n]? = some (if n = 92 then a3 else if n = 44 then a2 else if n = 59 then a1 else if n = 10 then a0 else .raw (.slice none 0 0)) := tabN_get (N := 256) hn
theorem buf_put {A e : List UInt8} {N j : Nat} {c : UInt8} (hj : j = A.length) (h : A.length + e.length ≤ N) : (A ++ List.replicate (N - A.length) c).take j ++ e ++ (A ++ List.replicate (N - A.length) c).drop (j + e.length) = A ++ e ++ List.replicate (N - (A ++ e).length) c := by
  subst hj
  rw [List.take_left, List.drop_append, List.drop_eq_nil_of_le (by omega), List.nil_append, List.drop_replicate, List.length_append]
  congr 2
  omega
theorem buf_set {A : List UInt8} {N j : Nat} {c d : UInt8} (hj : j = A.length) (h : A.length < N) : (A ++ List.replicate (N - A.length) c).set j d = A ++ [d] ++ List.replicate (N - (A ++ [d]).length) c := by
  subst hj
  rw [List.set_append_right _ _ (Nat.le_refl _), Nat.sub_self, show N - A.length = (N - (A ++ [d]).length) + 1 by rw [List.length_append, List.length_singleton]; omega, List.replicate_succ, List.set_cons_zero, List.append_assoc]
  rfl
end Go.Proofs.YtgjckfphallmeaaGreatDoor
namespace Go.Proofs.YtgjckfphallmeaaGreatDoor
open Go Go.RowKit
def joinT (l : List (List UInt8)) : List UInt8 := Lib.join (l.map escS) [44]
def joinE (l : List (List UInt8)) : Err := if l = [] then .errno 8 else .none
theorem lens_at {l : List (List UInt8)} {k : Nat} : (l.getD k []).length ≤ Lib.lens l := by
  rw [List.getD_eq_getElem?_getD]
  cases h : l[k]? with
  | none => simp
  | some x =>
    have h1 := Lib.lens_take_succ l k x h
    have h2 := Lib.lens_take_le l (k + 1)
    simp only [Option.getD_some]
    omega
theorem take_map_succ {l : List (List UInt8)} {k : Nat} {f : List UInt8 → List UInt8} (h : k < l.length) : (l.map f).take (k + 1) = (l.map f).take k ++ [f (l.getD k [])] := by
  rw [List.take_succ_eq_append_getElem (by simpa using h), List.getElem_map, List.getD_eq_getElem?_getD, List.getElem?_eq_getElem h]
  rfl
theorem lens_esc (l : List (List UInt8)) : Lib.lens (l.map escS) ≤ 2 * Lib.lens l := by
  induction l with
  | nil => exact Nat.le_refl _
  | cons x r ih =>
    have h1 := (escS_len x).2
    have e1 : Lib.lens (x :: r) = x.length + Lib.lens r := by simp [Lib.lens]
    have e2 : Lib.lens ((x :: r).map escS) = (escS x).length + Lib.lens (r.map escS) := by simp [Lib.lens]
    omega
theorem joinT_len (l : List (List UInt8)) : (joinT l).length ≤ l.length + 2 * Lib.lens l := by
  cases l with
  | nil => simp [joinT, Lib.join_nil]
  | cons x r =>
    have h := lens_esc (x :: r)
    unfold joinT
    rw [List.map_cons] at h ⊢
    rw [Lib.join_length, List.length_singleton, List.length_map, List.length_cons]
    omega
/-- Where the first list that is empty stands. -/
def nilAt (L : List (List (List UInt8))) : Nat := L.findIdx fun l => l.isEmpty
theorem nilAt_le (L : List (List (List UInt8))) : nilAt L ≤ L.length := List.findIdx_le_length
theorem nilAt_hit {L : List (List (List UInt8))} {k : Nat} (h : k < L.length) (hk : k ≤ nilAt L) (hn : L.getD k [] = []) : nilAt L = k := by
  rcases Nat.lt_or_ge k (nilAt L) with h1 | h1
  · have := List.not_of_lt_findIdx h1
    rw [List.getD_eq_getElem?_getD, List.getElem?_eq_getElem h] at hn
    simp only [Option.getD_some] at hn
    rw [hn] at this
    simp at this
  · omega
theorem nilAt_miss {L : List (List (List UInt8))} {k : Nat} (h : k < L.length) (hk : k ≤ nilAt L) (hn : L.getD k [] ≠ []) : k + 1 ≤ nilAt L := by
  rcases Nat.lt_or_ge k (nilAt L) with h1 | h1
  · exact h1
  · exfalso
    have e : nilAt L = k := by omega
    have h2 : L.findIdx (fun l => l.isEmpty) < L.length := by show nilAt L < _; omega
    have := List.findIdx_getElem (w := h2)
    rw [List.getD_eq_getElem?_getD, List.getElem?_eq_getElem h] at hn
    apply hn
    simp only [Option.getD_some]
    have e2 : L[L.findIdx fun l => l.isEmpty] = L[k] := by congr 1
    rw [e2] at this
    exact List.isEmpty_iff.1 this
def joinPT (L : List (List (List UInt8))) : List UInt8 := if nilAt L < L.length then [] else Lib.join (L.map joinT) [59]
def joinPE (L : List (List (List UInt8))) : Err := if L = [] then .errno 8 else if nilAt L < L.length then .at 8 (nilAt L : Nat) else .none
def partsF (L : List (List (List UInt8))) (i : Nat) : AVal := .list 1 (L.getD i []).length (strsF (L.getD i []))
/-- All is small enough. -/
structure Small (L : List (List (List UInt8))) : Prop where
  n : L.length ≤ 2000000
  k : ∀ k, (L.getD k []).length ≤ 2000000 ∧ Lib.lens (L.getD k []) ≤ 2000000
theorem lens_le {xs : List (List UInt8)} {M : Nat} (h : ∀ x, x ∈ xs → x.length ≤ M) : Lib.lens xs ≤ xs.length * M := by
  induction xs with
  | nil => simp [Lib.lens]
  | cons x r ih =>
    have e1 : Lib.lens (x :: r) = x.length + Lib.lens r := by simp [Lib.lens]
    have h1 := h x (by simp)
    have h2 := ih (fun y hy => h y (by simp [hy]))
    rw [List.length_cons, Nat.add_mul]
    omega
theorem join_small {xs : List (List UInt8)} {M : Nat} {c : UInt8} (h : ∀ x, x ∈ xs → x.length ≤ M) (hn : xs.length ≤ 2000000) (hM : M ≤ 6000000) : (Lib.join xs [c]).length ≤ 140737488355328 := by
  cases xs with
  | nil => simp [Lib.join_nil]
  | cons x r =>
    have h1 := lens_le h
    rw [Lib.join_length, List.length_singleton]
    have h2 : (x :: r).length * M ≤ 2000000 * 6000000 := Nat.mul_le_mul hn hM
    rw [List.length_cons] at hn
    omega
theorem small_join {L : List (List (List UInt8))} (h : Small L) : (Lib.join (L.map joinT) [59]).length ≤ 140737488355328 := by
  refine join_small (M := 6000000) (fun x hx => ?_) (by rw [List.length_map]; exact h.n) (Nat.le_refl _)
  obtain ⟨l, hl, rfl⟩ := List.mem_map.1 hx
  obtain ⟨k, hk, rfl⟩ := List.getElem_of_mem hl
  have h1 := h.k k
  rw [List.getD_eq_getElem?_getD, List.getElem?_eq_getElem hk] at h1
  simp only [Option.getD_some] at h1
  have := joinT_len L[k]
  omega
theorem take_mapL_succ {L : List (List (List UInt8))} {k : Nat} {f : List (List UInt8) → List UInt8} (h : k < L.length) : (L.map f).take (k + 1) = (L.map f).take k ++ [f (L.getD k [])] := by
  rw [List.take_succ_eq_append_getElem (by simpa using h), List.getElem_map, List.getD_eq_getElem?_getD, List.getElem?_eq_getElem h]
  rfl
end Go.Proofs.YtgjckfphallmeaaGreatDoor
namespace Go.Proofs.YtgjckfphallmeaaGreatDoor
open Go Go.RowKit
/-- An error without its place. -/
def Err.b : Err → Err
  | .none => .none
  | .errno e => .errno e
  | .at e _ => .errno e
theorem Err.b_e (x : Err) : x.b.e = x.e := by cases x <;> rfl
theorem Err.b_p (x : Err) : x.b.p = -1 := by cases x <;> rfl
/-- A byte that a value may not hold. -/
def hdC (lines : Bool) (c : Int) : Bool := decide ((c < 32 ∧ c ≠ 9 ∧ (c ≠ 10 ∨ lines = false)) ∨ c = 127)
def hdB (lines : Bool) (s : List UInt8) : Bool := decide (badI s < 0 ∧ fstB (hdC lines) s < 0)
/-- A value. -/
structure Vl where
  t : Int
  s : List UInt8
  L : List (List (List UInt8))
  st : Stm
  n : Int
def Vl.A (v : Vl) : AVal := .agg [.int .i64 v.t, .str v.s, .list 1 v.L.length (partsF v.L), .int .i64 v.st.y, .int .i64 v.st.m, .int .i64 v.st.d, .int .i64 v.st.h, .int .i64 v.st.i, .int .i64 v.st.s, .bool v.st.z, .int .i64 v.st.o, .int .i64 v.n]
def zeroB (t : Stm) : Bool := decide (t.y = 0 ∧ t.m = 0 ∧ t.d = 0 ∧ t.h = 0 ∧ t.i = 0 ∧ t.s = 0 ∧ t.z = false ∧ t.o = 0)
/-- It has what its type has, and nothing else. -/
def Vl.only (v : Vl) : Bool := decide ((v.s.length = 0 ∨ v.t = 1 ∨ v.t = 4 ∨ v.t = 7 ∨ v.t = 8) ∧ (v.L.length = 0 ∨ v.t = 2 ∨ v.t = 3) ∧ (zeroB v.st = true ∨ v.t = 5) ∧ (v.n = 0 ∨ v.t = 6))
/-- All texts of lists may be. -/
def hdL (L : List (List (List UInt8))) : Bool := L.all fun l => l.all (hdB true)
def ptsE (t : Int) (L : List (List (List UInt8))) : Err := if L.length = 0 ∨ (t = 2 ∧ L.length ≠ 1) then .errno 8 else if nilAt L < L.length then .errno 8 else if hdL L then .none else .errno 3
def Vl.E (v : Vl) : Err := if v.t < 1 ∨ 9 ≤ v.t ∨ v.only = false then .errno 1
  else if v.t = 2 ∨ v.t = 3 then ptsE v.t v.L
  else if v.t = 4 then (uriE v.s).b
  else if v.t = 5 then v.st.E
  else if v.t = 6 then zprE v.n
  else if v.t = 7 then (langX v.s).b
  else if hdB (decide (v.t = 1)) v.s then .none else .errno 3
def Vl.T (v : Vl) : List UInt8 := match v.E with
  | .none => if v.t = 1 then escS v.s else if v.t = 2 ∨ v.t = 3 then joinPT v.L else if v.t = 5 then v.st.T else if v.t = 6 then zprS v.n else v.s
  | _ => []
end Go.Proofs.YtgjckfphallmeaaGreatDoor
namespace Go.Proofs.YtgjckfphallmeaaGreatDoor
open Go
set_option linter.unusedVariables false
structure Lf (Q : Prop) : Prop where
  h : Q
structure Lc (a b : Prop) : Prop where
  l : a
  r : b
inductive Le : Prop
  | n
inductive Lz : Prop → Prop
  | n : Lz Le
  | c {a b : Prop} : Lz b → Lz (Lc a b)
theorem Lf.l {a b : Prop} (q : Lf (Lc a b)) : a := q.h.l
theorem Lf.r {a b : Prop} (q : Lf (Lc a b)) : Lf b := ⟨q.h.r⟩
/-- A statement's end: what is known, what the slots hold, what is owned. -/
structure Ct (I : Env) (J : Heap) (p : Prop) (e : Env) (h : Heap) : Prop where
  p : p
  s : Env.sub e I
  j : h = J
theorem Ct.w {I : Env} {J : Heap} {p : Prop} {e : Env} {h : Heap} (hp : p := by first | exact True.intro | assumption | omega) (hs : Env.sub e I := by repeat (first | exact trivial | refine And.intro rfl ?_)) (hj : h = J := by rfl) : Ct I J p e h := ⟨hp, hs, hj⟩
structure Cy {X : Type} (I : X → Env) (J : X → Heap) (Inv : X → Prop) (e : Env) (h : Heap) : Prop where
  h : ∃ x, Inv x ∧ Env.sub e (I x) ∧ h = J x
theorem cy {X : Type} {I : X → Env} {J : X → Heap} {Inv : X → Prop} {e : Env} {h : Heap} (x : X) (hp : Inv x) (hs : Env.sub e (I x) := by repeat (first | exact trivial | refine And.intro rfl ?_)) (hj : h = J x := by rfl) : Cy I J Inv e h := ⟨⟨x, hp, hs, hj⟩⟩
section
variable {P : Program} [Tab P] {C : Ctx} {n : Nat} {G : Glo} {GL : List (Nat × List AVal)} {env : Env} {H : Heap} {Q : AExit → Env → Heap → Prop}
/-- Into a function whose statements are gone through one by one. -/
theorem fn_a {f : FuncId} {fn : Func} {c : Code} {avs : List AVal} {Qf : ARes → Heap → Prop} {rs : List ResultVar} (hf : P.funcs[f]? = some fn)
    (hc : ∀ args w, (callFunc f args).run P w = .ok (.enter f args) w) (hb : fn.body = some c) (hn : fn.ntmps = n) (hrs : fn.results = rs.toArray) (hlen : Nat.ble avs.length n = true)
    (h : ∀ C : Ctx, C.G = G → AWp P C n c (argEnv 0 avs) H (RetX P rs Qf)) : FnSpec P G f avs H Qf :=
  fn_spec hf hb hc hn hrs hlen fun w0 R0 hG => (h ⟨w0, R0, blks H, G, hG, []⟩ rfl).mono fun _ _ _ q => RetX_ok q
theorem aw_code {c : Code} (hC : C.G = G) (hGL : GloAll G GL) (h : codeX P C n G GL c env H Q) : AWp P C n c env H Q := codeX_ok hC hGL _ _ _ _ h
theorem cuty {a b : Code} {X : Type} (hC : C.G = G) (hGL : GloAll G GL) (I : X → Env) (J : X → Heap) (Inv : X → Prop) (h1 : codeX P C n G GL a env H (thenQ (fun e h => Cy I J Inv e h) Q)) (h2 : ∀ x, Inv x → AWp P C n b (I x) (J x) Q) : AWp P C n (.seq a b) env H Q :=
  aw_seq ((codeX_ok hC hGL _ _ _ _ h1).mono fun x e h q => by
    cases x with
    | normal =>
      obtain ⟨y, hy, hs, rfl⟩ := q.h
      exact aw_sub hs (h2 y hy)
    | exit i => exact q
    | goto i => exact q
    | ret => exact q
    | panic v => exact q)
theorem cut {a b : Code} (hC : C.G = G) (hGL : GloAll G GL) (I : Env) (J : Heap) (p : Prop) (h1 : codeX P C n G GL a env H (thenQ (fun e h => Ct I J p e h) Q)) (h2 : p → AWp P C n b I J Q) : AWp P C n (.seq a b) env H Q :=
  aw_seq ((codeX_ok hC hGL _ _ _ _ h1).mono fun x e h q => by
    cases x with
    | normal =>
      obtain ⟨hp, hs, rfl⟩ := q
      exact aw_sub hs (h2 hp)
    | exit i => exact q
    | goto i => exact q
    | ret => exact q
    | panic v => exact q)
end
theorem xw0 {P : Prop} (h : P := by
    repeat' (first
      | (conv => whnf); first
        | refine .w ?_ | refine .v ?_ | apply sc_true | apply sc_false
        | (first | apply sc_lt | apply sc_nlt | apply sc_eq | apply sc_neq | apply sc_nil | apply sc_nnil | apply sc_seq | apply sc_nseq) <;> (intro wb; try exact dd wb)
        | apply sc_not | apply sc_or | (apply sc_i <;> intro wb)
        | (apply bx_i; intro wb) | (apply gt_i; assumption; exact rfl)
        | (apply cx_is; first | assumption | (apply k1 <;> omega) | (apply k2 <;> omega) | (apply k3 <;> omega)) | (apply cx_do (i := 0) rfl; assumption)
        | (apply ab_i; intro wl) | (apply as_i; intro wa wk wc wh) | (apply av_i; intro wv) | (apply ac_i; intro wl wq wb)
        | apply bo_l | (apply nx_i <;> intro wb) | (apply Ia.hit; assumption) | (apply Ia.miss; assumption)
        | (apply rt_is; exact rfl) | exact rt_w | exact Ct.w | (apply iv; assumption)
        | exact True.intro | (apply bc_i; intro wC whC) | apply bt_i | apply og_n | (apply og_a; exact rfl) | apply dw_q mixed whC hGL (by kernel_rfl) | apply dw_q mixed hC hGL (by kernel_rfl) | (apply cq; assumption; (first | assumption | (apply k1 <;> omega) | (apply k2 <;> omega)); exact rfl))
    all_goals (try conv => whnf)) : P := h
theorem xw1 {P Q : Prop} (hQ : Q) (h : Lf Q → P := by
    intro ww
    repeat' (first
      | (conv => whnf); first
        | refine .w ?_ | refine .v ?_ | apply sc_true | apply sc_false
        | (first | apply sc_lt | apply sc_nlt | apply sc_eq | apply sc_neq | apply sc_nil | apply sc_nnil | apply sc_seq | apply sc_nseq) <;> (intro wb; try exact dd wb)
        | apply sc_not | apply sc_or | (apply sc_i <;> intro wb)
        | (apply bx_i; intro wb) | (apply gt_i; assumption; exact rfl)
        | (apply cx_is; first | assumption | (apply k1 <;> omega) | (apply k2 <;> omega) | (apply k3 <;> omega)) | (apply cx_do (i := 0) rfl; assumption)
        | (apply ab_i; intro wl) | (apply as_i; intro wa wk wc wh) | (apply av_i; intro wv) | (apply ac_i; intro wl wq wb)
        | apply bo_l | (apply nx_i <;> intro wb) | (apply Ia.hit; assumption) | (apply Ia.miss; assumption)
        | (apply rt_is; exact rfl) | exact rt_w | exact Ct.w | (apply iv; assumption)
        | exact True.intro | (apply bc_i; intro wC whC) | apply bt_i | apply og_n | (apply og_a; exact rfl) | apply dw_q mixed whC hGL (by kernel_rfl) | apply dw_q mixed hC hGL (by kernel_rfl) | (apply cq; assumption; (first | assumption | (apply k1 <;> omega) | (apply k2 <;> omega)); exact rfl))
    all_goals (try conv => whnf)
    all_goals (repeat (first | revert wb | revert wh | revert wc | revert wk | revert wa | revert wq | revert wl | revert wv | revert whC | revert wC))
    all_goals (apply Lf.h; apply ww)) : P := h ⟨hQ⟩
theorem xw {P Q : Prop} (hQ : Q) (h : Lf Q → P := by
    intro ww
    repeat' (first
      | (conv => whnf); first
        | refine .w ?_ | refine .v ?_ | apply sc_true | apply sc_false
        | (first | apply sc_lt | apply sc_nlt | apply sc_eq | apply sc_neq | apply sc_nil | apply sc_nnil | apply sc_seq | apply sc_nseq) <;> (intro wb; try exact dd wb)
        | apply sc_not | apply sc_or | (apply sc_i <;> intro wb)
        | (apply bx_i; intro wb) | (apply gt_i; assumption; exact rfl)
        | (apply cx_is; first | assumption | (apply k1 <;> omega) | (apply k2 <;> omega) | (apply k3 <;> omega)) | (apply cx_do (i := 0) rfl; assumption)
        | (apply ab_i; intro wl) | (apply as_i; intro wa wk wc wh) | (apply av_i; intro wv) | (apply ac_i; intro wl wq wb)
        | apply bo_l | (apply nx_i <;> intro wb) | (apply Ia.hit; assumption) | (apply Ia.miss; assumption)
        | (apply rt_is; exact rfl) | exact rt_w | exact Ct.w | (apply iv; assumption)
        | exact True.intro | (apply bc_i; intro wC whC) | apply bt_i | apply og_n | (apply og_a; exact rfl) | apply dw_q mixed whC hGL (by kernel_rfl) | apply dw_q mixed hC hGL (by kernel_rfl) | (apply cq; assumption; (first | assumption | (apply k1 <;> omega) | (apply k2 <;> omega)); exact rfl))
    all_goals (try conv => whnf)
    all_goals (repeat (first | revert wb | revert wh | revert wc | revert wk | revert wa | revert wq | revert wl | revert wv | revert whC | revert wC))
    all_goals (apply Lf.l; with_reducible (repeat (first | apply ww | apply Lf.r)))) (e : Lz Q := by repeat (first | exact Lz.n | apply Lz.c)) : P := h ⟨hQ⟩
theorem xn0 {P : Prop} (h : P := by
    repeat' (first
      | (conv => whnf); first
        | refine .w ?_ | refine .v ?_ | apply sc_true | apply sc_false
        | (first | apply sc_lt | apply sc_nlt | apply sc_eq | apply sc_neq | apply sc_nil | apply sc_nnil | apply sc_seq | apply sc_nseq) <;> (intro wb; try exact dd wb)
        | apply sc_not | apply sc_or | (apply sc_i <;> intro wb)
        | (apply bx_i; intro wb) | (apply gt_i; assumption; exact rfl)
        | (apply cx_is; first | assumption | (apply k1 <;> omega) | (apply k2 <;> omega) | (apply k3 <;> omega)) | (apply cx_do (i := 0) rfl; assumption)
        | (apply ab_i; intro wl) | (apply as_i; intro wa wk wc wh) | (apply av_i; intro wv) | (apply ac_i; intro wl wq wb)
        | apply bo_l | (apply nx_i <;> intro wb) | (apply Ia.hit; assumption) | (apply Ia.miss; assumption)
        | (apply rt_is; exact rfl) | exact rt_w | exact Ct.w | (apply iv; assumption)
        | exact True.intro | (apply bc_i; intro wC whC) | apply bt_i | apply og_n | (apply og_a; exact rfl))
    all_goals (try conv => whnf)) : P := h
theorem xn1 {P Q : Prop} (hQ : Q) (h : Lf Q → P := by
    intro ww
    repeat' (first
      | (conv => whnf); first
        | refine .w ?_ | refine .v ?_ | apply sc_true | apply sc_false
        | (first | apply sc_lt | apply sc_nlt | apply sc_eq | apply sc_neq | apply sc_nil | apply sc_nnil | apply sc_seq | apply sc_nseq) <;> (intro wb; try exact dd wb)
        | apply sc_not | apply sc_or | (apply sc_i <;> intro wb)
        | (apply bx_i; intro wb) | (apply gt_i; assumption; exact rfl)
        | (apply cx_is; first | assumption | (apply k1 <;> omega) | (apply k2 <;> omega) | (apply k3 <;> omega)) | (apply cx_do (i := 0) rfl; assumption)
        | (apply ab_i; intro wl) | (apply as_i; intro wa wk wc wh) | (apply av_i; intro wv) | (apply ac_i; intro wl wq wb)
        | apply bo_l | (apply nx_i <;> intro wb) | (apply Ia.hit; assumption) | (apply Ia.miss; assumption)
        | (apply rt_is; exact rfl) | exact rt_w | exact Ct.w | (apply iv; assumption)
        | exact True.intro | (apply bc_i; intro wC whC) | apply bt_i | apply og_n | (apply og_a; exact rfl))
    all_goals (try conv => whnf)
    all_goals (repeat (first | revert wb | revert wh | revert wc | revert wk | revert wa | revert wq | revert wl | revert wv | revert whC | revert wC))
    all_goals (apply Lf.h; apply ww)) : P := h ⟨hQ⟩
theorem xn {P Q : Prop} (hQ : Q) (h : Lf Q → P := by
    intro ww
    repeat' (first
      | (conv => whnf); first
        | refine .w ?_ | refine .v ?_ | apply sc_true | apply sc_false
        | (first | apply sc_lt | apply sc_nlt | apply sc_eq | apply sc_neq | apply sc_nil | apply sc_nnil | apply sc_seq | apply sc_nseq) <;> (intro wb; try exact dd wb)
        | apply sc_not | apply sc_or | (apply sc_i <;> intro wb)
        | (apply bx_i; intro wb) | (apply gt_i; assumption; exact rfl)
        | (apply cx_is; first | assumption | (apply k1 <;> omega) | (apply k2 <;> omega) | (apply k3 <;> omega)) | (apply cx_do (i := 0) rfl; assumption)
        | (apply ab_i; intro wl) | (apply as_i; intro wa wk wc wh) | (apply av_i; intro wv) | (apply ac_i; intro wl wq wb)
        | apply bo_l | (apply nx_i <;> intro wb) | (apply Ia.hit; assumption) | (apply Ia.miss; assumption)
        | (apply rt_is; exact rfl) | exact rt_w | exact Ct.w | (apply iv; assumption)
        | exact True.intro | (apply bc_i; intro wC whC) | apply bt_i | apply og_n | (apply og_a; exact rfl))
    all_goals (try conv => whnf)
    all_goals (repeat (first | revert wb | revert wh | revert wc | revert wk | revert wa | revert wq | revert wl | revert wv | revert whC | revert wC))
    all_goals (apply Lf.l; with_reducible (repeat (first | apply ww | apply Lf.r)))) (e : Lz Q := by repeat (first | exact Lz.n | apply Lz.c)) : P := h ⟨hQ⟩
end Go.Proofs.YtgjckfphallmeaaGreatDoor
namespace Go.Proofs.YtgjckfphallmeaaGreatDoor
open Go
set_option maxRecDepth 20000
set_option maxHeartbeats 4000000
set_option linter.unusedSimpArgs false
set_option linter.unusedVariables false
attribute [local irreducible] AWp AOps byteAt SrcOK OrOk GloAll FnSpec
attribute [local irreducible] nextS badI badS stepS rngR ownB
def firstTab : List AVal := Go.Pinned.utf8FirstZ.map (fun x : Nat => AVal.int .u8 (x : Int))
def acceptTab : List AVal := [.int .u8 128, .int .u8 191, .int .u8 160, .int .u8 191, .int .u8 128, .int .u8 159, .int .u8 144, .int .u8 191, .int .u8 128, .int .u8 143, .int .u8 0, .int .u8 0, .int .u8 0, .int .u8 0, .int .u8 0, .int .u8 0, .int .u8 0, .int .u8 0, .int .u8 0, .int .u8 0, .int .u8 0, .int .u8 0, .int .u8 0, .int .u8 0, .int .u8 0, .int .u8 0, .int .u8 0, .int .u8 0, .int .u8 0, .int .u8 0, .int .u8 0, .int .u8 0]
def firstN (b : Nat) : Nat :=
  if b < 128 then 240 else if b < 194 then 241 else if b < 224 then 2 else if b = 224 then 19 else if b < 237 then 3 else if b = 237 then 35 else if b < 240 then 3 else if b = 240 then 52
  else if b < 244 then 4 else if b = 244 then 68 else 241
theorem firstN_ok : ∀ b : Fin 256, Go.Pinned.utf8FirstZ[b.1]? = some (firstN b.1) := by decide +kernel
theorem firstTab_at (b : Nat) (h : b < 256) : firstTab[b * 1]? = some (.int .u8 (firstN b : Int)) := by
  rw [Nat.mul_one]
  simp only [firstTab, List.getElem?_map, firstN_ok ⟨b, h⟩, Option.map_some]
/-- What it answers. -/
def runeS (s : List UInt8) : Nat × Nat := if s.length = 0 then (65533, 0) else if (nextS s).2 = 0 then (65533, 1) else nextS s
theorem xx_mask (b : Int) : IntKind.wrap .i32 (BitVec.ofInt 32 (IntKind.wrap .i32 (BitVec.ofInt 32 b &&& ~~~ BitVec.ofInt 32 (IntKind.wrap .i32 (241 * 2147483648) / 2147483648)).toNat) ||| BitVec.ofInt 32 (IntKind.wrap .i32 (BitVec.ofInt 32 65533 &&& BitVec.ofInt 32 (IntKind.wrap .i32 (241 * 2147483648) / 2147483648)).toNat)).toNat = 65533 := by
  have e : (~~~ BitVec.ofInt 32 (IntKind.wrap .i32 (241 * 2147483648) / 2147483648)) = 0#32 := by decide +kernel
  rw [e, BitVec.and_zero]
  decide +kernel
attribute [local irreducible] firstTab
/-- The two tables of package utf8. -/
abbrev utfTy : List (Nat × List AVal) := [(3, firstTab), (4, acceptTab)]
theorem dec_cases (b : Nat) (h : b < 256) (h1 : 128 ≤ b) :
    (firstTab[b * 1]? = some (.int .u8 241) ∧ (b < 194 ∨ 245 ≤ b)) ∨ (firstTab[b * 1]? = some (.int .u8 2) ∧ 194 ≤ b ∧ b < 224) ∨ (firstTab[b * 1]? = some (.int .u8 19) ∧ b = 224)
    ∨ (firstTab[b * 1]? = some (.int .u8 3) ∧ 225 ≤ b ∧ b < 240 ∧ b ≠ 237) ∨ (firstTab[b * 1]? = some (.int .u8 35) ∧ b = 237) ∨ (firstTab[b * 1]? = some (.int .u8 52) ∧ b = 240)
    ∨ (firstTab[b * 1]? = some (.int .u8 4) ∧ 241 ≤ b ∧ b < 244) ∨ (firstTab[b * 1]? = some (.int .u8 68) ∧ b = 244) := by
  have e := firstTab_at b h
  have key : ∀ c : Nat, firstN b = c → firstTab[b * 1]? = some (.int .u8 (c : Int)) := fun c hc => by rw [e, hc]
  by_cases c1 : b < 194 ∨ 245 ≤ b
  · refine .inl ⟨key 241 (by unfold firstN; (repeat' split) <;> omega), c1⟩
  by_cases c2 : b < 224
  · refine .inr (.inl ⟨key 2 (by unfold firstN; (repeat' split) <;> omega), by omega, c2⟩)
  by_cases c3 : b = 224
  · subst c3; exact .inr (.inr (.inl ⟨key 19 rfl, rfl⟩))
  by_cases c5 : b = 237
  · subst c5; exact .inr (.inr (.inr (.inr (.inl ⟨key 35 rfl, rfl⟩))))
  by_cases c4 : b < 240
  · refine .inr (.inr (.inr (.inl ⟨key 3 (by unfold firstN; (repeat' split) <;> omega), by omega, c4, c5⟩)))
  by_cases c6 : b = 240
  · subst c6; exact .inr (.inr (.inr (.inr (.inr (.inl ⟨key 52 rfl, rfl⟩)))))
  by_cases c7 : b < 244
  · refine .inr (.inr (.inr (.inr (.inr (.inr (.inl ⟨key 4 (by unfold firstN; (repeat' split) <;> omega), by omega, c7⟩))))))
  have c8 : b = 244 := by omega
  subst c8
  exact .inr (.inr (.inr (.inr (.inr (.inr (.inr ⟨key 68 rfl, rfl⟩))))))
theorem rune_bad {s : List UInt8} {a b : Int} (h0 : ¬ s.length = 0) (h : ((nextS s).1 : Int) = 0 ∧ ((nextS s).2 : Int) = 0) (ha : a = 65533) (hb : b = 1) : ((runeS s).1 : Int) = a ∧ ((runeS s).2 : Int) = b := by
  have : (nextS s).2 = 0 := by omega
  subst ha hb
  simp [runeS, h0, this]
theorem rune_ok {s : List UInt8} {a b : Int} (h0 : ¬ s.length = 0) (h : ((nextS s).1 : Int) = a ∧ ((nextS s).2 : Int) = b) (hb : 0 < b) : ((runeS s).1 : Int) = a ∧ ((runeS s).2 : Int) = b := by
  have : ¬ (nextS s).2 = 0 := by omega
  simpa [runeS, h0, this] using h
theorem dec_slow {G : Glo} (hGL : GloAll G utfTy) (s : List UInt8) (hs : s.length = 0 ∨ 128 ≤ byteAt s 0) :
    FnIs Tryz.prog G 89 [.str s] (.tuple [.int .i32 ((runeS s).1 : Int), .int .i64 ((runeS s).2 : Int)]) := by
  refine fn_x Tryz.func89 Tryz.call89 rfl rfl rfl rfl hGL ?_
  intro C hC
  by_cases h0 : s.length = 0
  · repeat' (first
      | (conv => whnf); first
        | refine .w ?_ | refine .v ?_ | apply sc_true | apply sc_false
        | (first | apply sc_lt | apply sc_nlt | apply sc_eq | apply sc_neq | apply sc_nil | apply sc_nnil | apply sc_seq | apply sc_nseq) <;> (intro hb; try exact dd hb)
        | apply sc_not | apply sc_or | (apply sc_i <;> intro hb)
        | (apply bx_i; intro hbd) | (apply gt_i; assumption; exact rfl)
        | (apply cx_is; first | fail) | (apply cx_do (i := 0) rfl; first | fail)
        | (apply ab_i; intro bl) | (apply as_i; intro va vk vc hva) | (apply av_i; intro v) | (apply ac_i; intro bl cap hcap)
        | apply bo_l | (apply nx_i <;> intro hnx) | (apply Ia.hit; assumption) | (apply Ia.miss; assumption)
        | (apply rt_is; exact rfl) | exact rt_w | (apply iv; assumption)
        | apply dw_q mixed hC hGL (by kernel_rfl) | (apply cq; assumption; (first | fail); exact rfl))
    all_goals (try conv => whnf)
    refine tup2 ?_
    simp only [runeS, if_pos h0]
    exact ⟨rfl, rfl⟩
  replace hs : 128 ≤ byteAt s 0 := by omega
  have hdc := dec_cases (byteAt s 0) (byteAt_lt s 0) hs
  repeat' (first
    | (conv => whnf); first
      | refine .w ?_ | refine .v ?_ | apply sc_true | apply sc_false
      | (first | apply sc_lt | apply sc_nlt | apply sc_eq | apply sc_neq | apply sc_nil | apply sc_nnil | apply sc_seq | apply sc_nseq) <;> (intro hb; try exact dd hb)
      | apply sc_not | apply sc_or | (apply sc_i <;> intro hb)
      | (apply bx_i; intro hbd) | (apply gt_i; assumption; exact rfl)
      | (apply cx_is; first | fail) | (apply cx_do (i := 0) rfl; first | fail)
      | (apply ab_i; intro bl) | (apply as_i; intro va vk vc hva) | (apply av_i; intro v) | (apply ac_i; intro bl cap hcap)
      | apply bo_l | (apply nx_i <;> intro hnx) | (apply Ia.hit; assumption) | (apply Ia.miss; assumption)
      | (apply rt_is; exact rfl) | exact rt_w | (apply iv; assumption)
      | apply dw_q mixed hC hGL (by kernel_rfl) | (apply cq; assumption; (first | fail); exact rfl))
  all_goals (try conv => whnf)
  rcases hdc with ⟨hx, hb⟩ | ⟨hx, hb⟩ | ⟨hx, hb⟩ | ⟨hx, hb⟩ | ⟨hx, hb⟩ | ⟨hx, hb⟩ | ⟨hx, hb⟩ | ⟨hx, hb⟩
  all_goals (erw [hx])
  · repeat' (first
      | (conv => whnf); first
        | refine .w ?_ | refine .v ?_ | apply sc_true | apply sc_false
        | (first | apply sc_lt | apply sc_nlt | apply sc_eq | apply sc_neq | apply sc_nil | apply sc_nnil | apply sc_seq | apply sc_nseq) <;> (intro hb; try exact dd hb)
        | apply sc_not | apply sc_or | (apply sc_i <;> intro hb)
        | (apply bx_i; intro hbd) | (apply gt_i; assumption; exact rfl)
        | (apply cx_is; first | fail) | (apply cx_do (i := 0) rfl; first | fail)
        | (apply ab_i; intro bl) | (apply as_i; intro va vk vc hva) | (apply av_i; intro v) | (apply ac_i; intro bl cap hcap)
        | apply bo_l | (apply nx_i <;> intro hnx) | (apply Ia.hit; assumption) | (apply Ia.miss; assumption)
        | (apply rt_is; exact rfl) | exact rt_w | (apply iv; assumption)
        | apply dw_q mixed hC hGL (by kernel_rfl) | (apply cq; assumption; (first | fail); exact rfl))
    all_goals (try conv => whnf)
    apply ch_r
    repeat' (first
      | (conv => whnf); first
        | refine .w ?_ | refine .v ?_ | apply sc_true | apply sc_false
        | (first | apply sc_lt | apply sc_nlt | apply sc_eq | apply sc_neq | apply sc_nil | apply sc_nnil | apply sc_seq | apply sc_nseq) <;> (intro hb; try exact dd hb)
        | apply sc_not | apply sc_or | (apply sc_i <;> intro hb)
        | (apply bx_i; intro hbd) | (apply gt_i; assumption; exact rfl)
        | (apply cx_is; first | fail) | (apply cx_do (i := 0) rfl; first | fail)
        | (apply ab_i; intro bl) | (apply as_i; intro va vk vc hva) | (apply av_i; intro v) | (apply ac_i; intro bl cap hcap)
        | apply bo_l | (apply nx_i <;> intro hnx) | (apply Ia.hit; assumption) | (apply Ia.miss; assumption)
        | (apply rt_is; exact rfl) | exact rt_w | (apply iv; assumption)
        | apply dw_q mixed hC hGL (by kernel_rfl) | (apply cq; assumption; (first | fail); exact rfl))
    all_goals (try conv => whnf)
    apply ch_r
    repeat' (first
      | (conv => whnf); first
        | refine .w ?_ | refine .v ?_ | apply sc_true | apply sc_false
        | (first | apply sc_lt | apply sc_nlt | apply sc_eq | apply sc_neq | apply sc_nil | apply sc_nnil | apply sc_seq | apply sc_nseq) <;> (intro hb; try exact dd hb)
        | apply sc_not | apply sc_or | (apply sc_i <;> intro hb)
        | (apply bx_i; intro hbd) | (apply gt_i; assumption; exact rfl)
        | (apply cx_is; first | fail) | (apply cx_do (i := 0) rfl; first | fail)
        | (apply ab_i; intro bl) | (apply as_i; intro va vk vc hva) | (apply av_i; intro v) | (apply ac_i; intro bl cap hcap)
        | apply bo_l | (apply nx_i <;> intro hnx) | (apply Ia.hit; assumption) | (apply Ia.miss; assumption)
        | (apply rt_is; exact rfl) | exact rt_w | (apply iv; assumption)
        | apply dw_q mixed hC hGL (by kernel_rfl) | (apply cq; assumption; (first | fail); exact rfl))
    all_goals (try conv => whnf)
    apply ch_r
    repeat' (first
      | (conv => whnf); first
        | refine .w ?_ | refine .v ?_ | apply sc_true | apply sc_false
        | (first | apply sc_lt | apply sc_nlt | apply sc_eq | apply sc_neq | apply sc_nil | apply sc_nnil | apply sc_seq | apply sc_nseq) <;> (intro hb; try exact dd hb)
        | apply sc_not | apply sc_or | (apply sc_i <;> intro hb)
        | (apply bx_i; intro hbd) | (apply gt_i; assumption; exact rfl)
        | (apply cx_is; first | fail) | (apply cx_do (i := 0) rfl; first | fail)
        | (apply ab_i; intro bl) | (apply as_i; intro va vk vc hva) | (apply av_i; intro v) | (apply ac_i; intro bl cap hcap)
        | apply bo_l | (apply nx_i <;> intro hnx) | (apply Ia.hit; assumption) | (apply Ia.miss; assumption)
        | (apply rt_is; exact rfl) | exact rt_w | (apply iv; assumption)
        | apply dw_q mixed hC hGL (by kernel_rfl) | (apply cq; assumption; (first | fail); exact rfl))
    all_goals (try conv => whnf)
    clear hx
    refine tup2 ?_
    refine rune_bad h0 ?_ (xx_mask _) rfl
    generalize hz : nextS s = z
    unfold nextS contAt mayN cp2 cp3 cp4 at hz
    try simp only [show Int.toNat 0 = 0 from rfl, show Int.toNat 1 = 1 from rfl, show Int.toNat (1 + 1) = 2 from rfl, show Int.toNat (1 + 1 + 1) = 3 from rfl] at *
    generalize byteAt s 0 = b0 at *
    generalize byteAt s 1 = b1 at *
    generalize byteAt s 2 = b2 at *
    generalize byteAt s 3 = b3 at *
    generalize s.length = l at *
    repeat' (split at hz; try (exfalso; omega))
    all_goals (try subst z)
    all_goals (first
      | exact ⟨rfl, rfl⟩
      | (simp only [Bool.and_eq_true, Bool.or_eq_true, decide_eq_true_eq, beq_iff_eq] at *; first | (exfalso; omega) | omega))
  all_goals (repeat' (first
               | (conv => whnf); first
                 | refine .w ?_ | refine .v ?_ | apply sc_true | apply sc_false
                 | (first | apply sc_lt | apply sc_nlt | apply sc_eq | apply sc_neq | apply sc_nil | apply sc_nnil | apply sc_seq | apply sc_nseq) <;> (intro hb; try exact dd hb)
                 | apply sc_not | apply sc_or | (apply sc_i <;> intro hb)
                 | (apply bx_i; intro hbd) | (apply gt_i; assumption; exact rfl)
                 | (apply cx_is; first | fail) | (apply cx_do (i := 0) rfl; first | fail)
                 | (apply ab_i; intro bl) | (apply as_i; intro va vk vc hva) | (apply av_i; intro v) | (apply ac_i; intro bl cap hcap)
                 | apply bo_l | (apply nx_i <;> intro hnx) | (apply Ia.hit; assumption) | (apply Ia.miss; assumption)
                 | (apply rt_is; exact rfl) | exact rt_w | (apply iv; assumption)
                 | apply dw_q mixed hC hGL (by kernel_rfl) | (apply cq; assumption; (first | fail); exact rfl))
             all_goals (try conv => whnf))
  all_goals (clear hx; refine tup2 ?_)
  all_goals (first
    | (refine rune_bad h0 ?_ rfl rfl
       generalize hz : nextS s = z
       unfold nextS contAt mayN cp2 cp3 cp4 at hz
       try simp only [show Int.toNat 0 = 0 from rfl, show Int.toNat 1 = 1 from rfl, show Int.toNat (1 + 1) = 2 from rfl, show Int.toNat (1 + 1 + 1) = 3 from rfl] at *
       generalize byteAt s 0 = b0 at *
       generalize byteAt s 1 = b1 at *
       generalize byteAt s 2 = b2 at *
       generalize byteAt s 3 = b3 at *
       generalize s.length = l at *
       repeat' (split at hz; try (exfalso; omega))
       all_goals (try subst z)
       all_goals (first
         | exact ⟨rfl, rfl⟩
         | (simp only [Bool.and_eq_true, Bool.or_eq_true, decide_eq_true_eq, beq_iff_eq] at *; first | (exfalso; omega) | omega))
       done)
    | (refine rune_ok h0 ?_ (by decide)
       generalize hz : nextS s = z
       unfold nextS contAt mayN cp2 cp3 cp4 at hz
       try simp only [show Int.toNat 0 = 0 from rfl, show Int.toNat 1 = 1 from rfl, show Int.toNat (1 + 1) = 2 from rfl, show Int.toNat (1 + 1 + 1) = 3 from rfl] at *
       generalize byteAt s 0 = b0 at *
       generalize byteAt s 1 = b1 at *
       generalize byteAt s 2 = b2 at *
       generalize byteAt s 3 = b3 at *
       generalize s.length = l at *
       repeat' (split at hz; try (exfalso; omega))
       all_goals (try subst z)
       all_goals (first
         | exact ⟨rfl, rfl⟩
         | (simp only [Bool.and_eq_true, Bool.or_eq_true, decide_eq_true_eq, beq_iff_eq] at *; first | (exfalso; omega) | omega))))
theorem dec_rune {G : Glo} (hGL : GloAll G utfTy) (s : List UInt8) :
    FnIs Tryz.prog G 74 [.str s] (.tuple [.int .i32 ((runeS s).1 : Int), .int .i64 ((runeS s).2 : Int)]) := by
  refine fn_x Tryz.func74 Tryz.call74 rfl rfl rfl rfl hGL ?_
  intro C hC
  by_cases h0 : s.length = 0 ∨ 128 ≤ byteAt s 0
  · have hd := dec_slow (G := G) hGL s h0
    by_cases h1 : s.length = 0
    all_goals (repeat' (first
                 | (conv => whnf); first
                   | refine .w ?_ | refine .v ?_ | apply sc_true | apply sc_false
                   | (first | apply sc_lt | apply sc_nlt | apply sc_eq | apply sc_neq | apply sc_nil | apply sc_nnil | apply sc_seq | apply sc_nseq) <;> (intro hb; try exact dd hb)
                   | apply sc_not | apply sc_or | (apply sc_i <;> intro hb)
                   | (apply bx_i; intro hbd) | (apply gt_i; assumption; exact rfl)
                   | (apply cx_is; first | exact hd) | (apply cx_do (i := 0) rfl; first | exact hd)
                   | (apply ab_i; intro bl) | (apply as_i; intro va vk vc hva) | (apply av_i; intro v) | (apply ac_i; intro bl cap hcap)
                   | apply bo_l | (apply nx_i <;> intro hnx) | (apply Ia.hit; assumption) | (apply Ia.miss; assumption)
                   | (apply rt_is; exact rfl) | exact rt_w | (apply iv; assumption)
                   | apply dw_q mixed hC hGL (by kernel_rfl) | (apply cq; assumption; (first | exact hd); exact rfl))
               all_goals (try conv => whnf))
    all_goals (exfalso; simp only [Int.toNat_zero] at *; omega)
  · repeat' (first
      | (conv => whnf); first
        | refine .w ?_ | refine .v ?_ | apply sc_true | apply sc_false
        | (first | apply sc_lt | apply sc_nlt | apply sc_eq | apply sc_neq | apply sc_nil | apply sc_nnil | apply sc_seq | apply sc_nseq) <;> (intro hb; try exact dd hb)
        | apply sc_not | apply sc_or | (apply sc_i <;> intro hb)
        | (apply bx_i; intro hbd) | (apply gt_i; assumption; exact rfl)
        | (apply cx_is; first | fail) | (apply cx_do (i := 0) rfl; first | fail)
        | (apply ab_i; intro bl) | (apply as_i; intro va vk vc hva) | (apply av_i; intro v) | (apply ac_i; intro bl cap hcap)
        | apply bo_l | (apply nx_i <;> intro hnx) | (apply Ia.hit; assumption) | (apply Ia.miss; assumption)
        | (apply rt_is; exact rfl) | exact rt_w | (apply iv; assumption)
        | apply dw_q mixed hC hGL (by kernel_rfl) | (apply cq; assumption; (first | fail); exact rfl))
    all_goals (try conv => whnf)
    refine tup2 ?_
    refine rune_ok (by omega) ?_ (by decide)
    generalize hz : nextS s = z
    unfold nextS contAt mayN cp2 cp3 cp4 at hz
    try simp only [show Int.toNat 0 = 0 from rfl, show Int.toNat 1 = 1 from rfl, show Int.toNat (1 + 1) = 2 from rfl, show Int.toNat (1 + 1 + 1) = 3 from rfl] at *
    generalize byteAt s 0 = b0 at *
    generalize byteAt s 1 = b1 at *
    generalize byteAt s 2 = b2 at *
    generalize byteAt s 3 = b3 at *
    generalize s.length = l at *
    repeat' (split at hz; try (exfalso; omega))
    all_goals (try subst z)
    all_goals (first
      | exact ⟨rfl, rfl⟩
      | (simp only [Bool.and_eq_true, Bool.or_eq_true, decide_eq_true_eq, beq_iff_eq] at *; first | (exfalso; omega) | omega))
end Go.Proofs.YtgjckfphallmeaaGreatDoor
namespace Go.Proofs.YtgjckfphallmeaaGreatDoor
open Go
set_option maxRecDepth 20000
set_option maxHeartbeats 4000000
set_option linter.unusedSimpArgs false
set_option linter.unusedVariables false
attribute [local irreducible] AWp AOps byteAt SrcOK OrOk GloAll FnSpec
attribute [local irreducible] nextS badI badS stepS rngR ownB
attribute [local irreducible] firstTab runeS
theorem nextS_facts (s : List UInt8) : ((nextS s).2 = 0 → (nextS s).1 = 0) ∧ ((nextS s).2 = 1 → (nextS s).1 < 128) ∧ (s.length = 0 → (nextS s).2 = 0) := by
  refine ⟨?_, ?_, ?_⟩
  · unfold nextS; (repeat' split) <;> simp
  · unfold nextS; (repeat' split) <;> simp; omega
  · intro h; unfold nextS; simp [h]
theorem rune_next (s : List UInt8) : (((nextS s).2 : Int) = 0 → ((runeS s).2 : Int) = 0 ∧ s.length = 0 ∨ ((runeS s).1 : Int) = 65533 ∧ ((runeS s).2 : Int) = 1) ∧ (((nextS s).2 : Int) ≠ 0 → ((runeS s).1 : Int) = (nextS s).1 ∧ ((runeS s).2 : Int) = (nextS s).2) := by
  have hf := nextS_facts s
  unfold runeS
  by_cases h0 : s.length = 0
  · rw [if_pos h0]
    refine ⟨fun _ => .inl ⟨rfl, h0⟩, fun h => absurd (hf.2.2 h0) (by omega)⟩
  · rw [if_neg h0]
    by_cases h1 : (nextS s).2 = 0
    · rw [if_pos h1]
      exact ⟨fun _ => .inr ⟨rfl, rfl⟩, fun h => absurd h1 (by omega)⟩
    · rw [if_neg h1]
      exact ⟨fun h => absurd h (by omega), fun _ => ⟨rfl, rfl⟩⟩
theorem ref_Next {G : Glo} (hU : GloAll G utfTy) (s : List UInt8) :
    FnIs Tryz.prog G 56 [.str s] (.tuple [.int .i64 ((nextS s).1 : Int), .int .i64 ((nextS s).2 : Int)]) := by
  have hGL : GloAll G [] := gloAll_nil
  refine fn_x Tryz.func56 Tryz.call56 rfl rfl rfl rfl hGL ?_
  intro C hC
  have hd := dec_rune (G := G) hU s
  have hn := nextS_le s
  have hf := nextS_facts s
  have hr := rune_next s
  have hk : ((runeS s).1 : Int) ≤ 1114111 := by
    by_cases h : (nextS s).2 = 0
    · unfold runeS; rw [if_pos h]; split <;> decide
    · omega
  repeat' (first
    | (conv => whnf); first
      | refine .w ?_ | refine .v ?_ | apply sc_true | apply sc_false
      | (first | apply sc_lt | apply sc_nlt | apply sc_eq | apply sc_neq | apply sc_nil | apply sc_nnil | apply sc_seq | apply sc_nseq) <;> (intro hb; try exact dd hb)
      | apply sc_not | apply sc_or | (apply sc_i <;> intro hb)
      | (apply bx_i; intro hbd) | (apply gt_i; assumption; exact rfl)
      | (apply cx_is; first | exact hd) | (apply cx_do (i := 0) rfl; first | exact hd)
      | (apply ab_i; intro bl) | (apply as_i; intro va vk vc hva) | (apply av_i; intro v) | (apply ac_i; intro bl cap hcap)
      | apply bo_l | (apply nx_i <;> intro hnx) | (apply Ia.hit; assumption) | (apply Ia.miss; assumption)
      | (apply rt_is; exact rfl) | exact rt_w | (apply iv; assumption)
      | apply dw_q mixed hC hGL (by kernel_rfl) | (apply cq; assumption; (first | exact hd); exact rfl))
  all_goals (try conv => whnf)
  all_goals (refine tup2 ?_; omega)
theorem ref_Bad {G : Glo} (hU : GloAll G utfTy) (s : List UInt8) (hl : s.length ≤ 9223372036854775807) : FnIs Tryz.prog G 28 [.str s] (.int .i64 (badI s)) := by
  have hGL : GloAll G [] := gloAll_nil
  refine fn_x Tryz.func28 Tryz.call28 rfl rfl rfl rfl hGL ?_
  intro C hC
  have hle := fun k => nextS_le (s.drop k)
  have hN := fun t => ref_Next (G := G) hU t
  repeat' (first
    | (conv => whnf); first
      | refine .w ?_ | refine .v ?_ | apply sc_true | apply sc_false
      | (first | apply sc_lt | apply sc_nlt | apply sc_eq | apply sc_neq | apply sc_nil | apply sc_nnil | apply sc_seq | apply sc_nseq) <;> (intro hb; try exact dd hb)
      | apply sc_not | apply sc_or | (apply sc_i <;> intro hb)
      | (apply bx_i; intro hbd) | (apply gt_i; assumption; exact rfl)
      | (apply cx_is; first | exact hN _) | (apply cx_do (i := 0) rfl; first | exact hN _)
      | (apply ab_i; intro bl) | (apply as_i; intro va vk vc hva) | (apply av_i; intro v) | (apply ac_i; intro bl cap hcap)
      | apply bo_l | (apply nx_i <;> intro hnx) | (apply Ia.hit; assumption) | (apply Ia.miss; assumption)
      | (apply rt_is; exact rfl) | exact rt_w | (apply iv; assumption)
      | apply dw_q mixed hC hGL (by kernel_rfl) | (apply cq; assumption; (first | exact hN _); exact rfl))
  all_goals (try conv => whnf)
  refine lp hC hGL (fun (i : Nat) => [(0, .str s), (7, .own 0 (.pointer (some ⟨bl, 0, none⟩)))]) (fun i => [.iter bl s i]) (fun i => i ≤ s.length ∧ badS s = (badS (s.drop i)).map (· + i)) (fun i => s.length - i) 0 ?_ env_w rfl ?_
  · exact ⟨Nat.zero_le _, by simp⟩
  rintro i ⟨hi, hb0⟩
  have hn := hle i
  rw [List.length_drop] at hn
  repeat' (first
    | (conv => whnf); first
      | refine .w ?_ | refine .v ?_ | apply sc_true | apply sc_false
      | (first | apply sc_lt | apply sc_nlt | apply sc_eq | apply sc_neq | apply sc_nil | apply sc_nnil | apply sc_seq | apply sc_nseq) <;> (intro hb; try exact dd hb)
      | apply sc_not | apply sc_or | (apply sc_i <;> intro hb)
      | (apply bx_i; intro hbd) | (apply gt_i; assumption; exact rfl)
      | (apply cx_is; first | exact hN _) | (apply cx_do (i := 0) rfl; first | exact hN _)
      | (apply ab_i; intro bl) | (apply as_i; intro va vk vc hva) | (apply av_i; intro v) | (apply ac_i; intro bl cap hcap)
      | apply bo_l | (apply nx_i <;> intro hnx) | (apply Ia.hit; assumption) | (apply Ia.miss; assumption)
      | (apply rt_is; exact rfl) | exact rt_w | (apply iv; assumption)
      | apply dw_q mixed hC hGL (by kernel_rfl) | (apply cq; assumption; (first | exact hN _); exact rfl))
  all_goals (try conv => whnf)
  · apply rt_is
    refine congrArg (AVal.int .i64) ?_
    have h1 := badS_step (s.drop i) (by rw [List.length_drop]; omega)
    rw [if_pos (by omega)] at h1
    rw [h1] at hb0
    simp only [badI, hb0, Option.map_some, Nat.zero_add]
  · have h1 := badS_step (s.drop i) (by rw [List.length_drop]; omega)
    rw [if_neg (by omega)] at h1
    have h2 : stepS (s.drop i) = (nextS (s.drop i)).2 := by unfold stepS; rw [if_neg (by omega)]
    refine nxt (i + stepS (s.drop i)) ⟨by omega, ?_⟩ (by omega) ⟨rfl, rfl, trivial⟩ rfl
    rw [hb0, h1, List.drop_drop, h2]
    cases badS (s.drop (i + (nextS (s.drop i)).2)) <;> simp <;> omega
  · apply rt_is
    refine congrArg (AVal.int .i64) ?_
    rw [badS_nil (s.drop i) (by rw [List.length_drop]; omega)] at hb0
    simp only [badI, hb0, Option.map_none]
end Go.Proofs.YtgjckfphallmeaaGreatDoor
namespace Go.Proofs.YtgjckfphallmeaaGreatDoor
open Go Go.RowKit
theorem hdC_yes {b : Bool} {c : Int} (h : (c < 32 ∧ c ≠ 9 ∧ c ≠ 10) ∨ c = 127 ∨ (c = 10 ∧ b = false)) : hdC b c = true := decide_eq_true (by
  rcases h with h | h | h
  · exact .inl ⟨h.1, h.2.1, .inl h.2.2⟩
  · exact .inr h
  · exact .inl ⟨by omega, by omega, .inr h.2⟩)
theorem hdC_not {b : Bool} {c : Int} (h1 : c ≠ 127) (h : 32 ≤ c ∨ c = 9 ∨ (c = 10 ∧ b = true)) : hdC b c = false := decide_eq_false (by
  rintro (k | k)
  · rcases h with h | h | h
    · omega
    · omega
    · rcases k.2.2 with m | m
      · exact m h.1
      · rw [h.2] at m; cases m
  · exact h1 k)
theorem hdC_t {c : Int} : hdC true c = true ↔ (c < 32 ∧ c ≠ 9 ∧ c ≠ 10) ∨ c = 127 := by simp [hdC]
theorem hdC_f {c : Int} : hdC false c = true ↔ (c < 32 ∧ c ≠ 9) ∨ c = 127 := by simp [hdC]
theorem hdB_no {b : Bool} {s : List UInt8} {i : Nat} (hi : i < s.length) (h : hdC b (byteAt s i : Int) = true) (hb : ∀ j, j < i → hdC b (byteAt s j : Int) = false) : hdB b s = false := by
  unfold hdB
  rw [fstB_at hi h hb]
  exact decide_eq_false (by omega)
theorem hdB_end {b : Bool} {s : List UInt8} {i : Nat} (hi : s.length ≤ i) (hb : ∀ j, j < i → hdC b (byteAt s j : Int) = false) : hdB b s = ltB (badI s) 0 := by
  unfold hdB
  rw [fstB_none (fun j hj => hb j (by omega)), Bool.eq_iff_iff, ltB_t]
  simp
set_option maxRecDepth 20000
set_option maxHeartbeats 4000000
set_option linter.unusedSimpArgs false
set_option linter.unusedVariables false
attribute [local irreducible] AWp AOps byteAt SrcOK OrOk GloAll FnSpec
attribute [local irreducible] hdC hdB badI
theorem value_Holds {G : Glo} (s : List UInt8) (b : Bool) (hl : s.length ≤ 9223372036854775807) : FnIs Tryz.prog G 9 [.str s, .bool b] (.bool (hdB b s)) := by
  have hB := utf_Bad (G := G) s hl
  have hGL : GloAll G [] := gloAll_nil
  refine fn_x Tryz.func9 Tryz.call9 rfl rfl rfl rfl hGL ?_
  intro C hC
  refine xw1 ?_
  refine lp hC hGL (fun i : Nat => [(0, .str s), (1, .bool b), (8, .int .i64 (s.length : Nat)), (9, .int .i64 (i : Nat))]) (fun _ => []) (fun i => i ≤ s.length ∧ ∀ j, j < i → hdC b (byteAt s j : Int) = false) (fun i => s.length - i) 0 ?_ env_w rfl ?_
  · exact ⟨Nat.zero_le _, fun j h => absurd h (Nat.not_lt_zero _)⟩
  rintro i ⟨h1, h2⟩
  refine xw ?_
  repeat' (first | exact Le.n | refine Lc.mk ?_ ?_)
  all_goals intros
  all_goals first
    | (apply rt_is; rw [hdB_no (i := i) (by omega) (by first | exact hdC_yes (.inl (by omega)) | exact hdC_yes (.inr (.inl (by omega))) | exact hdC_yes (.inr (.inr ⟨by omega, by assumption⟩))) h2]; rfl)
    | (refine nxt (i + 1) ⟨by omega, below_succ h2 (by first | exact hdC_not (by omega) (.inl (by omega)) | exact hdC_not (by omega) (.inr (.inl (by omega))) | exact hdC_not (by omega) (.inr (.inr ⟨by omega, by assumption⟩)))⟩ (by omega) env_w rfl)
    | (apply rt_is; rw [hdB_end (i := i) (by omega) h2])
/-- The first byte of which something holds that a function with one variable of its own tells. -/
theorem ref_firstOf1 {G : Glo} (s : List UInt8) (f : Nat) (cs : List AVal) (p : Int → Bool) (hl : s.length ≤ 9223372036854775807) (hp : ∀ c : Nat, c < 256 → FnIs Tryz.prog G f [.int .u8 (c : Int), .rop cs 0] (.bool (p c))) : FnIs Tryz.prog G 29 [.str s, .func (.func f) [] [.rop cs 0]] (.int .i64 (fstB p s)) := by
  have k1 := fun i (_ : 0 ≤ (byteAt s i : Int)) => hp (byteAt s i) (byteAt_lt s i)
  have hGL : GloAll G [] := gloAll_nil
  refine fn_x Tryz.func29 Tryz.call29 rfl rfl rfl rfl hGL ?_
  intro C hC
  refine xw1 ?_
  intro bl cap hcap
  refine lp hC hGL (fun (i : Nat) => [(1, .func (.func f) [] [.rop cs 0]), (8, .own 0 (.slice (some ⟨bl, 0, none⟩) s.length cap)), (9, .int .i64 s.length), (10, .int .i64 i)]) (fun _ => [.buf bl s cap]) (fun i => i ≤ s.length ∧ ∀ j, j < i → p (byteAt s j : Int) = false) (fun i => s.length - i) 0 ?_ env_w rfl ?_
  · exact ⟨Nat.zero_le _, fun j h => absurd h (Nat.not_lt_zero _)⟩
  rintro i ⟨hi, hb0⟩
  refine xw ?_
  repeat' (first | exact Le.n | refine Lc.mk ?_ ?_)
  all_goals intros
  all_goals first
    | (apply rt_is; rw [fstB_at (i := i) (by omega) (by assumption) hb0])
    | (refine nxt (i + 1) ⟨by omega, below_succ hb0 (by assumption)⟩ (by omega) env_w rfl)
    | (apply rt_is; rw [fstB_none (fun j hj => hb0 j (by omega))]; rfl)
theorem ref_control {G : Glo} (c : Int) : FnIs Tryz.prog G 31 [.int .u8 c] (.bool (hdC false c)) := by
  have hGL : GloAll G [] := gloAll_nil
  refine fn_x Tryz.func31 Tryz.call31 rfl rfl rfl rfl hGL ?_
  intro C hC
  refine xw ?_
  repeat' (first | exact Le.n | refine Lc.mk ?_ ?_)
  all_goals intros
  all_goals (apply rt_is; refine congrArg AVal.bool ?_)
  all_goals (rw [Bool.eq_iff_iff, hdC_f]; simp only [eqB_t, reduceCtorEq, true_iff, false_iff]; omega)
theorem ref_Holds1 {G : Glo} (b : Bool) (c : Int) : FnIs Tryz.prog G 30 [.int .u8 c, .rop [.bool b] 0] (.bool (hdC b c)) := by
  have h := ref_control (G := G) c
  have hGL : GloAll G [] := gloAll_nil
  refine fn_x Tryz.func30 Tryz.call30 rfl rfl rfl rfl hGL ?_
  intro C hC
  refine xw ?_; refine ⟨fun h1 h2 => ?_, fun h1 h2 => ?_, fun h1 => ?_, .n⟩
  all_goals (apply rt_is; refine congrArg AVal.bool ?_; first | rw [hdC_f] at h1 | rw [← Bool.not_eq_true, hdC_f] at h1)
  · rcases h1 with h1 | h1
    · exact (hdC_yes (.inl ⟨h1.1, h1.2, h2⟩)).symm
    · exact (hdC_yes (.inr (.inl h1))).symm
  · rw [Bool.eq_iff_iff]; cases b
    · rw [hdC_f]; simp; omega
    · rw [hdC_t]; simp; omega
  · cases b
    · rw [Bool.eq_iff_iff, hdC_f]; simp; omega
    · rw [Bool.eq_iff_iff, hdC_t]; simp; omega
theorem ref_Holds {G : Glo} (hU : GloAll G utfTy) (s : List UInt8) (b : Bool) (hl : s.length ≤ 9223372036854775807) : FnIs Tryz.prog G 10 [.str s, .bool b] (.bool (hdB b s)) := by
  have h1 := ref_Bad hU s hl
  have h2 := ref_firstOf1 (G := G) s 30 [.bool b] (hdC b) hl (fun c _ => ref_Holds1 b c)
  have hGL : GloAll G [] := gloAll_nil
  refine fn_x Tryz.func10 Tryz.call10 rfl rfl rfl rfl hGL ?_
  intro C hC
  refine xw ?_; refine ⟨fun h => ?_, fun h => ?_, .n⟩
  all_goals (apply rt_is; refine congrArg AVal.bool ?_; unfold hdB; rw [Bool.eq_iff_iff]; simp only [ltB_t, decide_eq_true_eq, reduceCtorEq, false_iff]; omega)
end Go.Proofs.YtgjckfphallmeaaGreatDoor
namespace Go.Proofs.YtgjckfphallmeaaGreatDoor
open Go
set_option linter.unusedSimpArgs false
def andL : List Bool → Bool
  | [] => true
  | b :: l => b && andL l
def fldEq (P : Program) [Tab P] (cs ds : List AVal) : List Field → Option (List Bool)
  | [] => some []
  | f :: fs => match tab P f.type, cs[f.offset]?, ds[f.offset]?, fldEq P cs ds fs with
    | some x, some a, some b, some l => match x.desc, a, b with
      | .int _, .int k m, .int j q => match Nat.beq (kix k) (kix j) with
        | true => some (eqB m q :: l)
        | false => none
      | .string, .str s, .str t => some (seqB s t :: l)
      | .bool, .bool s, .bool t => some ((s == t) :: l)
      | _, _, _ => none
    | _, _, _, _ => none
theorem part_one {P : Program} [Tab P] {xs : Array Value} {v : Value} {t : TypeId} {x : TI} {o : Nat} (ht : tab P t = some x) (hd : descAgg x.desc = false) (hv : xs[o]? = some v) (w : World) : (part t xs o).run P w = .ok v w := by
  simp only [part, Sem.run_bind, tab_run_agg ht, hd, Result.andThen_ok, Bool.false_eq_true, if_false, hv, Sem.run_pure]
theorem eqFields_run {P : Program} [Tab P] {R : Seal} {cs ds : List AVal} {xs ys : Array Value} (ha : RelL R cs xs.toList) (hb : RelL R ds ys.toList) (d : Nat) (w : World) :
    ∀ (fs : List Field) (l : List Bool), (fs.all fun f => f.name != "_") = true → fldEq P cs ds fs = some l → (Op.eqFields (d + 1) xs ys fs).run P w = .ok (andL l) w
  | [], l, _, h => by
    simp only [fldEq, Option.some.injEq] at h
    subst h
    rfl
  | f :: fs, l, hn, h => by
    simp only [List.all_cons, Bool.and_eq_true, bne_iff_ne, ne_eq] at hn
    simp only [fldEq] at h
    split at h
    · rename_i x a b l' ht h1 h2 h3
      have ih := eqFields_run ha hb d w fs l' hn.2 h3
      obtain ⟨va, e1, r1⟩ := relL_get ha h1
      obtain ⟨vb, e2, r2⟩ := relL_get hb h2
      have e1 : xs[f.offset]? = some va := by simpa using e1
      have e2 : ys[f.offset]? = some vb := by simpa using e2
      have fin : ∀ r : Bool, descAgg x.desc = false → (Op.equalIn (d + 1) f.type va vb).run P w = .ok r w → (Op.eqFields (d + 1) xs ys (f :: fs)).run P w = .ok (andL (r :: l')) w := by
        intro r hd hr
        simp only [Op.eqFields, ne_eq, hn.1, not_false_eq_true, if_true, Sem.run_bind, part_one ht hd e1, part_one ht hd e2, Result.andThen_ok, hr]
        cases r
        · rfl
        · exact ih
      split at h
      · rename_i q1 k m j q hd
        split at h
        · rename_i hk
          cases h
          obtain rfl := kix_eq hk
          obtain rfl := rel_int.1 (relC_rel r1 rfl)
          obtain rfl := rel_int.1 (relC_rel r2 rfl)
          refine fin _ (by rw [hd]; rfl) ?_
          rw [run_equalIn_int w d f.type _ _ _ _ (by rw [tab_und ht, hd])]
          unfold eqB
          rfl
        · cases h
      · rename_i s t hd
        cases h
        obtain rfl := rel_str.1 (relC_rel r1 rfl)
        obtain rfl := rel_str.1 (relC_rel r2 rfl)
        refine fin _ (by rw [hd]; rfl) ?_
        rw [run_equalIn_string w d f.type _ _ (by rw [tab_und ht, hd])]
        rw [ByteArray.toList_eq, ByteArray.toList_eq]
        unfold seqB
        simp
      · rename_i s t hd
        cases h
        obtain rfl := rel_bool.1 (relC_rel r1 rfl)
        obtain rfl := rel_bool.1 (relC_rel r2 rfl)
        exact fin _ (by rw [hd]; rfl) (run_equalIn_bool' w d f.type _ _ (by rw [tab_und ht, hd]))
      · cases h
    · cases h
section
variable {P : Program} [Tab P] {C : Ctx} {env : Env} {H : Heap} {x y : Operand} {T ty : TypeId}
theorem agg_of {R : Seal} {cs : List AVal} {v : Value} (h : Rel R (.agg cs) v) : ∃ vs, v = .agg vs ∧ RelL R cs vs.toList := by
  obtain ⟨h1, h2⟩ := h
  cases v <;> first | exact ⟨_, rfl, h1⟩ | (simp [AVal.isAgg, vAgg] at h2)
theorem rv_eqagg {cs ds : List AVal} {fs : Array Field} {l : List Bool} {xT : TI} (b : Bool) (hx : evalA env x = some (.agg cs)) (hy : evalA env y = some (.agg ds)) (h1 : tab P T = some xT) (h2 : xT.desc = .struct fs)
    (h3 : P.stoodInHeld T = false) (h4 : P.eqGuardType P.depth T = false) (h5 : (fs.toList.all fun f => f.name != "_") = true) (h6 : fldEq P cs ds fs.toList = some l) (hb : andL l = b) : RunV P C H env (.binOp .eql T x y ty) (.bool b) := by
  intro R ρ w hm hf dst t p af g
  refine ⟨_, ?_, rel_bool.2 rfl⟩
  obtain ⟨xs, ex, rx⟩ := agg_of (hf _ _ hx)
  obtain ⟨ys, ey, ry⟩ := agg_of (hf _ _ hy)
  have hu : P.underlying T = some (.struct fs) := by rw [tab_und h1, h2]
  have hfo : P.fieldsOf T = fs := by unfold Program.fieldsOf; rw [hu]
  have e1 : (Op.equalIn 10000 T (.agg xs) (.agg ys)).run P w = .ok b w := by
    rw [show (10000 : Nat) = 9999 + 1 from rfl, run_equalIn_agg w 9999 T xs ys (by rw [hfo]; exact hu) h3, hfo]
    subst hb
    exact eqFields_run rx ry 9998 w _ _ h5 h6
  simp only [execOp, ex, ey, Sem.run_bind, run_eql_struct, e1, run_eqGuard_agg w .eql T x y xs ys h4, Result.andThen_ok, Sem.run_pure]
theorem rv_neqagg {cs ds : List AVal} {fs : Array Field} {l : List Bool} {xT : TI} (b : Bool) (hx : evalA env x = some (.agg cs)) (hy : evalA env y = some (.agg ds)) (h1 : tab P T = some xT) (h2 : xT.desc = .struct fs)
    (h3 : P.stoodInHeld T = false) (h4 : P.eqGuardType P.depth T = false) (h5 : (fs.toList.all fun f => f.name != "_") = true) (h6 : fldEq P cs ds fs.toList = some l) (hb : andL l = b) : RunV P C H env (.binOp .neq T x y ty) (.bool (!b)) := by
  intro R ρ w hm hf dst t p af g
  refine ⟨_, ?_, rel_bool.2 rfl⟩
  obtain ⟨xs, ex, rx⟩ := agg_of (hf _ _ hx)
  obtain ⟨ys, ey, ry⟩ := agg_of (hf _ _ hy)
  have hu : P.underlying T = some (.struct fs) := by rw [tab_und h1, h2]
  have hfo : P.fieldsOf T = fs := by unfold Program.fieldsOf; rw [hu]
  have e1 : (Op.equalIn 10000 T (.agg xs) (.agg ys)).run P w = .ok b w := by
    rw [show (10000 : Nat) = 9999 + 1 from rfl, run_equalIn_agg w 9999 T xs ys (by rw [hfo]; exact hu) h3, hfo]
    subst hb
    exact eqFields_run rx ry 9998 w _ _ h5 h6
  simp only [execOp, ex, ey, Sem.run_bind, run_neq_struct, e1, run_eqGuard_agg w .neq T x y xs ys h4, Result.andThen_ok, Sem.run_pure]
end
end Go.Proofs.YtgjckfphallmeaaGreatDoor
namespace Go.Proofs.YtgjckfphallmeaaGreatDoor
open Go Go.RowKit
set_option maxRecDepth 20000
set_option maxHeartbeats 4000000
set_option linter.unusedSimpArgs false
set_option linter.unusedVariables false
attribute [local irreducible] AWp AOps byteAt SrcOK OrOk GloAll FnSpec
attribute [local irreducible] hdC hdB badI zeroB
theorem value_bare {G : Glo} (hGL : GloAll G errTy) (x : Err) : FnIs Tryz.prog G 22 [x.A] x.b.A := by
  have h := api_Tell hGL x
  cases x
  all_goals
    refine fn_x Tryz.func22 Tryz.call22 rfl rfl rfl rfl hGL ?_
    intro C hC
    exact xw0
theorem zero_and (t : Stm) : andL [eqB t.y 0, eqB t.m 0, eqB t.d 0, eqB t.h 0, eqB t.i 0, eqB t.s 0, t.z == false, eqB t.o 0] = zeroB t := by
  unfold zeroB
  rw [Bool.eq_iff_iff]
  simp only [andL, Bool.and_eq_true, eqB_t, Bool.and_true, decide_eq_true_eq, beq_iff_eq]
theorem value_only {G : Glo} (v : Vl) : FnIs Tryz.prog G 21 [v.A] (.bool v.only) := by
  have hz := zero_and v.st
  have hGL : GloAll G [] := gloAll_nil
  refine fn_x Tryz.func21 Tryz.call21 rfl rfl rfl rfl hGL ?_
  intro C hC
  refine xw ?_
  repeat' (first | exact Le.n | refine Lc.mk ?_ ?_)
  all_goals intros
  all_goals try (refine op1_run hC hGL (rv_eqagg (zeroB v.st) rfl rfl rfl rfl (by kernel_rfl) (by kernel_rfl) (by kernel_rfl) rfl hz) rfl rfl ?_; refine xw ?_)
  repeat' (first | exact Le.n | refine Lc.mk ?_ ?_)
  all_goals intros
  all_goals (apply rt_is; refine congrArg AVal.bool ?_; rw [Bool.eq_iff_iff]; unfold Vl.only; rw [decide_eq_true_eq]; cases hq : zeroB v.st <;> first | exact absurd (hq.symm.trans (show zeroB v.st = true by assumption)) (by decide) | exact absurd (hq.symm.trans (show zeroB v.st = false by assumption)) (by decide) | (simp only [hq, eqB_t, reduceCtorEq, true_iff, false_iff, true_or, false_or, iff_true, true_and, and_true]; omega))
theorem nil_hit {L : List (List (List UInt8))} {k : Nat} (hk : k < L.length) (h1 : k ≤ nilAt L) (h0 : (L.getD k []).length = 0) : nilAt L < L.length := by
  rw [nilAt_hit hk h1 (List.eq_nil_of_length_eq_zero h0)]
  exact hk
theorem nil_miss {L : List (List (List UInt8))} {k : Nat} (hk : k < L.length) (h1 : k ≤ nilAt L) (h0 : (L.getD k []).length ≠ 0) : k + 1 ≤ nilAt L := nilAt_miss hk h1 (fun h => h0 (by rw [h]; rfl))
/-- All texts of the first so many lists may be. -/
def hdK (L : List (List (List UInt8))) (k : Nat) : Prop := ∀ i, i < k → (L.getD i []).all (hdB true) = true
def hdJ (l : List (List UInt8)) (j : Nat) : Prop := ∀ i, i < j → hdB true (l.getD i []) = true
theorem hdJ_all {l : List (List UInt8)} {j : Nat} (hj : l.length ≤ j) (h : hdJ l j) : l.all (hdB true) = true := by
  rw [List.all_eq_true]
  intro x hx
  obtain ⟨i, hi, rfl⟩ := List.getElem_of_mem hx
  have := h i (by omega)
  rwa [List.getD_eq_getElem?_getD, List.getElem?_eq_getElem hi] at this
theorem hdJ_not {l : List (List UInt8)} {j : Nat} (hj : j < l.length) (h : hdB true (l.getD j []) = false) : l.all (hdB true) = false := by
  rw [List.all_eq_false]
  refine ⟨l[j], List.getElem_mem hj, ?_⟩
  rw [List.getD_eq_getElem?_getD, List.getElem?_eq_getElem hj] at h
  simpa using h
theorem hdK_all {L : List (List (List UInt8))} {k : Nat} (hk : L.length ≤ k) (h : hdK L k) : hdL L = true := by
  unfold hdL
  rw [List.all_eq_true]
  intro x hx
  obtain ⟨i, hi, rfl⟩ := List.getElem_of_mem hx
  have := h i (by omega)
  rwa [List.getD_eq_getElem?_getD, List.getElem?_eq_getElem hi] at this
theorem hdK_not {L : List (List (List UInt8))} {k : Nat} (hk : k < L.length) (h : (L.getD k []).all (hdB true) = false) : hdL L = false := by
  unfold hdL
  rw [List.all_eq_false]
  refine ⟨L[k], List.getElem_mem hk, ?_⟩
  rw [List.getD_eq_getElem?_getD, List.getElem?_eq_getElem hk] at h
  simpa using h
theorem hdJ_succ {l : List (List UInt8)} {j : Nat} (h : hdJ l j) (k : hdB true (l.getD j []) = true) : hdJ l (j + 1) := fun i hi => by
  rcases Nat.lt_succ_iff_lt_or_eq.1 hi with h1 | rfl
  · exact h i h1
  · exact k
theorem hdK_succ {L : List (List (List UInt8))} {j : Nat} (h : hdK L j) (k : (L.getD j []).all (hdB true) = true) : hdK L (j + 1) := fun i hi => by
  rcases Nat.lt_succ_iff_lt_or_eq.1 hi with h1 | rfl
  · exact h i h1
  · exact k
end Go.Proofs.YtgjckfphallmeaaGreatDoor
namespace Go.Proofs.YtgjckfphallmeaaGreatDoor
open Go Go.RowKit
set_option linter.unusedSectionVars false
theorem made_one (v : Value) (n : Nat) : (madeCells #[v] n).toList = List.replicate n v := by
  unfold madeCells
  refine List.ext_getElem (by simp) (fun i h1 h2 => ?_)
  simp [Nat.mod_one]
section
variable {P : Program} [Tab P] {C : Ctx} {n : Nat} {env : Env} {H : Heap} {Q : AExit → Env → Heap → Prop} {ops : Array Oper} {rest : List Oper} {G : Glo} {GL : List (Nat × List AVal)}
variable {d : Nat} {t : TypeId} {p : String} {af : Array Edge} {g : Option (Nat × Bool)} {b : Bool}
variable {x y : Operand} {T e : TypeId} {xT xe : TI}
theorem run_make_op {ρ : Operand → Value} {w w' : World} {a c u : Value} (ha : ρ x = a) (hc : ρ y = c) (hr : (Instr.makeSlice T a c).run P w = .ok u w') :
    (execOp ρ { dst := some d, op := .makeSlice T x y, type := t, pos := p, after := af, guard := g }).run P w = .ok (.value u) w' := by
  simp only [execOp, ha, hc, Sem.run_bind, hr, Result.andThen_ok, Sem.run_pure]
/-- A byte slice is made. -/
theorem op1_makeB {k1 k2 : IntKind} {m : Nat} (hC : C.G = G) (hGL : GloAll G GL) (hx : evalA env x = some (.int k1 (m : Int))) (hy : evalA env y = some (.int k2 (m : Int))) (hm0 : m ≤ 1000000000000) (ht : tab P T = some xT) (hd : xT.desc = .slice e) (he : tab P e = some xe) (hz : xe.zero = some (.int .u8 0)) (hs : xe.size = 1) (hb : xe.bytes = 1)
    (hg : guardA ops env g = some (b, b)) (hdn : Nat.ble (d + 1) n = true)
    (k : ∀ bl, opsX P C n G GL ops Q rest ((d, .own H.length (.slice (some ⟨bl, 0, none⟩) m m)) :: env) (H ++ [.buf bl (List.replicate m 0) m])) :
    Op1 P C n ops ({ dst := some d, op := .makeSlice T x y, type := t, pos := p, after := af, guard := g } :: rest) env H Q := by
  refine ⟨ao_valX (X := Nat) (av := fun bl => .raw (.slice (some ⟨bl, 0, none⟩) m m)) (H' := fun bl => .buf bl (List.replicate m 0) m :: H) hg rfl hdn (fun R ρ w hm hf => ?_)
    (fun bl => ao_end (ao_dst_own (i := H.length) rfl (opsX_ok hC hGL _ _ _ (k bl))))⟩
  obtain ⟨i, hi, his, hib, hiz, _⟩ := tab_info he
  have hr := run_make (P := P) w T e i (.int .u8 0) (by rw [tab_und ht, hd]) hi (by rw [hiz, hz]) k1 k2 (m : Int) (m : Int) (by omega) (by omega) (by rw [hib, hb]; omega) (by omega)
  simp only [Int.toNat_natCast] at hr
  have hrun := run_make_op (d := d) (t := t) (p := p) (af := af) (g := g) (rel_int.1 (hf _ _ hx)) (rel_int.1 (hf _ _ hy)) hr
  refine ⟨w.heap.size, _, _, R, hrun, Seal.le_refl R, rel_raw.2 rfl, ?_⟩
  · rw [grow_alloc]
    refine hm.alloc _ _ rfl ⟨by simp, _, _, _, grow_at w _, ?_, .inl (Nat.le_refl _)⟩
    rw [his, hs, Nat.mul_one, show (Value.int .u8 0).cells = #[.int .u8 0] from rfl, made_one]
    have : ownB (List.replicate m 0) m = List.replicate m (.int .u8 0) := by simp [ownB, byteA]
    rw [this]
    exact relL_replicate (show RelC R (.int .u8 0) [.int .u8 0] from rfl) _
/-- An empty slice is made, with room. -/
theorem op1_makeR {k1 k2 : IntKind} {m : Nat} (hC : C.G = G) (hGL : GloAll G GL) (hx : evalA env x = some (.int k1 0)) (hy : evalA env y = some (.int k2 (m : Int))) (hm0 : m ≤ 1000000000) (ht : tab P T = some xT) (hd : xT.desc = .slice e) (he : tab P e = some xe) {z : Value} (hz : xe.zero = some z) (hb : Nat.ble xe.bytes 1024 = true)
    (hg : guardA ops env g = some (b, b)) (hdn : Nat.ble (d + 1) n = true)
    (k : ∀ bl, opsX P C n G GL ops Q rest ((d, .own H.length (.slice (some ⟨bl, 0, none⟩) 0 m)) :: env) (H ++ [.row (.slice (some ⟨bl, 0, none⟩) 0 m) (some e) xe.size 0 []])) :
    Op1 P C n ops ({ dst := some d, op := .makeSlice T x y, type := t, pos := p, after := af, guard := g } :: rest) env H Q := by
  refine ⟨ao_valX (X := Nat) (av := fun bl => .raw (.slice (some ⟨bl, 0, none⟩) 0 m)) (H' := fun bl => .row (.slice (some ⟨bl, 0, none⟩) 0 m) (some e) xe.size 0 [] :: H) hg rfl hdn (fun R ρ w hm hf => ?_)
    (fun bl => ao_end (ao_dst_own (i := H.length) rfl (opsX_ok hC hGL _ _ _ (k bl))))⟩
  obtain ⟨i, hi, his, hib, hiz, _⟩ := tab_info he
  have hb := Nat.le_of_ble_eq_true hb
  have hmul : xe.bytes * m ≤ 1024 * 1000000000 := Nat.mul_le_mul hb hm0
  have hr := run_make (P := P) w T e i z (by rw [tab_und ht, hd]) hi (by rw [hiz, hz]) k1 k2 0 (m : Int) (by omega) (by omega) (by rw [hib, ← Int.natCast_mul]; omega) (by omega)
  simp only [Int.toNat_natCast, Int.toNat_zero] at hr
  have hrun := run_make_op (d := d) (t := t) (p := p) (af := af) (g := g) (rel_int.1 (hf _ _ hx)) (rel_int.1 (hf _ _ hy)) hr
  refine ⟨w.heap.size, _, _, R, hrun, Seal.le_refl R, rel_raw.2 rfl, ?_⟩
  · rw [grow_alloc]
    refine hm.alloc _ _ rfl ⟨by simp, .inr ⟨_, _, _, _, _, rfl, grow_at w _, ?_, Nat.zero_le _, ?_, .inl (Nat.le_refl _), fun t ht => by cases ht; rfl⟩⟩
    · rw [size_madeCells, his]
    · simp [RelL]
end
end Go.Proofs.YtgjckfphallmeaaGreatDoor
