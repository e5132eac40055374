/- Parts of the proof of jsonReads_card: Exd, Wk, Def, Deg, Deh, Slc, Dfx, Jsc, Ext, App. -/
import Derived.OrdersHeld
import Derived.Defers
import Derived.Recover
import Derived.Test.YtmgkpbgfkjedeaaGreatDoorBad
import Derived.Test.YtmgkpbgfkjedeaaGreatDoorBaa
set_option linter.unusedVariables false
set_option linter.unusedSimpArgs false
namespace Go.Proofs.YtmgkpbgfkjedeaaGreatDoor
open Go
set_option linter.unusedSimpArgs false
set_option linter.unusedSectionVars false
set_option linter.unusedVariables false
/-- Which operation comes up next: one that may be taken first, or any of several. -/
inductive DPlan
  | done
  | take (i : Nat) (p : DPlan)
  | br (i : Nat) (p q : DPlan)
  | nil
def planB (ops : Array Oper) : DPlan → Nat → Array Bool → List Nat → Bool
  | .done, _, l, acc => acc.isEmpty && (Region.ready .any ops l).isEmpty
  | .take _ _, 0, _, _ => false
  | .take i p, k + 1, l, acc => acc.isEmpty && (Region.free .any ops l i && ((Region.ready .any ops l).contains i && planB ops p k (l.setIfInBounds i true) []))
  | .br _ _ _, 0, _, _ => false
  | .br i p q, k + 1, l, acc => planB ops p k (l.setIfInBounds i true) [] && planB ops q (k + 1) l (acc ++ [i])
  | .nil, _, l, acc => !acc.isEmpty && decide (Region.ready .any ops l = acc)
structure Both (a b : Prop) : Prop where
  l : a
  r : b
theorem bt_i {a b : Prop} (h : a) (k : b) : Both a b := ⟨h, k⟩
/-- Nothing serves here. -/
inductive Stk (ops : Array Oper) (i : Nat) (env : Env) (H : Heap) : Prop
/-- An operation's end: what stood stands. -/
inductive Og (kf : Bool) (H h : Heap) (k : Prop) : Prop
  | all (X : Heap) (e : h = H ++ X) (h : k)
  | none (e : kf = false) (h : k)
theorem og_n {H h : Heap} {k : Prop} (hk : k) : Og false H h k := .none rfl hk
theorem og_a {H h : Heap} {k : Prop} (X : Heap) (e : h = H ++ X) (hk : k) : Og true H h k := .all X e hk
/-- The end of a region. -/
inductive Fie {X : Type} (I : X → Env) (J : X → Heap) (e : Env) (h : Heap) : Prop
  | mk (x : X) (hs : Env.sub e (I x)) (hj : h = J x)
/-- The same, where more may be left. -/
inductive Fis {X : Type} (I : X → Env) (J : X → Heap) (e : Env) (h : Heap) : Prop
  | mk (x : X) (hs : Env.sub e (I x)) (hj : (J x).Sublist h)
section
/-- Whatever the call began with. -/
structure Bc (G : Glo) (k : Ctx → Prop) : Prop where
  h : ∀ C : Ctx, C.G = G → k C
theorem bc_i {G : Glo} {k : Ctx → Prop} (h : ∀ C : Ctx, C.G = G → k C) : Bc G k := ⟨h⟩
variable (P : Program) [Tab P] (n : Nat) (G : Glo) (GL : List (Nat × List AVal))
def hk (kf : Bool) (H : Heap) : Heap := match kf with
  | true => H
  | false => []
def takeX (kf : Bool) (ops : Array Oper) (i : Nat) (ih : Env → Heap → Prop) (env : Env) (H : Heap) : Prop :=
  match ops[i]? with
  | some o => guardX ops env o.guard (Stk ops i env H)
    (fun env' => match o.dst with
      | some d => match Nat.ble (d + 1) n with
        | true => fixX P GL (hk kf H) env' o.op (Stk ops i env' H) fun av => ih ((d, av) :: env') H
        | false => Stk ops i env' H
      | none => Stk ops i env' H)
    (fun env' => match o.dst with
      | some d => match Nat.ble (d + 1) n with
        | true => ih ((d, .raw undef) :: env') H
        | false => Stk ops i env' H
      | none => ih env' H)
  | none => Stk ops i env H
/-- What a panic leaves: where slots are to be kept, they too. -/
@[reducible] def KE (E : Env) (K : Prop) (e : Env) : Prop := match E with
  | [] => K
  | _ :: _ => K ∧ Env.sub e E
theorem ke_k {E : Env} {K : Prop} {e : Env} (h : KE E K e) : K := by
  cases E with
  | nil => exact h
  | cons x l => exact h.1
theorem ke_sub {E : Env} {K : Prop} {e : Env} (h : KE E K e) : Env.sub e E := by
  cases E with
  | nil => trivial
  | cons x l => exact h.2
def dstFree (ops : Array Oper) (E : Env) : Bool := ops.toList.all fun o => match o.dst with
  | some d => (Env.get E d).isNone
  | none => true
def brX (E : Env) (Kp : AVal → Heap → Prop) (kf : Bool) (ops : Array Oper) (i : Nat) (ih : Env → Heap → Prop) (env : Env) (H : Heap) : Prop :=
  match ops[i]? with
  | some o => Bc G fun C => opsX P C n G GL ops (fun x e h => match x with
    | .normal => Og kf H h (ih e h)
    | .panic v => KE E (Kp v h) e
    | _ => False) [o] env H
  | none => Stk ops i env H
noncomputable def dpX (E : Env) (Kp : AVal → Heap → Prop) (kf : Bool) (ops : Array Oper) (Q : Env → Heap → Prop) (p : DPlan) : Env → Heap → Prop :=
  DPlan.rec (motive := fun _ => Env → Heap → Prop) Q (fun i _ ih => takeX P n GL kf ops i ih) (fun i _ _ ihp ihq env H => Both (brX P n G GL E Kp kf ops i ihp env H) (ihq env H)) (fun _ _ => True) p
end
theorem wpAnyH_S {P : Program} {ops : Array Oper} {Q : Exit → Act → World → Prop} {md : Region.Mode} {S S' : World → Prop} (h : ∀ w, S' w → S w) : ∀ (fuel : Nat) (listed : Array Bool) (a : Act) (w : World), wpAnyH P md ops Q S' fuel listed a w → wpAnyH P md ops Q S fuel listed a w
  | 0, _, _, _, k => k
  | fuel + 1, _, _, _, k => ⟨k.1, fun i hi => wpOp_mono (fun a' w' k' => ⟨h _ k'.1, wpAnyH_S h fuel _ a' w' k'.2⟩) (k.2 i hi)⟩
def reCtx (C : Ctx) (R : Seal) (hR : C.R0.le R) : Ctx := ⟨C.w0, R, C.B0, C.G, C.G.mono _ _ hR C.hG, C.D⟩
theorem MS.re {C : Ctx} {R : Seal} {H : Heap} {w : World} (h : MS C R H w) : MS (reCtx C R h.ge) R H w :=
  ⟨h.sealed, Seal.le_refl R, fun b hb => .inl hb, h.heap, h.own, h.ext⟩
theorem MS.back {C : Ctx} {R R' : Seal} {H H' : Heap} {w w' : World} (h : MS C R H w) (k : MS (reCtx C R h.ge) R' H' w') : MS C R' H' w' :=
  ⟨k.sealed, Seal.le_trans h.ge k.ge, fun b hb => (k.fresh b hb).elim (h.fresh b) .inr, k.heap, k.own, k.ext⟩
section
variable {P : Program} [Tab P] {n : Nat} {env : Env} {H : Heap} {ops : Array Oper} {G : Glo} {GL : List (Nat × List AVal)} {kf : Bool}
/-- What is asked of the world through a region. -/
def DS (C : Ctx) (kf : Bool) (R : Seal) (H : Heap) (w : World) : Prop := ∃ R' X, R.le R' ∧ MS C R' (hk kf H ++ X) w
theorem ds_of {C : Ctx} {R : Seal} {w : World} (h : MS C R H w) : DS C kf R H w := by
  cases kf with
  | true => exact ⟨R, [], Seal.le_refl R, by simpa [hk] using h⟩
  | false => exact ⟨R, H, Seal.le_refl R, by simpa [hk] using h⟩
def QN (E : Env) (Q : Env → Heap → Prop) (Kp : AVal → Heap → Prop) : AExit → Env → Heap → Prop
  | .normal, e, h => Q e h
  | .panic v, e, h => e = E ∧ Kp v h
  | _, _, _ => False
theorem qn_put {E : Env} {C : Ctx} {Q : Env → Heap → Prop} {Kp : AVal → Heap → Prop} {c : List PanicEntry} {a : Act} {w : World} {d : Option Nat} {v : Value} (hd : ∀ k, d = some k → Env.get E k = none) (hp : Post C n (QN E Q Kp) (.panic c) (a.put d v) w) : Post C n (QN E Q Kp) (.panic c) a w := by
  obtain ⟨x, e, h, R, hq, hr, hm, hf⟩ := hp
  cases x with
  | panic y =>
    obtain ⟨rfl, hk⟩ := hq
    refine ⟨.panic y, _, h, R, ⟨rfl, hk⟩, hr, hm, ⟨fun k u hk => ?_, ?_, ?_⟩⟩
    · obtain ⟨y, hy, hr⟩ := hf.fr k u hk
      refine ⟨y, ?_, hr⟩
      cases d with
      | none => exact hy
      | some d =>
        have hkd : d ≠ k := fun e => by have := hd d rfl; rw [e, hk] at this; cases this
        simpa [Act.put, Array.getElem?_setIfInBounds, hkd] using hy
    · have := hf.size
      cases d with
      | none => exact this
      | some d => simpa [Act.put] using this
    · have := hf.defers
      cases d with
      | none => exact this
      | some d => exact this
  | normal => exact absurd (show Exit.panic c = .normal from hr) (by simp)
  | exit i => exact hq.elim
  | goto i => exact hq.elim
  | ret => exact hq.elim
theorem dst_free {E : Env} (h : dstFree ops E = true) {i : Nat} {o : Oper} (hi : ops[i]? = some o) : ∀ k, o.dst = some k → Env.get E k = none := fun k hk => by
  unfold dstFree at h
  have := List.all_eq_true.1 h o (Array.mem_toList_iff.2 (Array.mem_of_getElem? hi))
  rw [hk] at this
  exact Option.isNone_iff_eq_none.1 this
theorem dst_nil : dstFree ops [] = true := by
  unfold dstFree
  rw [List.all_eq_true]
  intro o _
  cases o.dst <;> rfl
def DA (P : Program) (G : Glo) (n : Nat) (ops : Array Oper) (kf : Bool) (E : Env) (Q : Env → Heap → Prop) (Kp : AVal → Heap → Prop) (fuel : Nat) (listed : Array Bool) (env : Env) (H : Heap) : Prop :=
  ∀ C : Ctx, C.G = G → ∀ R a w, MS C R H w → FSa C.D n R env a → wpAnyH P .any ops (Post C n (QN E Q Kp)) (DS C kf R H) fuel listed a w
variable {E : Env} {Q : Env → Heap → Prop} {Kp : AVal → Heap → Prop} {fuel : Nat} {listed : Array Bool} {i : Nat} {o : Oper} {av : AVal}
theorem da_yield {env' : Env} {C : Ctx} (hC : C.G = G) {R : Seal} {a : Act} {w : World} (hm : MS C R H w) (hE : dstFree ops E = true) (hns : Region.noSelect ops = true) (hi : ops[i]? = some o) (hf : Region.free .any ops listed i = true) (hr : (Region.ready .any ops listed).contains i = true)
    (hy : ∃ x, YieldsIf P ops (DS C kf R H) o x a ∧ FSa C.D n R env' (a.put o.dst x)) (h : DA P G n ops kf E Q Kp fuel (listed.setIfInBounds i true) env' H) : wpAnyH P .any ops (Post C n (QN E Q Kp)) (DS C kf R H) (fuel + 1) listed a w := by
  obtain ⟨x, h1, h2⟩ := hy
  exact wpAnyH_take hi hns hf hr (fun c a w hp => qn_put (dst_free hE hi) hp) h1 (ds_of hm) (h C hC R _ w hm h2)
theorem da_env {env' : Env} (hs : ∀ {D : List Deferred} R a, FSa D n R env a → FSa D n R env' a) (h : DA P G n ops kf E Q Kp fuel listed env' H) : DA P G n ops kf E Q Kp fuel listed env H := fun C hC R a w hm hf => h C hC R a w hm (hs R a hf)
theorem da_split {b : Bool} {d : Nat} (hv : Env.get env d = some (.bool b))
    (ht : b = true → DA P G n ops kf E Q Kp fuel listed ((d, .bool true) :: env) H) (hf : b = false → DA P G n ops kf E Q Kp fuel listed ((d, .bool false) :: env) H) : DA P G n ops kf E Q Kp fuel listed env H := by
  have key : ∀ x, b = x → ∀ {D : List Deferred} R a, FSa D n R env a → FSa D n R ((d, .bool x) :: env) a := by
    rintro x rfl D R a hfr
    refine ⟨fun k v hk => ?_, hfr.size, hfr.defers⟩
    simp only [Env.get] at hk
    cases hb : Nat.beq d k with
    | true =>
      rw [hb] at hk
      have := Nat.eq_of_beq_eq_true hb
      subst this
      simp only [Option.some.injEq] at hk
      subst hk
      exact hfr.fr d _ hv
    | false => rw [hb] at hk; exact hfr.fr k v hk
  cases hb : b with
  | true => exact da_env (key true hb) (ht hb)
  | false => exact da_env (key false hb) (hf hb)
theorem guardSlot_unwanted {D : List Deferred} {R : Seal} {a : Act} {e : Nat} (hs : guardSlot ops o.guard = some e) (hv : Env.get env e = some (.raw undef)) (hf : FSa D n R env a) : Region.wanted o (yielded ops a.tmps) = false := by
  unfold guardSlot at hs
  unfold Region.wanted
  split at hs
  · rename_i j want h
    rw [h]
    split at hs
    · rename_i o' ho
      obtain ⟨x, hx, hr⟩ := hf.fr e _ hv
      rw [rel_raw.1 hr] at hx
      simp [yielded, ho, hs, hx, undef]
    · cases hs
  · cases hs
theorem take_ok (hE : dstFree ops E = true) (hGL : GloAll G GL) (hns : Region.noSelect ops = true) (hf : Region.free .any ops listed i = true) (hr : (Region.ready .any ops listed).contains i = true) {ih : Env → Heap → Prop}
    (hih : ∀ env H, ih env H → DA P G n ops kf E Q Kp fuel (listed.setIfInBounds i true) env H) (h : takeX P n GL kf ops i ih env H) : DA P G n ops kf E Q Kp (fuel + 1) listed env H := by
  unfold takeX at h
  split at h
  case h_2 => cases h
  rename_i o ho
  have run : ∀ env' b, guardA ops env' o.guard = some (b, b) → (match o.dst with
      | some d => match Nat.ble (d + 1) n with
        | true => fixX P GL (hk kf H) env' o.op (Stk ops i env' H) fun av => ih ((d, av) :: env') H
        | false => Stk ops i env' H
      | none => Stk ops i env' H) → DA P G n ops kf E Q Kp (fuel + 1) listed env' H := by
    intro env' b hg h
    split at h
    · rename_i d hd
      split at h
      · rename_i hdn
        intro C hC R a w hm hfs
        rcases fixX_ok (C := C) (GL := GL) (by rw [hC]; exact hGL) h with h | ⟨av, h1, h2⟩
        · cases h
        · refine da_yield (env' := (d, av) :: env') hC hm hE hns ho hf hr ?_ (hih _ _ h2)
          obtain ⟨x, hx, hrun⟩ := h1 R a.eval (fun x a hx => hfs.eval hx)
          refine ⟨x, .inl ⟨by rw [wanted_of hfs hg]; simp, ?_⟩, by rw [hd]; exact hfs.put hdn hx⟩
          rintro w' ⟨R', X, hle, hms⟩
          exact hrun R' w' hle (hms.drop (List.sublist_append_left _ _)) o.dst o.type o.pos o.after o.guard
      · cases h
    · cases h
  have skip : ∀ env', (∀ {D : List Deferred} R a, FSa D n R env' a → Region.wanted o (yielded ops a.tmps) = false) → (match o.dst with
      | some d => match Nat.ble (d + 1) n with
        | true => ih ((d, .raw undef) :: env') H
        | false => Stk ops i env' H
      | none => ih env' H) → DA P G n ops kf E Q Kp (fuel + 1) listed env' H := by
    intro env' hw h
    split at h
    · rename_i d hd
      split at h
      · rename_i hdn
        intro C hC R a w hm hfs
        refine da_yield (env' := (d, .raw undef) :: env') hC hm hE hns ho hf hr ⟨undef, .inr ⟨hw R a hfs, rfl⟩, ?_⟩ (hih _ _ h)
        rw [hd]
        exact hfs.put hdn (rel_raw.2 rfl)
      · cases h
    · rename_i hd
      intro C hC R a w hm hfs
      refine da_yield (env' := env') hC hm hE hns ho hf hr ⟨undef, .inr ⟨hw R a hfs, rfl⟩, ?_⟩ (hih _ _ h)
      rw [hd]
      exact hfs
  unfold guardX at h
  split at h
  · rename_i hgn
    exact run env true (by rw [hgn]; rfl) h
  · rename_i j want hgn
    split at h
    case h_2 => cases h
    rename_i o' ho'
    split at h
    case h_2 => cases h
    rename_i e he
    split at h
    · rename_i b hb
      have hgT : ∀ v, guardA ops ((e, .bool v) :: env) o.guard = some (v, want) := fun v => by rw [hgn]; exact guard_const ho' he
      split at h
      · refine da_split hb (fun hv => ?_) (fun hv => ?_)
        · exact run _ true (hgT true) (h.1 hv)
        · exact skip _ (fun R a hfs => by rw [wanted_of hfs (hgT false)]; rfl) (h.2 hv)
      · refine da_split hb (fun hv => ?_) (fun hv => ?_)
        · exact skip _ (fun R a hfs => by rw [wanted_of hfs (hgT true)]; rfl) (h.1 hv)
        · exact run _ false (hgT false) (h.2 hv)
    · rename_i v hv
      have hgS : guardSlot ops o.guard = some e := by rw [hgn]; simp only [guardSlot, ho', he]
      obtain ⟨rfl, h⟩ := h
      exact skip _ (fun R a hfs => guardSlot_unwanted hgS hv hfs) h
    · cases h
theorem wpOp_of_list {QP : Exit → Act → World → Prop} {K : Act → World → Prop} {Q' : Exit → Act → World → Prop} {a : Act} {w : World} (hi : ops[i]? = some o) (hp : ∀ c a w, Q' (.panic c) a w → QP (.panic c) a w) (ho : ∀ a w, ¬ Q' .outgrown a w) (hK : ∀ a w, Q' .normal a w → K a w)
    (h : wpList P ops Q' [o] a w) : wpOp P ops QP i K a w := by
  unfold wpOp
  rw [hi]
  simp only [wpList] at h
  dsimp only
  split at h
  · rename_i hw
    rw [if_pos hw]
    rcases h with h | ⟨_, a, w, h⟩
    · refine .inl ?_
      unfold Oper.wp at h ⊢
      generalize (execOp a.eval o).run P w = r at h ⊢
      cases r with
      | ok n w' =>
        cases n <;> simp only [Oper.upon] at h ⊢
        case value u => exact hK _ _ h
        case skip => exact hK _ _ h
        case defer d => exact hK _ _ h
        case enter f args =>
          refine Calls.mono h fun e w'' he => ?_
          cases e with
          | returned u => exact hK _ _ he
          | panicked c => exact hp _ _ _ he
          | outgrown => obtain ⟨a, w, he⟩ := he; exact absurd he (ho _ _)
        case row row args => exact Rows.mono h fun u w'' he => hK _ _ he
      | halt x w' =>
        cases x <;> simp only [Oper.upon] at h ⊢
        case panic u => exact hp _ _ _ h
    · exact absurd h (ho _ _)
  · rename_i hw
    rw [if_neg hw]
    exact hK _ _ h
theorem br_ok (hGL : GloAll G GL) {ih : Env → Heap → Prop} (hih : ∀ env H, ih env H → DA P G n ops kf E Q Kp fuel (listed.setIfInBounds i true) env H)
    {C : Ctx} (hC : C.G = G) (h : brX P n G GL E Kp kf ops i ih env H) {R : Seal} {a : Act} {w : World} (hm : MS C R H w) (hfs : FSa C.D n R env a) :
    wpOp P ops (Post C n (QN E Q Kp)) i (fun a' w' => DS C kf R H w' ∧ wpAnyH P .any ops (Post C n (QN E Q Kp)) (DS C kf R H) fuel (listed.setIfInBounds i true) a' w') a w := by
  unfold brX at h
  split at h
  case h_2 => cases h
  rename_i o ho
  have h1 := opsX_ok (C := reCtx C R hm.ge) (show (reCtx C R hm.ge).G = G from hC) hGL _ _ _ (h.h _ hC) R a w hm.re hfs
  refine wpOp_of_list ho ?_ ?_ ?_ h1
  · rintro c a w ⟨x, e, h, R', hq, hr, hm', hf'⟩
    cases x with
    | normal => exact absurd (show Exit.panic c = .normal from hr) (by simp)
    | panic v => exact ⟨.panic v, E, h, R', ⟨rfl, ke_k hq⟩, hr, hm.back hm', hf'.sub (ke_sub hq)⟩
    | _ => exact hq.elim
  · rintro a w ⟨x, e, h, R', hq, hr, _⟩
    cases x with
    | normal => exact absurd (show Exit.outgrown = .normal from hr) (by simp)
    | panic v => obtain ⟨y, hy, _⟩ := hr; cases hy
    | _ => exact hq.elim
  · rintro a' w' ⟨x, e, h', R', hq, hr, hm', hf'⟩
    have hle : R.le R' := hm'.ge
    have hm2 := hm.back hm'
    have step : (∃ X, hk kf h' = hk kf H ++ X) → ih e h' → DS C kf R H w' ∧ wpAnyH P .any ops (Post C n (QN E Q Kp)) (DS C kf R H) fuel (listed.setIfInBounds i true) a' w' := by
      rintro ⟨X, hX⟩ k
      have sub : ∀ w, DS C kf R' h' w → DS C kf R H w := by
        rintro w ⟨R2, X2, hle2, hms⟩
        rw [hX, List.append_assoc] at hms
        exact ⟨R2, X ++ X2, Seal.le_trans hle hle2, hms⟩
      exact ⟨sub _ (ds_of hm2), wpAnyH_S sub _ _ _ _ (hih _ _ k C hC R' a' w' hm2 hf')⟩
    cases x with
    | normal =>
      cases hq with
      | all X e k =>
        refine step ?_ k
        subst e
        cases kf
        · exact ⟨[], rfl⟩
        · exact ⟨X, rfl⟩
      | none e k => subst e; exact step ⟨[], rfl⟩ k
    | panic v => obtain ⟨y, hy, _⟩ := hr; cases hy
    | _ => exact hq.elim
/-- The plan, sound. -/
theorem dp_ok (hE : dstFree ops E = true) (hGL : GloAll G GL) (hns : Region.noSelect ops = true) : ∀ (p : DPlan) (fuel : Nat) (listed : Array Bool) (acc : List Nat) (env : Env) (H : Heap), planB ops p fuel listed acc = true → dpX P n G GL E Kp kf ops Q p env H →
    (acc = [] → DA P G n ops kf E Q Kp fuel listed env H) ∧ (acc ≠ [] → ∀ C : Ctx, C.G = G → ∀ R a w, MS C R H w → FSa C.D n R env a → ∃ f, (∀ k, fuel = k + 1 → f = k) ∧ Region.ready .any ops listed ≠ [] ∧
      ∀ i ∈ Region.ready .any ops listed, i ∈ acc ∨ wpOp P ops (Post C n (QN E Q Kp)) i (fun a' w' => DS C kf R H w' ∧ wpAnyH P .any ops (Post C n (QN E Q Kp)) (DS C kf R H) f (listed.setIfInBounds i true) a' w') a w) := by
  intro p
  induction p with
  | done =>
    intro fuel listed acc env H hp h
    simp only [planB, Bool.and_eq_true, List.isEmpty_iff] at hp
    refine ⟨fun _ C hC R a w hm hfs => wpAnyH_done hp.2 ⟨.normal, env, H, R, h, rfl, hm, hfs⟩ fuel, fun ha => absurd hp.1 ha⟩
  | take i p ih =>
    intro fuel listed acc env H hp h
    cases fuel with
    | zero => simp [planB] at hp
    | succ fuel =>
      simp only [planB, Bool.and_eq_true, List.isEmpty_iff] at hp
      obtain ⟨h1, h2, h3, h4⟩ := hp
      exact ⟨fun _ => take_ok hE hGL hns h2 h3 (fun env H k => (ih fuel _ [] env H h4 k).1 rfl) h, fun ha => absurd h1 ha⟩
  | br i p q ihp ihq =>
    intro fuel listed acc env H hp h
    cases fuel with
    | zero => simp [planB] at hp
    | succ fuel =>
      simp only [planB, Bool.and_eq_true] at hp
      obtain ⟨hl, hr⟩ : Both (brX P n G GL E Kp kf ops i (dpX P n G GL E Kp kf ops Q p) env H) (dpX P n G GL E Kp kf ops Q q env H) := h
      have hq := (ihq (fuel + 1) listed (acc ++ [i]) env H hp.2 hr).2 (by simp)
      have key : ∀ C : Ctx, C.G = G → ∀ R a w, MS C R H w → FSa C.D n R env a → Region.ready .any ops listed ≠ [] ∧
          ∀ j ∈ Region.ready .any ops listed, j ∈ acc ∨ wpOp P ops (Post C n (QN E Q Kp)) j (fun a' w' => DS C kf R H w' ∧ wpAnyH P .any ops (Post C n (QN E Q Kp)) (DS C kf R H) fuel (listed.setIfInBounds j true) a' w') a w := by
        intro C hC R a w hm hfs
        obtain ⟨f, hf, hne, hall⟩ := hq C hC R a w hm hfs
        obtain rfl := hf fuel rfl
        refine ⟨hne, fun j hj => ?_⟩
        rcases hall j hj with hj' | hj'
        · rcases List.mem_append.1 hj' with hj' | hj'
          · exact .inl hj'
          · rw [List.mem_singleton] at hj'
            subst hj'
            exact .inr (br_ok hGL (fun env H k => (ihp f _ [] env H hp.1 k).1 rfl) hC hl hm hfs)
        · exact .inr hj'
      refine ⟨fun ha C hC R a w hm hfs => ?_, fun _ C hC R a w hm hfs => ⟨fuel, fun k hk => by omega, key C hC R a w hm hfs⟩⟩
      obtain ⟨hne, hall⟩ := key C hC R a w hm hfs
      refine wpAnyH_all rfl hne fun j hj => ?_
      rcases hall j hj with hj' | hj'
      · rw [ha] at hj'; cases hj'
      · exact hj'
  | nil =>
    intro fuel listed acc env H hp h
    simp only [planB, Bool.and_eq_true, Bool.not_eq_true', List.isEmpty_eq_false_iff, decide_eq_true_eq] at hp
    obtain ⟨h1, h2⟩ := hp
    refine ⟨fun ha => absurd ha h1, fun _ C hC R a w hm hfs => ⟨fuel - 1, fun k hk => by omega, by rw [h2]; exact h1, fun i hi => .inl (by rw [h2] at hi; exact hi)⟩⟩
/-- A region that draws, by a plan; what holds behind it, whatever the order; what a panic leaves. -/
theorem dw_pp {X : Type} {C : Ctx} {id : Nat} {QQ : AExit → Env → Heap → Prop} (hm : P.follows .mixedOrders = true) (hC : C.G = G) (hGL : GloAll G GL) (kf : Bool) (Kp : AVal → Heap → Prop) (I : X → Env) (J : X → Heap) (plan : DPlan)
    (hB : (Region.noSelect ops && planB ops plan ops.size (Array.replicate ops.size false) []) = true) (h : dpX P n G GL [] Kp kf ops (Fis I J) plan env H) (k : ∀ x, QQ .normal (I x) (J x)) (kp : ∀ v h, Kp v h → QQ (.panic v) [] h) : Dw P C n id ops env H QQ := by
  simp only [Bool.and_eq_true] at hB
  have hd := (dp_ok dst_nil hGL hB.1 plan _ _ [] env H hB.2 h).1 rfl
  refine ⟨fun R a w hms hfs => ?_⟩
  refine wp_mono (wp_region_held (S := DS C kf R H) hm (hd C hC R a _ (hms.drawn _) hfs)) ?_
  rintro ex a w ⟨x, e, h, R, hq, hr, hm', hf'⟩
  cases x with
  | normal =>
    obtain ⟨x0, hs, hj⟩ := hq
    exact ⟨.normal, I x0, J x0, R, k x0, hr, hm'.drop hj, hf'.sub hs⟩
  | panic v =>
    obtain ⟨rfl, hq⟩ := hq
    exact ⟨.panic v, [], h, R, kp v h hq, hr, hm', hf'⟩
  | exit i => exact hq.elim
  | goto i => exact hq.elim
  | ret => exact hq.elim
/-- A region that draws, by a plan; what holds behind it, whatever the order. -/
theorem dw_p {X : Type} {C : Ctx} {id : Nat} {QQ : AExit → Env → Heap → Prop} (hm : P.follows .mixedOrders = true) (hC : C.G = G) (hGL : GloAll G GL) (kf : Bool) (I : X → Env) (J : X → Heap) (plan : DPlan)
    (hB : (Region.noSelect ops && planB ops plan ops.size (Array.replicate ops.size false) []) = true) (h : dpX P n G GL [] (fun _ _ => False) kf ops (Fie I J) plan env H) (k : ∀ x, QQ .normal (I x) (J x)) : Dw P C n id ops env H QQ := by
  simp only [Bool.and_eq_true] at hB
  have hd := (dp_ok dst_nil hGL hB.1 plan _ _ [] env H hB.2 h).1 rfl
  refine ⟨fun R a w hms hfs => ?_⟩
  refine wp_mono (wp_region_held (S := DS C kf R H) hm (hd C hC R a _ (hms.drawn _) hfs)) ?_
  rintro ex a w ⟨x, e, h, R, hq, hr, hm', hf'⟩
  cases x with
  | normal =>
    obtain ⟨x0, hs, hj⟩ := hq
    subst hj
    exact ⟨.normal, I x0, J x0, R, k x0, hr, hm', hf'.sub hs⟩
  | panic v => exact hq.2.elim
  | exit i => exact hq.elim
  | goto i => exact hq.elim
  | ret => exact hq.elim
end
end Go.Proofs.YtmgkpbgfkjedeaaGreatDoor
namespace Go.Proofs.YtmgkpbgfkjedeaaGreatDoor
open Go
set_option linter.unusedVariables false
structure Lf (Q : Prop) : Prop where
  h : Q
structure Lc (a b : Prop) : Prop where
  l : a
  r : b
inductive Le : Prop
  | n
inductive Lz : Prop → Prop
  | n : Lz Le
  | c {a b : Prop} : Lz b → Lz (Lc a b)
theorem Lf.l {a b : Prop} (q : Lf (Lc a b)) : a := q.h.l
theorem Lf.r {a b : Prop} (q : Lf (Lc a b)) : Lf b := ⟨q.h.r⟩
/-- A statement's end: what is known, what the slots hold, what is owned. -/
structure Ct (I : Env) (J : Heap) (p : Prop) (e : Env) (h : Heap) : Prop where
  p : p
  s : Env.sub e I
  j : h = J
theorem Ct.w {I : Env} {J : Heap} {p : Prop} {e : Env} {h : Heap} (hp : p := by first | exact True.intro | assumption | omega) (hs : Env.sub e I := by repeat (first | exact trivial | refine And.intro rfl ?_)) (hj : h = J := by rfl) : Ct I J p e h := ⟨hp, hs, hj⟩
structure Cy {X : Type} (I : X → Env) (J : X → Heap) (Inv : X → Prop) (e : Env) (h : Heap) : Prop where
  h : ∃ x, Inv x ∧ Env.sub e (I x) ∧ h = J x
theorem cy {X : Type} {I : X → Env} {J : X → Heap} {Inv : X → Prop} {e : Env} {h : Heap} (x : X) (hp : Inv x) (hs : Env.sub e (I x) := by repeat (first | exact trivial | refine And.intro rfl ?_)) (hj : h = J x := by rfl) : Cy I J Inv e h := ⟨⟨x, hp, hs, hj⟩⟩
section
variable {P : Program} [Tab P] {C : Ctx} {n : Nat} {G : Glo} {GL : List (Nat × List AVal)} {env : Env} {H : Heap} {Q : AExit → Env → Heap → Prop}
/-- Into a function whose statements are gone through one by one. -/
theorem fn_a {f : FuncId} {fn : Func} {c : Code} {avs : List AVal} {Qf : ARes → Heap → Prop} {rs : List ResultVar} (hf : P.funcs[f]? = some fn)
    (hc : ∀ args w, (callFunc f args).run P w = .ok (.enter f args) w) (hb : fn.body = some c) (hn : fn.ntmps = n) (hrs : fn.results = rs.toArray) (hlen : Nat.ble avs.length n = true)
    (h : ∀ C : Ctx, C.G = G → AWp P C n c (argEnv 0 avs) H (RetX P rs Qf)) : FnSpec P G f avs H Qf :=
  fn_spec hf hb hc hn hrs hlen fun w0 R0 hG => (h ⟨w0, R0, blks H, G, hG, []⟩ rfl).mono fun _ _ _ q => RetX_ok q
theorem aw_code {c : Code} (hC : C.G = G) (hGL : GloAll G GL) (h : codeX P C n G GL c env H Q) : AWp P C n c env H Q := codeX_ok hC hGL _ _ _ _ h
theorem cuty {a b : Code} {X : Type} (hC : C.G = G) (hGL : GloAll G GL) (I : X → Env) (J : X → Heap) (Inv : X → Prop) (h1 : codeX P C n G GL a env H (thenQ (fun e h => Cy I J Inv e h) Q)) (h2 : ∀ x, Inv x → AWp P C n b (I x) (J x) Q) : AWp P C n (.seq a b) env H Q :=
  aw_seq ((codeX_ok hC hGL _ _ _ _ h1).mono fun x e h q => by
    cases x with
    | normal =>
      obtain ⟨y, hy, hs, rfl⟩ := q.h
      exact aw_sub hs (h2 y hy)
    | exit i => exact q
    | goto i => exact q
    | ret => exact q
    | panic v => exact q)
theorem cut {a b : Code} (hC : C.G = G) (hGL : GloAll G GL) (I : Env) (J : Heap) (p : Prop) (h1 : codeX P C n G GL a env H (thenQ (fun e h => Ct I J p e h) Q)) (h2 : p → AWp P C n b I J Q) : AWp P C n (.seq a b) env H Q :=
  aw_seq ((codeX_ok hC hGL _ _ _ _ h1).mono fun x e h q => by
    cases x with
    | normal =>
      obtain ⟨hp, hs, rfl⟩ := q
      exact aw_sub hs (h2 hp)
    | exit i => exact q
    | goto i => exact q
    | ret => exact q
    | panic v => exact q)
end
theorem xw0 {P : Prop} (h : P := by
    repeat' (first
      | (conv => whnf); first
        | refine .w ?_ | refine .v ?_ | apply sc_true | apply sc_false
        | (first | apply sc_lt | apply sc_nlt | apply sc_eq | apply sc_neq | apply sc_nil | apply sc_nnil | apply sc_seq | apply sc_nseq) <;> (intro wb; try exact dd wb)
        | apply sc_not | apply sc_or | (apply sc_i <;> intro wb)
        | (apply bx_i; intro wb) | (apply gt_i; assumption; exact rfl)
        | (apply cx_is; first | assumption | (apply k1 <;> omega) | (apply k2 <;> omega) | (apply k3 <;> omega)) | (apply cx_do (i := 0) rfl; assumption) | (apply cx_do (i := 1) rfl; assumption) | (apply cx_do (i := 2) rfl; assumption)
        | (apply ab_i; intro wl) | (apply as_i; intro wa wk wc wh) | (apply av_i; intro wv) | (apply ac_i; intro wl wq wb)
        | apply bo_l | (apply nx_i <;> intro wb) | (apply Ia.hit; assumption) | (apply Ia.miss; assumption)
        | (apply rt_is; exact rfl) | (show Rt _ _ _; exact rt_w) | (show Ct _ _ _ _ _; exact Ct.w) | (apply iv; assumption)
        | exact True.intro | (apply bc_i; intro wC whC) | apply bt_i | apply og_n | (apply og_a; exact rfl) | apply dw_q mixed whC hGL (by kernel_rfl) | apply dw_q mixed hC hGL (by kernel_rfl) | (apply cq; assumption; (first | assumption | (apply k1 <;> omega) | (apply k2 <;> omega)); exact rfl))
    all_goals (try conv => whnf)) : P := h
theorem xw1 {P Q : Prop} (hQ : Q) (h : Lf Q → P := by
    intro ww
    repeat' (first
      | (conv => whnf); first
        | refine .w ?_ | refine .v ?_ | apply sc_true | apply sc_false
        | (first | apply sc_lt | apply sc_nlt | apply sc_eq | apply sc_neq | apply sc_nil | apply sc_nnil | apply sc_seq | apply sc_nseq) <;> (intro wb; try exact dd wb)
        | apply sc_not | apply sc_or | (apply sc_i <;> intro wb)
        | (apply bx_i; intro wb) | (apply gt_i; assumption; exact rfl)
        | (apply cx_is; first | assumption | (apply k1 <;> omega) | (apply k2 <;> omega) | (apply k3 <;> omega)) | (apply cx_do (i := 0) rfl; assumption) | (apply cx_do (i := 1) rfl; assumption) | (apply cx_do (i := 2) rfl; assumption)
        | (apply ab_i; intro wl) | (apply as_i; intro wa wk wc wh) | (apply av_i; intro wv) | (apply ac_i; intro wl wq wb)
        | apply bo_l | (apply nx_i <;> intro wb) | (apply Ia.hit; assumption) | (apply Ia.miss; assumption)
        | (apply rt_is; exact rfl) | (show Rt _ _ _; exact rt_w) | (show Ct _ _ _ _ _; exact Ct.w) | (apply iv; assumption)
        | exact True.intro | (apply bc_i; intro wC whC) | apply bt_i | apply og_n | (apply og_a; exact rfl) | apply dw_q mixed whC hGL (by kernel_rfl) | apply dw_q mixed hC hGL (by kernel_rfl) | (apply cq; assumption; (first | assumption | (apply k1 <;> omega) | (apply k2 <;> omega)); exact rfl))
    all_goals (try conv => whnf)
    all_goals (repeat (first | revert wb | revert wh | revert wc | revert wk | revert wa | revert wq | revert wl | revert wv | revert whC | revert wC))
    all_goals (apply Lf.h; apply ww)) : P := h ⟨hQ⟩
theorem xw {P Q : Prop} (hQ : Q) (h : Lf Q → P := by
    intro ww
    repeat' (first
      | (conv => whnf); first
        | refine .w ?_ | refine .v ?_ | apply sc_true | apply sc_false
        | (first | apply sc_lt | apply sc_nlt | apply sc_eq | apply sc_neq | apply sc_nil | apply sc_nnil | apply sc_seq | apply sc_nseq) <;> (intro wb; try exact dd wb)
        | apply sc_not | apply sc_or | (apply sc_i <;> intro wb)
        | (apply bx_i; intro wb) | (apply gt_i; assumption; exact rfl)
        | (apply cx_is; first | assumption | (apply k1 <;> omega) | (apply k2 <;> omega) | (apply k3 <;> omega)) | (apply cx_do (i := 0) rfl; assumption) | (apply cx_do (i := 1) rfl; assumption) | (apply cx_do (i := 2) rfl; assumption)
        | (apply ab_i; intro wl) | (apply as_i; intro wa wk wc wh) | (apply av_i; intro wv) | (apply ac_i; intro wl wq wb)
        | apply bo_l | (apply nx_i <;> intro wb) | (apply Ia.hit; assumption) | (apply Ia.miss; assumption)
        | (apply rt_is; exact rfl) | (show Rt _ _ _; exact rt_w) | (show Ct _ _ _ _ _; exact Ct.w) | (apply iv; assumption)
        | exact True.intro | (apply bc_i; intro wC whC) | apply bt_i | apply og_n | (apply og_a; exact rfl) | apply dw_q mixed whC hGL (by kernel_rfl) | apply dw_q mixed hC hGL (by kernel_rfl) | (apply cq; assumption; (first | assumption | (apply k1 <;> omega) | (apply k2 <;> omega)); exact rfl))
    all_goals (try conv => whnf)
    all_goals (repeat (first | revert wb | revert wh | revert wc | revert wk | revert wa | revert wq | revert wl | revert wv | revert whC | revert wC))
    all_goals (apply Lf.l; with_reducible (repeat (first | apply ww | apply Lf.r)))) (e : Lz Q := by repeat (first | exact Lz.n | apply Lz.c)) : P := h ⟨hQ⟩
theorem xn0 {P : Prop} (h : P := by
    repeat' (first
      | (conv => whnf); first
        | refine .w ?_ | refine .v ?_ | apply sc_true | apply sc_false
        | (first | apply sc_lt | apply sc_nlt | apply sc_eq | apply sc_neq | apply sc_nil | apply sc_nnil | apply sc_seq | apply sc_nseq) <;> (intro wb; try exact dd wb)
        | apply sc_not | apply sc_or | (apply sc_i <;> intro wb)
        | (apply bx_i; intro wb) | (apply gt_i; assumption; exact rfl)
        | (apply cx_is; first | assumption | (apply k1 <;> omega) | (apply k2 <;> omega) | (apply k3 <;> omega)) | (apply cx_do (i := 0) rfl; assumption) | (apply cx_do (i := 1) rfl; assumption) | (apply cx_do (i := 2) rfl; assumption)
        | (apply ab_i; intro wl) | (apply as_i; intro wa wk wc wh) | (apply av_i; intro wv) | (apply ac_i; intro wl wq wb)
        | apply bo_l | (apply nx_i <;> intro wb) | (apply Ia.hit; assumption) | (apply Ia.miss; assumption)
        | (apply rt_is; exact rfl) | (show Rt _ _ _; exact rt_w) | (show Ct _ _ _ _ _; exact Ct.w) | (apply iv; assumption)
        | exact True.intro | (apply bc_i; intro wC whC) | apply bt_i | apply og_n | (apply og_a; exact rfl))
    all_goals (try conv => whnf)) : P := h
theorem xn1 {P Q : Prop} (hQ : Q) (h : Lf Q → P := by
    intro ww
    repeat' (first
      | (conv => whnf); first
        | refine .w ?_ | refine .v ?_ | apply sc_true | apply sc_false
        | (first | apply sc_lt | apply sc_nlt | apply sc_eq | apply sc_neq | apply sc_nil | apply sc_nnil | apply sc_seq | apply sc_nseq) <;> (intro wb; try exact dd wb)
        | apply sc_not | apply sc_or | (apply sc_i <;> intro wb)
        | (apply bx_i; intro wb) | (apply gt_i; assumption; exact rfl)
        | (apply cx_is; first | assumption | (apply k1 <;> omega) | (apply k2 <;> omega) | (apply k3 <;> omega)) | (apply cx_do (i := 0) rfl; assumption) | (apply cx_do (i := 1) rfl; assumption) | (apply cx_do (i := 2) rfl; assumption)
        | (apply ab_i; intro wl) | (apply as_i; intro wa wk wc wh) | (apply av_i; intro wv) | (apply ac_i; intro wl wq wb)
        | apply bo_l | (apply nx_i <;> intro wb) | (apply Ia.hit; assumption) | (apply Ia.miss; assumption)
        | (apply rt_is; exact rfl) | (show Rt _ _ _; exact rt_w) | (show Ct _ _ _ _ _; exact Ct.w) | (apply iv; assumption)
        | exact True.intro | (apply bc_i; intro wC whC) | apply bt_i | apply og_n | (apply og_a; exact rfl))
    all_goals (try conv => whnf)
    all_goals (repeat (first | revert wb | revert wh | revert wc | revert wk | revert wa | revert wq | revert wl | revert wv | revert whC | revert wC))
    all_goals (apply Lf.h; apply ww)) : P := h ⟨hQ⟩
theorem xn {P Q : Prop} (hQ : Q) (h : Lf Q → P := by
    intro ww
    repeat' (first
      | (conv => whnf); first
        | refine .w ?_ | refine .v ?_ | apply sc_true | apply sc_false
        | (first | apply sc_lt | apply sc_nlt | apply sc_eq | apply sc_neq | apply sc_nil | apply sc_nnil | apply sc_seq | apply sc_nseq) <;> (intro wb; try exact dd wb)
        | apply sc_not | apply sc_or | (apply sc_i <;> intro wb)
        | (apply bx_i; intro wb) | (apply gt_i; assumption; exact rfl)
        | (apply cx_is; first | assumption | (apply k1 <;> omega) | (apply k2 <;> omega) | (apply k3 <;> omega)) | (apply cx_do (i := 0) rfl; assumption) | (apply cx_do (i := 1) rfl; assumption) | (apply cx_do (i := 2) rfl; assumption)
        | (apply ab_i; intro wl) | (apply as_i; intro wa wk wc wh) | (apply av_i; intro wv) | (apply ac_i; intro wl wq wb)
        | apply bo_l | (apply nx_i <;> intro wb) | (apply Ia.hit; assumption) | (apply Ia.miss; assumption)
        | (apply rt_is; exact rfl) | (show Rt _ _ _; exact rt_w) | (show Ct _ _ _ _ _; exact Ct.w) | (apply iv; assumption)
        | exact True.intro | (apply bc_i; intro wC whC) | apply bt_i | apply og_n | (apply og_a; exact rfl))
    all_goals (try conv => whnf)
    all_goals (repeat (first | revert wb | revert wh | revert wc | revert wk | revert wa | revert wq | revert wl | revert wv | revert whC | revert wC))
    all_goals (apply Lf.l; with_reducible (repeat (first | apply ww | apply Lf.r)))) (e : Lz Q := by repeat (first | exact Lz.n | apply Lz.c)) : P := h ⟨hQ⟩
theorem xb1 {P Q : Prop} (hQ : Q) (h : Lf Q → P := by
    intro ww
    repeat' (first
      | (conv => whnf); first
        | refine .w ?_ | refine .v ?_ | apply sc_true | apply sc_false
        | (first | apply sc_lt | apply sc_nlt | apply sc_eq | apply sc_neq | apply sc_nil | apply sc_nnil | apply sc_seq | apply sc_nseq) <;> (intro wb; try exact dd wb)
        | apply sc_not | apply sc_or | (apply sc_i <;> intro wb)
        | (apply bx_i; intro wb) | (apply gt_i; assumption; exact rfl)
        | (apply cx_is; first | assumption | (apply k1 <;> omega) | (apply k2 <;> omega) | (apply k3 <;> omega)) | (apply cx_do (i := 0) rfl; assumption) | (apply cx_do (i := 1) rfl; assumption) | (apply cx_do (i := 2) rfl; assumption)
        | (apply ab_i; intro wl) | (apply as_i; intro wa wk wc wh) | (apply av_i; intro wv) | (apply ac_i; intro wl wq wb)
        | apply bo_r | (apply nx_i <;> intro wb) | (apply Ia.hit; assumption) | (apply Ia.miss; assumption)
        | (apply rt_is; exact rfl) | (show Rt _ _ _; exact rt_w) | (show Ct _ _ _ _ _; exact Ct.w) | (apply iv; assumption)
        | exact True.intro | (apply bc_i; intro wC whC) | apply bt_i | apply og_n | (apply og_a; exact rfl))
    all_goals (try conv => whnf)
    all_goals (repeat (first | revert wb | revert wh | revert wc | revert wk | revert wa | revert wq | revert wl | revert wv | revert whC | revert wC))
    all_goals (apply Lf.h; apply ww)) : P := h ⟨hQ⟩
end Go.Proofs.YtmgkpbgfkjedeaaGreatDoor
namespace Go.Proofs.YtmgkpbgfkjedeaaGreatDoor
open Go Go.RowKit
/-! ## Values that are known whole -/
def concA : AVal → Option Value
  | .own _ v => some v
  | .raw v => some v
  | .int k n => some (.int k n)
  | .bool b => some (.bool b)
  | _ => none
def concL : List AVal → Option (List Value)
  | [] => some []
  | a :: t => match concA a, concL t with
    | some v, some r => some (v :: r)
    | _, _ => none
theorem conc_ok {R : Seal} {a : AVal} {v x : Value} (h : concA a = some v) (hr : Rel R a x) : x = v := by
  cases a <;> simp only [concA, Option.some.injEq, reduceCtorEq] at h <;> subst h
  · exact rel_bool.1 hr
  · exact rel_int.1 hr
  · exact rel_raw.1 hr
  · exact (rel_own.1 hr).1
theorem concL_ok {R : Seal} : ∀ {l : List AVal} {vs xs : List Value}, concL l = some vs → RelV R l xs → xs = vs
  | [], vs, xs, h, hr => by
    simp only [concL, Option.some.injEq] at h
    subst h
    simpa [RelV] using hr
  | a :: t, vs, xs, h, hr => by
    simp only [concL] at h
    split at h
    · rename_i v r hv ht
      simp only [Option.some.injEq] at h
      subst h
      obtain ⟨x, ys, rfl, h1, h2⟩ := hr
      rw [conc_ok hv h1, concL_ok ht h2]
    · cases h
/-- The call that is laid, as it will be made. -/
def deferA (env : Env) (fv : Operand) (args : List Operand) : Option Deferred :=
  match evalA env fv with
  | some (.func (.func f) l1 l2) => match concL l1, argsA env args, concL l2 with
    | some x1, some avs, some x2 => match concL avs with
      | some xs => some { target := .fn (.func f) x2.toArray, args := (x1 ++ xs).toArray }
      | none => none
    | _, _, _ => none
  | _ => none
theorem upon_map {P : Program} {o : Oper} {a : Act} {next next' : Act → World → Prop} {Q Q' : Exit → Act → World → Prop} {r : Result Next} (hn : ∀ a w, next a w → next' a w)
    (hp : ∀ ch a w, Q (.panic ch) a w → Q' (.panic ch) a w) (ho : LetsOut Q → LetsOut Q') (hh : o.upon P a next Q r) : o.upon P a next' Q' r := by
  cases r with
  | ok n w' =>
    cases n <;> simp only [Oper.upon] at hh ⊢ <;>
      first
        | exact hn _ _ hh
        | exact Calls.mono hh (fun e w'' he => by cases e <;> first | exact hn _ _ he | exact hp _ _ _ he | exact ho he)
        | exact Rows.mono hh (fun _ _ he => hn _ _ he)
  | halt x w' => cases x <;> simp only [Oper.upon] at hh ⊢ <;> exact hp _ _ _ hh
def tailQ (P : Program) (ops : Array Oper) (l : List Oper) (Q : Exit → Act → World → Prop) : Exit → Act → World → Prop
  | .normal, a, w => wpList P ops Q l a w
  | e, a, w => Q e a w
theorem wpList_app {P : Program} {ops : Array Oper} {l : List Oper} {Q : Exit → Act → World → Prop} : ∀ {pre : List Oper} {a : Act} {w : World}, wpList P ops (tailQ P ops l Q) pre a w → wpList P ops Q (pre ++ l) a w
  | [], a, w, h => h
  | o :: pre, a, w, h => by
    simp only [List.cons_append, wpList] at h ⊢
    split
    · rename_i hw
      rw [if_pos hw] at h
      rcases h with h | ⟨h1, h2⟩
      · exact .inl (upon_map (fun _ _ => wpList_app) (fun _ _ _ => id) (fun ⟨a, w, q⟩ => ⟨a, w, q⟩) h)
      · exact .inr ⟨h1, h2⟩
    · rename_i hw
      rw [if_neg hw] at h
      exact wpList_app h
/-! ## The spine -/
def withD (C : Ctx) (D : List Deferred) : Ctx := ⟨C.w0, C.R0, C.B0, C.G, C.hG, D⟩
theorem MS.withD {C : Ctx} {R : Seal} {H : Heap} {w : World} (h : MS C R H w) (D : List Deferred) : MS (withD C D) R H w := ⟨h.sealed, h.ge, h.fresh, h.heap, h.own, h.ext⟩
theorem MS.ofD {C : Ctx} {R : Seal} {H : Heap} {w : World} {D : List Deferred} (h : MS (Proofs.YtmgkpbgfkjedeaaGreatDoor.withD C D) R H w) : MS C R H w := ⟨h.sealed, h.ge, h.fresh, h.heap, h.own, h.ext⟩
def PostD (C : Ctx) (n : Nat) (Q : List Deferred → AExit → Env → Heap → Prop) (e : Exit) (a : Act) (w : World) : Prop :=
  ∃ D x env H R, Q D x env H ∧ ExitRel R x e ∧ MS C R H w ∧ FSa D n R env a
def AWpD (P : Program) (C : Ctx) (n : Nat) (c : Code) (env : Env) (H : Heap) (Q : List Deferred → AExit → Env → Heap → Prop) : Prop :=
  ∀ R a w, MS C R H w → FSa C.D n R env a → c.wp P (PostD C n Q) a w
section
variable {P : Program} {C : Ctx} {n : Nat} {env : Env} {H : Heap} {Q : List Deferred → AExit → Env → Heap → Prop} {G : Glo} {GL : List (Nat × List AVal)}
theorem awd_of {c : Code} (h : AWp P C n c env H (Q C.D)) : AWpD P C n c env H Q :=
  fun R a w hm hf => wp_mono (h R a w hm hf) fun _ _ _ ⟨x, en, H', R', q, r⟩ => ⟨C.D, x, en, H', R', q, r⟩
theorem awd_code [Tab P] (hC : C.G = G) (hGL : GloAll G GL) {c : Code} (h : codeX P C n G GL c env H (Q C.D)) : AWpD P C n c env H Q := awd_of (codeX_ok hC hGL _ _ _ _ h)
def thenD (K : List Deferred → Env → Heap → Prop) (Q : List Deferred → AExit → Env → Heap → Prop) : List Deferred → AExit → Env → Heap → Prop
  | D, .normal, e, h => K D e h
  | D, x, e, h => Q D x e h
theorem awd_seq {x y : Code} (h : AWpD P C n x env H (thenD (fun D e h => AWpD P (withD C D) n y e h Q) Q)) : AWpD P C n (.seq x y) env H Q := by
  intro R a w hm hf
  refine wp_seq (wp_mono (h R a w hm hf) ?_)
  rintro e a' w' ⟨D, x, en, H', R', q, er, hm', hf'⟩
  cases x with
  | normal =>
    simp only [ExitRel] at er; subst er
    exact wp_mono (q R' a' w' (hm'.withD D) hf') fun _ _ _ ⟨D2, x, en, H', R', q, er, hm2, hf2⟩ => ⟨D2, x, en, H', R', q, er, hm2.ofD, hf2⟩
  | exit i => simp only [ExitRel] at er; subst er; exact ⟨D, .exit i, en, H', R', q, rfl, hm', hf'⟩
  | goto i => simp only [ExitRel] at er; subst er; exact ⟨D, .goto i, en, H', R', q, rfl, hm', hf'⟩
  | ret => simp only [ExitRel] at er; subst er; exact ⟨D, .ret, en, H', R', q, rfl, hm', hf'⟩
  | panic v => obtain ⟨y, rfl, hr⟩ := er; exact ⟨D, .panic v, en, H', R', q, ⟨y, rfl, hr⟩, hm', hf'⟩
theorem awd_cond {c : Operand} {x y : Code} {b : Bool} (hc : evalA env c = some (.bool b)) (ht : b = true → AWpD P C n x env H Q) (hf : b = false → AWpD P C n y env H Q) : AWpD P C n (.cond c x y) env H Q := by
  intro R a w hm hfs
  refine wp_cond (rel_bool.1 (hfs.eval hc)) ?_
  cases b with
  | true => exact ht rfl R a w hm hfs
  | false => exact hf rfl R a w hm hfs
structure Df (d : Option Deferred) (K : Deferred → Prop) : Prop where
  h : ∃ x, d = some x ∧ K x
def defQ (C : Ctx) (fv : Operand) (args : List Operand) (Q : List Deferred → AExit → Env → Heap → Prop) : AExit → Env → Heap → Prop
  | .normal, e, h => Df (deferA e fv args) fun d => Q (d :: C.D) .normal e h
  | x, e, h => Q C.D x e h
theorem awd_defer [Tab P] {id : Nat} {ops : Array Oper} {fv : Operand} {args : Array Operand} {ts : Array TypeId} {ty : TypeId} {pos : String} {af : Array Edge} (hC : C.G = G) (hGL : GloAll G GL)
    (hl : ops.toList = ops.toList.dropLast ++ [{ dst := none, op := .defer { callee := .value fv, args := args, argTypes := ts }, type := ty, pos := pos, after := af, guard := none }])
    (h : opsX P C n G GL ops (defQ C fv args.toList Q) ops.toList.dropLast env H) : AWpD P C n (.region id ops false) env H Q := by
  intro R a w hm hf
  refine wp_region_list ?_
  rw [hl]
  refine wpList_app ?_
  have h1 := opsX_ok (C := C) hC hGL _ _ _ h R a w hm hf
  have key : ∀ {l : List Oper} {a w}, wpList P ops (Post C n (defQ C fv args.toList Q)) l a w → wpList P ops (tailQ P ops [{ dst := none, op := .defer { callee := .value fv, args := args, argTypes := ts }, type := ty, pos := pos, after := af, guard := none }] (PostD C n Q)) l a w := by
    have hq : ∀ e a w, Post C n (defQ C fv args.toList Q) e a w → tailQ P ops [{ dst := none, op := .defer { callee := .value fv, args := args, argTypes := ts }, type := ty, pos := pos, after := af, guard := none }] (PostD C n Q) e a w := by
      rintro e a' w' ⟨x, en, H', R', q, er, hm', hf'⟩
      cases x with
      | normal =>
        simp only [ExitRel] at er; subst er
        obtain ⟨d, hd, q⟩ := Df.h q
        refine wpList_plain rfl fun K hK => ?_
        have hrun : (execOp a'.eval { dst := none, op := .defer { callee := .value fv, args := args, argTypes := ts }, type := ty, pos := pos, after := af, guard := none : Oper }).run P w' = .ok (.defer d) w' := by
          unfold deferA at hd
          split at hd
          · rename_i f l1 l2 hfv
            split at hd
            · rename_i x1 avs x2 h1 h2 h3
              split at hd
              · rename_i xs h4
                simp only [Option.some.injEq] at hd
                subst hd
                obtain ⟨⟨y1, y2, ey, r1, r2⟩, _⟩ := rel_one (hf'.eval hfv) rfl, trivial
                simp only [List.cons.injEq, and_true] at ey
                have e1 := concL_ok h1 r1
                have e2 := concL_ok h3 r2
                have e3 := concL_ok h4 (argsA_rel (fun x av h => hf'.eval h) h2)
                have e3' : (args.map a'.eval) = xs.toArray := by
                  apply Array.ext'
                  simpa using e3
                have e1' : y1 = x1.toArray := by apply Array.ext'; simpa using e1
                have e2' : y2 = x2.toArray := by apply Array.ext'; simpa using e2
                simp only [execOp, resolve, ey, e3', e1', e2', Deferred.ofValue, Sem.run_bind, Sem.run_pure, Result.andThen_ok]
                simp
              · cases hd
            · cases hd
          · cases hd
        rw [Oper.wp, hrun, Oper.upon_defer]
        refine hK _ _ (wpList_nil ⟨_, .normal, en, H', R', q, rfl, hm', ?_⟩)
        exact ⟨fun k v x => hf'.fr k v x, hf'.size, by show _ :: a'.defers = _; rw [hf'.defers]⟩
      | exit i => simp only [ExitRel] at er; subst er; exact ⟨C.D, .exit i, en, H', R', q, rfl, hm', hf'⟩
      | goto i => simp only [ExitRel] at er; subst er; exact ⟨C.D, .goto i, en, H', R', q, rfl, hm', hf'⟩
      | ret => simp only [ExitRel] at er; subst er; exact ⟨C.D, .ret, en, H', R', q, rfl, hm', hf'⟩
      | panic v => obtain ⟨y, rfl, hr⟩ := er; exact ⟨C.D, .panic v, en, H', R', q, ⟨y, rfl, hr⟩, hm', hf'⟩
    intro l
    induction l with
    | nil => exact fun {a w} h => hq _ _ _ h
    | cons o r ih =>
      intro a w h
      simp only [wpList] at h ⊢
      split
      · rename_i hw
        rw [if_pos hw] at h
        rcases h with h | ⟨h1, b, w2, x, en, H', R', q, er, _⟩
        · exact .inl (upon_map (fun _ _ => ih) (fun _ _ _ => hq _ _ _) (fun ⟨a, w, q⟩ => ⟨a, w, hq _ _ _ q⟩) h)
        · exact .inr ⟨h1, b, w2, hq _ _ _ ⟨x, en, H', R', q, er, by assumption⟩⟩
      · rename_i hw
        rw [if_neg hw] at h
        exact ih h
  exact key h1
end
end Go.Proofs.YtmgkpbgfkjedeaaGreatDoor
namespace Go.Proofs.YtmgkpbgfkjedeaaGreatDoor
open Go Go.RowKit
inductive AMode where
  | ret
  | pan (v : AVal)
  | rcv (v : AVal)
def ModeRel (R : Seal) : AMode → FrameMode → Prop
  | .ret, u => u = .returning
  | .pan v, u => ∃ x, u = .panicking [{ v := x, recovered := false }] ∧ Rel R v x
  | .rcv v, u => ∃ x, u = .panicking [{ v := x, recovered := true }] ∧ Rel R v x
theorem ModeRel.mono {R R' : Seal} (h : R.le R') : ∀ {m : AMode} {u : FrameMode}, ModeRel R m u → ModeRel R' m u
  | .ret, _, x => x
  | .pan _, _, ⟨y, e, r⟩ => ⟨y, e, rel_mono h r⟩
  | .rcv _, _, ⟨y, e, r⟩ => ⟨y, e, rel_mono h r⟩
def AMode.settle : AMode → AMode
  | .ret => .ret
  | .pan v => .pan v
  | .rcv _ => .ret
theorem settle_rel {R : Seal} : ∀ {m : AMode} {u : FrameMode}, ModeRel R m u → ModeRel R m.settle (Go.settle u)
  | .ret, _, rfl => rfl
  | .pan _, _, ⟨y, rfl, r⟩ => ⟨y, rfl, r⟩
  | .rcv _, _, ⟨y, rfl, _⟩ => rfl
theorem mode_run {R : Seal} : ∀ {m : AMode} {u : FrameMode}, ModeRel R m u → u ≠ .run
  | .ret, _, rfl => by simp
  | .pan _, _, ⟨_, rfl, _⟩ => by simp
  | .rcv _, _, ⟨_, rfl, _⟩ => by simp
/-- A deferred call's contract. -/
def DSpec (P : Program) (G : Glo) (f : FuncId) (avs : List AVal) (m : AMode) (H : Heap) (Qd : ARes → AMode → Heap → Prop) : Prop :=
  ∀ R w args u (hG : G.p R), MS ⟨w, R, blks H, G, hG, []⟩ R H w → RelV R avs args.toList → ModeRel R m u →
    CallsD P f args u w fun e u' w' => ∃ res m' H' R', Qd res m' H' ∧ EndRel R' res e ∧ ModeRel R' m' u' ∧ MS ⟨w, R, blks H, G, hG, []⟩ R' H' w'
section
variable {P : Program} [Tab P] {G : Glo} {GL : List (Nat × List AVal)} {n : Nat} {H : Heap} {m : AMode}
theorem arg_fs {R : Seal} {avs : List AVal} {args : Array Value} {n : Nat} (hlen : Nat.ble avs.length n = true) (ha : RelV R avs args.toList) :
    FSa [] n R (argEnv 0 avs) { tmps := args ++ Array.replicate (n - args.size) undef, defers := [] } := by
  have hl := relV_length ha
  have hlen := Nat.le_of_ble_eq_true hlen
  simp only [Array.length_toList] at hl
  refine ⟨fun k v hk => ?_, ?_, rfl⟩
  · obtain ⟨_, x, hx, hr⟩ := argEnv_get ha hk
    refine ⟨x, ?_, hr⟩
    simp only [Nat.sub_zero, Array.getElem?_toList] at hx
    have := Array.getElem?_eq_some_iff.1 hx
    rw [Array.getElem?_append_left this.1]
    exact hx
  · simp only [Array.size_append, Array.size_replicate]; omega
/-- A deferred call of a function that recovers nothing. -/
theorem ds_code {f : FuncId} {fn : Func} {c : Code} {avs : List AVal} {Qf : ARes → Heap → Prop} {rs : List ResultVar} (hf : P.funcs[f]? = some fn)
    (hb : fn.body = some c) (hn : fn.ntmps = n) (hrs : fn.results = rs.toArray) (hlen : Nat.ble avs.length n = true) (hGL : GloAll G GL)
    (h : ∀ C : Ctx, C.G = G → codeX P C n G GL c (argEnv 0 avs) H (RetX P rs Qf)) : DSpec P G f avs m H (fun res m' H' => m' = m ∧ Qf res H') := by
  intro R w args u hG hm ha hu
  have h1 := (codeX_ok (C := ⟨w, R, blks H, G, hG, []⟩) rfl hGL _ _ _ _ (h ⟨w, R, blks H, G, hG, []⟩ rfl)).mono fun _ _ _ q => RetX_ok q
  have h2 : c.wp P (bodyPost P fn (fun e w' => ∃ res H' R', Qf res H' ∧ EndRel R' res e ∧ R.le R' ∧ MS ⟨w, R, blks H, G, hG, []⟩ R' H' w')) { tmps := args ++ Array.replicate (fn.ntmps - args.size) undef, defers := [] } w := by
    subst hn
    refine wp_mono (h1 R _ w hm (arg_fs hlen ha)) ?_
    have hrs' : fn.results.toList = rs := by rw [hrs]
    rintro e a' w' ⟨x, env', H', R', q, er, hm', hf'⟩
    cases x with
    | normal =>
      simp only [ExitRel] at er; subst er
      obtain ⟨vs, H'', hv, hs, q⟩ := q
      obtain ⟨y, hy, hr⟩ := results_run (fn := fn) hm' hf' (by rw [hrs']; exact hv)
      exact ⟨hf'.defers, y, hy, _, H'', R', q, ⟨y, rfl, hr⟩, hm'.ge, hm'.drop hs⟩
    | ret =>
      simp only [ExitRel] at er; subst er
      obtain ⟨vs, H'', hv, hs, q⟩ := q
      obtain ⟨y, hy, hr⟩ := results_run (fn := fn) hm' hf' (by rw [hrs']; exact hv)
      exact ⟨hf'.defers, y, hy, _, H'', R', q, ⟨y, rfl, hr⟩, hm'.ge, hm'.drop hs⟩
    | panic v =>
      obtain ⟨y, rfl, hr⟩ := er
      obtain ⟨H'', hs, q⟩ := q
      exact ⟨hf'.defers, _, H'', R', q, ⟨y, rfl, hr⟩, hm'.ge, hm'.drop hs⟩
    | exit i => exact q.elim
    | goto i => exact q.elim
  refine (callsD_of_wp (u := u) hf hb h2).mono ?_
  rintro e u' w' ⟨rfl, res, H', R', q, er, hle, hm'⟩
  exact ⟨res, m, H', R', ⟨rfl, q⟩, er, hu.mono hle, hm'⟩
def recV : AMode → AVal
  | .pan v => v
  | _ => .raw .nilIface
def recM : AMode → AMode
  | .ret => .ret
  | .pan v => .rcv v
  | .rcv v => .rcv v
/-- .. of one that recovers at once. -/
theorem ds_rec {f : FuncId} {fn : Func} {c : Code} {avs : List AVal} {Qf : ARes → Heap → Prop} {rs : List ResultVar} {id d0 d1 : Nat} {ts : Array TypeId} {t0 t1 : TypeId} {p0 p1 : String} {a0 a1 : Array Edge} (hf : P.funcs[f]? = some fn)
    (hb : fn.body = some (.seq (.region id #[{ dst := some d0, op := .call { callee := .builtin .recover, args := #[], argTypes := ts }, type := t0, pos := p0, after := a0, guard := none }, { dst := some d1, op := .assign (.tmp d0), type := t1, pos := p1, after := a1, guard := none }] false) c))
    (hn : fn.ntmps = n) (hrs : fn.results = rs.toArray) (hlen : Nat.ble avs.length n = true) (hd0 : Nat.ble (d0 + 1) n = true) (hd1 : Nat.ble (d1 + 1) n = true) (hGL : GloAll G GL)
    (h : ∀ C : Ctx, C.G = G → codeX P C n G GL c ((d1, recV m) :: (d0, recV m) :: argEnv 0 avs) H (RetX P rs Qf)) : DSpec P G f avs m H (fun res m' H' => m' = recM m ∧ Qf res H') := by
  intro R w args u hG hm ha hu
  have h1 := (codeX_ok (C := ⟨w, R, blks H, G, hG, []⟩) rfl hGL _ _ _ _ (h ⟨w, R, blks H, G, hG, []⟩ rfl)).mono fun _ _ _ q => RetX_ok q
  refine callsD_of_wpS hf hb fun c₀ cs hc => ?_
  subst hn
  have hfs := arg_fs hlen ha
  have main : ∀ (x : Value) (u' : FrameMode), Rel R (recV m) x → ModeRel R (recM m) u' → c.wpS P (bodyPostS P fn c₀ cs (fun e u' w' => ∃ res m' H' R', (m' = recM m ∧ Qf res H') ∧ EndRel R' res e ∧ ModeRel R' m' u' ∧ MS ⟨w, R, blks H, G, hG, []⟩ R' H' w'))
      ((({ tmps := args ++ Array.replicate (fn.ntmps - args.size) undef, defers := [] } : Act).put (some d0) x).put (some d1) x) ({ c₀ with mode := u' } :: cs) w := by
    intro x u' hx hu'
    refine wpS_of_wp ?_
    refine wp_mono (h1 R _ w hm ((hfs.put hd0 hx).put hd1 hx)) ?_
    have hrs' : fn.results.toList = rs := by rw [hrs]
    rintro e a' w' ⟨x, env', H', R', q, er, hm', hf'⟩
    cases x with
    | normal =>
      simp only [ExitRel] at er; subst er
      obtain ⟨vs, H'', hv, hs, q⟩ := q
      obtain ⟨y, hy, hr⟩ := results_run (fn := fn) hm' hf' (by rw [hrs']; exact hv)
      exact ⟨hf'.defers, u', rfl, y, hy, _, _, H'', R', ⟨rfl, q⟩, ⟨y, rfl, hr⟩, hu'.mono hm'.ge, hm'.drop hs⟩
    | ret =>
      simp only [ExitRel] at er; subst er
      obtain ⟨vs, H'', hv, hs, q⟩ := q
      obtain ⟨y, hy, hr⟩ := results_run (fn := fn) hm' hf' (by rw [hrs']; exact hv)
      exact ⟨hf'.defers, u', rfl, y, hy, _, _, H'', R', ⟨rfl, q⟩, ⟨y, rfl, hr⟩, hu'.mono hm'.ge, hm'.drop hs⟩
    | panic v =>
      obtain ⟨y, rfl, hr⟩ := er
      obtain ⟨H'', hs, q⟩ := q
      exact ⟨hf'.defers, u', rfl, _, _, H'', R', ⟨rfl, q⟩, ⟨y, rfl, hr⟩, hu'.mono hm'.ge, hm'.drop hs⟩
    | exit i => exact q.elim
    | goto i => exact q.elim
  refine wpS_seq (wpS_region ?_)
  have hev : ∀ (x : Value), (({ tmps := args ++ Array.replicate (fn.ntmps - args.size) undef, defers := [] } : Act).put (some d0) x).eval (.tmp d0) = x := by
    intro x
    have hsz : (args ++ Array.replicate (fn.ntmps - args.size) undef).size = fn.ntmps := hfs.size
    have := Nat.le_of_ble_eq_true hd0
    simp only [Act.eval, Act.put]
    rw [Array.getD_eq_getD_getElem?, Array.getElem?_setIfInBounds_self_of_lt (by omega)]
    rfl
  have run0 : ∀ ρ, (execOp ρ { dst := some d0, op := .call { callee := .builtin .recover, args := #[], argTypes := ts }, type := t0, pos := p0, after := a0, guard := none : Oper }).run P w = .ok .recover w := fun ρ => rfl
  have wanted : ∀ (o : Oper) y, o.guard = none → Region.wanted o y = true := fun o y h => by simp [Region.wanted, h]
  show wpOpsS P _ _ [0, 1] _ _ _
  have tail : ∀ (x : Value) (u' : FrameMode), Rel R (recV m) x → ModeRel R (recM m) u' → wpOpsS P #[{ dst := some d0, op := .call { callee := .builtin .recover, args := #[], argTypes := ts }, type := t0, pos := p0, after := a0, guard := none }, { dst := some d1, op := .assign (.tmp d0), type := t1, pos := p1, after := a1, guard := none }]
      (Exit.thenS (c.wpS P (bodyPostS P fn c₀ cs (fun e u' w' => ∃ res m' H' R', (m' = recM m ∧ Qf res H') ∧ EndRel R' res e ∧ ModeRel R' m' u' ∧ MS ⟨w, R, blks H, G, hG, []⟩ R' H' w'))) (bodyPostS P fn c₀ cs (fun e u' w' => ∃ res m' H' R', (m' = recM m ∧ Qf res H') ∧ EndRel R' res e ∧ ModeRel R' m' u' ∧ MS ⟨w, R, blks H, G, hG, []⟩ R' H' w'))) [1]
      (({ tmps := args ++ Array.replicate (fn.ntmps - args.size) undef, defers := [] } : Act).put (some d0) x) ({ c₀ with mode := u' } :: cs) w := by
    intro x u' hx hu'
    simp only [wpOpsS, List.getElem?_toArray, List.getElem?_cons_succ, List.getElem?_cons_zero]
    rw [if_pos (wanted _ _ rfl)]
    simp only [execOp, hev, Sem.run_pure, Oper.upon]
    exact main x u' hx hu'
  rw [wpOpsS]
  simp only [List.getElem?_toArray, List.getElem?_cons_zero]
  rw [if_pos (wanted _ _ rfl), run0]
  simp only [recoverD, hc]
  cases m with
  | ret =>
    obtain rfl : u = .returning := hu
    have e : c₀ = { c₀ with mode := FrameMode.returning } := by rw [← hc]
    rw [e]
    exact tail .nilIface .returning (rel_raw.2 rfl) rfl
  | pan v =>
    obtain ⟨x, rfl, hx⟩ := hu
    exact tail x _ hx ⟨x, rfl, hx⟩
  | rcv v =>
    obtain ⟨x, rfl, hx⟩ := hu
    have e : c₀ = { c₀ with mode := FrameMode.panicking [{ v := x, recovered := true }] } := by rw [← hc]
    rw [e]
    exact tail .nilIface _ (rel_raw.2 rfl) ⟨x, rfl, hx⟩
omit [Tab P] in
theorem ds_frame {f : FuncId} {avs : List AVal} {H1 : Heap} (H2 : Heap) {Qd : ARes → AMode → Heap → Prop} (h : DSpec P G f avs m H1 Qd) : DSpec P G f avs m (H1 ++ H2) (fun r m' H' => ∃ H1', Qd r m' H1' ∧ H' = H1' ++ H2) := by
  intro R w args u hG hm ha hu
  exact (h R w args u hG hm.enter ha hu).mono fun e u' w' ⟨res, m', H', R', q, er, hu', hm'⟩ => ⟨res, m', H' ++ H2, R', ⟨H', q, rfl⟩, er, hu', MS.call hm hm'⟩
omit [Tab P] in
theorem ds_perm {f : FuncId} {avs : List AVal} {H1 H2 : Heap} {Qd : ARes → AMode → Heap → Prop} (hp : H1.Perm H2) (h : DSpec P G f avs m H1 Qd) : DSpec P G f avs m H2 Qd := by
  have hb : ∀ k, k ∈ blks H2 ↔ k ∈ blks H1 := fun k => by
    have := (hp.filterMap HEnt.blk).mem_iff (a := k)
    exact this.symm
  intro R w args u hG hm ha hu
  exact (h R w args u hG ((hm.perm hp.symm).blks_iff hb) ha hu).mono fun e u' w' ⟨res, m', H', R', q, er, hu', hm'⟩ => ⟨res, m', H', R', q, er, hu', hm'.blks_iff fun k => (hb k).symm⟩
omit [Tab P] in
theorem ds_heap {f : FuncId} {avs : List AVal} {Qd Qd' : ARes → AMode → Heap → Prop} (h : DSpec P G f avs m H Qd) (hq : ∀ r m' H', Qd r m' H' → ∃ H'', H'.Perm H'' ∧ Qd' r m' H'') : DSpec P G f avs m H Qd' := by
  intro R w args u hG hm ha hu
  exact (h R w args u hG hm ha hu).mono fun e u' w' ⟨res, m', H', R', q, er, hu', hm'⟩ => let ⟨H'', hp, q'⟩ := hq _ _ _ q; ⟨res, m', H'', R', q', er, hu', hm'.perm hp⟩
omit [Tab P] in
/-- The entry at a place is handed over. -/
theorem ds_at {f : FuncId} {avs : List AVal} {i : Nat} {x y : HEnt} {r : ARes} {m' : AMode} (hi : H[i]? = some x) (hs : DSpec P G f avs m [x] (fun r2 m2 H2 => m2 = m' ∧ r2 = r ∧ H2 = [y])) :
    DSpec P G f avs m H (fun r2 m2 H2 => m2 = m' ∧ r2 = r ∧ H2 = H.set i y) := by
  have hp := perm_front hi
  refine ds_heap (ds_perm (H1 := [x] ++ H.eraseIdx i) (by simpa using hp.symm) (ds_frame (H.eraseIdx i) hs)) ?_
  rintro r2 m2 H' ⟨H1', ⟨rfl, rfl, rfl⟩, rfl⟩
  exact ⟨_, set_perm y hi, rfl, rfl, rfl⟩
omit [Tab P] in
theorem ds_pre {f : FuncId} {avs : List AVal} {H1 H1' : Heap} {r : ARes} {m' : AMode} (H2 : Heap) (hs : DSpec P G f avs m H1 (fun r2 m2 H2 => m2 = m' ∧ r2 = r ∧ H2 = H1')) :
    DSpec P G f avs m (H1 ++ H2) (fun r2 m2 H' => m2 = m' ∧ r2 = r ∧ H' = H1' ++ H2) := by
  refine ds_heap (ds_frame H2 hs) ?_
  rintro r2 m2 H' ⟨H3, ⟨rfl, rfl, rfl⟩, rfl⟩
  exact ⟨_, List.Perm.refl _, rfl, rfl, rfl⟩
/-! ## As a function leaves -/
def Lv (P : Program) (G : Glo) (n : Nat) (rs : List ResultVar) (env : Env) (D : List Deferred) (m : AMode) (H : Heap) (Qf : ARes → Heap → Prop) : Prop :=
  ∀ (C : Ctx) (R : Seal) (a : Act) (w : World) (fn : Func) (u : FrameMode) (D0 : List Deferred), C.G = G → fn.results.toList = rs → MS C R H w → FSa D0 n R env a → ModeRel R m u →
    Leaves P fn a.tmps (fun e w' => ∃ res H' R', Qf res H' ∧ EndRel R' res e ∧ MS C R' H' w') D u w
variable {rs : List ResultVar} {env : Env} {Qf : ARes → Heap → Prop} {D : List Deferred}
omit [Tab P] in
omit [Tab P] in
/-- A deferred call that answers. -/
theorem lv_call {f : FuncId} {avs : List AVal} {cap args : Array Value} {v : AVal} {m' : AMode} {H' : Heap} (hs : DSpec P G f avs m H (fun r2 m2 H2 => m2 = m' ∧ r2 = .ret v ∧ H2 = H')) (ha : ∀ R, RelV R avs (args ++ cap).toList)
    (hc : ∀ args w, (callFunc f args).run P w = .ok (.enter f args) w) (k : Lv P G n rs env D m'.settle H' Qf) : Lv P G n rs env ({ target := .fn (.func f) cap, args := args } :: D) m H Qf := by
  intro C R a w fn u D0 hC hrs hm hf hu
  subst hC
  refine leaves_cons (f := f) (args := args ++ cap) (mode_run hu) (by simp only [invoke]; exact hc _ _) ?_
  refine (hs R w _ u hm.glo (MS.enter (H2 := []) (by simpa using hm)) (ha R) hu).mono ?_
  rintro e u' w' ⟨res, m2, H2, R', ⟨rfl, rfl, rfl⟩, ⟨y, rfl, hr⟩, hu', hm'⟩
  have hm2 : MS C R' H2 w' := by simpa using MS.call (H2 := []) (by simpa using hm) hm'
  exact k C R' a w' fn _ D0 rfl hrs hm2 (hf.mono hm'.ge) (settle_rel hu')
def LvQ (P : Program) (G : Glo) (n : Nat) (rs : List ResultVar) (Qf : ARes → Heap → Prop) : List Deferred → AExit → Env → Heap → Prop
  | D, .ret, e, H | D, .normal, e, H => Lv P G n rs e D .ret H Qf
  | D, .panic v, e, H => Lv P G n rs e D (.pan v) H Qf
  | _, _, _, _ => False
omit [Tab P] in
/-- FROM THE SPINE TO THE CONTRACT. -/
theorem fn_d {f : FuncId} {fn : Func} {c : Code} {avs : List AVal} (hf : P.funcs[f]? = some fn)
    (hc : ∀ args w, (callFunc f args).run P w = .ok (.enter f args) w) (hb : fn.body = some c) (hn : fn.ntmps = n) (hrs : fn.results = rs.toArray) (hlen : Nat.ble avs.length n = true)
    (h : ∀ C : Ctx, C.G = G → C.D = [] → AWpD P C n c (argEnv 0 avs) H (LvQ P G n rs Qf)) : FnSpec P G f avs H Qf := by
  intro R w args hG hm ha
  refine .inl ⟨hc args w, calls_of_wp_defers hf hb ?_⟩
  subst hn
  have hrs' : fn.results.toList = rs := by rw [hrs]
  refine wp_mono (h ⟨w, R, blks H, G, hG, []⟩ rfl rfl R _ w hm (arg_fs hlen ha)) ?_
  rintro e a' w' ⟨D, x, env', H', R', q, er, hm', hf'⟩
  cases x with
  | normal =>
    simp only [ExitRel] at er; subst er
    have := q _ R' a' w' fn .returning D rfl hrs' hm' hf' rfl
    rwa [← hf'.defers] at this
  | ret =>
    simp only [ExitRel] at er; subst er
    have := q _ R' a' w' fn .returning D rfl hrs' hm' hf' rfl
    rwa [← hf'.defers] at this
  | panic v =>
    obtain ⟨y, rfl, hr⟩ := er
    have := q _ R' a' w' fn (.panicking [{ v := y, recovered := false }]) D rfl hrs' hm' hf' ⟨y, rfl, hr⟩
    rwa [← hf'.defers] at this
  | exit i => exact q.elim
  | goto i => exact q.elim
end
end Go.Proofs.YtmgkpbgfkjedeaaGreatDoor
namespace Go.Proofs.YtmgkpbgfkjedeaaGreatDoor
open Go Go.RowKit
theorem filterMap_set {α β : Type} {f : α → Option β} {x y : α} (hf : f y = f x) : ∀ {h : List α} {i : Nat}, h[i]? = some x → (h.set i y).filterMap f = h.filterMap f
  | [], i, e => by simp at e
  | z :: h, 0, e => by
    simp only [List.getElem?_cons_zero, Option.some.injEq] at e
    subst e
    simp [List.filterMap_cons, hf]
  | z :: h, i + 1, e => by
    simp only [List.getElem?_cons_succ] at e
    simp only [List.set_cons_succ, List.filterMap_cons, filterMap_set hf e]
theorem MS.setEnt {C : Ctx} {R : Seal} {H : Heap} {w : World} {i : Nat} {x y : HEnt} (h : MS C R H w) (hi : H[i]? = some x) (hb : y.blk = x.blk) (hy : y.holds R w) : MS C R (H.set i y) w := by
  have hx : x ∈ H := List.mem_of_getElem? hi
  have hm : ∀ z, z ∈ H.set i y → z ∈ H ∨ z = y := fun z hz => List.mem_or_eq_of_mem_set hz
  refine ⟨h.sealed, h.ge, h.fresh, ⟨fun z hz => ?_, ?_, fun z hz b hzb => ?_⟩, fun z hz b hzb => ?_, h.ext⟩
  · rcases hm z hz with h1 | rfl
    · exact h.heap.holds z h1
    · exact hy
  · rw [filterMap_set hb hi]; exact h.heap.nodup
  · rcases hm z hz with h1 | rfl
    · exact h.heap.apart z h1 b hzb
    · exact h.heap.apart x hx b (by rw [← hb]; exact hzb)
  · rcases hm z hz with h1 | rfl
    · exact h.own z h1 b hzb
    · exact h.own x hx b (by rw [← hb]; exact hzb)
theorem relL_set {R : Seal} {a a' : AVal} (ht : ∀ v, RelC R a [v] → RelC R a' [v]) : ∀ {cs : List AVal} {vs : List Value} {p : Nat}, RelL R cs vs → cs[p]? = some a → RelL R (cs.set p a') vs
  | [], _, _, _, e => by simp at e
  | c :: cs, _, 0, ⟨v, t, rfl, h1, h2⟩, e => by
    simp only [List.getElem?_cons_zero, Option.some.injEq] at e
    subst e
    exact ⟨v, t, rfl, ht v h1, h2⟩
  | c :: cs, _, p + 1, ⟨v, t, rfl, h1, h2⟩, e => by
    simp only [List.getElem?_cons_succ] at e
    exact ⟨v, t, rfl, h1, relL_set ht h2 e⟩
/-- An entry whose cell is told otherwise. -/
inductive CellTo (R : Seal) (p : Nat) (a' : AVal) : HEnt → HEnt → Prop
  | cells {b eT cs a} (hp : cs[p]? = some a) (ht : ∀ v, RelC R a [v] → RelC R a' [v]) : CellTo R p a' (.cells b eT cs) (.cells b eT (cs.set p a'))
  | row {v eT sz n cs a} (hp : cs[p]? = some a) (ht : ∀ v, RelC R a [v] → RelC R a' [v]) : CellTo R p a' (.row v eT sz n cs) (.row v eT sz n (cs.set p a'))
theorem CellTo.holds {R : Seal} {p : Nat} {a' : AVal} {x y : HEnt} {w : World} (h : CellTo R p a' x y) (hx : x.holds R w) : y.holds R w ∧ y.blk = x.blk := by
  cases h with
  | cells hp ht =>
    obtain ⟨C, e, fz, hb, hl, hf⟩ := hx
    exact ⟨⟨C, e, fz, hb, relL_set ht hl hp, hf⟩, rfl⟩
  | row hp ht =>
    rename_i v eT sz n cs a
    obtain ⟨hlen, y⟩ := hx
    refine ⟨⟨by rw [List.length_set]; exact hlen, ?_⟩, by cases v with | slice a l c => cases a <;> rfl | _ => rfl⟩
    rcases y with ⟨h1, h2⟩ | ⟨b, cap, C, e, fz, rfl, hb, hs, hn, hl, hf⟩
    · exact .inl ⟨h1, h2⟩
    · exact .inr ⟨b, cap, C, e, fz, rfl, hb, hs, hn, relL_set ht hl hp, hf⟩
def To (C : Ctx) (n : Nat) (e : Env) (h : Heap) (e' : Env) (h' : Heap) : Prop :=
  ∀ R a w, MS C R h w → FSa C.D n R e a → ∃ R', R.le R' ∧ MS C R' h' w ∧ FSa C.D n R' e' a
section
variable {C : Ctx} {n : Nat} {e e' e'' : Env} {h h' h'' : Heap}
theorem to_trans (a : To C n e h e' h') (b : To C n e' h' e'' h'') : To C n e h e'' h'' := fun R x w hm hf =>
  let ⟨R1, l1, m1, f1⟩ := a R x w hm hf
  let ⟨R2, l2, m2, f2⟩ := b R1 x w m1 f1
  ⟨R2, Seal.le_trans l1 l2, m2, f2⟩
theorem to_sub (hs : Env.sub e e') (hh : h'.Sublist h) : To C n e h e' h' := fun R _ _ hm hf => ⟨R, Seal.le_refl R, hm.drop hh, hf.sub hs⟩
theorem to_ghost (sz : Nat) : To C n e h e (h ++ [.row (.slice none 0 0) none sz 0 []]) := fun R a w hm hf => by
  refine ⟨R, Seal.le_refl R, MS.perm (H := .row (.slice none 0 0) none sz 0 [] :: h) ?_ (List.perm_append_singleton _ h).symm, hf⟩
  refine ⟨hm.sealed, hm.ge, hm.fresh, ⟨fun z hz => ?_, hm.heap.nodup, fun z hz b hb => ?_⟩, fun z hz b hb => ?_, hm.ext⟩
  · rcases List.mem_cons.1 hz with rfl | hz
    · exact ⟨by simp, .inl ⟨rfl, rfl⟩⟩
    · exact hm.heap.holds z hz
  · rcases List.mem_cons.1 hz with rfl | hz
    · cases hb
    · exact hm.heap.apart z hz b hb
  · rcases List.mem_cons.1 hz with rfl | hz
    · cases hb
    · exact hm.own z hz b hb
theorem to_cell {i p : Nat} {a' : AVal} {x y : HEnt} (hi : h[i]? = some x) (hc : ∀ R, CellTo R p a' x y) : To C n e h e (h.set i y) := fun R a w hm hf => by
  obtain ⟨h1, h2⟩ := (hc R).holds (hm.heap.holds x (List.mem_of_getElem? hi))
  exact ⟨R, Seal.le_refl R, hm.setEnt hi h2 h1, hf⟩
/-- A row of the call's own is sealed; the cell that holds it is told so. -/
theorem to_seal {i k p sz m : Nat} {v : Value} {eT : Option TypeId} {cs : List AVal} {x y : HEnt} (f : Nat → AVal) (hi : h[i]? = some (.row v eT sz m cs)) (hk : (h.eraseIdx i)[k]? = some x)
    (hf : ∀ j, j < m → (f j).cells = (cs.drop (j * sz)).take sz ∧ (f j).plain = true) (hc : ∀ R, Rel R (.list sz m f) v → CellTo R p (.list sz m f) x y) : To C n e h e ((h.eraseIdx i).set k y) := fun R a w hm hfs => by
  obtain ⟨R', hle, hm', hr⟩ := MS.seal_row (hm.perm (perm_front hi)) hf
  obtain ⟨h1, h2⟩ := (hc R' hr).holds (hm'.heap.holds x (List.mem_of_getElem? hk))
  exact ⟨R', hle, hm'.setEnt hk h2 h1, hfs.mono hle⟩
theorem own_list {R : Seal} {j sz m : Nat} {u v : Value} {f : Nat → AVal} (hr : Rel R (.list sz m f) v) : RelC R (.own j v) [u] → RelC R (.list sz m f) [u] := by
  rintro ⟨e, _⟩
  simp only [List.cons.injEq, and_true] at e
  subst e
  exact rel_one hr rfl
theorem nil_own {R : Seal} {j : Nat} {u : Value} : RelC R (.raw (.slice none 0 0)) [u] → RelC R (.own j (.slice none 0 0)) [u] := by
  intro e
  have e : [u] = [.slice none 0 0] := e
  exact ⟨e, rfl⟩
theorem nil_list {R : Seal} {sz : Nat} {f : Nat → AVal} {u : Value} : RelC R (.raw (.slice none 0 0)) [u] → RelC R (.list sz 0 f) [u] := by
  intro e
  have e : [u] = [.slice none 0 0] := e
  exact ⟨none, 0, e, Nat.le_refl _, .inl rfl⟩
end
section
variable {P : Program} [Tab P] {C : Ctx} {n : Nat} {env : Env} {H : Heap} {Q : AExit → Env → Heap → Prop} {G : Glo} {GL : List (Nat × List AVal)}
omit [Tab P] in
theorem lp_to {c : Code} {e' : Env} {h' : Heap} (hto : To C n env H e' h') (k : Lp P C n c e' h' Q) : Lp P C n c env H Q := by
  refine ⟨fun R a w hm hf => ?_⟩
  obtain ⟨R0, _, hm, hf⟩ := hto R a w hm hf
  exact k.h R0 a w hm hf
omit [Tab P] in
/-- What is handed back may be told otherwise. -/
def ResTo (res : ARes) (H : Heap) (v : AVal) : Prop := ∀ (C : Ctx) (R : Seal) (w : World) (e : Ending), MS C R H w → EndRel R res e → ∃ R', MS C R' [] w ∧ EndRel R' (.ret v) e
omit [Tab P] in
theorem fn_told {f : FuncId} {avs : List AVal} {H : Heap} {Qf : ARes → Heap → Prop} {v : AVal} (h : FnSpec P G f avs H Qf) (hq : ∀ r H', Qf r H' → ResTo r H' v) : FnSpec P G f avs H (fun r H' => r = .ret v ∧ H' = []) := by
  intro R w args hG hm ha
  rcases h R w args hG hm ha with ⟨h1, h2⟩ | ⟨x, w', h1, res, H', R', q, er, hm'⟩
  · exact .inl ⟨h1, h2.mono fun e w' ⟨res, H', R', q, er, hm'⟩ => let ⟨R2, m2, e2⟩ := hq _ _ q _ _ _ _ hm' er; ⟨.ret v, [], R2, ⟨rfl, rfl⟩, e2, m2⟩⟩
  · obtain ⟨R2, m2, e2⟩ := hq _ _ q _ _ _ _ hm' er
    exact .inr ⟨x, w', h1, .ret v, [], R2, ⟨rfl, rfl⟩, e2, m2⟩
end
end Go.Proofs.YtmgkpbgfkjedeaaGreatDoor
namespace Go.Proofs.YtmgkpbgfkjedeaaGreatDoor
open Go Go.RowKit
theorem MS.seal_cells {C : Ctx} {R : Seal} {w : World} {H : Heap} {b : Nat} {eT : Option TypeId} {cs : List AVal} (h : MS C R (.cells b eT cs :: H) w) :
    ∃ R', R.le R' ∧ MS C R' H w ∧ Rel R' (.rop cs 0) (.pointer (some ⟨b, 0, none⟩)) := by
  obtain ⟨Cs, el, fz, hb, hl, hfz⟩ := h.heap.holds _ (List.mem_cons_self ..)
  obtain ⟨h1, h2⟩ := h.fixed (b := b) rfl hb
  refine ⟨_, h2, h1, ⟨b, 0, Cs, el, fz, rfl, Nat.le_refl _, Seal.put_at _ _ _, ?_⟩, rfl⟩
  have hlen := relL_length hl
  rw [Nat.sub_self, List.drop_zero, List.take_of_length_le (by omega)]
  exact relL_mono h2 _ _ hl
section
variable {P : Program} [Tab P] {C : Ctx} {n : Nat} {G : Glo} {GL : List (Nat × List AVal)} {e : Env} {h : Heap} {env : Env} {H : Heap} {Q : AExit → Env → Heap → Prop}
omit [Tab P] in
theorem aw_to {c : Code} {e' : Env} {h' : Heap} (hto : To C n env H e' h') (k : AWp P C n c e' h' Q) : AWp P C n c env H Q := fun R a w hm hf => by
  obtain ⟨R0, _, hm, hf⟩ := hto R a w hm hf
  exact k R0 a w hm hf
/-- Slots told as the call's own. -/
def owns : List (Nat × Nat × Value) → Env → Env
  | [], e => e
  | (s, i, v) :: t, e => (s, .own i v) :: owns t e
def OwnsOK : List (Nat × Nat × Value) → Env → Prop
  | [], _ => True
  | (s, _, v) :: t, e => (Env.get (owns t e) s = some (.raw v) ∧ vAgg v = false) ∧ OwnsOK t e
theorem fs_owns {D : List Deferred} {R : Seal} {a : Act} : ∀ {os : List (Nat × Nat × Value)} {e : Env}, OwnsOK os e → FSa D n R e a → FSa D n R (owns os e) a
  | [], _, _, h => h
  | (_, _, _) :: _, _, ⟨⟨h1, h2⟩, h3⟩, h => fs_own h2 h1 (fs_owns h3 h)
/-- Into a function with such slots. -/
theorem fn_own (os : List (Nat × Nat × Value)) {f : FuncId} {fn : Func} {c : Code} {avs : List AVal} {Qf : ARes → Heap → Prop} {rs : List ResultVar} (hf : P.funcs[f]? = some fn)
    (hc : ∀ args w, (callFunc f args).run P w = .ok (.enter f args) w) (hb : fn.body = some c) (hn : fn.ntmps = n) (hrs : fn.results = rs.toArray) (hlen : Nat.ble avs.length n = true) (ho : OwnsOK os (argEnv 0 avs))
    (h : ∀ C : Ctx, C.G = G → AWp P C n c (owns os (argEnv 0 avs)) H (RetX P rs Qf)) : FnSpec P G f avs H Qf :=
  fn_spec hf hb hc hn hrs hlen fun w0 R0 hG => AWp.mono (aw_env (fun _ _ hf => fs_owns ho hf) (h ⟨w0, R0, blks H, G, hG, []⟩ rfl)) fun _ _ _ q => RetX_ok q
end
end Go.Proofs.YtmgkpbgfkjedeaaGreatDoor
namespace Go.Proofs.YtmgkpbgfkjedeaaGreatDoor
open Go Go.RowKit
theorem iface_told {R : Seal} {t : TypeId} {a a' : AVal} (h : ∀ v, Rel R a v → Rel R a' v) {u : Value} : RelC R (.iface t a) [u] → RelC R (.iface t a') [u] := by
  rintro ⟨w, e, h1, h2⟩
  have := h w ⟨h1, h2⟩
  exact ⟨w, e, this.1, this.2⟩
theorem own_told {R : Seal} {j : Nat} {x : Value} {a : AVal} (h : Rel R a x) : ∀ v, Rel R (.own j x) v → Rel R a v := fun v hv => by rw [(rel_own.1 hv).1]; exact h
theorem ds_told {P : Program} {G : Glo} {f : FuncId} {avs : List AVal} {m m' : AMode} {H H' : Heap} {v : AVal} {Y : Type} {H1 : Y → Heap} (h : DSpec P G f avs m H (fun r2 m2 H2 => m2 = m' ∧ r2 = .ret v ∧ ∃ y, H2 = H1 y))
    (hto : ∀ y (C : Ctx) R w, MS C R (H1 y) w → ∃ R', R.le R' ∧ MS C R' H' w) : DSpec P G f avs m H (fun r2 m2 H2 => m2 = m' ∧ r2 = .ret v ∧ H2 = H') := by
  intro R w args u hG hm ha hu
  refine (h R w args u hG hm ha hu).mono ?_
  rintro e u' w' ⟨res, m2, H2, R', ⟨rfl, rfl, y, rfl⟩, ⟨x, rfl, hr⟩, hu', hm'⟩
  obtain ⟨R2, hle, hm2⟩ := hto y _ _ _ hm'
  exact ⟨_, _, _, R2, ⟨rfl, rfl, rfl⟩, ⟨x, rfl, rel_mono hle hr⟩, hu'.mono hle, hm2⟩
/-- The entries at some places, one by one; what is left. -/
def pickL : List Nat → Heap → Heap
  | [], _ => []
  | i :: is, H => match H[i]? with
    | some x => x :: pickL is (H.eraseIdx i)
    | none => []
def restL : List Nat → Heap → Heap
  | [], H => H
  | i :: is, H => match H[i]? with
    | some _ => restL is (H.eraseIdx i)
    | none => H
theorem pick_perm : ∀ (is : List Nat) (H : Heap), H.Perm (pickL is H ++ restL is H)
  | [], H => List.Perm.refl _
  | i :: is, H => by
    unfold pickL restL
    cases h : H[i]? with
    | none => exact List.Perm.refl _
    | some x =>
      have h1 := perm_front h
      exact h1.trans ((pick_perm is (H.eraseIdx i)).cons x)
/-- A call that is handed the entries at some places. -/
theorem cx_pick (is : List Nat) {P : Program} [Tab P] {G : Glo} {f : FuncId} {avs : List AVal} {H H1 : Heap} {K Kp : AVal → Heap → Prop} {Qf : ARes → Heap → Prop} (hs : FnSpec P G f avs H1 Qf) (e1 : pickL is H = H1)
    (kr : ∀ v H1', Qf (.ret v) H1' → ∃ H2, pickL is H2 = H1' ∧ restL is H2 = restL is H ∧ K v H2) (kp : ∀ v H1', Qf (.panic v) H1' → ∃ H2, pickL is H2 = H1' ∧ restL is H2 = restL is H ∧ Kp v H2) : Cx P G f avs H K Kp := by
  subst e1
  have h1 := fn_perm (pick_perm is H).symm (fn_frame (restL is H) hs)
  refine ⟨fun r H' => match r with | .ret v => K v H' | .panic v => Kp v H', fn_heap h1 ?_, fun v H' h => h, fun v H' h => h⟩
  rintro r H' ⟨H1', q, rfl⟩
  cases r with
  | ret v =>
    obtain ⟨H2, g1, g2, k⟩ := kr v H1' q
    refine ⟨H2, ?_, k⟩
    have := pick_perm is H2
    rw [g1, g2] at this
    exact this.symm
  | panic v =>
    obtain ⟨H2, g1, g2, k⟩ := kp v H1' q
    refine ⟨H2, ?_, k⟩
    have := pick_perm is H2
    rw [g1, g2] at this
    exact this.symm
theorem tuple_one {R R' : Seal} {a a' b : AVal} {x : Value} (hle : R.le R') (h : Rel R (.tuple [a, b]) x) (ht : ∀ v, Rel R a v → Rel R' a' v) : Rel R' (.tuple [a', b]) x := by
  obtain ⟨⟨ws, e, u, t, e1, hu, u2, t2, e2, hu2, rfl⟩, h2⟩ := h
  have k := ht u ⟨hu.1, hu.2⟩
  have k2 := rel_mono hle (show Rel R b u2 from ⟨hu2.1, hu2.2⟩)
  exact ⟨⟨ws, e, _, _, e1, ⟨k.1, k.2⟩, _, _, e2, ⟨k2.1, k2.2⟩, rfl⟩, h2⟩
theorem agg_told {R R' : Seal} {cs : List AVal} {p : Nat} {a a' : AVal} {v : Value} (hle : R.le R') (h : Rel R (.agg cs) v) (hp : cs[p]? = some a) (ht : ∀ v, RelC R' a [v] → RelC R' a' [v]) : Rel R' (.agg (cs.set p a')) v :=
  ⟨relL_set ht (relL_mono hle _ _ h.1) hp, h.2⟩
section
variable {P : Program} [Tab P] {C : Ctx} {n : Nat} {env : Env} {H : Heap} {Q : List Deferred → AExit → Env → Heap → Prop} {G : Glo} {GL : List (Nat × List AVal)}
theorem awd_cuty {a b : Code} {X : Type} (hC : C.G = G) (hGL : GloAll G GL) (I : X → Env) (J : X → Heap) (Inv : X → Prop) (h1 : codeX P C n G GL a env H (thenQ (fun e h => Cy I J Inv e h) (Q C.D))) (h2 : ∀ x, Inv x → AWpD P C n b (I x) (J x) Q) : AWpD P C n (.seq a b) env H Q := by
  refine awd_seq (awd_of ((codeX_ok hC hGL _ _ _ _ h1).mono fun x e h q => ?_))
  cases x with
  | normal =>
    obtain ⟨y, hy, hs, rfl⟩ := q.h
    exact fun R a w hm hf => h2 y hy R a w hm (hf.sub hs)
  | exit i => exact q
  | goto i => exact q
  | ret => exact q
  | panic v => exact q
end
end Go.Proofs.YtmgkpbgfkjedeaaGreatDoor
namespace Go.Proofs.YtmgkpbgfkjedeaaGreatDoor
open Go Go.RowKit
abbrev pJ (b : Nat) : Value := .pointer (some ⟨b, 0, none⟩)
abbrev inZ (b : Nat) (i : Int) : HEnt := .cells b (some 3) [.int .i64 i]
abbrev inC (b i : Nat) : HEnt := inZ b (i : Nat)
abbrev dgF (b : Nat) (s : List UInt8) : AVal := .func (.func 45) [] [.own 0 (pJ b), .rop [.str s] 0]
/-- Where a number's whole part ends. -/
def intS (s : List UInt8) : Nat := if mnS s < s.length ∧ byteAt s (mnS s) = 48 then mnS s + 1 else dgE s (mnS s)
theorem numI_int (s : List UInt8) : numI s = if intS s = mnS s then 0 else frS s (intS s) := by
  unfold numI intS
  split
  · rw [if_neg (by omega)]
  · rfl
def frP (s : List UInt8) (b : Nat) : Nat := if b < s.length ∧ byteAt s b = 46 then dgE s (b + 1) else b
/-! ## The reference's machine, by classes of bytes -/
def nmC (c : Nat) : Nat := if c = 45 then 1 else if c = 48 then 2 else if 49 ≤ c ∧ c ≤ 57 then 3 else if c = 46 then 4 else if c = 101 ∨ c = 69 then 5 else if c = 43 then 6 else 0
def nmK (t k : Nat) : Nat :=
  if t = 0 ∧ k = 1 then 1
  else if (t = 0 ∨ t = 1) ∧ k = 2 then 2
  else if (t = 0 ∨ t = 1 ∨ t = 3) ∧ (k = 2 ∨ k = 3) then 3
  else if (t = 2 ∨ t = 3) ∧ k = 4 then 4
  else if (t = 4 ∨ t = 5) ∧ (k = 2 ∨ k = 3) then 5
  else if (t = 2 ∨ t = 3 ∨ t = 5) ∧ k = 5 then 6
  else if t = 6 ∧ (k = 6 ∨ k = 1) then 7
  else if (t = 6 ∨ t = 7 ∨ t = 8) ∧ (k = 2 ∨ k = 3) then 8
  else 9
theorem nm_cls (c : Nat) : (c = 45 ∧ nmC c = 1) ∨ (c = 48 ∧ nmC c = 2) ∨ ((49 ≤ c ∧ c ≤ 57) ∧ nmC c = 3) ∨ (c = 46 ∧ nmC c = 4) ∨ (c = 101 ∧ nmC c = 5) ∨ (c = 69 ∧ nmC c = 5) ∨ (c = 43 ∧ nmC c = 6) ∨ ((c < 43 ∨ c = 44 ∨ c = 47) ∧ nmC c = 0) ∨ (58 ≤ c ∧ c ≠ 101 ∧ c ≠ 69 ∧ nmC c = 0) := by
  unfold nmC
  (repeat' split) <;> omega
theorem nmT_K (t c : Nat) : nmT t c = nmK t (nmC c) := by
  have h := nm_cls c
  have h1 : (48 ≤ c ∧ c ≤ 57) ↔ (nmC c = 2 ∨ nmC c = 3) := by omega
  have h2 : c = 45 ↔ nmC c = 1 := by omega
  have h3 : c = 48 ↔ nmC c = 2 := by omega
  have h4 : c = 46 ↔ nmC c = 4 := by omega
  have h5 : (c = 101 ∨ c = 69) ↔ nmC c = 5 := by omega
  have h6 : (c = 43 ∨ nmC c = 1) ↔ (nmC c = 6 ∨ nmC c = 1) := by omega
  unfold nmT nmK
  simp only [h1, h2, h3, h4, h5, h6]
def stN : Nat → List UInt8
  | 0 => [115, 116, 97, 114, 116]
  | 1 => [109, 105, 110, 117, 115]
  | 2 => [122, 101, 114, 111]
  | 3 => [105, 110, 116]
  | 4 => [100, 111, 116]
  | 5 => [102, 114, 97, 99]
  | 6 => [101]
  | 7 => [115, 105, 103, 110]
  | _ => [101, 120, 112]
set_option maxRecDepth 20000
set_option maxHeartbeats 4000000
set_option linter.unusedSimpArgs false
set_option linter.unusedVariables false
attribute [local irreducible] AWp AOps byteAt SrcOK OrOk GloAll FnSpec
attribute [local irreducible] numI
theorem num_digits {G : Glo} (b : Nat) (s : List UInt8) (i : Nat) (hl : s.length ≤ 4611686018427387904) (hi : i ≤ s.length) : FnSpec Tryz.prog G 45 [.raw (pJ b), .rop [.str s] 0] [inC b i] (fun r H => r = .ret (.bool (ltB (i : Int) (dgE s i : Nat))) ∧ H = [inC b (dgE s i)]) := by
  have hGL : GloAll G [] := gloAll_nil
  refine fn_own [(0, 0, pJ b)] Tryz.func45 Tryz.call45 rfl rfl rfl rfl (by repeat (first | exact trivial | refine And.intro ⟨rfl, rfl⟩ ?_)) ?_
  intro C hC
  refine aw_code hC hGL (xn1 ?_)
  intros
  refine lp hC hGL (fun k : Nat => [(0, .own 0 (pJ b)), (1, .rop [.str s] 0), (3, .int .i64 (i : Nat))]) (fun k => [inC b k]) (fun k => i ≤ k ∧ k ≤ s.length ∧ dgE s k = dgE s i) (fun k => s.length - k) i ⟨Nat.le_refl _, hi, rfl⟩ env_w rfl ?_
  rintro k ⟨k1, k2, k3⟩
  by_cases h : k < s.length ∧ 48 ≤ byteAt s k ∧ byteAt s k ≤ 57
  · have e := dgE_go h.1 h.2.1 h.2.2
    obtain ⟨h1, h2, h3⟩ := h
    refine xn1 ?_
    intros
    exact nxs (k + 1) ⟨by omega, by omega, by omega⟩ (by omega) env_w sub_w
  · have e := dgE_no h
    rw [← k3, e]
    by_cases h1 : k < s.length
    · by_cases h2 : 48 ≤ byteAt s k
      · have h3 : ¬ byteAt s k ≤ 57 := fun h3 => h ⟨h1, h2, h3⟩
        exact xn0
      · exact xn0
    · exact xn0
theorem json_number {G : Glo} (s : List UInt8) (hl : s.length ≤ 4611686018427387904) : FnIs Tryz.prog G 30 [.str s] (.int .i64 (numI s : Nat)) := by
  rw [numI_int]
  have hGL : GloAll G [] := gloAll_nil
  refine fn_a Tryz.func30 Tryz.call30 rfl rfl rfl rfl ?_
  intro C hC
  refine cut hC hGL [(1, .rop [.str s] 0), (2, .int .i64 0)] [] True xn0 fun _ => ?_
  refine cuty hC hGL (fun b : Nat => [(1, .rop [.str s] 0), (2, .int .i64 0), (3, .own 0 (pJ b))]) (fun b => [inC b 0]) (fun _ => True) ?_ ?_
  · refine xn1 ?_
    intro b
    exact cy b trivial
  intro b _
  have hD := fun i hi => num_digits (G := G) b s i hl hi
  refine cut hC hGL [(1, .rop [.str s] 0), (2, .int .i64 0), (3, .own 0 (pJ b)), (4, dgF b s)] [inC b 0] True xn0 fun _ => ?_
  refine cut hC hGL [(1, .rop [.str s] 0), (2, .int .i64 0), (3, .own 0 (pJ b)), (4, dgF b s)] [inC b (mnS s)] True ?_ fun _ => ?_
  · unfold mnS
    by_cases h : 0 < s.length ∧ byteAt s 0 = 45
    · rw [if_pos h]
      obtain ⟨h1, h2⟩ := h
      exact xn0
    · rw [if_neg h]
      by_cases h1 : 0 < s.length
      · have h2 : byteAt s 0 ≠ 45 := fun h2 => h ⟨h1, h2⟩
        exact xn0
      · exact xn0
  have hm := mnS_le s
  by_cases hn : intS s = mnS s
  · rw [if_pos hn]
    unfold intS at hn
    generalize mnS s = m at *
    by_cases h : m < s.length ∧ byteAt s m = 48
    · rw [if_pos h] at hn; omega
    · rw [if_neg h] at hn
      have hD := hD m (by omega)
      rw [hn] at hD
      by_cases h1 : m < s.length
      · have h2 : byteAt s m ≠ 48 := fun h2 => h ⟨h1, h2⟩
        exact aw_code hC hGL xn0
      · exact aw_code hC hGL xn0
  rw [if_neg hn]
  have hi : intS s ≤ s.length := by
    have := (dgE_ge s (mnS s)).2
    unfold intS
    split <;> omega
  refine cut hC hGL [(1, .rop [.str s] 0), (3, .own 0 (pJ b)), (4, dgF b s)] [inC b (intS s)] True ?_ fun _ => ?_
  · unfold intS at *
    generalize mnS s = m at *
    by_cases h : m < s.length ∧ byteAt s m = 48
    · rw [if_pos h]
      obtain ⟨h1, h2⟩ := h
      exact xn0
    · rw [if_neg h] at *
      have hD := hD m (by omega)
      have hg := (dgE_ge s m).1
      by_cases h1 : m < s.length
      · have h2 : byteAt s m ≠ 48 := fun h2 => h ⟨h1, h2⟩
        exact xn0
      · exact xn0
  clear hm hn
  generalize intS s = a at *
  have hD1 : a + 1 ≤ s.length → FnSpec Tryz.prog G 45 [.raw (pJ b), .rop [.str s] 0] [inZ b ((a : Int) + 1)] (fun r H => r = .ret (.bool (ltB ((a : Int) + 1) (dgE s (a + 1) : Nat))) ∧ H = [inC b (dgE s (a + 1))]) := hD (a + 1)
  have hg1 := dgE_ge s (a + 1)
  by_cases hf : (a < s.length ∧ byteAt s a = 46) ∧ dgE s (a + 1) = a + 1
  · obtain ⟨h, h3⟩ := hf
    rw [show frS s a = a by unfold frS; rw [if_pos h, if_pos h3]]
    obtain ⟨h1, h2⟩ := h
    have hD1 := hD1 (by omega)
    rw [h3] at hD1
    exact aw_code hC hGL xn0
  have hf2 : frS s a = exS s (frP s a) := by
    unfold frS frP
    by_cases h : a < s.length ∧ byteAt s a = 46
    · rw [if_pos h, if_pos h, if_neg fun h3 => hf ⟨h, h3⟩]
    · rw [if_neg h, if_neg h]
  have hf3 : frP s a ≤ s.length := by unfold frP; split <;> omega
  rw [hf2]
  refine cut hC hGL [(1, .rop [.str s] 0), (3, .own 0 (pJ b)), (4, dgF b s)] [inC b (frP s a)] True ?_ fun _ => ?_
  · unfold frP
    by_cases h : a < s.length ∧ byteAt s a = 46
    · have h3 : dgE s (a + 1) ≠ a + 1 := fun h3 => hf ⟨h, h3⟩
      rw [if_pos h]
      obtain ⟨h1, h2⟩ := h
      have hD1 := hD1 (by omega)
      exact xn0
    · rw [if_neg h]
      by_cases h1 : a < s.length
      · have h2 : byteAt s a ≠ 46 := fun h2 => h ⟨h1, h2⟩
        exact xn0
      · exact xn0
  clear hf hf2 hg1 hD1
  generalize frP s a = c at *
  unfold exS
  by_cases h : c < s.length ∧ (byteAt s c = 101 ∨ byteAt s c = 69)
  · rw [if_pos h]
    obtain ⟨h1, h2⟩ := h
    have hs := sgS_le s (c + 1)
    have hg := (dgE_ge s (sgS s (c + 1))).1
    have hD := hD (sgS s (c + 1)) (by omega)
    unfold sgS at *
    by_cases h3 : c + 1 < s.length ∧ (byteAt s (c + 1) = 43 ∨ byteAt s (c + 1) = 45)
    · rw [if_pos h3] at *
      obtain ⟨h3, h4⟩ := h3
      change FnSpec _ _ _ _ [inZ b ((c : Int) + 1 + 1)] _ at hD
      by_cases h5 : dgE s (c + 1 + 1) = c + 1 + 1
      · rw [if_pos h5]
        rw [h5] at hD
        rcases h2 with h2 | h2 <;> rcases h4 with h4 | h4 <;> exact aw_code hC hGL xn0
      · rw [if_neg h5]
        rcases h2 with h2 | h2 <;> rcases h4 with h4 | h4 <;> exact aw_code hC hGL xn0
    · rw [if_neg h3] at *
      change FnSpec _ _ _ _ [inZ b ((c : Int) + 1)] _ at hD
      by_cases h6 : c + 1 < s.length
      · have h7 : byteAt s (c + 1) ≠ 43 ∧ byteAt s (c + 1) ≠ 45 := ⟨fun h2 => h3 ⟨h6, .inl h2⟩, fun h2 => h3 ⟨h6, .inr h2⟩⟩
        by_cases h5 : dgE s (c + 1) = c + 1
        · rw [if_pos h5]
          rw [h5] at hD
          rcases h2 with h2 | h2 <;> exact aw_code hC hGL xn0
        · rw [if_neg h5]
          rcases h2 with h2 | h2 <;> exact aw_code hC hGL xn0
      · by_cases h5 : dgE s (c + 1) = c + 1
        · rw [if_pos h5]
          rw [h5] at hD
          rcases h2 with h2 | h2 <;> exact aw_code hC hGL xn0
        · rw [if_neg h5]
          rcases h2 with h2 | h2 <;> exact aw_code hC hGL xn0
  · rw [if_neg h]
    by_cases h1 : c < s.length
    · have h2 : byteAt s c ≠ 101 ∧ byteAt s c ≠ 69 := ⟨fun h2 => h ⟨h1, .inl h2⟩, fun h2 => h ⟨h1, .inr h2⟩⟩
      exact aw_code hC hGL xn0
    · exact aw_code hC hGL xn0
theorem ref_numeral {G : Glo} (s : List UInt8) (hl : s.length ≤ 4611686018427387904) : FnIs Tryz.prog G 25 [.str s] (.int .i64 (numI s : Nat)) := by
  rw [← nm_0]
  have hGL : GloAll G [] := gloAll_nil
  refine fn_a Tryz.func25 Tryz.call25 rfl rfl rfl rfl ?_
  intro C hC
  refine aw_code hC hGL (xn1 ?_)
  intro bl cap _
  refine lp hC hGL (fun x : Nat × Nat × Nat => [(3, .int .i64 (x.2.2 : Nat)), (4, .str (stN x.2.1)), (9, .own 0 (.slice (some ⟨bl, 0, none⟩) s.length cap)), (10, .int .i64 (s.length : Nat)), (11, .int .i64 (x.1 : Nat))]) (fun _ => [.buf bl s cap]) (fun x => x.1 ≤ s.length ∧ x.2.1 ≤ 8 ∧ x.2.2 ≤ x.1 ∧ nmR s x.1 x.2.1 x.2.2 = nmR s 0 0 0) (fun x => s.length - x.1) (0, 0, 0) ⟨Nat.zero_le _, by decide, Nat.le_refl _, rfl⟩ env_w rfl ?_
  rintro ⟨i, t, b⟩ ⟨h1, h2, h3, h4⟩
  dsimp only at h1 h2 h3 h4 ⊢
  rw [← h4]
  by_cases h : i < s.length
  · have hK := nmT_K t (byteAt s i)
    have hs := nmR_stop (t := t) (best := b) h
    have hg := fun t' => nmR_go (t := t) (best := b) (t' := t') h
    rw [hK] at hs hg
    refine Exists.elim ⟨nmK t (nmC (byteAt s i)), rfl⟩ fun u (hu : nmK t (nmC (byteAt s i)) = u) => ?_
    have hb : nmB u i b ≤ i + 1 := by unfold nmB; split <;> omega
    have ht : t = 0 ∨ t = 1 ∨ t = 2 ∨ t = 3 ∨ t = 4 ∨ t = 5 ∨ t = 6 ∨ t = 7 ∨ t = 8 := by omega
    clear hK h2
    rcases nm_cls (byteAt s i) with ⟨hc, e⟩ | ⟨hc, e⟩ | ⟨hc, e⟩ | ⟨hc, e⟩ | ⟨hc, e⟩ | ⟨hc, e⟩ | ⟨hc, e⟩ | ⟨hc, e⟩ | ⟨hc, hc1, hc2, e⟩
    all_goals
      rw [e] at hs hg hu
      rcases ht with rfl | rfl | rfl | rfl | rfl | rfl | rfl | rfl | rfl
    all_goals
      refine xn1 ?_
      intros
      first
        | (rw [hs rfl]; exact rt_w)
        | (refine nxs (i + 1, u, nmB u i b) ⟨h, ?_, hb, ?_⟩ (by dsimp only; omega) ?_ sub_w
           · subst hu; dsimp only; decide
           · exact ((hg u hu (by subst hu; decide)).symm.trans h4).trans h4.symm
           · subst hu; exact env_w)
  · rw [nmR_end h]
    exact xn0
end Go.Proofs.YtmgkpbgfkjedeaaGreatDoor
namespace Go.Proofs.YtmgkpbgfkjedeaaGreatDoor
open Go
set_option maxRecDepth 20000
set_option maxHeartbeats 4000000
set_option linter.unusedSimpArgs false
set_option linter.unusedVariables false
attribute [local irreducible] AWp AOps byteAt SrcOK OrOk GloAll FnSpec
/-- Where a byte stands first. -/
def idxF (c : Int) : List UInt8 → Nat → Int
  | [], _ => -1
  | x :: t, k => if (x.toNat : Int) = c then k else idxF c t (k + 1)
def idxB (s : List UInt8) (c : Int) : Int := idxF c s 0
theorem idxF_find {c : UInt8} (b : ByteArray) : ∀ (t : List UInt8) (k : Nat), (∀ j, j < t.length → b[k + j]! = t.getD j 0) →
    (match (List.range' k t.length).find? fun i => b[i]! == c with | some i => (i : Int) | none => -1) = idxF (c.toNat : Int) t k
  | [], _, _ => by simp [idxF]
  | x :: t, k, h => by
    have h0 := h 0 (by simp)
    simp only [Nat.add_zero, List.getD_cons_zero] at h0
    rw [List.length_cons, List.range'_succ, List.find?_cons, h0]
    by_cases e : x = c
    · subst e; simp [idxF]
    · have e1 : (x == c) = false := by simpa using e
      rw [e1]
      have e2 : ¬ ((x.toNat : Int) = (c.toNat : Int)) := by
        intro h; exact e (UInt8.toNat_inj.1 (by omega))
      simp only [idxF, if_neg e2]
      exact idxF_find b t (k + 1) (fun j hj => by
        have := h (j + 1) (by simpa using hj)
        rw [show k + 1 + j = k + (j + 1) by omega, this]; simp)
theorem bytealg_IndexByteString {G : Glo} (s : List UInt8) (c : Int) (h0 : 0 ≤ c) (h1 : c ≤ 255) : FnIs Tryz.prog G 61 [.str s, .int .u8 c] (.int .i64 (idxB s c)) := by
  refine fnis_extern Tryz.func61 (by kernel_rfl) (by kernel_rfl) (by kernel_rfl) (e := Go.Extern.BytealgIndexByte.indexByte) (by kernel_rfl) ?_
  intro R args ha w
  obtain ⟨x, t, e, hx, y, t', e', hy, rfl⟩ := ha
  have hx := rel_str.1 hx
  have hy := rel_int.1 hy
  subst hx hy
  obtain rfl : args = #[.string ⟨s.toArray⟩, .int .u8 c] := by cases args; simp_all
  refine ⟨.int .i64 (idxB s c), ?_, rel_int.2 rfl⟩
  have hc : (c.toNat.toUInt8).toNat = c.toNat := by
    show (UInt8.ofNat c.toNat).toNat = _
    rw [UInt8.toNat_ofNat']; omega
  have key := idxF_find (c := c.toNat.toUInt8) ⟨s.toArray⟩ s 0 (fun j hj => by
    rw [Nat.zero_add]
    rw [getElem!_pos (⟨s.toArray⟩ : ByteArray) j (by rw [str_size]; exact hj)]
    show s.toArray[j] = _
    simp [List.getD, hj])
  rw [hc, Int.toNat_of_nonneg h0] at key
  have e : Go.Extern.BytealgIndexByte.indexByte #[.string ⟨s.toArray⟩, .int .u8 c] = (match (List.range (⟨s.toArray⟩ : ByteArray).size).find? fun i => (⟨s.toArray⟩ : ByteArray)[i]! == c.toNat.toUInt8 with | some i => pure (goInt i) | none => pure (goInt (-1))) := rfl
  rw [e, str_size, List.range_eq_range']
  unfold idxB
  rw [← key]
  generalize List.find? _ _ = o
  cases o <;> rfl
theorem stringslite_IndexByte {G : Glo} (s : List UInt8) (c : Int) (h0 : 0 ≤ c) (h1 : c ≤ 255) : FnIs Tryz.prog G 50 [.str s, .int .u8 c] (.int .i64 (idxB s c)) := by
  have hb := bytealg_IndexByteString (G := G) s c h0 h1
  have hGL : GloAll G [] := gloAll_nil
  refine fn_x Tryz.func50 Tryz.call50 rfl rfl rfl rfl hGL ?_
  intro C hC
  repeat' (first | (conv => whnf); first | refine .w ?_ | refine .v ?_ | refine sc_c ?_ ?_ <;> (intro hb; try exact dd hb) | apply sc_not | apply sc_or | (apply sc_i <;> intro hb) | (apply bx_i; intro hbd) | (apply cx_is; first | exact hb) | (apply cx_do (i := 0) rfl; first | exact hb) | (apply ab_i; intro bl) | (apply as_i; intro va vk vc hva) | (apply av_i; intro v) | (apply ac_i; intro bl cap hcap) | apply bo_l | (apply nx_i <;> intro hnx) | apply dw_q mixed hC hGL (by kernel_rfl) | (apply cq; assumption; (first | exact hb); exact rfl) | (show Rt _ _ _; exact rt_w) | fail)
  all_goals try conv => whnf
theorem strings_IndexByte {G : Glo} (s : List UInt8) (c : Int) (h0 : 0 ≤ c) (h1 : c ≤ 255) : FnIs Tryz.prog G 36 [.str s, .int .u8 c] (.int .i64 (idxB s c)) := by
  have hb := stringslite_IndexByte (G := G) s c h0 h1
  have hGL : GloAll G [] := gloAll_nil
  refine fn_x Tryz.func36 Tryz.call36 rfl rfl rfl rfl hGL ?_
  intro C hC
  repeat' (first | (conv => whnf); first | refine .w ?_ | refine .v ?_ | refine sc_c ?_ ?_ <;> (intro hb; try exact dd hb) | apply sc_not | apply sc_or | (apply sc_i <;> intro hb) | (apply bx_i; intro hbd) | (apply cx_is; first | exact hb) | (apply cx_do (i := 0) rfl; first | exact hb) | (apply ab_i; intro bl) | (apply as_i; intro va vk vc hva) | (apply av_i; intro v) | (apply ac_i; intro bl cap hcap) | apply bo_l | (apply nx_i <;> intro hnx) | apply dw_q mixed hC hGL (by kernel_rfl) | (apply cq; assumption; (first | exact hb); exact rfl) | (show Rt _ _ _; exact rt_w) | fail)
  all_goals try conv => whnf
end Go.Proofs.YtmgkpbgfkjedeaaGreatDoor
namespace Go.Proofs.YtmgkpbgfkjedeaaGreatDoor
open Go Go.RowKit
set_option linter.unusedSectionVars false
abbrev bytesC (s : List UInt8) : List AVal := s.map fun c => .int .u8 (c.toNat : Int)
section
variable {P : Program} [Tab P] {C : Ctx} {n : Nat} {env : Env} {H : Heap} {Q : AExit → Env → Heap → Prop} {ops : Array Oper} {rest : List Oper} {G : Glo} {GL : List (Nat × List AVal)}
variable {d : Nat} {t : TypeId} {p : String} {af : Array Edge} {g : Option (Nat × Bool)} {b : Bool}
variable {x y : Operand} {T : TypeId} {xT : TI} {tx ty : TypeId}
theorem op1_apps {i n0 : Nat} {v : Value} {s : List UInt8} {cs z : List AVal} {eT : Option TypeId} {e : TypeId} {xe xx : TI} (hC : C.G = G) (hGL : GloAll G GL) (hg : guardA ops env g = some (b, b)) (hdn : Nat.ble (d + 1) n = true)
    (hx : evalA env x = some (.own i v)) (hi : H[i]? = some (.row v eT 1 n0 cs)) (hy : evalA env y = some (.str s))
    (h1 : tab P T = some xT) (h2 : xT.desc = .slice e) (h3 : tab P e = some xe) (h4 : xe.size = 1) (h6 : Nat.ble xe.bytes 1024 = true) (h7 : zeroCellsA xe.zero = some z) (h8 : z.length = 1) (h9 : tab P tx = some xx) (h10 : xx.desc = .string)
    (hlen : n0 + s.length ≤ 137438953472) (hty : tyOK eT e = true)
    (h : ∀ a k c, opsX P C n G GL ops Q rest ((d, .own i (.slice a k c)) :: env) (H.set i (.row (.slice a k c) eT 1 (n0 + s.length) (cs ++ bytesC s)))) :
    Op1 P C n ops ({ dst := some d, op := .call { callee := .builtin .append, args := [x, y].toArray, argTypes := [T, tx].toArray }, type := t, pos := p, after := af, guard := g } :: rest) env H Q :=
  ⟨ow_append hg hdn hx hi hy h1 h2 h3 h4 rfl h6 h7 h8 (fun R v hv => src_str hv h9 h10) hlen (tyOK_ok hty) fun v' => ao_rowslice (get_set hi) fun ⟨a, k, c, e, _⟩ => by subst e; exact opsX_ok hC hGL _ _ _ (h a k c)⟩
end
end Go.Proofs.YtmgkpbgfkjedeaaGreatDoor
