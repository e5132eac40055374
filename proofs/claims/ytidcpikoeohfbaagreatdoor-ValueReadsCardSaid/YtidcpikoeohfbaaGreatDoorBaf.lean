/- Parts of the proof of valueReads_card: Exd, Bu, Uf, Ug, Vr, Bw, Bx, Crl. -/
import Derived.OrdersHeld
import Derived.Lib.Builder
import Derived.Lib.UnsafeStr
import Derived.Scope
import Derived.Lib.IndexAny
import Derived.Test.YtidcpikoeohfbaaGreatDoorBad
import Derived.Test.YtidcpikoeohfbaaGreatDoorBae
set_option linter.unusedVariables false
set_option linter.unusedSimpArgs false
namespace Go.Proofs.YtidcpikoeohfbaaGreatDoor
open Go
set_option linter.unusedSimpArgs false
set_option linter.unusedSectionVars false
set_option linter.unusedVariables false
/-- Which operation comes up next: one that may be taken first, or any of several. -/
inductive DPlan
  | done
  | take (i : Nat) (p : DPlan)
  | br (i : Nat) (p q : DPlan)
  | nil
def planB (ops : Array Oper) : DPlan → Nat → Array Bool → List Nat → Bool
  | .done, _, l, acc => acc.isEmpty && (Region.ready .any ops l).isEmpty
  | .take _ _, 0, _, _ => false
  | .take i p, k + 1, l, acc => acc.isEmpty && (Region.free .any ops l i && ((Region.ready .any ops l).contains i && planB ops p k (l.setIfInBounds i true) []))
  | .br _ _ _, 0, _, _ => false
  | .br i p q, k + 1, l, acc => planB ops p k (l.setIfInBounds i true) [] && planB ops q (k + 1) l (acc ++ [i])
  | .nil, _, l, acc => !acc.isEmpty && decide (Region.ready .any ops l = acc)
structure Both (a b : Prop) : Prop where
  l : a
  r : b
theorem bt_i {a b : Prop} (h : a) (k : b) : Both a b := ⟨h, k⟩
/-- Nothing serves here. -/
inductive Stk (ops : Array Oper) (i : Nat) (env : Env) (H : Heap) : Prop
/-- An operation's end: what stood stands. -/
inductive Og (kf : Bool) (H h : Heap) (k : Prop) : Prop
  | all (X : Heap) (e : h = H ++ X) (h : k)
  | none (e : kf = false) (h : k)
theorem og_n {H h : Heap} {k : Prop} (hk : k) : Og false H h k := .none rfl hk
theorem og_a {H h : Heap} {k : Prop} (X : Heap) (e : h = H ++ X) (hk : k) : Og true H h k := .all X e hk
/-- The end of a region. -/
inductive Fie {X : Type} (I : X → Env) (J : X → Heap) (e : Env) (h : Heap) : Prop
  | mk (x : X) (hs : Env.sub e (I x)) (hj : h = J x)
/-- The same, where more may be left. -/
inductive Fis {X : Type} (I : X → Env) (J : X → Heap) (e : Env) (h : Heap) : Prop
  | mk (x : X) (hs : Env.sub e (I x)) (hj : (J x).Sublist h)
section
/-- Whatever the call began with. -/
structure Bc (G : Glo) (k : Ctx → Prop) : Prop where
  h : ∀ C : Ctx, C.G = G → k C
theorem bc_i {G : Glo} {k : Ctx → Prop} (h : ∀ C : Ctx, C.G = G → k C) : Bc G k := ⟨h⟩
variable (P : Program) [Tab P] (n : Nat) (G : Glo) (GL : List (Nat × List AVal))
def hk (kf : Bool) (H : Heap) : Heap := match kf with
  | true => H
  | false => []
def takeX (kf : Bool) (ops : Array Oper) (i : Nat) (ih : Env → Heap → Prop) (env : Env) (H : Heap) : Prop :=
  match ops[i]? with
  | some o => guardX ops env o.guard (Stk ops i env H)
    (fun env' => match o.dst with
      | some d => match Nat.ble (d + 1) n with
        | true => fixX P GL (hk kf H) env' o.op (Stk ops i env' H) fun av => ih ((d, av) :: env') H
        | false => Stk ops i env' H
      | none => Stk ops i env' H)
    (fun env' => match o.dst with
      | some d => match Nat.ble (d + 1) n with
        | true => ih ((d, .raw undef) :: env') H
        | false => Stk ops i env' H
      | none => ih env' H)
  | none => Stk ops i env H
/-- What a panic leaves: where slots are to be kept, they too. -/
@[reducible] def KE (E : Env) (K : Prop) (e : Env) : Prop := match E with
  | [] => K
  | _ :: _ => K ∧ Env.sub e E
theorem ke_k {E : Env} {K : Prop} {e : Env} (h : KE E K e) : K := by
  cases E with
  | nil => exact h
  | cons x l => exact h.1
theorem ke_sub {E : Env} {K : Prop} {e : Env} (h : KE E K e) : Env.sub e E := by
  cases E with
  | nil => trivial
  | cons x l => exact h.2
def dstFree (ops : Array Oper) (E : Env) : Bool := ops.toList.all fun o => match o.dst with
  | some d => (Env.get E d).isNone
  | none => true
def brX (E : Env) (Kp : AVal → Heap → Prop) (kf : Bool) (ops : Array Oper) (i : Nat) (ih : Env → Heap → Prop) (env : Env) (H : Heap) : Prop :=
  match ops[i]? with
  | some o => Bc G fun C => opsX P C n G GL ops (fun x e h => match x with
    | .normal => Og kf H h (ih e h)
    | .panic v => KE E (Kp v h) e
    | _ => False) [o] env H
  | none => Stk ops i env H
noncomputable def dpX (E : Env) (Kp : AVal → Heap → Prop) (kf : Bool) (ops : Array Oper) (Q : Env → Heap → Prop) (p : DPlan) : Env → Heap → Prop :=
  DPlan.rec (motive := fun _ => Env → Heap → Prop) Q (fun i _ ih => takeX P n GL kf ops i ih) (fun i _ _ ihp ihq env H => Both (brX P n G GL E Kp kf ops i ihp env H) (ihq env H)) (fun _ _ => True) p
end
theorem wpAnyH_S {P : Program} {ops : Array Oper} {Q : Exit → Act → World → Prop} {md : Region.Mode} {S S' : World → Prop} (h : ∀ w, S' w → S w) : ∀ (fuel : Nat) (listed : Array Bool) (a : Act) (w : World), wpAnyH P md ops Q S' fuel listed a w → wpAnyH P md ops Q S fuel listed a w
  | 0, _, _, _, k => k
  | fuel + 1, _, _, _, k => ⟨k.1, fun i hi => wpOp_mono (fun a' w' k' => ⟨h _ k'.1, wpAnyH_S h fuel _ a' w' k'.2⟩) (k.2 i hi)⟩
def reCtx (C : Ctx) (R : Seal) (hR : C.R0.le R) : Ctx := ⟨C.w0, R, C.B0, C.G, C.G.mono _ _ hR C.hG, C.D⟩
theorem MS.re {C : Ctx} {R : Seal} {H : Heap} {w : World} (h : MS C R H w) : MS (reCtx C R h.ge) R H w :=
  ⟨h.sealed, Seal.le_refl R, fun b hb => .inl hb, h.heap, h.own, h.ext⟩
theorem MS.back {C : Ctx} {R R' : Seal} {H H' : Heap} {w w' : World} (h : MS C R H w) (k : MS (reCtx C R h.ge) R' H' w') : MS C R' H' w' :=
  ⟨k.sealed, Seal.le_trans h.ge k.ge, fun b hb => (k.fresh b hb).elim (h.fresh b) .inr, k.heap, k.own, k.ext⟩
section
variable {P : Program} [Tab P] {n : Nat} {env : Env} {H : Heap} {ops : Array Oper} {G : Glo} {GL : List (Nat × List AVal)} {kf : Bool}
/-- What is asked of the world through a region. -/
def DS (C : Ctx) (kf : Bool) (R : Seal) (H : Heap) (w : World) : Prop := ∃ R' X, R.le R' ∧ MS C R' (hk kf H ++ X) w
theorem ds_of {C : Ctx} {R : Seal} {w : World} (h : MS C R H w) : DS C kf R H w := by
  cases kf with
  | true => exact ⟨R, [], Seal.le_refl R, by simpa [hk] using h⟩
  | false => exact ⟨R, H, Seal.le_refl R, by simpa [hk] using h⟩
def QN (E : Env) (Q : Env → Heap → Prop) (Kp : AVal → Heap → Prop) : AExit → Env → Heap → Prop
  | .normal, e, h => Q e h
  | .panic v, e, h => e = E ∧ Kp v h
  | _, _, _ => False
theorem qn_put {E : Env} {C : Ctx} {Q : Env → Heap → Prop} {Kp : AVal → Heap → Prop} {c : List PanicEntry} {a : Act} {w : World} {d : Option Nat} {v : Value} (hd : ∀ k, d = some k → Env.get E k = none) (hp : Post C n (QN E Q Kp) (.panic c) (a.put d v) w) : Post C n (QN E Q Kp) (.panic c) a w := by
  obtain ⟨x, e, h, R, hq, hr, hm, hf⟩ := hp
  cases x with
  | panic y =>
    obtain ⟨rfl, hk⟩ := hq
    refine ⟨.panic y, _, h, R, ⟨rfl, hk⟩, hr, hm, ⟨fun k u hk => ?_, ?_, ?_⟩⟩
    · obtain ⟨y, hy, hr⟩ := hf.fr k u hk
      refine ⟨y, ?_, hr⟩
      cases d with
      | none => exact hy
      | some d =>
        have hkd : d ≠ k := fun e => by have := hd d rfl; rw [e, hk] at this; cases this
        simpa [Act.put, Array.getElem?_setIfInBounds, hkd] using hy
    · have := hf.size
      cases d with
      | none => exact this
      | some d => simpa [Act.put] using this
    · have := hf.defers
      cases d with
      | none => exact this
      | some d => exact this
  | normal => exact absurd (show Exit.panic c = .normal from hr) (by simp)
  | exit i => exact hq.elim
  | goto i => exact hq.elim
  | ret => exact hq.elim
theorem dst_free {E : Env} (h : dstFree ops E = true) {i : Nat} {o : Oper} (hi : ops[i]? = some o) : ∀ k, o.dst = some k → Env.get E k = none := fun k hk => by
  unfold dstFree at h
  have := List.all_eq_true.1 h o (Array.mem_toList_iff.2 (Array.mem_of_getElem? hi))
  rw [hk] at this
  exact Option.isNone_iff_eq_none.1 this
theorem dst_nil : dstFree ops [] = true := by
  unfold dstFree
  rw [List.all_eq_true]
  intro o _
  cases o.dst <;> rfl
def DA (P : Program) (G : Glo) (n : Nat) (ops : Array Oper) (kf : Bool) (E : Env) (Q : Env → Heap → Prop) (Kp : AVal → Heap → Prop) (fuel : Nat) (listed : Array Bool) (env : Env) (H : Heap) : Prop :=
  ∀ C : Ctx, C.G = G → ∀ R a w, MS C R H w → FS C.D n R env a → wpAnyH P .any ops (Post C n (QN E Q Kp)) (DS C kf R H) fuel listed a w
variable {E : Env} {Q : Env → Heap → Prop} {Kp : AVal → Heap → Prop} {fuel : Nat} {listed : Array Bool} {i : Nat} {o : Oper} {av : AVal}
theorem da_yield {env' : Env} {C : Ctx} (hC : C.G = G) {R : Seal} {a : Act} {w : World} (hm : MS C R H w) (hE : dstFree ops E = true) (hns : Region.noSelect ops = true) (hi : ops[i]? = some o) (hf : Region.free .any ops listed i = true) (hr : (Region.ready .any ops listed).contains i = true)
    (hy : ∃ x, YieldsIf P ops (DS C kf R H) o x a ∧ FS C.D n R env' (a.put o.dst x)) (h : DA P G n ops kf E Q Kp fuel (listed.setIfInBounds i true) env' H) : wpAnyH P .any ops (Post C n (QN E Q Kp)) (DS C kf R H) (fuel + 1) listed a w := by
  obtain ⟨x, h1, h2⟩ := hy
  exact wpAnyH_take hi hns hf hr (fun c a w hp => qn_put (dst_free hE hi) hp) h1 (ds_of hm) (h C hC R _ w hm h2)
theorem da_env {env' : Env} (hs : ∀ {D : List Deferred} R a, FS D n R env a → FS D n R env' a) (h : DA P G n ops kf E Q Kp fuel listed env' H) : DA P G n ops kf E Q Kp fuel listed env H := fun C hC R a w hm hf => h C hC R a w hm (hs R a hf)
theorem da_split {b : Bool} {d : Nat} (hv : Env.get env d = some (.bool b))
    (ht : b = true → DA P G n ops kf E Q Kp fuel listed ((d, .bool true) :: env) H) (hf : b = false → DA P G n ops kf E Q Kp fuel listed ((d, .bool false) :: env) H) : DA P G n ops kf E Q Kp fuel listed env H := by
  have key : ∀ x, b = x → ∀ {D : List Deferred} R a, FS D n R env a → FS D n R ((d, .bool x) :: env) a := by
    rintro x rfl D R a hfr
    refine ⟨fun k v hk => ?_, hfr.size, hfr.defers⟩
    simp only [Env.get] at hk
    cases hb : Nat.beq d k with
    | true =>
      rw [hb] at hk
      have := Nat.eq_of_beq_eq_true hb
      subst this
      simp only [Option.some.injEq] at hk
      subst hk
      exact hfr.fr d _ hv
    | false => rw [hb] at hk; exact hfr.fr k v hk
  cases hb : b with
  | true => exact da_env (key true hb) (ht hb)
  | false => exact da_env (key false hb) (hf hb)
theorem guardSlot_unwanted {D : List Deferred} {R : Seal} {a : Act} {e : Nat} (hs : guardSlot ops o.guard = some e) (hv : Env.get env e = some (.raw undef)) (hf : FS D n R env a) : Region.wanted o (yielded ops a.tmps) = false := by
  unfold guardSlot at hs
  unfold Region.wanted
  split at hs
  · rename_i j want h
    rw [h]
    split at hs
    · rename_i o' ho
      obtain ⟨x, hx, hr⟩ := hf.fr e _ hv
      rw [rel_raw.1 hr] at hx
      simp [yielded, ho, hs, hx, undef]
    · cases hs
  · cases hs
theorem take_ok (hE : dstFree ops E = true) (hGL : GloAll G GL) (hns : Region.noSelect ops = true) (hf : Region.free .any ops listed i = true) (hr : (Region.ready .any ops listed).contains i = true) {ih : Env → Heap → Prop}
    (hih : ∀ env H, ih env H → DA P G n ops kf E Q Kp fuel (listed.setIfInBounds i true) env H) (h : takeX P n GL kf ops i ih env H) : DA P G n ops kf E Q Kp (fuel + 1) listed env H := by
  unfold takeX at h
  split at h
  case h_2 => cases h
  rename_i o ho
  have run : ∀ env' b, guardA ops env' o.guard = some (b, b) → (match o.dst with
      | some d => match Nat.ble (d + 1) n with
        | true => fixX P GL (hk kf H) env' o.op (Stk ops i env' H) fun av => ih ((d, av) :: env') H
        | false => Stk ops i env' H
      | none => Stk ops i env' H) → DA P G n ops kf E Q Kp (fuel + 1) listed env' H := by
    intro env' b hg h
    split at h
    · rename_i d hd
      split at h
      · rename_i hdn
        intro C hC R a w hm hfs
        rcases fixX_ok (C := C) (GL := GL) (by rw [hC]; exact hGL) h with h | ⟨av, h1, h2⟩
        · cases h
        · refine da_yield (env' := (d, av) :: env') hC hm hE hns ho hf hr ?_ (hih _ _ h2)
          obtain ⟨x, hx, hrun⟩ := h1 R a.eval (fun x a hx => hfs.eval hx)
          refine ⟨x, .inl ⟨by rw [wanted_of hfs hg]; simp, ?_⟩, by rw [hd]; exact hfs.put hdn hx⟩
          rintro w' ⟨R', X, hle, hms⟩
          exact hrun R' w' hle (hms.drop (List.sublist_append_left _ _)) o.dst o.type o.pos o.after o.guard
      · cases h
    · cases h
  have skip : ∀ env', (∀ {D : List Deferred} R a, FS D n R env' a → Region.wanted o (yielded ops a.tmps) = false) → (match o.dst with
      | some d => match Nat.ble (d + 1) n with
        | true => ih ((d, .raw undef) :: env') H
        | false => Stk ops i env' H
      | none => ih env' H) → DA P G n ops kf E Q Kp (fuel + 1) listed env' H := by
    intro env' hw h
    split at h
    · rename_i d hd
      split at h
      · rename_i hdn
        intro C hC R a w hm hfs
        refine da_yield (env' := (d, .raw undef) :: env') hC hm hE hns ho hf hr ⟨undef, .inr ⟨hw R a hfs, rfl⟩, ?_⟩ (hih _ _ h)
        rw [hd]
        exact hfs.put hdn (rel_raw.2 rfl)
      · cases h
    · rename_i hd
      intro C hC R a w hm hfs
      refine da_yield (env' := env') hC hm hE hns ho hf hr ⟨undef, .inr ⟨hw R a hfs, rfl⟩, ?_⟩ (hih _ _ h)
      rw [hd]
      exact hfs
  unfold guardX at h
  split at h
  · rename_i hgn
    exact run env true (by rw [hgn]; rfl) h
  · rename_i j want hgn
    split at h
    case h_2 => cases h
    rename_i o' ho'
    split at h
    case h_2 => cases h
    rename_i e he
    split at h
    · rename_i b hb
      have hgT : ∀ v, guardA ops ((e, .bool v) :: env) o.guard = some (v, want) := fun v => by rw [hgn]; exact guard_const ho' he
      split at h
      · refine da_split hb (fun hv => ?_) (fun hv => ?_)
        · exact run _ true (hgT true) (h.1 hv)
        · exact skip _ (fun R a hfs => by rw [wanted_of hfs (hgT false)]; rfl) (h.2 hv)
      · refine da_split hb (fun hv => ?_) (fun hv => ?_)
        · exact skip _ (fun R a hfs => by rw [wanted_of hfs (hgT true)]; rfl) (h.1 hv)
        · exact run _ false (hgT false) (h.2 hv)
    · rename_i v hv
      have hgS : guardSlot ops o.guard = some e := by rw [hgn]; simp only [guardSlot, ho', he]
      obtain ⟨rfl, h⟩ := h
      exact skip _ (fun R a hfs => guardSlot_unwanted hgS hv hfs) h
    · cases h
theorem wpOp_of_list {QP : Exit → Act → World → Prop} {K : Act → World → Prop} {Q' : Exit → Act → World → Prop} {a : Act} {w : World} (hi : ops[i]? = some o) (hp : ∀ c a w, Q' (.panic c) a w → QP (.panic c) a w) (ho : ∀ a w, ¬ Q' .outgrown a w) (hK : ∀ a w, Q' .normal a w → K a w)
    (h : wpList P ops Q' [o] a w) : wpOp P ops QP i K a w := by
  unfold wpOp
  rw [hi]
  simp only [wpList] at h
  dsimp only
  split at h
  · rename_i hw
    rw [if_pos hw]
    rcases h with h | ⟨_, a, w, h⟩
    · refine .inl ?_
      unfold Oper.wp at h ⊢
      generalize (execOp a.eval o).run P w = r at h ⊢
      cases r with
      | ok n w' =>
        cases n <;> simp only [Oper.upon] at h ⊢
        case value u => exact hK _ _ h
        case skip => exact hK _ _ h
        case defer d => exact hK _ _ h
        case enter f args =>
          refine Calls.mono h fun e w'' he => ?_
          cases e with
          | returned u => exact hK _ _ he
          | panicked c => exact hp _ _ _ he
          | outgrown => obtain ⟨a, w, he⟩ := he; exact absurd he (ho _ _)
        case row row args => exact Rows.mono h fun u w'' he => hK _ _ he
      | halt x w' =>
        cases x <;> simp only [Oper.upon] at h ⊢
        case panic u => exact hp _ _ _ h
    · exact absurd h (ho _ _)
  · rename_i hw
    rw [if_neg hw]
    exact hK _ _ h
theorem br_ok (hGL : GloAll G GL) {ih : Env → Heap → Prop} (hih : ∀ env H, ih env H → DA P G n ops kf E Q Kp fuel (listed.setIfInBounds i true) env H)
    {C : Ctx} (hC : C.G = G) (h : brX P n G GL E Kp kf ops i ih env H) {R : Seal} {a : Act} {w : World} (hm : MS C R H w) (hfs : FS C.D n R env a) :
    wpOp P ops (Post C n (QN E Q Kp)) i (fun a' w' => DS C kf R H w' ∧ wpAnyH P .any ops (Post C n (QN E Q Kp)) (DS C kf R H) fuel (listed.setIfInBounds i true) a' w') a w := by
  unfold brX at h
  split at h
  case h_2 => cases h
  rename_i o ho
  have h1 := opsX_ok (C := reCtx C R hm.ge) (show (reCtx C R hm.ge).G = G from hC) hGL _ _ _ (h.h _ hC) R a w hm.re hfs
  refine wpOp_of_list ho ?_ ?_ ?_ h1
  · rintro c a w ⟨x, e, h, R', hq, hr, hm', hf'⟩
    cases x with
    | normal => exact absurd (show Exit.panic c = .normal from hr) (by simp)
    | panic v => exact ⟨.panic v, E, h, R', ⟨rfl, ke_k hq⟩, hr, hm.back hm', hf'.sub (ke_sub hq)⟩
    | _ => exact hq.elim
  · rintro a w ⟨x, e, h, R', hq, hr, _⟩
    cases x with
    | normal => exact absurd (show Exit.outgrown = .normal from hr) (by simp)
    | panic v => obtain ⟨y, hy, _⟩ := hr; cases hy
    | _ => exact hq.elim
  · rintro a' w' ⟨x, e, h', R', hq, hr, hm', hf'⟩
    have hle : R.le R' := hm'.ge
    have hm2 := hm.back hm'
    have step : (∃ X, hk kf h' = hk kf H ++ X) → ih e h' → DS C kf R H w' ∧ wpAnyH P .any ops (Post C n (QN E Q Kp)) (DS C kf R H) fuel (listed.setIfInBounds i true) a' w' := by
      rintro ⟨X, hX⟩ k
      have sub : ∀ w, DS C kf R' h' w → DS C kf R H w := by
        rintro w ⟨R2, X2, hle2, hms⟩
        rw [hX, List.append_assoc] at hms
        exact ⟨R2, X ++ X2, Seal.le_trans hle hle2, hms⟩
      exact ⟨sub _ (ds_of hm2), wpAnyH_S sub _ _ _ _ (hih _ _ k C hC R' a' w' hm2 hf')⟩
    cases x with
    | normal =>
      cases hq with
      | all X e k =>
        refine step ?_ k
        subst e
        cases kf
        · exact ⟨[], rfl⟩
        · exact ⟨X, rfl⟩
      | none e k => subst e; exact step ⟨[], rfl⟩ k
    | panic v => obtain ⟨y, hy, _⟩ := hr; cases hy
    | _ => exact hq.elim
/-- The plan, sound. -/
theorem dp_ok (hE : dstFree ops E = true) (hGL : GloAll G GL) (hns : Region.noSelect ops = true) : ∀ (p : DPlan) (fuel : Nat) (listed : Array Bool) (acc : List Nat) (env : Env) (H : Heap), planB ops p fuel listed acc = true → dpX P n G GL E Kp kf ops Q p env H →
    (acc = [] → DA P G n ops kf E Q Kp fuel listed env H) ∧ (acc ≠ [] → ∀ C : Ctx, C.G = G → ∀ R a w, MS C R H w → FS C.D n R env a → ∃ f, (∀ k, fuel = k + 1 → f = k) ∧ Region.ready .any ops listed ≠ [] ∧
      ∀ i ∈ Region.ready .any ops listed, i ∈ acc ∨ wpOp P ops (Post C n (QN E Q Kp)) i (fun a' w' => DS C kf R H w' ∧ wpAnyH P .any ops (Post C n (QN E Q Kp)) (DS C kf R H) f (listed.setIfInBounds i true) a' w') a w) := by
  intro p
  induction p with
  | done =>
    intro fuel listed acc env H hp h
    simp only [planB, Bool.and_eq_true, List.isEmpty_iff] at hp
    refine ⟨fun _ C hC R a w hm hfs => wpAnyH_done hp.2 ⟨.normal, env, H, R, h, rfl, hm, hfs⟩ fuel, fun ha => absurd hp.1 ha⟩
  | take i p ih =>
    intro fuel listed acc env H hp h
    cases fuel with
    | zero => simp [planB] at hp
    | succ fuel =>
      simp only [planB, Bool.and_eq_true, List.isEmpty_iff] at hp
      obtain ⟨h1, h2, h3, h4⟩ := hp
      exact ⟨fun _ => take_ok hE hGL hns h2 h3 (fun env H k => (ih fuel _ [] env H h4 k).1 rfl) h, fun ha => absurd h1 ha⟩
  | br i p q ihp ihq =>
    intro fuel listed acc env H hp h
    cases fuel with
    | zero => simp [planB] at hp
    | succ fuel =>
      simp only [planB, Bool.and_eq_true] at hp
      obtain ⟨hl, hr⟩ : Both (brX P n G GL E Kp kf ops i (dpX P n G GL E Kp kf ops Q p) env H) (dpX P n G GL E Kp kf ops Q q env H) := h
      have hq := (ihq (fuel + 1) listed (acc ++ [i]) env H hp.2 hr).2 (by simp)
      have key : ∀ C : Ctx, C.G = G → ∀ R a w, MS C R H w → FS C.D n R env a → Region.ready .any ops listed ≠ [] ∧
          ∀ j ∈ Region.ready .any ops listed, j ∈ acc ∨ wpOp P ops (Post C n (QN E Q Kp)) j (fun a' w' => DS C kf R H w' ∧ wpAnyH P .any ops (Post C n (QN E Q Kp)) (DS C kf R H) fuel (listed.setIfInBounds j true) a' w') a w := by
        intro C hC R a w hm hfs
        obtain ⟨f, hf, hne, hall⟩ := hq C hC R a w hm hfs
        obtain rfl := hf fuel rfl
        refine ⟨hne, fun j hj => ?_⟩
        rcases hall j hj with hj' | hj'
        · rcases List.mem_append.1 hj' with hj' | hj'
          · exact .inl hj'
          · rw [List.mem_singleton] at hj'
            subst hj'
            exact .inr (br_ok hGL (fun env H k => (ihp f _ [] env H hp.1 k).1 rfl) hC hl hm hfs)
        · exact .inr hj'
      refine ⟨fun ha C hC R a w hm hfs => ?_, fun _ C hC R a w hm hfs => ⟨fuel, fun k hk => by omega, key C hC R a w hm hfs⟩⟩
      obtain ⟨hne, hall⟩ := key C hC R a w hm hfs
      refine wpAnyH_all rfl hne fun j hj => ?_
      rcases hall j hj with hj' | hj'
      · rw [ha] at hj'; cases hj'
      · exact hj'
  | nil =>
    intro fuel listed acc env H hp h
    simp only [planB, Bool.and_eq_true, Bool.not_eq_true', List.isEmpty_eq_false_iff, decide_eq_true_eq] at hp
    obtain ⟨h1, h2⟩ := hp
    refine ⟨fun ha => absurd ha h1, fun _ C hC R a w hm hfs => ⟨fuel - 1, fun k hk => by omega, by rw [h2]; exact h1, fun i hi => .inl (by rw [h2] at hi; exact hi)⟩⟩
/-- A region that draws, by a plan; what holds behind it, whatever the order; what a panic leaves. -/
theorem dw_pp {X : Type} {C : Ctx} {id : Nat} {QQ : AExit → Env → Heap → Prop} (hm : P.follows .mixedOrders = true) (hC : C.G = G) (hGL : GloAll G GL) (kf : Bool) (Kp : AVal → Heap → Prop) (I : X → Env) (J : X → Heap) (plan : DPlan)
    (hB : (Region.noSelect ops && planB ops plan ops.size (Array.replicate ops.size false) []) = true) (h : dpX P n G GL [] Kp kf ops (Fis I J) plan env H) (k : ∀ x, QQ .normal (I x) (J x)) (kp : ∀ v h, Kp v h → QQ (.panic v) [] h) : Dw P C n id ops env H QQ := by
  simp only [Bool.and_eq_true] at hB
  have hd := (dp_ok dst_nil hGL hB.1 plan _ _ [] env H hB.2 h).1 rfl
  refine ⟨fun R a w hms hfs => ?_⟩
  refine wp_mono (wp_region_held (S := DS C kf R H) hm (hd C hC R a _ (hms.drawn _) hfs)) ?_
  rintro ex a w ⟨x, e, h, R, hq, hr, hm', hf'⟩
  cases x with
  | normal =>
    obtain ⟨x0, hs, hj⟩ := hq
    exact ⟨.normal, I x0, J x0, R, k x0, hr, hm'.drop hj, hf'.sub hs⟩
  | panic v =>
    obtain ⟨rfl, hq⟩ := hq
    exact ⟨.panic v, [], h, R, kp v h hq, hr, hm', hf'⟩
  | exit i => exact hq.elim
  | goto i => exact hq.elim
  | ret => exact hq.elim
/-- A region that draws, by a plan; what holds behind it, whatever the order. -/
theorem dw_p {X : Type} {C : Ctx} {id : Nat} {QQ : AExit → Env → Heap → Prop} (hm : P.follows .mixedOrders = true) (hC : C.G = G) (hGL : GloAll G GL) (kf : Bool) (I : X → Env) (J : X → Heap) (plan : DPlan)
    (hB : (Region.noSelect ops && planB ops plan ops.size (Array.replicate ops.size false) []) = true) (h : dpX P n G GL [] (fun _ _ => False) kf ops (Fie I J) plan env H) (k : ∀ x, QQ .normal (I x) (J x)) : Dw P C n id ops env H QQ := by
  simp only [Bool.and_eq_true] at hB
  have hd := (dp_ok dst_nil hGL hB.1 plan _ _ [] env H hB.2 h).1 rfl
  refine ⟨fun R a w hms hfs => ?_⟩
  refine wp_mono (wp_region_held (S := DS C kf R H) hm (hd C hC R a _ (hms.drawn _) hfs)) ?_
  rintro ex a w ⟨x, e, h, R, hq, hr, hm', hf'⟩
  cases x with
  | normal =>
    obtain ⟨x0, hs, hj⟩ := hq
    subst hj
    exact ⟨.normal, I x0, J x0, R, k x0, hr, hm', hf'.sub hs⟩
  | panic v => exact hq.2.elim
  | exit i => exact hq.elim
  | goto i => exact hq.elim
  | ret => exact hq.elim
end
end Go.Proofs.YtidcpikoeohfbaaGreatDoor
namespace Go.Proofs.YtidcpikoeohfbaaGreatDoor
open Go
set_option maxRecDepth 20000
set_option maxHeartbeats 4000000
set_option linter.unusedSimpArgs false
set_option linter.unusedVariables false
attribute [local irreducible] AWp AOps byteAt SrcOK OrOk GloAll FnSpec
abbrev bytesC (s : List UInt8) : List AVal := s.map fun c => .int .u8 (c.toNat : Int)
abbrev ptrA (b : Nat) : Value := .pointer (some ⟨b, 0, none⟩)
/-- A builder's two entries. -/
abbrev bldC (b : Nat) (p : Value) (j : Nat) (v : Value) : HEnt := .cells b (some 119) [.raw p, .own j v]
abbrev bldR (v : Value) (s : List UInt8) : HEnt := .row v (some 5) 1 s.length (bytesC s)
theorem fn_xo {P : Program} [Tab P] {G : Glo} {GL : List (Nat × List AVal)} {n : Nat} {H : Heap} {v : Value} (i : Nat) {f : FuncId} {fn : Func} {c : Code} {avs : List AVal} {Qf : ARes → Heap → Prop} {rs : List ResultVar} (hf : P.funcs[f]? = some fn)
    (hc : ∀ args w, (callFunc f args).run P w = .ok (.enter f args) w) (hb : fn.body = some c) (hn : fn.ntmps = n) (hrs : fn.results = rs.toArray) (hlen : Nat.ble (AVal.raw v :: avs).length n = true) (hGL : GloAll G GL) (hv : vAgg v = false)
    (h : ∀ C : Ctx, C.G = G → codeX P C n G GL c ((0, .own i v) :: argEnv 0 (.raw v :: avs)) H (RetX P rs Qf)) : FnSpec P G f (.raw v :: avs) H Qf :=
  fn_spec hf hb hc hn hrs hlen fun w0 R0 hG => (own_slot (C := ⟨w0, R0, blks H, G, hG, []⟩) (k := 0) i rfl hGL hv rfl (h ⟨w0, R0, blks H, G, hG, []⟩ rfl)).mono fun _ _ _ q => RetX_ok q
theorem no_escape {G : Glo} (b : Nat) : FnIs Tryz.prog G 128 [.raw (ptrA b)] (.raw (ptrA b)) := by
  refine fnis_extern Tryz.func128 (by kernel_rfl) (by kernel_rfl) (by kernel_rfl) (e := Go.Extern.AbiNoEscape.same) (by kernel_rfl) ?_
  rintro R args ⟨x, t, e, h1, h2⟩ w
  obtain rfl : t = [] := h2
  obtain ⟨l⟩ := args
  obtain rfl : l = [x] := e
  exact ⟨x, rfl, h1⟩
theorem ms_shape {C : Ctx} {R : Seal} {H : Heap} {w : World} (hm : MS C R H w) {i b : Nat} {e : TypeId} {cs : List AVal} (hi : H[i]? = some (.cells b (some e) cs)) : w.shape? b = some (e, cs.length) := by
  obtain ⟨Cs, el, fz, hb, hl, _, ht⟩ := own_cells hm hi
  have := relL_length hl
  simp only [Array.length_toList] at this
  simp [World.shape?, hb, this, ht e rfl]
section
variable {C : Ctx} {H : Heap} {env : Env} {x y : Operand} {i j b : Nat} {c0 c1 : AVal}
theorem rv_uptr (hx : evalA env x = some (.own i (ptrA b))) (hi : H[j]? = some (.cells b (some 119) [c0, c1])) : RunV Tryz.prog C H env (.convert 117 156 x) (.own i (ptrA b)) := by
  intro R ρ w hm hf dst t p af g
  refine ⟨ptrA b, ?_, rel_own.2 ⟨rfl, rfl⟩⟩
  obtain ⟨ie, hie, hs1, _⟩ := tab_info (P := Tryz.prog) (t := 119) rfl
  have hr := Lib.run_to_unsafe (P := Tryz.prog) w (src := 117) (dst := 156) (t := 119) (j := ie) ⟨b, 0, none⟩ Tryz.underlying117 Tryz.underlying156 hie (by rw [hs1]; exact Nat.succ_ne_zero _) (ms_shape hm hi) (Nat.zero_lt_succ _)
  simp only [execOp, (rel_own.1 (hf _ _ hx)).1, Sem.run_bind, hr, Result.andThen_ok, Sem.run_pure]
theorem rv_ptru (hx : evalA env x = some (.raw (ptrA b))) (hi : H[j]? = some (.cells b (some 119) [c0, c1])) : RunV Tryz.prog C H env (.convert 156 117 x) (.raw (ptrA b)) := by
  intro R ρ w hm hf dst t p af g
  refine ⟨ptrA b, ?_, rel_raw.2 rfl⟩
  obtain ⟨ie, hie, hs1, _⟩ := tab_info (P := Tryz.prog) (t := 119) rfl
  have hr := Lib.run_from_unsafe (P := Tryz.prog) w (src := 156) (dst := 117) (u := 119) (j := ie) ⟨b, 0, none⟩ Tryz.underlying156 Tryz.underlying117 hie (ms_shape hm hi) (by kernel_rfl)
  simp only [execOp, rel_raw.1 (hf _ _ hx), Sem.run_bind, hr, Result.andThen_ok, Sem.run_pure]
theorem rv_neptr (hx : evalA env x = some (.raw (ptrA b))) (hy : evalA env y = some (.own i (ptrA b))) : RunV Tryz.prog C H env (.binOp .neq 117 x y 117) (.bool false) := by
  intro R ρ w hm hf dst t p af g
  refine ⟨.bool false, ?_, rel_bool.2 rfl⟩
  obtain ⟨ie, hie, hs1, _⟩ := tab_info (P := Tryz.prog) (t := 119) rfl
  have hr := Lib.run_neq_ptr_same (P := Tryz.prog) w (tp := 117) (te := 119) (j := ie) ⟨b, 0, none⟩ Tryz.underlying117 hie
  have hg : (eqGuard BinOp.neq 117 x y (ptrA b) (ptrA b)).run Tryz.prog w = .ok () w := rfl
  simp only [execOp, rel_raw.1 (hf _ _ hx), (rel_own.1 (hf _ _ hy)).1, Sem.run_bind, hg, hr, Result.andThen_ok, Sem.run_pure]
end
theorem copyCheck_new {G : Glo} (b : Nat) (j : Nat) (v : Value) : FnSpec Tryz.prog G 106 [.raw (ptrA b)] [bldC b (.pointer none) j v] (fun r H => r = .ret (.tuple []) ∧ H = [bldC b (ptrA b) j v]) := by
  have hGL : GloAll G [] := gloAll_nil
  refine fn_xo 0 Tryz.func106 Tryz.call106 rfl rfl rfl rfl hGL rfl ?_
  intro C hC
  repeat' (first
    | (conv => whnf); first
      | refine .w ?_ | refine .v ?_ | apply sc_true | apply sc_false
      | (first | apply sc_lt | apply sc_nlt | apply sc_eq | apply sc_neq | apply sc_nil | apply sc_nnil | apply sc_seq | apply sc_nseq) <;> (intro hb; try exact dd hb)
      | apply sc_not | apply sc_or | (apply sc_i <;> intro hb)
      | (apply bx_i; intro hbd) | (apply gt_i; assumption; exact rfl)
      | (apply cx_is; first | exact no_escape _) | (apply cx_do (i := 0) rfl; first | exact no_escape _)
      | (apply ab_i; intro bl) | (apply as_i; intro va vk vc hva) | (apply av_i; intro v) | (apply ac_i; intro bl cap hcap)
      | apply bo_l | (apply nx_i <;> intro hnx) | (apply Ia.hit; assumption) | (apply Ia.miss; assumption)
      | (apply rt_is; exact rfl) | exact rt_w | (apply iv; assumption)
      | apply dw_q mixed hC hGL (by kernel_rfl) | (apply cq; assumption; (first | exact no_escape _); exact rfl))
  all_goals (try conv => whnf)
  refine op1_run hC hGL (rv_uptr (j := 0) rfl rfl) rfl rfl ?_
  repeat' (first
    | (conv => whnf); first
      | refine .w ?_ | refine .v ?_ | apply sc_true | apply sc_false
      | (first | apply sc_lt | apply sc_nlt | apply sc_eq | apply sc_neq | apply sc_nil | apply sc_nnil | apply sc_seq | apply sc_nseq) <;> (intro hb; try exact dd hb)
      | apply sc_not | apply sc_or | (apply sc_i <;> intro hb)
      | (apply bx_i; intro hbd) | (apply gt_i; assumption; exact rfl)
      | (apply cx_is; first | exact no_escape _) | (apply cx_do (i := 0) rfl; first | exact no_escape _)
      | (apply ab_i; intro bl) | (apply as_i; intro va vk vc hva) | (apply av_i; intro v) | (apply ac_i; intro bl cap hcap)
      | apply bo_l | (apply nx_i <;> intro hnx) | (apply Ia.hit; assumption) | (apply Ia.miss; assumption)
      | (apply rt_is; exact rfl) | exact rt_w | (apply iv; assumption)
      | apply dw_q mixed hC hGL (by kernel_rfl) | (apply cq; assumption; (first | exact no_escape _); exact rfl))
  all_goals (try conv => whnf)
  refine op1_run hC hGL (rv_ptru (j := 0) rfl rfl) rfl rfl ?_
  repeat' (first
    | (conv => whnf); first
      | refine .w ?_ | refine .v ?_ | apply sc_true | apply sc_false
      | (first | apply sc_lt | apply sc_nlt | apply sc_eq | apply sc_neq | apply sc_nil | apply sc_nnil | apply sc_seq | apply sc_nseq) <;> (intro hb; try exact dd hb)
      | apply sc_not | apply sc_or | (apply sc_i <;> intro hb)
      | (apply bx_i; intro hbd) | (apply gt_i; assumption; exact rfl)
      | (apply cx_is; first | exact no_escape _) | (apply cx_do (i := 0) rfl; first | exact no_escape _)
      | (apply ab_i; intro bl) | (apply as_i; intro va vk vc hva) | (apply av_i; intro v) | (apply ac_i; intro bl cap hcap)
      | apply bo_l | (apply nx_i <;> intro hnx) | (apply Ia.hit; assumption) | (apply Ia.miss; assumption)
      | (apply rt_is; exact rfl) | exact rt_w | (apply iv; assumption)
      | apply dw_q mixed hC hGL (by kernel_rfl) | (apply cq; assumption; (first | exact no_escape _); exact rfl))
  all_goals (try conv => whnf)
theorem copyCheck_old {G : Glo} (b : Nat) (j : Nat) (v : Value) : FnSpec Tryz.prog G 106 [.raw (ptrA b)] [bldC b (ptrA b) j v] (fun r H => r = .ret (.tuple []) ∧ H = [bldC b (ptrA b) j v]) := by
  have hGL : GloAll G [] := gloAll_nil
  refine fn_xo 0 Tryz.func106 Tryz.call106 rfl rfl rfl rfl hGL rfl ?_
  intro C hC
  repeat' (first
    | (conv => whnf); first
      | refine .w ?_ | refine .v ?_ | apply sc_true | apply sc_false
      | (first | apply sc_lt | apply sc_nlt | apply sc_eq | apply sc_neq | apply sc_nil | apply sc_nnil | apply sc_seq | apply sc_nseq) <;> (intro hb; try exact dd hb)
      | apply sc_not | apply sc_or | (apply sc_i <;> intro hb)
      | (apply bx_i; intro hbd) | (apply gt_i; assumption; exact rfl)
      | (apply cx_is; first | exact no_escape _) | (apply cx_do (i := 0) rfl; first | exact no_escape _)
      | (apply ab_i; intro bl) | (apply as_i; intro va vk vc hva) | (apply av_i; intro v) | (apply ac_i; intro bl cap hcap)
      | apply bo_l | (apply nx_i <;> intro hnx) | (apply Ia.hit; assumption) | (apply Ia.miss; assumption)
      | (apply rt_is; exact rfl) | exact rt_w | (apply iv; assumption)
      | apply dw_q mixed hC hGL (by kernel_rfl) | (apply cq; assumption; (first | exact no_escape _); exact rfl))
  all_goals (try conv => whnf)
  refine op1_run hC hGL (rv_neptr rfl rfl) rfl rfl ?_
  repeat' (first
    | (conv => whnf); first
      | refine .w ?_ | refine .v ?_ | apply sc_true | apply sc_false
      | (first | apply sc_lt | apply sc_nlt | apply sc_eq | apply sc_neq | apply sc_nil | apply sc_nnil | apply sc_seq | apply sc_nseq) <;> (intro hb; try exact dd hb)
      | apply sc_not | apply sc_or | (apply sc_i <;> intro hb)
      | (apply bx_i; intro hbd) | (apply gt_i; assumption; exact rfl)
      | (apply cx_is; first | exact no_escape _) | (apply cx_do (i := 0) rfl; first | exact no_escape _)
      | (apply ab_i; intro bl) | (apply as_i; intro va vk vc hva) | (apply av_i; intro v) | (apply ac_i; intro bl cap hcap)
      | apply bo_l | (apply nx_i <;> intro hnx) | (apply Ia.hit; assumption) | (apply Ia.miss; assumption)
      | (apply rt_is; exact rfl) | exact rt_w | (apply iv; assumption)
      | apply dw_q mixed hC hGL (by kernel_rfl) | (apply cq; assumption; (first | exact no_escape _); exact rfl))
  all_goals (try conv => whnf)
/-- What addr may hold. -/
def AddrOK (b : Nat) (p : Value) : Prop := p = .pointer none ∨ p = ptrA b
theorem copyCheck_any {G : Glo} {b : Nat} {p : Value} (hp : AddrOK b p) (j : Nat) (v : Value) : FnSpec Tryz.prog G 106 [.raw (ptrA b)] [bldC b p j v] (fun r H => r = .ret (.tuple []) ∧ H = [bldC b (ptrA b) j v]) := by
  rcases hp with rfl | rfl
  · exact copyCheck_new b j v
  · exact copyCheck_old b j v
section
variable {P : Program} [Tab P] {C : Ctx} {n : Nat} {env : Env} {H : Heap} {Q : AExit → Env → Heap → Prop} {ops : Array Oper} {rest : List Oper} {G : Glo} {GL : List (Nat × List AVal)}
variable {d : Nat} {t : TypeId} {p : String} {af : Array Edge} {g : Option (Nat × Bool)} {b : Bool}
variable {x y : Operand} {T : TypeId} {xT : TI} {tx ty : TypeId}
end
theorem bldR_app (v : Value) (s t : List UInt8) : HEnt.row v (some 5) 1 (s.length + t.length) (bytesC s ++ bytesC t) = bldR v (s ++ t) := by
  simp only [bldR, bytesC, List.length_append, List.map_append]
/-- A builder's two entries, wherever they stand. -/
theorem two_perm {H : Heap} {i j : Nat} {x0 y0 : HEnt} (hne : i ≠ j) (hi : H[i]? = some x0) (hj : H[j]? = some y0) : ∃ rest : Heap, H.Perm ([x0, y0] ++ rest) ∧ ∀ x y, ((H.set i x).set j y).Perm ([x, y] ++ rest) := by
  have key : ∃ rest : Heap, ∀ x y, ((H.set i x).set j y).Perm ([x, y] ++ rest) := by
    rcases Nat.lt_or_gt_of_ne hne with h | h
    · refine ⟨(H.eraseIdx j).eraseIdx i, fun x y => ?_⟩
      have h1 := set_perm (H := H.set i x) (i := j) (x := y0) y (by rw [List.getElem?_set_ne (by omega)]; exact hj)
      rw [List.eraseIdx_set_gt h] at h1
      have h2 := set_perm (H := H.eraseIdx j) (i := i) (x := x0) x (by rw [List.getElem?_eraseIdx_of_lt h]; exact hi)
      refine h1.symm.trans ?_
      refine (List.Perm.append_left [y] h2.symm).trans ?_
      exact List.Perm.swap x y _
    · refine ⟨(H.eraseIdx j).eraseIdx (i - 1), fun x y => ?_⟩
      have h1 := set_perm (H := H.set i x) (i := j) (x := y0) y (by rw [List.getElem?_set_ne (by omega)]; exact hj)
      rw [List.eraseIdx_set_lt h] at h1
      have h2 := set_perm (H := H.eraseIdx j) (i := i - 1) (x := x0) x (by rw [List.getElem?_eraseIdx_of_ge (by omega), show i - 1 + 1 = i by omega]; exact hi)
      refine h1.symm.trans ?_
      refine (List.Perm.append_left [y] h2.symm).trans ?_
      exact List.Perm.swap x y _
  obtain ⟨rest, h⟩ := key
  refine ⟨rest, ?_, h⟩
  have := h x0 y0
  have e1 : H.set i x0 = H := by
    obtain ⟨hl, he⟩ := List.getElem?_eq_some_iff.1 hi
    rw [← he]; exact List.set_getElem_self hl
  have e2 : H.set j y0 = H := by
    obtain ⟨hl, he⟩ := List.getElem?_eq_some_iff.1 hj
    rw [← he]; exact List.set_getElem_self hl
  rw [e1, e2] at this
  exact this
/-- The hint within a builder's cell is of no account. -/
theorem ms_hint {C : Ctx} {R : Seal} {H : Heap} {w : World} {b j : Nat} {p v : Value} (k : Nat) (h : MS C R (bldC b p j v :: H) w) : MS C R (bldC b p k v :: H) w :=
  h.swap (i := 0) (x := bldC b p j v) (y := bldC b p k v) rfl rfl (h.heap.holds (bldC b p j v) List.mem_cons_self)
theorem fn_post {P : Program} {G : Glo} {f : FuncId} {avs : List AVal} {H H0 : Heap} {Qf Qf' : ARes → Heap → Prop} (hb : ∀ k, k ∈ blks H ↔ k ∈ blks H0) (hpre : ∀ C R w, MS C R H0 w → MS C R H w) (h : FnSpec P G f avs H Qf)
    (hq : ∀ r H', Qf r H' → ∃ H'', Qf' r H'' ∧ ∀ C R w, MS C R H' w → MS C R H'' w) : FnSpec P G f avs H0 Qf' := by
  unfold FnSpec at h ⊢
  intro R w args hG hm ha
  rcases h R w args hG ((hpre _ _ _ hm).blks_iff fun k => (hb k).symm) ha with ⟨h1, h2⟩ | ⟨v, w', h1, res, H', R', q, er, hm'⟩
  · exact .inl ⟨h1, h2.mono fun e w' ⟨res, H', R', q, er, hm'⟩ => let ⟨H'', q', hc⟩ := hq _ _ q; ⟨res, H'', R', q', er, hc _ _ _ (hm'.blks_iff hb)⟩⟩
  · obtain ⟨H'', q', hc⟩ := hq _ _ q
    exact .inr ⟨v, w', h1, res, H'', R', q', er, hc _ _ _ (hm'.blks_iff hb)⟩
theorem fn_hint {P : Program} {G : Glo} {f : FuncId} {avs : List AVal} {b j k : Nat} {p v : Value} {H : Heap} {Qf Qf' : ARes → Heap → Prop} (h : FnSpec P G f avs (bldC b p k v :: H) Qf)
    (hq : ∀ r H', Qf r H' → ∃ H'', Qf' r H'' ∧ ∀ C R w, MS C R H' w → MS C R H'' w) : FnSpec P G f avs (bldC b p j v :: H) Qf' :=
  fn_post (H := bldC b p k v :: H) (H0 := bldC b p j v :: H) (fun _ => Iff.rfl) (fun _ _ _ h => ms_hint k h) h hq
abbrev ghostR : HEnt := .row (.slice none 0 0) none 1 0 []
/-- An owned block written, and let go. -/
theorem MS.spoil {C : Ctx} {R : Seal} {H : Heap} {w w' : World} {i b : Nat} {x : HEnt} {o : Obj} (h : MS C R H w) (hi : H[i]? = some x) (hb : x.blk = some b) (hw : OneBlk w b o w') : MS C R (H.set i ghostR) w' := by
  obtain ⟨a, c, rfl, hset⟩ := set_split (y := ghostR) hi
  rw [hset]
  have hx : x ∈ a ++ x :: c := by simp
  have hRb := h.heap.apart x hx b hb
  have hnd := h.heap.nodup
  rw [List.filterMap_append, List.filterMap_cons, hb] at hnd
  have hd := List.nodup_append.1 hnd
  have hother : ∀ z, z ∈ a ∨ z ∈ c → ∀ k, z.blk = some k → k ≠ b := by
    rintro z hz k hk rfl
    rcases hz with hz | hz
    · exact hd.2.2 k (List.mem_filterMap.2 ⟨z, hz, hk⟩) k (by simp) rfl
    · exact (List.nodup_cons.1 hd.2.1).1 (List.mem_filterMap.2 ⟨z, hz, hk⟩)
  have hmem : ∀ z, z ∈ a ++ ghostR :: c → z = ghostR ∨ ((z ∈ a ∨ z ∈ c) ∧ z ∈ a ++ x :: c) := by
    intro z hz
    simp only [List.mem_append, List.mem_cons] at hz ⊢
    rcases hz with hz | hz | hz
    · exact .inr ⟨.inl hz, .inl hz⟩
    · exact .inl hz
    · exact .inr ⟨.inr hz, .inr (.inr hz)⟩
  refine ⟨?_, h.ge, h.fresh, ⟨?_, ?_, ?_⟩, ?_, ?_⟩
  · intro k o' hk
    rw [hw.other k (by rintro rfl; rw [hRb] at hk; cases hk)]
    exact h.sealed k o' hk
  · intro z hz
    rcases hmem z hz with rfl | ⟨hz', hz''⟩
    · exact ⟨rfl, .inl ⟨rfl, rfl⟩⟩
    · exact HEnt.holds_mono (h.heap.holds z hz'') (Seal.le_refl R) fun k hk => hw.other k (hother z hz' k hk)
  · rw [List.filterMap_append, List.filterMap_cons]
    refine List.nodup_append.2 ⟨hd.1, (List.nodup_cons.1 hd.2.1).2, fun k hk l hl => hd.2.2 k hk l (List.mem_cons_of_mem _ hl)⟩
  · intro z hz k hk
    rcases hmem z hz with rfl | ⟨_, hz''⟩
    · cases hk
    · exact h.heap.apart z hz'' k hk
  · intro z hz k hk
    rcases hmem z hz with rfl | ⟨_, hz''⟩
    · cases hk
    · exact h.own z hz'' k hk
  · have hob := h.own x hx b hb
    refine ⟨hw.os.trans h.ext.os, hw.tape.trans h.ext.tape, hw.output.trans h.ext.output, by rw [hw.size]; exact h.ext.size, fun k hk hB => ?_⟩
    rw [hw.other k (by rintro rfl; rcases hob with h1 | h1; omega; exact hB h1)]
    exact h.ext.block k hk hB
/-- A call that writes to a builder. -/
theorem cx_bld {P : Program} [Tab P] {G : Glo} {f : FuncId} {avs : List AVal} {H : Heap} {K Kp : AVal → Heap → Prop} {i j b : Nat} {p v : Value} {s s' : List UInt8} {r : AVal} (hi : H[i]? = some (bldC b p j v)) (hj : H[j]? = some (bldR v s)) (hne : i ≠ j)
    (hs : FnSpec P G f avs [bldC b p 1 v, bldR v s] (fun x H => ∃ va vk vc, x = .ret r ∧ H = [bldC b (ptrA b) 1 (.slice va vk vc), bldR (.slice va vk vc) s']))
    (k : ∀ va vk vc, forceH ((H.set i (bldC b (ptrA b) j (.slice va vk vc))).set j (bldR (.slice va vk vc) s')) (K r)) : Cx P G f avs H K Kp := by
  obtain ⟨rest, hp, hp2⟩ := two_perm hne hi hj
  have h1 : FnSpec P G f avs [bldC b p j v, bldR v s] (fun x H => ∃ va vk vc, x = .ret r ∧ H = [bldC b (ptrA b) j (.slice va vk vc), bldR (.slice va vk vc) s']) := by
    refine fn_hint hs ?_
    rintro x H' ⟨va, vk, vc, rfl, rfl⟩
    exact ⟨_, ⟨va, vk, vc, rfl, rfl⟩, fun C R w h => ms_hint j h⟩
  refine ⟨fun x H' => ∃ va vk vc, x = .ret r ∧ H' = (H.set i (bldC b (ptrA b) j (.slice va vk vc))).set j (bldR (.slice va vk vc) s'), fn_heap (fn_perm (H1 := [bldC b p j v, bldR v s] ++ rest) hp.symm (fn_frame rest h1)) ?_, ?_, ?_⟩
  · rintro x H' ⟨H1', ⟨va, vk, vc, rfl, rfl⟩, rfl⟩
    exact ⟨_, (hp2 _ _).symm, va, vk, vc, rfl, rfl⟩
  · rintro v' H' ⟨va, vk, vc, e, rfl⟩
    cases e
    have := k va vk vc
    rw [forceH_eq] at this
    exact this
  · rintro v' H' ⟨va, vk, vc, e, rfl⟩; cases e
theorem write_byte1 {G : Glo} {b : Nat} {p : Value} (hp : AddrOK b p) (v : Value) (s : List UInt8) (c : Int) (h0 : 0 ≤ c) (h1 : c < 256) (hl : s.length + 1 ≤ 137438953472) : FnSpec Tryz.prog G 72 [.raw (ptrA b), .int .u8 c] [bldC b p 1 v, bldR v s]
    (fun r H => ∃ va vk vc, r = .ret (.raw .nilIface) ∧ H = [bldC b (ptrA b) 1 (.slice va vk vc), bldR (.slice va vk vc) (s ++ [UInt8.ofNat c.toNat])]) := by
  have hGL : GloAll G [] := gloAll_nil
  refine fn_xo 0 Tryz.func72 Tryz.call72 rfl rfl rfl rfl hGL rfl ?_
  intro C hC
  repeat' (first
    | (conv => whnf); first
      | refine .w ?_ | refine .v ?_ | apply sc_true | apply sc_false
      | (first | apply sc_lt | apply sc_nlt | apply sc_eq | apply sc_neq | apply sc_nil | apply sc_nnil | apply sc_seq | apply sc_nseq) <;> (intro hb; try exact dd hb)
      | apply sc_not | apply sc_or | (apply sc_i <;> intro hb)
      | (apply bx_i; intro hbd) | (apply gt_i; assumption; exact rfl)
      | (apply cx_is; first | exact copyCheck_any hp _ _) | (apply cx_do (i := 0) rfl; first | exact copyCheck_any hp _ _)
      | (apply ab_i; intro bl) | (apply as_i; intro va vk vc hva) | (apply av_i; intro v) | (apply ac_i; intro bl cap hcap)
      | apply bo_l | (apply nx_i <;> intro hnx) | (apply Ia.hit; assumption) | (apply Ia.miss; assumption)
      | (apply rt_is; exact rfl) | exact rt_w | (apply iv; assumption)
      | apply dw_q mixed hC hGL (by kernel_rfl) | (apply cq; assumption; (first | exact copyCheck_any hp _ _); exact rfl))
  all_goals (try conv => whnf)
  refine ⟨_, List.Sublist.refl _, va, vk, vc, rfl, ?_⟩
  rw [← bldR_app]
  have e : c = ((UInt8.ofNat c.toNat).toNat : Int) := by
    rw [UInt8.toNat_ofNat_of_lt' (by have : c.toNat < 256 := by omega
                                     simpa using this)]
    omega
  show [_, HEnt.row _ _ 1 (s.length + 1) (bytesC s ++ [AVal.int .u8 c])] = [_, HEnt.row _ _ 1 (s.length + 1) (bytesC s ++ [AVal.int .u8 _])]
  rw [← e]
/-- A row's value at a call's beginning. -/
theorem fn_row {P : Program} {G : Glo} {f : FuncId} {avs : List AVal} {H : Heap} {Qf : ARes → Heap → Prop} {i sz m : Nat} {v : Value} {eT : Option TypeId} {cs : List AVal} (hi : H[i]? = some (.row v eT sz m cs))
    (h : ((v = .slice none 0 0 ∧ m = 0) ∨ ∃ g cap, v = .slice (some ⟨g, 0, none⟩) m cap ∧ m ≤ cap) → FnSpec P G f avs H Qf) : FnSpec P G f avs H Qf := by
  unfold FnSpec at h ⊢
  intro R w args hG hm ha
  obtain ⟨_, hh⟩ := hm.heap.holds _ (List.mem_of_getElem? hi)
  refine h ?_ R w args hG hm ha
  rcases hh with ⟨rfl, rfl⟩ | ⟨g, cap, _, _, _, rfl, _, _, hle, _⟩
  · exact .inl ⟨rfl, rfl⟩
  · exact .inr ⟨g, cap, rfl, hle⟩
section
variable {P : Program} [Tab P] {C : Ctx} {n : Nat} {env : Env} {H : Heap} {Q : AExit → Env → Heap → Prop} {ops : Array Oper} {rest : List Oper} {G : Glo} {GL : List (Nat × List AVal)}
variable {d : Nat} {t : TypeId} {p : String} {af : Array Edge} {g : Option (Nat × Bool)} {b : Bool} {x y : Operand}
omit [Tab P] in
theorem rv_usd {i k c : Nat} {a : Addr} {ts : Array TypeId} (hx : evalA env x = some (.own i (.slice (some a) k c))) (hc : c ≠ 0) : RunV P C H env (.call { callee := .builtin .unsafeSliceData, args := #[x], argTypes := ts }) (.raw (.pointer (some a))) := by
  intro R ρ w hm hf dst t p af g
  refine ⟨.pointer (some a), ?_, rel_raw.2 rfl⟩
  have hr := Lib.run_unsafeSliceData_row (P := P) w ts t a k c hc
  have e : (#[x].map ρ) = #[.slice (some a) k c] := by simp [(rel_own.1 (hf _ _ hx)).1]
  simp only [execOp, resolve, Sem.run_bind, Sem.run_pure, Result.andThen_ok, invoke, builtin, e, hr]
theorem op1_ustr {i0 gb cap : Nat} {s : List UInt8} {pt it : TypeId} {e : TypeId} (hC : C.G = G) (hGL : GloAll G GL) (hg : guardA ops env g = some (b, b)) (hdn : Nat.ble (d + 1) n = true)
    (hx : evalA env x = some (.raw (ptrA gb))) (hy : evalA env y = some (.int .i64 s.length)) (hi : H[i0]? = some (.row (.slice (some ⟨gb, 0, none⟩) s.length cap) (some e) 1 s.length (bytesC s))) (hs : s ≠ []) (hlen : s.length ≤ 137438953472)
    (hp : P.underlying pt = some (.pointer e)) (hce : P.cellsOf e = 1) (k : opsX P C n G GL ops Q rest ((d, .str s) :: env) (H.set i0 ghostR)) :
    Op1 P C n ops ({ dst := some d, op := .call { callee := .builtin .unsafeString, args := #[x, y], argTypes := #[pt, it] }, type := t, pos := p, after := af, guard := g } :: rest) env H Q := by
  refine ⟨ao_valX (X := Unit) (av := fun _ => .str s) (H' := fun _ => H.set i0 ghostR) hg rfl hdn (fun R ρ w hm hf => ?_) fun _ => opsX_ok hC hGL _ _ _ k⟩
  obtain ⟨_, hh⟩ := hm.heap.holds _ (List.mem_of_getElem? hi)
  rcases hh with ⟨h, _⟩ | ⟨g', cap', Cs, el, fz, h, hb, hcs, hle, hl, hfz, ht⟩
  · cases h
  · cases h
    obtain rfl := ht e rfl
    rw [Nat.mul_one] at hcs hl
    have hcell : ∀ j x, s[j]? = some x → w.cell? ((⟨gb, 0, none⟩ : Addr).add j) = some (.int .u8 x.toNat) := by
      intro j x hj
      obtain ⟨hj1, hj2⟩ := List.getElem?_eq_some_iff.1 hj
      have := bytes_cell (s := s) (o := 0) hb (by rw [List.drop_zero]; exact hl) j hj1
      rw [hj2] at this
      exact this
    have hsh : w.shape? gb = some (el, Cs.size) := by simp [World.shape?, hb]
    have hr := Lib.run_unsafeString_row (P := P) w pt it t el hp hce gb Cs.size hsh s hs (by omega) (by omega) hcell
    have e2 : (#[x, y].map ρ) = #[ptrA gb, .int .i64 s.length] := by simp [rel_raw.1 (hf _ _ hx), rel_int.1 (hf _ _ hy)]
    have hone : ∃ o, OneBlk w gb o (w.freeze ⟨gb, 0, none⟩ s.length) := by
      have h0 : s.length ≠ 0 := by simpa using hs
      unfold World.freeze
      rw [if_neg h0]
      obtain ⟨lo, hi⟩ := fz
      refine ⟨.cells Cs el (if lo == hi then (0, 0 + s.length) else (min lo 0, max hi (0 + s.length))), rfl, rfl, rfl, by simp, ?_, ?_⟩
      · simp [Array.getElem?_modify, hb]
      · intro k hk; simp [Array.getElem?_modify, Ne.symm hk]
    obtain ⟨o, hone⟩ := hone
    refine ⟨(), .string ⟨s.toArray⟩, w.freeze ⟨gb, 0, none⟩ s.length, R, ?_, Seal.le_refl R, rel_str.2 rfl, hm.spoil hi rfl hone⟩
    simp only [execOp, resolve, Sem.run_bind, Sem.run_pure, Result.andThen_ok, invoke, builtin, e2, hr]
omit [Tab P] in
theorem rv_usn {i k c : Nat} {ts : Array TypeId} (hx : evalA env x = some (.own i (.slice none k c))) : RunV P C H env (.call { callee := .builtin .unsafeSliceData, args := #[x], argTypes := ts }) (.raw (.pointer none)) := by
  intro R ρ w hm hf dst t p af g
  refine ⟨.pointer none, ?_, rel_raw.2 rfl⟩
  have hr := Lib.run_unsafeSliceData_nil (P := P) w ts t k c
  have e : (#[x].map ρ) = #[.slice none k c] := by simp [(rel_own.1 (hf _ _ hx)).1]
  simp only [execOp, resolve, Sem.run_bind, Sem.run_pure, Result.andThen_ok, invoke, builtin, e, hr]
omit [Tab P] in
theorem rv_ust0 {pt it : TypeId} {a : Option Addr} (hx : evalA env x = some (.raw (.pointer a))) (hy : evalA env y = some (.int .i64 0)) : RunV P C H env (.call { callee := .builtin .unsafeString, args := #[x, y], argTypes := #[pt, it] }) (.str []) := by
  intro R ρ w hm hf dst t p af g
  refine ⟨.string .empty, ?_, rel_str.2 rfl⟩
  have hr := Lib.run_unsafeString_none (P := P) w pt it t a
  have e : (#[x, y].map ρ) = #[.pointer a, .int .i64 0] := by simp [rel_raw.1 (hf _ _ hx), rel_int.1 (hf _ _ hy)]
  simp only [execOp, resolve, Sem.run_bind, Sem.run_pure, Result.andThen_ok, invoke, builtin, e, hr]
theorem op1_usz {i0 i k gb : Nat} {ts : Array TypeId} {e : TypeId} {eT : Option TypeId} {cs : List AVal} (hC : C.G = G) (hGL : GloAll G GL) (hg : guardA ops env g = some (b, b)) (hdn : Nat.ble (d + 1) n = true)
    (hx : evalA env x = some (.own i (.slice (some ⟨gb, 0, none⟩) k 0))) (hi : H[i0]? = some (.row (.slice (some ⟨gb, 0, none⟩) k 0) eT 1 k cs)) (hp : P.underlying t = some (.pointer e))
    (kk : ∀ bl, opsX P C n G GL ops Q rest ((d, .raw (ptrA bl)) :: env) H) :
    Op1 P C n ops ({ dst := some d, op := .call { callee := .builtin .unsafeSliceData, args := #[x], argTypes := ts }, type := t, pos := p, after := af, guard := g } :: rest) env H Q := by
  refine ⟨ao_valX (X := Nat) (av := fun bl => .raw (ptrA bl)) (H' := fun _ => H) hg rfl hdn (fun R ρ w hm hf => ?_) fun bl => opsX_ok hC hGL _ _ _ (kk bl)⟩
  obtain ⟨_, hh⟩ := hm.heap.holds _ (List.mem_of_getElem? hi)
  rcases hh with ⟨h, _⟩ | ⟨g', cap', Cs, el, fz, h, hb, hcs, hle, hl, hfz, ht⟩
  · cases h
  · cases h
    have hr := Lib.run_unsafeSliceData_zero (P := P) w ts t e hp ⟨gb, 0, none⟩ k (el, Cs.size) (by simp [World.shape?, hb])
    have e2 : (#[x].map ρ) = #[.slice (some ⟨gb, 0, none⟩) k 0] := by simp [(rel_own.1 (hf _ _ hx)).1]
    refine ⟨w.heap.size, ptrA w.heap.size, _, R.put w.heap.size (.view ⟨gb, 0, none⟩ e), ?_, Seal.put_le hm.seal_free, rel_raw.2 rfl, hm.alloc_sealed _⟩
    simp only [execOp, resolve, Sem.run_bind, Sem.run_pure, Result.andThen_ok, invoke, builtin, e2, hr]
    rfl
end
theorem builder_string1 {G : Glo} {b : Nat} {p : Value} (g cap : Nat) (s : List UInt8) (hs : s ≠ []) (hlen : s.length ≤ 137438953472) (hc0 : cap ≠ 0) : FnSpec Tryz.prog G 73 [.raw (ptrA b)] [bldC b p 1 (.slice (some ⟨g, 0, none⟩) s.length cap), bldR (.slice (some ⟨g, 0, none⟩) s.length cap) s] (fun r H => r = .ret (.str s) ∧ H = [bldC b p 1 (.slice (some ⟨g, 0, none⟩) s.length cap)]) := by
  have hGL : GloAll G [] := gloAll_nil
  refine fn_xo 0 Tryz.func73 Tryz.call73 rfl rfl rfl rfl hGL rfl ?_
  intro C hC
  repeat' (first
    | (conv => whnf); first
      | refine .w ?_ | (first | refine Ix.v ?_ | refine Sd.v ?_ | refine Sl.v ?_) | apply sc_true | apply sc_false
      | (first | apply sc_lt | apply sc_nlt | apply sc_eq | apply sc_neq | apply sc_nil | apply sc_nnil) <;> (intro hb; try exact dd hb)
      | apply sc_not | (apply sc_i <;> intro hb) | (apply bx_i; intro hbd) | (apply gt_i; assumption; exact rfl)
      | (apply cx_is; first | fail) | (apply ab_i; intro bl) | (apply rt_is; exact rfl) | exact rt_w
      | exact True.intro | (apply bc_i; intro C hC) | apply bt_i | apply og_n | (apply og_a; exact rfl))
  all_goals (try conv => whnf)
  refine dw_p mixed hC hGL false (fun (_ : Unit) => [(2, .str s)]) (fun _ => [bldC b p 1 (.slice (some ⟨g, 0, none⟩) s.length cap), ghostR]) (.take 0 (.take 1 (.take 2 (.take 5 (.take 6 (.take 7 (.br 3 (.br 4 (.br 8 (.br 9 (.br 10 (.take 11 (.done)) (.nil)) (.nil)) (.nil)) (.br 8 (.br 4 (.br 9 (.br 10 (.take 11 (.done)) (.nil)) (.nil)) (.br 9 (.br 4 (.br 10 (.take 11 (.done)) (.nil)) (.nil)) (.nil))) (.nil))) (.br 8 (.br 3 (.br 4 (.br 9 (.br 10 (.take 11 (.done)) (.nil)) (.nil)) (.br 9 (.br 4 (.br 10 (.take 11 (.done)) (.nil)) (.nil)) (.nil))) (.br 9 (.br 3 (.br 4 (.br 10 (.take 11 (.done)) (.nil)) (.nil)) (.nil)) (.nil))) (.nil))))))))) (by kernel_rfl) ?_ ?_
  · repeat' (first
      | (conv => whnf); first
        | refine .w ?_ | (first | refine Ix.v ?_ | refine Sd.v ?_ | refine Sl.v ?_) | apply sc_true | apply sc_false
        | (first | apply sc_lt | apply sc_nlt | apply sc_eq | apply sc_neq | apply sc_nil | apply sc_nnil) <;> (intro hb; try exact dd hb)
        | apply sc_not | (apply sc_i <;> intro hb) | (apply bx_i; intro hbd) | (apply gt_i; assumption; exact rfl)
        | (apply cx_is; first | fail) | (apply ab_i; intro bl) | (apply rt_is; exact rfl) | exact rt_w
        | exact True.intro | (apply bc_i; intro C hC) | apply bt_i | apply og_n | (apply og_a; exact rfl))
    all_goals (try conv => whnf)
    all_goals (apply op1_run hC hGL; exact rv_usd rfl hc0; exact rfl; exact rfl)
    all_goals (
      repeat' (first
        | (conv => whnf); first
          | refine .w ?_ | (first | refine Ix.v ?_ | refine Sd.v ?_ | refine Sl.v ?_) | apply sc_true | apply sc_false
          | (first | apply sc_lt | apply sc_nlt | apply sc_eq | apply sc_neq | apply sc_nil | apply sc_nnil) <;> (intro hb; try exact dd hb)
          | apply sc_not | (apply sc_i <;> intro hb) | (apply bx_i; intro hbd) | (apply gt_i; assumption; exact rfl)
          | (apply cx_is; first | fail) | (apply ab_i; intro bl) | (apply rt_is; exact rfl) | exact rt_w
          | exact True.intro | (apply bc_i; intro C hC) | apply bt_i | apply og_n | (apply og_a; exact rfl))
      all_goals (try conv => whnf)
    )
    all_goals (apply op1_ustr (i0 := 1) (s := s) (cap := cap) (gb := g) hC hGL; exact rfl; exact rfl; exact rfl; exact rfl; exact rfl; exact hs; exact hlen; exact Tryz.underlying152; kernel_rfl)
    all_goals (
      repeat' (first
        | (conv => whnf); first
          | refine .w ?_ | (first | refine Ix.v ?_ | refine Sd.v ?_ | refine Sl.v ?_) | apply sc_true | apply sc_false
          | (first | apply sc_lt | apply sc_nlt | apply sc_eq | apply sc_neq | apply sc_nil | apply sc_nnil) <;> (intro hb; try exact dd hb)
          | apply sc_not | (apply sc_i <;> intro hb) | (apply bx_i; intro hbd) | (apply gt_i; assumption; exact rfl)
          | (apply cx_is; first | fail) | (apply ab_i; intro bl) | (apply rt_is; exact rfl) | exact rt_w
          | exact True.intro | (apply bc_i; intro C hC) | apply bt_i | apply og_n | (apply og_a; exact rfl))
      all_goals (try conv => whnf)
    )
    all_goals (exact ⟨(), ⟨rfl, trivial⟩, rfl⟩)
  · intro _
    repeat' (first
      | (conv => whnf); first
        | refine .w ?_ | (first | refine Ix.v ?_ | refine Sd.v ?_ | refine Sl.v ?_) | apply sc_true | apply sc_false
        | (first | apply sc_lt | apply sc_nlt | apply sc_eq | apply sc_neq | apply sc_nil | apply sc_nnil) <;> (intro hb; try exact dd hb)
        | apply sc_not | (apply sc_i <;> intro hb) | (apply bx_i; intro hbd) | (apply gt_i; assumption; exact rfl)
        | (apply cx_is; first | fail) | (apply ab_i; intro bl) | (apply rt_is; exact rfl) | exact rt_w
        | exact True.intro | (apply bc_i; intro C hC) | apply bt_i | apply og_n | (apply og_a; exact rfl))
    all_goals (try conv => whnf)
theorem builder_string2 {G : Glo} {b : Nat} {p : Value} (g cap : Nat) (hc0 : cap ≠ 0) : FnSpec Tryz.prog G 73 [.raw (ptrA b)] [bldC b p 1 (.slice (some ⟨g, 0, none⟩) 0 cap), bldR (.slice (some ⟨g, 0, none⟩) 0 cap) []] (fun r H => r = .ret (.str []) ∧ H = [bldC b p 1 (.slice (some ⟨g, 0, none⟩) 0 cap)]) := by
  have hGL : GloAll G [] := gloAll_nil
  refine fn_xo 0 Tryz.func73 Tryz.call73 rfl rfl rfl rfl hGL rfl ?_
  intro C hC
  repeat' (first
    | (conv => whnf); first
      | refine .w ?_ | (first | refine Ix.v ?_ | refine Sd.v ?_ | refine Sl.v ?_) | apply sc_true | apply sc_false
      | (first | apply sc_lt | apply sc_nlt | apply sc_eq | apply sc_neq | apply sc_nil | apply sc_nnil) <;> (intro hb; try exact dd hb)
      | apply sc_not | (apply sc_i <;> intro hb) | (apply bx_i; intro hbd) | (apply gt_i; assumption; exact rfl)
      | (apply cx_is; first | fail) | (apply ab_i; intro bl) | (apply rt_is; exact rfl) | exact rt_w
      | exact True.intro | (apply bc_i; intro C hC) | apply bt_i | apply og_n | (apply og_a; exact rfl))
  all_goals (try conv => whnf)
  refine dw_p mixed hC hGL false (fun (_ : Unit) => [(2, .str [])]) (fun _ => [bldC b p 1 (.slice (some ⟨g, 0, none⟩) 0 cap), bldR (.slice (some ⟨g, 0, none⟩) 0 cap) []]) (.take 0 (.take 1 (.take 2 (.take 5 (.take 6 (.take 7 (.br 3 (.br 4 (.br 8 (.br 9 (.br 10 (.take 11 (.done)) (.nil)) (.nil)) (.nil)) (.br 8 (.br 4 (.br 9 (.br 10 (.take 11 (.done)) (.nil)) (.nil)) (.br 9 (.br 4 (.br 10 (.take 11 (.done)) (.nil)) (.nil)) (.nil))) (.nil))) (.br 8 (.br 3 (.br 4 (.br 9 (.br 10 (.take 11 (.done)) (.nil)) (.nil)) (.br 9 (.br 4 (.br 10 (.take 11 (.done)) (.nil)) (.nil)) (.nil))) (.br 9 (.br 3 (.br 4 (.br 10 (.take 11 (.done)) (.nil)) (.nil)) (.nil)) (.nil))) (.nil))))))))) (by kernel_rfl) ?_ ?_
  · repeat' (first
      | (conv => whnf); first
        | refine .w ?_ | (first | refine Ix.v ?_ | refine Sd.v ?_ | refine Sl.v ?_) | apply sc_true | apply sc_false
        | (first | apply sc_lt | apply sc_nlt | apply sc_eq | apply sc_neq | apply sc_nil | apply sc_nnil) <;> (intro hb; try exact dd hb)
        | apply sc_not | (apply sc_i <;> intro hb) | (apply bx_i; intro hbd) | (apply gt_i; assumption; exact rfl)
        | (apply cx_is; first | fail) | (apply ab_i; intro bl) | (apply rt_is; exact rfl) | exact rt_w
        | exact True.intro | (apply bc_i; intro C hC) | apply bt_i | apply og_n | (apply og_a; exact rfl))
    all_goals (try conv => whnf)
    all_goals (apply op1_run hC hGL; exact rv_usd rfl hc0; exact rfl; exact rfl)
    all_goals (
      repeat' (first
        | (conv => whnf); first
          | refine .w ?_ | (first | refine Ix.v ?_ | refine Sd.v ?_ | refine Sl.v ?_) | apply sc_true | apply sc_false
          | (first | apply sc_lt | apply sc_nlt | apply sc_eq | apply sc_neq | apply sc_nil | apply sc_nnil) <;> (intro hb; try exact dd hb)
          | apply sc_not | (apply sc_i <;> intro hb) | (apply bx_i; intro hbd) | (apply gt_i; assumption; exact rfl)
          | (apply cx_is; first | fail) | (apply ab_i; intro bl) | (apply rt_is; exact rfl) | exact rt_w
          | exact True.intro | (apply bc_i; intro C hC) | apply bt_i | apply og_n | (apply og_a; exact rfl))
      all_goals (try conv => whnf)
    )
    all_goals (apply op1_run hC hGL; exact rv_ust0 rfl rfl; exact rfl; exact rfl)
    all_goals (
      repeat' (first
        | (conv => whnf); first
          | refine .w ?_ | (first | refine Ix.v ?_ | refine Sd.v ?_ | refine Sl.v ?_) | apply sc_true | apply sc_false
          | (first | apply sc_lt | apply sc_nlt | apply sc_eq | apply sc_neq | apply sc_nil | apply sc_nnil) <;> (intro hb; try exact dd hb)
          | apply sc_not | (apply sc_i <;> intro hb) | (apply bx_i; intro hbd) | (apply gt_i; assumption; exact rfl)
          | (apply cx_is; first | fail) | (apply ab_i; intro bl) | (apply rt_is; exact rfl) | exact rt_w
          | exact True.intro | (apply bc_i; intro C hC) | apply bt_i | apply og_n | (apply og_a; exact rfl))
      all_goals (try conv => whnf)
    )
    all_goals (exact ⟨(), ⟨rfl, trivial⟩, rfl⟩)
  · intro _
    repeat' (first
      | (conv => whnf); first
        | refine .w ?_ | (first | refine Ix.v ?_ | refine Sd.v ?_ | refine Sl.v ?_) | apply sc_true | apply sc_false
        | (first | apply sc_lt | apply sc_nlt | apply sc_eq | apply sc_neq | apply sc_nil | apply sc_nnil) <;> (intro hb; try exact dd hb)
        | apply sc_not | (apply sc_i <;> intro hb) | (apply bx_i; intro hbd) | (apply gt_i; assumption; exact rfl)
        | (apply cx_is; first | fail) | (apply ab_i; intro bl) | (apply rt_is; exact rfl) | exact rt_w
        | exact True.intro | (apply bc_i; intro C hC) | apply bt_i | apply og_n | (apply og_a; exact rfl))
    all_goals (try conv => whnf)
theorem builder_string3 {G : Glo} {b : Nat} {p : Value}  : FnSpec Tryz.prog G 73 [.raw (ptrA b)] [bldC b p 1 (.slice none 0 0), bldR (.slice none 0 0) []] (fun r H => r = .ret (.str []) ∧ H = [bldC b p 1 (.slice none 0 0)]) := by
  have hGL : GloAll G [] := gloAll_nil
  refine fn_xo 0 Tryz.func73 Tryz.call73 rfl rfl rfl rfl hGL rfl ?_
  intro C hC
  repeat' (first
    | (conv => whnf); first
      | refine .w ?_ | (first | refine Ix.v ?_ | refine Sd.v ?_ | refine Sl.v ?_) | apply sc_true | apply sc_false
      | (first | apply sc_lt | apply sc_nlt | apply sc_eq | apply sc_neq | apply sc_nil | apply sc_nnil) <;> (intro hb; try exact dd hb)
      | apply sc_not | (apply sc_i <;> intro hb) | (apply bx_i; intro hbd) | (apply gt_i; assumption; exact rfl)
      | (apply cx_is; first | fail) | (apply ab_i; intro bl) | (apply rt_is; exact rfl) | exact rt_w
      | exact True.intro | (apply bc_i; intro C hC) | apply bt_i | apply og_n | (apply og_a; exact rfl))
  all_goals (try conv => whnf)
  refine dw_p mixed hC hGL false (fun (_ : Unit) => [(2, .str [])]) (fun _ => [bldC b p 1 (.slice none 0 0), bldR (.slice none 0 0) []]) (.take 0 (.take 1 (.take 2 (.take 5 (.take 6 (.take 7 (.br 3 (.br 4 (.br 8 (.br 9 (.br 10 (.take 11 (.done)) (.nil)) (.nil)) (.nil)) (.br 8 (.br 4 (.br 9 (.br 10 (.take 11 (.done)) (.nil)) (.nil)) (.br 9 (.br 4 (.br 10 (.take 11 (.done)) (.nil)) (.nil)) (.nil))) (.nil))) (.br 8 (.br 3 (.br 4 (.br 9 (.br 10 (.take 11 (.done)) (.nil)) (.nil)) (.br 9 (.br 4 (.br 10 (.take 11 (.done)) (.nil)) (.nil)) (.nil))) (.br 9 (.br 3 (.br 4 (.br 10 (.take 11 (.done)) (.nil)) (.nil)) (.nil)) (.nil))) (.nil))))))))) (by kernel_rfl) ?_ ?_
  · repeat' (first
      | (conv => whnf); first
        | refine .w ?_ | (first | refine Ix.v ?_ | refine Sd.v ?_ | refine Sl.v ?_) | apply sc_true | apply sc_false
        | (first | apply sc_lt | apply sc_nlt | apply sc_eq | apply sc_neq | apply sc_nil | apply sc_nnil) <;> (intro hb; try exact dd hb)
        | apply sc_not | (apply sc_i <;> intro hb) | (apply bx_i; intro hbd) | (apply gt_i; assumption; exact rfl)
        | (apply cx_is; first | fail) | (apply ab_i; intro bl) | (apply rt_is; exact rfl) | exact rt_w
        | exact True.intro | (apply bc_i; intro C hC) | apply bt_i | apply og_n | (apply og_a; exact rfl))
    all_goals (try conv => whnf)
    all_goals (apply op1_run hC hGL; exact rv_usn rfl; exact rfl; exact rfl)
    all_goals (
      repeat' (first
        | (conv => whnf); first
          | refine .w ?_ | (first | refine Ix.v ?_ | refine Sd.v ?_ | refine Sl.v ?_) | apply sc_true | apply sc_false
          | (first | apply sc_lt | apply sc_nlt | apply sc_eq | apply sc_neq | apply sc_nil | apply sc_nnil) <;> (intro hb; try exact dd hb)
          | apply sc_not | (apply sc_i <;> intro hb) | (apply bx_i; intro hbd) | (apply gt_i; assumption; exact rfl)
          | (apply cx_is; first | fail) | (apply ab_i; intro bl) | (apply rt_is; exact rfl) | exact rt_w
          | exact True.intro | (apply bc_i; intro C hC) | apply bt_i | apply og_n | (apply og_a; exact rfl))
      all_goals (try conv => whnf)
    )
    all_goals (apply op1_run hC hGL; exact rv_ust0 rfl rfl; exact rfl; exact rfl)
    all_goals (
      repeat' (first
        | (conv => whnf); first
          | refine .w ?_ | (first | refine Ix.v ?_ | refine Sd.v ?_ | refine Sl.v ?_) | apply sc_true | apply sc_false
          | (first | apply sc_lt | apply sc_nlt | apply sc_eq | apply sc_neq | apply sc_nil | apply sc_nnil) <;> (intro hb; try exact dd hb)
          | apply sc_not | (apply sc_i <;> intro hb) | (apply bx_i; intro hbd) | (apply gt_i; assumption; exact rfl)
          | (apply cx_is; first | fail) | (apply ab_i; intro bl) | (apply rt_is; exact rfl) | exact rt_w
          | exact True.intro | (apply bc_i; intro C hC) | apply bt_i | apply og_n | (apply og_a; exact rfl))
      all_goals (try conv => whnf)
    )
    all_goals (exact ⟨(), ⟨rfl, trivial⟩, rfl⟩)
  · intro _
    repeat' (first
      | (conv => whnf); first
        | refine .w ?_ | (first | refine Ix.v ?_ | refine Sd.v ?_ | refine Sl.v ?_) | apply sc_true | apply sc_false
        | (first | apply sc_lt | apply sc_nlt | apply sc_eq | apply sc_neq | apply sc_nil | apply sc_nnil) <;> (intro hb; try exact dd hb)
        | apply sc_not | (apply sc_i <;> intro hb) | (apply bx_i; intro hbd) | (apply gt_i; assumption; exact rfl)
        | (apply cx_is; first | fail) | (apply ab_i; intro bl) | (apply rt_is; exact rfl) | exact rt_w
        | exact True.intro | (apply bc_i; intro C hC) | apply bt_i | apply og_n | (apply og_a; exact rfl))
    all_goals (try conv => whnf)
theorem builder_string4 {G : Glo} {b : Nat} {p : Value} (g : Nat) : FnSpec Tryz.prog G 73 [.raw (ptrA b)] [bldC b p 1 (.slice (some ⟨g, 0, none⟩) 0 0), bldR (.slice (some ⟨g, 0, none⟩) 0 0) []] (fun r H => r = .ret (.str []) ∧ H = [bldC b p 1 (.slice (some ⟨g, 0, none⟩) 0 0)]) := by
  have hGL : GloAll G [] := gloAll_nil
  refine fn_xo 0 Tryz.func73 Tryz.call73 rfl rfl rfl rfl hGL rfl ?_
  intro C hC
  repeat' (first
    | (conv => whnf); first
      | refine .w ?_ | (first | refine Ix.v ?_ | refine Sd.v ?_ | refine Sl.v ?_) | apply sc_true | apply sc_false
      | (first | apply sc_lt | apply sc_nlt | apply sc_eq | apply sc_neq | apply sc_nil | apply sc_nnil) <;> (intro hb; try exact dd hb)
      | apply sc_not | (apply sc_i <;> intro hb) | (apply bx_i; intro hbd) | (apply gt_i; assumption; exact rfl)
      | (apply cx_is; first | fail) | (apply ab_i; intro bl) | (apply rt_is; exact rfl) | exact rt_w
      | exact True.intro | (apply bc_i; intro C hC) | apply bt_i | apply og_n | (apply og_a; exact rfl))
  all_goals (try conv => whnf)
  refine dw_p mixed hC hGL false (fun (_ : Unit) => [(2, .str [])]) (fun _ => [bldC b p 1 (.slice (some ⟨g, 0, none⟩) 0 0), bldR (.slice (some ⟨g, 0, none⟩) 0 0) []]) (.take 0 (.take 1 (.take 2 (.take 5 (.take 6 (.take 7 (.br 3 (.br 4 (.br 8 (.br 9 (.br 10 (.take 11 (.done)) (.nil)) (.nil)) (.nil)) (.br 8 (.br 4 (.br 9 (.br 10 (.take 11 (.done)) (.nil)) (.nil)) (.br 9 (.br 4 (.br 10 (.take 11 (.done)) (.nil)) (.nil)) (.nil))) (.nil))) (.br 8 (.br 3 (.br 4 (.br 9 (.br 10 (.take 11 (.done)) (.nil)) (.nil)) (.br 9 (.br 4 (.br 10 (.take 11 (.done)) (.nil)) (.nil)) (.nil))) (.br 9 (.br 3 (.br 4 (.br 10 (.take 11 (.done)) (.nil)) (.nil)) (.nil)) (.nil))) (.nil))))))))) (by kernel_rfl) ?_ ?_
  · repeat' (first
      | (conv => whnf); first
        | refine .w ?_ | (first | refine Ix.v ?_ | refine Sd.v ?_ | refine Sl.v ?_) | apply sc_true | apply sc_false
        | (first | apply sc_lt | apply sc_nlt | apply sc_eq | apply sc_neq | apply sc_nil | apply sc_nnil) <;> (intro hb; try exact dd hb)
        | apply sc_not | (apply sc_i <;> intro hb) | (apply bx_i; intro hbd) | (apply gt_i; assumption; exact rfl)
        | (apply cx_is; first | fail) | (apply ab_i; intro bl) | (apply rt_is; exact rfl) | exact rt_w
        | exact True.intro | (apply bc_i; intro C hC) | apply bt_i | apply og_n | (apply og_a; exact rfl))
    all_goals (try conv => whnf)
    all_goals (apply op1_usz (i0 := 1) hC hGL; exact rfl; exact rfl; exact rfl; exact rfl; exact Tryz.underlying152; intro bl)
    all_goals (
      repeat' (first
        | (conv => whnf); first
          | refine .w ?_ | (first | refine Ix.v ?_ | refine Sd.v ?_ | refine Sl.v ?_) | apply sc_true | apply sc_false
          | (first | apply sc_lt | apply sc_nlt | apply sc_eq | apply sc_neq | apply sc_nil | apply sc_nnil) <;> (intro hb; try exact dd hb)
          | apply sc_not | (apply sc_i <;> intro hb) | (apply bx_i; intro hbd) | (apply gt_i; assumption; exact rfl)
          | (apply cx_is; first | fail) | (apply ab_i; intro bl) | (apply rt_is; exact rfl) | exact rt_w
          | exact True.intro | (apply bc_i; intro C hC) | apply bt_i | apply og_n | (apply og_a; exact rfl))
      all_goals (try conv => whnf)
    )
    all_goals (apply op1_run hC hGL; exact rv_ust0 rfl rfl; exact rfl; exact rfl)
    all_goals (
      repeat' (first
        | (conv => whnf); first
          | refine .w ?_ | (first | refine Ix.v ?_ | refine Sd.v ?_ | refine Sl.v ?_) | apply sc_true | apply sc_false
          | (first | apply sc_lt | apply sc_nlt | apply sc_eq | apply sc_neq | apply sc_nil | apply sc_nnil) <;> (intro hb; try exact dd hb)
          | apply sc_not | (apply sc_i <;> intro hb) | (apply bx_i; intro hbd) | (apply gt_i; assumption; exact rfl)
          | (apply cx_is; first | fail) | (apply ab_i; intro bl) | (apply rt_is; exact rfl) | exact rt_w
          | exact True.intro | (apply bc_i; intro C hC) | apply bt_i | apply og_n | (apply og_a; exact rfl))
      all_goals (try conv => whnf)
    )
    all_goals (exact ⟨(), ⟨rfl, trivial⟩, rfl⟩)
  · intro _
    repeat' (first
      | (conv => whnf); first
        | refine .w ?_ | (first | refine Ix.v ?_ | refine Sd.v ?_ | refine Sl.v ?_) | apply sc_true | apply sc_false
        | (first | apply sc_lt | apply sc_nlt | apply sc_eq | apply sc_neq | apply sc_nil | apply sc_nnil) <;> (intro hb; try exact dd hb)
        | apply sc_not | (apply sc_i <;> intro hb) | (apply bx_i; intro hbd) | (apply gt_i; assumption; exact rfl)
        | (apply cx_is; first | fail) | (apply ab_i; intro bl) | (apply rt_is; exact rfl) | exact rt_w
        | exact True.intro | (apply bc_i; intro C hC) | apply bt_i | apply og_n | (apply og_a; exact rfl))
    all_goals (try conv => whnf)
/-- The text so far; the builder itself is left. -/
theorem builder_keep {G : Glo} {b : Nat} {p v : Value} (s : List UInt8) (hlen : s.length ≤ 137438953472) : FnSpec Tryz.prog G 73 [.raw (ptrA b)] [bldC b p 1 v, bldR v s] (fun r H => r = .ret (.str s) ∧ H = [bldC b p 1 v]) := by
  refine fn_row (i := 1) rfl ?_
  rintro (⟨rfl, h0⟩ | ⟨g, cap, rfl, hc⟩)
  · obtain rfl : s = [] := List.eq_nil_of_length_eq_zero h0
    exact builder_string3
  · by_cases hs : s = []
    · subst hs
      by_cases hc0 : cap = 0
      · subst hc0; exact builder_string4 g
      · exact builder_string2 g cap hc0
    · have h1 : s.length ≠ 0 := by simpa using hs
      exact builder_string1 g cap s hs hlen (by omega)
end Go.Proofs.YtidcpikoeohfbaaGreatDoor
namespace Go.Proofs.YtidcpikoeohfbaaGreatDoor
open Go
set_option maxRecDepth 20000
set_option maxHeartbeats 4000000
set_option linter.unusedSimpArgs false
set_option linter.unusedVariables false
attribute [local irreducible] AWp AOps byteAt SrcOK OrOk GloAll FnSpec
attribute [local irreducible] nextS badI badS stepS rngR ownB
def mayZ (r : Int) : Bool := decide (0 ≤ r ∧ r ≤ 1114111 ∧ (r < 55296 ∨ 57343 < r))
theorem mayZ_t {r : Int} : mayZ r = true ↔ (0 ≤ r ∧ r ≤ 1114111 ∧ (r < 55296 ∨ 57343 < r)) := by simp [mayZ]
theorem mayZ_f {r : Int} : mayZ r = false ↔ ¬ (0 ≤ r ∧ r ≤ 1114111 ∧ (r < 55296 ∨ 57343 < r)) := by simp [mayZ]
attribute [local irreducible] mayZ
theorem utf_May {G : Glo} (r : Int) : FnIs Tryz.prog G 105 [.int .i64 r] (.bool (mayZ r)) := by
  have hGL : GloAll G [] := gloAll_nil
  refine fn_x Tryz.func105 Tryz.call105 rfl rfl rfl rfl hGL ?_
  intro C hC
  repeat' (first
    | (conv => whnf); first
      | refine .w ?_ | refine .v ?_ | apply sc_true | apply sc_false
      | (first | apply sc_lt | apply sc_nlt | apply sc_eq | apply sc_neq | apply sc_nil | apply sc_nnil | apply sc_seq | apply sc_nseq) <;> (intro hb; try exact dd hb)
      | apply sc_not | apply sc_or | (apply sc_i <;> intro hb)
      | (apply bx_i; intro hbd) | (apply gt_i; assumption; exact rfl)
      | (apply cx_is; first | fail) | (apply cx_do (i := 0) rfl; first | fail)
      | (apply ab_i; intro bl) | (apply as_i; intro va vk vc hva) | (apply av_i; intro v) | (apply ac_i; intro bl cap hcap)
      | apply bo_l | (apply nx_i <;> intro hnx) | (apply Ia.hit; assumption) | (apply Ia.miss; assumption)
      | (apply rt_is; exact rfl) | exact rt_w | (apply iv; assumption)
      | apply dw_q mixed hC hGL (by kernel_rfl) | (apply cq; assumption; (first | fail); exact rfl))
  all_goals (try conv => whnf)
  all_goals (apply rt_is)
  all_goals (refine congrArg AVal.bool ?_)
  all_goals (rw [Bool.eq_iff_iff]; simp [mayZ_t, ltB_t, ltB_f, Bool.not_eq_true'] <;> omega)
theorem tup2 {k j : IntKind} {a b c e : Int} {H' : Heap} (h : c = a ∧ e = b) : Rt (fun (x : ARes) (H : Heap) => x = .ret (.tuple [.int k c, .int j e]) ∧ H = []) (.tuple [.int k a, .int j b]) H' := by
  obtain ⟨rfl, rfl⟩ := h
  exact rt_is rfl
theorem utf_Next {G : Glo} (s : List UInt8) : FnIs Tryz.prog G 71 [.str s] (.tuple [.int .i64 ((nextS s).1 : Int), .int .i64 ((nextS s).2 : Int)]) := by
  have hGL : GloAll G [] := gloAll_nil
  refine fn_x Tryz.func71 Tryz.call71 rfl rfl rfl rfl hGL ?_
  intro C hC
  repeat' (first
    | (conv => whnf); first
      | refine .w ?_ | refine .v ?_ | apply sc_true | apply sc_false
      | (first | apply sc_lt | apply sc_nlt | apply sc_eq | apply sc_neq | apply sc_nil | apply sc_nnil | apply sc_seq | apply sc_nseq) <;> (intro hb; try exact dd hb)
      | apply sc_not | apply sc_or | (apply sc_i <;> intro hb)
      | (apply bx_i; intro hbd) | (apply gt_i; assumption; exact rfl)
      | (apply cx_is; first | exact utf_May _) | (apply cx_do (i := 0) rfl; first | exact utf_May _)
      | (apply ab_i; intro bl) | (apply as_i; intro va vk vc hva) | (apply av_i; intro v) | (apply ac_i; intro bl cap hcap)
      | apply bo_l | (apply nx_i <;> intro hnx) | (apply Ia.hit; assumption) | (apply Ia.miss; assumption)
      | (apply rt_is; exact rfl) | exact rt_w | (apply iv; assumption)
      | apply dw_q mixed hC hGL (by kernel_rfl) | (apply cq; assumption; (first | exact utf_May _); exact rfl))
  all_goals (try conv => whnf)
  any_goals (refine rds hC hGL 4 ?_)
  repeat' (first
    | (conv => whnf); first
      | refine .w ?_ | refine .v ?_ | apply sc_true | apply sc_false
      | (first | apply sc_lt | apply sc_nlt | apply sc_eq | apply sc_neq | apply sc_nil | apply sc_nnil | apply sc_seq | apply sc_nseq) <;> (intro hb; try exact dd hb)
      | apply sc_not | apply sc_or | (apply sc_i <;> intro hb)
      | (apply bx_i; intro hbd) | (apply gt_i; assumption; exact rfl)
      | (apply cx_is; first | exact utf_May _) | (apply cx_do (i := 0) rfl; first | exact utf_May _)
      | (apply ab_i; intro bl) | (apply as_i; intro va vk vc hva) | (apply av_i; intro v) | (apply ac_i; intro bl cap hcap)
      | apply bo_l | (apply nx_i <;> intro hnx) | (apply Ia.hit; assumption) | (apply Ia.miss; assumption)
      | (apply rt_is; exact rfl) | exact rt_w | (apply iv; assumption)
      | apply dw_q mixed hC hGL (by kernel_rfl) | (apply cq; assumption; (first | exact utf_May _); exact rfl))
  all_goals (try conv => whnf)
  all_goals (refine tup2 ?_)
  all_goals (
    try simp only [show Int.toNat 0 = 0 from rfl, show Int.toNat 1 = 1 from rfl, show Int.toNat (1 + 1) = 2 from rfl, show Int.toNat (1 + 1 + 1) = 3 from rfl, Int.ofNat_toNat, mayZ_t, mayZ_f, ltB_t, ltB_f] at *
    generalize hz : nextS s = z
    unfold nextS contAt mayN cp2 cp3 cp4 at hz
    generalize byteAt s 0 = b0 at *
    generalize byteAt s 1 = b1 at *
    generalize byteAt s 2 = b2 at *
    generalize byteAt s 3 = b3 at *
    generalize s.length = l at *)
  all_goals (
    repeat' (split at hz; try (exfalso; omega))
    all_goals (try subst z)
    all_goals (first
      | exact ⟨rfl, rfl⟩
      | (simp only [Bool.and_eq_true, Bool.or_eq_true, decide_eq_true_eq, beq_iff_eq] at *; first | (exfalso; omega) | omega)))
end Go.Proofs.YtidcpikoeohfbaaGreatDoor
namespace Go.Proofs.YtidcpikoeohfbaaGreatDoor
open Go
set_option maxRecDepth 20000
set_option maxHeartbeats 4000000
set_option linter.unusedSimpArgs false
set_option linter.unusedVariables false
attribute [local irreducible] AWp AOps byteAt SrcOK OrOk GloAll FnSpec
attribute [local irreducible] nextS badI badS stepS rngR ownB
theorem utf_Bad {G : Glo} (s : List UInt8) (hl : s.length ≤ 9223372036854775807) : FnIs Tryz.prog G 47 [.str s] (.int .i64 (badI s)) := by
  have hGL : GloAll G [] := gloAll_nil
  refine fn_x Tryz.func47 Tryz.call47 rfl rfl rfl rfl hGL ?_
  intro C hC
  have hle := fun k => nextS_le (s.drop k)
  repeat' (first
    | (conv => whnf); first
      | refine .w ?_ | refine .v ?_ | apply sc_true | apply sc_false
      | (first | apply sc_lt | apply sc_nlt | apply sc_eq | apply sc_neq | apply sc_nil | apply sc_nnil | apply sc_seq | apply sc_nseq) <;> (intro hb; try exact dd hb)
      | apply sc_not | apply sc_or | (apply sc_i <;> intro hb)
      | (apply bx_i; intro hbd) | (apply gt_i; assumption; exact rfl)
      | (apply cx_is; first | exact utf_Next _) | (apply cx_do (i := 0) rfl; first | exact utf_Next _)
      | (apply ab_i; intro bl) | (apply as_i; intro va vk vc hva) | (apply av_i; intro v) | (apply ac_i; intro bl cap hcap)
      | apply bo_l | (apply nx_i <;> intro hnx) | (apply Ia.hit; assumption) | (apply Ia.miss; assumption)
      | (apply rt_is; exact rfl) | exact rt_w | (apply iv; assumption)
      | apply dw_q mixed hC hGL (by kernel_rfl) | (apply cq; assumption; (first | exact utf_Next _); exact rfl))
  all_goals (try conv => whnf)
  refine lp hC hGL (fun (i : Nat) => [(0, .str s), (3, .int .i64 i)]) (fun _ => []) (fun i => i ≤ s.length ∧ badS s = (badS (s.drop i)).map (· + i)) (fun i => s.length - i) 0 ?_ env_w rfl ?_
  · exact ⟨Nat.zero_le _, by simp⟩
  rintro i ⟨hi, hb0⟩
  have hn := hle i
  rw [List.length_drop] at hn
  repeat' (first
    | (conv => whnf); first
      | refine .w ?_ | refine .v ?_ | apply sc_true | apply sc_false
      | (first | apply sc_lt | apply sc_nlt | apply sc_eq | apply sc_neq | apply sc_nil | apply sc_nnil | apply sc_seq | apply sc_nseq) <;> (intro hb; try exact dd hb)
      | apply sc_not | apply sc_or | (apply sc_i <;> intro hb)
      | (apply bx_i; intro hbd) | (apply gt_i; assumption; exact rfl)
      | (apply cx_is; first | exact utf_Next _) | (apply cx_do (i := 0) rfl; first | exact utf_Next _)
      | (apply ab_i; intro bl) | (apply as_i; intro va vk vc hva) | (apply av_i; intro v) | (apply ac_i; intro bl cap hcap)
      | apply bo_l | (apply nx_i <;> intro hnx) | (apply Ia.hit; assumption) | (apply Ia.miss; assumption)
      | (apply rt_is; exact rfl) | exact rt_w | (apply iv; assumption)
      | apply dw_q mixed hC hGL (by kernel_rfl) | (apply cq; assumption; (first | exact utf_Next _); exact rfl))
  all_goals (try conv => whnf)
  · apply rt_is
    refine congrArg (AVal.int .i64) ?_
    have h1 := badS_step (s.drop i) (by rw [List.length_drop]; omega)
    rw [if_pos (by omega)] at h1
    rw [h1] at hb0
    simp only [badI, hb0, Option.map_some, Nat.zero_add]
  · have h1 := badS_step (s.drop i) (by rw [List.length_drop]; omega)
    rw [if_neg (by omega)] at h1
    refine nxt (i + (nextS (s.drop i)).2) ?_ ?_ env_w rfl
    · refine ⟨by omega, ?_⟩
      rw [hb0, h1, List.drop_drop]
      cases badS (s.drop (i + (nextS (s.drop i)).2)) <;> simp <;> omega
    · omega
  · apply rt_is
    refine congrArg (AVal.int .i64) ?_
    rw [badS_nil (s.drop i) (by rw [List.length_drop]; omega)] at hb0
    simp only [badI, hb0, Option.map_none]
end Go.Proofs.YtidcpikoeohfbaaGreatDoor
namespace Go.Proofs.YtidcpikoeohfbaaGreatDoor
open Go
set_option maxRecDepth 20000
set_option maxHeartbeats 4000000
set_option linter.unusedSimpArgs false
set_option linter.unusedVariables false
attribute [local irreducible] AWp AOps byteAt SrcOK OrOk GloAll FnSpec
attribute [local irreducible] nextS badI badS stepS rngR ownB mayZ
theorem valid_rune {G : Glo} (r : Int) : FnIs Tryz.prog G 109 [.int .i32 r] (.bool (mayZ r)) := by
  have hGL : GloAll G [] := gloAll_nil
  refine fn_x Tryz.func109 Tryz.call109 rfl rfl rfl rfl hGL ?_
  intro C hC
  repeat' (first
    | (conv => whnf); first
      | refine .w ?_ | refine .v ?_ | apply sc_true | apply sc_false
      | (first | apply sc_lt | apply sc_nlt | apply sc_eq | apply sc_neq | apply sc_nil | apply sc_nnil | apply sc_seq | apply sc_nseq) <;> (intro hb; try exact dd hb)
      | apply sc_not | apply sc_or | (apply sc_i <;> intro hb)
      | (apply bx_i; intro hbd) | (apply gt_i; assumption; exact rfl)
      | (apply cx_is; first | fail) | (apply cx_do (i := 0) rfl; first | fail)
      | (apply ab_i; intro bl) | (apply as_i; intro va vk vc hva) | (apply av_i; intro v) | (apply ac_i; intro bl cap hcap)
      | apply bo_l | (apply nx_i <;> intro hnx) | (apply Ia.hit; assumption) | (apply Ia.miss; assumption)
      | (apply rt_is; exact rfl) | exact rt_w | (apply iv; assumption)
      | apply dw_q mixed hC hGL (by kernel_rfl) | (apply cq; assumption; (first | fail); exact rfl))
  all_goals (try conv => whnf)
  all_goals (apply rt_is; refine congrArg AVal.bool ?_)
  all_goals (rw [Bool.eq_iff_iff]; simp [mayZ_t, ltB_t, ltB_f, Bool.not_eq_true'] <;> omega)
theorem enc_all {r : Int} (hz : 0 ≤ r ∧ r ≤ 1114111 ∧ (r < 55296 ∨ 57343 < r)) : (Utf8.encode r).data.toList =
    if r.toNat < 128 then [UInt8.ofNat r.toNat] else if r.toNat < 2048 then [UInt8.ofNat (192 + r.toNat / 64), UInt8.ofNat (128 + r.toNat % 64)]
    else if r.toNat < 65536 then [UInt8.ofNat (224 + r.toNat / 4096), UInt8.ofNat (128 + r.toNat / 64 % 64), UInt8.ofNat (128 + r.toNat % 64)]
    else [UInt8.ofNat (240 + r.toNat / 262144), UInt8.ofNat (128 + r.toNat / 4096 % 64), UInt8.ofNat (128 + r.toNat / 64 % 64), UInt8.ofNat (128 + r.toNat % 64)] := by
  have hv : Utf8.valid r = true := by simp [Utf8.valid]; omega
  unfold Utf8.encode
  simp only [hv, if_true]
  (repeat' split) <;> first | rfl | omega
end Go.Proofs.YtidcpikoeohfbaaGreatDoor
namespace Go.Proofs.YtidcpikoeohfbaaGreatDoor
open Go
theorem next_lo {x : UInt8} {t : List UInt8} (h : x.toNat < 128) : nextS (x :: t) = (x.toNat, 1) := by
  unfold nextS
  simp [byteAt, h]
theorem rng_lo {x : UInt8} {t : List UInt8} (h : x.toNat < 128) : rngR (x :: t) = x.toNat ∧ stepS (x :: t) = 1 := by
  unfold rngR stepS
  rw [next_lo h]
  simp
theorem two_a {a b : UInt8} (ha : a.toNat < 128) (hb : b.toNat < 128) : rngR [a, b] = a.toNat ∧ stepS [a, b] = 1 ∧ rngR [b] = b.toNat ∧ stepS [b] = 1 := ⟨(rng_lo ha).1, (rng_lo ha).2, (rng_lo hb).1, (rng_lo hb).2⟩
theorem two1 {a b : UInt8} : byteAt [a, b] 1 = b.toNat := rfl
/-- A scope through which nothing jumps. -/
def noGo (Q : AExit → Env → Heap → Prop) : AExit → Env → Heap → Prop
  | .goto _, _, _ => False
  | x, e, h => Q x e h
theorem cd_scope {P : Program} [Tab P] {C : Ctx} {n : Nat} {env : Env} {H : Heap} {Q : AExit → Env → Heap → Prop} {c : Code} {G : Glo} {GL : List (Nat × List AVal)} (hC : C.G = G) (hGL : GloAll G GL) (h : codeX P C n G GL c env H (noGo Q)) : Cd P C n (.scope c) env H Q := by
  refine ⟨fun R a w hm hf => wp_scope_straight (wp_mono (codeX_ok hC hGL c _ _ _ h R a w hm hf) ?_)⟩
  rintro ex a w ⟨x, e, h, R, hq, hr, hm, hf⟩
  cases x with
  | goto l => exact hq.elim
  | normal => simp only [ExitRel] at hr; subst hr; exact ⟨.normal, e, h, R, hq, rfl, hm, hf⟩
  | exit i => simp only [ExitRel] at hr; subst hr; exact ⟨.exit i, e, h, R, hq, rfl, hm, hf⟩
  | ret => simp only [ExitRel] at hr; subst hr; exact ⟨.ret, e, h, R, hq, rfl, hm, hf⟩
  | panic v =>
    obtain ⟨x, rfl, hx⟩ := hr
    exact ⟨.panic v, e, h, R, hq, ⟨x, rfl, hx⟩, hm, hf⟩
set_option maxRecDepth 20000
set_option maxHeartbeats 4000000
set_option linter.unusedSimpArgs false
set_option linter.unusedVariables false
attribute [local irreducible] AWp AOps byteAt SrcOK OrOk GloAll FnSpec
attribute [local irreducible] nextS badI badS stepS rngR ownB mayZ
theorem enc_hi {r : Int} (h1 : 128 ≤ r) (hv : mayZ r = true) : ∃ e : List UInt8, (Utf8.encode r).data.toList = e ∧ 2 ≤ e.length ∧ e.length ≤ 4 ∧ 128 ≤ byteAt e 1 ∧ byteAt e 1 < 256 := by
  refine ⟨_, rfl, ?_⟩
  rw [mayZ_t] at hv
  rw [enc_all hv]
  have hb : ∀ k : Nat, 128 ≤ ((UInt8.ofNat (128 + k % 64)).toNat) ∧ ((UInt8.ofNat (128 + k % 64)).toNat) < 256 := by
    intro k
    have e : 128 + k % 64 < 256 := by omega
    rw [UInt8.toNat_ofNat_of_lt' (by simpa using e)]
    omega
  split
  · omega
  · split
    · refine ⟨by simp, by simp, ?_⟩; simpa [byteAt] using hb _
    · split
      · refine ⟨by simp, by simp, ?_⟩; simpa [byteAt] using hb _
      · refine ⟨by simp, by simp, ?_⟩; simpa [byteAt] using hb _
theorem indexRune_hi {G : Glo} {a b : UInt8} (ha : a.toNat < 128) (hb' : b.toNat < 128) (r : Int) (h1 : 128 ≤ r) (hv : mayZ r = true) (hne : r ≠ 65533) : FnIs Tryz.prog G 78 [.str [a, b], .int .i32 r] (.int .i64 (-1)) := by
  have hGL : GloAll G [] := gloAll_nil
  refine fn_x Tryz.func78 Tryz.call78 rfl rfl rfl rfl hGL ?_
  intro C hC
  have hV := valid_rune (G := G) r
  rw [hv] at hV
  repeat' (first
    | (conv => whnf); first
      | refine .w ?_ | refine .v ?_ | apply sc_true | apply sc_false
      | (first | apply sc_lt | apply sc_nlt | apply sc_eq | apply sc_neq | apply sc_nil | apply sc_nnil | apply sc_seq | apply sc_nseq) <;> (intro hb; try exact dd hb)
      | apply sc_not | apply sc_or | (apply sc_i <;> intro hb)
      | (apply bx_i; intro hbd) | (apply gt_i; assumption; exact rfl)
      | (apply cx_is; first | exact hV) | (apply cx_do (i := 0) rfl; first | exact hV)
      | (apply ab_i; intro bl) | (apply as_i; intro va vk vc hva) | (apply av_i; intro v) | (apply ac_i; intro bl cap hcap)
      | apply bo_l | (apply nx_i <;> intro hnx) | (apply Ia.hit; assumption) | (apply Ia.miss; assumption)
      | (apply rt_is; exact rfl) | exact rt_w | (apply iv; assumption)
      | apply dw_q mixed hC hGL (by kernel_rfl) | (apply cq; assumption; (first | exact hV); exact rfl))
  all_goals (try conv => whnf)
  apply cd_scope hC hGL
  repeat' (first
    | (conv => whnf); first
      | refine .w ?_ | refine .v ?_ | apply sc_true | apply sc_false
      | (first | apply sc_lt | apply sc_nlt | apply sc_eq | apply sc_neq | apply sc_nil | apply sc_nnil | apply sc_seq | apply sc_nseq) <;> (intro hb; try exact dd hb)
      | apply sc_not | apply sc_or | (apply sc_i <;> intro hb)
      | (apply bx_i; intro hbd) | (apply gt_i; assumption; exact rfl)
      | (apply cx_is; first | exact hV) | (apply cx_do (i := 0) rfl; first | exact hV)
      | (apply ab_i; intro bl) | (apply as_i; intro va vk vc hva) | (apply av_i; intro v) | (apply ac_i; intro bl cap hcap)
      | apply bo_l | (apply nx_i <;> intro hnx) | (apply Ia.hit; assumption) | (apply Ia.miss; assumption)
      | (apply rt_is; exact rfl) | exact rt_w | (apply iv; assumption)
      | apply dw_q mixed hC hGL (by kernel_rfl) | (apply cq; assumption; (first | exact hV); exact rfl))
  all_goals (try conv => whnf)
  obtain ⟨e, he, e1, e2, e3, e4⟩ := enc_hi h1 hv
  refine op1_run hC hGL (rv_istr rfl rfl rfl rfl) rfl rfl ?_
  rw [he]
  repeat' (first
    | (conv => whnf); first
      | refine .w ?_ | refine .v ?_ | apply sc_true | apply sc_false
      | (first | apply sc_lt | apply sc_nlt | apply sc_eq | apply sc_neq | apply sc_nil | apply sc_nnil | apply sc_seq | apply sc_nseq) <;> (intro hb; try exact dd hb)
      | apply sc_not | apply sc_or | (apply sc_i <;> intro hb)
      | (apply bx_i; intro hbd) | (apply gt_i; assumption; exact rfl)
      | (apply cx_is; first | exact hV) | (apply cx_do (i := 0) rfl; first | exact hV)
      | (apply ab_i; intro bl) | (apply as_i; intro va vk vc hva) | (apply av_i; intro v) | (apply ac_i; intro bl cap hcap)
      | apply bo_l | (apply nx_i <;> intro hnx) | (apply Ia.hit; assumption) | (apply Ia.miss; assumption)
      | (apply rt_is; exact rfl) | exact rt_w | (apply iv; assumption)
      | apply dw_q mixed hC hGL (by kernel_rfl) | (apply cq; assumption; (first | exact hV); exact rfl))
  all_goals (try conv => whnf)
  refine rds hC hGL 1 ?_
  have hix : ∀ c : Int, 0 ≤ c → c ≤ 255 → FnIs Tryz.prog G 34 [.str [], .int .u8 c] (.int .i64 (-1)) := fun c h0 h1 => strings_IndexByte [] c h0 h1
  repeat' (first
    | (conv => whnf); first
      | refine .w ?_ | refine .v ?_ | apply sc_true | apply sc_false
      | (first | apply sc_lt | apply sc_nlt | apply sc_eq | apply sc_neq | apply sc_nil | apply sc_nnil | apply sc_seq | apply sc_nseq) <;> (intro hb; try exact dd hb)
      | apply sc_not | apply sc_or | (apply sc_i <;> intro hb)
      | (apply bx_i; intro hbd) | (apply gt_i; assumption; exact rfl)
      | (apply cx_is; first | exact hV | exact hix _ (by omega) (by omega)) | (apply cx_do (i := 0) rfl; first | exact hV | exact hix _ (by omega) (by omega))
      | (apply ab_i; intro bl) | (apply as_i; intro va vk vc hva) | (apply av_i; intro v) | (apply ac_i; intro bl cap hcap)
      | apply bo_l | (apply nx_i <;> intro hnx) | (apply Ia.hit; assumption) | (apply Ia.miss; assumption)
      | (apply rt_is; exact rfl) | exact rt_w | (apply iv; assumption)
      | apply dw_q mixed hC hGL (by kernel_rfl) | (apply cq; assumption; (first | exact hV | exact hix _ (by omega) (by omega)); exact rfl))
  all_goals (try conv => whnf)
  have hl2 : e.length = 2 := by simp only [List.length_cons, List.length_nil] at hb; omega
  have ht1 : ((e.length : Int) - 1).toNat = 1 := by omega
  have ht2 : ((e.length : Int) - 1 + 1).toNat = 2 := by omega
  have hcall := Tryz.call34
  have hix2 : ∀ c : Int, 0 ≤ c → c ≤ 255 → FnIs Tryz.prog G 34 [.str (List.drop ((e.length : Int) - 1 + 1).toNat [a, b]), .int .u8 c] (.int .i64 (-1)) := by rw [ht2]; exact hix
  have h10 : byteAt [a, b] ((e.length : Int) - 1).toNat = b.toNat := by rw [ht1]; exact two1
  have h128 : 128 ≤ byteAt e ((e.length : Int) - 1).toNat := by rw [ht1]; exact e3
  apply cd_scope hC hGL
  repeat' (first
    | (conv => whnf); first
      | refine .w ?_ | refine .v ?_ | apply sc_true | apply sc_false
      | (first | apply sc_lt | apply sc_nlt | apply sc_eq | apply sc_neq | apply sc_nil | apply sc_nnil | apply sc_seq | apply sc_nseq) <;> (intro hb; try exact dd hb)
      | apply sc_not | apply sc_or | (apply sc_i <;> intro hb)
      | (apply bx_i; intro hbd) | (apply gt_i; assumption; exact rfl)
      | (apply cx_is; first | exact hV | exact hix2 _ (by omega) (by omega)) | (apply cx_do (i := 0) rfl; first | exact hV | exact hix2 _ (by omega) (by omega))
      | (apply ab_i; intro bl) | (apply as_i; intro va vk vc hva) | (apply av_i; intro v) | (apply ac_i; intro bl cap hcap)
      | apply bo_l | (apply nx_i <;> intro hnx) | (apply Ia.hit; assumption) | (apply Ia.miss; assumption)
      | (apply rt_is; exact rfl) | exact rt_w | (apply iv; assumption)
      | apply dw_q mixed hC hGL (by kernel_rfl) | (apply cq; assumption; (first | exact hV | exact hix2 _ (by omega) (by omega)); exact rfl))
  all_goals (try conv => whnf)
/-- .. at the replacement rune. -/
theorem indexRune_rep {G : Glo} {a b : UInt8} (ha : a.toNat < 128) (hb' : b.toNat < 128) : FnIs Tryz.prog G 78 [.str [a, b], .int .i32 65533] (.int .i64 (-1)) := by
  have hGL : GloAll G [] := gloAll_nil
  refine fn_x Tryz.func78 Tryz.call78 rfl rfl rfl rfl hGL ?_
  intro C hC
  repeat' (first
    | (conv => whnf); first
      | refine .w ?_ | refine .v ?_ | apply sc_true | apply sc_false
      | (first | apply sc_lt | apply sc_nlt | apply sc_eq | apply sc_neq | apply sc_nil | apply sc_nnil | apply sc_seq | apply sc_nseq) <;> (intro hb; try exact dd hb)
      | apply sc_not | apply sc_or | (apply sc_i <;> intro hb)
      | (apply bx_i; intro hbd) | (apply gt_i; assumption; exact rfl)
      | (apply cx_is; first | fail) | (apply cx_do (i := 0) rfl; first | fail)
      | (apply ab_i; intro bl) | (apply as_i; intro va vk vc hva) | (apply av_i; intro v) | (apply ac_i; intro bl cap hcap)
      | apply bo_l | (apply nx_i <;> intro hnx) | (apply Ia.hit; assumption) | (apply Ia.miss; assumption)
      | (apply rt_is; exact rfl) | exact rt_w | (apply iv; assumption)
      | apply dw_q mixed hC hGL (by kernel_rfl) | (apply cq; assumption; (first | fail); exact rfl))
  all_goals (try conv => whnf)
  refine rds hC hGL 3 ?_
  repeat' (first
    | (conv => whnf); first
      | refine .w ?_ | refine .v ?_ | apply sc_true | apply sc_false
      | (first | apply sc_lt | apply sc_nlt | apply sc_eq | apply sc_neq | apply sc_nil | apply sc_nnil | apply sc_seq | apply sc_nseq) <;> (intro hb; try exact dd hb)
      | apply sc_not | apply sc_or | (apply sc_i <;> intro hb)
      | (apply bx_i; intro hbd) | (apply gt_i; assumption; exact rfl)
      | (apply cx_is; first | fail) | (apply cx_do (i := 0) rfl; first | fail)
      | (apply ab_i; intro bl) | (apply as_i; intro va vk vc hva) | (apply av_i; intro v) | (apply ac_i; intro bl cap hcap)
      | apply bo_l | (apply nx_i <;> intro hnx) | (apply Ia.hit; assumption) | (apply Ia.miss; assumption)
      | (apply rt_is; exact rfl) | exact rt_w | (apply iv; assumption)
      | apply dw_q mixed hC hGL (by kernel_rfl) | (apply cq; assumption; (first | fail); exact rfl))
  all_goals (try conv => whnf)
  all_goals (
    exfalso
    obtain ⟨f1, f2, f3, f4⟩ := two_a ha hb'
    simp only [List.drop_zero, f1, f2, Nat.zero_add, List.drop_succ_cons, f3, f4, List.length_cons, List.length_nil] at *
    omega)
theorem indexRune_lo {G : Glo} {a b : UInt8} (r : Int) (h0 : 0 ≤ r) (h1 : r < 128) : FnIs Tryz.prog G 78 [.str [a, b], .int .i32 r] (.int .i64 (idxB [a, b] r)) := by
  have hGL : GloAll G [] := gloAll_nil
  refine fn_x Tryz.func78 Tryz.call78 rfl rfl rfl rfl hGL ?_
  intro C hC
  have hI := strings_IndexByte (G := G) [a, b] r h0 (by omega)
  repeat' (first
    | (conv => whnf); first
      | refine .w ?_ | refine .v ?_ | apply sc_true | apply sc_false
      | (first | apply sc_lt | apply sc_nlt | apply sc_eq | apply sc_neq | apply sc_nil | apply sc_nnil | apply sc_seq | apply sc_nseq) <;> (intro hb; try exact dd hb)
      | apply sc_not | apply sc_or | (apply sc_i <;> intro hb)
      | (apply bx_i; intro hbd) | (apply gt_i; assumption; exact rfl)
      | (apply cx_is; first | exact hI) | (apply cx_do (i := 0) rfl; first | exact hI)
      | (apply ab_i; intro bl) | (apply as_i; intro va vk vc hva) | (apply av_i; intro v) | (apply ac_i; intro bl cap hcap)
      | apply bo_l | (apply nx_i <;> intro hnx) | (apply Ia.hit; assumption) | (apply Ia.miss; assumption)
      | (apply rt_is; exact rfl) | exact rt_w | (apply iv; assumption)
      | apply dw_q mixed hC hGL (by kernel_rfl) | (apply cq; assumption; (first | exact hI); exact rfl))
  all_goals (try conv => whnf)
end Go.Proofs.YtidcpikoeohfbaaGreatDoor
namespace Go.Proofs.YtidcpikoeohfbaaGreatDoor
open Go Go.RowKit
/-- The bytes of a first rune. -/
theorem nextS_bytes (t : List UInt8) (h : (nextS t).2 ≠ 0) : ((nextS t).1 < 128 → (nextS t).2 = 1 ∧ byteAt t 0 = (nextS t).1) ∧ (128 ≤ (nextS t).1 → ∀ j, j < (nextS t).2 → 128 ≤ byteAt t j) ∧ mayZ (nextS t).1 = true := by
  have hb := byteAt_lt t 0
  rw [mayZ_t]
  revert h
  unfold nextS
  repeat' split
  all_goals (intro h; try (exact absurd rfl h))
  all_goals (simp only [contAt, mayN, Bool.and_eq_true, Bool.or_eq_true, decide_eq_true_eq, beq_iff_eq] at *)
  · refine ⟨fun _ => by simp, fun h => by omega, by omega⟩
  · refine ⟨fun h => by omega, fun _ j hj => ?_, by omega⟩
    obtain rfl | rfl : j = 0 ∨ j = 1 := by omega
    all_goals omega
  · refine ⟨fun h => by omega, fun _ j hj => ?_, by omega⟩
    obtain rfl | rfl | rfl : j = 0 ∨ j = 1 ∨ j = 2 := by omega
    all_goals omega
  · refine ⟨fun h => by omega, fun _ j hj => ?_, by omega⟩
    obtain rfl | rfl | rfl | rfl : j = 0 ∨ j = 1 ∨ j = 2 ∨ j = 3 := by omega
    all_goals omega
/-- The byte at which no rune begins. -/
theorem nextS_none (t : List UInt8) (h : (nextS t).2 = 0) (h0 : t.length ≠ 0) : 128 ≤ byteAt t 0 := by
  rcases Nat.lt_or_ge (byteAt t 0) 128 with h1 | h1
  · exfalso
    revert h
    unfold nextS
    rw [if_neg h0, if_pos h1]
    simp
  · exact h1
theorem two_has {a b : UInt8} (x : UInt8) : ([a, b] : List UInt8).contains x = true ↔ (x.toNat = a.toNat ∨ x.toNat = b.toNat) := by
  simp only [List.contains_cons, List.contains_nil, Bool.or_false, Bool.or_eq_true, beq_iff_eq]
  exact ⟨fun h => h.imp (fun h => by rw [h]) (fun h => by rw [h]), fun h => h.imp UInt8.toNat_inj.1 UInt8.toNat_inj.1⟩
theorem two_not {a b : UInt8} {x : UInt8} (h : x.toNat ≠ a.toNat ∧ x.toNat ≠ b.toNat) : ([a, b] : List UInt8).contains x = false := by
  cases hc : ([a, b] : List UInt8).contains x with
  | false => rfl
  | true => rcases (two_has x).1 hc with h1 | h1; exact absurd h1 h.1; exact absurd h1 h.2
theorem get_of_byteAt {s : List UInt8} {i : Nat} {x : UInt8} (h : s[i]? = some x) : x.toNat = byteAt s i := by simp [byteAt, List.getD, h]
set_option maxRecDepth 20000
set_option maxHeartbeats 4000000
set_option linter.unusedSimpArgs false
set_option linter.unusedVariables false
attribute [local irreducible] AWp AOps byteAt SrcOK OrOk GloAll FnSpec
attribute [local irreducible] nextS badI badS stepS rngR ownB mayZ
theorem should_set {G : Glo} (n : Int) : FnIs Tryz.prog G 79 [.int .i64 n] (.bool (ltB 8 n)) := by
  have hGL : GloAll G [] := gloAll_nil
  refine fn_x Tryz.func79 Tryz.call79 rfl rfl rfl rfl hGL ?_
  intro C hC
  repeat' (first
    | (conv => whnf); first
      | refine .w ?_ | refine .v ?_ | apply sc_true | apply sc_false
      | (first | apply sc_lt | apply sc_nlt | apply sc_eq | apply sc_neq | apply sc_nil | apply sc_nnil | apply sc_seq | apply sc_nseq) <;> (intro hb; try exact dd hb)
      | apply sc_not | apply sc_or | (apply sc_i <;> intro hb)
      | (apply bx_i; intro hbd) | (apply gt_i; assumption; exact rfl)
      | (apply cx_is; first | fail) | (apply cx_do (i := 0) rfl; first | fail)
      | (apply ab_i; intro bl) | (apply as_i; intro va vk vc hva) | (apply av_i; intro v) | (apply ac_i; intro bl cap hcap)
      | apply bo_l | (apply nx_i <;> intro hnx) | (apply Ia.hit; assumption) | (apply Ia.miss; assumption)
      | (apply rt_is; exact rfl) | exact rt_w | (apply iv; assumption)
      | apply dw_q mixed hC hGL (by kernel_rfl) | (apply cq; assumption; (first | fail); exact rfl))
  all_goals (try conv => whnf)
theorem idx_two {a b : UInt8} (r : Int) : (0 ≤ idxB [a, b] r ↔ r = a.toNat ∨ r = b.toNat) := by
  unfold idxB
  simp only [idxF]
  split
  · omega
  · split <;> omega
theorem indexRune_any {G : Glo} {a b : UInt8} (ha : a.toNat < 128) (hb' : b.toNat < 128) (r : Int) (hv : mayZ r = true) : ∃ z : Int, FnIs Tryz.prog G 78 [.str [a, b], .int .i32 r] (.int .i64 z) ∧ (0 ≤ z ↔ r = a.toNat ∨ r = b.toNat) := by
  have hm := hv
  rw [mayZ_t] at hm
  by_cases h1 : r < 128
  · exact ⟨_, indexRune_lo r hm.1 h1, idx_two r⟩
  · by_cases h2 : r = 65533
    · subst h2; exact ⟨-1, indexRune_rep ha hb', by omega⟩
    · exact ⟨-1, indexRune_hi ha hb' r (by omega) hv h2, by omega⟩
/-- What a round over a text takes. -/
theorem rng_round (t : List UInt8) (h0 : t.length ≠ 0) : mayZ (rngR t : Int) = true ∧ 0 < stepS t ∧ stepS t ≤ t.length ∧ ((rngR t : Int) < 128 → stepS t = 1 ∧ (byteAt t 0 : Int) = rngR t) ∧ (128 ≤ (rngR t : Int) → ∀ j, j < stepS t → 128 ≤ byteAt t j) := by
  have hle := nextS_le t
  by_cases hn : (nextS t).2 = 0
  · have h1 := nextS_none t hn h0
    unfold rngR stepS
    rw [if_pos hn, if_pos hn]
    refine ⟨by rw [mayZ_t]; omega, by omega, by omega, fun h => by omega, fun _ j hj => by rw [show j = 0 by omega]; exact h1⟩
  · have h1 := nextS_bytes t hn
    unfold rngR stepS
    rw [if_neg hn, if_neg hn]
    refine ⟨h1.2.2, by omega, hle.1, fun h => ?_, fun h => h1.2.1 (by omega)⟩
    have := h1.1 (by omega)
    omega
theorem indexAny_short {G : Glo} {a b : UInt8} (ha : a.toNat < 128) (hb' : b.toNat < 128) (s : List UInt8) (hl : s.length ≤ 8) : FnIs Tryz.prog G 51 [.str s, .str [a, b]] (.int .i64 (Lib.indexAny s [a, b])) := by
  have hGL : GloAll G [] := gloAll_nil
  refine fn_x Tryz.func51 Tryz.call51 rfl rfl rfl rfl hGL ?_
  intro C hC
  have hS := should_set (G := G) s.length
  have hlen2 : ([a, b] : List UInt8).length = 2 := rfl
  repeat' (first
    | (conv => whnf); first
      | refine .w ?_ | refine .v ?_ | apply sc_true | apply sc_false
      | (first | apply sc_lt | apply sc_nlt | apply sc_eq | apply sc_neq | apply sc_nil | apply sc_nnil | apply sc_seq | apply sc_nseq) <;> (intro hb; try exact dd hb)
      | apply sc_not | apply sc_or | (apply sc_i <;> intro hb)
      | (apply bx_i; intro hbd) | (apply gt_i; assumption; exact rfl)
      | (apply cx_is; first | exact hS) | (apply cx_do (i := 0) rfl; first | exact hS)
      | (apply ab_i; intro bl) | (apply as_i; intro va vk vc hva) | (apply av_i; intro v) | (apply ac_i; intro bl cap hcap)
      | apply bo_l | (apply nx_i <;> intro hnx) | (apply Ia.hit; assumption) | (apply Ia.miss; assumption)
      | (apply rt_is; exact rfl) | exact rt_w | (apply iv; assumption)
      | apply dw_q mixed hC hGL (by kernel_rfl) | (apply cq; assumption; (first | exact hS); exact rfl))
  all_goals (try conv => whnf)
  refine lp hC hGL (fun (i : Nat) => [(1, .str [a, b]), (45, .own 0 (.pointer (some ⟨bl, 0, none⟩)))]) (fun i => [.iter bl s i]) (fun i => i ≤ s.length ∧ Lib.NoAny s [a, b] i) (fun i => s.length - i) 0 ?_ env_w rfl ?_
  · exact ⟨Nat.zero_le _, Lib.NoAny.zero _ _⟩
  rintro i ⟨hi, hno⟩
  have hz := fun (h : i < s.length) => rng_round (s.drop i) (by rw [List.length_drop]; omega)
  have hR : ∃ z : Int, i < s.length → FnIs Tryz.prog G 78 [.str [a, b], .int .i32 (rngR (s.drop i))] (.int .i64 z) ∧ (0 ≤ z ↔ (rngR (s.drop i) : Int) = a.toNat ∨ (rngR (s.drop i) : Int) = b.toNat) := by
    by_cases h : i < s.length
    · obtain ⟨z, h1, h2⟩ := indexRune_any (G := G) ha hb' (rngR (s.drop i)) (hz h).1
      exact ⟨z, fun _ => ⟨h1, h2⟩⟩
    · exact ⟨0, fun h' => absurd h' h⟩
  obtain ⟨z, hR⟩ := hR
  repeat' (first
    | (conv => whnf); first
      | refine .w ?_ | refine .v ?_ | apply sc_true | apply sc_false
      | (first | apply sc_lt | apply sc_nlt | apply sc_eq | apply sc_neq | apply sc_nil | apply sc_nnil | apply sc_seq | apply sc_nseq) <;> (intro hb; try exact dd hb)
      | apply sc_not | apply sc_or | (apply sc_i <;> intro hb)
      | (apply bx_i; intro hbd) | (apply gt_i; assumption; exact rfl)
      | (apply cx_is; first | exact (hR (by omega)).1) | (apply cx_do (i := 0) rfl; first | exact (hR (by omega)).1)
      | (apply ab_i; intro bl) | (apply as_i; intro va vk vc hva) | (apply av_i; intro v) | (apply ac_i; intro bl cap hcap)
      | apply bo_l | (apply nx_i <;> intro hnx) | (apply Ia.hit; assumption) | (apply Ia.miss; assumption)
      | (apply rt_is; exact rfl) | exact rt_w | (apply iv; assumption)
      | apply dw_q mixed hC hGL (by kernel_rfl) | (apply cq; assumption; (first | exact (hR (by omega)).1); exact rfl))
  all_goals (try conv => whnf)
  · obtain ⟨z1, z2, z3, z4, z5⟩ := hz hnx
    have hr := (hR hnx).2.1 hb
    have h1 := z4 (by omega)
    have hx : s[i]? = some s[i] := List.getElem?_eq_getElem hnx
    have h2 := get_of_byteAt hx
    rw [drop_byteAt, Nat.add_zero] at h1
    refine rt_is ?_
    rw [Lib.indexAny_hit hno hx ((two_has _).2 (by omega))]
  · obtain ⟨z1, z2, z3, z4, z5⟩ := hz hnx
    rw [List.length_drop] at z3
    have hr : ¬ ((rngR (s.drop i) : Int) = a.toNat ∨ (rngR (s.drop i) : Int) = b.toNat) := fun h => by have := (hR hnx).2.2 h; omega
    refine nxt (i + stepS (s.drop i)) ⟨by omega, ?_⟩ (by omega) ⟨rfl, rfl, trivial⟩ rfl
    intro j x hj hx
    by_cases h : j < i
    · exact hno j x h hx
    · have h2 := get_of_byteAt hx
      apply two_not
      by_cases h128 : (rngR (s.drop i) : Int) < 128
      · have h3 := z4 h128
        rw [drop_byteAt, Nat.add_zero] at h3
        have : j = i := by omega
        subst this
        omega
      · have h3 := z5 (by omega) (j - i) (by omega)
        rw [drop_byteAt, show i + (j - i) = j by omega] at h3
        omega
  · have : i = s.length := by omega
    subst this
    refine rt_is ?_
    rw [Lib.indexAny_none hno]
    rfl
theorem indexAny_long {G : Glo} {a b : UInt8} (ha : a.toNat < 128) (hb' : b.toNat < 128) (s : List UInt8) (h8 : 8 < s.length) (hl : s.length < 100000) : FnIs Tryz.prog G 51 [.str s, .str [a, b]] (.int .i64 (Lib.indexAny s [a, b])) := by
  refine fnis_of_calls rfl Tryz.call51 ?_
  rintro R args ⟨x, t, e, hx, y, t', e', hy, rfl⟩ w _ _
  obtain rfl := rel_str.1 hx
  obtain rfl := rel_str.1 hy
  subst e'
  obtain rfl := arr_of e
  refine (Tryz.strings_IndexAny_long (fun w => by kernel_rfl) ⟨s.toArray⟩ ⟨#[a, b]⟩ w (by show 2 ≤ 2; omega) (by rw [str_size]; exact h8) (by rw [str_size]; omega) (by show 2 < 4294967281; omega) ?_).mono ?_
  · intro j x hx
    match j with
    | 0 => cases hx; exact ha
    | 1 => cases hx; exact hb'
    | j + 2 => simp at hx
  · rintro e w' ⟨rfl, rfl⟩
    exact ⟨rfl, ((Below.refl w.heap.size w).alloc (Nat.le_refl _) _).alloc (by show w.heap.size ≤ (w.heap.push _).size; simp) _⟩
theorem indexAny_two {G : Glo} {a b : UInt8} (ha : a.toNat < 128) (hb' : b.toNat < 128) (s : List UInt8) (hl : s.length < 100000) : FnIs Tryz.prog G 51 [.str s, .str [a, b]] (.int .i64 (Lib.indexAny s [a, b])) := by
  by_cases h : s.length ≤ 8
  · exact indexAny_short ha hb' s h
  · exact indexAny_long ha hb' s (by omega) hl
end Go.Proofs.YtidcpikoeohfbaaGreatDoor
namespace Go.Proofs.YtidcpikoeohfbaaGreatDoor
open Go Go.RowKit
set_option maxRecDepth 20000
set_option maxHeartbeats 4000000
set_option linter.unusedSimpArgs false
set_option linter.unusedVariables false
attribute [local irreducible] AWp AOps byteAt SrcOK OrOk GloAll FnSpec
theorem has_prefix {G : Glo} (s p : List UInt8) : FnIs Tryz.prog G 39 [.str s, .str p] (.bool (p.isPrefixOf s)) := by
  refine fnis_of_calls rfl Tryz.call39 ?_
  rintro R args ⟨x, t, e, hx, y, t', e', hy, rfl⟩ w hG hs
  obtain rfl := rel_str.1 hx
  obtain rfl := rel_str.1 hy
  subst e'
  obtain rfl := arr_of e
  refine (Tryz.strings_HasPrefix ⟨s.toArray⟩ ⟨p.toArray⟩ w).mono ?_
  rintro e w' ⟨rfl, rfl⟩
  exact ⟨by simp [Lib.hasPrefix, AVal.conc], Below.refl _ _⟩
end Go.Proofs.YtidcpikoeohfbaaGreatDoor
