/- Parts of the proof of pickAlls_card: Exd, Wk, Tell, Telb, Plc, Nm, Zon, Whp, Ext, Namr, Uri, Mx0, Spl, Spm, Lan, Esn, Tja, Hda, Vla, Itm, Geo, Deg, Rnd, Rua, Deh, Slc, Ruf, Ruj. -/
import Derived.OrdersHeld
import Derived.Stop.Asserts
import Derived.Lib.ItoaNum
import Derived.Lib.Split
import Derived.Lib.Builder
import Derived.Lib.UnsafeStr
import Derived.Scope
import Derived.Lib.IndexAny
import Derived.Defers
import Derived.Recover
import Derived.RangeFuncRecord
import Derived.RangeFuncSeq
import Derived.OrdersIn
import Derived.LoopNIn
import Derived.Lib.Fields
import Derived.Lib.LaidTab
import Derived.Test.YtcoidjllehieeaaGreatDoorBad
set_option linter.unusedVariables false
set_option linter.unusedSimpArgs false
namespace Go.Proofs.YtcoidjllehieeaaGreatDoor
open Go
set_option linter.unusedSimpArgs false
set_option linter.unusedSectionVars false
set_option linter.unusedVariables false
/-- Which operation comes up next: one that may be taken first, or any of several. -/
inductive DPlan
  | done
  | take (i : Nat) (p : DPlan)
  | br (i : Nat) (p q : DPlan)
  | nil
def planB (ops : Array Oper) : DPlan → Nat → Array Bool → List Nat → Bool
  | .done, _, l, acc => acc.isEmpty && (Region.ready .any ops l).isEmpty
  | .take _ _, 0, _, _ => false
  | .take i p, k + 1, l, acc => acc.isEmpty && (Region.free .any ops l i && ((Region.ready .any ops l).contains i && planB ops p k (l.setIfInBounds i true) []))
  | .br _ _ _, 0, _, _ => false
  | .br i p q, k + 1, l, acc => planB ops p k (l.setIfInBounds i true) [] && planB ops q (k + 1) l (acc ++ [i])
  | .nil, _, l, acc => !acc.isEmpty && decide (Region.ready .any ops l = acc)
structure Both (a b : Prop) : Prop where
  l : a
  r : b
theorem bt_i {a b : Prop} (h : a) (k : b) : Both a b := ⟨h, k⟩
/-- Nothing serves here. -/
inductive Stk (ops : Array Oper) (i : Nat) (env : Env) (H : Heap) : Prop
/-- An operation's end: what stood stands. -/
inductive Og (kf : Bool) (H h : Heap) (k : Prop) : Prop
  | all (X : Heap) (e : h = H ++ X) (h : k)
  | none (e : kf = false) (h : k)
theorem og_n {H h : Heap} {k : Prop} (hk : k) : Og false H h k := .none rfl hk
theorem og_a {H h : Heap} {k : Prop} (X : Heap) (e : h = H ++ X) (hk : k) : Og true H h k := .all X e hk
/-- The end of a region. -/
inductive Fie {X : Type} (I : X → Env) (J : X → Heap) (e : Env) (h : Heap) : Prop
  | mk (x : X) (hs : Env.sub e (I x)) (hj : h = J x)
/-- The same, where more may be left. -/
inductive Fis {X : Type} (I : X → Env) (J : X → Heap) (e : Env) (h : Heap) : Prop
  | mk (x : X) (hs : Env.sub e (I x)) (hj : (J x).Sublist h)
section
/-- Whatever the call began with. -/
structure Bc (G : Glo) (k : Ctx → Prop) : Prop where
  h : ∀ C : Ctx, C.G = G → k C
theorem bc_i {G : Glo} {k : Ctx → Prop} (h : ∀ C : Ctx, C.G = G → k C) : Bc G k := ⟨h⟩
variable (P : Program) [Tab P] (n : Nat) (G : Glo) (GL : List (Nat × List AVal))
def hk (kf : Bool) (H : Heap) : Heap := match kf with
  | true => H
  | false => []
def takeX (kf : Bool) (ops : Array Oper) (i : Nat) (ih : Env → Heap → Prop) (env : Env) (H : Heap) : Prop :=
  match ops[i]? with
  | some o => guardX ops env o.guard (Stk ops i env H)
    (fun env' => match o.dst with
      | some d => match Nat.ble (d + 1) n with
        | true => fixX P GL (hk kf H) env' o.op (Stk ops i env' H) fun av => ih ((d, av) :: env') H
        | false => Stk ops i env' H
      | none => Stk ops i env' H)
    (fun env' => match o.dst with
      | some d => match Nat.ble (d + 1) n with
        | true => ih ((d, .raw undef) :: env') H
        | false => Stk ops i env' H
      | none => ih env' H)
  | none => Stk ops i env H
/-- What a panic leaves: where slots are to be kept, they too. -/
@[reducible] def KE (E : Env) (K : Prop) (e : Env) : Prop := match E with
  | [] => K
  | _ :: _ => K ∧ Env.sub e E
theorem ke_k {E : Env} {K : Prop} {e : Env} (h : KE E K e) : K := by
  cases E with
  | nil => exact h
  | cons x l => exact h.1
theorem ke_sub {E : Env} {K : Prop} {e : Env} (h : KE E K e) : Env.sub e E := by
  cases E with
  | nil => trivial
  | cons x l => exact h.2
def dstFree (ops : Array Oper) (E : Env) : Bool := ops.toList.all fun o => match o.dst with
  | some d => (Env.get E d).isNone
  | none => true
def brX (E : Env) (Kp : AVal → Heap → Prop) (kf : Bool) (ops : Array Oper) (i : Nat) (ih : Env → Heap → Prop) (env : Env) (H : Heap) : Prop :=
  match ops[i]? with
  | some o => Bc G fun C => opsX P C n G GL ops (fun x e h => match x with
    | .normal => Og kf H h (ih e h)
    | .panic v => KE E (Kp v h) e
    | _ => False) [o] env H
  | none => Stk ops i env H
noncomputable def dpX (E : Env) (Kp : AVal → Heap → Prop) (kf : Bool) (ops : Array Oper) (Q : Env → Heap → Prop) (p : DPlan) : Env → Heap → Prop :=
  DPlan.rec (motive := fun _ => Env → Heap → Prop) Q (fun i _ ih => takeX P n GL kf ops i ih) (fun i _ _ ihp ihq env H => Both (brX P n G GL E Kp kf ops i ihp env H) (ihq env H)) (fun _ _ => True) p
end
theorem wpAnyH_S {P : Program} {ops : Array Oper} {Q : Exit → Act → World → Prop} {md : Region.Mode} {S S' : World → Prop} (h : ∀ w, S' w → S w) : ∀ (fuel : Nat) (listed : Array Bool) (a : Act) (w : World), wpAnyH P md ops Q S' fuel listed a w → wpAnyH P md ops Q S fuel listed a w
  | 0, _, _, _, k => k
  | fuel + 1, _, _, _, k => ⟨k.1, fun i hi => wpOp_mono (fun a' w' k' => ⟨h _ k'.1, wpAnyH_S h fuel _ a' w' k'.2⟩) (k.2 i hi)⟩
def reCtx (C : Ctx) (R : Seal) (hR : C.R0.le R) : Ctx := ⟨C.w0, R, C.B0, C.G, C.G.mono _ _ hR C.hG, C.D⟩
theorem MS.re {C : Ctx} {R : Seal} {H : Heap} {w : World} (h : MS C R H w) : MS (reCtx C R h.ge) R H w :=
  ⟨h.sealed, Seal.le_refl R, fun b hb => .inl hb, h.heap, h.own, h.ext⟩
theorem MS.back {C : Ctx} {R R' : Seal} {H H' : Heap} {w w' : World} (h : MS C R H w) (k : MS (reCtx C R h.ge) R' H' w') : MS C R' H' w' :=
  ⟨k.sealed, Seal.le_trans h.ge k.ge, fun b hb => (k.fresh b hb).elim (h.fresh b) .inr, k.heap, k.own, k.ext⟩
section
variable {P : Program} [Tab P] {n : Nat} {env : Env} {H : Heap} {ops : Array Oper} {G : Glo} {GL : List (Nat × List AVal)} {kf : Bool}
/-- What is asked of the world through a region. -/
def DS (C : Ctx) (kf : Bool) (R : Seal) (H : Heap) (w : World) : Prop := ∃ R' X, R.le R' ∧ MS C R' (hk kf H ++ X) w
theorem ds_of {C : Ctx} {R : Seal} {w : World} (h : MS C R H w) : DS C kf R H w := by
  cases kf with
  | true => exact ⟨R, [], Seal.le_refl R, by simpa [hk] using h⟩
  | false => exact ⟨R, H, Seal.le_refl R, by simpa [hk] using h⟩
def QN (E : Env) (Q : Env → Heap → Prop) (Kp : AVal → Heap → Prop) : AExit → Env → Heap → Prop
  | .normal, e, h => Q e h
  | .panic v, e, h => e = E ∧ Kp v h
  | _, _, _ => False
theorem qn_put {E : Env} {C : Ctx} {Q : Env → Heap → Prop} {Kp : AVal → Heap → Prop} {c : List PanicEntry} {a : Act} {w : World} {d : Option Nat} {v : Value} (hd : ∀ k, d = some k → Env.get E k = none) (hp : Post C n (QN E Q Kp) (.panic c) (a.put d v) w) : Post C n (QN E Q Kp) (.panic c) a w := by
  obtain ⟨x, e, h, R, hq, hr, hm, hf⟩ := hp
  cases x with
  | panic y =>
    obtain ⟨rfl, hk⟩ := hq
    refine ⟨.panic y, _, h, R, ⟨rfl, hk⟩, hr, hm, ⟨fun k u hk => ?_, ?_, ?_⟩⟩
    · obtain ⟨y, hy, hr⟩ := hf.fr k u hk
      refine ⟨y, ?_, hr⟩
      cases d with
      | none => exact hy
      | some d =>
        have hkd : d ≠ k := fun e => by have := hd d rfl; rw [e, hk] at this; cases this
        simpa [Act.put, Array.getElem?_setIfInBounds, hkd] using hy
    · have := hf.size
      cases d with
      | none => exact this
      | some d => simpa [Act.put] using this
    · have := hf.defers
      cases d with
      | none => exact this
      | some d => exact this
  | normal => exact absurd (show Exit.panic c = .normal from hr) (by simp)
  | exit i => exact hq.elim
  | goto i => exact hq.elim
  | ret => exact hq.elim
theorem dst_free {E : Env} (h : dstFree ops E = true) {i : Nat} {o : Oper} (hi : ops[i]? = some o) : ∀ k, o.dst = some k → Env.get E k = none := fun k hk => by
  unfold dstFree at h
  have := List.all_eq_true.1 h o (Array.mem_toList_iff.2 (Array.mem_of_getElem? hi))
  rw [hk] at this
  exact Option.isNone_iff_eq_none.1 this
theorem dst_nil : dstFree ops [] = true := by
  unfold dstFree
  rw [List.all_eq_true]
  intro o _
  cases o.dst <;> rfl
def DA (P : Program) (G : Glo) (n : Nat) (ops : Array Oper) (kf : Bool) (E : Env) (Q : Env → Heap → Prop) (Kp : AVal → Heap → Prop) (fuel : Nat) (listed : Array Bool) (env : Env) (H : Heap) : Prop :=
  ∀ C : Ctx, C.G = G → ∀ R a w, MS C R H w → FS C.D n R env a → wpAnyH P .any ops (Post C n (QN E Q Kp)) (DS C kf R H) fuel listed a w
variable {E : Env} {Q : Env → Heap → Prop} {Kp : AVal → Heap → Prop} {fuel : Nat} {listed : Array Bool} {i : Nat} {o : Oper} {av : AVal}
theorem da_yield {env' : Env} {C : Ctx} (hC : C.G = G) {R : Seal} {a : Act} {w : World} (hm : MS C R H w) (hE : dstFree ops E = true) (hns : Region.noSelect ops = true) (hi : ops[i]? = some o) (hf : Region.free .any ops listed i = true) (hr : (Region.ready .any ops listed).contains i = true)
    (hy : ∃ x, YieldsIf P ops (DS C kf R H) o x a ∧ FS C.D n R env' (a.put o.dst x)) (h : DA P G n ops kf E Q Kp fuel (listed.setIfInBounds i true) env' H) : wpAnyH P .any ops (Post C n (QN E Q Kp)) (DS C kf R H) (fuel + 1) listed a w := by
  obtain ⟨x, h1, h2⟩ := hy
  exact wpAnyH_take hi hns hf hr (fun c a w hp => qn_put (dst_free hE hi) hp) h1 (ds_of hm) (h C hC R _ w hm h2)
theorem da_env {env' : Env} (hs : ∀ {D : List Deferred} R a, FS D n R env a → FS D n R env' a) (h : DA P G n ops kf E Q Kp fuel listed env' H) : DA P G n ops kf E Q Kp fuel listed env H := fun C hC R a w hm hf => h C hC R a w hm (hs R a hf)
theorem da_split {b : Bool} {d : Nat} (hv : Env.get env d = some (.bool b))
    (ht : b = true → DA P G n ops kf E Q Kp fuel listed ((d, .bool true) :: env) H) (hf : b = false → DA P G n ops kf E Q Kp fuel listed ((d, .bool false) :: env) H) : DA P G n ops kf E Q Kp fuel listed env H := by
  have key : ∀ x, b = x → ∀ {D : List Deferred} R a, FS D n R env a → FS D n R ((d, .bool x) :: env) a := by
    rintro x rfl D R a hfr
    refine ⟨fun k v hk => ?_, hfr.size, hfr.defers⟩
    simp only [Env.get] at hk
    cases hb : Nat.beq d k with
    | true =>
      rw [hb] at hk
      have := Nat.eq_of_beq_eq_true hb
      subst this
      simp only [Option.some.injEq] at hk
      subst hk
      exact hfr.fr d _ hv
    | false => rw [hb] at hk; exact hfr.fr k v hk
  cases hb : b with
  | true => exact da_env (key true hb) (ht hb)
  | false => exact da_env (key false hb) (hf hb)
theorem guardSlot_unwanted {D : List Deferred} {R : Seal} {a : Act} {e : Nat} (hs : guardSlot ops o.guard = some e) (hv : Env.get env e = some (.raw undef)) (hf : FS D n R env a) : Region.wanted o (yielded ops a.tmps) = false := by
  unfold guardSlot at hs
  unfold Region.wanted
  split at hs
  · rename_i j want h
    rw [h]
    split at hs
    · rename_i o' ho
      obtain ⟨x, hx, hr⟩ := hf.fr e _ hv
      rw [rel_raw.1 hr] at hx
      simp [yielded, ho, hs, hx, undef]
    · cases hs
  · cases hs
theorem take_ok (hE : dstFree ops E = true) (hGL : GloAll G GL) (hns : Region.noSelect ops = true) (hf : Region.free .any ops listed i = true) (hr : (Region.ready .any ops listed).contains i = true) {ih : Env → Heap → Prop}
    (hih : ∀ env H, ih env H → DA P G n ops kf E Q Kp fuel (listed.setIfInBounds i true) env H) (h : takeX P n GL kf ops i ih env H) : DA P G n ops kf E Q Kp (fuel + 1) listed env H := by
  unfold takeX at h
  split at h
  case h_2 => cases h
  rename_i o ho
  have run : ∀ env' b, guardA ops env' o.guard = some (b, b) → (match o.dst with
      | some d => match Nat.ble (d + 1) n with
        | true => fixX P GL (hk kf H) env' o.op (Stk ops i env' H) fun av => ih ((d, av) :: env') H
        | false => Stk ops i env' H
      | none => Stk ops i env' H) → DA P G n ops kf E Q Kp (fuel + 1) listed env' H := by
    intro env' b hg h
    split at h
    · rename_i d hd
      split at h
      · rename_i hdn
        intro C hC R a w hm hfs
        rcases fixX_ok (C := C) (GL := GL) (by rw [hC]; exact hGL) h with h | ⟨av, h1, h2⟩
        · cases h
        · refine da_yield (env' := (d, av) :: env') hC hm hE hns ho hf hr ?_ (hih _ _ h2)
          obtain ⟨x, hx, hrun⟩ := h1 R a.eval (fun x a hx => hfs.eval hx)
          refine ⟨x, .inl ⟨by rw [wanted_of hfs hg]; simp, ?_⟩, by rw [hd]; exact hfs.put hdn hx⟩
          rintro w' ⟨R', X, hle, hms⟩
          exact hrun R' w' hle (hms.drop (List.sublist_append_left _ _)) o.dst o.type o.pos o.after o.guard
      · cases h
    · cases h
  have skip : ∀ env', (∀ {D : List Deferred} R a, FS D n R env' a → Region.wanted o (yielded ops a.tmps) = false) → (match o.dst with
      | some d => match Nat.ble (d + 1) n with
        | true => ih ((d, .raw undef) :: env') H
        | false => Stk ops i env' H
      | none => ih env' H) → DA P G n ops kf E Q Kp (fuel + 1) listed env' H := by
    intro env' hw h
    split at h
    · rename_i d hd
      split at h
      · rename_i hdn
        intro C hC R a w hm hfs
        refine da_yield (env' := (d, .raw undef) :: env') hC hm hE hns ho hf hr ⟨undef, .inr ⟨hw R a hfs, rfl⟩, ?_⟩ (hih _ _ h)
        rw [hd]
        exact hfs.put hdn (rel_raw.2 rfl)
      · cases h
    · rename_i hd
      intro C hC R a w hm hfs
      refine da_yield (env' := env') hC hm hE hns ho hf hr ⟨undef, .inr ⟨hw R a hfs, rfl⟩, ?_⟩ (hih _ _ h)
      rw [hd]
      exact hfs
  unfold guardX at h
  split at h
  · rename_i hgn
    exact run env true (by rw [hgn]; rfl) h
  · rename_i j want hgn
    split at h
    case h_2 => cases h
    rename_i o' ho'
    split at h
    case h_2 => cases h
    rename_i e he
    split at h
    · rename_i b hb
      have hgT : ∀ v, guardA ops ((e, .bool v) :: env) o.guard = some (v, want) := fun v => by rw [hgn]; exact guard_const ho' he
      split at h
      · refine da_split hb (fun hv => ?_) (fun hv => ?_)
        · exact run _ true (hgT true) (h.1 hv)
        · exact skip _ (fun R a hfs => by rw [wanted_of hfs (hgT false)]; rfl) (h.2 hv)
      · refine da_split hb (fun hv => ?_) (fun hv => ?_)
        · exact skip _ (fun R a hfs => by rw [wanted_of hfs (hgT true)]; rfl) (h.1 hv)
        · exact run _ false (hgT false) (h.2 hv)
    · rename_i v hv
      have hgS : guardSlot ops o.guard = some e := by rw [hgn]; simp only [guardSlot, ho', he]
      obtain ⟨rfl, h⟩ := h
      exact skip _ (fun R a hfs => guardSlot_unwanted hgS hv hfs) h
    · cases h
theorem wpOp_of_list {QP : Exit → Act → World → Prop} {K : Act → World → Prop} {Q' : Exit → Act → World → Prop} {a : Act} {w : World} (hi : ops[i]? = some o) (hp : ∀ c a w, Q' (.panic c) a w → QP (.panic c) a w) (ho : ∀ a w, ¬ Q' .outgrown a w) (hK : ∀ a w, Q' .normal a w → K a w)
    (h : wpList P ops Q' [o] a w) : wpOp P ops QP i K a w := by
  unfold wpOp
  rw [hi]
  simp only [wpList] at h
  dsimp only
  split at h
  · rename_i hw
    rw [if_pos hw]
    rcases h with h | ⟨_, a, w, h⟩
    · refine .inl ?_
      unfold Oper.wp at h ⊢
      generalize (execOp a.eval o).run P w = r at h ⊢
      cases r with
      | ok n w' =>
        cases n <;> simp only [Oper.upon] at h ⊢
        case value u => exact hK _ _ h
        case skip => exact hK _ _ h
        case defer d => exact hK _ _ h
        case enter f args =>
          refine Calls.mono h fun e w'' he => ?_
          cases e with
          | returned u => exact hK _ _ he
          | panicked c => exact hp _ _ _ he
          | outgrown => obtain ⟨a, w, he⟩ := he; exact absurd he (ho _ _)
        case row row args => exact Rows.mono h fun u w'' he => hK _ _ he
      | halt x w' =>
        cases x <;> simp only [Oper.upon] at h ⊢
        case panic u => exact hp _ _ _ h
    · exact absurd h (ho _ _)
  · rename_i hw
    rw [if_neg hw]
    exact hK _ _ h
theorem br_ok (hGL : GloAll G GL) {ih : Env → Heap → Prop} (hih : ∀ env H, ih env H → DA P G n ops kf E Q Kp fuel (listed.setIfInBounds i true) env H)
    {C : Ctx} (hC : C.G = G) (h : brX P n G GL E Kp kf ops i ih env H) {R : Seal} {a : Act} {w : World} (hm : MS C R H w) (hfs : FS C.D n R env a) :
    wpOp P ops (Post C n (QN E Q Kp)) i (fun a' w' => DS C kf R H w' ∧ wpAnyH P .any ops (Post C n (QN E Q Kp)) (DS C kf R H) fuel (listed.setIfInBounds i true) a' w') a w := by
  unfold brX at h
  split at h
  case h_2 => cases h
  rename_i o ho
  have h1 := opsX_ok (C := reCtx C R hm.ge) (show (reCtx C R hm.ge).G = G from hC) hGL _ _ _ (h.h _ hC) R a w hm.re hfs
  refine wpOp_of_list ho ?_ ?_ ?_ h1
  · rintro c a w ⟨x, e, h, R', hq, hr, hm', hf'⟩
    cases x with
    | normal => exact absurd (show Exit.panic c = .normal from hr) (by simp)
    | panic v => exact ⟨.panic v, E, h, R', ⟨rfl, ke_k hq⟩, hr, hm.back hm', hf'.sub (ke_sub hq)⟩
    | _ => exact hq.elim
  · rintro a w ⟨x, e, h, R', hq, hr, _⟩
    cases x with
    | normal => exact absurd (show Exit.outgrown = .normal from hr) (by simp)
    | panic v => obtain ⟨y, hy, _⟩ := hr; cases hy
    | _ => exact hq.elim
  · rintro a' w' ⟨x, e, h', R', hq, hr, hm', hf'⟩
    have hle : R.le R' := hm'.ge
    have hm2 := hm.back hm'
    have step : (∃ X, hk kf h' = hk kf H ++ X) → ih e h' → DS C kf R H w' ∧ wpAnyH P .any ops (Post C n (QN E Q Kp)) (DS C kf R H) fuel (listed.setIfInBounds i true) a' w' := by
      rintro ⟨X, hX⟩ k
      have sub : ∀ w, DS C kf R' h' w → DS C kf R H w := by
        rintro w ⟨R2, X2, hle2, hms⟩
        rw [hX, List.append_assoc] at hms
        exact ⟨R2, X ++ X2, Seal.le_trans hle hle2, hms⟩
      exact ⟨sub _ (ds_of hm2), wpAnyH_S sub _ _ _ _ (hih _ _ k C hC R' a' w' hm2 hf')⟩
    cases x with
    | normal =>
      cases hq with
      | all X e k =>
        refine step ?_ k
        subst e
        cases kf
        · exact ⟨[], rfl⟩
        · exact ⟨X, rfl⟩
      | none e k => subst e; exact step ⟨[], rfl⟩ k
    | panic v => obtain ⟨y, hy, _⟩ := hr; cases hy
    | _ => exact hq.elim
/-- The plan, sound. -/
theorem dp_ok (hE : dstFree ops E = true) (hGL : GloAll G GL) (hns : Region.noSelect ops = true) : ∀ (p : DPlan) (fuel : Nat) (listed : Array Bool) (acc : List Nat) (env : Env) (H : Heap), planB ops p fuel listed acc = true → dpX P n G GL E Kp kf ops Q p env H →
    (acc = [] → DA P G n ops kf E Q Kp fuel listed env H) ∧ (acc ≠ [] → ∀ C : Ctx, C.G = G → ∀ R a w, MS C R H w → FS C.D n R env a → ∃ f, (∀ k, fuel = k + 1 → f = k) ∧ Region.ready .any ops listed ≠ [] ∧
      ∀ i ∈ Region.ready .any ops listed, i ∈ acc ∨ wpOp P ops (Post C n (QN E Q Kp)) i (fun a' w' => DS C kf R H w' ∧ wpAnyH P .any ops (Post C n (QN E Q Kp)) (DS C kf R H) f (listed.setIfInBounds i true) a' w') a w) := by
  intro p
  induction p with
  | done =>
    intro fuel listed acc env H hp h
    simp only [planB, Bool.and_eq_true, List.isEmpty_iff] at hp
    refine ⟨fun _ C hC R a w hm hfs => wpAnyH_done hp.2 ⟨.normal, env, H, R, h, rfl, hm, hfs⟩ fuel, fun ha => absurd hp.1 ha⟩
  | take i p ih =>
    intro fuel listed acc env H hp h
    cases fuel with
    | zero => simp [planB] at hp
    | succ fuel =>
      simp only [planB, Bool.and_eq_true, List.isEmpty_iff] at hp
      obtain ⟨h1, h2, h3, h4⟩ := hp
      exact ⟨fun _ => take_ok hE hGL hns h2 h3 (fun env H k => (ih fuel _ [] env H h4 k).1 rfl) h, fun ha => absurd h1 ha⟩
  | br i p q ihp ihq =>
    intro fuel listed acc env H hp h
    cases fuel with
    | zero => simp [planB] at hp
    | succ fuel =>
      simp only [planB, Bool.and_eq_true] at hp
      obtain ⟨hl, hr⟩ : Both (brX P n G GL E Kp kf ops i (dpX P n G GL E Kp kf ops Q p) env H) (dpX P n G GL E Kp kf ops Q q env H) := h
      have hq := (ihq (fuel + 1) listed (acc ++ [i]) env H hp.2 hr).2 (by simp)
      have key : ∀ C : Ctx, C.G = G → ∀ R a w, MS C R H w → FS C.D n R env a → Region.ready .any ops listed ≠ [] ∧
          ∀ j ∈ Region.ready .any ops listed, j ∈ acc ∨ wpOp P ops (Post C n (QN E Q Kp)) j (fun a' w' => DS C kf R H w' ∧ wpAnyH P .any ops (Post C n (QN E Q Kp)) (DS C kf R H) fuel (listed.setIfInBounds j true) a' w') a w := by
        intro C hC R a w hm hfs
        obtain ⟨f, hf, hne, hall⟩ := hq C hC R a w hm hfs
        obtain rfl := hf fuel rfl
        refine ⟨hne, fun j hj => ?_⟩
        rcases hall j hj with hj' | hj'
        · rcases List.mem_append.1 hj' with hj' | hj'
          · exact .inl hj'
          · rw [List.mem_singleton] at hj'
            subst hj'
            exact .inr (br_ok hGL (fun env H k => (ihp f _ [] env H hp.1 k).1 rfl) hC hl hm hfs)
        · exact .inr hj'
      refine ⟨fun ha C hC R a w hm hfs => ?_, fun _ C hC R a w hm hfs => ⟨fuel, fun k hk => by omega, key C hC R a w hm hfs⟩⟩
      obtain ⟨hne, hall⟩ := key C hC R a w hm hfs
      refine wpAnyH_all rfl hne fun j hj => ?_
      rcases hall j hj with hj' | hj'
      · rw [ha] at hj'; cases hj'
      · exact hj'
  | nil =>
    intro fuel listed acc env H hp h
    simp only [planB, Bool.and_eq_true, Bool.not_eq_true', List.isEmpty_eq_false_iff, decide_eq_true_eq] at hp
    obtain ⟨h1, h2⟩ := hp
    refine ⟨fun ha => absurd ha h1, fun _ C hC R a w hm hfs => ⟨fuel - 1, fun k hk => by omega, by rw [h2]; exact h1, fun i hi => .inl (by rw [h2] at hi; exact hi)⟩⟩
/-- A region that draws, by a plan; what holds behind it, whatever the order. -/
theorem dw_p {X : Type} {C : Ctx} {id : Nat} {QQ : AExit → Env → Heap → Prop} (hm : P.follows .mixedOrders = true) (hC : C.G = G) (hGL : GloAll G GL) (kf : Bool) (I : X → Env) (J : X → Heap) (plan : DPlan)
    (hB : (Region.noSelect ops && planB ops plan ops.size (Array.replicate ops.size false) []) = true) (h : dpX P n G GL [] (fun _ _ => False) kf ops (Fie I J) plan env H) (k : ∀ x, QQ .normal (I x) (J x)) : Dw P C n id ops env H QQ := by
  simp only [Bool.and_eq_true] at hB
  have hd := (dp_ok dst_nil hGL hB.1 plan _ _ [] env H hB.2 h).1 rfl
  refine ⟨fun R a w hms hfs => ?_⟩
  refine wp_mono (wp_region_held (S := DS C kf R H) hm (hd C hC R a _ (hms.drawn _) hfs)) ?_
  rintro ex a w ⟨x, e, h, R, hq, hr, hm', hf'⟩
  cases x with
  | normal =>
    obtain ⟨x0, hs, hj⟩ := hq
    subst hj
    exact ⟨.normal, I x0, J x0, R, k x0, hr, hm', hf'.sub hs⟩
  | panic v => exact hq.2.elim
  | exit i => exact hq.elim
  | goto i => exact hq.elim
  | ret => exact hq.elim
end
end Go.Proofs.YtcoidjllehieeaaGreatDoor
namespace Go.Proofs.YtcoidjllehieeaaGreatDoor
open Go
set_option linter.unusedVariables false
structure Lf (Q : Prop) : Prop where
  h : Q
structure Lc (a b : Prop) : Prop where
  l : a
  r : b
inductive Le : Prop
  | n
inductive Lz : Prop → Prop
  | n : Lz Le
  | c {a b : Prop} : Lz b → Lz (Lc a b)
theorem Lf.l {a b : Prop} (q : Lf (Lc a b)) : a := q.h.l
theorem Lf.r {a b : Prop} (q : Lf (Lc a b)) : Lf b := ⟨q.h.r⟩
/-- A statement's end: what is known, what the slots hold, what is owned. -/
structure Ct (I : Env) (J : Heap) (p : Prop) (e : Env) (h : Heap) : Prop where
  p : p
  s : Env.sub e I
  j : h = J
theorem Ct.w {I : Env} {J : Heap} {p : Prop} {e : Env} {h : Heap} (hp : p := by first | exact True.intro | assumption | omega) (hs : Env.sub e I := by repeat (first | exact trivial | refine And.intro rfl ?_)) (hj : h = J := by rfl) : Ct I J p e h := ⟨hp, hs, hj⟩
structure Cy {X : Type} (I : X → Env) (J : X → Heap) (Inv : X → Prop) (e : Env) (h : Heap) : Prop where
  h : ∃ x, Inv x ∧ Env.sub e (I x) ∧ h = J x
theorem cy {X : Type} {I : X → Env} {J : X → Heap} {Inv : X → Prop} {e : Env} {h : Heap} (x : X) (hp : Inv x) (hs : Env.sub e (I x) := by repeat (first | exact trivial | refine And.intro rfl ?_)) (hj : h = J x := by rfl) : Cy I J Inv e h := ⟨⟨x, hp, hs, hj⟩⟩
section
variable {P : Program} [Tab P] {C : Ctx} {n : Nat} {G : Glo} {GL : List (Nat × List AVal)} {env : Env} {H : Heap} {Q : AExit → Env → Heap → Prop}
/-- Into a function whose statements are gone through one by one. -/
theorem fn_a {f : FuncId} {fn : Func} {c : Code} {avs : List AVal} {Qf : ARes → Heap → Prop} {rs : List ResultVar} (hf : P.funcs[f]? = some fn)
    (hc : ∀ args w, (callFunc f args).run P w = .ok (.enter f args) w) (hb : fn.body = some c) (hn : fn.ntmps = n) (hrs : fn.results = rs.toArray) (hlen : Nat.ble avs.length n = true)
    (h : ∀ C : Ctx, C.G = G → AWp P C n c (argEnv 0 avs) H (RetX P rs Qf)) : FnSpec P G f avs H Qf :=
  fn_spec hf hb hc hn hrs hlen fun w0 R0 hG => (h ⟨w0, R0, blks H, G, hG, []⟩ rfl).mono fun _ _ _ q => RetX_ok q
theorem aw_code {c : Code} (hC : C.G = G) (hGL : GloAll G GL) (h : codeX P C n G GL c env H Q) : AWp P C n c env H Q := codeX_ok hC hGL _ _ _ _ h
theorem cuty {a b : Code} {X : Type} (hC : C.G = G) (hGL : GloAll G GL) (I : X → Env) (J : X → Heap) (Inv : X → Prop) (h1 : codeX P C n G GL a env H (thenQ (fun e h => Cy I J Inv e h) Q)) (h2 : ∀ x, Inv x → AWp P C n b (I x) (J x) Q) : AWp P C n (.seq a b) env H Q :=
  aw_seq ((codeX_ok hC hGL _ _ _ _ h1).mono fun x e h q => by
    cases x with
    | normal =>
      obtain ⟨y, hy, hs, rfl⟩ := q.h
      exact aw_sub hs (h2 y hy)
    | exit i => exact q
    | goto i => exact q
    | ret => exact q
    | panic v => exact q)
theorem cut {a b : Code} (hC : C.G = G) (hGL : GloAll G GL) (I : Env) (J : Heap) (p : Prop) (h1 : codeX P C n G GL a env H (thenQ (fun e h => Ct I J p e h) Q)) (h2 : p → AWp P C n b I J Q) : AWp P C n (.seq a b) env H Q :=
  aw_seq ((codeX_ok hC hGL _ _ _ _ h1).mono fun x e h q => by
    cases x with
    | normal =>
      obtain ⟨hp, hs, rfl⟩ := q
      exact aw_sub hs (h2 hp)
    | exit i => exact q
    | goto i => exact q
    | ret => exact q
    | panic v => exact q)
end
theorem xw0 {P : Prop} (h : P := by
    repeat' (first
      | (conv => whnf); first
        | refine .w ?_ | refine .v ?_ | apply sc_true | apply sc_false
        | (first | apply sc_lt | apply sc_nlt | apply sc_eq | apply sc_neq | apply sc_nil | apply sc_nnil | apply sc_seq | apply sc_nseq) <;> (intro wb; try exact dd wb)
        | apply sc_not | apply sc_or | (apply sc_i <;> intro wb)
        | (apply bx_i; intro wb) | (apply gt_i; assumption; exact rfl)
        | (apply cx_is; first | assumption | (apply k1 <;> omega) | (apply k2 <;> omega) | (apply k3 <;> omega)) | (apply cx_do (i := 0) rfl; assumption) | (apply cx_do (i := 1) rfl; assumption) | (apply cx_do (i := 2) rfl; assumption)
        | (apply ab_i; intro wl) | (apply as_i; intro wa wk wc wh) | (apply av_i; intro wv) | (apply ac_i; intro wl wq wb)
        | apply bo_l | (apply nx_i <;> intro wb) | (apply Ia.hit; assumption) | (apply Ia.miss; assumption)
        | (apply rt_is; exact rfl) | exact rt_w | exact Ct.w | (apply iv; assumption)
        | exact True.intro | (apply bc_i; intro wC whC) | apply bt_i | apply og_n | (apply og_a; exact rfl) | apply dw_q mixed whC hGL (by kernel_rfl) | apply dw_q mixed hC hGL (by kernel_rfl) | (apply cq; assumption; (first | assumption | (apply k1 <;> omega) | (apply k2 <;> omega)); exact rfl))
    all_goals (try conv => whnf)) : P := h
theorem xw1 {P Q : Prop} (hQ : Q) (h : Lf Q → P := by
    intro ww
    repeat' (first
      | (conv => whnf); first
        | refine .w ?_ | refine .v ?_ | apply sc_true | apply sc_false
        | (first | apply sc_lt | apply sc_nlt | apply sc_eq | apply sc_neq | apply sc_nil | apply sc_nnil | apply sc_seq | apply sc_nseq) <;> (intro wb; try exact dd wb)
        | apply sc_not | apply sc_or | (apply sc_i <;> intro wb)
        | (apply bx_i; intro wb) | (apply gt_i; assumption; exact rfl)
        | (apply cx_is; first | assumption | (apply k1 <;> omega) | (apply k2 <;> omega) | (apply k3 <;> omega)) | (apply cx_do (i := 0) rfl; assumption) | (apply cx_do (i := 1) rfl; assumption) | (apply cx_do (i := 2) rfl; assumption)
        | (apply ab_i; intro wl) | (apply as_i; intro wa wk wc wh) | (apply av_i; intro wv) | (apply ac_i; intro wl wq wb)
        | apply bo_l | (apply nx_i <;> intro wb) | (apply Ia.hit; assumption) | (apply Ia.miss; assumption)
        | (apply rt_is; exact rfl) | exact rt_w | exact Ct.w | (apply iv; assumption)
        | exact True.intro | (apply bc_i; intro wC whC) | apply bt_i | apply og_n | (apply og_a; exact rfl) | apply dw_q mixed whC hGL (by kernel_rfl) | apply dw_q mixed hC hGL (by kernel_rfl) | (apply cq; assumption; (first | assumption | (apply k1 <;> omega) | (apply k2 <;> omega)); exact rfl))
    all_goals (try conv => whnf)
    all_goals (repeat (first | revert wb | revert wh | revert wc | revert wk | revert wa | revert wq | revert wl | revert wv | revert whC | revert wC))
    all_goals (apply Lf.h; apply ww)) : P := h ⟨hQ⟩
theorem xw {P Q : Prop} (hQ : Q) (h : Lf Q → P := by
    intro ww
    repeat' (first
      | (conv => whnf); first
        | refine .w ?_ | refine .v ?_ | apply sc_true | apply sc_false
        | (first | apply sc_lt | apply sc_nlt | apply sc_eq | apply sc_neq | apply sc_nil | apply sc_nnil | apply sc_seq | apply sc_nseq) <;> (intro wb; try exact dd wb)
        | apply sc_not | apply sc_or | (apply sc_i <;> intro wb)
        | (apply bx_i; intro wb) | (apply gt_i; assumption; exact rfl)
        | (apply cx_is; first | assumption | (apply k1 <;> omega) | (apply k2 <;> omega) | (apply k3 <;> omega)) | (apply cx_do (i := 0) rfl; assumption) | (apply cx_do (i := 1) rfl; assumption) | (apply cx_do (i := 2) rfl; assumption)
        | (apply ab_i; intro wl) | (apply as_i; intro wa wk wc wh) | (apply av_i; intro wv) | (apply ac_i; intro wl wq wb)
        | apply bo_l | (apply nx_i <;> intro wb) | (apply Ia.hit; assumption) | (apply Ia.miss; assumption)
        | (apply rt_is; exact rfl) | exact rt_w | exact Ct.w | (apply iv; assumption)
        | exact True.intro | (apply bc_i; intro wC whC) | apply bt_i | apply og_n | (apply og_a; exact rfl) | apply dw_q mixed whC hGL (by kernel_rfl) | apply dw_q mixed hC hGL (by kernel_rfl) | (apply cq; assumption; (first | assumption | (apply k1 <;> omega) | (apply k2 <;> omega)); exact rfl))
    all_goals (try conv => whnf)
    all_goals (repeat (first | revert wb | revert wh | revert wc | revert wk | revert wa | revert wq | revert wl | revert wv | revert whC | revert wC))
    all_goals (apply Lf.l; with_reducible (repeat (first | apply ww | apply Lf.r)))) (e : Lz Q := by repeat (first | exact Lz.n | apply Lz.c)) : P := h ⟨hQ⟩
theorem xn0 {P : Prop} (h : P := by
    repeat' (first
      | (conv => whnf); first
        | refine .w ?_ | refine .v ?_ | apply sc_true | apply sc_false
        | (first | apply sc_lt | apply sc_nlt | apply sc_eq | apply sc_neq | apply sc_nil | apply sc_nnil | apply sc_seq | apply sc_nseq) <;> (intro wb; try exact dd wb)
        | apply sc_not | apply sc_or | (apply sc_i <;> intro wb)
        | (apply bx_i; intro wb) | (apply gt_i; assumption; exact rfl)
        | (apply cx_is; first | assumption | (apply k1 <;> omega) | (apply k2 <;> omega) | (apply k3 <;> omega)) | (apply cx_do (i := 0) rfl; assumption) | (apply cx_do (i := 1) rfl; assumption) | (apply cx_do (i := 2) rfl; assumption)
        | (apply ab_i; intro wl) | (apply as_i; intro wa wk wc wh) | (apply av_i; intro wv) | (apply ac_i; intro wl wq wb)
        | apply bo_l | (apply nx_i <;> intro wb) | (apply Ia.hit; assumption) | (apply Ia.miss; assumption)
        | (apply rt_is; exact rfl) | exact rt_w | exact Ct.w | (apply iv; assumption)
        | exact True.intro | (apply bc_i; intro wC whC) | apply bt_i | apply og_n | (apply og_a; exact rfl))
    all_goals (try conv => whnf)) : P := h
theorem xn1 {P Q : Prop} (hQ : Q) (h : Lf Q → P := by
    intro ww
    repeat' (first
      | (conv => whnf); first
        | refine .w ?_ | refine .v ?_ | apply sc_true | apply sc_false
        | (first | apply sc_lt | apply sc_nlt | apply sc_eq | apply sc_neq | apply sc_nil | apply sc_nnil | apply sc_seq | apply sc_nseq) <;> (intro wb; try exact dd wb)
        | apply sc_not | apply sc_or | (apply sc_i <;> intro wb)
        | (apply bx_i; intro wb) | (apply gt_i; assumption; exact rfl)
        | (apply cx_is; first | assumption | (apply k1 <;> omega) | (apply k2 <;> omega) | (apply k3 <;> omega)) | (apply cx_do (i := 0) rfl; assumption) | (apply cx_do (i := 1) rfl; assumption) | (apply cx_do (i := 2) rfl; assumption)
        | (apply ab_i; intro wl) | (apply as_i; intro wa wk wc wh) | (apply av_i; intro wv) | (apply ac_i; intro wl wq wb)
        | apply bo_l | (apply nx_i <;> intro wb) | (apply Ia.hit; assumption) | (apply Ia.miss; assumption)
        | (apply rt_is; exact rfl) | exact rt_w | exact Ct.w | (apply iv; assumption)
        | exact True.intro | (apply bc_i; intro wC whC) | apply bt_i | apply og_n | (apply og_a; exact rfl))
    all_goals (try conv => whnf)
    all_goals (repeat (first | revert wb | revert wh | revert wc | revert wk | revert wa | revert wq | revert wl | revert wv | revert whC | revert wC))
    all_goals (apply Lf.h; apply ww)) : P := h ⟨hQ⟩
theorem xn {P Q : Prop} (hQ : Q) (h : Lf Q → P := by
    intro ww
    repeat' (first
      | (conv => whnf); first
        | refine .w ?_ | refine .v ?_ | apply sc_true | apply sc_false
        | (first | apply sc_lt | apply sc_nlt | apply sc_eq | apply sc_neq | apply sc_nil | apply sc_nnil | apply sc_seq | apply sc_nseq) <;> (intro wb; try exact dd wb)
        | apply sc_not | apply sc_or | (apply sc_i <;> intro wb)
        | (apply bx_i; intro wb) | (apply gt_i; assumption; exact rfl)
        | (apply cx_is; first | assumption | (apply k1 <;> omega) | (apply k2 <;> omega) | (apply k3 <;> omega)) | (apply cx_do (i := 0) rfl; assumption) | (apply cx_do (i := 1) rfl; assumption) | (apply cx_do (i := 2) rfl; assumption)
        | (apply ab_i; intro wl) | (apply as_i; intro wa wk wc wh) | (apply av_i; intro wv) | (apply ac_i; intro wl wq wb)
        | apply bo_l | (apply nx_i <;> intro wb) | (apply Ia.hit; assumption) | (apply Ia.miss; assumption)
        | (apply rt_is; exact rfl) | exact rt_w | exact Ct.w | (apply iv; assumption)
        | exact True.intro | (apply bc_i; intro wC whC) | apply bt_i | apply og_n | (apply og_a; exact rfl))
    all_goals (try conv => whnf)
    all_goals (repeat (first | revert wb | revert wh | revert wc | revert wk | revert wa | revert wq | revert wl | revert wv | revert whC | revert wC))
    all_goals (apply Lf.l; with_reducible (repeat (first | apply ww | apply Lf.r)))) (e : Lz Q := by repeat (first | exact Lz.n | apply Lz.c)) : P := h ⟨hQ⟩
end Go.Proofs.YtcoidjllehieeaaGreatDoor
namespace Go.Proofs.YtcoidjllehieeaaGreatDoor
open Go Go.Extern
set_option maxRecDepth 20000
set_option maxHeartbeats 4000000
set_option linter.unusedSimpArgs false
set_option linter.unusedVariables false
attribute [local irreducible] AWp AOps byteAt SrcOK OrOk GloAll FnSpec
/-! ### Types as the model's externs hand them about -/
noncomputable def hdl (t : TypeId) : Value := typeHandle Tryz.prog t
/-! ### Types -/
/-! ### What reads or writes memory -/
end Go.Proofs.YtcoidjllehieeaaGreatDoor
namespace Go.Proofs.YtcoidjllehieeaaGreatDoor
open Go Go.Extern
set_option maxRecDepth 20000
set_option maxHeartbeats 4000000
set_option linter.unusedSimpArgs false
set_option linter.unusedVariables false
attribute [local irreducible] AWp AOps byteAt SrcOK OrOk GloAll FnSpec
/-! ### Methods -/
section
variable (t : TypeId)
end
/-! ### The walks -/
abbrev errA (e : Int) : AVal := .iface 69 (.int .i64 e)
abbrev atA (e p : Int) : AVal := .iface 103 (.rop [.int .i64 e, .int .i64 p] 0)
/-- An error, and what it is taken for. -/
inductive Err
  | none
  | errno (e : Int)
  | at (e p : Int)
def Err.A : Err → AVal
  | .none => .raw .nilIface
  | .errno e => errA e
  | .at e p => atA e p
def Err.e : Err → Int
  | .none => 0
  | .errno e => e
  | .at e _ => e
def Err.p : Err → Int
  | .none => -1
  | .errno _ => -1
  | .at _ p => p
end Go.Proofs.YtcoidjllehieeaaGreatDoor
namespace Go.Proofs.YtcoidjllehieeaaGreatDoor
open Go
theorem byteAt_getElem {s : List UInt8} {j : Nat} (h : j < s.length) : byteAt s j = s[j].toNat := by
  simp [byteAt, List.getD, h]
theorem byteAt_take {s : List UInt8} {n j : Nat} (h : j < n) : byteAt (s.take n) j = byteAt s j := by
  unfold byteAt
  simp [List.getD, List.getElem?_take, h]
set_option maxRecDepth 20000
set_option maxHeartbeats 4000000
set_option linter.unusedSimpArgs false
set_option linter.unusedVariables false
attribute [local irreducible] AWp AOps byteAt SrcOK OrOk GloAll FnSpec
theorem ref_Good {G : Glo} : FnIs Tryz.prog G 65 [] (.agg [.int .i64 0, .int .i64 (-1)]) := by
  have hGL : GloAll G [] := gloAll_nil
  refine fn_x Tryz.func65 Tryz.call65 rfl rfl rfl rfl hGL ?_
  intro C hC
  repeat' (first | (conv => whnf); first | refine .w ?_ | refine .v ?_ | refine sc_c ?_ ?_ <;> (intro hb; try exact dd hb) | apply sc_not | apply sc_or | (apply sc_i <;> intro hb) | (apply bx_i; intro hbd) | (apply cx_is; first | fail) | (apply cx_do (i := 0) rfl; first | fail) | (apply ab_i; intro bl) | (apply as_i; intro va vk vc hva) | (apply av_i; intro v) | (apply ac_i; intro bl cap hcap) | apply bo_l | (apply nx_i <;> intro hnx) | exact rt_w | apply dw_q mixed hC hGL (by kernel_rfl) | (apply cq; assumption; (first | fail); exact rfl))
  all_goals try conv => whnf
end Go.Proofs.YtcoidjllehieeaaGreatDoor
namespace Go.Proofs.YtcoidjllehieeaaGreatDoor
open Go
set_option maxRecDepth 20000
set_option maxHeartbeats 4000000
set_option linter.unusedSimpArgs false
set_option linter.unusedVariables false
attribute [local irreducible] AWp AOps byteAt SrcOK OrOk GloAll FnSpec
theorem ext_byteAt {s t : List UInt8} (h : t.length = s.length) (hb : ∀ j, j < s.length → byteAt t j = byteAt s j) : t = s := by
  apply List.ext_getElem h
  intro i h1 h2
  have := hb i h2
  simp only [byteAt, List.getD, List.getElem?_eq_getElem h1, List.getElem?_eq_getElem h2, Option.getD_some] at this
  exact UInt8.toNat_inj.1 this
def turnN (low high by_ : Int) (c : Nat) : Int := if low ≤ c ∧ (c : Int) ≤ high then c + by_ else c
def turnS (low high by_ : Int) (s : List UInt8) : List UInt8 := s.map fun c => UInt8.ofNat (turnN low high by_ c.toNat).toNat
theorem byteAt_turn {low high by_ : Int} (h1 : 0 ≤ low + by_) (h2 : high + by_ ≤ 255) {s : List UInt8} {j : Nat} (h : j < s.length) : (byteAt (turnS low high by_ s) j : Int) = turnN low high by_ (byteAt s j) := by
  have e : (byteAt (turnS low high by_ s) j) = (UInt8.ofNat (turnN low high by_ s[j].toNat).toNat).toNat := by
    simp [byteAt, turnS, List.getD, h]
  have e2 : byteAt s j = s[j].toNat := by simp [byteAt, List.getD, h]
  rw [e, e2, UInt8.toNat_ofNat']
  have := UInt8.toNat_lt s[j]
  unfold turnN
  split <;> omega
/-- How far the turning has come. -/
def Turned (low high by_ : Int) (s : List UInt8) (x : Nat × List UInt8) : Prop :=
  x.1 ≤ s.length ∧ x.2.length = s.length ∧ ∀ j, j < s.length → (byteAt x.2 j : Int) = if j < x.1 then turnN low high by_ (byteAt s j) else byteAt s j
theorem turned_0 {low high by_ : Int} {s : List UInt8} : Turned low high by_ s (0, s) := ⟨Nat.zero_le _, rfl, fun j _ => by rw [if_neg (by simp)]⟩
theorem turned_at {low high by_ : Int} {s : List UInt8} {i : Nat} {t : List UInt8} (h : Turned low high by_ s (i, t)) (hi : i < s.length) : byteAt t i = byteAt s i := by
  have := h.2.2 i hi
  rw [if_neg (by simp)] at this
  exact Int.ofNat.inj this
theorem turned_hit {low high by_ : Int} {s : List UInt8} {i : Nat} {t : List UInt8} (h : Turned low high by_ s (i, t)) (hi : i < s.length) {m : Int} (hm : m = turnN low high by_ (byteAt s i)) (h0 : 0 ≤ m) (h1 : m ≤ 255) :
    Turned low high by_ s (i + 1, t.set i (UInt8.ofNat m.toNat)) := by
  obtain ⟨h2, h3, h4⟩ := h
  refine ⟨hi, by simp only [List.length_set]; exact h3, fun j hj => ?_⟩
  dsimp only at *
  rw [byteAt_set (by omega) (by omega) (by omega)]
  by_cases e : j = i
  · subst e
    rw [if_pos rfl, if_pos (by omega), hm]
  · rw [if_neg e, h4 j hj]
    by_cases e2 : j < i
    · rw [if_pos e2, if_pos (by omega)]
    · rw [if_neg e2, if_neg (by omega)]
theorem turned_miss {low high by_ : Int} {s : List UInt8} {i : Nat} {t : List UInt8} (h : Turned low high by_ s (i, t)) (hi : i < s.length) (hm : turnN low high by_ (byteAt s i) = byteAt s i) :
    Turned low high by_ s (i + 1, t) := by
  refine ⟨hi, h.2.1, fun j hj => ?_⟩
  have := h.2.2 j hj
  dsimp only at *
  rw [this]
  by_cases e : j = i
  · subst e
    rw [if_neg (by omega), if_pos (by omega), hm]
  · by_cases e2 : j < i
    · rw [if_pos e2, if_pos (by omega)]
    · rw [if_neg e2, if_neg (by omega)]
theorem turned_end {low high by_ : Int} (h1 : 0 ≤ low + by_) (h2 : high + by_ ≤ 255) {s : List UInt8} {i : Nat} {t : List UInt8} (h : Turned low high by_ s (i, t)) (hi : s.length ≤ i) : t = turnS low high by_ s := by
  refine ext_byteAt (by simp only [turnS, List.length_map]; exact h.2.1) (fun j hj => ?_)
  have hj' : j < s.length := by simpa [turnS] using hj
  have := h.2.2 j hj'
  rw [if_pos (show j < i by omega), ← byteAt_turn h1 h2 hj'] at this
  exact Int.ofNat.inj this
theorem name_turn {G : Glo} (s : List UInt8) (low high by_ : Int) (h1 : 0 ≤ low + by_) (h2 : high + by_ ≤ 255) (h3 : 0 ≤ low) (h4 : high ≤ 255) (h5 : -300 ≤ by_) (h6 : by_ ≤ 300) (hl : s.length ≤ 9223372036854775807) :
    FnIs Tryz.prog G 49 [.str s, .int .u8 low, .int .u8 high, .int .i64 by_] (.str (turnS low high by_ s)) := by
  have hGL : GloAll G [] := gloAll_nil
  refine fn_x Tryz.func49 Tryz.call49 rfl rfl rfl rfl hGL ?_
  intro C hC
  repeat' (first | (conv => whnf); first | refine .w ?_ | refine .v ?_ | refine sc_c ?_ ?_ <;> (intro hb; try exact dd hb) | apply sc_not | apply sc_or | (apply sc_i <;> intro hb) | (apply bx_i; intro hbd) | (apply cx_is; first | fail) | (apply cx_do (i := 0) rfl; first | fail) | (apply ab_i; intro bl) | (apply as_i; intro va vk vc hva) | (apply av_i; intro v) | (apply ac_i; intro bl cap hcap) | apply bo_l | (apply nx_i <;> intro hnx) | exact rt_w | apply dw_q mixed hC hGL (by kernel_rfl) | (apply cq; assumption; (first | fail); exact rfl))
  all_goals try conv => whnf
  refine lp hC hGL (fun (x : Nat × List UInt8) => [(1, .int .u8 low), (2, .int .u8 high), (3, .int .i64 by_), (9, .own 0 (.slice (some ⟨bl, 0, none⟩) s.length cap)), (14, .own 0 (.slice (some ⟨bl, 0, none⟩) s.length cap)), (15, .int .i64 s.length), (16, .int .i64 x.1)]) (fun x => [.buf bl x.2 cap]) (Turned low high by_ s) (fun x => s.length - x.1) (0, s) ?_ env_w rfl ?_
  · exact turned_0
  rintro ⟨i, t⟩ hI
  have hi := hI.1
  have ht := hI.2.1
  dsimp only at hi ht ⊢
  refine xw ?_
  repeat' (first | exact Le.n | refine Lc.mk ?_ ?_)
  all_goals intros
  · refine nxt (i + 1, t.set i (UInt8.ofNat ((byteAt t i : Int) + by_).toNat)) ?_ ?_ env_w rfl
    · have e := turned_at hI (by omega)
      refine turned_hit hI (by omega) ?_ (by omega) (by omega)
      unfold turnN
      rw [if_pos (by omega)]
      omega
    · dsimp only; omega
  iterate 2
    · refine nxt (i + 1, t) ?_ ?_ env_w rfl
      · have e := turned_at hI (by omega)
        refine turned_miss hI (by omega) ?_
        unfold turnN
        rw [if_neg (by omega)]
      · dsimp only; omega
  · apply rt_is
    rw [turned_end h1 h2 hI (by omega)]
theorem name_Upper {G : Glo} (s : List UInt8) (hl : s.length ≤ 9223372036854775807) : FnIs Tryz.prog G 31 [.str s] (.str (turnS 97 122 (-32) s)) := by
  have hGL : GloAll G [] := gloAll_nil
  refine fn_x Tryz.func31 Tryz.call31 rfl rfl rfl rfl hGL ?_
  intro C hC
  have ht := name_turn (G := G) s 97 122 (-32) (by decide) (by decide) (by decide) (by decide) (by decide) (by decide) hl
  exact xw0
theorem name_Same {G : Glo} (s t : List UInt8) (hl : s.length ≤ 9223372036854775807) (hm : t.length ≤ 9223372036854775807) : FnIs Tryz.prog G 17 [.str s, .str t] (.bool (seqB (turnS 97 122 (-32) s) (turnS 97 122 (-32) t))) := by
  have hGL : GloAll G [] := gloAll_nil
  refine fn_x Tryz.func17 Tryz.call17 rfl rfl rfl rfl hGL ?_
  intro C hC
  have h1 := name_Upper (G := G) s hl
  have h2 := name_Upper (G := G) t hm
  exact xw0
def letterB (c : Int) : Bool := decide ((97 ≤ c ∧ c ≤ 122) ∨ (65 ≤ c ∧ c ≤ 90) ∨ (48 ≤ c ∧ c ≤ 57) ∨ c = 45)
theorem letterB_t {c : Int} : letterB c = true ↔ ((97 ≤ c ∧ c ≤ 122) ∨ (65 ≤ c ∧ c ≤ 90) ∨ (48 ≤ c ∧ c ≤ 57) ∨ c = 45) := by simp [letterB]
attribute [local irreducible] letterB
theorem name_letter {G : Glo} (c : Int) : FnIs Tryz.prog G 74 [.int .u8 c] (.bool (letterB c)) := by
  have hGL : GloAll G [] := gloAll_nil
  refine fn_x Tryz.func74 Tryz.call74 rfl rfl rfl rfl hGL ?_
  intro C hC
  refine xw ?_
  repeat' (first | exact Le.n | refine Lc.mk ?_ ?_)
  all_goals intros
  all_goals (apply rt_is; refine congrArg AVal.bool ?_; rw [Bool.eq_iff_iff]; simp only [letterB_t, eqB_t, true_iff]; omega)
/-- All bytes are such. -/
def allB (f : Int → Bool) (s : List UInt8) : Bool := s.all fun c => f (c.toNat : Int)
theorem allB_t {f : Int → Bool} {s : List UInt8} : allB f s = true ↔ ∀ j, j < s.length → f (byteAt s j) = true := by
  unfold allB
  rw [List.all_eq_true]
  constructor
  · intro h j hj
    have := h s[j] (List.getElem_mem hj)
    simpa [byteAt, List.getD, hj] using this
  · intro h c hc
    obtain ⟨j, hj, rfl⟩ := List.getElem_of_mem hc
    simpa [byteAt, List.getD, hj] using h j hj
theorem allB_f {f : Int → Bool} {s : List UInt8} {j : Nat} (hj : j < s.length) (h : f (byteAt s j) = false) : allB f s = false := by
  rw [Bool.eq_false_iff]
  intro h2
  rw [allB_t.1 h2 j hj] at h
  cases h
theorem below_succ {p : Nat → Prop} {i : Nat} (h : ∀ j, j < i → p j) (k : p i) : ∀ j, j < i + 1 → p j := by
  intro j hj
  by_cases e : j = i
  · subst e; exact k
  · exact h j (by omega)
def isS (s : List UInt8) : Bool := allB letterB s && (decide (s.length ≠ 0) && decide (s.length ≤ 40))
theorem name_Is {G : Glo} (s : List UInt8) (hl : s.length ≤ 9223372036854775807) : FnIs Tryz.prog G 54 [.str s] (.bool (isS s)) := by
  have hGL : GloAll G [] := gloAll_nil
  refine fn_x Tryz.func54 Tryz.call54 rfl rfl rfl rfl hGL ?_
  intro C hC
  refine xw1 ?_
  intros
  refine lp hC hGL (fun (i : Nat) => [(0, .str s), (5, .int .i64 s.length), (6, .int .i64 i)]) (fun _ => []) (fun i => i ≤ s.length ∧ ∀ j, j < i → letterB (byteAt s j) = true) (fun i => s.length - i) 0 ?_ env_w rfl ?_
  · exact ⟨Nat.zero_le _, by intro j hj; omega⟩
  rintro i ⟨hi, hb0⟩
  repeat' (first | (conv => whnf); first | refine .w ?_ | refine .v ?_ | refine sc_c ?_ ?_ <;> (intro hb; try exact dd hb) | apply sc_not | apply sc_or | (apply sc_i <;> intro hb) | (apply bx_i; intro hbd) | (apply cx_is; first | exact name_letter _) | (apply cx_do (i := 0) rfl; first | exact name_letter _) | (apply ab_i; intro bl) | (apply as_i; intro va vk vc hva) | (apply av_i; intro v) | (apply ac_i; intro bl cap hcap) | apply bo_l | (apply nx_i <;> intro hnx) | exact rt_w | apply dw_q mixed hC hGL (by kernel_rfl) | (apply cq; assumption; (first | exact name_letter _); exact rfl))
  all_goals try conv => whnf
  · refine nxt (i + 1) ?_ ?_ env_w rfl
    · exact ⟨by omega, below_succ hb0 hb⟩
    · omega
  · apply rt_is
    rw [isS, allB_f (by omega) hb]
    rfl
  all_goals (
    apply rt_is
    refine congrArg AVal.bool ?_
    have ha : allB letterB s = true := allB_t.2 fun j hj => hb0 j (by omega)
    have e : isS s = true ↔ (s.length ≠ 0 ∧ s.length ≤ 40) := by simp only [isS, ha, Bool.true_and, Bool.and_eq_true, decide_eq_true_eq]
    rw [Bool.eq_iff_iff, e]
    try simp only [Bool.not_eq_true', ltB_f, reduceCtorEq, false_iff]
    omega)
theorem ref_within {G : Glo} (m low high : Int) : FnIs Tryz.prog G 64 [.int .i64 m, .int .i64 low, .int .i64 high] (.bool (decide (low ≤ m) && decide (m ≤ high))) := by
  have hGL : GloAll G [] := gloAll_nil
  refine fn_x Tryz.func64 Tryz.call64 rfl rfl rfl rfl hGL ?_
  intro C hC
  refine xw ?_
  repeat' (first | exact Le.n | refine Lc.mk ?_ ?_)
  all_goals intros
  all_goals (apply rt_is; refine congrArg AVal.bool ?_; rw [Bool.eq_iff_iff]; simp [ltB_f, Bool.not_eq_true'] <;> omega)
end Go.Proofs.YtcoidjllehieeaaGreatDoor
namespace Go.Proofs.YtcoidjllehieeaaGreatDoor
open Go Go.RowKit
/-- Two digits. -/
def twoS (n : Int) : List UInt8 := bytesI [48 + n / 10, 48 + n % 10]
def zrB (n : Int) : Bool := decide (-840 ≤ n ∧ n ≤ 840)
/-- Minutes as text. -/
def zprS (n : Int) : List UInt8 := if zrB n then (if n = 0 then [90] else if n < 0 then ([45] ++ twoS ((0 - n) / 60)) ++ twoS ((0 - n) % 60) else ([43] ++ twoS (n / 60)) ++ twoS (n % 60)) else []
def zprE (n : Int) : Err := if zrB n then .none else .errno 2
set_option maxRecDepth 20000
set_option maxHeartbeats 4000000
set_option linter.unusedSimpArgs false
set_option linter.unusedVariables false
attribute [local irreducible] AWp AOps byteAt SrcOK OrOk GloAll FnSpec
attribute [local irreducible] zrB
attribute [local irreducible] twoS
end Go.Proofs.YtcoidjllehieeaaGreatDoor
namespace Go.Proofs.YtcoidjllehieeaaGreatDoor
open Go Go.RowKit
/-- Told. -/
def tlB (n : Int) : Bool := decide (n ≠ -1)
/-- Which of three are told. -/
def whN : Bool → Bool → Bool → Int
  | false, false, false => 0
  | true, false, false => 1
  | true, true, false => 2
  | true, true, true => 3
  | false, true, false => 4
  | false, true, true => 5
  | false, false, true => 6
  | true, false, true => -1
/-- How many days a month has. -/
def dayN (y m : Int) : Int :=
  if m < 1 ∨ 12 < m then 0
  else if m = 2 then (if y ≠ -1 ∧ (y.tmod 4 ≠ 0 ∨ y.tmod 100 = 0 ∧ y.tmod 400 ≠ 0) then 28 else 29)
  else if m = 4 ∨ m = 6 ∨ m = 9 ∨ m = 11 then 30 else 31
def witB (n lo hi : Int) : Bool := decide (n = -1 ∨ lo ≤ n ∧ n ≤ hi)
/-- A stamp. -/
structure Stm where
  y : Int
  m : Int
  d : Int
  h : Int
  i : Int
  s : Int
  z : Bool
  o : Int
def Stm.A (t : Stm) : AVal := .agg [.int .i64 t.y, .int .i64 t.m, .int .i64 t.d, .int .i64 t.h, .int .i64 t.i, .int .i64 t.s, .bool t.z, .int .i64 t.o]
/-- Forms that go together. -/
def okN (d t : Int) : Bool := decide (0 ≤ d ∧ 0 ≤ t ∧ ¬ (d = 0 ∧ t = 0) ∧ (0 < d ∧ 0 < t → (d = 3 ∨ d = 5 ∨ d = 6) ∧ t ≤ 3))
def Stm.dn (t : Stm) : Int := whN (tlB t.y) (tlB t.m) (tlB t.d)
def Stm.tn (t : Stm) : Int := whN (tlB t.h) (tlB t.i) (tlB t.s)
def Stm.frm (t : Stm) : Bool := okN t.dn t.tn && (if t.z then tlB t.h else decide (t.o = 0))
def Stm.day (t : Stm) : Int := if t.m = -1 then 31 else dayN t.y t.m
def Stm.rng (t : Stm) : Bool := witB t.y 0 9999 && (witB t.m 1 12 && (witB t.d 1 t.day && (witB t.h 0 23 && (witB t.i 0 59 && (witB t.s 0 59 && zrB t.o)))))
def Stm.e (t : Stm) : Int := if t.frm then (if t.rng then 0 else 2) else 3
def Stm.E (t : Stm) : Err := if t.frm then (if t.rng then .none else .errno 2) else .errno 3
/-- Four digits. -/
def fourS (n : Int) : List UInt8 := bytesI [48 + n / 1000, 48 + n / 100 % 10, 48 + n / 10 % 10, 48 + n % 10]
def dateS (a b c : Bool) (y m d : Int) : List UInt8 := match a, b, c with
  | true, false, false => fourS y
  | true, true, false => (fourS y ++ [45]) ++ twoS m
  | true, true, true => (fourS y ++ twoS m) ++ twoS d
  | false, true, false => [45, 45] ++ twoS m
  | false, true, true => ([45, 45] ++ twoS m) ++ twoS d
  | false, false, true => [45, 45, 45] ++ twoS d
  | _, _, _ => []
def timeS (a b c : Bool) (h m s : Int) : List UInt8 := match a, b, c with
  | true, false, false => [84] ++ twoS h
  | true, true, false => ([84] ++ twoS h) ++ twoS m
  | true, true, true => (([84] ++ twoS h) ++ twoS m) ++ twoS s
  | false, true, false => ([84] ++ [45]) ++ twoS m
  | false, true, true => (([84] ++ [45]) ++ twoS m) ++ twoS s
  | false, false, true => (([84] ++ [45]) ++ [45]) ++ twoS s
  | _, _, _ => []
def Stm.txt (t : Stm) : List UInt8 := dateS (tlB t.y) (tlB t.m) (tlB t.d) t.y t.m t.d ++ timeS (tlB t.h) (tlB t.i) (tlB t.s) t.h t.i t.s ++ (if t.z then zprS t.o else [])
/-- The stamp as text; none where it isn't right. -/
def Stm.T (t : Stm) : List UInt8 := if t.frm then (if t.rng then t.txt else []) else []
end Go.Proofs.YtcoidjllehieeaaGreatDoor
namespace Go.Proofs.YtcoidjllehieeaaGreatDoor
open Go
set_option maxRecDepth 20000
set_option maxHeartbeats 4000000
set_option linter.unusedSimpArgs false
set_option linter.unusedVariables false
attribute [local irreducible] AWp AOps byteAt SrcOK OrOk GloAll FnSpec
/-- Where a byte stands first. -/
def idxF (c : Int) : List UInt8 → Nat → Int
  | [], _ => -1
  | x :: t, k => if (x.toNat : Int) = c then k else idxF c t (k + 1)
def idxB (s : List UInt8) (c : Int) : Int := idxF c s 0
theorem idxF_find {c : UInt8} (b : ByteArray) : ∀ (t : List UInt8) (k : Nat), (∀ j, j < t.length → b[k + j]! = t.getD j 0) →
    (match (List.range' k t.length).find? fun i => b[i]! == c with | some i => (i : Int) | none => -1) = idxF (c.toNat : Int) t k
  | [], _, _ => by simp [idxF]
  | x :: t, k, h => by
    have h0 := h 0 (by simp)
    simp only [Nat.add_zero, List.getD_cons_zero] at h0
    rw [List.length_cons, List.range'_succ, List.find?_cons, h0]
    by_cases e : x = c
    · subst e; simp [idxF]
    · have e1 : (x == c) = false := by simpa using e
      rw [e1]
      have e2 : ¬ ((x.toNat : Int) = (c.toNat : Int)) := by
        intro h; exact e (UInt8.toNat_inj.1 (by omega))
      simp only [idxF, if_neg e2]
      exact idxF_find b t (k + 1) (fun j hj => by
        have := h (j + 1) (by simpa using hj)
        rw [show k + 1 + j = k + (j + 1) by omega, this]; simp)
theorem bytealg_IndexByteString {G : Glo} (s : List UInt8) (c : Int) (h0 : 0 ≤ c) (h1 : c ≤ 255) : FnIs Tryz.prog G 76 [.str s, .int .u8 c] (.int .i64 (idxB s c)) := by
  refine fnis_extern Tryz.func76 (by kernel_rfl) (by kernel_rfl) (by kernel_rfl) (e := Go.Extern.BytealgIndexByte.indexByte) (by kernel_rfl) ?_
  intro R args ha w
  obtain ⟨x, t, e, hx, y, t', e', hy, rfl⟩ := ha
  have hx := rel_str.1 hx
  have hy := rel_int.1 hy
  subst hx hy
  obtain rfl : args = #[.string ⟨s.toArray⟩, .int .u8 c] := by cases args; simp_all
  refine ⟨.int .i64 (idxB s c), ?_, rel_int.2 rfl⟩
  have hc : (c.toNat.toUInt8).toNat = c.toNat := by
    show (UInt8.ofNat c.toNat).toNat = _
    rw [UInt8.toNat_ofNat']; omega
  have key := idxF_find (c := c.toNat.toUInt8) ⟨s.toArray⟩ s 0 (fun j hj => by
    rw [Nat.zero_add]
    rw [getElem!_pos (⟨s.toArray⟩ : ByteArray) j (by rw [str_size]; exact hj)]
    show s.toArray[j] = _
    simp [List.getD, hj])
  rw [hc, Int.toNat_of_nonneg h0] at key
  have e : Go.Extern.BytealgIndexByte.indexByte #[.string ⟨s.toArray⟩, .int .u8 c] = (match (List.range (⟨s.toArray⟩ : ByteArray).size).find? fun i => (⟨s.toArray⟩ : ByteArray)[i]! == c.toNat.toUInt8 with | some i => pure (goInt i) | none => pure (goInt (-1))) := rfl
  rw [e, str_size, List.range_eq_range']
  unfold idxB
  rw [← key]
  generalize List.find? _ _ = o
  cases o <;> rfl
theorem stringslite_IndexByte {G : Glo} (s : List UInt8) (c : Int) (h0 : 0 ≤ c) (h1 : c ≤ 255) : FnIs Tryz.prog G 56 [.str s, .int .u8 c] (.int .i64 (idxB s c)) := by
  have hb := bytealg_IndexByteString (G := G) s c h0 h1
  have hGL : GloAll G [] := gloAll_nil
  refine fn_x Tryz.func56 Tryz.call56 rfl rfl rfl rfl hGL ?_
  intro C hC
  repeat' (first | (conv => whnf); first | refine .w ?_ | refine .v ?_ | refine sc_c ?_ ?_ <;> (intro hb; try exact dd hb) | apply sc_not | apply sc_or | (apply sc_i <;> intro hb) | (apply bx_i; intro hbd) | (apply cx_is; first | exact hb) | (apply cx_do (i := 0) rfl; first | exact hb) | (apply ab_i; intro bl) | (apply as_i; intro va vk vc hva) | (apply av_i; intro v) | (apply ac_i; intro bl cap hcap) | apply bo_l | (apply nx_i <;> intro hnx) | exact rt_w | apply dw_q mixed hC hGL (by kernel_rfl) | (apply cq; assumption; (first | exact hb); exact rfl))
  all_goals try conv => whnf
theorem strings_IndexByte {G : Glo} (s : List UInt8) (c : Int) (h0 : 0 ≤ c) (h1 : c ≤ 255) : FnIs Tryz.prog G 38 [.str s, .int .u8 c] (.int .i64 (idxB s c)) := by
  have hb := stringslite_IndexByte (G := G) s c h0 h1
  have hGL : GloAll G [] := gloAll_nil
  refine fn_x Tryz.func38 Tryz.call38 rfl rfl rfl rfl hGL ?_
  intro C hC
  repeat' (first | (conv => whnf); first | refine .w ?_ | refine .v ?_ | refine sc_c ?_ ?_ <;> (intro hb; try exact dd hb) | apply sc_not | apply sc_or | (apply sc_i <;> intro hb) | (apply bx_i; intro hbd) | (apply cx_is; first | exact hb) | (apply cx_do (i := 0) rfl; first | exact hb) | (apply ab_i; intro bl) | (apply as_i; intro va vk vc hva) | (apply av_i; intro v) | (apply ac_i; intro bl cap hcap) | apply bo_l | (apply nx_i <;> intro hnx) | exact rt_w | apply dw_q mixed hC hGL (by kernel_rfl) | (apply cq; assumption; (first | exact hb); exact rfl))
  all_goals try conv => whnf
end Go.Proofs.YtcoidjllehieeaaGreatDoor
namespace Go.Proofs.YtcoidjllehieeaaGreatDoor
open Go Go.RowKit
set_option maxRecDepth 20000
set_option maxHeartbeats 4000000
set_option linter.unusedSimpArgs false
set_option linter.unusedVariables false
attribute [local irreducible] AWp AOps byteAt SrcOK OrOk GloAll FnSpec
attribute [local irreducible] idxB
theorem strings_ToLower {G : Glo} (s : List UInt8) (hs : s.length ≤ 140737488355328) (ha : ∀ j, j < s.length → byteAt s j < 128) : FnIs Tryz.prog G 39 [.str s] (.str (Lib.toLowerA s)) := by
  refine fnis_of_calls rfl Tryz.call39 ?_
  intro R args hr w _ _
  obtain ⟨x, t, e, hx, rfl⟩ := hr
  have hx := rel_str.1 hx
  subst hx
  obtain rfl : args = #[.string ⟨s.toArray⟩] := by cases args; simp_all
  have := Tryz.strings_ToLower_ascii ⟨s.toArray⟩ w (by rw [str_size]; exact hs) (fun j b hb => by
    have hb' : s[j]? = some b := by simpa using hb
    have hj := (List.getElem?_eq_some_iff.1 hb').1
    have h2 := ha j hj
    unfold byteAt at h2
    simpa [List.getD, hb'] using h2)
  simp only [AVal.conc]
  simpa using this
def abcU : List UInt8 := [65, 66, 67, 68, 69, 70, 71, 72, 73, 74, 75, 76, 77, 78, 79, 80, 81, 82, 83, 84, 85, 86, 87, 88, 89, 90]
def abcL : List UInt8 := [97, 98, 99, 100, 101, 102, 103, 104, 105, 106, 107, 108, 109, 110, 111, 112, 113, 114, 115, 116, 117, 118, 119, 120, 121, 122]
def digsD : List UInt8 := [48, 49, 50, 51, 52, 53, 54, 55, 56, 57, 45]
theorem toLower_abc {G : Glo} : FnIs Tryz.prog G 39 [.str abcU] (.str abcL) := by
  have h := strings_ToLower (G := G) abcU (by decide) (by decide +kernel)
  have e : Lib.toLowerA abcU = abcL := by decide
  rwa [e] at h
/-- A fact of all bytes, looked through one by one. -/
theorem all_bytes {p : Int → Bool} (h : ∀ c : Fin 256, p (c.1 : Int) = true) {c : Int} (h0 : 0 ≤ c) (h1 : c ≤ 255) : p c = true := by
  have := h ⟨c.toNat, by omega⟩
  simpa only [Int.toNat_of_nonneg h0] using this
theorem idx_letter {c : Int} (h0 : 0 ≤ c) (h1 : c ≤ 255) : decide (idxB ((abcU ++ abcL) ++ digsD) c < 0) = !letterB c := by
  have := all_bytes (p := fun c => decide (idxB ((abcU ++ abcL) ++ digsD) c < 0) == !letterB c) (by decide +kernel) h0 h1
  simpa using this
theorem ref_Is {G : Glo} (s : List UInt8) (hl : s.length ≤ 9223372036854775807) : FnIs Tryz.prog G 45 [.str s] (.bool (isS s)) := by
  have hGL : GloAll G [] := gloAll_nil
  refine fn_x Tryz.func45 Tryz.call45 rfl rfl rfl rfl hGL ?_
  intro C hC
  have hT := toLower_abc (G := G)
  have hI := fun c h0 h1 => strings_IndexByte (G := G) ((abcU ++ abcL) ++ digsD) c h0 h1
  have hW := ref_within (G := G) (s.length : Int) 1 40
  repeat' (first | (conv => whnf); first | refine .w ?_ | refine .v ?_ | refine sc_c ?_ ?_ <;> (intro hb; try exact dd hb) | apply sc_not | apply sc_or | (apply sc_i <;> intro hb) | (apply bx_i; intro hbd) | (apply cx_is; first | fail) | (apply cx_do (i := 0) rfl; first | fail) | (apply ab_i; intro bl) | (apply as_i; intro va vk vc hva) | (apply av_i; intro v) | (apply ac_i; intro bl cap hcap) | apply bo_l | (apply nx_i <;> intro hnx) | exact rt_w | apply dw_q mixed hC hGL (by kernel_rfl) | (apply cq; assumption; (first | fail); exact rfl))
  all_goals try conv => whnf
  refine lp hC hGL (fun (i : Nat) => [(0, .str s), (6, .own 0 (.slice (some ⟨bl, 0, none⟩) s.length cap)), (7, .int .i64 s.length), (8, .int .i64 i)]) (fun _ => [.buf bl s cap]) (fun i => i ≤ s.length ∧ ∀ j, j < i → letterB (byteAt s j) = true) (fun i => s.length - i) 0 ?_ env_w rfl ?_
  · exact ⟨Nat.zero_le _, by intro j hj; omega⟩
  rintro i ⟨hi, hb0⟩
  repeat' (first | (conv => whnf); first | refine .w ?_ | refine .v ?_ | refine sc_c ?_ ?_ <;> (intro hb; try exact dd hb) | apply sc_not | apply sc_or | (apply sc_i <;> intro hb) | (apply bx_i; intro hbd) | (apply cx_is; first | exact hT | exact hW | (exact hI _ (by omega) (by omega))) | (apply cx_do (i := 0) rfl; first | exact hT | exact hW | (exact hI _ (by omega) (by omega))) | (apply ab_i; intro bl) | (apply as_i; intro va vk vc hva) | (apply av_i; intro v) | (apply ac_i; intro bl cap hcap) | apply bo_l | (apply nx_i <;> intro hnx) | exact rt_w | apply dw_q mixed hC hGL (by kernel_rfl) | (apply cq; assumption; (first | exact hT | exact hW | (exact hI _ (by omega) (by omega))); exact rfl))
  all_goals try conv => whnf
  · apply rt_is
    have hx := idx_letter (c := (byteAt s i : Int)) (by omega) (by omega)
    rw [decide_eq_true hb] at hx
    rw [isS, allB_f (j := i) (by omega) (by simpa using hx.symm)]
    rfl
  · have hx := idx_letter (c := (byteAt s i : Int)) (by omega) (by omega)
    rw [decide_eq_false (by omega)] at hx
    refine nxt (i + 1) ?_ ?_ env_w rfl
    · exact ⟨by omega, below_succ hb0 (by simpa using hx.symm)⟩
    · omega
  · apply rt_is
    refine congrArg AVal.bool ?_
    have ha : allB letterB s = true := allB_t.2 fun j hj => hb0 j (by omega)
    simp only [isS, ha, Bool.true_and]
    rw [Bool.eq_iff_iff]
    simp only [Bool.and_eq_true, decide_eq_true_eq]
    omega
theorem idx_up {c : Int} (h0 : 0 ≤ c) (h1 : c ≤ 255) : (if 0 ≤ idxB abcL c then idxB abcL c < 26 ∧ (byteAt abcU (idxB abcL c).toNat : Int) = turnN 97 122 (-32) c.toNat else turnN 97 122 (-32) c.toNat = c) := by
  have := all_bytes (p := fun c => decide (if 0 ≤ idxB abcL c then idxB abcL c < 26 ∧ (byteAt abcU (idxB abcL c).toNat : Int) = turnN 97 122 (-32) c.toNat else turnN 97 122 (-32) c.toNat = c)) (by decide +kernel) h0 h1
  simpa using this
theorem idx_low {c : Int} (h0 : 0 ≤ c) (h1 : c ≤ 255) : (if 0 ≤ idxB abcU c then idxB abcU c < 26 ∧ (byteAt abcL (idxB abcU c).toNat : Int) = turnN 65 90 32 c.toNat else turnN 65 90 32 c.toNat = c) := by
  have := all_bytes (p := fun c => decide (if 0 ≤ idxB abcU c then idxB abcU c < 26 ∧ (byteAt abcL (idxB abcU c).toNat : Int) = turnN 65 90 32 c.toNat else turnN 65 90 32 c.toNat = c)) (by decide +kernel) h0 h1
  simpa using this
theorem ref_Upper {G : Glo} (s : List UInt8) (hl : s.length ≤ 9223372036854775807) : FnIs Tryz.prog G 40 [.str s] (.str (turnS 97 122 (-32) s)) := by
  have hGL : GloAll G [] := gloAll_nil
  refine fn_x Tryz.func40 Tryz.call40 rfl rfl rfl rfl hGL ?_
  intro C hC
  have hT := toLower_abc (G := G)
  have hcT := Tryz.call39
  have hcI := Tryz.call38
  have hI := fun c h0 h1 => strings_IndexByte (G := G) abcL c h0 h1
  have eU : abcU.length = 26 := rfl
  repeat' (first | (conv => whnf); first | refine .w ?_ | refine .v ?_ | refine sc_c ?_ ?_ <;> (intro hb; try exact dd hb) | apply sc_not | apply sc_or | (apply sc_i <;> intro hb) | (apply bx_i; intro hbd) | (apply cx_is; first | fail) | (apply cx_do (i := 0) rfl; first | fail) | (apply ab_i; intro bl) | (apply as_i; intro va vk vc hva) | (apply av_i; intro v) | (apply ac_i; intro bl cap hcap) | apply bo_l | (apply nx_i <;> intro hnx) | exact rt_w | apply dw_q mixed hC hGL (by kernel_rfl) | (apply cq; assumption; (first | fail); exact rfl))
  all_goals try conv => whnf
  refine lp hC hGL (fun (x : Nat × List UInt8) => [(3, .own 0 (.slice (some ⟨bl, 0, none⟩) s.length cap)), (9, .int .i64 s.length), (10, .int .i64 x.1)]) (fun x => [.buf bl x.2 cap]) (Turned 97 122 (-32) s) (fun x => s.length - x.1) (0, s) ?_ env_w rfl ?_
  · exact turned_0
  rintro ⟨i, t⟩ hI0
  have hi := hI0.1
  have ht := hI0.2.1
  dsimp only at hi ht ⊢
  repeat' (first | (conv => whnf); first | refine .w ?_ | refine .v ?_ | refine sc_c ?_ ?_ <;> (intro hb; try exact dd hb) | apply sc_not | apply sc_or | (apply sc_i <;> intro hb) | (apply bx_i; intro hbd) | (apply cx_is; first | exact hT | (exact hI _ (by omega) (by omega))) | (apply cx_do (i := 0) rfl; first | exact hT | (exact hI _ (by omega) (by omega))) | (apply ab_i; intro bl) | (apply as_i; intro va vk vc hva) | (apply av_i; intro v) | (apply ac_i; intro bl cap hcap) | apply bo_l | (apply nx_i <;> intro hnx) | exact rt_w | apply dw_q mixed hC hGL (by kernel_rfl) | (apply cq; assumption; (first | exact hT | (exact hI _ (by omega) (by omega))); exact rfl))
  all_goals try conv => whnf
  · have e := turned_at hI0 (by omega)
    have hx := idx_up (c := (byteAt s i : Int)) (by omega) (by omega)
    rw [if_pos (by rw [← e]; exact hb), ← e] at hx
    repeat' (first | (conv => whnf); first | refine .w ?_ | refine .v ?_ | refine sc_c ?_ ?_ <;> (intro hb; try exact dd hb) | apply sc_not | apply sc_or | (apply sc_i <;> intro hb) | (apply bx_i; intro hbd) | (apply cx_is; first | fail) | (apply cx_do (i := 0) rfl; first | fail) | (apply ab_i; intro bl) | (apply as_i; intro va vk vc hva) | (apply av_i; intro v) | (apply ac_i; intro bl cap hcap) | apply bo_l | (apply nx_i <;> intro hnx) | exact rt_w | apply dw_q mixed hC hGL (by kernel_rfl) | (apply cq; assumption; (first | fail); exact rfl))
    all_goals try conv => whnf
    refine nxt (i + 1, t.set i (UInt8.ofNat ((byteAt abcU (idxB abcL (byteAt t i)).toNat : Nat) : Int).toNat)) ?_ ?_ env_w rfl
    · refine turned_hit hI0 (by omega) ?_ (by omega) (by have := byteAt_lt abcU (idxB abcL (byteAt t i)).toNat; omega)
      rw [hx.2, e]
      simp only [Int.toNat_natCast]
    · dsimp only; omega
  · have e := turned_at hI0 (by omega)
    have hx := idx_up (c := (byteAt s i : Int)) (by omega) (by omega)
    rw [if_neg (by rw [← e]; omega)] at hx
    refine nxt (i + 1, t) ?_ ?_ env_w rfl
    · exact turned_miss hI0 (by omega) (by simpa using hx)
    · dsimp only; omega
  · apply rt_is
    rw [turned_end (by decide) (by decide) hI0 (by omega)]
theorem ref_Lower {G : Glo} (s : List UInt8) (hl : s.length ≤ 9223372036854775807) : FnIs Tryz.prog G 27 [.str s] (.str (turnS 65 90 32 s)) := by
  have hGL : GloAll G [] := gloAll_nil
  refine fn_x Tryz.func27 Tryz.call27 rfl rfl rfl rfl hGL ?_
  intro C hC
  have hT := toLower_abc (G := G)
  have hI := fun c h0 h1 => strings_IndexByte (G := G) abcU c h0 h1
  have eL : abcL.length = 26 := rfl
  repeat' (first | (conv => whnf); first | refine .w ?_ | refine .v ?_ | refine sc_c ?_ ?_ <;> (intro hb; try exact dd hb) | apply sc_not | apply sc_or | (apply sc_i <;> intro hb) | (apply bx_i; intro hbd) | (apply cx_is; first | fail) | (apply cx_do (i := 0) rfl; first | fail) | (apply ab_i; intro bl) | (apply as_i; intro va vk vc hva) | (apply av_i; intro v) | (apply ac_i; intro bl cap hcap) | apply bo_l | (apply nx_i <;> intro hnx) | exact rt_w | apply dw_q mixed hC hGL (by kernel_rfl) | (apply cq; assumption; (first | fail); exact rfl))
  all_goals try conv => whnf
  refine lp hC hGL (fun (x : Nat × List UInt8) => [(3, .own 0 (.slice (some ⟨bl, 0, none⟩) s.length cap)), (9, .int .i64 s.length), (10, .int .i64 x.1)]) (fun x => [.buf bl x.2 cap]) (Turned 65 90 32 s) (fun x => s.length - x.1) (0, s) ?_ env_w rfl ?_
  · exact turned_0
  rintro ⟨i, t⟩ hI0
  have hi := hI0.1
  have ht := hI0.2.1
  dsimp only at hi ht ⊢
  repeat' (first | (conv => whnf); first | refine .w ?_ | refine .v ?_ | refine sc_c ?_ ?_ <;> (intro hb; try exact dd hb) | apply sc_not | apply sc_or | (apply sc_i <;> intro hb) | (apply bx_i; intro hbd) | (apply cx_is; first | exact hT | (exact hI _ (by omega) (by omega))) | (apply cx_do (i := 0) rfl; first | exact hT | (exact hI _ (by omega) (by omega))) | (apply ab_i; intro bl) | (apply as_i; intro va vk vc hva) | (apply av_i; intro v) | (apply ac_i; intro bl cap hcap) | apply bo_l | (apply nx_i <;> intro hnx) | exact rt_w | apply dw_q mixed hC hGL (by kernel_rfl) | (apply cq; assumption; (first | exact hT | (exact hI _ (by omega) (by omega))); exact rfl))
  all_goals try conv => whnf
  · have e := turned_at hI0 (by omega)
    have hx := idx_low (c := (byteAt s i : Int)) (by omega) (by omega)
    rw [if_pos (by rw [← e]; exact hb), ← e] at hx
    repeat' (first | (conv => whnf); first | refine .w ?_ | refine .v ?_ | refine sc_c ?_ ?_ <;> (intro hb; try exact dd hb) | apply sc_not | apply sc_or | (apply sc_i <;> intro hb) | (apply bx_i; intro hbd) | (apply cx_is; first | exact hT) | (apply cx_do (i := 0) rfl; first | exact hT) | (apply ab_i; intro bl) | (apply as_i; intro va vk vc hva) | (apply av_i; intro v) | (apply ac_i; intro bl cap hcap) | apply bo_l | (apply nx_i <;> intro hnx) | exact rt_w | apply dw_q mixed hC hGL (by kernel_rfl) | (apply cq; assumption; (first | exact hT); exact rfl))
    all_goals try conv => whnf
    refine nxt (i + 1, t.set i (UInt8.ofNat ((byteAt abcL (idxB abcU (byteAt t i)).toNat : Nat) : Int).toNat)) ?_ ?_ env_w rfl
    · refine turned_hit hI0 (by omega) ?_ (by omega) (by have := byteAt_lt abcL (idxB abcU (byteAt t i)).toNat; omega)
      rw [hx.2, e]
      simp only [Int.toNat_natCast]
    · dsimp only; omega
  · have e := turned_at hI0 (by omega)
    have hx := idx_low (c := (byteAt s i : Int)) (by omega) (by omega)
    rw [if_neg (by rw [← e]; omega)] at hx
    refine nxt (i + 1, t) ?_ ?_ env_w rfl
    · exact turned_miss hI0 (by omega) (by simpa using hx)
    · dsimp only; omega
  · apply rt_is
    rw [turned_end (by decide) (by decide) hI0 (by omega)]
end Go.Proofs.YtcoidjllehieeaaGreatDoor
namespace Go.Proofs.YtcoidjllehieeaaGreatDoor
open Go
/-- A byte that may stand in a scheme, at a place. -/
def schB (i : Nat) (c : Int) : Bool := decide ((97 ≤ c ∧ c ≤ 122) ∨ (65 ≤ c ∧ c ≤ 90) ∨ (0 < i ∧ ((48 ≤ c ∧ c ≤ 57) ∨ c = 43 ∨ c = 45 ∨ c = 46)))
/-- How many bytes the scheme has. -/
def begN (s : List UInt8) : Nat := if idxB s 58 < 1 then 0 else if ∀ j, j < (idxB s 58).toNat → schB j (byteAt s j) = true then (idxB s 58).toNat else 0
set_option maxRecDepth 20000
set_option maxHeartbeats 4000000
set_option linter.unusedSimpArgs false
set_option linter.unusedVariables false
attribute [local irreducible] AWp AOps byteAt SrcOK OrOk GloAll FnSpec
attribute [local irreducible] idxB begN schB
/-- No byte that may not be seen, from a place on. -/
def graphB (c : Int) : Bool := decide (33 ≤ c ∧ c ≤ 126)
/-- The first byte of which something holds. -/
def fstG (f : Int → Bool) : List UInt8 → Nat → Int
  | [], _ => -1
  | x :: t, k => if f (x.toNat : Int) then k else fstG f t (k + 1)
def fstB (f : Int → Bool) (s : List UInt8) : Int := fstG f s 0
theorem fstG_spec {f : Int → Bool} : ∀ (t : List UInt8) (k : Nat), (fstG f t k = -1 ∧ ∀ j, j < t.length → f (byteAt t j : Int) = false) ∨ ∃ m, m < t.length ∧ fstG f t k = ((k + m : Nat) : Int) ∧ f (byteAt t m : Int) = true ∧ ∀ j, j < m → f (byteAt t j : Int) = false
  | [], _ => .inl ⟨rfl, fun j h => absurd h (Nat.not_lt_zero _)⟩
  | x :: t, k => by
    by_cases e : f (x.toNat : Int) = true
    · refine .inr ⟨0, by simp, by simp [fstG, e], by simpa [byteAt] using e, fun j h => absurd h (Nat.not_lt_zero _)⟩
    · have e1 : fstG f (x :: t) k = fstG f t (k + 1) := by simp [fstG, e]
      rcases fstG_spec (f := f) t (k + 1) with ⟨h1, h2⟩ | ⟨m, h1, h2, h3, h4⟩
      · refine .inl ⟨by rw [e1, h1], fun j hj => ?_⟩
        cases j with
        | zero => simpa [byteAt] using e
        | succ j => simpa [byteAt] using h2 j (by simpa using hj)
      · refine .inr ⟨m + 1, by simpa using h1, by rw [e1, h2]; omega, by simpa [byteAt] using h3, fun j hj => ?_⟩
        cases j with
        | zero => simpa [byteAt] using e
        | succ j => simpa [byteAt] using h4 j (by omega)
theorem fstB_at {f : Int → Bool} {s : List UInt8} {i : Nat} (hi : i < s.length) (h : f (byteAt s i : Int) = true) (h0 : ∀ j, j < i → f (byteAt s j : Int) = false) : fstB f s = i := by
  rcases fstG_spec (f := f) s 0 with ⟨h1, h2⟩ | ⟨m, h1, h2, h3, h4⟩
  · rw [h2 i hi] at h; cases h
  · unfold fstB
    rw [h2]
    have : m = i := by
      rcases Nat.lt_trichotomy m i with h5 | h5 | h5
      · rw [h0 m h5] at h3; cases h3
      · exact h5
      · rw [h4 i h5] at h; cases h
    omega
theorem fstB_none {f : Int → Bool} {s : List UInt8} (h0 : ∀ j, j < s.length → f (byteAt s j : Int) = false) : fstB f s = -1 := by
  rcases fstG_spec (f := f) s 0 with ⟨h1, h2⟩ | ⟨m, h1, h2, h3, h4⟩
  · exact h1
  · rw [h0 m h1] at h3; cases h3
attribute [local irreducible] graphB fstB
def nographB (c : Int) : Bool := !graphB c
/-- What is wrong with a text as a URI. -/
def uriE (s : List UInt8) : Err := if begN s = 0 then .errno 8 else if 0 ≤ fstB nographB s then .at 3 (fstB nographB s) else if begN s + 1 = s.length then .at 7 s.length else .none
attribute [local irreducible] nographB
end Go.Proofs.YtcoidjllehieeaaGreatDoor
namespace Go.Proofs.YtcoidjllehieeaaGreatDoor
open Go Go.RowKit
/-- What is known of the bound that package bytealg keeps. -/
noncomputable abbrev maxTy (m : Int) : List (Nat × List AVal) := [(2, [.int .i64 m])]
theorem max_cell {G : Glo} {m : Int} (hU : GloAll G (maxTy m)) {R : Seal} {w : World} (hG : G.p R) (hs : Sealed R w) : w.cell? ⟨2, 0, none⟩ = some (.int .i64 m) := by
  obtain ⟨v, hc, hr⟩ := SealedAt.cell hs (hU 2 [.int .i64 m] rfl R hG) (i := 0) rfl
  have hr : [v] = [Value.int .i64 m] := hr
  rw [(List.cons.inj hr).1] at hc
  exact hc
/-- What the digits' table holds. -/
def PowIs (G : Glo) : Prop := ∀ R, G.p R → ∃ e fz, R 6 = some (.cells (Lib.pow10Tab.map fun z => Value.int .u64 z).toArray e fz)
end Go.Proofs.YtcoidjllehieeaaGreatDoor
namespace Go.Proofs.YtcoidjllehieeaaGreatDoor
open Go Go.RowKit
/-- A text cut at a byte. -/
def splS (c : UInt8) : List UInt8 → List (List UInt8)
  | [] => [[]]
  | x :: t => if x = c then [] :: splS c t else match splS c t with
    | [] => [[x]]
    | p :: ps => (x :: p) :: ps
theorem splS_ne (c : UInt8) : ∀ s : List UInt8, splS c s ≠ []
  | [] => by simp [splS]
  | x :: t => by
    unfold splS
    split
    · simp
    · split <;> simp
theorem index_nil1 (c : UInt8) : Lib.index [] [c] = -1 := rfl
theorem index_hit1 {x c : UInt8} {t : List UInt8} (h : x = c) : Lib.index (x :: t) [c] = 0 := by
  subst h
  simp [Lib.index, List.isPrefixOf]
theorem index_skip1 {x c : UInt8} {t : List UInt8} (h : x ≠ c) : Lib.index (x :: t) [c] = if Lib.index t [c] == -1 then -1 else Lib.index t [c] + 1 := by
  have : (c == x) = false := by simpa using Ne.symm h
  simp [Lib.index, List.isPrefixOf, this]
theorem splitK_hit {sep s : List UInt8} {k i : Nat} (h : Lib.index s sep = i) : Lib.splitK sep 0 (k + 1) s = s.take i :: Lib.splitK sep 0 k (s.drop (i + sep.length)) := by
  have hm : ¬ (Lib.index s sep == -1) = true := fun e => by have := beq_iff_eq.1 e; omega
  rw [Lib.splitK, if_neg hm, h]
  simp
theorem split_splS (c : UInt8) : ∀ s : List UInt8, Lib.splitK [c] 0 (Lib.count s [c]) s = splS c s
  | [] => by rw [Lib.count_miss (index_nil1 c)]; rfl
  | x :: t => by
    have ih := split_splS c t
    by_cases hx : x = c
    · have h0 : Lib.index (x :: t) [c] = (0 : Nat) := index_hit1 hx
      rw [Lib.count_hit (by simp) h0, Nat.add_comm, splitK_hit h0]
      simp only [List.take_zero, List.length_cons, List.length_nil, Nat.zero_add, List.drop_succ_cons, List.drop_zero]
      rw [ih, splS, if_pos hx]
    · have h1 := index_skip1 (t := t) hx
      rcases Lib.index_spec t [c] with ⟨h2, _⟩ | ⟨i, h2, _⟩
      · rw [h2] at h1
        have h1 : Lib.index (x :: t) [c] = -1 := by simpa using h1
        rw [Lib.count_miss h2] at ih
        rw [Lib.count_miss h1, splS, if_neg hx, ← ih]
        rfl
      · have hne : ¬ ((i : Int) == -1) = true := fun e => by have := beq_iff_eq.1 e; omega
        rw [h2, if_neg hne] at h1
        have h1 : Lib.index (x :: t) [c] = ((i + 1 : Nat) : Int) := by rw [h1]; omega
        rw [Lib.count_hit (by simp) h2, Nat.add_comm, splitK_hit h2] at ih
        rw [Lib.count_hit (by simp) h1, Nat.add_comm, splitK_hit h1, splS, if_neg hx, ← ih]
        rfl
/-- A fresh row that a call hands back. -/
theorem fnspec_new_row {P : Program} {G : Glo} {f : FuncId} {avs : List AVal} {H : Heap} {sz m : Nat} {cs : List AVal} {T : TypeId} (hc : ∀ args w, (callFunc f args).run P w = .ok (.enter f args) w)
    (hlen : cs.length = m * sz)
    (h : ∀ C R args, RelV R avs args.toList → ∀ w, G.p R → MS C R H w → Calls P f args w fun e w' => ∃ (w1 : World) (Cs : Array Value), Below w.heap.size w w1 ∧ e = .returned (.slice (some ⟨w1.heap.size, 0, none⟩) m m) ∧ w' = w1.alloc (.cells Cs T) ∧ Cs.size = m * sz ∧ ∀ R, RelL R cs Cs.toList) :
    FnSpec P G f avs H (fun r H' => ∃ b, r = .ret (.own H.length (.slice (some ⟨b, 0, none⟩) m m)) ∧ H' = H ++ [.row (.slice (some ⟨b, 0, none⟩) m m) (some T) sz m cs]) := by
  intro R w args hG hm ha
  refine .inl ⟨hc args w, (h _ R args ha w hG hm).mono ?_⟩
  rintro e w' ⟨w1, Cs, hb, rfl, rfl, hsz, hr⟩
  have hm1 := hm.below hb
  have hm2 := hm1.alloc (.cells Cs T) (.row (.slice (some ⟨w1.heap.size, 0, none⟩) m m) (some T) sz m cs) rfl ?_
  · exact ⟨_, _, R, ⟨w1.heap.size, rfl, rfl⟩, ⟨_, rfl, rel_own.2 ⟨rfl, rfl⟩⟩, hm2.perm (List.perm_append_singleton _ _).symm⟩
  · refine ⟨hlen, .inr ⟨w1.heap.size, m, Cs, T, (0, 0), rfl, grow_at _ _, hsz, Nat.le_refl _, ?_, .inl (Nat.le_refl _), fun t ht => Option.some.inj ht⟩⟩
    have := hr R
    have hl := relL_length this
    rwa [List.take_of_length_le (by omega)]
theorem relL_strs (R : Seal) : ∀ l : List (List UInt8), RelL R (strsC l) (l.map fun s => Value.string ⟨s.toArray⟩)
  | [] => rfl
  | _ :: l => ⟨_, _, rfl, rfl, relL_strs R l⟩
theorem split_row {G : Glo} {m : Int} (hU : GloAll G (maxTy m)) (H : Heap) (s : List UInt8) (c : UInt8) (hl : s.length < 100000) :
    FnSpec Tryz.prog G 46 [.str s, .str [c]] H (fun r H' => ∃ b, r = .ret (.own H.length (.slice (some ⟨b, 0, none⟩) (splS c s).length (splS c s).length)) ∧ H' = H ++ [.row (.slice (some ⟨b, 0, none⟩) (splS c s).length (splS c s).length) (some 9) 1 (splS c s).length (strsC (splS c s))]) := by
  refine fnspec_new_row Tryz.call46 (by rw [strsC_len, Nat.mul_one]) ?_
  rintro C R args ⟨x, t, e, hx, y, t', e', hy, rfl⟩ w hG hm
  obtain rfl := rel_str.1 hx
  obtain rfl := rel_str.1 hy
  subst e'
  obtain rfl := arr_of e
  refine (Tryz.strings_Split ⟨s.toArray⟩ ⟨#[c]⟩ m w (by rw [str_size]; omega) (max_cell hU hG hm.sealed) (Nat.le_refl 1)).mono ?_
  rintro e w' ⟨rfl, rfl⟩
  have hd := Lib.splitB_data ⟨#[c]⟩ 0 (Lib.countB ⟨s.toArray⟩ ⟨#[c]⟩) ⟨s.toArray⟩
  have hd : (Lib.splitB ⟨#[c]⟩ 0 (Lib.countB ⟨s.toArray⟩ ⟨#[c]⟩) ⟨s.toArray⟩).map (·.data.toList) = splS c s := hd.trans (split_splS c s)
  have hn : (splS c s).length = Lib.countB ⟨s.toArray⟩ ⟨#[c]⟩ + 1 := by
    have h1 := Lib.splitB_all ⟨#[c]⟩ (Nat.le_refl 1) 0 _ ⟨s.toArray⟩ rfl
    rw [← hd, List.length_map, h1]
  rw [hn]
  have hm2 : (Lib.splitB ⟨#[c]⟩ 0 (Lib.countB ⟨s.toArray⟩ ⟨#[c]⟩) ⟨s.toArray⟩).map Value.string = (splS c s).map fun s => Value.string ⟨s.toArray⟩ := by
    rw [← hd, List.map_map]
    refine List.map_congr_left fun x _ => ?_
    simp
  refine ⟨w, _, Below.refl _ _, rfl, rfl, ?_, fun R => ?_⟩
  · rw [hm2]; simp [hn]
  · rw [hm2]
    exact relL_strs R _
theorem split_list {G : Glo} {m : Int} (hU : GloAll G (maxTy m)) (s : List UInt8) (c : UInt8) (hl : s.length < 100000) :
    FnIs Tryz.prog G 46 [.str s, .str [c]] (.list 1 (splS c s).length (strsF (splS c s))) :=
  fn_seal (fun a => a) mk_id (strsF (splS c s)) (strsF_ok _) ((split_row hU [] s c hl).mono fun _ _ ⟨_, h1, h2⟩ => ⟨_, _, h1, h2⟩)
end Go.Proofs.YtcoidjllehieeaaGreatDoor
namespace Go.Proofs.YtcoidjllehieeaaGreatDoor
open Go Go.RowKit
theorem splS_none {c : UInt8} : ∀ {s : List UInt8}, c ∉ s → splS c s = [s]
  | [], _ => rfl
  | x :: t, h => by
    simp only [List.mem_cons, not_or] at h
    rw [splS, if_neg (Ne.symm h.1), splS_none h.2]
theorem splS_app {c : UInt8} : ∀ {u : List UInt8} {v : List UInt8}, c ∉ u → ∃ p ps, splS c v = p :: ps ∧ splS c (u ++ v) = (u ++ p) :: ps
  | [], v, _ => by
    cases h : splS c v with
    | nil => exact absurd h (splS_ne c v)
    | cons p ps => exact ⟨p, ps, rfl, h⟩
  | x :: u, v, h => by
    simp only [List.mem_cons, not_or] at h
    obtain ⟨p, ps, h1, h2⟩ := splS_app (v := v) h.2
    refine ⟨p, ps, h1, ?_⟩
    rw [List.cons_append, splS, if_neg (Ne.symm h.1), h2]
    rfl
theorem splS_cut {c : UInt8} {u v : List UInt8} (h : c ∉ u) : splS c (u ++ c :: v) = u :: splS c v := by
  obtain ⟨p, ps, h1, h2⟩ := splS_app (v := c :: v) h
  rw [splS, if_pos rfl] at h1
  cases h1
  rw [h2, List.append_nil]
end Go.Proofs.YtcoidjllehieeaaGreatDoor
namespace Go.Proofs.YtcoidjllehieeaaGreatDoor
open Go Go.RowKit
/-- A byte that may stand in a piece. -/
def lgB (first : Bool) (c : Int) : Bool := letterB c && !(first && decide (c ≤ 57))
/-- What is wrong with a piece that begins at a byte. -/
def pieceX (first : Bool) (a : Nat) (x : List UInt8) : Err :=
  if 0 ≤ fstB (fun c => !lgB first c) x then .at 3 (a + fstB (fun c => !lgB first c) x) else if x.length = 0 then .at 7 a else if 8 < x.length then .at 4 a else .none
def Err.isNone : Err → Bool
  | .none => true
  | _ => false
def langE : Bool → Nat → List (List UInt8) → Err
  | _, _, [] => .none
  | first, a, x :: xs => if (pieceX first a x).isNone then langE false (a + x.length + 1) xs else pieceX first a x
def langX (s : List UInt8) : Err := langE true 0 (splS 45 s)
theorem splS_mem {c : UInt8} : ∀ {s p : List UInt8}, p ∈ splS c s → c ∉ p
  | [], p, h => by simp [splS] at h; subst h; simp
  | x :: t, p, h => by
    by_cases hx : x = c
    · rw [splS, if_pos hx] at h
      rcases List.mem_cons.1 h with rfl | h
      · simp
      · exact splS_mem h
    · rw [splS, if_neg hx] at h
      cases h1 : splS c t with
      | nil => exact absurd h1 (splS_ne c t)
      | cons q qs =>
        rw [h1] at h
        rcases List.mem_cons.1 h with rfl | h
        · have := splS_mem (s := t) (p := q) (c := c) (by rw [h1]; simp)
          simp [this, Ne.symm hx]
        · exact splS_mem (s := t) (by rw [h1]; simp [h])
theorem splS_at {c : UInt8} {u v : List UInt8} {x : UInt8} (hu : c ∉ u) (hx : x ≠ c) : ∃ q qs, splS c (u ++ x :: v) = (u ++ x :: q) :: qs := by
  obtain ⟨p, ps, h1, h2⟩ := splS_app (v := x :: v) hu
  rw [splS, if_neg hx] at h1
  cases h3 : splS c v with
  | nil => exact absurd h3 (splS_ne c v)
  | cons q qs =>
    rw [h3] at h1
    cases h1
    exact ⟨_, _, h2⟩
theorem byteAt_app1 {u v : List UInt8} {j : Nat} (h : j < u.length) : byteAt (u ++ v) j = byteAt u j := by
  unfold byteAt; simp [List.getD, List.getElem?_append, h]
theorem byteAt_app2 {u v : List UInt8} {j : Nat} (h : u.length ≤ j) : byteAt (u ++ v) j = byteAt v (j - u.length) := by
  unfold byteAt; simp [List.getD, List.getElem?_append, show ¬ j < u.length by omega]
theorem fst_bad {f : Int → Bool} {u q : List UInt8} {x : UInt8} (hu : ∀ j, j < u.length → f (byteAt u j : Int) = false) (hx : f (x.toNat : Int) = true) : fstB f (u ++ x :: q) = u.length := by
  refine fstB_at (by simp) ?_ (fun j hj => by rw [byteAt_app1 hj]; exact hu j hj)
  rw [byteAt_app2 (Nat.le_refl _), Nat.sub_self]
  exact hx
theorem drop_split (s : List UInt8) (k i : Nat) (h1 : k ≤ i) (h2 : i ≤ s.length) : s.drop k = (s.drop k).take (i - k) ++ s.drop i := by
  have e := (List.take_append_drop (i - k) (s.drop k)).symm
  rw [List.drop_drop, show k + (i - k) = i by omega] at e
  exact e
theorem lang_bad {s : List UInt8} {k i : Nat} (h1 : k ≤ i) (h2 : i < s.length) (hg : ∀ j, k ≤ j → j < i → byteAt s j ≠ 45 ∧ lgB (decide (k = 0)) (byteAt s j : Int) = true) (hc : byteAt s i ≠ 45) (hb : lgB (decide (k = 0)) (byteAt s i : Int) = false) (b : Bool) (hbk : b = decide (k = 0)) :
    langE b k (splS 45 (s.drop k)) = .at 3 i := by
  subst hbk
  have e := drop_split s k i h1 (by omega)
  rw [List.drop_eq_getElem_cons h2] at e
  have hl : ((s.drop k).take (i - k)).length = i - k := by rw [List.length_take, List.length_drop]; omega
  have hba : ∀ j, j < i - k → byteAt ((s.drop k).take (i - k)) j = byteAt s (k + j) := fun j hj => by rw [byteAt_take hj, drop_byteAt]
  have hu : (45 : UInt8) ∉ (s.drop k).take (i - k) := by
    intro hm
    obtain ⟨j, hj, ej⟩ := List.getElem_of_mem hm
    rw [hl] at hj
    have h3 := (hg (k + j) (by omega) (by omega)).1
    rw [← hba j hj, byteAt_getElem (by omega), ej] at h3
    exact h3 rfl
  have hx : s[i] ≠ 45 := fun h => hc (by rw [byteAt_getElem h2, h]; rfl)
  obtain ⟨q, qs, hs⟩ := splS_at (v := s.drop (i + 1)) hu hx
  rw [← e] at hs
  rw [hs, langE]
  have hf : fstB (fun c => !lgB (decide (k = 0)) c) ((s.drop k).take (i - k) ++ s[i] :: q) = ((i - k : Nat) : Int) := by
    rw [fst_bad (f := fun c => !lgB (decide (k = 0)) c), hl]
    · intro j hj
      rw [hl] at hj
      rw [hba j hj, (hg (k + j) (by omega) (by omega)).2]
      rfl
    · rw [← byteAt_getElem h2, hb]; rfl
  have hp : pieceX (decide (k = 0)) k ((s.drop k).take (i - k) ++ s[i] :: q) = .at 3 i := by
    unfold pieceX
    rw [hf, if_pos (by omega), show ((k : Nat) : Int) + ((i - k : Nat) : Int) = i by omega]
  rw [hp]
  rfl
/-- A piece's end. -/
theorem lang_end {s : List UInt8} {k i : Nat} (h1 : k ≤ i) (h2 : i ≤ s.length) (hg : ∀ j, k ≤ j → j < i → byteAt s j ≠ 45 ∧ lgB (decide (k = 0)) (byteAt s j : Int) = true) (hc : i = s.length ∨ byteAt s i = 45) (b : Bool) (hbk : b = decide (k = 0)) :
    langE b k (splS 45 (s.drop k)) = if i = k then .at 7 k else if 8 < i - k then .at 4 k else if i = s.length then .none else langE false (i + 1) (splS 45 (s.drop (i + 1))) := by
  subst hbk
  have e := drop_split s k i h1 (by omega)
  have hl : ((s.drop k).take (i - k)).length = i - k := by rw [List.length_take, List.length_drop]; omega
  have hba : ∀ j, j < i - k → byteAt ((s.drop k).take (i - k)) j = byteAt s (k + j) := fun j hj => by rw [byteAt_take hj, drop_byteAt]
  have hu : (45 : UInt8) ∉ (s.drop k).take (i - k) := by
    intro hm
    obtain ⟨j, hj, ej⟩ := List.getElem_of_mem hm
    rw [hl] at hj
    have h3 := (hg (k + j) (by omega) (by omega)).1
    rw [← hba j hj, byteAt_getElem (by omega), ej] at h3
    exact h3 rfl
  have hs : splS 45 (s.drop k) = (s.drop k).take (i - k) :: (if i = s.length then [] else splS 45 (s.drop (i + 1))) := by
    by_cases hi : i = s.length
    · rw [if_pos hi]
      rw [List.drop_eq_nil_of_le (show s.length ≤ i by omega), List.append_nil] at e
      have hu' : (45 : UInt8) ∉ s.drop k := by rw [e]; exact hu
      rw [splS_none hu']
      exact congrArg (fun z => [z]) e
    · rw [if_neg hi]
      have hc := hc.resolve_left hi
      have h2 : i < s.length := by omega
      rw [List.drop_eq_getElem_cons h2] at e
      have hx : s[i] = 45 := UInt8.toNat_inj.1 (by rw [← byteAt_getElem h2, hc]; rfl)
      rw [hx] at e
      generalize hw : (s.drop k).take (i - k) = w at *
      rw [e, splS_cut hu]
  have hf : fstB (fun c => !lgB (decide (k = 0)) c) ((s.drop k).take (i - k)) = -1 := fstB_none fun j hj => by
    rw [hl] at hj
    rw [hba j hj, (hg (k + j) (by omega) (by omega)).2]
    rfl
  rw [hs, langE]
  have hp : pieceX (decide (k = 0)) k ((s.drop k).take (i - k)) = if i = k then .at 7 k else if 8 < i - k then .at 4 k else .none := by
    unfold pieceX
    rw [hf, if_neg (by omega), hl]
    by_cases h3 : i = k
    · rw [if_pos (by omega), if_pos h3]
    · rw [if_neg (by omega), if_neg h3]
  rw [hp, hl]
  by_cases h3 : i = k
  · rw [if_pos h3, if_pos h3]; rfl
  · rw [if_neg h3, if_neg h3]
    by_cases h4 : 8 < i - k
    · rw [if_pos h4, if_pos h4]; rfl
    · rw [if_neg h4, if_neg h4, if_pos (show Err.none.isNone = true from rfl), show k + (i - k) + 1 = i + 1 by omega]
      by_cases h5 : i = s.length
      · rw [if_pos h5, if_pos h5]; rfl
      · rw [if_neg h5, if_neg h5]
theorem isS_one {s : List UInt8} {i : Nat} (h : i < s.length) : isS ((s.take (i + 1)).drop i) = letterB (byteAt s i) := by
  have hl : ((s.take (i + 1)).drop i).length = 1 := by rw [List.length_drop, List.length_take]; omega
  have hb : byteAt ((s.take (i + 1)).drop i) 0 = byteAt s i := by rw [drop_byteAt, byteAt_take (by omega), Nat.add_zero]
  rw [Bool.eq_iff_iff, isS, hl]
  simp only [Bool.and_eq_true, allB_t, hl, decide_eq_true_eq]
  constructor
  · intro h; rw [← hb]; exact h.1 0 (by omega)
  · intro h; exact ⟨fun j hj => by rw [show j = 0 by omega, hb]; exact h, by omega, by omega⟩
theorem lgB_t {b : Bool} {c : Int} : lgB b c = true ↔ letterB c = true ∧ (b = true → 57 < c) := by
  unfold lgB
  cases b <;> simp
theorem lgB_f {b : Bool} {c : Int} : lgB b c = false ↔ (letterB c = false ∨ (b = true ∧ c ≤ 57)) := by
  unfold lgB
  cases b <;> cases letterB c <;> simp
set_option maxRecDepth 20000
set_option maxHeartbeats 4000000
set_option linter.unusedSimpArgs false
set_option linter.unusedVariables false
attribute [local irreducible] AWp AOps byteAt SrcOK OrOk GloAll FnSpec
attribute [local irreducible] splS langE lgB isS letterB
theorem lang_Right {G : Glo} (s : List UInt8) (hl : s.length ≤ 9223372036854775000) : FnIs Tryz.prog G 52 [.str s] (langX s).A := by
  have hGL : GloAll G [] := gloAll_nil
  refine fn_x Tryz.func52 Tryz.call52 rfl rfl rfl rfl hGL ?_
  intro C hC
  have hN := fun i (h : i < s.length) => name_Is (G := G) ((s.take (i + 1)).drop i) (by rw [List.length_drop, List.length_take]; omega)
  repeat' (first | (conv => whnf); first | refine .w ?_ | refine .v ?_ | refine sc_c ?_ ?_ <;> (intro hb; try exact dd hb) | apply sc_not | apply sc_or | (apply sc_i <;> intro hb) | (apply bx_i; intro hbd) | (apply cx_is; first | fail) | (apply cx_do (i := 0) rfl; first | fail) | (apply ab_i; intro bl) | (apply as_i; intro va vk vc hva) | (apply av_i; intro v) | (apply ac_i; intro bl cap hcap) | apply bo_l | (apply nx_i <;> intro hnx) | exact rt_w | apply dw_q mixed hC hGL (by kernel_rfl) | (apply cq; assumption; (first | fail); exact rfl))
  all_goals try conv => whnf
  refine lp hC hGL (fun (x : Nat × Nat) => [(0, .str s), (3, .int .i64 x.2), (4, .int .i64 x.1)]) (fun _ => []) (fun x => x.2 ≤ x.1 ∧ x.1 ≤ s.length + 1 ∧ (x.1 = s.length + 1 → x.2 = s.length + 1) ∧ (∀ j, x.2 ≤ j → j < x.1 → byteAt s j ≠ 45 ∧ lgB (decide (x.2 = 0)) (byteAt s j : Int) = true) ∧ langX s = if x.2 = s.length + 1 then .none else langE (decide (x.2 = 0)) x.2 (splS 45 (s.drop x.2))) (fun x => s.length + 1 - x.1) (0, 0) ?_ env_w rfl ?_
  · exact ⟨Nat.le_refl _, Nat.zero_le _, fun h => by omega, fun j _ h => absurd h (Nat.not_lt_zero _), by rw [if_neg (by omega)]; rfl⟩
  rintro ⟨i, k⟩ ⟨h1, h2, h3, h4, h5⟩
  dsimp only at h1 h2 h3 h4 h5 ⊢
  by_cases hi : i < s.length
  · have hN := hN i hi
    rw [isS_one hi] at hN
    have hE := fun h => lang_end h1 (by omega) h4 (.inr h) _ rfl
    have hB := fun hc hb => lang_bad h1 hi h4 hc hb _ rfl
    rw [if_neg (by omega)] at h5
    repeat' (first | (conv => whnf); first | refine .w ?_ | refine .v ?_ | refine sc_c ?_ ?_ <;> (intro hb; try exact dd hb) | apply sc_not | apply sc_or | (apply sc_i <;> intro hb) | (apply bx_i; intro hbd) | (apply cx_is; first | exact hN) | (apply cx_do (i := 0) rfl; first | exact hN) | (apply ab_i; intro bl) | (apply as_i; intro va vk vc hva) | (apply av_i; intro v) | (apply ac_i; intro bl cap hcap) | apply bo_l | (apply nx_i <;> intro hnx) | exact rt_w | apply dw_q mixed hC hGL (by kernel_rfl) | (apply cq; assumption; (first | exact hN); exact rfl))
    all_goals try conv => whnf
    · apply rt_is
      rw [h5, hB (by omega) (lgB_f.2 (.inr ⟨by simp; omega, by omega⟩))]
      rfl
    · refine nxt (i + 1, k) ?_ ?_ env_w rfl
      · refine ⟨by omega, by omega, fun h => by omega, fun j g1 g2 => ?_, by rw [if_neg (by omega)]; exact h5⟩
        by_cases g : j = i
        · subst g; exact ⟨by omega, lgB_t.2 ⟨by assumption, fun _ => by omega⟩⟩
        · exact h4 j g1 (by omega)
      · dsimp only; omega
    · refine nxt (i + 1, k) ?_ ?_ env_w rfl
      · refine ⟨by omega, by omega, fun h => by omega, fun j g1 g2 => ?_, by rw [if_neg (by omega)]; exact h5⟩
        by_cases g : j = i
        · subst g; exact ⟨by omega, lgB_t.2 ⟨by assumption, fun h => by simp at h; omega⟩⟩
        · exact h4 j g1 (by omega)
      · dsimp only; omega
    · apply rt_is
      rw [h5, hB (by omega) (lgB_f.2 (.inl hb))]
      rfl
    · apply rt_is
      have hE := hE (by omega)
      obtain rfl : i = k := by omega
      rw [h5, hE, if_pos rfl]
      rfl
    · apply rt_is
      have hE := hE (by omega)
      rw [h5, hE, if_neg (by omega), if_pos (by omega)]
      rfl
    · have hE := hE (by omega)
      rw [if_neg (by omega), if_neg (by omega)] at hE
      refine nxt (i + 1, i + 1) ?_ ?_ env_w rfl
      · refine ⟨Nat.le_refl _, by omega, fun _ => by omega, fun j g1 g2 => by omega, ?_⟩
        rw [h5, hE]
        dsimp only
        by_cases g : i = s.length
        · rw [if_pos g, if_pos (by omega)]
        · rw [if_neg g, if_neg (by omega)]
          simp
      · dsimp only; omega
  · have hE := fun h => lang_end h1 h h4 (.inl (by omega)) _ rfl
    repeat' (first | (conv => whnf); first | refine .w ?_ | refine .v ?_ | refine sc_c ?_ ?_ <;> (intro hb; try exact dd hb) | apply sc_not | apply sc_or | (apply sc_i <;> intro hb) | (apply bx_i; intro hbd) | (apply cx_is; first | fail) | (apply cx_do (i := 0) rfl; first | fail) | (apply ab_i; intro bl) | (apply as_i; intro va vk vc hva) | (apply av_i; intro v) | (apply ac_i; intro bl cap hcap) | apply bo_l | (apply nx_i <;> intro hnx) | exact rt_w | apply dw_q mixed hC hGL (by kernel_rfl) | (apply cq; assumption; (first | fail); exact rfl))
    all_goals try conv => whnf
    · apply rt_is
      have hE := hE (by omega)
      rw [if_neg (by omega)] at h5
      obtain rfl : i = k := by omega
      rw [h5, hE, if_pos rfl]
      rfl
    · apply rt_is
      have hE := hE (by omega)
      rw [if_neg (by omega)] at h5
      rw [h5, hE, if_neg (by omega), if_pos (by omega)]
      rfl
    · have hE := hE (by omega)
      rw [if_neg (by omega)] at h5
      rw [if_neg (by omega), if_neg (by omega)] at hE
      refine nxt (i + 1, i + 1) ?_ ?_ env_w rfl
      · refine ⟨Nat.le_refl _, by omega, fun _ => by omega, fun j g1 g2 => by omega, ?_⟩
        rw [h5, hE]
        dsimp only
        by_cases g : i = s.length
        · rw [if_pos g, if_pos (by omega)]
        · rw [if_neg g, if_neg (by omega)]
          simp
      · dsimp only; omega
    · apply rt_is
      rw [h5, if_pos (h3 (by omega))]
      rfl
end Go.Proofs.YtcoidjllehieeaaGreatDoor
namespace Go.Proofs.YtcoidjllehieeaaGreatDoor
open Go Go.RowKit
/-- What a byte is written as. -/
def escF (c : UInt8) : List UInt8 := if c = 92 then [92, 92] else if c = 44 then [92, 44] else if c = 59 then [92, 59] else if c = 10 then [92, 110] else [c]
def escS (s : List UInt8) : List UInt8 := s.flatMap escF
end Go.Proofs.YtcoidjllehieeaaGreatDoor
namespace Go.Proofs.YtcoidjllehieeaaGreatDoor
open Go Go.RowKit
def joinT (l : List (List UInt8)) : List UInt8 := Lib.join (l.map escS) [44]
/-- Where the first list that is empty stands. -/
def nilAt (L : List (List (List UInt8))) : Nat := L.findIdx fun l => l.isEmpty
def joinPT (L : List (List (List UInt8))) : List UInt8 := if nilAt L < L.length then [] else Lib.join (L.map joinT) [59]
def partsF (L : List (List (List UInt8))) (i : Nat) : AVal := .list 1 (L.getD i []).length (strsF (L.getD i []))
/-- All is small enough. -/
structure Small (L : List (List (List UInt8))) : Prop where
  n : L.length ≤ 2000000
  k : ∀ k, (L.getD k []).length ≤ 2000000 ∧ Lib.lens (L.getD k []) ≤ 2000000
end Go.Proofs.YtcoidjllehieeaaGreatDoor
namespace Go.Proofs.YtcoidjllehieeaaGreatDoor
open Go Go.RowKit
/-- A byte that a value may not hold. -/
def hdC (lines : Bool) (c : Int) : Bool := decide ((c < 32 ∧ c ≠ 9 ∧ (c ≠ 10 ∨ lines = false)) ∨ c = 127)
def hdB (lines : Bool) (s : List UInt8) : Bool := decide (badI s < 0 ∧ fstB (hdC lines) s < 0)
end Go.Proofs.YtcoidjllehieeaaGreatDoor
namespace Go.Proofs.YtcoidjllehieeaaGreatDoor
open Go Go.RowKit
/-- An error without its place. -/
def Err.b : Err → Err
  | .none => .none
  | .errno e => .errno e
  | .at e _ => .errno e
/-- A value. -/
structure Vl where
  t : Int
  s : List UInt8
  L : List (List (List UInt8))
  st : Stm
  n : Int
def Vl.A (v : Vl) : AVal := .agg [.int .i64 v.t, .str v.s, .list 1 v.L.length (partsF v.L), .int .i64 v.st.y, .int .i64 v.st.m, .int .i64 v.st.d, .int .i64 v.st.h, .int .i64 v.st.i, .int .i64 v.st.s, .bool v.st.z, .int .i64 v.st.o, .int .i64 v.n]
def zeroB (t : Stm) : Bool := decide (t.y = 0 ∧ t.m = 0 ∧ t.d = 0 ∧ t.h = 0 ∧ t.i = 0 ∧ t.s = 0 ∧ t.z = false ∧ t.o = 0)
/-- It has what its type has, and nothing else. -/
def Vl.only (v : Vl) : Bool := decide ((v.s.length = 0 ∨ v.t = 1 ∨ v.t = 4 ∨ v.t = 7 ∨ v.t = 8) ∧ (v.L.length = 0 ∨ v.t = 2 ∨ v.t = 3) ∧ (zeroB v.st = true ∨ v.t = 5) ∧ (v.n = 0 ∨ v.t = 6))
/-- All texts of lists may be. -/
def hdL (L : List (List (List UInt8))) : Bool := L.all fun l => l.all (hdB true)
def ptsE (t : Int) (L : List (List (List UInt8))) : Err := if L.length = 0 ∨ (t = 2 ∧ L.length ≠ 1) then .errno 8 else if nilAt L < L.length then .errno 8 else if hdL L then .none else .errno 3
def Vl.E (v : Vl) : Err := if v.t < 1 ∨ 9 ≤ v.t ∨ v.only = false then .errno 1
  else if v.t = 2 ∨ v.t = 3 then ptsE v.t v.L
  else if v.t = 4 then (uriE v.s).b
  else if v.t = 5 then v.st.E
  else if v.t = 6 then zprE v.n
  else if v.t = 7 then (langX v.s).b
  else if hdB (decide (v.t = 1)) v.s then .none else .errno 3
def Vl.T (v : Vl) : List UInt8 := match v.E with
  | .none => if v.t = 1 then escS v.s else if v.t = 2 ∨ v.t = 3 then joinPT v.L else if v.t = 5 then v.st.T else if v.t = 6 then zprS v.n else v.s
  | _ => []
end Go.Proofs.YtcoidjllehieeaaGreatDoor
namespace Go.Proofs.YtcoidjllehieeaaGreatDoor
open Go Go.RowKit
/-- An item: its group, its name and its parameters; its value. -/
abbrev Itm := Ln × Vl
def Itm.z : Itm := (⟨[], [], [], []⟩, ⟨0, [], [], ⟨0, 0, 0, 0, 0, 0, false, 0⟩, 0⟩)
instance : Inhabited Itm := ⟨Itm.z⟩
/-- What an item is made of. -/
abbrev itC15 (x : Itm) : List AVal := [.str x.1.g, .str x.1.n, .list 2 x.1.ps.length (prF x.1.ps), .int .i64 x.2.t, .str x.2.s, .list 1 x.2.L.length (partsF x.2.L), .int .i64 x.2.st.y, .int .i64 x.2.st.m, .int .i64 x.2.st.d, .int .i64 x.2.st.h, .int .i64 x.2.st.i, .int .i64 x.2.st.s, .bool x.2.st.z, .int .i64 x.2.st.o, .int .i64 x.2.n]
def itR (x : Itm) : AVal := .agg (itC15 x)
def itsF (l : List Itm) (i : Nat) : AVal := itR (l.getD i Itm.z)
/-- A card. -/
structure Crd where
  v : Int
  l : List Itm
def Crd.A (c : Crd) : AVal := .agg [.int .i64 c.v, .list 15 c.l.length (itsF c.l)]
/-- An item's line, as far as its value is not asked for. -/
def Itm.p (x : Itm) : Ln := ⟨x.1.g, x.1.n, x.1.ps, []⟩
/-- How much an item may hold. -/
structure Itm.OK (N : Nat) (x : Itm) : Prop where
  p : x.p.OK N
  s : x.2.s.length ≤ N
  L : Small x.2.L
/-- What the law lets through. -/
def Crd.fine (c : Crd) : Prop := c.l.length ≤ 70 ∧ ∀ x ∈ c.l, Itm.OK 2500 x
theorem itm_at {p : Itm → Prop} {l : List Itm} (h : ∀ x ∈ l, p x) {k : Nat} (hk : k < l.length) : p (l.getD k Itm.z) := by
  rw [List.getD_eq_getElem?_getD, List.getElem?_eq_getElem hk]
  exact h _ (List.getElem_mem hk)
theorem itm_all {p : Itm → Prop} {l : List Itm} (h : ∀ k, k < l.length → p (l.getD k Itm.z)) : ∀ x ∈ l, p x := by
  intro x hx
  obtain ⟨i, hi, rfl⟩ := List.getElem_of_mem hx
  have := h i hi
  rwa [List.getD_eq_getElem?_getD, List.getElem?_eq_getElem hi] at this
end Go.Proofs.YtcoidjllehieeaaGreatDoor
namespace Go.Proofs.YtcoidjllehieeaaGreatDoor
open Go Go.RowKit
set_option maxRecDepth 20000
set_option maxHeartbeats 4000000
set_option linter.unusedSimpArgs false
set_option linter.unusedVariables false
attribute [local irreducible] AWp AOps byteAt SrcOK OrOk GloAll FnSpec
theorem strings_cut {G : Glo} {m : Int} (hU : GloAll G (maxTy m)) (s : List UInt8) (c : UInt8) (hl : s.length < 100000) : FnIs Tryz.prog G 55 [.str s, .str [c]] (.tuple [.str (Lib.cut s [c]).1, .str (Lib.cut s [c]).2.1, .bool (Lib.cut s [c]).2.2]) := by
  refine fnis_of_calls_v (.tuple #[.string ⟨(Lib.cut s [c]).1.toArray⟩, .string ⟨(Lib.cut s [c]).2.1.toArray⟩, .bool (Lib.cut s [c]).2.2]) (fun R => rel_tup3 (rel_str.2 rfl) (rel_str.2 rfl) (rel_bool.2 rfl)) Tryz.call55 ?_
  rintro R args ⟨x, t, e, hx, y, t', e', hy, rfl⟩ w hG hs
  obtain rfl := rel_str.1 hx
  obtain rfl := rel_str.1 hy
  subst e'
  obtain rfl := arr_of e
  refine (Tryz.strings_Cut ⟨s.toArray⟩ ⟨#[c]⟩ m w (by rw [str_size]; omega) (max_cell hU hG hs)).mono ?_
  rintro e w' ⟨rfl, k, rfl⟩
  exact ⟨by simp, ⟨rfl, rfl, rfl, Nat.le_refl _, fun _ _ => rfl⟩⟩
theorem strconv_Itoa {G : Glo} (hP : PowIs G) (n : Nat) (hn : n ≤ 9223372036854775807) : FnIs Tryz.prog G 66 [.int .i64 (n : Int)] (.str (Lib.decDigits n)) := by
  refine fnis_of_calls rfl Tryz.call66 ?_
  rintro R args ⟨x, t, e, hx, rfl⟩ w hG hs
  obtain rfl := rel_int.1 hx
  obtain rfl := arr_of e
  have ht : Lib.TabIs Tryz.prog w "internal/strconv.uint64pow10" .u64 Lib.pow10Tab := by
    obtain ⟨e, fz, hR⟩ := hP R hG
    have hg : Tryz.prog.globalNamed "internal/strconv.uint64pow10" = some 6 := by kernel_rfl
    show w.var? Tryz.prog "internal/strconv.uint64pow10" = _
    simp only [World.var?, hg, Option.bind_some, hs _ _ hR]
  refine (Tryz.strconv_Itoa n (by omega) (by omega) w ht).mono ?_
  rintro e w' ⟨rfl, k, os, rfl⟩
  refine ⟨?_, ⟨rfl, rfl, rfl, ?_, fun b hb => ?_⟩⟩
  · have : Lib.itoa (n : Int) = Lib.decDigits n := by unfold Lib.itoa; rw [if_neg (by omega)]; rfl
    rw [this]
    rfl
  · show w.heap.size ≤ (w.heap ++ os).size
    rw [Array.size_append]; omega
  · show (w.heap ++ os)[b]? = w.heap[b]?
    rw [Array.getElem?_append_left hb]
end Go.Proofs.YtcoidjllehieeaaGreatDoor
namespace Go.Proofs.YtcoidjllehieeaaGreatDoor
open Go Go.RowKit
inductive AMode where
  | ret
  | pan (v : AVal)
  | rcv (v : AVal)
def ModeRel (R : Seal) : AMode → FrameMode → Prop
  | .ret, u => u = .returning
  | .pan v, u => ∃ x, u = .panicking [{ v := x, recovered := false }] ∧ Rel R v x
  | .rcv v, u => ∃ x, u = .panicking [{ v := x, recovered := true }] ∧ Rel R v x
theorem ModeRel.mono {R R' : Seal} (h : R.le R') : ∀ {m : AMode} {u : FrameMode}, ModeRel R m u → ModeRel R' m u
  | .ret, _, x => x
  | .pan _, _, ⟨y, e, r⟩ => ⟨y, e, rel_mono h r⟩
  | .rcv _, _, ⟨y, e, r⟩ => ⟨y, e, rel_mono h r⟩
section
variable {P : Program} [Tab P] {G : Glo} {GL : List (Nat × List AVal)} {n : Nat} {H : Heap} {m : AMode}
omit [Tab P] in
omit [Tab P] in
omit [Tab P] in
omit [Tab P] in
omit [Tab P] in
/-! ## As a function leaves -/
variable {rs : List ResultVar} {env : Env} {Qf : ARes → Heap → Prop} {D : List Deferred}
omit [Tab P] in
omit [Tab P] in
omit [Tab P] in
end
end Go.Proofs.YtcoidjllehieeaaGreatDoor
namespace Go.Proofs.YtcoidjllehieeaaGreatDoor
open Go
set_option linter.unusedSimpArgs false
set_option linter.unusedSectionVars false
set_option linter.unusedVariables false
/-- The fence that lets all in: of plain frames, or of a round's. -/
def Fo (rd : Option Nat) : Fence := { fn := fun _ => True, depth := none, alive := false, round := rd }
section
variable {P : Program} {rd : Option Nat} {m : Nat} {ops : Array Oper} {Q0 Q : Exit → Act → World → Prop}
end
/-! ## Code in a round -/
def AWpR (rd : Option Nat) (P : Program) (C : Ctx) (n : Nat) (c : Code) (env : Env) (H : Heap) (Q : AExit → Env → Heap → Prop) : Prop :=
  ∀ R a w, MS C R H w → FS C.D n R env a → c.wpIn (Fo rd) 0 P (Post C n Q) a w
section
variable {rd : Option Nat} {P : Program} {C : Ctx} {n : Nat} {env : Env} {H : Heap} {Q : AExit → Env → Heap → Prop} {G : Glo} {GL : List (Nat × List AVal)}
theorem AWpR.mono {c : Code} {Q' : AExit → Env → Heap → Prop} (h : AWpR rd P C n c env H Q) (hq : ∀ x e h, Q x e h → Q' x e h) : AWpR rd P C n c env H Q' :=
  fun R a w hm hf => Go.wpIn_mono (h R a w hm hf) fun _ _ _ ⟨x, en, H', R', q, r⟩ => ⟨x, en, H', R', hq _ _ _ q, r⟩
end
/-! ## A call of yield -/
section
variable {P : Program} {n : Nat} {env : Env} {H : Heap} {G : Glo} {GL : List (Nat × List AVal)}
/-! ## The loop -/
/-! ## As a function with marks leaves -/
variable {rs : List ResultVar} {Qf : ARes → Heap → Prop} {D : List Deferred} {m : AMode}
end
end Go.Proofs.YtcoidjllehieeaaGreatDoor
namespace Go.Proofs.YtcoidjllehieeaaGreatDoor
open Go Go.RowKit
/-- A rule: the type, least, most, parts. -/
structure Rl where
  t : Int
  a : Int
  b : Int
  p : Int
deriving DecidableEq
def Rl.A (r : Rl) : AVal := .agg [.int .i64 r.t, .int .i64 r.a, .int .i64 r.b, .int .i64 r.p]
def Rl.z : Rl := ⟨0, 0, 0, 0⟩
/-! Texts joined, cut again. -/
end Go.Proofs.YtcoidjllehieeaaGreatDoor
namespace Go.Proofs.YtcoidjllehieeaaGreatDoor
open Go Go.RowKit
theorem filterMap_set {α β : Type} {f : α → Option β} {x y : α} (hf : f y = f x) : ∀ {h : List α} {i : Nat}, h[i]? = some x → (h.set i y).filterMap f = h.filterMap f
  | [], i, e => by simp at e
  | z :: h, 0, e => by
    simp only [List.getElem?_cons_zero, Option.some.injEq] at e
    subst e
    simp [List.filterMap_cons, hf]
  | z :: h, i + 1, e => by
    simp only [List.getElem?_cons_succ] at e
    simp only [List.set_cons_succ, List.filterMap_cons, filterMap_set hf e]
theorem MS.setEnt {C : Ctx} {R : Seal} {H : Heap} {w : World} {i : Nat} {x y : HEnt} (h : MS C R H w) (hi : H[i]? = some x) (hb : y.blk = x.blk) (hy : y.holds R w) : MS C R (H.set i y) w := by
  have hx : x ∈ H := List.mem_of_getElem? hi
  have hm : ∀ z, z ∈ H.set i y → z ∈ H ∨ z = y := fun z hz => List.mem_or_eq_of_mem_set hz
  refine ⟨h.sealed, h.ge, h.fresh, ⟨fun z hz => ?_, ?_, fun z hz b hzb => ?_⟩, fun z hz b hzb => ?_, h.ext⟩
  · rcases hm z hz with h1 | rfl
    · exact h.heap.holds z h1
    · exact hy
  · rw [filterMap_set hb hi]; exact h.heap.nodup
  · rcases hm z hz with h1 | rfl
    · exact h.heap.apart z h1 b hzb
    · exact h.heap.apart x hx b (by rw [← hb]; exact hzb)
  · rcases hm z hz with h1 | rfl
    · exact h.own z h1 b hzb
    · exact h.own x hx b (by rw [← hb]; exact hzb)
theorem relL_set {R : Seal} {a a' : AVal} (ht : ∀ v, RelC R a [v] → RelC R a' [v]) : ∀ {cs : List AVal} {vs : List Value} {p : Nat}, RelL R cs vs → cs[p]? = some a → RelL R (cs.set p a') vs
  | [], _, _, _, e => by simp at e
  | c :: cs, _, 0, ⟨v, t, rfl, h1, h2⟩, e => by
    simp only [List.getElem?_cons_zero, Option.some.injEq] at e
    subst e
    exact ⟨v, t, rfl, ht v h1, h2⟩
  | c :: cs, _, p + 1, ⟨v, t, rfl, h1, h2⟩, e => by
    simp only [List.getElem?_cons_succ] at e
    exact ⟨v, t, rfl, h1, relL_set ht h2 e⟩
/-- An entry whose cell is told otherwise. -/
inductive CellTo (R : Seal) (p : Nat) (a' : AVal) : HEnt → HEnt → Prop
  | cells {b eT cs a} (hp : cs[p]? = some a) (ht : ∀ v, RelC R a [v] → RelC R a' [v]) : CellTo R p a' (.cells b eT cs) (.cells b eT (cs.set p a'))
  | row {v eT sz n cs a} (hp : cs[p]? = some a) (ht : ∀ v, RelC R a [v] → RelC R a' [v]) : CellTo R p a' (.row v eT sz n cs) (.row v eT sz n (cs.set p a'))
theorem CellTo.holds {R : Seal} {p : Nat} {a' : AVal} {x y : HEnt} {w : World} (h : CellTo R p a' x y) (hx : x.holds R w) : y.holds R w ∧ y.blk = x.blk := by
  cases h with
  | cells hp ht =>
    obtain ⟨C, e, fz, hb, hl, hf⟩ := hx
    exact ⟨⟨C, e, fz, hb, relL_set ht hl hp, hf⟩, rfl⟩
  | row hp ht =>
    rename_i v eT sz n cs a
    obtain ⟨hlen, y⟩ := hx
    refine ⟨⟨by rw [List.length_set]; exact hlen, ?_⟩, by cases v with | slice a l c => cases a <;> rfl | _ => rfl⟩
    rcases y with ⟨h1, h2⟩ | ⟨b, cap, C, e, fz, rfl, hb, hs, hn, hl, hf⟩
    · exact .inl ⟨h1, h2⟩
    · exact .inr ⟨b, cap, C, e, fz, rfl, hb, hs, hn, relL_set ht hl hp, hf⟩
def To (C : Ctx) (n : Nat) (e : Env) (h : Heap) (e' : Env) (h' : Heap) : Prop :=
  ∀ R a w, MS C R h w → FS C.D n R e a → ∃ R', R.le R' ∧ MS C R' h' w ∧ FS C.D n R' e' a
section
variable {C : Ctx} {n : Nat} {e e' e'' : Env} {h h' h'' : Heap}
end
section
variable {P : Program} [Tab P] {C : Ctx} {n : Nat} {env : Env} {H : Heap} {Q : AExit → Env → Heap → Prop} {G : Glo} {GL : List (Nat × List AVal)}
omit [Tab P] in
omit [Tab P] in
omit [Tab P] in
end
end Go.Proofs.YtcoidjllehieeaaGreatDoor
namespace Go.Proofs.YtcoidjllehieeaaGreatDoor
open Go Go.RowKit
section
variable {P : Program} [Tab P] {C : Ctx} {n : Nat} {G : Glo} {GL : List (Nat × List AVal)} {e : Env} {h : Heap} {env : Env} {H : Heap} {Q : AExit → Env → Heap → Prop}
omit [Tab P] in
theorem aw_to {c : Code} {e' : Env} {h' : Heap} (hto : To C n env H e' h') (k : AWp P C n c e' h' Q) : AWp P C n c env H Q := fun R a w hm hf => by
  obtain ⟨R0, _, hm, hf⟩ := hto R a w hm hf
  exact k R0 a w hm hf
/-- Slots told as the call's own. -/
def owns : List (Nat × Nat × Value) → Env → Env
  | [], e => e
  | (s, i, v) :: t, e => (s, .own i v) :: owns t e
def OwnsOK : List (Nat × Nat × Value) → Env → Prop
  | [], _ => True
  | (s, _, v) :: t, e => (Env.get (owns t e) s = some (.raw v) ∧ vAgg v = false) ∧ OwnsOK t e
theorem fs_owns {D : List Deferred} {R : Seal} {a : Act} : ∀ {os : List (Nat × Nat × Value)} {e : Env}, OwnsOK os e → FS D n R e a → FS D n R (owns os e) a
  | [], _, _, h => h
  | (_, _, _) :: _, _, ⟨⟨h1, h2⟩, h3⟩, h => fs_own h2 h1 (fs_owns h3 h)
/-- Into a function with such slots. -/
theorem fn_own (os : List (Nat × Nat × Value)) {f : FuncId} {fn : Func} {c : Code} {avs : List AVal} {Qf : ARes → Heap → Prop} {rs : List ResultVar} (hf : P.funcs[f]? = some fn)
    (hc : ∀ args w, (callFunc f args).run P w = .ok (.enter f args) w) (hb : fn.body = some c) (hn : fn.ntmps = n) (hrs : fn.results = rs.toArray) (hlen : Nat.ble avs.length n = true) (ho : OwnsOK os (argEnv 0 avs))
    (h : ∀ C : Ctx, C.G = G → AWp P C n c (owns os (argEnv 0 avs)) H (RetX P rs Qf)) : FnSpec P G f avs H Qf :=
  fn_spec hf hb hc hn hrs hlen fun w0 R0 hG => AWp.mono (aw_env (fun _ _ hf => fs_owns ho hf) (h ⟨w0, R0, blks H, G, hG, []⟩ rfl)) fun _ _ _ q => RetX_ok q
end
end Go.Proofs.YtcoidjllehieeaaGreatDoor
namespace Go.Proofs.YtcoidjllehieeaaGreatDoor
open Go Go.RowKit
/-! Names whatever their letters. -/
/-! What is found. -/
set_option maxRecDepth 20000
set_option maxHeartbeats 4000000
set_option linter.unusedSimpArgs false
set_option linter.unusedVariables false
attribute [local irreducible] AWp AOps byteAt SrcOK OrOk GloAll FnSpec
theorem ref_same {G : Glo} (s t : List UInt8) (hl : s.length ≤ 9223372036854775807) (hm : t.length ≤ 9223372036854775807) : FnIs Tryz.prog G 15 [.str s, .str t] (.bool (seqB (turnS 65 90 32 s) (turnS 65 90 32 t))) := by
  have h1 := ref_Lower (G := G) s hl
  have h2 := ref_Lower (G := G) t hm
  have hGL : GloAll G [] := gloAll_nil
  refine fn_x Tryz.func15 Tryz.call15 rfl rfl rfl rfl hGL ?_
  intro C hC
  exact xw0
end Go.Proofs.YtcoidjllehieeaaGreatDoor
namespace Go.Proofs.YtcoidjllehieeaaGreatDoor
open Go Go.RowKit
/-- The first parameter of a name, whatever its letters. -/
def findP (s : List UInt8) : List Pr → Nat → Int
  | [], _ => -1
  | q :: l, i => if turnS 97 122 (-32) q.n = turnS 97 122 (-32) s then (i : Int) else findP s l (i + 1)
theorem findP_at {s : List UInt8} : ∀ {l : List Pr} {k : Nat} (i : Nat), k < l.length → (∀ j, j < k → turnS 97 122 (-32) (l.getD j Pr.z).n ≠ turnS 97 122 (-32) s) → turnS 97 122 (-32) (l.getD k Pr.z).n = turnS 97 122 (-32) s → findP s l i = ((i + k : Nat) : Int)
  | [], k, i, h, _, _ => absurd h (Nat.not_lt_zero _)
  | q :: l, 0, i, _, _, h => by
    have h : turnS 97 122 (-32) q.n = turnS 97 122 (-32) s := h
    simp only [findP, if_pos h, Nat.add_zero]
  | q :: l, k + 1, i, hk, h0, h => by
    have h1 : turnS 97 122 (-32) q.n ≠ turnS 97 122 (-32) s := h0 0 (Nat.succ_pos k)
    have ih := findP_at (s := s) (l := l) (k := k) (i + 1) (by simpa using hk) (fun j hj => by simpa using h0 (j + 1) (by omega)) (by simpa using h)
    simp only [findP, if_neg h1, ih]
    omega
theorem findP_no {s : List UInt8} : ∀ {l : List Pr} (i : Nat), (∀ j, j < l.length → turnS 97 122 (-32) (l.getD j Pr.z).n ≠ turnS 97 122 (-32) s) → findP s l i = -1
  | [], _, _ => rfl
  | q :: l, i, h0 => by
    have h1 : turnS 97 122 (-32) q.n ≠ turnS 97 122 (-32) s := h0 0 (by simp)
    have ih := findP_no (s := s) (l := l) (i + 1) (fun j hj => by simpa using h0 (j + 1) (by simpa using hj))
    simp only [findP, if_neg h1, ih]
theorem findP_cases (s : List UInt8) : ∀ (l : List Pr) (i : Nat), findP s l i = -1 ∨ ∃ k, k < l.length ∧ findP s l i = ((i + k : Nat) : Int)
  | [], _ => .inl rfl
  | q :: l, i => by
    by_cases h : turnS 97 122 (-32) q.n = turnS 97 122 (-32) s
    · exact .inr ⟨0, by simp, by simp only [findP, if_pos h, Nat.add_zero]⟩
    · rcases findP_cases s l (i + 1) with h1 | ⟨k, h1, h2⟩
      · exact .inl (by simp only [findP, if_neg h, h1])
      · exact .inr ⟨k + 1, by simpa using h1, by simp only [findP, if_neg h, h2]; omega⟩
theorem fold_two {c d : UInt8} : UInt8.ofNat (turnN 65 90 32 c.toNat).toNat = UInt8.ofNat (turnN 65 90 32 d.toNat).toNat ↔ UInt8.ofNat (turnN 97 122 (-32) c.toNat).toNat = UInt8.ofNat (turnN 97 122 (-32) d.toNat).toNat := by
  have h1 := c.toNat_lt
  have h2 := d.toNat_lt
  rw [← UInt8.toNat_inj, ← UInt8.toNat_inj, UInt8.toNat_ofNat', UInt8.toNat_ofNat', UInt8.toNat_ofNat', UInt8.toNat_ofNat']
  unfold turnN
  (repeat' split) <;> omega
theorem fold_any : ∀ {n s : List UInt8}, (turnS 65 90 32 n = turnS 65 90 32 s ↔ turnS 97 122 (-32) n = turnS 97 122 (-32) s)
  | [], [] => by simp [turnS]
  | [], d :: s => by simp [turnS]
  | c :: n, [] => by simp [turnS]
  | c :: n, d :: s => by
    have ih := fold_any (n := n) (s := s)
    have hb := fold_two (c := c) (d := d)
    unfold turnS at ih ⊢
    simp only [List.map_cons, List.cons.injEq]
    rw [ih, hb]
theorem fold_seq (n s : List UInt8) : seqB (turnS 65 90 32 n) (turnS 65 90 32 s) = seqB (turnS 97 122 (-32) n) (turnS 97 122 (-32) s) := by
  rw [Bool.eq_iff_iff, seqB_t, seqB_t]
  exact fold_any
set_option maxRecDepth 20000
set_option maxHeartbeats 4000000
set_option linter.unusedSimpArgs false
set_option linter.unusedVariables false
attribute [local irreducible] AWp AOps byteAt SrcOK OrOk GloAll FnSpec
attribute [local irreducible] turnS findP
theorem rules_Find {G : Glo} (l : List Pr) (s : List UInt8) (hl : l.length ≤ 9223372036854775807) (hn : ∀ k, (l.getD k Pr.z).n.length ≤ 9223372036854775807) (hs : s.length ≤ 1000000) : FnIs Tryz.prog G 33 [.list 2 l.length (prF l), .str s] (.int .i64 (findP s l 0)) := by
  have h1 := fun k => name_Same (G := G) (l.getD k Pr.z).n s (by have := hn k; omega) (by omega)
  have hGL : GloAll G [] := gloAll_nil
  refine fn_x Tryz.func33 Tryz.call33 rfl rfl rfl rfl hGL ?_
  intro C hC
  refine xw1 ?_
  intros
  refine lp hC hGL (fun (k : Nat) => [(1, .str s), (7, .list 2 l.length (prF l)), (8, .int .i64 (l.length : Nat)), (9, .int .i64 (k : Nat))]) (fun _ => []) (fun k => k ≤ l.length ∧ ∀ j, j < k → turnS 97 122 (-32) (l.getD j Pr.z).n ≠ turnS 97 122 (-32) s) (fun k => l.length - k) 0 ⟨Nat.zero_le _, fun j h => absurd h (Nat.not_lt_zero _)⟩ env_w rfl ?_
  rintro k ⟨hk, hI⟩
  have h2 := h1 k
  refine xw ?_
  repeat' (first | exact Le.n | refine Lc.mk ?_ ?_)
  all_goals intros
  all_goals intros
  · apply rt_is
    rw [findP_at 0 (by omega) hI (by assumption), Nat.zero_add]
  · exact nxs (k + 1) ⟨by omega, below_next hI (by assumption)⟩ (by omega) env_w sub_w
  · apply rt_is
    rw [findP_no 0 fun j hj => hI j (by omega)]
    rfl
theorem ref_Find {G : Glo} (l : List Pr) (s : List UInt8) (hl : l.length ≤ 9223372036854775807) (hn : ∀ k, (l.getD k Pr.z).n.length ≤ 9223372036854775807) (hs : s.length ≤ 1000000) : FnIs Tryz.prog G 28 [.list 2 l.length (prF l), .str s] (.int .i64 (findP s l 0)) := by
  have h1 := fun k => ref_same (G := G) (l.getD k Pr.z).n s (by have := hn k; omega) (by omega)
  have hGL : GloAll G [] := gloAll_nil
  refine fn_x Tryz.func28 Tryz.call28 rfl rfl rfl rfl hGL ?_
  intro C hC
  refine xw1 ?_
  intros
  refine lp hC hGL (fun (k : Nat) => [(0, .list 2 l.length (prF l)), (1, .str s), (7, .int .i64 (l.length : Nat)), (8, .int .i64 (k : Nat))]) (fun _ => []) (fun k => k ≤ l.length ∧ ∀ j, j < k → turnS 97 122 (-32) (l.getD j Pr.z).n ≠ turnS 97 122 (-32) s) (fun k => l.length - k) 0 ⟨Nat.zero_le _, fun j h => absurd h (Nat.not_lt_zero _)⟩ env_w rfl ?_
  rintro k ⟨hk, hI⟩
  have h2 := h1 k
  rw [fold_seq] at h2
  refine xw ?_
  repeat' (first | exact Le.n | refine Lc.mk ?_ ?_)
  all_goals intros
  all_goals intros
  · apply rt_is
    rw [findP_at 0 (by omega) hI (by assumption), Nat.zero_add]
  · exact nxs (k + 1) ⟨by omega, below_next hI (by assumption)⟩ (by omega) env_w sub_w
  · apply rt_is
    rw [findP_no 0 fun j hj => hI j (by omega)]
    rfl
end Go.Proofs.YtcoidjllehieeaaGreatDoor
