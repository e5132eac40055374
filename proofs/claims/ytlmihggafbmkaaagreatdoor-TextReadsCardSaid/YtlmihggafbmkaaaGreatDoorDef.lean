/- Calls that are deferred: the spine of a function that lays them; what happens as it leaves. -/
import Derived.Test.YtlmihggafbmkaaaGreatDoorExh
import Derived.Defers
import Derived.Recover
namespace Go.Proofs.YtlmihggafbmkaaaGreatDoor
open Go Go.RowKit
/-! ## Values that are known whole -/
def concA : AVal → Option Value
  | .own _ v => some v
  | .raw v => some v
  | .int k n => some (.int k n)
  | .bool b => some (.bool b)
  | _ => none
def concL : List AVal → Option (List Value)
  | [] => some []
  | a :: t => match concA a, concL t with
    | some v, some r => some (v :: r)
    | _, _ => none
theorem conc_ok {R : Seal} {a : AVal} {v x : Value} (h : concA a = some v) (hr : Rel R a x) : x = v := by
  cases a <;> simp only [concA, Option.some.injEq, reduceCtorEq] at h <;> subst h
  · exact rel_bool.1 hr
  · exact rel_int.1 hr
  · exact rel_raw.1 hr
  · exact (rel_own.1 hr).1
theorem concL_ok {R : Seal} : ∀ {l : List AVal} {vs xs : List Value}, concL l = some vs → RelV R l xs → xs = vs
  | [], vs, xs, h, hr => by
    simp only [concL, Option.some.injEq] at h
    subst h
    simpa [RelV] using hr
  | a :: t, vs, xs, h, hr => by
    simp only [concL] at h
    split at h
    · rename_i v r hv ht
      simp only [Option.some.injEq] at h
      subst h
      obtain ⟨x, ys, rfl, h1, h2⟩ := hr
      rw [conc_ok hv h1, concL_ok ht h2]
    · cases h
/-- The call that is laid, as it will be made. -/
def deferA (env : Env) (fv : Operand) (args : List Operand) : Option Deferred :=
  match evalA env fv with
  | some (.func (.func f) l1 l2) => match concL l1, argsA env args, concL l2 with
    | some x1, some avs, some x2 => match concL avs with
      | some xs => some { target := .fn (.func f) x2.toArray, args := (x1 ++ xs).toArray }
      | none => none
    | _, _, _ => none
  | _ => none
theorem upon_map {P : Program} {o : Oper} {a : Act} {next next' : Act → World → Prop} {Q Q' : Exit → Act → World → Prop} {r : Result Next} (hn : ∀ a w, next a w → next' a w)
    (hp : ∀ ch a w, Q (.panic ch) a w → Q' (.panic ch) a w) (ho : LetsOut Q → LetsOut Q') (hh : o.upon P a next Q r) : o.upon P a next' Q' r := by
  cases r with
  | ok n w' =>
    cases n <;> simp only [Oper.upon] at hh ⊢ <;>
      first
        | exact hn _ _ hh
        | exact Calls.mono hh (fun e w'' he => by cases e <;> first | exact hn _ _ he | exact hp _ _ _ he | exact ho he)
        | exact Rows.mono hh (fun _ _ he => hn _ _ he)
  | halt x w' => cases x <;> simp only [Oper.upon] at hh ⊢ <;> exact hp _ _ _ hh
def tailQ (P : Program) (ops : Array Oper) (l : List Oper) (Q : Exit → Act → World → Prop) : Exit → Act → World → Prop
  | .normal, a, w => wpList P ops Q l a w
  | e, a, w => Q e a w
theorem wpList_app {P : Program} {ops : Array Oper} {l : List Oper} {Q : Exit → Act → World → Prop} : ∀ {pre : List Oper} {a : Act} {w : World}, wpList P ops (tailQ P ops l Q) pre a w → wpList P ops Q (pre ++ l) a w
  | [], a, w, h => h
  | o :: pre, a, w, h => by
    simp only [List.cons_append, wpList] at h ⊢
    split
    · rename_i hw
      rw [if_pos hw] at h
      rcases h with h | ⟨h1, h2⟩
      · exact .inl (upon_map (fun _ _ => wpList_app) (fun _ _ _ => id) (fun ⟨a, w, q⟩ => ⟨a, w, q⟩) h)
      · exact .inr ⟨h1, h2⟩
    · rename_i hw
      rw [if_neg hw] at h
      exact wpList_app h

/-! ## The spine -/
def withD (C : Ctx) (D : List Deferred) : Ctx := ⟨C.w0, C.R0, C.B0, C.G, C.hG, D⟩
theorem MS.withD {C : Ctx} {R : Seal} {H : Heap} {w : World} (h : MS C R H w) (D : List Deferred) : MS (withD C D) R H w := ⟨h.sealed, h.ge, h.fresh, h.heap, h.own, h.ext⟩
theorem MS.ofD {C : Ctx} {R : Seal} {H : Heap} {w : World} {D : List Deferred} (h : MS (Proofs.YtlmihggafbmkaaaGreatDoor.withD C D) R H w) : MS C R H w := ⟨h.sealed, h.ge, h.fresh, h.heap, h.own, h.ext⟩
def PostD (C : Ctx) (n : Nat) (Q : List Deferred → AExit → Env → Heap → Prop) (e : Exit) (a : Act) (w : World) : Prop :=
  ∃ D x env H R, Q D x env H ∧ ExitRel R x e ∧ MS C R H w ∧ FS D n R env a
def AWpD (P : Program) (C : Ctx) (n : Nat) (c : Code) (env : Env) (H : Heap) (Q : List Deferred → AExit → Env → Heap → Prop) : Prop :=
  ∀ R a w, MS C R H w → FS C.D n R env a → c.wp P (PostD C n Q) a w
section
variable {P : Program} {C : Ctx} {n : Nat} {env : Env} {H : Heap} {Q : List Deferred → AExit → Env → Heap → Prop} {G : Glo} {GL : List (Nat × List AVal)}
theorem awd_of {c : Code} (h : AWp P C n c env H (Q C.D)) : AWpD P C n c env H Q :=
  fun R a w hm hf => wp_mono (h R a w hm hf) fun _ _ _ ⟨x, en, H', R', q, r⟩ => ⟨C.D, x, en, H', R', q, r⟩
theorem awd_code [Tab P] (hC : C.G = G) (hGL : GloAll G GL) {c : Code} (h : codeX P C n G GL c env H (Q C.D)) : AWpD P C n c env H Q := awd_of (codeX_ok hC hGL _ _ _ _ h)
def thenD (K : List Deferred → Env → Heap → Prop) (Q : List Deferred → AExit → Env → Heap → Prop) : List Deferred → AExit → Env → Heap → Prop
  | D, .normal, e, h => K D e h
  | D, x, e, h => Q D x e h
theorem awd_seq {x y : Code} (h : AWpD P C n x env H (thenD (fun D e h => AWpD P (withD C D) n y e h Q) Q)) : AWpD P C n (.seq x y) env H Q := by
  intro R a w hm hf
  refine wp_seq (wp_mono (h R a w hm hf) ?_)
  rintro e a' w' ⟨D, x, en, H', R', q, er, hm', hf'⟩
  cases x with
  | normal =>
    simp only [ExitRel] at er; subst er
    exact wp_mono (q R' a' w' (hm'.withD D) hf') fun _ _ _ ⟨D2, x, en, H', R', q, er, hm2, hf2⟩ => ⟨D2, x, en, H', R', q, er, hm2.ofD, hf2⟩
  | exit i => simp only [ExitRel] at er; subst er; exact ⟨D, .exit i, en, H', R', q, rfl, hm', hf'⟩
  | goto i => simp only [ExitRel] at er; subst er; exact ⟨D, .goto i, en, H', R', q, rfl, hm', hf'⟩
  | ret => simp only [ExitRel] at er; subst er; exact ⟨D, .ret, en, H', R', q, rfl, hm', hf'⟩
  | panic v => obtain ⟨y, rfl, hr⟩ := er; exact ⟨D, .panic v, en, H', R', q, ⟨y, rfl, hr⟩, hm', hf'⟩
theorem awd_cond {c : Operand} {x y : Code} {b : Bool} (hc : evalA env c = some (.bool b)) (ht : b = true → AWpD P C n x env H Q) (hf : b = false → AWpD P C n y env H Q) : AWpD P C n (.cond c x y) env H Q := by
  intro R a w hm hfs
  refine wp_cond (rel_bool.1 (hfs.eval hc)) ?_
  cases b with
  | true => exact ht rfl R a w hm hfs
  | false => exact hf rfl R a w hm hfs
structure Df (d : Option Deferred) (K : Deferred → Prop) : Prop where
  h : ∃ x, d = some x ∧ K x
def defQ (C : Ctx) (fv : Operand) (args : List Operand) (Q : List Deferred → AExit → Env → Heap → Prop) : AExit → Env → Heap → Prop
  | .normal, e, h => Df (deferA e fv args) fun d => Q (d :: C.D) .normal e h
  | x, e, h => Q C.D x e h
theorem awd_defer [Tab P] {id : Nat} {ops : Array Oper} {fv : Operand} {args : Array Operand} {ts : Array TypeId} {ty : TypeId} {pos : String} {af : Array Edge} (hC : C.G = G) (hGL : GloAll G GL)
    (hl : ops.toList = ops.toList.dropLast ++ [{ dst := none, op := .defer { callee := .value fv, args := args, argTypes := ts }, type := ty, pos := pos, after := af, guard := none }])
    (h : opsX P C n G GL ops (defQ C fv args.toList Q) ops.toList.dropLast env H) : AWpD P C n (.region id ops false) env H Q := by
  intro R a w hm hf
  refine wp_region_list ?_
  rw [hl]
  refine wpList_app ?_
  have h1 := opsX_ok (C := C) hC hGL _ _ _ h R a w hm hf
  have key : ∀ {l : List Oper} {a w}, wpList P ops (Post C n (defQ C fv args.toList Q)) l a w → wpList P ops (tailQ P ops [{ dst := none, op := .defer { callee := .value fv, args := args, argTypes := ts }, type := ty, pos := pos, after := af, guard := none }] (PostD C n Q)) l a w := by
    have hq : ∀ e a w, Post C n (defQ C fv args.toList Q) e a w → tailQ P ops [{ dst := none, op := .defer { callee := .value fv, args := args, argTypes := ts }, type := ty, pos := pos, after := af, guard := none }] (PostD C n Q) e a w := by
      rintro e a' w' ⟨x, en, H', R', q, er, hm', hf'⟩
      cases x with
      | normal =>
        simp only [ExitRel] at er; subst er
        obtain ⟨d, hd, q⟩ := Df.h q
        refine wpList_plain rfl fun K hK => ?_
        have hrun : (execOp a'.eval { dst := none, op := .defer { callee := .value fv, args := args, argTypes := ts }, type := ty, pos := pos, after := af, guard := none : Oper }).run P w' = .ok (.defer d) w' := by
          unfold deferA at hd
          split at hd
          · rename_i f l1 l2 hfv
            split at hd
            · rename_i x1 avs x2 h1 h2 h3
              split at hd
              · rename_i xs h4
                simp only [Option.some.injEq] at hd
                subst hd
                obtain ⟨⟨y1, y2, ey, r1, r2⟩, _⟩ := rel_one (hf'.eval hfv) rfl, trivial
                simp only [List.cons.injEq, and_true] at ey
                have e1 := concL_ok h1 r1
                have e2 := concL_ok h3 r2
                have e3 := concL_ok h4 (argsA_rel (fun x av h => hf'.eval h) h2)
                have e3' : (args.map a'.eval) = xs.toArray := by
                  apply Array.ext'
                  simpa using e3
                have e1' : y1 = x1.toArray := by apply Array.ext'; simpa using e1
                have e2' : y2 = x2.toArray := by apply Array.ext'; simpa using e2
                simp only [execOp, resolve, ey, e3', e1', e2', Deferred.ofValue, Sem.run_bind, Sem.run_pure, Result.andThen_ok]
                simp
              · cases hd
            · cases hd
          · cases hd
        rw [Oper.wp, hrun, Oper.upon_defer]
        refine hK _ _ (wpList_nil ⟨_, .normal, en, H', R', q, rfl, hm', ?_⟩)
        exact ⟨fun k v x => hf'.fr k v x, hf'.size, by show _ :: a'.defers = _; rw [hf'.defers]⟩
      | exit i => simp only [ExitRel] at er; subst er; exact ⟨C.D, .exit i, en, H', R', q, rfl, hm', hf'⟩
      | goto i => simp only [ExitRel] at er; subst er; exact ⟨C.D, .goto i, en, H', R', q, rfl, hm', hf'⟩
      | ret => simp only [ExitRel] at er; subst er; exact ⟨C.D, .ret, en, H', R', q, rfl, hm', hf'⟩
      | panic v => obtain ⟨y, rfl, hr⟩ := er; exact ⟨C.D, .panic v, en, H', R', q, ⟨y, rfl, hr⟩, hm', hf'⟩
    intro l
    induction l with
    | nil => exact fun {a w} h => hq _ _ _ h
    | cons o r ih =>
      intro a w h
      simp only [wpList] at h ⊢
      split
      · rename_i hw
        rw [if_pos hw] at h
        rcases h with h | ⟨h1, b, w2, x, en, H', R', q, er, _⟩
        · exact .inl (upon_map (fun _ _ => ih) (fun _ _ _ => hq _ _ _) (fun ⟨a, w, q⟩ => ⟨a, w, hq _ _ _ q⟩) h)
        · exact .inr ⟨h1, b, w2, hq _ _ _ ⟨x, en, H', R', q, er, by assumption⟩⟩
      · rename_i hw
        rw [if_neg hw] at h
        exact ih h
  exact key h1
end
end Go.Proofs.YtlmihggafbmkaaaGreatDoor
