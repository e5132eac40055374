/- The rules of single operations over the abstract states of my own layer. -/
import Derived.Test.YtlmihggafbmkaaaGreatDoorAbs
namespace Go.Proofs.YtlmihggafbmkaaaGreatDoor
open Go
set_option linter.unusedSimpArgs false

section
variable {P : Program} {C : Ctx} {n : Nat} {env : Env} {H : Heap} {Q : AExit → Env → Heap → Prop} {ops : Array Oper} {rest : List Oper}

/-! ## Regions -/
theorem aw_region {id : Nat} {l : List Oper} (h : AOps P C n l.toArray l env H Q) : AWp P C n (.region id l.toArray false) env H Q :=
  fun R a w hm hf => wp_region_lit (h R a w hm hf)
theorem ao_nil (h : Q .normal env H) : AOps P C n ops [] env H Q :=
  fun R _ _ hm hf => wpList_nil ⟨.normal, env, H, R, h, rfl, hm, hf⟩

/-! ## Guards -/
def guardA (ops : Array Oper) (env : Env) : Option (Nat × Bool) → Option (Bool × Bool)
  | none => some (true, true)
  | some (j, want) =>
    match ops[j]? with
    | some o => match o.dst with
      | some d => match Env.get env d with
        | some (.bool b) => some (b, want)
        | _ => none
      | none => none
    | none => none
theorem wanted_of {D : List Deferred} {R : Seal} {a : Act} {o : Oper} {b want : Bool} (hf : FS D n R env a) (hg : guardA ops env o.guard = some (b, want)) :
    Region.wanted o (yielded ops a.tmps) = (b == want) := by
  unfold guardA at hg
  unfold Region.wanted
  split at hg
  · rename_i h; rw [h]; simp only [Option.some.injEq, Prod.mk.injEq] at hg; simp [hg.1.symm, hg.2.symm]
  · rename_i j wt h
    rw [h]
    split at hg
    · rename_i o' ho
      split at hg
      · rename_i d hd
        split at hg
        · rename_i b' hb
          simp only [Option.some.injEq, Prod.mk.injEq] at hg
          obtain ⟨rfl, rfl⟩ := hg
          obtain ⟨x, hx, hr⟩ := hf.fr d _ hb
          rw [rel_bool.1 hr] at hx
          simp [yielded, ho, hd, hx]
        · simp at hg
      · simp at hg
    · simp at hg
/-- The slot that a guard looks at. -/
def guardSlot (ops : Array Oper) : Option (Nat × Bool) → Option Nat
  | some (j, _) => match ops[j]? with
    | some o => o.dst
    | none => none
  | none => none

/-- An operation that is not carried out. -/
theorem ao_skip {o : Oper} {d : Nat} (hg : guardA ops env o.guard = some (true, false)) (hd : o.dst = some d) (hdn : Nat.ble (d + 1) n = true)
    (h : AOps P C n ops rest ((d, .raw undef) :: env) H Q) : AOps P C n ops (o :: rest) env H Q := by
  intro R a w hm hf
  refine wpList_step fun K hK => ?_
  rw [wanted_of hf hg, if_neg (by simp), hd]
  exact hK _ _ (h R _ w hm (hf.put hdn (rel_raw.2 rfl)))
theorem ao_skip' {o : Oper} {d : Nat} (hg : guardA ops env o.guard = some (false, true)) (hd : o.dst = some d) (hdn : Nat.ble (d + 1) n = true)
    (h : AOps P C n ops rest ((d, .raw undef) :: env) H Q) : AOps P C n ops (o :: rest) env H Q := by
  intro R a w hm hf
  refine wpList_step fun K hK => ?_
  rw [wanted_of hf hg, if_neg (by simp), hd]
  exact hK _ _ (h R _ w hm (hf.put hdn (rel_raw.2 rfl)))
theorem ao_skip_none {o : Oper} {b want : Bool} (hg : guardA ops env o.guard = some (b, want)) (hb : (b == want) = false) (hd : o.dst = none)
    (h : AOps P C n ops rest env H Q) : AOps P C n ops (o :: rest) env H Q := by
  intro R a w hm hf
  refine wpList_step fun K hK => ?_
  rw [wanted_of hf hg, hb, if_neg (by simp), hd]
  exact hK _ _ (h R _ w hm hf)
/-- The operation behind the guard was not carried out itself. -/
theorem ao_skip_undef {o : Oper} {d e : Nat} (hs : guardSlot ops o.guard = some e) (hv : Env.get env e = some (.raw undef)) (hd : o.dst = some d) (hdn : Nat.ble (d + 1) n = true)
    (h : AOps P C n ops rest ((d, .raw undef) :: env) H Q) : AOps P C n ops (o :: rest) env H Q := by
  intro R a w hm hf
  refine wpList_step fun K hK => ?_
  have hw : Region.wanted o (yielded ops a.tmps) = false := by
    unfold guardSlot at hs
    unfold Region.wanted
    split at hs
    · rename_i j want h
      rw [h]
      split at hs
      · rename_i o' ho
        obtain ⟨x, hx, hr⟩ := hf.fr e _ hv
        rw [rel_raw.1 hr] at hx
        simp [yielded, ho, hs, hx, undef]
      · cases hs
    · cases hs
  rw [hw, if_neg (by simp), hd]
  exact hK _ _ (h R _ w hm (hf.put hdn (rel_raw.2 rfl)))
/-- A guard that is not decided parts the way. -/
theorem ao_split {o : Oper} {b want : Bool} {d : Nat} (_hg : guardA ops env o.guard = some (b, want)) (_hs : guardSlot ops o.guard = some d) (hv : Env.get env d = some (.bool b))
    (ht : b = true → AOps P C n ops (o :: rest) ((d, .bool true) :: env) H Q) (hf : b = false → AOps P C n ops (o :: rest) ((d, .bool false) :: env) H Q) :
    AOps P C n ops (o :: rest) env H Q := by
  have key : ∀ x, b = x → ∀ {D : List Deferred} R a, FS D n R env a → FS D n R ((d, .bool x) :: env) a := by
    rintro x rfl D R a hfr
    refine ⟨fun k v hk => ?_, hfr.size, hfr.defers⟩
    simp only [Env.get] at hk
    cases hb : Nat.beq d k with
    | true =>
      rw [hb] at hk
      have := Nat.eq_of_beq_eq_true hb
      subst this
      simp only [Option.some.injEq] at hk
      subst hk
      exact hfr.fr d _ hv
    | false => rw [hb] at hk; exact hfr.fr k v hk
  intro R a w hm hfr
  cases hb : b with
  | true => exact ht hb R a w hm (key true hb R a hfr)
  | false => exact hf hb R a w hm (key false hb R a hfr)

/-! ## An operation that hands back a value -/
def Evals (R : Seal) (env : Env) (ρ : Operand → Value) : Prop := ∀ x av, evalA env x = some av → Rel R av (ρ x)
theorem ao_val {o : Oper} {d : Nat} {av : AVal} {H' : Heap} {b : Bool} (hg : guardA ops env o.guard = some (b, b)) (hd : o.dst = some d) (hdn : Nat.ble (d + 1) n = true)
    (hx : ∀ R ρ w, MS C R H w → Evals R env ρ → ∃ v w' R', (execOp ρ o).run P w = .ok (.value v) w' ∧ R.le R' ∧ Rel R' av v ∧ MS C R' H' w')
    (h : AOps P C n ops rest ((d, av) :: env) H' Q) : AOps P C n ops (o :: rest) env H Q := by
  intro R a w hm hf
  refine wpList_step fun K hK => ?_
  rw [wanted_of hf hg, if_pos (by simp)]
  obtain ⟨v, w', R', hr, hR, hv, hm'⟩ := hx R a.eval w hm (fun x av h => hf.eval h)
  rw [Oper.wp, hr, Oper.upon_value, hd]
  exact hK _ _ (h R' _ w' hm' ((hf.mono hR).put hdn hv))
/-- The same where what comes back is not known beforehand. -/
theorem ao_valX {X : Type} {o : Oper} {d : Nat} {av : X → AVal} {H' : X → Heap} {b : Bool} (hg : guardA ops env o.guard = some (b, b)) (hd : o.dst = some d) (hdn : Nat.ble (d + 1) n = true)
    (hx : ∀ R ρ w, MS C R H w → Evals R env ρ → ∃ x v w' R', (execOp ρ o).run P w = .ok (.value v) w' ∧ R.le R' ∧ Rel R' (av x) v ∧ MS C R' (H' x) w')
    (h : ∀ x, AOps P C n ops rest ((d, av x) :: env) (H' x) Q) : AOps P C n ops (o :: rest) env H Q := by
  intro R a w hm hf
  refine wpList_step fun K hK => ?_
  rw [wanted_of hf hg, if_pos (by simp)]
  obtain ⟨x, v, w', R', hr, hR, hv, hm'⟩ := hx R a.eval w hm (fun x av h => hf.eval h)
  rw [Oper.wp, hr, Oper.upon_value, hd]
  exact hK _ _ (h x R' _ w' hm' ((hf.mono hR).put hdn hv))
/-- The same, memory as it was. -/
theorem ao_pure {o : Oper} {d : Nat} {av : AVal} {b : Bool} (hg : guardA ops env o.guard = some (b, b)) (hd : o.dst = some d) (hdn : Nat.ble (d + 1) n = true)
    (hx : ∀ R ρ w, MS C R H w → Evals R env ρ → ∃ v, (execOp ρ o).run P w = .ok (.value v) w ∧ Rel R av v)
    (h : AOps P C n ops rest ((d, av) :: env) H Q) : AOps P C n ops (o :: rest) env H Q :=
  ao_val hg hd hdn (fun R ρ w hm hf => let ⟨v, hr, hv⟩ := hx R ρ w hm hf; ⟨v, w, R, hr, Seal.le_refl R, hv, hm⟩) h

variable {d : Nat} {t : TypeId} {p : String} {af : Array Edge} {g : Option (Nat × Bool)} {b : Bool} {av : AVal}

theorem ao_move {x : Operand} (hg : guardA ops env g = some (b, b)) (hdn : Nat.ble (d + 1) n = true) (hx : evalA env x = some av)
    (h : AOps P C n ops rest ((d, av) :: env) H Q) : AOps P C n ops ({ dst := some d, op := .move x, type := t, pos := p, after := af, guard := g } :: rest) env H Q :=
  ao_pure hg rfl hdn (fun _ ρ _ _ hf => ⟨ρ x, rfl, hf _ _ hx⟩) h
theorem ao_assign {x : Operand} (hg : guardA ops env g = some (b, b)) (hdn : Nat.ble (d + 1) n = true) (hx : evalA env x = some av)
    (h : AOps P C n ops rest ((d, av) :: env) H Q) : AOps P C n ops ({ dst := some d, op := .assign x, type := t, pos := p, after := af, guard := g } :: rest) env H Q :=
  ao_pure hg rfl hdn (fun _ ρ _ _ hf => ⟨ρ x, rfl, hf _ _ hx⟩) h
theorem ao_pick_true {c x y : Operand} (hg : guardA ops env g = some (b, b)) (hdn : Nat.ble (d + 1) n = true) (hc : evalA env c = some (.bool true)) (hx : evalA env x = some av)
    (h : AOps P C n ops rest ((d, av) :: env) H Q) : AOps P C n ops ({ dst := some d, op := .pick c x y, type := t, pos := p, after := af, guard := g } :: rest) env H Q :=
  ao_pure hg rfl hdn (fun _ ρ _ _ hf => ⟨ρ x, by have := rel_bool.1 (hf _ _ hc); simp only [execOp, this, asBool]; rfl, hf _ _ hx⟩) h
theorem ao_pick_false {c x y : Operand} (hg : guardA ops env g = some (b, b)) (hdn : Nat.ble (d + 1) n = true) (hc : evalA env c = some (.bool false)) (hx : evalA env y = some av)
    (h : AOps P C n ops rest ((d, av) :: env) H Q) : AOps P C n ops ({ dst := some d, op := .pick c x y, type := t, pos := p, after := af, guard := g } :: rest) env H Q :=
  ao_pure hg rfl hdn (fun _ ρ _ _ hf => ⟨ρ y, by have := rel_bool.1 (hf _ _ hc); simp only [execOp, this, asBool]; rfl, hf _ _ hx⟩) h

/-! ### Integers -/
/-- The comparisons, each behind a name that nothing opens by itself. -/
def ltB (x y : Int) : Bool := decide (x < y)
def eqB (x y : Int) : Bool := decide (x = y)
theorem ltB_t {x y : Int} : ltB x y = true ↔ x < y := by simp [ltB]
theorem ltB_f {x y : Int} : ltB x y = false ↔ y ≤ x := by simp [ltB]
theorem eqB_t {x y : Int} : eqB x y = true ↔ x = y := by simp [eqB]
theorem eqB_f {x y : Int} : eqB x y = false ↔ x ≠ y := by simp [eqB]
theorem ltB_def {x y : Int} : ltB x y = decide (x < y) := rfl
theorem eqB_def {x y : Int} : eqB x y = decide (x = y) := rfl
theorem lt_ltB {x y : Int} : decide (x < y) = ltB x y := rfl
theorem gt_ltB {x y : Int} : decide (x > y) = ltB y x := rfl
theorem le_ltB {x y : Int} : decide (x ≤ y) = !ltB y x := by rw [Bool.eq_iff_iff]; simp [ltB]
theorem ge_ltB {x y : Int} : decide (x ≥ y) = !ltB x y := by rw [Bool.eq_iff_iff]; simp [ltB]
theorem eq_eqB {x y : Int} : (x == y) = eqB x y := rfl
theorem ne_eqB {x y : Int} : (x != y) = !eqB x y := rfl
attribute [irreducible] ltB eqB
/-- '+', '-', '*', the bits, the comparisons. -/
def intBin (op : BinOp) (k : IntKind) (x y : Int) : Option AVal :=
  match op with
  | .add => some (.int k (k.wrap (x + y)))
  | .sub => some (.int k (k.wrap (x - y)))
  | .mul => some (.int k (k.wrap (x * y)))
  | .and => some (.int k (k.wrap (BitVec.ofInt k.bits x &&& BitVec.ofInt k.bits y).toNat))
  | .or => some (.int k (k.wrap (BitVec.ofInt k.bits x ||| BitVec.ofInt k.bits y).toNat))
  | .xor => some (.int k (k.wrap (BitVec.ofInt k.bits x ^^^ BitVec.ofInt k.bits y).toNat))
  | .andNot => some (.int k (k.wrap (BitVec.ofInt k.bits x &&& ~~~ BitVec.ofInt k.bits y).toNat))
  | .eql => some (.bool (eqB x y))
  | .neq => some (.bool (!eqB x y))
  | .lss => some (.bool (ltB x y))
  | .leq => some (.bool (!ltB y x))
  | .gtr => some (.bool (ltB y x))
  | .geq => some (.bool (!ltB x y))
  | _ => none
theorem run_intBin {op : BinOp} {k : IntKind} {m q : Int} {tx : TypeId} {x y : Operand} {w : World} (ho : intBin op k m q = some av) :
    ∃ v, Sem.run P (do eqGuard op tx x y (.int k m) (.int k q); Go.binOp op tx (.int k m) (.int k q)) w = .ok v w ∧ ∀ R, Rel R av v := by
  cases op <;> simp only [intBin, Option.some.injEq] at ho <;>
    first
      | (cases ho; done)
      | (subst ho; refine ⟨.int k _, ?_, fun _ => rel_int.2 rfl⟩; simp only [Go.binOp, eqGuard, ne_eq, not_true_eq_false, if_false, Op.intArith, Op.intBits, Op.intCmp]; rfl)
      | (subst ho; refine ⟨.bool _, ?_, fun _ => rel_bool.2 rfl⟩; simp only [Go.binOp, eqGuard, ne_eq, not_true_eq_false, if_false, Op.intArith, Op.intBits, Op.intCmp, ltB_def, eqB_def]; rfl)
      | (subst ho; refine ⟨.bool _, ?_, fun _ => rel_bool.2 rfl⟩; simp only [Go.binOp, eqGuard, ne_eq, not_true_eq_false, if_false, Op.intArith, Op.intBits, Op.intCmp, le_ltB, ge_ltB]; rfl)
theorem ao_int {op : BinOp} {k : IntKind} {x y : Operand} {tx ty : TypeId} {m q : Int} (hg : guardA ops env g = some (b, b)) (hdn : Nat.ble (d + 1) n = true)
    (hx : evalA env x = some (.int k m)) (hy : evalA env y = some (.int k q)) (ho : intBin op k m q = some av)
    (h : AOps P C n ops rest ((d, av) :: env) H Q) : AOps P C n ops ({ dst := some d, op := .binOp op tx x y ty, type := t, pos := p, after := af, guard := g } :: rest) env H Q := by
  refine ao_pure hg rfl hdn (fun R ρ w hm hf => ?_) h
  obtain ⟨v, hv, hr⟩ := run_intBin (P := P) (tx := tx) (x := x) (y := y) (w := w) ho
  refine ⟨v, ?_, hr R⟩
  simp only [execOp, rel_int.1 (hf _ _ hx), rel_int.1 (hf _ _ hy)]
  simp only [Sem.run_bind] at hv ⊢
  rw [hv]
  rfl
end
end Go.Proofs.YtlmihggafbmkaaaGreatDoor
