/- The rules of ranging over strings, interfaces, panics, lengths, comparisons with nil, elements of rows. -/
import Derived.Test.YtlmihggafbmkaaaGreatDoorRow
namespace Go.Proofs.YtlmihggafbmkaaaGreatDoor
open Go
set_option linter.unusedSimpArgs false
set_option linter.unusedSectionVars false

section
variable {P : Program} [Tab P] {C : Ctx} {n : Nat} {env : Env} {H : Heap} {Q : AExit → Env → Heap → Prop} {ops : Array Oper} {rest : List Oper}
variable {eT : Option TypeId}
variable {d : Nat} {t : TypeId} {p : String} {af : Array Edge} {g : Option (Nat × Bool)} {b : Bool} {av : AVal}
variable {x y : Operand} {T : TypeId} {xT : TI}

/-! ### Ranging over a string -/
theorem ao_range_str {s : List UInt8} (hg : guardA ops env g = some (b, b)) (hdn : Nat.ble (d + 1) n = true) (hx : evalA env x = some (.str s)) (h1 : tab P T = some xT) (h2 : xT.desc = .string)
    (h : ∀ bl : Nat, AOps P C n ops rest ((d, .raw (.pointer (some ⟨bl, 0, none⟩))) :: env) (.iter bl s 0 :: H) Q) :
    AOps P C n ops ({ dst := some d, op := .range T x, type := t, pos := p, after := af, guard := g } :: rest) env H Q := by
  refine ao_valX (av := fun bl : Nat => .raw (.pointer (some ⟨bl, 0, none⟩))) (H' := fun bl => .iter bl s 0 :: H) hg rfl hdn (fun R ρ w hm hf => ?_) h
  refine ⟨w.heap.size, _, grow w (.stringIter ⟨s.toArray⟩ 0), R, ?_, Seal.le_refl R, rel_raw.2 rfl, hm.alloc _ _ rfl (grow_at w _)⟩
  simp only [execOp, rel_str.1 (hf _ _ hx), Instr.range, Sem.run_bind, tab_run_und h1, h2, Result.andThen_ok]
  rfl
theorem run_getObj_at {w : World} {bl : Nat} {o : Obj} (h : w.heap[bl]? = some o) (hc : ∀ c e f, o ≠ .cells c e f) : (getObj bl).run P w = .ok o w := by
  unfold getObj
  cases o with
  | cells c e f => exact absurd rfl (hc _ _ _)
  | _ => simp only [Sem.run, h]
theorem ao_next_more {i bl pos : Nat} {s : List UInt8} (hg : guardA ops env g = some (b, b)) (hdn : Nat.ble (d + 1) n = true) (hx : evalA env x = some (.raw (.pointer (some ⟨bl, 0, none⟩)))) (hi : H[i]? = some (.iter bl s pos)) (hlt : pos < s.length)
    (h : AOps P C n ops rest ((d, .tuple [.bool true, .int .i64 (pos : Int), .int .i32 ((Utf8.decode ⟨s.toArray⟩ pos).1 : Int)]) :: env) (H.set i (.iter bl s (pos + (Utf8.decode ⟨s.toArray⟩ pos).2))) Q) :
    AOps P C n ops ({ dst := some d, op := .next x true, type := t, pos := p, after := af, guard := g } :: rest) env H Q := by
  refine ao_val hg rfl hdn (fun R ρ w hm hf => ?_) h
  have hb : w.heap[bl]? = some (.stringIter ⟨s.toArray⟩ pos) := hm.heap.holds _ (List.mem_of_getElem? hi)
  have hlt' := heap_lt hb
  have ho : OneBlk w bl (.stringIter ⟨s.toArray⟩ (pos + (Utf8.decode ⟨s.toArray⟩ pos).2)) { w with heap := w.heap.setIfInBounds bl (.stringIter ⟨s.toArray⟩ (pos + (Utf8.decode ⟨s.toArray⟩ pos).2)) } :=
    ⟨rfl, rfl, rfl, by simp, by simp [hlt'], fun k hk => by simp only []; rw [Array.getElem?_setIfInBounds_ne (Ne.symm hk)]⟩
  refine ⟨.tuple #[.bool true, .int .i64 (pos : Int), .int .i32 ((Utf8.decode ⟨s.toArray⟩ pos).1 : Int)], { w with heap := w.heap.setIfInBounds bl (.stringIter ⟨s.toArray⟩ (pos + (Utf8.decode ⟨s.toArray⟩ pos).2)) }, R, ?_, Seal.le_refl R, ?_,
    hm.write hi rfl ho rfl ho.at_⟩
  · simp only [execOp, rel_raw.1 (hf _ _ hx), Instr.next, Sem.run_bind, run_getObj_at hb (by simp), Result.andThen_ok, str_size, if_pos hlt]
    simp only [setObj, Sem.run, hb]
    rfl
  · exact ⟨⟨_, rfl, _, _, rfl, ⟨rfl, rfl⟩, _, _, rfl, ⟨rfl, rfl⟩, _, _, rfl, ⟨rfl, rfl⟩, rfl⟩, rfl⟩
theorem ao_next_done {i bl pos : Nat} {s : List UInt8} (hg : guardA ops env g = some (b, b)) (hdn : Nat.ble (d + 1) n = true) (hx : evalA env x = some (.raw (.pointer (some ⟨bl, 0, none⟩)))) (hi : H[i]? = some (.iter bl s pos)) (hlt : s.length ≤ pos)
    (h : AOps P C n ops rest ((d, .tuple [.bool false]) :: env) H Q) :
    AOps P C n ops ({ dst := some d, op := .next x true, type := t, pos := p, after := af, guard := g } :: rest) env H Q := by
  refine ao_pure hg rfl hdn (fun R ρ w hm hf => ?_) h
  have hb : w.heap[bl]? = some (.stringIter ⟨s.toArray⟩ pos) := hm.heap.holds _ (List.mem_of_getElem? hi)
  refine ⟨.tuple #[.bool false], ?_, ⟨⟨_, rfl, _, _, rfl, ⟨rfl, rfl⟩, rfl⟩, rfl⟩⟩
  simp only [execOp, rel_raw.1 (hf _ _ hx), Instr.next, Sem.run_bind, run_getObj_at hb (by simp), Result.andThen_ok, str_size]
  rw [if_neg (by omega)]
  rfl

/-! ### Interfaces -/
def descIface : TypeDesc → Bool
  | .interface _ => true
  | _ => false
theorem rel_iface {R : Seal} {ty : TypeId} {a : AVal} {v : Value} (h : Rel R a v) : Rel R (.iface ty a) (.iface ty v) := by
  refine ⟨?_, rfl⟩
  show RelC R (.iface ty a) [.iface ty v]
  exact ⟨v, rfl, h.1, h.2⟩
theorem ao_makeIface {v : AVal} (hg : guardA ops env g = some (b, b)) (hdn : Nat.ble (d + 1) n = true) (hx : evalA env x = some v) (h1 : tab P T = some xT) (h2 : descIface xT.desc = false)
    (h : AOps P C n ops rest ((d, .iface T v) :: env) H Q) :
    AOps P C n ops ({ dst := some d, op := .makeInterface T x, type := t, pos := p, after := af, guard := g } :: rest) env H Q := by
  refine ao_pure hg rfl hdn (fun R ρ w hm hf => ⟨.iface T (ρ x), ?_, rel_iface (hf _ _ hx)⟩) h
  simp only [execOp, Instr.makeInterface, Sem.run_bind, tab_run_und h1, Result.andThen_ok]
  cases hd : xT.desc <;> first | rfl | (rw [hd] at h2; simp [descIface] at h2)
/-- 'v, ok := x.(T)', T no interface. -/
theorem ao_assert_hit {v : AVal} {S : TypeId} {ty : TypeId} (hg : guardA ops env g = some (b, b)) (hdn : Nat.ble (d + 1) n = true) (hx : evalA env x = some (.iface ty v)) (h1 : tab P T = some xT) (h2 : descIface xT.desc = false) (he : ty = T)
    (h : AOps P C n ops rest ((d, .tuple [v, .bool true]) :: env) H Q) :
    AOps P C n ops ({ dst := some d, op := .typeAssert x S T true, type := t, pos := p, after := af, guard := g } :: rest) env H Q := by
  subst he
  refine ao_pure hg rfl hdn (fun R ρ w hm hf => ?_) h
  obtain ⟨u, e, h3, h4⟩ := rel_one (hf _ _ hx) rfl
  simp only [List.cons.injEq, and_true] at e
  refine ⟨.tuple #[u, .bool true], ?_, ⟨⟨_, rfl, _, _, rfl, ⟨h3, h4⟩, _, _, rfl, ⟨rfl, rfl⟩, rfl⟩, rfl⟩⟩
  simp only [execOp, e, Instr.typeAssert, Sem.run_bind, tab_run_und h1, Result.andThen_ok]
  cases hd : xT.desc <;> first | (simp; done) | (rw [hd] at h2; simp [descIface] at h2)
/-- The zero value of a type, as an abstract value. -/
def zeroA : Option Value → Option AVal
  | some (.agg cs) => match cs.toList.all fun v => !vAgg v with
    | true => some (.agg (cs.toList.map ofV))
    | false => none
  | some v => some (ofV v)
  | none => none
theorem zeroA_rel {R : Seal} {z : Option Value} {a : AVal} (h : zeroA z = some a) : ∃ v, z = some v ∧ Rel R a v := by
  cases z with
  | none => simp [zeroA] at h
  | some v =>
    refine ⟨v, rfl, ?_⟩
    cases v <;> simp only [zeroA, Option.some.injEq] at h
    case agg l =>
      split at h
      · rename_i hall
        simp only [Option.some.injEq] at h
        subst h
        exact ⟨relL_ofV R (fun v hv => by have := List.all_eq_true.1 hall v hv; simpa using this), rfl⟩
      · cases h
    all_goals (subst h; exact rel_ofV R _)
theorem ao_assert_miss {v z : AVal} {S : TypeId} {ty : TypeId} (hg : guardA ops env g = some (b, b)) (hdn : Nat.ble (d + 1) n = true) (hx : evalA env x = some (.iface ty v)) (h1 : tab P T = some xT) (h2 : descIface xT.desc = false) (he : Nat.beq ty T = false)
    (hz : zeroA xT.zero = some z)
    (h : AOps P C n ops rest ((d, .tuple [z, .bool false]) :: env) H Q) :
    AOps P C n ops ({ dst := some d, op := .typeAssert x S T true, type := t, pos := p, after := af, guard := g } :: rest) env H Q := by
  have he : ty ≠ T := by rintro rfl; rw [Nat.beq_refl] at he; cases he
  refine ao_pure hg rfl hdn (fun R ρ w hm hf => ?_) h
  obtain ⟨u, e, h3, h4⟩ := rel_one (hf _ _ hx) rfl
  simp only [List.cons.injEq, and_true] at e
  obtain ⟨zv, hzv, hzr⟩ := zeroA_rel (R := R) hz
  refine ⟨.tuple #[zv, .bool false], ?_, ⟨⟨_, rfl, _, _, rfl, hzr, _, _, rfl, ⟨rfl, rfl⟩, rfl⟩, rfl⟩⟩
  simp only [execOp, e, Instr.typeAssert, Sem.run_bind, tab_run_und h1, Result.andThen_ok]
  cases hd : xT.desc <;> first | (simp [he, tab_run_zero h1 hzv]; done) | (rw [hd] at h2; simp [descIface] at h2)
theorem ao_assert_nil {z : AVal} {S : TypeId} (hg : guardA ops env g = some (b, b)) (hdn : Nat.ble (d + 1) n = true) (hx : evalA env x = some (.raw .nilIface)) (h1 : tab P T = some xT)
    (hz : zeroA xT.zero = some z)
    (h : AOps P C n ops rest ((d, .tuple [z, .bool false]) :: env) H Q) :
    AOps P C n ops ({ dst := some d, op := .typeAssert x S T true, type := t, pos := p, after := af, guard := g } :: rest) env H Q := by
  refine ao_pure hg rfl hdn (fun R ρ w hm hf => ?_) h
  obtain ⟨zv, hzv, hzr⟩ := zeroA_rel (R := R) hz
  refine ⟨.tuple #[zv, .bool false], ?_, ⟨⟨_, rfl, _, _, rfl, hzr, _, _, rfl, ⟨rfl, rfl⟩, rfl⟩, rfl⟩⟩
  simp only [execOp, rel_raw.1 (hf _ _ hx), Instr.typeAssert, Sem.run_bind, tab_run_und h1, Result.andThen_ok]
  cases xT.desc <;> simp [tab_run_zero h1 hzv]
/-- A panic. -/
theorem ao_panic {v : AVal} {ty : TypeId} {dst : Option Nat} (hg : guardA ops env g = some (b, b)) (hx : evalA env x = some (.iface ty v)) (h : Q (.panic (.iface ty v)) env H) :
    AOps P C n ops ({ dst := dst, op := .panic x, type := t, pos := p, after := af, guard := g } :: rest) env H Q := by
  intro R a w hm hf
  refine wpList_step fun K hK => ?_
  rw [wanted_of hf hg, if_pos (by simp)]
  have hr := hf.eval hx
  obtain ⟨u, e, _⟩ := rel_one hr rfl
  simp only [List.cons.injEq, and_true] at e
  rw [e] at hr
  have hrun : (execOp a.eval { dst := dst, op := .panic x, type := t, pos := p, after := af, guard := g : Oper }).run P w = .halt (.panic (.iface ty u)) w := by
    simp only [execOp, e, Instr.panic]
    rfl
  rw [Oper.wp, hrun, Oper.upon_panic]
  exact ⟨.panic (.iface ty v), env, H, R, h, ⟨_, rfl, hr⟩, hm, hf⟩

/-! ### Against nil -/
/-- Is it nil, of such a type? -/
def isNil0 : TypeDesc → AVal → Option Bool
  | .interface _, .raw .nilIface => some true
  | .interface _, .iface _ _ => some false
  | .pointer _, .raw (.pointer a) => some a.isNone
  | .pointer _, .rop _ _ => some false
  | .slice _, .raw (.slice a _ _) => some a.isNone
  | .map _ _, .raw (.map a) => some a.isNone
  | _, _ => none
/-- The nil of a type. -/
def nilOf : TypeDesc → Option Value
  | .interface _ => some .nilIface
  | .pointer _ => some (.pointer none)
  | .slice _ => some (.slice none 0 0)
  | .map _ _ => some (.map none)
  | _ => none
theorem equal_nil0 {R : Seal} {w : World} {v z : Value} {c : Bool} (hv : Rel R av v) (h1 : tab P T = some xT) (hn : isNil0 xT.desc av = some c) (hz : nilOf xT.desc = some z) :
    (Op.equal T v z).run P w = .ok c w ∧ (∀ op yt, (eqGuard op T x (.const yt) v z).run P w = .ok () w) ∧ (∀ op, op = BinOp.eql ∨ op = .neq → Go.binOp op T v z = if op = .eql then (do pure (.bool (← Op.equal T v z))) else (do pure (.bool (!(← Op.equal T v z))))) := by
  have key : ∀ u, v = u → (Op.equalIn (9999 + 1) T u z).run P w = .ok c w → (∀ op yt, (eqGuard op T x (.const yt) u z).run P w = .ok () w) → (∀ op, op = BinOp.eql ∨ op = .neq → Go.binOp op T u z = if op = .eql then (do pure (.bool (← Op.equal T u z))) else (do pure (.bool (!(← Op.equal T u z))))) →
      (Op.equal T v z).run P w = .ok c w ∧ (∀ op yt, (eqGuard op T x (.const yt) v z).run P w = .ok () w) ∧ (∀ op, op = BinOp.eql ∨ op = .neq → Go.binOp op T v z = if op = .eql then (do pure (.bool (← Op.equal T v z))) else (do pure (.bool (!(← Op.equal T v z))))) := by
    rintro u rfl h2 h3 h4; exact ⟨h2, h3, h4⟩
  have hu := tab_run_und h1 w
  have guardOK : ∀ (u z : Value), (u = .nilIface ∨ vAgg u = false) → (u ≠ .nilIface ∨ z ≠ .nilIface ∨ True) → ∀ op yt, (eqGuard op T x (.const yt) u z).run P w = .ok () w := by
    intro u z hu _ op yt
    cases op <;> first | rfl | skip
    all_goals
      cases u <;> cases z <;> first | rfl | (simp [vAgg] at hu; done) | (simp [eqGuard]; done)
  cases hd : xT.desc <;> rw [hd] at hn hz hu <;> simp only [nilOf, Option.some.injEq] at hz <;> first | (cases hz; done) | skip
  case pointer e =>
    subst hz
    cases av <;> simp only [isNil0] at hn <;> first | (cases hn; done) | skip
    case raw u =>
      cases u <;> simp only [] at hn <;> first | (cases hn; done) | skip
      rename_i a
      simp only [Option.some.injEq] at hn
      subst hn
      refine key _ (rel_raw.1 hv) ?_ (guardOK _ _ (.inr rfl) (.inr (.inr trivial))) ?_
      · rw [Op.equalIn]; simp only [Sem.run_bind, hu, Result.andThen_ok]; cases a <;> rfl
      · rintro op (rfl | rfl) <;> cases a <;> rfl
    case rop cs off =>
      simp only [Option.some.injEq] at hn
      subst hn
      obtain ⟨bl, o, e1, _⟩ := rop_inv hv
      refine key _ e1 ?_ (guardOK _ _ (.inr rfl) (.inr (.inr trivial))) ?_
      · rw [Op.equalIn]; simp only [Sem.run_bind, hu, Result.andThen_ok]; rfl
      · rintro op (rfl | rfl) <;> rfl
  case slice e =>
    subst hz
    cases av <;> simp only [isNil0] at hn <;> first | (cases hn; done) | skip
    rename_i u
    cases u <;> simp only [] at hn <;> first | (cases hn; done) | skip
    rename_i a l c'
    simp only [Option.some.injEq] at hn
    subst hn
    refine key _ (rel_raw.1 hv) ?_ (guardOK _ _ (.inr rfl) (.inr (.inr trivial))) ?_
    · rw [Op.equalIn]; simp only [Sem.run_bind, hu, Result.andThen_ok]; cases a <;> rfl
    · rintro op (rfl | rfl) <;> rfl
  case map k e =>
    subst hz
    cases av <;> simp only [isNil0] at hn <;> first | (cases hn; done) | skip
    rename_i u
    cases u <;> simp only [] at hn <;> first | (cases hn; done) | skip
    rename_i a
    simp only [Option.some.injEq] at hn
    subst hn
    refine key _ (rel_raw.1 hv) ?_ (guardOK _ _ (.inr rfl) (.inr (.inr trivial))) ?_
    · rw [Op.equalIn]; simp only [Sem.run_bind, hu, Result.andThen_ok]; cases a <;> rfl
    · rintro op (rfl | rfl) <;> rfl
  case interface ms =>
    subst hz
    cases av <;> simp only [isNil0] at hn <;> first | (cases hn; done) | skip
    case raw u =>
      cases u <;> simp only [] at hn <;> first | (cases hn; done) | skip
      simp only [Option.some.injEq] at hn
      subst hn
      refine key _ (rel_raw.1 hv) ?_ (guardOK _ _ (.inl rfl) (.inr (.inr trivial))) ?_
      · rw [Op.equalIn]; simp only [Sem.run_bind, hu, Result.andThen_ok]; rfl
      · rintro op (rfl | rfl) <;> rfl
    case iface ty v' =>
      simp only [Option.some.injEq] at hn
      subst hn
      obtain ⟨u, e1, _⟩ := rel_one hv rfl
      simp only [List.cons.injEq, and_true] at e1
      refine key _ e1 ?_ (guardOK _ _ (.inr rfl) (.inr (.inr trivial))) ?_
      · rw [Op.equalIn]; simp only [Sem.run_bind, hu, Result.andThen_ok]; rfl
      · rintro op (rfl | rfl) <;> rfl
def isNilA (d : TypeDesc) : AVal → Option Bool
  | .own _ v => isNil0 d (.raw v)
  | a => isNil0 d a
theorem equal_nil {R : Seal} {w : World} {v z : Value} {c : Bool} (hv : Rel R av v) (h1 : tab P T = some xT) (hn : isNilA xT.desc av = some c) (hz : nilOf xT.desc = some z) :
    (Op.equal T v z).run P w = .ok c w ∧ (∀ op yt, (eqGuard op T x (.const yt) v z).run P w = .ok () w) ∧ (∀ op, op = BinOp.eql ∨ op = .neq → Go.binOp op T v z = if op = .eql then (do pure (.bool (← Op.equal T v z))) else (do pure (.bool (!(← Op.equal T v z))))) := by
  cases av with
  | own i u => exact equal_nil0 (x := x) (R := R) (rel_raw.2 (rel_own.1 hv).1) h1 hn hz
  | _ => exact equal_nil0 (x := x) hv h1 hn hz
theorem ao_eq_nil {a : AVal} {c : Bool} {z : Value} (hg : guardA ops env g = some (b, b)) (hdn : Nat.ble (d + 1) n = true) (hx : evalA env x = some a) (h1 : tab P T = some xT) (hn : isNilA xT.desc a = some c) (hz : nilOf xT.desc = some z) {ty : TypeId}
    (h : AOps P C n ops rest ((d, .bool c) :: env) H Q) :
    AOps P C n ops ({ dst := some d, op := .binOp .eql T x (.const z) ty, type := t, pos := p, after := af, guard := g } :: rest) env H Q := by
  refine ao_pure hg rfl hdn (fun R ρ w hm hf => ⟨_, ?_, rel_bool.2 rfl⟩) h
  have hc : ρ (.const z) = z := by
    have := hf (.const z) _ (evalA_const env z)
    have hz' : ∀ z' : Value, nilOf xT.desc = some z' → ofV z' = .raw z' := by
      intro z' hz'
      cases hd : xT.desc <;> rw [hd] at hz' <;> simp only [nilOf, Option.some.injEq] at hz' <;> first | (cases hz'; done) | (subst hz'; rfl)
    rw [hz' z hz] at this
    exact rel_raw.1 this
  obtain ⟨h3, h4, h5⟩ := equal_nil (x := x) (w := w) (hf _ _ hx) h1 hn hz
  simp only [execOp, hc, Sem.run_bind, h4, Result.andThen_ok, h5 .eql (.inl rfl), if_true, h3, Sem.run_pure]
theorem ao_ne_nil {a : AVal} {c : Bool} {z : Value} (hg : guardA ops env g = some (b, b)) (hdn : Nat.ble (d + 1) n = true) (hx : evalA env x = some a) (h1 : tab P T = some xT) (hn : isNilA xT.desc a = some c) (hz : nilOf xT.desc = some z) {ty : TypeId}
    (h : AOps P C n ops rest ((d, .bool (!c)) :: env) H Q) :
    AOps P C n ops ({ dst := some d, op := .binOp .neq T x (.const z) ty, type := t, pos := p, after := af, guard := g } :: rest) env H Q := by
  refine ao_pure hg rfl hdn (fun R ρ w hm hf => ⟨_, ?_, rel_bool.2 rfl⟩) h
  have hc : ρ (.const z) = z := by
    have := hf (.const z) _ (evalA_const env z)
    have hz' : ∀ z' : Value, nilOf xT.desc = some z' → ofV z' = .raw z' := by
      intro z' hz'
      cases hd : xT.desc <;> rw [hd] at hz' <;> simp only [nilOf, Option.some.injEq] at hz' <;> first | (cases hz'; done) | (subst hz'; rfl)
    rw [hz' z hz] at this
    exact rel_raw.1 this
  obtain ⟨h3, h4, h5⟩ := equal_nil (x := x) (w := w) (hf _ _ hx) h1 hn hz
  have h6 := h5 .neq (.inr rfl)
  rw [if_neg (by decide)] at h6
  simp only [execOp, hc, Sem.run_bind, h4, Result.andThen_ok, h6, h3, Sem.run_pure]

/-! ### Lengths -/
theorem ao_len_list {sz m : Nat} {f : Nat → AVal} {e : TypeId} (hg : guardA ops env g = some (b, b)) (hdn : Nat.ble (d + 1) n = true) (hx : evalA env x = some (.list sz m f)) (h1 : tab P T = some xT) (h2 : xT.desc = .slice e)
    (h : AOps P C n ops rest ((d, .int .i64 (m : Int)) :: env) H Q) :
    AOps P C n ops ({ dst := some d, op := .call { callee := .builtin .len, args := [x].toArray, argTypes := [T].toArray }, type := t, pos := p, after := af, guard := g } :: rest) env H Q := by
  refine ao_pure hg rfl hdn (fun R ρ w hm hf => ⟨_, ?_, rel_int.2 rfl⟩) h
  obtain ⟨a, cap, e1, _⟩ := rel_one (hf _ _ hx) rfl
  simp only [List.cons.injEq, and_true] at e1
  simp only [execOp, resolve, Sem.run_bind, Sem.run_pure, Result.andThen_ok, invoke, builtin, Builtin.len_, List.map_toArray, List.map_cons, List.map_nil, e1]
  simp only [List.getElem?_toArray, List.getElem?_cons_zero, Sem.run_bind, tab_run_und h1, h2, Result.andThen_ok, Sem.run_pure, goInt]
theorem ao_len_raw {a : Option Addr} {m cap : Nat} {e : TypeId} (hg : guardA ops env g = some (b, b)) (hdn : Nat.ble (d + 1) n = true) (hx : evalA env x = some (.raw (.slice a m cap))) (h1 : tab P T = some xT) (h2 : xT.desc = .slice e)
    (h : AOps P C n ops rest ((d, .int .i64 (m : Int)) :: env) H Q) :
    AOps P C n ops ({ dst := some d, op := .call { callee := .builtin .len, args := [x].toArray, argTypes := [T].toArray }, type := t, pos := p, after := af, guard := g } :: rest) env H Q := by
  refine ao_pure hg rfl hdn (fun R ρ w hm hf => ⟨_, ?_, rel_int.2 rfl⟩) h
  simp only [execOp, resolve, Sem.run_bind, Sem.run_pure, Result.andThen_ok, invoke, builtin, Builtin.len_, List.map_toArray, List.map_cons, List.map_nil, rel_raw.1 (hf _ _ hx)]
  simp only [List.getElem?_toArray, List.getElem?_cons_zero, Sem.run_bind, tab_run_und h1, h2, Result.andThen_ok, Sem.run_pure, goInt]
theorem ao_len_row {i sz m : Nat} {v : Value} {cs : List AVal} {e : TypeId} (hg : guardA ops env g = some (b, b)) (hdn : Nat.ble (d + 1) n = true) (hx : evalA env x = some (.raw v)) (hi : H[i]? = some (.row v eT sz m cs)) (h1 : tab P T = some xT) (h2 : xT.desc = .slice e)
    (h : AOps P C n ops rest ((d, .int .i64 (m : Int)) :: env) H Q) :
    AOps P C n ops ({ dst := some d, op := .call { callee := .builtin .len, args := [x].toArray, argTypes := [T].toArray }, type := t, pos := p, after := af, guard := g } :: rest) env H Q := by
  refine ao_pure hg rfl hdn (fun R ρ w hm hf => ⟨_, ?_, rel_int.2 rfl⟩) h
  have hv := rel_raw.1 (hf _ _ hx)
  obtain ⟨_, hh⟩ := hm.heap.holds _ (List.mem_of_getElem? hi)
  rcases hh with ⟨rfl, rfl⟩ | ⟨bl, cap, Cs, el, fz, rfl, _⟩
  all_goals
    simp only [execOp, resolve, Sem.run_bind, Sem.run_pure, Result.andThen_ok, invoke, builtin, Builtin.len_, List.map_toArray, List.map_cons, List.map_nil, hv]
    simp only [List.getElem?_toArray, List.getElem?_cons_zero, Sem.run_bind, tab_run_und h1, h2, Result.andThen_ok, Sem.run_pure, goInt]
/-! ### min, max of two -/
theorem ao_min {k : IntKind} {m q : Int} {ts : Array TypeId} (hg : guardA ops env g = some (b, b)) (hdn : Nat.ble (d + 1) n = true) (hx : evalA env x = some (.int k m)) (hy : evalA env y = some (.int k q))
    (h : AOps P C n ops rest ((d, .int k (min m q)) :: env) H Q) :
    AOps P C n ops ({ dst := some d, op := .call { callee := .builtin .min, args := [x, y].toArray, argTypes := ts }, type := t, pos := p, after := af, guard := g } :: rest) env H Q := by
  refine ao_pure hg rfl hdn (fun R ρ w hm hf => ⟨_, ?_, rel_int.2 rfl⟩) h
  have e : min m q = if q < m then q else m := by split <;> omega
  simp only [execOp, resolve, Sem.run_bind, Sem.run_pure, Result.andThen_ok, invoke, builtin, List.map_toArray, List.map_cons, List.map_nil, rel_int.1 (hf _ _ hx), rel_int.1 (hf _ _ hy), e]
  rfl
theorem ao_max {k : IntKind} {m q : Int} {ts : Array TypeId} (hg : guardA ops env g = some (b, b)) (hdn : Nat.ble (d + 1) n = true) (hx : evalA env x = some (.int k m)) (hy : evalA env y = some (.int k q))
    (h : AOps P C n ops rest ((d, .int k (max m q)) :: env) H Q) :
    AOps P C n ops ({ dst := some d, op := .call { callee := .builtin .max, args := [x, y].toArray, argTypes := ts }, type := t, pos := p, after := af, guard := g } :: rest) env H Q := by
  refine ao_pure hg rfl hdn (fun R ρ w hm hf => ⟨_, ?_, rel_int.2 rfl⟩) h
  have e : max m q = if m < q then q else m := by split <;> omega
  simp only [execOp, resolve, Sem.run_bind, Sem.run_pure, Result.andThen_ok, invoke, builtin, List.map_toArray, List.map_cons, List.map_nil, rel_int.1 (hf _ _ hx), rel_int.1 (hf _ _ hy), e]
  rfl
/-! ### Closures -/
theorem ao_makeFunc {fn : Fn} {l1 l2 : List Operand} {a1 a2 : List AVal} (hg : guardA ops env g = some (b, b)) (hdn : Nat.ble (d + 1) n = true) (h1 : argsA env l1 = some a1) (h2 : argsA env l2 = some a2)
    (h : AOps P C n ops rest ((d, .func fn a1 a2) :: env) H Q) :
    AOps P C n ops ({ dst := some d, op := .makeFunc fn l1.toArray l2.toArray, type := t, pos := p, after := af, guard := g } :: rest) env H Q := by
  refine ao_pure hg rfl hdn (fun R ρ w hm hf => ⟨_, rfl, ?_⟩) h
  exact ⟨⟨_, _, rfl, by simpa using argsA_rel hf h1, by simpa using argsA_rel hf h2⟩, rfl⟩
/-! ### Slices that are only read, cut -/
theorem ao_slice_list {lo hi : Option Operand} {sz m : Nat} {f : Nat → AVal} {i j : Int} {e : TypeId} {xe : TI} (hg : guardA ops env g = some (b, b)) (hdn : Nat.ble (d + 1) n = true) (hx : evalA env x = some (.list sz m f))
    (h1 : tab P T = some xT) (h2 : xT.desc = .slice e) (h3 : tab P e = some xe) (h4 : xe.size = sz) (hlo : boundA env 0 lo = some i) (hhi : boundA env (m : Int) hi = some j) (h0 : 0 ≤ i) (hij : i ≤ j) (hj : j ≤ m)
    (h : AOps P C n ops rest ((d, .list sz (j.toNat - i.toNat) (fun k => f (i.toNat + k))) :: env) H Q) :
    AOps P C n ops ({ dst := some d, op := .slice T x lo hi none, type := t, pos := p, after := af, guard := g } :: rest) env H Q := by
  refine ao_pure hg rfl hdn (fun R ρ w hm hf => ?_) h
  obtain ⟨a, cap, e1, hle, h5⟩ := rel_one (hf _ _ hx) rfl
  simp only [List.cons.injEq, and_true] at e1
  have hb := bounds_run (P := P) (isS := true) (len := m) (cap := cap) hf hlo hhi h0 hij (by omega) hle w
  refine ⟨.slice (if cap = i.toNat then a else a.map (·.add (i.toNat * sz))) (j.toNat - i.toNat) (cap - i.toNat), ?_, ⟨_, _, rfl, by omega, ?_⟩, rfl⟩
  · simp only [execOp, e1, Instr.sliceAt, Instr.slice, Sem.run_bind, Sem.run_pure, Result.andThen_ok, tab_run_und h1, h2, Option.map_none, hb, tab_run_size h3, h4]
  · by_cases hz : j.toNat - i.toNat = 0
    · exact .inl hz
    · rcases h5 with h5 | ⟨bl, o, Cs, el, fz, rfl, hR, hall⟩
      · omega
      refine .inr ⟨bl, o + i.toNat * sz, Cs, el, fz, ?_, hR, fun k hk => ?_⟩
      · rw [if_neg (by omega)]
        simp only [Option.map_some, add_off]
      · have := hall (i.toNat + k) (by omega)
        rw [Nat.add_mul, ← Nat.add_assoc] at this
        exact this
end
end Go.Proofs.YtlmihggafbmkaaaGreatDoor
