/- Parts of the proof of jsonReads_card: Heap, Row, Misc, Disp, Own, Run, Draw. -/
import Derived.Deep.AppendSrc
import Derived.Laws.IdiomStrings
import Derived.Deep.Quiet
import Derived.Test.YtmgkpbgfkjedeaaGreatDoorBaa
set_option linter.unusedVariables false
set_option linter.unusedSimpArgs false
namespace Go.Proofs.YtmgkpbgfkjedeaaGreatDoor
open Go
set_option linter.unusedSimpArgs false
set_option linter.unusedSectionVars false
/-- Not a concrete aggregate behind 'raw'. -/
def AVal.plain : AVal → Bool
  | .raw (.agg _) => false
  | _ => true
theorem relC_cells {R : Seal} {x : AVal} {vs : List Value} (h : RelC R x vs) (hp : x.plain = true) : RelL R x.cells vs := by
  have one : ∀ v, vs = [v] → RelC R x [v] → RelL R [x] vs := by rintro v rfl hv; exact ⟨v, [], rfl, hv, rfl⟩
  cases x with
  | agg cs => exact h
  | bool c => simp only [RelC] at h; subst h; exact one _ rfl rfl
  | int k n => simp only [RelC] at h; subst h; exact one _ rfl rfl
  | str s => simp only [RelC] at h; subst h; exact one _ rfl rfl
  | raw y => 
    have : vs = [y] := by
      simp only [RelC] at h
      cases y <;> first | exact h | (simp [AVal.plain] at hp)
    subst this; exact one _ rfl h
  | list sz n f => obtain ⟨a, cap, e, h'⟩ := h; subst e; exact one _ rfl ⟨a, cap, rfl, h'⟩
  | rop cs off => obtain ⟨b, o, C, e, fz, h', r⟩ := h; subst h'; exact one _ rfl ⟨b, o, C, e, fz, rfl, r⟩
  | tuple cs => obtain ⟨ws, e, h'⟩ := h; subst e; exact one _ rfl ⟨ws, rfl, h'⟩
  | iface t v => obtain ⟨w, e, h'⟩ := h; subst e; exact one _ rfl ⟨w, rfl, h'⟩
  | func fn l1 l2 => obtain ⟨a, b, e, h'⟩ := h; subst e; exact one _ rfl ⟨a, b, rfl, h'⟩
  | own i y => obtain ⟨e, h'⟩ := h; subst e; exact one _ rfl ⟨rfl, h'⟩
theorem rel_cells {R : Seal} {x : AVal} {v : Value} (h : Rel R x v) (hp : x.plain = true) : RelL R x.cells v.cells.toList := relC_cells h.1 hp
theorem take_same {α : Type} {L : List α} {k s : Nat} (h : (L.take s).length = k) : L.take k = L.take s := by
  simp only [List.length_take] at h
  by_cases hs : s ≤ L.length
  · rw [Nat.min_eq_left hs] at h; rw [h]
  · rw [Nat.min_eq_right (by omega)] at h
    rw [List.take_of_length_le (by omega), List.take_of_length_le (by omega)]
/-- A run of sealed cells, at a place in a block. -/
def SealedAt (R : Seal) (b o : Nat) (cs : List AVal) : Prop := ∃ C e fz, R b = some (.cells C e fz) ∧ RelL R cs ((C.toList.drop o).take cs.length)
theorem relC_rop {R : Seal} {cs : List AVal} {off b o : Nat} (ho : off ≤ o) (h : SealedAt R b (o - off) cs) : Rel R (.rop cs off) (.pointer (some ⟨b, o, none⟩)) := by
  obtain ⟨C, e, fz, hR, hl⟩ := h
  exact ⟨⟨b, o, C, e, fz, rfl, ho, hR, hl⟩, rfl⟩
theorem rop_inv {R : Seal} {cs : List AVal} {off : Nat} {v : Value} (h : Rel R (.rop cs off) v) : ∃ b o, v = .pointer (some ⟨b, o, none⟩) ∧ off ≤ o ∧ SealedAt R b (o - off) cs := by
  obtain ⟨b, o, C, e, fz, hv, ho, hR, hl⟩ := rel_one h rfl
  simp only [List.cons.injEq, and_true] at hv
  exact ⟨b, o, hv, ho, C, e, fz, hR, hl⟩
theorem SealedAt.cell {R : Seal} {w : World} (hs : Sealed R w) {b o i : Nat} {cs : List AVal} {av : AVal} (h : SealedAt R b o cs) (hi : cs[i]? = some av) :
    ∃ v, w.cell? ⟨b, o + i, none⟩ = some v ∧ RelC R av [v] := by
  obtain ⟨C, e, fz, hR, hl⟩ := h
  obtain ⟨v, hv, hr⟩ := relL_get hl hi
  refine ⟨v, ?_, hr⟩
  have hlt : i < cs.length := (List.getElem?_eq_some_iff.1 hi).1
  rw [List.getElem?_take_of_lt hlt, List.getElem?_drop] at hv
  simp only [World.cell?, hs b _ hR]
  simpa using hv
/-- Loading from a block whose cells are known. -/
theorem load_scalar {P : Program} [Tab P] {w : World} {b o : Nat} {v : Value} {T : TypeId} {x : TI} (ht : tab P T = some x) (ha : descAgg x.desc = false) (hc : w.cell? ⟨b, o, none⟩ = some v) :
    (loadVar T ⟨b, o, none⟩).run P w = .ok v w := by
  simp only [loadVar, Sem.run_bind, tab_run_agg ht, Result.andThen_ok, ha, Bool.false_eq_true, if_false, run_load, hc]
theorem load_agg {P : Program} [Tab P] {w : World} {b o : Nat} {C : Array Value} {e : TypeId} {fz : Nat × Nat} {T : TypeId} {x : TI} (ht : tab P T = some x) (ha : descAgg x.desc = true)
    (hb : w.heap[b]? = some (.cells C e fz)) (hl : o + x.size ≤ C.size) :
    (loadVar T ⟨b, o, none⟩).run P w = .ok (.agg ((C.toList.drop o).take x.size).toArray) w := by
  simp only [loadVar, Sem.run_bind, tab_run_agg ht, Result.andThen_ok, ha, if_true, tab_run_size ht, loadCells]
  rw [loadCellsFrom_run hb o x.size 0 _ (by omega)]
  simp
section
variable {P : Program} [Tab P] {C : Ctx} {n : Nat} {env : Env} {H : Heap} {Q : AExit → Env → Heap → Prop} {ops : Array Oper} {rest : List Oper}
variable {eT : Option TypeId}
variable {d : Nat} {t : TypeId} {p : String} {af : Array Edge} {g : Option (Nat × Bool)} {b : Bool} {av : AVal}
variable {x y : Operand} {T : TypeId} {xT : TI}
/-! ### What is only read -/
/-! ### A package-level variable that is sealed -/
/-- The variable's cells are known. -/
def GloAt (G : Glo) (gl : Nat) (cs : List AVal) : Prop := ∀ R, G.p R → SealedAt R gl 0 cs
/-! ### Variables of the call's own -/
theorem own_cells {R : Seal} {w : World} (hm : MS C R H w) {i bl : Nat} {cs : List AVal} (hi : H[i]? = some (.cells bl eT cs)) :
    ∃ Cs e fz, w.heap[bl]? = some (.cells Cs e fz) ∧ RelL R cs Cs.toList ∧ Loose fz Cs.size ∧ ∀ t, eT = some t → e = t := hm.heap.holds _ (List.mem_of_getElem? hi)
/-- Cells written behind one another into one block. -/
theorem storeCells_run {P : Program} {bl e : Nat} {fz : Nat × Nat} : ∀ (vs : List Value) (o i : Nat) (Cs : Array Value) (w : World), w.heap[bl]? = some (.cells Cs e fz) → o + i + vs.length ≤ Cs.size → Loose fz Cs.size →
    (∀ v ∈ vs, vAgg v = false ∧ ∀ a, v ≠ .tuple a) →
    ∃ w', (storeCells ⟨bl, o, none⟩ vs i).run P w = .ok () w' ∧ OneBlk w bl (.cells (Cs.toList.take (o + i) ++ vs ++ Cs.toList.drop (o + i + vs.length)).toArray e fz) w'
  | [], o, i, Cs, w, hb, _, _, _ => ⟨w, rfl, ⟨rfl, rfl, rfl, rfl, by simpa using hb, fun _ _ => rfl⟩⟩
  | v :: vs, o, i, Cs, w, hb, hl, hfz, hv => by
    simp only [List.length_cons] at hl
    have hlt : o + i < Cs.size := by omega
    have hadd : (⟨bl, o, none⟩ : Addr).add i = ⟨bl, o + i, none⟩ := by
      simp only [Addr.add]
      by_cases h0 : i = 0
      · simp [h0]
      · simp [h0]
    have hcell : w.cell? ⟨bl, o + i, none⟩ = some Cs[o + i] := by simp [World.cell?, hb, hlt]
    have hfro : w.frozen? ⟨bl, o + i, none⟩ = false := by
      obtain ⟨lo, hi⟩ := fz
      simp only [World.frozen?, hb, Loose] at hfz ⊢
      simp
      omega
    have hst : (store ⟨bl, o + i, none⟩ v).run P w = .ok () (w.setCell ⟨bl, o + i, none⟩ v) := by
      have := hv v (by simp)
      cases v <;> first | (simp [store, Sem.run, hcell, hfro]; done) | (simp [vAgg] at this; done) | (exact absurd rfl (this.2 _))
    have hw1 : (w.setCell ⟨bl, o + i, none⟩ v).heap[bl]? = some (.cells (Cs.setIfInBounds (o + i) v) e fz) := by
      simp only [World.setCell, Array.getElem?_modify, if_true, hb, Option.map_some, Option.isSome_none, Bool.false_eq_true, if_false]
    obtain ⟨w', hr, ho⟩ := storeCells_run (P := P) vs o (i + 1) _ _ hw1 (by simp; omega) (by simpa using hfz) (fun u hu => hv u (by simp [hu]))
    refine ⟨w', ?_, ⟨ho.os, ho.tape, ho.output, ?_, ?_, ?_⟩⟩
    · simp only [storeCells, hadd, Sem.run_bind, hst, Result.andThen_ok, hr]
    · rw [ho.size]; simp [World.setCell]
    · rw [ho.at_]
      congr 2
      simp only [Array.toList_setIfInBounds, ← Nat.add_assoc]
      congr 1
      rw [List.drop_set_of_lt (by omega)]
      rw [show o + i + 1 = (o + i) + 1 by omega, List.take_add_one]
      rw [List.take_set_of_le (Nat.le_refl _)]
      simp [hlt, Nat.add_assoc, Nat.add_comm 1]
    · intro k hk
      rw [ho.other k hk]
      simp only [World.setCell, Array.getElem?_modify]
      rw [if_neg (by omega)]
/-- No tuple, and no aggregate, in a cell. -/
def AVal.cellOK : AVal → Bool
  | .agg _ | .tuple _ => false
  | .raw (.agg _) | .raw (.tuple _) => false
  | .own _ (.tuple _) => false
  | _ => true
theorem cellOK_val {R : Seal} {a : AVal} {v : Value} (h : RelC R a [v]) (ha : a.cellOK = true) : vAgg v = false ∧ ∀ l, v ≠ .tuple l := by
  cases a <;> simp only [RelC] at h
  case bool => simp only [List.cons.injEq] at h; obtain ⟨rfl, _⟩ := h; exact ⟨rfl, fun _ => by simp⟩
  case int => simp only [List.cons.injEq] at h; obtain ⟨rfl, _⟩ := h; exact ⟨rfl, fun _ => by simp⟩
  case str => simp only [List.cons.injEq] at h; obtain ⟨rfl, _⟩ := h; exact ⟨rfl, fun _ => by simp⟩
  case raw x => cases x <;> simp_all [Value.cells, vAgg, AVal.cellOK]
  case list => obtain ⟨_, _, h, _⟩ := h; simp only [List.cons.injEq] at h; obtain ⟨rfl, _⟩ := h; exact ⟨rfl, fun _ => by simp⟩
  case rop => obtain ⟨_, _, _, _, _, h, _⟩ := h; simp only [List.cons.injEq] at h; obtain ⟨rfl, _⟩ := h; exact ⟨rfl, fun _ => by simp⟩
  case agg => simp [AVal.cellOK] at ha
  case tuple => simp [AVal.cellOK] at ha
  case iface => obtain ⟨_, h, _⟩ := h; simp only [List.cons.injEq] at h; obtain ⟨rfl, _⟩ := h; exact ⟨rfl, fun _ => by simp⟩
  case func => obtain ⟨_, _, h, _⟩ := h; simp only [List.cons.injEq] at h; obtain ⟨rfl, _⟩ := h; exact ⟨rfl, fun _ => by simp⟩
  case own i x => obtain ⟨h, h2⟩ := h; simp only [List.cons.injEq] at h; obtain ⟨rfl, _⟩ := h; exact ⟨h2, fun l e => by subst e; simp [AVal.cellOK] at ha⟩
def allOK : List AVal → Bool
  | [] => true
  | c :: cs => c.cellOK && allOK cs
theorem allOK_vals {R : Seal} : ∀ {cs : List AVal} {vs : List Value}, RelL R cs vs → allOK cs = true → ∀ v ∈ vs, vAgg v = false ∧ ∀ l, v ≠ .tuple l
  | [], _, h, _ => by simp only [RelL] at h; subst h; simp
  | c :: cs, _, h, ho => by
    obtain ⟨v, t, rfl, hv, h⟩ := h
    simp only [allOK, Bool.and_eq_true] at ho
    intro u hu
    rcases List.mem_cons.1 hu with rfl | hu
    · exact cellOK_val hv ho.1
    · exact allOK_vals h ho.2 u hu
/-- The operation that writes. -/
theorem ao_skipval {o : Oper} {H' : Heap} {b : Bool} (hg : guardA ops env o.guard = some (b, b)) (hd : o.dst = none)
    (hx : ∀ R ρ w, MS C R H w → Evals R env ρ → ∃ w' R', (execOp ρ o).run P w = .ok .skip w' ∧ R.le R' ∧ MS C R' H' w')
    (h : AOps P C n ops rest env H' Q) : AOps P C n ops (o :: rest) env H Q := by
  intro R a w hm hf
  refine wpList_step fun K hK => ?_
  rw [wanted_of hf hg, if_pos (by simp)]
  obtain ⟨w', R', hr, hR, hm'⟩ := hx R a.eval w hm (fun x av h => hf.eval h)
  rw [Oper.wp, hr, Oper.upon_skip, hd]
  exact hK _ _ (h R' _ w' hm' (hf.mono hR))
/-! ### New variables -/
theorem ao_box (hg : guardA ops env g = some (b, b)) (hdn : Nat.ble (d + 1) n = true) (hx : evalA env x = some av) (hp : av.plain = true)
    (h : ∀ bl : Nat, AOps P C n ops rest ((d, .raw (.pointer (some ⟨bl, 0, none⟩))) :: env) (.cells bl (some T) av.cells :: H) Q) :
    AOps P C n ops ({ dst := some d, op := .box T x, type := t, pos := p, after := af, guard := g } :: rest) env H Q := by
  refine ao_valX (av := fun bl : Nat => .raw (.pointer (some ⟨bl, 0, none⟩))) (H' := fun bl => .cells bl (some T) av.cells :: H) hg rfl hdn (fun R ρ w hm hf => ?_) h
  refine ⟨w.heap.size, _, grow w (.cells (ρ x).cells T), R, rfl, Seal.le_refl R, rel_raw.2 rfl, hm.alloc _ _ rfl ⟨_, _, _, grow_at w _, ?_, .inl (Nat.le_refl _), fun t ht => Option.some.inj ht⟩⟩
  exact rel_cells (hf _ _ hx) hp
/-- A variable that nobody will write. -/
theorem ao_box_sealed (hg : guardA ops env g = some (b, b)) (hdn : Nat.ble (d + 1) n = true) (hx : evalA env x = some av) (hp : av.plain = true)
    (h : AOps P C n ops rest ((d, .rop av.cells 0) :: env) H Q) :
    AOps P C n ops ({ dst := some d, op := .box T x, type := t, pos := p, after := af, guard := g } :: rest) env H Q := by
  refine ao_val hg rfl hdn (fun R ρ w hm hf => ?_) h
  have hle := Seal.put_le (o := Obj.cells (ρ x).cells T) hm.seal_free
  refine ⟨_, grow w (.cells (ρ x).cells T), R.put w.heap.size (.cells (ρ x).cells T), rfl, hle, relC_rop (Nat.le_refl _) ⟨_, _, _, Seal.put_at _ _ _, ?_⟩, hm.alloc_sealed _⟩
  have := rel_cells (hf _ _ hx) hp
  have hl := relL_length this
  rw [Nat.sub_self, List.drop_zero, List.take_of_length_le (by omega)]
  exact relL_mono hle _ _ this
/-- The zero value, as cells. -/
def zeroCellsA : Option Value → Option (List AVal)
  | some (.agg cs) => match cs.toList.all fun v => !vAgg v with
    | true => some (cs.toList.map ofV)
    | false => none
  | some v => some [ofV v]
  | none => none
theorem relC_ofV (R : Seal) {v : Value} (hv : vAgg v = false) : RelC R (ofV v) [v] := by
  have := rel_ofV R v
  exact rel_one this (by rw [this.2]; exact hv)
theorem relL_ofV (R : Seal) : ∀ {vs : List Value}, (∀ v ∈ vs, vAgg v = false) → RelL R (vs.map ofV) vs
  | [], _ => rfl
  | v :: vs, h => ⟨v, vs, rfl, relC_ofV R (h v (by simp)), relL_ofV R (fun u hu => h u (by simp [hu]))⟩
theorem zeroCellsA_rel {R : Seal} {z : Option Value} {cs : List AVal} (h : zeroCellsA z = some cs) : ∃ v, z = some v ∧ RelL R cs v.cells.toList := by
  cases z with
  | none => simp [zeroCellsA] at h
  | some v =>
    refine ⟨v, rfl, ?_⟩
    cases v <;> simp only [zeroCellsA, Option.some.injEq] at h
    case agg l =>
      split at h
      · rename_i hall
        simp only [Option.some.injEq] at h
        subst h
        exact relL_ofV R (fun v hv => by have := List.all_eq_true.1 hall v hv; simpa using this)
      · cases h
    all_goals (subst h; exact ⟨_, [], rfl, relC_ofV R rfl, rfl⟩)
theorem ao_alloc {cs : List AVal} (hg : guardA ops env g = some (b, b)) (hdn : Nat.ble (d + 1) n = true) (h1 : tab P T = some xT) (h2 : zeroCellsA xT.zero = some cs)
    (h : ∀ bl : Nat, AOps P C n ops rest ((d, .raw (.pointer (some ⟨bl, 0, none⟩))) :: env) (.cells bl (some T) cs :: H) Q) :
    AOps P C n ops ({ dst := some d, op := .alloc T, type := t, pos := p, after := af, guard := g } :: rest) env H Q := by
  refine ao_valX (av := fun bl : Nat => .raw (.pointer (some ⟨bl, 0, none⟩))) (H' := fun bl => .cells bl (some T) cs :: H) hg rfl hdn (fun R ρ w hm hf => ?_) h
  obtain ⟨v, hv, hr⟩ := zeroCellsA_rel (R := R) h2
  refine ⟨w.heap.size, _, grow w (.cells v.cells T), R, ?_, Seal.le_refl R, rel_raw.2 rfl, hm.alloc _ _ rfl ⟨_, _, _, grow_at w _, hr, .inl (Nat.le_refl _), fun t ht => Option.some.inj ht⟩⟩
  simp only [execOp, Instr.alloc, Sem.run_bind, tab_run_zero h1 hv, Result.andThen_ok]
  rfl
/-! ### A struct's part -/
/-! ### Building structs -/
/-- Cells laid over cells. -/
def over (cs new : List AVal) (off : Nat) : List AVal := cs.take off ++ new ++ cs.drop (off + new.length)
theorem foldl_set (new : List Value) : ∀ (off j : Nat) (cs : Array Value), off + j + new.length ≤ cs.size →
    ((new.zipIdx j).foldl (fun cs (x : Value × Nat) => cs.setIfInBounds (off + x.2) x.1) cs).toList = cs.toList.take (off + j) ++ new ++ cs.toList.drop (off + j + new.length) := by
  induction new with
  | nil => intro off j cs h; simp
  | cons v new ih =>
    intro off j cs h
    simp only [List.length_cons] at h
    rw [List.zipIdx_cons, List.foldl_cons, ih off (j + 1) _ (by simp; omega)]
    simp only [Array.toList_setIfInBounds, List.length_cons, ← Nat.add_assoc]
    rw [List.drop_set_of_lt (by omega), List.take_add_one, List.take_set_of_le (Nat.le_refl _)]
    have : off + j < cs.size := by omega
    simp [this, Nat.add_assoc, Nat.add_comm 1]
/-- The places of a struct's fields. -/
def placesA (P : Program) [Tab P] : List Field → Option (List (Nat × Nat))
  | [] => some []
  | f :: fs => match tab P f.type, placesA P fs with
    | some x, some r => some ((f.offset, x.size) :: r)
    | _, _ => none
def fillA (pl : List (Nat × Nat)) (cs : List AVal) : List (Nat × AVal) → Option (List AVal)
  | [] => some cs
  | (i, v) :: r => match pl[i]? with
    | some (off, size) => match Nat.beq v.cells.length size && Nat.ble (off + v.cells.length) cs.length && v.plain with
      | true => fillA pl (over cs v.cells off) r
      | false => none
    | none => none
def PartsRel (R : Seal) : List (Nat × AVal) → List (Nat × Value) → Prop
  | [], vs => vs = []
  | a :: ps, vs => ∃ v t, vs = v :: t ∧ (a.1 = v.1 ∧ Rel R a.2 v.2) ∧ PartsRel R ps t
theorem fillA_run {R : Seal} {pl : List (Nat × Nat)} {place : Nat → Option (Nat × Nat)} (hpl : ∀ (i : Nat) (x : Nat × Nat), pl[i]? = some x → place i = some x) : ∀ {ps : List (Nat × AVal)} {vs : List (Nat × Value)} {cs cs' : List AVal} {Cs : Array Value},
    PartsRel R ps vs → RelL R cs Cs.toList → fillA pl cs ps = some cs' → ∃ Cs', Instr.fill place Cs vs = some Cs' ∧ RelL R cs' Cs'.toList
  | [], _, cs, cs', Cs, hp, hl, h => by
    simp only [PartsRel] at hp
    subst hp
    simp only [fillA, Option.some.injEq] at h
    subst h
    exact ⟨Cs, rfl, hl⟩
  | (i, a) :: ps, _, cs, cs', Cs, hp, hl, h => by
    obtain ⟨v, vs, rfl, h1, hp⟩ := hp
    obtain ⟨i', v⟩ := v
    obtain ⟨e, hr⟩ := h1
    simp only at e hr
    subst e
    simp only [fillA] at h
    split at h
    · rename_i off size hi
      split at h
      · rename_i hc
        simp only [Bool.and_eq_true] at hc
        have h1 := Nat.eq_of_beq_eq_true hc.1.1
        have h2 := Nat.le_of_ble_eq_true hc.1.2
        have hv := rel_cells hr hc.2
        have hvl := relL_length hv
        have hll := relL_length hl
        simp only [Array.length_toList] at hvl hll
        have hf : (v.cells.zipIdx.foldl (fun cs (x : Value × Nat) => cs.setIfInBounds (off + x.2) x.1) Cs).toList = Cs.toList.take off ++ v.cells.toList ++ Cs.toList.drop (off + v.cells.toList.length) := by
          have := foldl_set v.cells.toList off 0 Cs (by simp; omega)
          rw [← Array.foldl_toList, Array.toList_zipIdx]
          simpa using this
        obtain ⟨Cs', hC, hrC⟩ := fillA_run hpl hp (Cs := v.cells.zipIdx.foldl (fun cs (x : Value × Nat) => cs.setIfInBounds (off + x.2) x.1) Cs) (by
          rw [hf]
          have e : v.cells.toList.length = a.cells.length := by simpa using hvl
          rw [e]
          exact relL_append (relL_append (relL_take off hl) hv) (relL_drop _ hl)) h
        refine ⟨Cs', ?_, hrC⟩
        simp only [Instr.fill, hpl i _ hi]
        rw [if_neg (by simp only [Bool.or_eq_true, decide_eq_true_eq, not_or]; omega)]
        exact hC
      · cases h
    · cases h
theorem placesA_run {P : Program} [Tab P] {w : World} : ∀ {fs : List Field} {pl : List (Nat × Nat)}, placesA P fs = some pl →
    (fs.mapM (fun f => do pure (f.offset, ← sizeOf f.type) : Field → Sem (Nat × Nat))).run P w = .ok pl w
  | [], pl, h => by simp only [placesA, Option.some.injEq] at h; subst h; rfl
  | f :: fs, pl, h => by
    simp only [placesA] at h
    split at h
    · rename_i x r hx hr
      simp only [Option.some.injEq] at h
      subst h
      simp only [List.mapM_cons, Sem.run_bind, tab_run_size hx, Result.andThen_ok, Sem.run_pure, placesA_run hr]
    · cases h
/-- The parts' values. -/
def partsA (env : Env) : List (Nat × Operand) → Option (List (Nat × AVal))
  | [] => some []
  | (i, x) :: t => match evalA env x, partsA env t with
    | some v, some r => some ((i, v) :: r)
    | _, _ => none
theorem partsA_rel {R : Seal} {ρ : Operand → Value} (hf : Evals R env ρ) : ∀ {l : List (Nat × Operand)} {ps : List (Nat × AVal)}, partsA env l = some ps →
    PartsRel R ps (l.map fun x => (x.1, ρ x.2))
  | [], ps, h => by simp only [partsA, Option.some.injEq] at h; subst h; rfl
  | (i, x) :: t, ps, h => by
    simp only [partsA] at h
    split at h
    · rename_i v r hv hr
      simp only [Option.some.injEq] at h
      subst h
      exact ⟨_, _, rfl, ⟨rfl, hf x v hv⟩, partsA_rel hf hr⟩
    · cases h
end
end Go.Proofs.YtmgkpbgfkjedeaaGreatDoor
namespace Go.Proofs.YtmgkpbgfkjedeaaGreatDoor
open Go
set_option linter.unusedSimpArgs false
set_option linter.unusedSectionVars false
/-- A new block, and a draw. -/
theorem Ext.drew {w0 w : World} {B : List Nat} (h : Ext w0 B w) : Ext w0 B w.drew := ⟨h.os, h.tape, h.output, h.size, h.block⟩
theorem MS.drew {C : Ctx} {R : Seal} {H : Heap} {w : World} (h : MS C R H w) : MS C R H w.drew :=
  ⟨h.sealed, h.ge, h.fresh, ⟨fun y hy => HEnt.holds_mono (h.heap.holds y hy) (Seal.le_refl R) fun _ _ => rfl, h.heap.nodup, h.heap.apart⟩, h.own, h.ext.drew⟩
theorem grow_alloc (w : World) (o : Obj) : w.alloc o = grow w o := rfl
/-- A new block takes an entry's place. -/
theorem MS.replace {C : Ctx} {R : Seal} {H : Heap} {w : World} {i : Nat} {x y : HEnt} (h : MS C R H w) (hi : H[i]? = some x) (o : Obj) (hb : y.blk = some w.heap.size)
    (hy : y.holds R (grow w o)) : MS C R (H.set i y) (grow w o) := by
  obtain ⟨a, c, rfl, hset⟩ := set_split (y := y) hi
  rw [hset]
  have h1 : MS C R (a ++ c) w := h.drop (List.Sublist.append (List.Sublist.refl a) (List.sublist_cons_self x c))
  exact (h1.alloc o y hb hy).perm List.perm_middle.symm
/-- An entry that has no block turns into another that has none. -/
theorem MS.swap {C : Ctx} {R : Seal} {H : Heap} {w : World} {i : Nat} {x y : HEnt} (h : MS C R H w) (hi : H[i]? = some x) (hb : y.blk = x.blk) (hy : y.holds R w) : MS C R (H.set i y) w := by
  obtain ⟨a, c, rfl, hset⟩ := set_split (y := y) hi
  rw [hset]
  have hx : x ∈ a ++ x :: c := by simp
  have hmem : ∀ z, z ∈ a ++ y :: c → z = y ∨ z ∈ a ++ x :: c := by
    intro z hz
    simp only [List.mem_append, List.mem_cons] at hz ⊢
    rcases hz with hz | hz | hz
    · exact .inr (.inl hz)
    · exact .inl hz
    · exact .inr (.inr (.inr hz))
  refine ⟨h.sealed, h.ge, h.fresh, ⟨?_, ?_, ?_⟩, ?_, h.ext⟩
  · intro z hz
    rcases hmem z hz with rfl | hz
    · exact hy
    · exact h.heap.holds z hz
  · have := h.heap.nodup
    rw [List.filterMap_append, List.filterMap_cons] at this ⊢
    rw [hb]
    exact this
  · intro z hz k hk
    rcases hmem z hz with rfl | hz
    · exact h.heap.apart x hx k (hb ▸ hk)
    · exact h.heap.apart z hz k hk
  · intro z hz k hk
    rcases hmem z hz with rfl | hz
    · exact h.own x hx k (hb ▸ hk)
    · exact h.own z hz k hk
theorem oneCell_of {v : Value} (h : vAgg v = false ∧ ∀ l, v ≠ .tuple l) : v.oneCell' = true := by
  cases v <;> first | rfl | (simp [vAgg] at h; done) | exact absurd rfl (h.2 _)
theorem relL_one {R : Seal} {cs : List AVal} {vs : List Value} (h : RelL R cs vs) (ho : allOK cs = true) : ∀ u ∈ vs, u.oneCell' = true :=
  fun u hu => oneCell_of (allOK_vals h ho u hu)
/-- What an append's second argument yields. -/
def SrcIs (P : Program) (R : Seal) (sz : Nat) (tx : TypeId) (v : Value) (m : Nat) (new : List AVal) : Prop :=
  ∀ w, Sealed R w → ∃ news, Src P sz tx v m news w ∧ RelL R new news
section
variable {P : Program} [Tab P] {C : Ctx} {n : Nat} {env : Env} {H : Heap} {Q : AExit → Env → Heap → Prop} {ops : Array Oper} {rest : List Oper}
variable {eT : Option TypeId}
variable {d : Nat} {t : TypeId} {p : String} {af : Array Edge} {g : Option (Nat × Bool)} {b : Bool} {av : AVal}
variable {x y : Operand} {T : TypeId} {xT : TI}
theorem list_cells {R : Seal} {w : World} (hs : Sealed R w) {b o sz m : Nat} {Cs : Array Value} {e : TypeId} {fz : Nat × Nat} {f : Nat → AVal} (hR : R b = some (.cells Cs e fz))
    (hall : ∀ i, i < m → RelC R (f i) ((Cs.toList.drop (o + i * sz)).take sz)) (hp : ∀ i, i < m → (f i).plain = true ∧ (f i).cells.length = sz) :
    ((Cs.toList.drop o).take (m * sz)).length = m * sz ∧ RelL R ((List.range m).flatMap fun i => (f i).cells) ((Cs.toList.drop o).take (m * sz)) ∧
      ∀ (j : Nat) (u : Value), ((Cs.toList.drop o).take (m * sz))[j]? = some u → w.cell? ((⟨b, o, none⟩ : Addr).add j) = some u := by
  refine ⟨?_, ?_, ?_⟩
  · induction m with
    | zero => simp
    | succ m ih =>
      have := ih (fun i hi => hall i (by omega)) (fun i hi => hp i (by omega))
      have h1 := relL_length (relC_cells (hall m (by omega)) (hp m (by omega)).1)
      rw [(hp m (by omega)).2] at h1
      simp only [List.length_take, List.length_drop, Nat.succ_mul] at *
      omega
  · induction m with
    | zero => simp [RelL]
    | succ m ih =>
      have h2 := ih (fun i hi => hall i (by omega)) (fun i hi => hp i (by omega))
      have h1 := relC_cells (hall m (by omega)) (hp m (by omega)).1
      rw [List.range_succ, List.flatMap_append]
      simp only [List.flatMap_cons, List.flatMap_nil, List.append_nil]
      rw [Nat.succ_mul, List.take_add]
      refine relL_append h2 ?_
      rw [List.drop_drop]
      exact h1
  · intro j u hu
    have hj : j < m * sz := by
      have := (List.getElem?_eq_some_iff.1 hu).1
      simp only [List.length_take] at this
      omega
    rw [List.getElem?_take_of_lt hj, List.getElem?_drop] at hu
    have hadd : (⟨b, o, none⟩ : Addr).add j = ⟨b, o + j, none⟩ := by
      simp only [Addr.add]
      by_cases h0 : j = 0
      · simp [h0]
      · simp [h0]
    rw [hadd]
    simp only [World.cell?, hs b _ hR]
    simpa using hu
theorem src_list {R : Seal} {tx e : TypeId} {xx : TI} {sz m : Nat} {f : Nat → AVal} {v : Value} (hv : Rel R (.list sz m f) v) (h1 : tab P tx = some xx) (h2 : xx.desc = .slice e)
    (hp : ∀ i, i < m → (f i).plain = true ∧ (f i).cells.length = sz ∧ allOK (f i).cells = true) : SrcIs P R sz tx v m ((List.range m).flatMap fun i => (f i).cells) := by
  intro w hs
  obtain ⟨a, cap, e1, hle0, h5⟩ := rel_one hv rfl
  clear hle0
  simp only [List.cons.injEq, and_true] at e1
  subst e1
  have hk : P.underlying tx = some (.slice e) := by rw [tab_und h1, h2]
  by_cases hm : m = 0
  · subst hm
    refine ⟨[], ?_, by simp [RelL]⟩
    cases a with
    | none => exact Src.ofNil w hk cap
    | some a => exact Src.ofSlice w hk a 0 cap [] (by simp) (by simp) (by simp)
  · rcases h5 with h5 | ⟨bl, o, Cs, el, fz, rfl, hR, hall⟩
    · exact absurd h5 hm
    obtain ⟨h3, h4, h6⟩ := list_cells hs hR hall (fun i hi => ⟨(hp i hi).1, (hp i hi).2.1⟩)
    refine ⟨_, Src.ofSlice w hk _ m cap _ h3 h6 (relL_one h4 ?_), h4⟩
    clear h3 h4 h6 hall hm hv
    induction m with
    | zero => rfl
    | succ m ih =>
      have happ : ∀ a b : List AVal, allOK (a ++ b) = (allOK a && allOK b) := by
        intro a b
        induction a with
        | nil => rfl
        | cons c a ih => simp [allOK, ih, Bool.and_assoc]
      rw [List.range_succ, List.flatMap_append, happ, ih (fun i hi => hp i (by omega))]
      simp [(hp m (by omega)).2.2]
theorem src_str {R : Seal} {tx : TypeId} {xx : TI} {s : List UInt8} {v : Value} (hv : Rel R (.str s) v) (h1 : tab P tx = some xx) (h2 : xx.desc = .string) :
    SrcIs P R 1 tx v s.length (s.map fun c => .int .u8 (c.toNat : Int)) := by
  intro w _
  have hv := rel_str.1 hv
  subst hv
  have hk : P.underlying tx = some .string := by rw [tab_und h1, h2]
  have := Src.ofString w hk ⟨s.toArray⟩
  rw [str_size] at this
  refine ⟨_, this, ?_⟩
  simp only [byteCells]
  clear this hv
  induction s with
  | nil => rfl
  | cons c s ih => exact ⟨_, _, rfl, rfl, ih⟩
/-- An append to a slice of the call's own. -/
theorem append_row {R : Seal} {w : World} {i m n0 sz : Nat} {v xv : Value} {cs new : List AVal} {T tx e : TypeId} {xT xe : TI} (ty : TypeId) (hm : MS C R H w) (hi : H[i]? = some (.row v eT sz n0 cs))
    (h1 : tab P T = some xT) (h2 : xT.desc = .slice e) (h3 : tab P e = some xe) (h4 : xe.size = sz) (hz : ∃ z, xe.zero = some z ∧ z.cells.size = sz) (hby : xe.bytes ≤ 1024) (hs : SrcIs P R sz tx xv m new) (_hsz : 1 ≤ sz)
    (hlen : n0 + m ≤ 137438953472) (hty : ∀ t, eT = some t → e = t) :
    ∃ v' w', (Builtin.append_ #[T, tx] ty #[v, xv]).run P w = .ok v' w' ∧ MS C R (H.set i (.row v' eT sz (n0 + m) (cs ++ new))) w' := by
  have hht : P.underlying T = some (.slice e) := by rw [tab_und h1, h2]
  obtain ⟨ie, hie, hs1, hs2, hs3, _⟩ := tab_info h3
  obtain ⟨z, hz1, hz2⟩ := hz
  rw [hz1] at hs3
  obtain ⟨news, hsrc, hnew⟩ := hs w hm.sealed
  have hnl := relL_length hnew
  obtain ⟨hcl, hx⟩ := hm.heap.holds _ (List.mem_of_getElem? hi)
  have hns := hsrc.newsLen
  have hgrow : ∀ (old : Nat) (base : Option Addr) (olds : List Value), RelL R cs olds → old < n0 + m → (Builtin.firstCells ie.size n0 (.slice base n0 old)).run P w.drew = .ok olds.toArray w.drew → v = .slice base n0 old →
      ∃ v' w', (Builtin.append_ #[T, tx] ty #[v, xv]).run P w = .ok v' w' ∧ MS C R (H.set i (.row v' eT sz (n0 + m) (cs ++ new))) w' := by
    rintro old base olds hol hold hfc rfl
    have hfit := growslice_fits (bytes := ie.bytes) hold (by
      have : (n0 + m) * ie.bytes ≤ 137438953472 * 1024 := Nat.mul_le_mul hlen (by rw [hs2]; exact hby)
      omega)
    have hr := run_append_grow_src w T tx ty e ie z hht hie hs3 base n0 old olds hfc xv m news (by rw [hs1, h4]; exact hsrc) hold (by omega) hfit
    refine ⟨_, _, hr, ?_⟩
    have hm' := hm.drew
    rw [grow_alloc]
    have hge := grownCap_ge w (n0 + m) old e
    refine hm'.replace hi _ rfl ⟨by rw [List.length_append, hcl, ← hnl, hns, Nat.add_mul], .inr ⟨w.heap.size, _, _, _, _, rfl, grow_at w.drew _, ?_, hge, ?_, .inl (Nat.le_refl _), hty⟩⟩
    · have hol' := relL_length hol
      simp only [Array.size_append, List.size_toArray, List.length_append, size_zeroCells, hz2, hol', hcl, hns, ← Nat.add_mul]
      congr 1
      omega
    · have hol' := relL_length hol
      simp only [Array.toList_append, List.append_assoc]
      rw [← List.append_assoc, List.take_append_of_le_length (by simp only [List.length_append]; rw [hol', hcl, hns, Nat.add_mul]; exact Nat.le_refl _)]
      rw [List.take_of_length_le (by simp only [List.length_append]; rw [hol', hcl, hns, Nat.add_mul]; exact Nat.le_refl _)]
      exact relL_append hol hnew
  rcases hx with ⟨rfl, rfl⟩ | ⟨bl, cap, Cs, el, fz, rfl, hb, hcs, hnc, hl, hfz⟩
  · have hcs0 : cs = [] := List.eq_nil_of_length_eq_zero (by simpa using hcl)
    subst hcs0
    by_cases hm0 : m = 0
    · subst hm0
      have hnews : news = [] := List.eq_nil_of_length_eq_zero (by simpa using hns)
      subst hnews
      have hnew0 : new = [] := List.eq_nil_of_length_eq_zero (by simpa using hnl.symm)
      subst hnew0
      have hfit : Builtin.append_ #[T, tx] ty #[.slice none 0 0, xv] = Builtin.append_ #[T, tx] ty #[.slice none 0 0, xv] := rfl
      refine ⟨.slice none 0 0, w, ?_, hm.swap hi rfl ⟨by simp, .inl ⟨rfl, rfl⟩⟩⟩
      rcases hsrc.kind with ⟨e', hk⟩ | hk <;>
        simp [Builtin.append_, run_underlying hht, run_underlying hk, sizeOf, typeInfo, hie, hsrc.len, hs1, h4, hsrc.cells]
    · exact hgrow 0 none [] rfl (by omega) (run_firstCells_none w.drew ie.size 0 0 0) rfl
  · have hll : RelL R cs (Cs.toList.take (n0 * sz)) := hl
    have hlen' := relL_length hll
    by_cases hroom : n0 + m ≤ cap
    · have hfit : n0 * sz + news.length ≤ Cs.size := by rw [hns, hcs, ← Nat.add_mul]; exact Nat.mul_le_mul_right _ hroom
      have hfro : ∀ j, j < Cs.size → w.frozen? ⟨bl, j, none⟩ = false := by
        intro j hj
        obtain ⟨lo, hi⟩ := fz
        have hfz := hfz.1
        simp only [World.frozen?, hb, Loose] at hfz ⊢
        simp
        omega
      have hr := run_append_room_src (P := P) w T tx ty e ie hht hie bl 0 n0 cap xv m news (by rw [hs1, h4]; exact hsrc) hroom
        (fun j hj => by rw [hs1, h4]; simp only [World.cell?, hb]; simp; omega) (fun j hj => hfro _ (by rw [hs1, h4]; omega))
      refine ⟨_, _, hr, ?_⟩
      rw [hs1, h4]
      simp only [Nat.zero_add]
      obtain ⟨w', hw', ho⟩ := storeCells_run (P := P) news (n0 * sz) 0 Cs w hb (by omega) hfz.1 (fun u hu => by
        have := hsrc.one u hu
        cases u <;> first | (simp [vAgg]; done) | (simp [Value.oneCell'] at this))
      have hst := run_storeCells_cells (P := P) bl (n0 * sz) news 0 w (fun j hj => by simp only [World.cell?, hb]; simp; omega) (fun j hj => hfro _ (by omega)) hsrc.one
      rw [hst] at hw'
      simp only [Result.ok.injEq, true_and] at hw'
      simp only [Nat.add_zero] at hw' ho
      rw [hw']
      refine hm.write hi rfl ho rfl ⟨by rw [List.length_append, hcl, ← hnl, hns, Nat.add_mul], .inr ⟨bl, cap, _, _, _, rfl, ho.at_, ?_, hroom, ?_, ?_⟩⟩
      · simp only [List.size_toArray, List.length_append, List.length_take, List.length_drop, Array.length_toList]; omega
      · have h6 : (Cs.toList.take (n0 * sz) ++ news).length = (n0 + m) * sz := by
          rw [List.length_append, hlen', hcl, hns, Nat.add_mul]
        simp only []
        rw [List.take_append_of_le_length (by omega), List.take_of_length_le (by omega)]
        exact relL_append hll hnew
      · have : (Cs.toList.take (n0 * sz) ++ news ++ Cs.toList.drop (n0 * sz + news.length)).toArray.size = Cs.size := by
          simp only [List.size_toArray, List.length_append, List.length_take, List.length_drop, Array.length_toList]; omega
        rw [this]; exact hfz
    · refine hgrow cap (some ⟨bl, 0, none⟩) _ hll (by omega) ?_ rfl
      have hsz' : (Cs.toList.take (n0 * sz)).length = n0 * ie.size := by rw [hlen', hcl, hs1, h4]
      refine run_firstCells_some (P := P) w.drew ie.size n0 ⟨bl, 0, none⟩ n0 cap (Cs.toList.take (n0 * sz)) hsz' ?_
      intro j u hu
      have hj : j < n0 * sz := by
        have := (List.getElem?_eq_some_iff.1 hu).1
        simp only [List.length_take] at this
        omega
      rw [List.getElem?_take_of_lt hj] at hu
      have hadd : (⟨bl, 0, none⟩ : Addr).add j = ⟨bl, j, none⟩ := by
        simp only [Addr.add]
        by_cases h0 : j = 0
        · simp [h0]
        · simp [h0]
      have hb' : w.drew.heap[bl]? = some (.cells Cs el fz) := hb
      rw [hadd]
      simp only [World.cell?, hb']
      simpa using hu
theorem zero_size {xe : TI} {sz : Nat} {z : List AVal} (h : zeroCellsA xe.zero = some z) (hl : z.length = sz) : ∃ v, xe.zero = some v ∧ v.cells.size = sz := by
  obtain ⟨v, hv, hr⟩ := zeroCellsA_rel (R := fun _ => none) h
  have := relL_length hr
  simp only [Array.length_toList] at this
  exact ⟨v, hv, by omega⟩
/-- 'append(out, x)', 'append(out, xs...)': out is the call's own. -/
theorem ao_append {i m n0 sz : Nat} {v : Value} {xa : AVal} {cs new z : List AVal} {tx e : TypeId} {xe : TI} (hg : guardA ops env g = some (b, b)) (hdn : Nat.ble (d + 1) n = true)
    (hx : evalA env x = some (.raw v)) (hi : H[i]? = some (.row v eT sz n0 cs)) (hy : evalA env y = some xa)
    (h1 : tab P T = some xT) (h2 : xT.desc = .slice e) (h3 : tab P e = some xe) (h4 : xe.size = sz) (h5 : Nat.ble 1 sz = true) (h6 : Nat.ble xe.bytes 1024 = true) (h7 : zeroCellsA xe.zero = some z) (h8 : z.length = sz)
    (hs : ∀ R v, Rel R xa v → SrcIs P R sz tx v m new) (hlen : n0 + m ≤ 137438953472) (hty : ∀ t, eT = some t → e = t)
    (h : ∀ v' : Value, AOps P C n ops rest ((d, .raw v') :: env) (H.set i (.row v' eT sz (n0 + m) (cs ++ new))) Q) :
    AOps P C n ops ({ dst := some d, op := .call { callee := .builtin .append, args := [x, y].toArray, argTypes := [T, tx].toArray }, type := t, pos := p, after := af, guard := g } :: rest) env H Q := by
  refine ao_valX (av := fun v' : Value => .raw v') (H' := fun v' => H.set i (.row v' eT sz (n0 + m) (cs ++ new))) hg rfl hdn (fun R ρ w hm hf => ?_) h
  obtain ⟨v', w', hr, hm'⟩ := append_row (T := T) (tx := tx) t hm hi h1 h2 h3 h4 (zero_size h7 h8) (Nat.le_of_ble_eq_true h6) (hs R _ (hf _ _ hy)) (Nat.le_of_ble_eq_true h5) hlen hty
  refine ⟨v', v', w', R, ?_, Seal.le_refl R, rel_raw.2 rfl, hm'⟩
  simp only [execOp, resolve, Sem.run_bind, Sem.run_pure, Result.andThen_ok, invoke, builtin, List.map_toArray, List.map_cons, List.map_nil, rel_raw.1 (hf _ _ hx), hr]
/-- 'append(nil, xs...)': a new slice of the call's own. -/
theorem MS.ghost {R : Seal} {w : World} (h : MS C R H w) (sz : Nat) : MS C R (.row (.slice none 0 0) eT sz 0 [] :: H) w := by
  refine ⟨h.sealed, h.ge, h.fresh, ⟨fun y hy => ?_, ?_, fun y hy k hk => ?_⟩, fun y hy k hk => ?_, h.ext⟩
  · rcases List.mem_cons.1 hy with rfl | hy
    · exact ⟨by simp, .inl ⟨rfl, rfl⟩⟩
    · exact h.heap.holds y hy
  · show (List.filterMap HEnt.blk H).Nodup
    exact h.heap.nodup
  · rcases List.mem_cons.1 hy with rfl | hy
    · cases hk
    · exact h.heap.apart y hy k hk
  · rcases List.mem_cons.1 hy with rfl | hy
    · cases hk
    · exact h.own y hy k hk
theorem aw_ghost_row {c : Code} (sz : Nat) (h : AWp P C n c env (.row (.slice none 0 0) eT sz 0 [] :: H) Q) : AWp P C n c env H Q :=
  fun R a w hm hf => h R a w (hm.ghost sz) hf
theorem ao_ghost_row {l : List Oper} (sz : Nat) (h : AOps P C n ops l env (.row (.slice none 0 0) eT sz 0 [] :: H) Q) : AOps P C n ops l env H Q :=
  fun R a w hm hf => h R a w (hm.ghost sz) hf
/-- What is owned is sealed: a slice. -/
theorem relC_of_cells {R : Seal} {a : AVal} {vs : List Value} (h : RelL R a.cells vs) (hp : a.plain = true) : RelC R a vs := by
  have one : ∀ x, a = x → RelL R [x] vs → (∀ v, RelC R x [v] → RelC R a [v]) → RelC R a vs := by
    rintro x rfl ⟨v, t, rfl, hv, ht⟩ _
    simp only [RelL] at ht
    subst ht
    exact hv
  cases a with
  | agg cs => exact h
  | _ => exact one _ rfl h (fun _ h => h)
theorem MS.seal_row {R : Seal} {w : World} {v : Value} {sz m : Nat} {cs : List AVal} {f : Nat → AVal} (h : MS C R (.row v eT sz m cs :: H) w)
    (hf : ∀ i, i < m → (f i).cells = (cs.drop (i * sz)).take sz ∧ (f i).plain = true) :
    ∃ R', R.le R' ∧ MS C R' H w ∧ Rel R' (.list sz m f) v := by
  obtain ⟨hlen, hx⟩ := h.heap.holds _ (List.mem_cons_self ..)
  rcases hx with ⟨rfl, rfl⟩ | ⟨bl, cap, Cs, el, fz, rfl, hb, hcs, hnc, hl, hfz⟩
  · exact ⟨R, Seal.le_refl R, h.drop (List.sublist_cons_self _ _), ⟨⟨none, 0, rfl, Nat.le_refl _, .inl rfl⟩, rfl⟩⟩
  · obtain ⟨h1, h2⟩ := h.fixed (b := bl) rfl hb
    refine ⟨_, h2, h1, ⟨⟨_, cap, rfl, hnc, ?_⟩, rfl⟩⟩
    refine .inr ⟨bl, 0, Cs, el, fz, rfl, Seal.put_at _ _ _, fun i hi => ?_⟩
    refine relC_of_cells ?_ (hf i hi).2
    rw [(hf i hi).1, Nat.zero_add]
    have := relL_take sz (relL_drop (i * sz) (relL_mono h2 _ _ hl))
    rw [List.drop_take, List.take_take] at this
    have hle : sz ≤ m * sz - i * sz := by
      rw [← Nat.sub_mul]; exact Nat.le_mul_of_pos_left _ (by omega)
    rw [Nat.min_eq_left hle] at this
    exact this
/-- The entry at a place comes to the front. -/
theorem perm_front {α : Type} {l : List α} {i : Nat} {x : α} (h : l[i]? = some x) : l.Perm (x :: l.eraseIdx i) := by
  induction l generalizing i with
  | nil => simp at h
  | cons y t ih =>
    cases i with
    | zero => simp only [List.getElem?_cons_zero, Option.some.injEq] at h; subst h; exact List.Perm.refl _
    | succ i =>
      simp only [List.getElem?_cons_succ] at h
      exact ((ih h).cons y).trans (List.Perm.swap x y _)
theorem FSa.set {D : List Deferred} {R : Seal} {a : Act} {k : Nat} {av : AVal} {v : Value} (h : FSa D n R env a) (hk : Env.get env k = some (.raw v)) (hv : Rel R av v) : FSa D n R ((k, av) :: env) a := by
  refine ⟨fun j x hj => ?_, h.size, h.defers⟩
  simp only [Env.get] at hj
  cases hb : Nat.beq k j with
  | true =>
    rw [hb] at hj
    have := Nat.eq_of_beq_eq_true hb
    subst this
    simp only [Option.some.injEq] at hj
    subst hj
    obtain ⟨y, hy, hr⟩ := h.fr k _ hk
    rw [rel_raw.1 hr] at hy
    exact ⟨v, hy, hv⟩
  | false => rw [hb] at hj; exact h.fr j x hj
/-! ### Strings and bytes -/
theorem relL_bytes (R : Seal) : ∀ s : List UInt8, RelL R (s.map byteA) (s.map fun c => Value.int .u8 (c.toNat : Int))
  | [] => rfl
  | _ :: s => ⟨_, _, rfl, rfl, relL_bytes R s⟩
theorem relL_bytes_inv {R : Seal} : ∀ {s : List UInt8} {vs : List Value}, RelL R (s.map byteA) vs → vs = s.map fun c => Value.int .u8 (c.toNat : Int)
  | [], _, h => by simpa [RelL] using h
  | c :: s, _, h => by
    obtain ⟨v, t, rfl, hv, h⟩ := h
    simp only [byteA, RelC, List.cons.injEq, and_true] at hv
    rw [hv, relL_bytes_inv h]; rfl
theorem relL_replicate {R : Seal} {a : AVal} {v : Value} (h : RelC R a [v]) : ∀ k, RelL R (List.replicate k a) (List.replicate k v)
  | 0 => rfl
  | k + 1 => ⟨_, _, rfl, h, relL_replicate h k⟩
theorem run_conv_op {ρ : Operand → Value} {S : TypeId} {w w' : World} {v u : Value} (hv : ρ x = v) (hr : (convert S T v).run P w = .ok u w') :
    (execOp ρ { dst := some d, op := .convert S T x, type := t, pos := p, after := af, guard := g }).run P w = .ok (.value u) w' := by
  simp only [execOp, hv, Sem.run_bind, hr, Result.andThen_ok, Sem.run_pure]
/-- '[]byte(s)', its bytes to be written. -/
theorem ao_bytes_own {s : List UInt8} {S e : TypeId} {xS xe : TI} (hg : guardA ops env g = some (b, b)) (hdn : Nat.ble (d + 1) n = true) (hx : evalA env x = some (.str s))
    (h1 : tab P S = some xS) (h2 : xS.desc = .string) (h3 : tab P T = some xT) (h4 : xT.desc = .slice e) (h5 : tab P e = some xe) (h6 : xe.desc = .int .u8)
    (h : ∀ (bl cap : Nat), s.length ≤ cap → AOps P C n ops rest ((d, .raw (.slice (some ⟨bl, 0, none⟩) s.length cap)) :: env) (.cells bl none (s.map byteA ++ List.replicate (cap - s.length) (.int .u8 0)) :: H) Q) :
    AOps P C n ops ({ dst := some d, op := .convert S T x, type := t, pos := p, after := af, guard := g } :: rest) env H Q := by
  refine ao_valX (X := { z : Nat × Nat // s.length ≤ z.2 }) (av := fun z => .raw (.slice (some ⟨z.1.1, 0, none⟩) s.length z.1.2)) (H' := fun z => .cells z.1.1 none (s.map byteA ++ List.replicate (z.1.2 - s.length) (.int .u8 0)) :: H) hg rfl hdn (fun R ρ w hm hf => ?_) (fun z => h z.1.1 z.1.2 z.2)
  have hr := run_bytes_of_string (P := P) w S T e ⟨s.toArray⟩ (by rw [tab_und h1, h2]) (by rw [tab_und h3, h4]) (by rw [tab_und h5, h6])
  rw [str_size] at hr
  have hle := grownCap_ge w s.length 0 e
  have hrun := run_conv_op (d := d) (t := t) (p := p) (af := af) (g := g) (rel_str.1 (hf _ _ hx)) hr
  refine ⟨⟨(w.heap.size, grownCap w s.length 0 e), hle⟩, _, _, R, hrun, Seal.le_refl R, rel_raw.2 rfl, ?_⟩
  · rw [grow_alloc]
    refine hm.drew.alloc _ _ rfl ⟨_, _, _, grow_at w.drew _, ?_, .inr (Nat.le_refl _), fun _ h => nomatch h⟩
    have : (bytesRow ⟨s.toArray⟩ (grownCap w s.length 0 e)).toList = (s.map fun c => Value.int .u8 (c.toNat : Int)) ++ List.replicate (grownCap w s.length 0 e - s.length) (.int .u8 0) := by
      simp [bytesRow, str_size]
    rw [this]
    exact relL_append (relL_bytes R s) (relL_replicate (show RelC R (.int .u8 0) [.int .u8 0] from rfl) _)
/-- 'string(b)', b's cells known. -/
theorem bytes_back {w : World} {S e : TypeId} {xS xe : TI} {a : Addr} {s : List UInt8} {cap : Nat} (h1 : tab P S = some xS) (h2 : xS.desc = .slice e) (h5 : tab P e = some xe) (h6 : xe.desc = .int .u8) (h3 : tab P T = some xT) (h4 : xT.desc = .string)
    (hc : ∀ j (hj : j < s.length), w.cell? (a.add j) = some (.int .u8 (s[j].toNat : Int))) :
    (convert S T (.slice (some a) s.length cap)).run P w = .ok (.string ⟨s.toArray⟩) w :=
  run_convert_bytes_back w S T e a cap s (by rw [tab_und h1, h2]) (by rw [tab_und h5, h6]) (by rw [tab_und h3, h4]) hc
theorem add_off (bl o j : Nat) : (⟨bl, o, none⟩ : Addr).add j = ⟨bl, o + j, none⟩ := by
  simp only [Addr.add]
  by_cases h0 : j = 0
  · simp [h0]
  · simp [h0]
theorem bytes_cell {R : Seal} {w : World} {bl o : Nat} {Cs : Array Value} {e : TypeId} {fz : Nat × Nat} {s : List UInt8} (hb : w.heap[bl]? = some (.cells Cs e fz)) (hl : RelL R (s.map byteA) ((Cs.toList.drop o).take s.length)) :
    ∀ j (hj : j < s.length), w.cell? ((⟨bl, o, none⟩ : Addr).add j) = some (.int .u8 (s[j].toNat : Int)) := by
  intro j hj
  have := relL_bytes_inv hl
  rw [add_off]
  simp only [World.cell?, hb]
  have h2 : ((Cs.toList.drop o).take s.length)[j]? = (s.map fun c => Value.int .u8 (c.toNat : Int))[j]? := by rw [this]
  rw [List.getElem?_take_of_lt hj, List.getElem?_drop] at h2
  simpa [List.getElem?_eq_getElem hj] using h2
/-! ### A slice written out -/
/-- A slice written out holds its parts one behind the other. -/
def inOrder : Nat → List (Nat × AVal) → Bool
  | _, [] => true
  | i, (j, v) :: t => Nat.beq i j && v.plain && inOrder (i + 1) t
def partCells : List (Nat × AVal) → List AVal
  | [] => []
  | (_, v) :: t => v.cells ++ partCells t
def partSizes (sz : Nat) : List (Nat × AVal) → Bool
  | [] => true
  | (_, v) :: t => Nat.beq v.cells.length sz && partSizes sz t
theorem fill_inOrder {R : Seal} {sz : Nat} : ∀ {ps : List (Nat × AVal)} {vs : List (Nat × Value)} {i : Nat} {pre : List Value} {Cs : Array Value}, PartsRel R ps vs → inOrder i ps = true → partSizes sz ps = true →
    pre.length = i * sz → (∃ z, Cs.toList = pre ++ z ∧ z.length = ps.length * sz) → ∃ Cs' new, Instr.fill (fun i => some (i * sz, sz)) Cs vs = some Cs' ∧ Cs'.toList = pre ++ new ∧ RelL R (partCells ps) new
  | [], _, i, pre, Cs, hp, _, _, _, hz => by
    simp only [PartsRel] at hp
    subst hp
    obtain ⟨z, hz, hl⟩ := hz
    have : z = [] := List.eq_nil_of_length_eq_zero (by simpa using hl)
    subst this
    exact ⟨Cs, [], rfl, by simpa using hz, rfl⟩
  | (j, a) :: ps, _, i, pre, Cs, hp, ho, hs, hpre, hz => by
    obtain ⟨⟨j', v⟩, vs, rfl, ⟨e, hr⟩, hp⟩ := hp
    simp only at e hr
    subst e
    simp only [inOrder, Bool.and_eq_true] at ho
    simp only [partSizes, Bool.and_eq_true] at hs
    have hj := Nat.eq_of_beq_eq_true ho.1.1
    subst hj
    have hsz := Nat.eq_of_beq_eq_true hs.1
    have hv := rel_cells hr ho.1.2
    have hvl := relL_length hv
    simp only [Array.length_toList] at hvl
    obtain ⟨z, hz, hzl⟩ := hz
    simp only [List.length_cons, Nat.succ_mul] at hzl
    have hCs : Cs.size = i * sz + z.length := by rw [← Array.length_toList, hz, List.length_append, hpre]
    have hf : (v.cells.zipIdx.foldl (fun cs (x : Value × Nat) => cs.setIfInBounds (i * sz + x.2) x.1) Cs).toList = (pre ++ v.cells.toList) ++ z.drop sz := by
      have := foldl_set v.cells.toList (i * sz) 0 Cs (by simp; omega)
      rw [← Array.foldl_toList, Array.toList_zipIdx]
      rw [this, Nat.add_zero, hz, List.take_append_of_le_length (by omega), List.take_of_length_le (by omega), List.drop_append, List.drop_eq_nil_of_le (by simp; omega), List.nil_append]
      congr 2
      simp only [Array.length_toList]
      omega
    obtain ⟨Cs', new, h1, h2, h3⟩ := fill_inOrder hp ho.2 hs.2 (pre := pre ++ v.cells.toList) (Cs := v.cells.zipIdx.foldl (fun cs (x : Value × Nat) => cs.setIfInBounds (i * sz + x.2) x.1) Cs)
      (by rw [List.length_append, hpre, Array.length_toList, hvl, hsz, Nat.succ_mul]) ⟨z.drop sz, hf, by rw [List.length_drop]; omega⟩
    refine ⟨Cs', v.cells.toList ++ new, ?_, by rw [h2, List.append_assoc], relL_append hv h3⟩
    simp only [Instr.fill]
    rw [if_neg (by simp only [Bool.or_eq_true, decide_eq_true_eq, not_or]; omega)]
    exact h1
theorem partCells_get {sz : Nat} : ∀ {ps : List (Nat × AVal)} {i : Nat}, inOrder i ps = true → partSizes sz ps = true → ∀ k (hk : k < ps.length), ((partCells ps).drop (k * sz)).take sz = (ps[k].2).cells ∧ (ps[k].2).plain = true
  | [], _, _, _, k, hk => by simp at hk
  | (j, a) :: ps, i, ho, hs, k, hk => by
    simp only [inOrder, Bool.and_eq_true] at ho
    simp only [partSizes, Bool.and_eq_true] at hs
    have hsz := Nat.eq_of_beq_eq_true hs.1
    cases k with
    | zero => 
      refine ⟨?_, ho.1.2⟩
      simp only [partCells, Nat.zero_mul, List.drop_zero, List.getElem_cons_zero]
      rw [List.take_append_of_le_length (by omega), List.take_of_length_le (by omega)]
    | succ k =>
      have := partCells_get ho.2 hs.2 k (by simpa using hk)
      refine ⟨?_, by simpa using this.2⟩
      simp only [partCells, List.getElem_cons_succ]
      rw [List.drop_append, List.drop_eq_nil_of_le (by rw [hsz, Nat.succ_mul]; omega), List.nil_append, hsz]
      rw [show (k + 1) * sz - sz = k * sz by rw [Nat.succ_mul]; omega]
      exact this.1
theorem partCells_length {sz : Nat} : ∀ {ps : List (Nat × AVal)}, partSizes sz ps = true → (partCells ps).length = ps.length * sz
  | [], _ => by simp [partCells]
  | (_, a) :: ps, hs => by
    simp only [partSizes, Bool.and_eq_true] at hs
    simp only [partCells, List.length_append, List.length_cons, Nat.succ_mul, partCells_length hs.2, Nat.eq_of_beq_eq_true hs.1]
    omega
theorem buildSlice_run {R : Seal} {ρ : Operand → Value} {w : World} {l : List (Nat × Operand)} {ps : List (Nat × AVal)} {m : Nat} {e : TypeId} {xe : TI} {z : List AVal} (hf : Evals R env ρ)
    (hl : partsA env l = some ps) (h1 : tab P T = some xT) (h2 : xT.desc = .slice e) (h3 : tab P e = some xe) (h4 : zeroCellsA xe.zero = some z) (h5 : Nat.beq z.length xe.size = true) (h6 : inOrder 0 ps = true) (h7 : partSizes xe.size ps = true) (h8 : Nat.beq ps.length m = true)
    (h9 : Nat.ble (m * xe.size) 16777216 = true) :
    ∃ Cs : Array Value, (Instr.buildSlice T m (l.toArray.map fun (i, x) => (i, ρ x))).run P w = .ok (.slice (some ⟨w.heap.size, 0, none⟩) m m) (grow w (.cells Cs e)) ∧ RelL R (partCells ps) Cs.toList := by
  have h8 := Nat.eq_of_beq_eq_true h8
  subst h8
  have h9 := Nat.le_of_ble_eq_true h9
  have h5 := Nat.eq_of_beq_eq_true h5
  obtain ⟨v, hv, hr⟩ := zeroCellsA_rel (R := R) h4
  have hzl := relL_length hr
  simp only [Array.length_toList] at hzl
  have hmap : (l.toArray.map fun x : Nat × Operand => (x.1, ρ x.2)).toList = l.map fun x => (x.1, ρ x.2) := by simp
  obtain ⟨Cs, new, hC, hCl, hn⟩ := fill_inOrder (R := R) (pre := []) (Cs := (Array.range (ps.length * xe.size)).map (fun i => (if ps.length * xe.size = 0 then #[] else v.cells)[i % (if ps.length * xe.size = 0 then #[] else v.cells).size]!)) (partsA_rel hf hl) h6 h7 (by simp) ⟨_, by simp; rfl, by simp⟩
  refine ⟨Cs, ?_, by rw [hCl]; exact hn⟩
  simp only [Instr.buildSlice, Sem.run_bind, tab_run_und h1, h2, Result.andThen_ok, tab_run_size h3]
  rw [if_neg (by omega)]
  by_cases hz0 : ps.length * xe.size = 0
  · simp only [hz0, if_true] at hC ⊢
    simp only [Sem.run_bind, Sem.run_pure, Result.andThen_ok]
    rw [show (Array.map (fun x : Nat × Operand => match x with | (i, x) => (i, ρ x)) l.toArray).toList = l.map fun x => (x.1, ρ x.2) from hmap, hC]
    rfl
  · simp only [if_neg hz0] at hC ⊢
    simp only [Sem.run_bind, Sem.run_pure, Result.andThen_ok, tab_run_zero h3 hv]
    rw [show (Array.map (fun x : Nat × Operand => match x with | (i, x) => (i, ρ x)) l.toArray).toList = l.map fun x => (x.1, ρ x.2) from hmap, hC]
    rfl
theorem run_build_op {ρ : Operand → Value} {w w' : World} {l : List (Nat × Operand)} {m : Nat} {u : Value} (hr : (Instr.buildSlice T m (l.toArray.map fun (i, x) => (i, ρ x))).run P w = .ok u w') :
    (execOp ρ { dst := some d, op := .buildSlice T m l.toArray, type := t, pos := p, after := af, guard := g }).run P w = .ok (.value u) w' := by
  show (Sem.run P (do pure (.value (← Instr.buildSlice T m (l.toArray.map fun (i, x) => (i, ρ x)))) : Sem Next) w) = _
  rw [Sem.run_bind, hr]
  rfl
/-- The elements of a slice written out. -/
def partElem (ps : List (Nat × AVal)) (i : Nat) : AVal := match ps[i]? with
  | some x => x.2
  | none => .raw undef
theorem ao_buildSlice_sealed {l : List (Nat × Operand)} {ps : List (Nat × AVal)} {m : Nat} {e : TypeId} {xe : TI} {z : List AVal} (hg : guardA ops env g = some (b, b)) (hdn : Nat.ble (d + 1) n = true)
    (hl : partsA env l = some ps) (h1 : tab P T = some xT) (h2 : xT.desc = .slice e) (h3 : tab P e = some xe) (h4 : zeroCellsA xe.zero = some z) (h5 : Nat.beq z.length xe.size = true) (h6 : inOrder 0 ps = true) (h7 : partSizes xe.size ps = true) (h8 : Nat.beq ps.length m = true)
    (h9 : Nat.ble (m * xe.size) 16777216 = true)
    (h : AOps P C n ops rest ((d, .list xe.size m (partElem ps)) :: env) H Q) :
    AOps P C n ops ({ dst := some d, op := .buildSlice T m l.toArray, type := t, pos := p, after := af, guard := g } :: rest) env H Q := by
  refine ao_val hg rfl hdn (fun R ρ w hm hf => ?_) h
  obtain ⟨Cs, hr, hrel⟩ := buildSlice_run (T := T) (w := w) hf hl h1 h2 h3 h4 h5 h6 h7 h8 h9
  have hfree := hm.seal_free
  have h8 := Nat.eq_of_beq_eq_true h8
  subst h8
  refine ⟨_, _, _, run_build_op hr, Seal.put_le hfree, ⟨⟨_, _, rfl, Nat.le_refl _, .inr ⟨w.heap.size, 0, Cs, e, _, rfl, Seal.put_at _ _ _, fun i hi => ?_⟩⟩, rfl⟩, hm.alloc_sealed _⟩
  · obtain ⟨k1, k2⟩ := partCells_get h6 h7 i hi
    have : partElem ps i = (ps[i]).2 := by simp [partElem, hi]
    rw [this, Nat.zero_add]
    refine relC_of_cells ?_ k2
    rw [← k1]
    exact relL_take _ (relL_drop _ (relL_mono (Seal.put_le hfree) _ _ hrel))
theorem ao_buildSlice_row {l : List (Nat × Operand)} {ps : List (Nat × AVal)} {m : Nat} {e : TypeId} {xe : TI} {z : List AVal} (hg : guardA ops env g = some (b, b)) (hdn : Nat.ble (d + 1) n = true)
    (hl : partsA env l = some ps) (h1 : tab P T = some xT) (h2 : xT.desc = .slice e) (h3 : tab P e = some xe) (h4 : zeroCellsA xe.zero = some z) (h5 : Nat.beq z.length xe.size = true) (h6 : inOrder 0 ps = true) (h7 : partSizes xe.size ps = true) (h8 : Nat.beq ps.length m = true)
    (h9 : Nat.ble (m * xe.size) 16777216 = true)
    (h : ∀ v : Value, AOps P C n ops rest ((d, .raw v) :: env) (.row v none xe.size m (partCells ps) :: H) Q) :
    AOps P C n ops ({ dst := some d, op := .buildSlice T m l.toArray, type := t, pos := p, after := af, guard := g } :: rest) env H Q := by
  refine ao_valX (av := fun v : Value => .raw v) (H' := fun v => .row v none xe.size m (partCells ps) :: H) hg rfl hdn (fun R ρ w hm hf => ?_) h
  obtain ⟨Cs, hr, hrel⟩ := buildSlice_run (T := T) (w := w) hf hl h1 h2 h3 h4 h5 h6 h7 h8 h9
  have h8 := Nat.eq_of_beq_eq_true h8
  subst h8
  have hpl := partCells_length h7
  have hcl := relL_length hrel
  simp only [Array.length_toList] at hcl
  refine ⟨.slice (some ⟨w.heap.size, 0, none⟩) ps.length ps.length, _, _, R, run_build_op hr, Seal.le_refl R, rel_raw.2 rfl, hm.alloc _ _ rfl ⟨hpl, .inr ⟨w.heap.size, ps.length, Cs, e, (0, 0), rfl, grow_at w _, by omega, Nat.le_refl _, ?_, .inl (Nat.le_refl _), fun _ h => nomatch h⟩⟩⟩
  · rw [List.take_of_length_le (by simp; omega)]; exact hrel
end
end Go.Proofs.YtmgkpbgfkjedeaaGreatDoor
namespace Go.Proofs.YtmgkpbgfkjedeaaGreatDoor
open Go
set_option linter.unusedSimpArgs false
set_option linter.unusedSectionVars false
section
variable {P : Program} [Tab P] {C : Ctx} {n : Nat} {env : Env} {H : Heap} {Q : AExit → Env → Heap → Prop} {ops : Array Oper} {rest : List Oper}
variable {eT : Option TypeId}
variable {d : Nat} {t : TypeId} {p : String} {af : Array Edge} {g : Option (Nat × Bool)} {b : Bool} {av : AVal}
variable {x y : Operand} {T : TypeId} {xT : TI}
/-! ### Ranging over a string -/
theorem ao_range_str {s : List UInt8} (hg : guardA ops env g = some (b, b)) (hdn : Nat.ble (d + 1) n = true) (hx : evalA env x = some (.str s)) (h1 : tab P T = some xT) (h2 : xT.desc = .string)
    (h : ∀ bl : Nat, AOps P C n ops rest ((d, .raw (.pointer (some ⟨bl, 0, none⟩))) :: env) (.iter bl s 0 :: H) Q) :
    AOps P C n ops ({ dst := some d, op := .range T x, type := t, pos := p, after := af, guard := g } :: rest) env H Q := by
  refine ao_valX (av := fun bl : Nat => .raw (.pointer (some ⟨bl, 0, none⟩))) (H' := fun bl => .iter bl s 0 :: H) hg rfl hdn (fun R ρ w hm hf => ?_) h
  refine ⟨w.heap.size, _, grow w (.stringIter ⟨s.toArray⟩ 0), R, ?_, Seal.le_refl R, rel_raw.2 rfl, hm.alloc _ _ rfl (grow_at w _)⟩
  simp only [execOp, rel_str.1 (hf _ _ hx), Instr.range, Sem.run_bind, tab_run_und h1, h2, Result.andThen_ok]
  rfl
theorem run_getObj_at {w : World} {bl : Nat} {o : Obj} (h : w.heap[bl]? = some o) (hc : ∀ c e f, o ≠ .cells c e f) : (getObj bl).run P w = .ok o w := by
  unfold getObj
  cases o with
  | cells c e f => exact absurd rfl (hc _ _ _)
  | _ => simp only [Sem.run, h]
/-! ### Interfaces -/
def descIface : TypeDesc → Bool
  | .interface _ => true
  | _ => false
theorem rel_iface {R : Seal} {ty : TypeId} {a : AVal} {v : Value} (h : Rel R a v) : Rel R (.iface ty a) (.iface ty v) := by
  refine ⟨?_, rfl⟩
  show RelC R (.iface ty a) [.iface ty v]
  exact ⟨v, rfl, h.1, h.2⟩
/-- The zero value of a type, as an abstract value. -/
def zeroA : Option Value → Option AVal
  | some (.agg cs) => match cs.toList.all fun v => !vAgg v with
    | true => some (.agg (cs.toList.map ofV))
    | false => none
  | some v => some (ofV v)
  | none => none
theorem zeroA_rel {R : Seal} {z : Option Value} {a : AVal} (h : zeroA z = some a) : ∃ v, z = some v ∧ Rel R a v := by
  cases z with
  | none => simp [zeroA] at h
  | some v =>
    refine ⟨v, rfl, ?_⟩
    cases v <;> simp only [zeroA, Option.some.injEq] at h
    case agg l =>
      split at h
      · rename_i hall
        simp only [Option.some.injEq] at h
        subst h
        exact ⟨relL_ofV R (fun v hv => by have := List.all_eq_true.1 hall v hv; simpa using this), rfl⟩
      · cases h
    all_goals (subst h; exact rel_ofV R _)
/-- A panic. -/
theorem ao_panic {v : AVal} {ty : TypeId} {dst : Option Nat} (hg : guardA ops env g = some (b, b)) (hx : evalA env x = some (.iface ty v)) (h : Q (.panic (.iface ty v)) env H) :
    AOps P C n ops ({ dst := dst, op := .panic x, type := t, pos := p, after := af, guard := g } :: rest) env H Q := by
  intro R a w hm hf
  refine wpList_step fun K hK => ?_
  rw [wanted_of hf hg, if_pos (by simp)]
  have hr := hf.eval hx
  obtain ⟨u, e, _⟩ := rel_one hr rfl
  simp only [List.cons.injEq, and_true] at e
  rw [e] at hr
  have hrun : (execOp a.eval { dst := dst, op := .panic x, type := t, pos := p, after := af, guard := g : Oper }).run P w = .halt (.panic (.iface ty u)) w := by
    simp only [execOp, e, Instr.panic]
    rfl
  rw [Oper.wp, hrun, Oper.upon_panic]
  exact ⟨.panic (.iface ty v), env, H, R, h, ⟨_, rfl, hr⟩, hm, hf⟩
/-! ### Against nil -/
/-- Is it nil, of such a type? -/
def isNil0 : TypeDesc → AVal → Option Bool
  | .interface _, .raw .nilIface => some true
  | .interface _, .iface _ _ => some false
  | .pointer _, .raw (.pointer a) => some a.isNone
  | .pointer _, .rop _ _ => some false
  | .slice _, .raw (.slice a _ _) => some a.isNone
  | .map _ _, .raw (.map a) => some a.isNone
  | _, _ => none
/-- The nil of a type. -/
def nilOf : TypeDesc → Option Value
  | .interface _ => some .nilIface
  | .pointer _ => some (.pointer none)
  | .slice _ => some (.slice none 0 0)
  | .map _ _ => some (.map none)
  | _ => none
theorem equal_nil0 {R : Seal} {w : World} {v z : Value} {c : Bool} (hv : Rel R av v) (h1 : tab P T = some xT) (hn : isNil0 xT.desc av = some c) (hz : nilOf xT.desc = some z) :
    (Op.equal T v z).run P w = .ok c w ∧ (∀ op yt, (eqGuard op T x (.const yt) v z).run P w = .ok () w) ∧ (∀ op, op = BinOp.eql ∨ op = .neq → Go.binOp op T v z = if op = .eql then (do pure (.bool (← Op.equal T v z))) else (do pure (.bool (!(← Op.equal T v z))))) := by
  have key : ∀ u, v = u → (Op.equalIn (9999 + 1) T u z).run P w = .ok c w → (∀ op yt, (eqGuard op T x (.const yt) u z).run P w = .ok () w) → (∀ op, op = BinOp.eql ∨ op = .neq → Go.binOp op T u z = if op = .eql then (do pure (.bool (← Op.equal T u z))) else (do pure (.bool (!(← Op.equal T u z))))) →
      (Op.equal T v z).run P w = .ok c w ∧ (∀ op yt, (eqGuard op T x (.const yt) v z).run P w = .ok () w) ∧ (∀ op, op = BinOp.eql ∨ op = .neq → Go.binOp op T v z = if op = .eql then (do pure (.bool (← Op.equal T v z))) else (do pure (.bool (!(← Op.equal T v z))))) := by
    rintro u rfl h2 h3 h4; exact ⟨h2, h3, h4⟩
  have hu := tab_run_und h1 w
  have guardOK : ∀ (u z : Value), (u = .nilIface ∨ vAgg u = false) → (u ≠ .nilIface ∨ z ≠ .nilIface ∨ True) → ∀ op yt, (eqGuard op T x (.const yt) u z).run P w = .ok () w := by
    intro u z hu _ op yt
    cases op <;> first | rfl | skip
    all_goals
      cases u <;> cases z <;> first | rfl | (simp [vAgg] at hu; done) | (simp [eqGuard]; done)
  cases hd : xT.desc <;> rw [hd] at hn hz hu <;> simp only [nilOf, Option.some.injEq] at hz <;> first | (cases hz; done) | skip
  case pointer e =>
    subst hz
    cases av <;> simp only [isNil0] at hn <;> first | (cases hn; done) | skip
    case raw u =>
      cases u <;> simp only [] at hn <;> first | (cases hn; done) | skip
      rename_i a
      simp only [Option.some.injEq] at hn
      subst hn
      refine key _ (rel_raw.1 hv) ?_ (guardOK _ _ (.inr rfl) (.inr (.inr trivial))) ?_
      · rw [Op.equalIn]; simp only [Sem.run_bind, hu, Result.andThen_ok]; cases a <;> rfl
      · rintro op (rfl | rfl) <;> cases a <;> rfl
    case rop cs off =>
      simp only [Option.some.injEq] at hn
      subst hn
      obtain ⟨bl, o, e1, _⟩ := rop_inv hv
      refine key _ e1 ?_ (guardOK _ _ (.inr rfl) (.inr (.inr trivial))) ?_
      · rw [Op.equalIn]; simp only [Sem.run_bind, hu, Result.andThen_ok]; rfl
      · rintro op (rfl | rfl) <;> rfl
  case slice e =>
    subst hz
    cases av <;> simp only [isNil0] at hn <;> first | (cases hn; done) | skip
    rename_i u
    cases u <;> simp only [] at hn <;> first | (cases hn; done) | skip
    rename_i a l c'
    simp only [Option.some.injEq] at hn
    subst hn
    refine key _ (rel_raw.1 hv) ?_ (guardOK _ _ (.inr rfl) (.inr (.inr trivial))) ?_
    · rw [Op.equalIn]; simp only [Sem.run_bind, hu, Result.andThen_ok]; cases a <;> rfl
    · rintro op (rfl | rfl) <;> rfl
  case map k e =>
    subst hz
    cases av <;> simp only [isNil0] at hn <;> first | (cases hn; done) | skip
    rename_i u
    cases u <;> simp only [] at hn <;> first | (cases hn; done) | skip
    rename_i a
    simp only [Option.some.injEq] at hn
    subst hn
    refine key _ (rel_raw.1 hv) ?_ (guardOK _ _ (.inr rfl) (.inr (.inr trivial))) ?_
    · rw [Op.equalIn]; simp only [Sem.run_bind, hu, Result.andThen_ok]; cases a <;> rfl
    · rintro op (rfl | rfl) <;> rfl
  case interface ms =>
    subst hz
    cases av <;> simp only [isNil0] at hn <;> first | (cases hn; done) | skip
    case raw u =>
      cases u <;> simp only [] at hn <;> first | (cases hn; done) | skip
      simp only [Option.some.injEq] at hn
      subst hn
      refine key _ (rel_raw.1 hv) ?_ (guardOK _ _ (.inl rfl) (.inr (.inr trivial))) ?_
      · rw [Op.equalIn]; simp only [Sem.run_bind, hu, Result.andThen_ok]; rfl
      · rintro op (rfl | rfl) <;> rfl
    case iface ty v' =>
      simp only [Option.some.injEq] at hn
      subst hn
      obtain ⟨u, e1, _⟩ := rel_one hv rfl
      simp only [List.cons.injEq, and_true] at e1
      refine key _ e1 ?_ (guardOK _ _ (.inr rfl) (.inr (.inr trivial))) ?_
      · rw [Op.equalIn]; simp only [Sem.run_bind, hu, Result.andThen_ok]; rfl
      · rintro op (rfl | rfl) <;> rfl
def isNilA (d : TypeDesc) : AVal → Option Bool
  | .own _ v => isNil0 d (.raw v)
  | a => isNil0 d a
theorem equal_nil {R : Seal} {w : World} {v z : Value} {c : Bool} (hv : Rel R av v) (h1 : tab P T = some xT) (hn : isNilA xT.desc av = some c) (hz : nilOf xT.desc = some z) :
    (Op.equal T v z).run P w = .ok c w ∧ (∀ op yt, (eqGuard op T x (.const yt) v z).run P w = .ok () w) ∧ (∀ op, op = BinOp.eql ∨ op = .neq → Go.binOp op T v z = if op = .eql then (do pure (.bool (← Op.equal T v z))) else (do pure (.bool (!(← Op.equal T v z))))) := by
  cases av with
  | own i u => exact equal_nil0 (x := x) (R := R) (rel_raw.2 (rel_own.1 hv).1) h1 hn hz
  | _ => exact equal_nil0 (x := x) hv h1 hn hz
/-! ### Lengths -/
/-! ### min, max of two -/
/-! ### Closures -/
/-! ### Slices that are only read, cut -/
end
end Go.Proofs.YtmgkpbgfkjedeaaGreatDoor
namespace Go.Proofs.YtmgkpbgfkjedeaaGreatDoor
open Go
set_option linter.unusedSimpArgs false
section
variable {P : Program} {C : Ctx} {n : Nat} {env : Env} {H : Heap} {Q : AExit → Env → Heap → Prop} {ops : Array Oper} {rest : List Oper}
variable {dst : Option Nat} {t : TypeId} {p : String} {af : Array Edge} {g : Option (Nat × Bool)} {d : Nat} {b : Bool}
/-- Comparisons alone. -/
def cmpBin (op : BinOp) (x y : Int) : Option AVal :=
  match op with
  | .eql => some (.bool (eqB x y))
  | .neq => some (.bool (!eqB x y))
  | .lss => some (.bool (ltB x y))
  | .leq => some (.bool (!ltB y x))
  | .gtr => some (.bool (ltB y x))
  | .geq => some (.bool (!ltB x y))
  | _ => none
/-- A function whose answer is one value, and which leaves nothing. -/
def FnIs (P : Program) (G : Glo) (f : FuncId) (args : List AVal) (v : AVal) : Prop := FnSpec P G f args [] (fun x H => x = .ret v ∧ H = [])
end
end Go.Proofs.YtmgkpbgfkjedeaaGreatDoor
namespace Go.Proofs.YtmgkpbgfkjedeaaGreatDoor
open Go
set_option linter.unusedSimpArgs false
set_option linter.unusedSectionVars false
/-- A buffer: its bytes, and room behind them. -/
theorem ownB_get {s : List UInt8} {cap i : Nat} (h : i < s.length) : (ownB s cap)[i]? = some (.int .u8 (byteAt s i : Int)) := by
  unfold ownB
  rw [List.getElem?_append_left (by simpa using h), List.getElem?_map, List.getElem?_eq_getElem h]
  simp [byteA, byteAt, h]
theorem ownB_length {s : List UInt8} {cap : Nat} (h : s.length ≤ cap) : (ownB s cap).length = cap := by
  unfold ownB; simp; omega
theorem ownB_take (s : List UInt8) (cap : Nat) : (ownB s cap).take s.length = s.map byteA := by
  unfold ownB; rw [List.take_left' (by simp)]
theorem ownB_set {s : List UInt8} {cap i : Nat} {m : Int} (h : i < s.length) (h0 : 0 ≤ m) (h1 : m ≤ 255) :
    (ownB s cap).take i ++ [.int .u8 m] ++ (ownB s cap).drop (i + 1) = ownB (s.set i (UInt8.ofNat m.toNat)) cap := by
  have e : byteA (UInt8.ofNat m.toNat) = .int .u8 m := by
    unfold byteA
    have : (UInt8.ofNat m.toNat).toNat = m.toNat := by rw [UInt8.toNat_ofNat']; omega
    rw [this]; congr 1; omega
  unfold ownB
  rw [List.take_append_of_le_length (by simp; omega), List.drop_append_of_le_length (by simp; omega), List.length_set, List.map_set, e]
  rw [List.set_eq_take_append_cons_drop, if_pos (by simpa using h)]
  simp
section
variable {P : Program} [Tab P] {C : Ctx} {n : Nat} {env : Env} {H : Heap} {Q : AExit → Env → Heap → Prop} {ops : Array Oper} {rest : List Oper}
variable {eT : Option TypeId}
variable {d : Nat} {t : TypeId} {p : String} {af : Array Edge} {g : Option (Nat × Bool)} {b : Bool} {av : AVal}
variable {x y : Operand} {T : TypeId} {xT : TI}
theorem ao_buf {s : List UInt8} {S e : TypeId} {xS xe : TI} (hg : guardA ops env g = some (b, b)) (hdn : Nat.ble (d + 1) n = true) (hx : evalA env x = some (.str s))
    (h1 : tab P S = some xS) (h2 : xS.desc = .string) (h3 : tab P T = some xT) (h4 : xT.desc = .slice e) (h5 : tab P e = some xe) (h6 : xe.desc = .int .u8)
    (h : ∀ (bl cap : Nat), s.length ≤ cap → AOps P C n ops rest ((d, .raw (.slice (some ⟨bl, 0, none⟩) s.length cap)) :: env) (.cells bl none (ownB s cap) :: H) Q) :
    AOps P C n ops ({ dst := some d, op := .convert S T x, type := t, pos := p, after := af, guard := g } :: rest) env H Q :=
  ao_bytes_own hg hdn hx h1 h2 h3 h4 h5 h6 h
end
end Go.Proofs.YtmgkpbgfkjedeaaGreatDoor
namespace Go.Proofs.YtmgkpbgfkjedeaaGreatDoor
open Go
set_option linter.unusedSimpArgs false
set_option linter.unusedSectionVars false
set_option linter.unusedVariables false
/-- The operation hands back this value, memory as it was. -/
def RunV (P : Program) (C : Ctx) (H : Heap) (env : Env) (op : Op) (av : AVal) : Prop :=
  ∀ (R : Seal) (ρ : Operand → Value) (w : World), MS C R H w → Evals R env ρ → ∀ (dst : Option Nat) (t : TypeId) (p : String) (af : Array Edge) (g : Option (Nat × Bool)),
    ∃ v, (execOp ρ { dst := dst, op := op, type := t, pos := p, after := af, guard := g }).run P w = .ok (.value v) w ∧ Rel R av v
section
variable {P : Program} [Tab P] {C : Ctx} {n : Nat} {env : Env} {H : Heap}
variable {eT : Option TypeId}
variable {av : AVal} {x y : Operand} {T : TypeId} {xT : TI} {tx ty : TypeId}
theorem rv_int {op : BinOp} {k : IntKind} {x y : Operand} {tx ty : TypeId} {m q : Int} 
    (hx : evalA env x = some (.int k m)) (hy : evalA env y = some (.int k q)) (ho : intBin op k m q = some av)
    : RunV P C H env (.binOp op tx x y ty) (av) := by
  intro R ρ w hm hf dst t p af g
  obtain ⟨v, hv, hr⟩ := run_intBin (P := P) (tx := tx) (x := x) (y := y) (w := w) ho
  refine ⟨v, ?_, hr R⟩
  simp only [execOp, rel_int.1 (hf _ _ hx), rel_int.1 (hf _ _ hy)]
  simp only [Sem.run_bind] at hv ⊢
  rw [hv]
  rfl
theorem rv_quo {k : IntKind} {m q : Int} 
    (hx : evalA env x = some (.int k m)) (hy : evalA env y = some (.int k q)) (hm : 0 ≤ m) (hq : 0 < q) (hw : Fits k m)
    : RunV P C H env (.binOp .quo tx x y ty) (.int k (m / q)) := by
  intro R ρ w _hm hf dst t p af g
  refine ⟨_, ?_, rel_int.2 rfl⟩
  have h1 : m.tdiv q = m / q := Int.tdiv_eq_ediv_of_nonneg hm
  have h2 : 0 ≤ m / q := Int.ediv_nonneg hm (by omega)
  have h3 : m / q ≤ m := Int.ediv_le_self q hm
  have hw' : Fits k (m / q) := by cases k <;> simp only [Fits] at hw ⊢ <;> omega
  simp only [execOp, rel_int.1 (hf _ _ hx), rel_int.1 (hf _ _ hy), Go.binOp, eqGuard, Op.intDiv, ne_eq, not_true_eq_false, if_false]
  rw [if_neg (show ¬ q = 0 by omega), h1, wrap_fits hw']
  rfl
theorem rv_rem {k : IntKind} {m q : Int} 
    (hx : evalA env x = some (.int k m)) (hy : evalA env y = some (.int k q)) (hm : 0 ≤ m) (hq : 0 < q)
    : RunV P C H env (.binOp .rem tx x y ty) (.int k (m % q)) := by
  intro R ρ w _hm hf dst t p af g
  refine ⟨_, ?_, rel_int.2 rfl⟩
  simp only [execOp, rel_int.1 (hf _ _ hx), rel_int.1 (hf _ _ hy), Go.binOp, eqGuard, Op.intDiv, ne_eq, not_true_eq_false, if_false]
  rw [if_neg (show ¬ q = 0 by omega), Int.tmod_eq_emod_of_nonneg hm]
  rfl
theorem rv_shl {k j : IntKind} {m c : Int} {s : Nat} 
    (hx : evalA env x = some (.int k m)) (hs : Nat.ble s k.bits = true) (hc : nth pwL s = some c) (hw : Fits k (m * c))
    : RunV P C H env (.binOp .shl tx x (.const (.int j (Int.ofNat s))) ty) (.int k (m * c)) := by
  rw [← pw_ok hc] at *
  intro R ρ w hm hf dst t p af g
  refine ⟨_, ?_, rel_int.2 rfl⟩
  have hs := Nat.le_of_ble_eq_true hs
  simp only [execOp, rel_int.1 (hf _ _ hx), rel_int.1 (hf (.const (.int j (Int.ofNat s))) _ rfl), Go.binOp, eqGuard, Op.shift]
  rw [if_neg (show ¬ (Int.ofNat s < 0) by simp only [Int.ofNat_eq_natCast]; omega)]
  simp only [Int.ofNat_eq_natCast, Int.toNat_natCast, Nat.min_eq_left hs]
  have : (m * 2 ^ s : Int) = m * ((2 ^ s : Nat) : Int) := by simp
  rw [this, wrap_fits hw]
  rfl
theorem rv_shr {k j : IntKind} {m c : Int} {s : Nat} 
    (hx : evalA env x = some (.int k m)) (hs : Nat.ble s k.bits = true) (hc : nth pwL s = some c)
    : RunV P C H env (.binOp .shr tx x (.const (.int j (Int.ofNat s))) ty) (.int k (m / c)) := by
  rw [← pw_ok hc] at *
  intro R ρ w hm hf dst t p af g
  refine ⟨_, ?_, rel_int.2 rfl⟩
  have hs := Nat.le_of_ble_eq_true hs
  simp only [execOp, rel_int.1 (hf _ _ hx), rel_int.1 (hf (.const (.int j (Int.ofNat s))) _ rfl), Go.binOp, eqGuard, Op.shift]
  rw [if_neg (show ¬ (Int.ofNat s < 0) by simp only [Int.ofNat_eq_natCast]; omega)]
  simp only [Int.ofNat_eq_natCast, Int.toNat_natCast, Nat.min_eq_left hs]
  have : (m.fdiv (2 ^ s) : Int) = m / ((2 ^ s : Nat) : Int) := by rw [Int.fdiv_eq_ediv_of_nonneg _ (by simpa using Int.natCast_nonneg (2 ^ s))]; simp
  rw [this]
  rfl
theorem rv_neg {k : IntKind} {m : Int} 
    (hx : evalA env x = some (.int k m)) (hw : Fits k (0 - m))
    : RunV P C H env (.unOp .neg tx x) (.int k (0 - m)) := by
  intro R ρ w hm hf dst t p af g
  refine ⟨_, ?_, rel_int.2 rfl⟩
  simp only [execOp, rel_int.1 (hf _ _ hx), Op.unary, Op.intArith, wrap_fits hw]
  rfl
theorem rv_not {c : Bool}  (hx : evalA env x = some (.bool c))
    : RunV P C H env (.unOp .not tx x) (.bool (!c)) := by
  intro R ρ w hm hf dst t p af g
  refine ⟨_, ?_, rel_bool.2 rfl⟩
  simp only [execOp, rel_bool.1 (hf _ _ hx), Op.unary]
  rfl
theorem rv_beq {c e : Bool}  (hx : evalA env x = some (.bool c)) (hy : evalA env y = some (.bool e))
    (hu : P.underlying tx = some .bool)
    : RunV P C H env (.binOp .eql tx x y ty) (.bool (c == e)) := by
  intro R ρ w hm hf dst t p af g
  refine ⟨_, ?_, rel_bool.2 rfl⟩
  have e1 : (Op.equal tx (.bool c) (.bool e)).run P w = .ok (c == e) w := by
    show (Op.equalIn (9999 + 1) tx (.bool c) (.bool e)).run P w = _
    rw [Op.equalIn]
    simp only [Sem.run_bind, run_underlying hu, Result.andThen_ok]
    rfl
  have e2 : (eqGuard .eql tx x y (.bool c) (.bool e)).run P w = .ok () w := rfl
  simp only [execOp, rel_bool.1 (hf _ _ hx), rel_bool.1 (hf _ _ hy), Go.binOp, Sem.run_bind, e1, e2, Result.andThen_ok, Sem.run_pure]
theorem rv_conv_int [Tab P] {k j : IntKind} {m : Int} {s e : TypeId} {xs xe : TI}  (hx : evalA env x = some (.int k m))
    (h1 : tab P s = some xs) (h2 : tab P e = some xe) (h3 : xe.desc = .int j) (hw : Fits j m)
    : RunV P C H env (.convert s e x) (.int j m) := by
  intro R ρ w hm hf dst t p af g
  refine ⟨_, ?_, rel_int.2 rfl⟩
  simp only [execOp, rel_int.1 (hf _ _ hx), convert, Sem.run_bind, tab_run_und h1, tab_run_und h2, Result.andThen_ok, h3, Conv.intToInt, wrap_fits hw]
  cases xs.desc <;> rfl
theorem rv_conv_wrap [Tab P] {k j : IntKind} {m : Int} {s e : TypeId} {xs xe : TI}  (hx : evalA env x = some (.int k m))
    (h1 : tab P s = some xs) (h2 : tab P e = some xe) (h3 : xe.desc = .int j)
    : RunV P C H env (.convert s e x) (.int j (j.wrap m)) := by
  intro R ρ w hm hf dst t p af g
  refine ⟨_, ?_, rel_int.2 rfl⟩
  simp only [execOp, rel_int.1 (hf _ _ hx), convert, Sem.run_bind, tab_run_und h1, tab_run_und h2, Result.andThen_ok, h3, Conv.intToInt]
  cases xs.desc <;> rfl
theorem rv_str {op : BinOp} {m q : List UInt8} 
    (hx : evalA env x = some (.str m)) (hy : evalA env y = some (.str q)) (ho : strBin op m q = some av)
    : RunV P C H env (.binOp op tx x y ty) (av) := by
  intro R ρ w hm hf dst t p af g
  simp only [execOp, rel_str.1 (hf _ _ hx), rel_str.1 (hf _ _ hy)]
  cases op <;> simp only [strBin, Option.some.injEq] at ho <;>
    first
      | (cases ho; done)
      | (subst ho; refine ⟨.bool _, ?_, rel_bool.2 rfl⟩; simp only [Go.binOp, eqGuard, Op.stringOp, ByteArray.toList_mk, seqB_def, sltB_def]; rfl)
theorem rv_cat {m q : List UInt8} 
    (hx : evalA env x = some (.str m)) (hy : evalA env y = some (.str q)) (hw : m.length + q.length ≤ 9223372036854775807)
    : RunV P C H env (.binOp .add tx x y ty) (.str (m ++ q)) := by
  intro R ρ w hm hf dst t p af g
  refine ⟨_, ?_, rel_str.2 rfl⟩
  simp only [execOp, rel_str.1 (hf _ _ hx), rel_str.1 (hf _ _ hy), Go.binOp, eqGuard, Op.stringOp, str_append, str_size]
  have hmx : IntKind.i64.max = 9223372036854775807 := by decide
  rw [if_neg (show ¬ ((m.length + q.length : Nat) : Int) > IntKind.i64.max by rw [hmx]; omega)]
  rfl
theorem rv_len_str [Tab P] {m : List UInt8} {T : TypeId} {xT : TI}  (hx : evalA env x = some (.str m))
    (h1 : tab P T = some xT) (h2 : xT.desc = .string)
    : RunV P C H env (.call { callee := .builtin .len, args := [x].toArray, argTypes := [T].toArray }) (.int .i64 (m.length : Int)) := by
  intro R ρ w hm hf dst t p af g
  refine ⟨_, ?_, rel_int.2 rfl⟩
  simp only [execOp, resolve, Sem.run_bind, Sem.run_pure, Result.andThen_ok, invoke, builtin, Builtin.len_, List.map_toArray, List.map_cons, List.map_nil, rel_str.1 (hf _ _ hx)]
  simp only [List.getElem?_toArray, List.getElem?_cons_zero, Sem.run_bind, tab_run_und h1, h2, Result.andThen_ok, Sem.run_pure, goInt, str_size]
theorem rv_index_str [Tab P] {m : List UInt8} {k : IntKind} {i : Int} {T : TypeId} {xT : TI}  (hx : evalA env x = some (.str m)) (hy : evalA env y = some (.int k i))
    (h1 : tab P T = some xT) (h2 : xT.desc = .string) (hi0 : 0 ≤ i) (hi : i < m.length)
    : RunV P C H env (.index T x y) (.int .u8 (byteAt m i.toNat : Int)) := by
  intro R ρ w hm hf dst t p af g
  refine ⟨_, ?_, rel_int.2 rfl⟩
  have hlt : i.toNat < m.length := by omega
  have e : (⟨m.toArray⟩ : ByteArray)[i.toNat]? = some m[i.toNat] := str_get m i.toNat hlt
  simp only [execOp, rel_str.1 (hf _ _ hx), rel_int.1 (hf _ _ hy), Instr.index, asIntOf, Sem.run_bind, Sem.run_pure, Result.andThen_ok, tab_run_und h1, h2, if_pos hi0, e]
  simp [hlt, byteAt]
theorem rv_slice_str [Tab P] {m : List UInt8} {lo hi : Option Operand} {i j : Int} {T : TypeId} {xT : TI}  (hx : evalA env x = some (.str m))
    (h1 : tab P T = some xT) (h2 : xT.desc = .string) (hlo : boundA env 0 lo = some i) (hhi : boundA env (m.length : Int) hi = some j) (h0 : 0 ≤ i) (hij : i ≤ j) (hj : j ≤ m.length)
    : RunV P C H env (.slice T x lo hi none) (.str ((m.take j.toNat).drop i.toNat)) := by
  intro R ρ w hm hf dst t p af g
  refine ⟨_, ?_, rel_str.2 rfl⟩
  have hb := bounds_run (P := P) (isS := false) (len := m.length) (cap := m.length) hf hlo hhi h0 hij hj (Nat.le_refl _) w
  simp only [execOp, rel_str.1 (hf _ _ hx), Instr.sliceAt, Instr.slice, Sem.run_bind, Sem.run_pure, Result.andThen_ok, tab_run_und h1, h2, str_size, Option.map_none, Option.isSome_none, Bool.false_eq_true, if_false, hb, str_extract]
theorem rv_extract {cs : List AVal} {i : Nat}  (hx : evalA env x = some (.tuple cs)) (hi : cs[i]? = some av)
    : RunV P C H env (.extract x i) (av) := by
  intro R ρ w hm hf dst t p af g
  obtain ⟨ws, e, hr⟩ := rel_one (hf _ _ hx) rfl
  simp only [List.cons.injEq, and_true] at e
  have key : ∀ {cs : List AVal} {vs : List Value} {i : Nat}, RelV R cs vs → cs[i]? = some av → ∃ v, vs[i]? = some v ∧ Rel R av v := by
    intro cs
    induction cs with
    | nil => intro vs i _ hi; simp at hi
    | cons c cs ih =>
      intro vs i hr hi
      obtain ⟨v, t, rfl, hv, hr⟩ := hr
      cases i with
      | zero => simp only [List.getElem?_cons_zero, Option.some.injEq] at hi; subst hi; exact ⟨v, rfl, hv⟩
      | succ i => exact ih (vs := t) (i := i) hr (by simpa using hi)
  obtain ⟨v, hv, hrv⟩ := key hr hi
  refine ⟨v, ?_, hrv⟩
  simp only [execOp, e, Instr.extract]
  have : ws[i]? = some v := by simpa using hv
  simp only [this]
  rfl
theorem rv_index_list {e : TypeId} {xe : TI} {sz m : Nat} {f : Nat → AVal} {k : IntKind} {i : Int} 
    (hx : evalA env x = some (.list sz m f)) (hy : evalA env y = some (.int k i)) (h1 : tab P T = some xT) (h2 : xT.desc = .slice e) (h3 : tab P e = some xe) (h4 : xe.size = sz)
    (hi0 : 0 ≤ i) (hi : i < m) (hp : (f i.toNat).plain = true)
    : RunV P C H env (.indexAddr T x y) (.rop (f i.toNat).cells 0) := by
  intro R ρ w hm hf dst t p af g
  obtain ⟨a, cap, e1, _, h5⟩ := rel_one (hf _ _ hx) rfl
  simp only [List.cons.injEq, and_true] at e1
  rcases h5 with h5 | ⟨bl, o, Cs, el, fz, rfl, hR, hall⟩
  · omega
  have hr := hall i.toNat (by omega)
  have hl := relC_cells hr hp
  have hlen := relL_length hl
  refine ⟨.pointer (some ⟨bl, o + i.toNat * sz, none⟩), ?_, relC_rop (Nat.zero_le _) ⟨Cs, el, fz, hR, ?_⟩⟩
  · simp only [execOp, e1, rel_int.1 (hf _ _ hy), Instr.indexAt, asIntOf, Sem.run_bind, Sem.run_pure, Result.andThen_ok, tab_run_und h1, h2]
    rw [if_pos (show 0 ≤ i ∧ i < (m : Int) from ⟨hi0, hi⟩)]
    simp only [Sem.run_bind, tab_run_size h3, h4, Result.andThen_ok, Sem.run_pure, Addr.add]
    by_cases h0 : i.toNat * sz = 0
    · simp [h0]
    · simp [h0]
  · rw [Nat.sub_zero, take_same hlen]; exact hl
theorem rv_load_rop {cs : List AVal} {off : Nat} 
    (hx : evalA env x = some (.rop cs off)) (h1 : tab P T = some xT) (h2 : descAgg xT.desc = false) (hc : cs[off]? = some av) (ha : av.isAgg = false)
    : RunV P C H env (.load T x) (av) := by
  intro R ρ w hm hf dst t p af g
  obtain ⟨bl, o, e1, ho, hs⟩ := rop_inv (hf _ _ hx)
  obtain ⟨v, hv, hr⟩ := hs.cell hm.sealed hc
  rw [Nat.sub_add_cancel ho] at hv
  refine ⟨v, ?_, relC_rel hr ha⟩
  simp only [execOp, e1, Instr.loadAt, Instr.sureAddr, Sem.run_bind, Sem.run_pure, Result.andThen_ok, load_scalar h1 h2 hv]
theorem rv_load_rop_agg {cs : List AVal} {off : Nat} 
    (hx : evalA env x = some (.rop cs off)) (h1 : tab P T = some xT) (h2 : descAgg xT.desc = true) (hc : off + xT.size ≤ cs.length)
    : RunV P C H env (.load T x) (.agg ((cs.drop off).take xT.size)) := by
  intro R ρ w hm hf dst t p af g
  obtain ⟨bl, o, e1, ho, Cs, el, fz, hR, hl⟩ := rop_inv (hf _ _ hx)
  have hlen := relL_length hl
  simp only [List.length_take, List.length_drop, Array.length_toList] at hlen
  refine ⟨.agg ((Cs.toList.drop o).take xT.size).toArray, ?_, ?_, rfl⟩
  · simp only [execOp, e1, Instr.loadAt, Instr.sureAddr, Sem.run_bind, Sem.run_pure, Result.andThen_ok]
    by_cases hz : xT.size = 0
    · simp only [loadVar, Sem.run_bind, tab_run_agg h1, h2, if_true, tab_run_size h1, loadCells, hz, loadCellsFrom, Result.andThen_ok]
      simp
    · rw [load_agg h1 h2 (hm.sealed _ _ hR) (by omega)]
      simp
  · have := relL_take xT.size (relL_drop off hl)
    simp only [Value.cells, RelC]
    rw [List.drop_take, List.drop_drop, Nat.sub_add_cancel ho, List.take_take] at this
    rw [Nat.min_eq_left (by omega)] at this
    simpa using this
theorem rv_fieldAddr_rop {cs : List AVal} {off k : Nat} {fs : Array Field} {f : Field} {xf : TI} 
    (hx : evalA env x = some (.rop cs off)) (h1 : tab P T = some xT) (h2 : xT.desc = .struct fs) (h3 : fs[k]? = some f) (h4 : tab P f.type = some xf) (h5 : Nat.ble 1 xf.size = true)
    : RunV P C H env (.fieldAddr T x k) (.rop cs (off + f.offset)) := by
  intro R ρ w hm hf dst t p af g
  have h5 := Nat.le_of_ble_eq_true h5
  obtain ⟨bl, o, e1, ho, hs⟩ := rop_inv (hf _ _ hx)
  refine ⟨.pointer (some ⟨bl, o + f.offset, none⟩), ?_, relC_rop (by omega) (by rw [Nat.add_sub_add_right]; exact hs)⟩
  simp only [execOp, e1, Instr.fieldAt, Sem.run_bind, tab_run_und h1, h2, Result.andThen_ok, h3, Instr.sureAddr, Sem.run_pure, fieldPlace, tab_run_size h4]
  rw [if_neg (by omega)]
  simp only [Addr.add]
  by_cases h0 : f.offset = 0
  · simp [h0]
  · simp [h0]
theorem rv_nilCheck_rop {cs : List AVal} {off : Nat}  (hx : evalA env x = some (.rop cs off))
    : RunV P C H env (.nilCheck x) (.rop cs off) := by
  intro R ρ w hm hf dst t p af g
  have hr := hf _ _ hx
  obtain ⟨bl, o, e1, ho, hs⟩ := rop_inv hr
  rw [e1] at hr
  exact ⟨_, by simp only [execOp, e1]; rfl, hr⟩
theorem rv_indexAddr_glob {gl len : Nat} {e : TypeId} {xe : TI} {cs : List AVal} {k : IntKind} {i : Int} (hG : GloAt C.G gl cs) 
    (hy : evalA env y = some (.int k i)) (h1 : tab P T = some xT) (h2 : xT.desc = .array len e) (h3 : tab P e = some xe)
    (hi0 : 0 ≤ i) (hi : i < len)
    : RunV P C H env (.indexAddr T (.global gl) y) (.rop cs (i.toNat * xe.size)) := by
  intro R ρ w hm hf dst t p af g
  have hr := rel_raw.1 (hf (.global gl) _ rfl)
  refine ⟨.pointer (some ⟨gl, i.toNat * xe.size, none⟩), ?_, relC_rop (Nat.le_refl _) (by rw [Nat.sub_self]; exact hG R hm.glo)⟩
  simp only [execOp, hr, rel_int.1 (hf _ _ hy), Instr.indexAt, asIntOf, Sem.run_bind, Sem.run_pure, Result.andThen_ok, tab_run_und h1, h2, Instr.sureAddr]
  rw [if_pos (show 0 ≤ i ∧ i < (len : Int) from ⟨hi0, hi⟩)]
  simp only [Sem.run_bind, tab_run_size h3, Result.andThen_ok, Sem.run_pure, Addr.add]
  by_cases h0 : i.toNat * xe.size = 0
  · simp [h0]
  · simp [h0]
theorem rv_load_glob {gl : Nat} {cs : List AVal} (hG : GloAt C.G gl cs) 
    (h1 : tab P T = some xT) (h2 : descAgg xT.desc = false) (hc : cs[0]? = some av) (ha : av.isAgg = false)
    : RunV P C H env (.load T (.global gl)) (av) := by
  intro R ρ w hm hf dst t p af g
  have hr := rel_raw.1 (hf (.global gl) _ rfl)
  obtain ⟨v, hv, hrv⟩ := (hG R hm.glo).cell hm.sealed hc
  refine ⟨v, ?_, relC_rel hrv ha⟩
  simp only [execOp, hr, Instr.loadAt, Instr.sureAddr, Sem.run_bind, Sem.run_pure, Result.andThen_ok, load_scalar h1 h2 hv]
theorem rv_load_own {i bl o : Nat} {cs : List AVal} 
    (hx : evalA env x = some (.raw (.pointer (some ⟨bl, o, none⟩)))) (hi : H[i]? = some (.cells bl eT cs)) (h1 : tab P T = some xT) (h2 : descAgg xT.desc = false) (hc : cs[o]? = some av) (ha : av.isAgg = false)
    : RunV P C H env (.load T x) (av) := by
  intro R ρ w hm hf dst t p af g
  obtain ⟨Cs, el, fz, hb, hl, _⟩ := own_cells hm hi
  obtain ⟨v, hv, hr⟩ := relL_get hl hc
  refine ⟨v, ?_, relC_rel hr ha⟩
  have hcell : w.cell? ⟨bl, o, none⟩ = some v := by simp only [World.cell?, hb]; simpa using hv
  simp only [execOp, rel_raw.1 (hf _ _ hx), Instr.loadAt, Instr.sureAddr, Sem.run_bind, Sem.run_pure, Result.andThen_ok, load_scalar h1 h2 hcell]
theorem rv_load_own_agg {i bl o : Nat} {cs : List AVal} 
    (hx : evalA env x = some (.raw (.pointer (some ⟨bl, o, none⟩)))) (hi : H[i]? = some (.cells bl eT cs)) (h1 : tab P T = some xT) (h2 : descAgg xT.desc = true) (hc : o + xT.size ≤ cs.length)
    : RunV P C H env (.load T x) (.agg ((cs.drop o).take xT.size)) := by
  intro R ρ w hm hf dst t p af g
  obtain ⟨Cs, el, fz, hb, hl, _⟩ := own_cells hm hi
  have hlen := relL_length hl
  simp only [Array.length_toList] at hlen
  refine ⟨.agg ((Cs.toList.drop o).take xT.size).toArray, ?_, ?_, rfl⟩
  · simp only [execOp, rel_raw.1 (hf _ _ hx), Instr.loadAt, Instr.sureAddr, Sem.run_bind, Sem.run_pure, Result.andThen_ok, load_agg h1 h2 hb (show o + xT.size ≤ Cs.size by omega)]
  · simpa [Value.cells, RelC] using relL_take xT.size (relL_drop o hl)
/-- A row's address. -/
def RowAt (v : Value) (b n : Nat) : Prop := ∃ cap, v = .slice (some ⟨b, 0, none⟩) n cap
theorem row_cells {R : Seal} {w : World} {i bl n0 sz : Nat} {v : Value} {cs : List AVal} (hm : MS C R H w) (hi : H[i]? = some (.row v eT sz n0 cs)) (hr : RowAt v bl n0) (h0 : 0 < n0) :
    cs.length = n0 * sz ∧ ∃ cap Cs e fz, v = .slice (some ⟨bl, 0, none⟩) n0 cap ∧ w.heap[bl]? = some (.cells Cs e fz) ∧ Cs.size = cap * sz ∧ n0 ≤ cap ∧ RelL R cs (Cs.toList.take (n0 * sz)) ∧ Loose fz Cs.size ∧ ∀ t, eT = some t → e = t := by
  obtain ⟨hlen, hx⟩ := hm.heap.holds _ (List.mem_of_getElem? hi)
  obtain ⟨cap0, rfl⟩ := hr
  refine ⟨hlen, ?_⟩
  rcases hx with ⟨h, hn⟩ | ⟨b', cap, Cs, e, fz, h, r⟩
  · omega
  · cases h
    exact ⟨_, Cs, e, fz, rfl, r⟩
theorem rv_load_row {i bl o n0 sz : Nat} {v : Value} {cs : List AVal} 
    (hx : evalA env x = some (.raw (.pointer (some ⟨bl, o, none⟩)))) (hi : H[i]? = some (.row v eT sz n0 cs)) (hr : RowAt v bl n0) (ho : o < n0 * sz) (h1 : tab P T = some xT) (h2 : descAgg xT.desc = false) (hc : cs[o]? = some av) (ha : av.isAgg = false)
    : RunV P C H env (.load T x) (av) := by
  intro R ρ w hm hf dst t p af g
  obtain ⟨hlen, cap, Cs, el, fz, _, hb, _, _, hl, _⟩ := row_cells hm hi hr (by rcases Nat.eq_zero_or_pos n0 with h | h; subst h; simp at ho; exact h)
  obtain ⟨u, hv, hr⟩ := relL_get hl hc
  refine ⟨u, ?_, relC_rel hr ha⟩
  rw [List.getElem?_take_of_lt ho] at hv
  have hcell : w.cell? ⟨bl, o, none⟩ = some u := by simp only [World.cell?, hb]; simpa using hv
  simp only [execOp, rel_raw.1 (hf _ _ hx), Instr.loadAt, Instr.sureAddr, Sem.run_bind, Sem.run_pure, Result.andThen_ok, load_scalar h1 h2 hcell]
theorem rv_load_row_agg {i bl o n0 sz : Nat} {v : Value} {cs c : List AVal} 
    (hx : evalA env x = some (.raw (.pointer (some ⟨bl, o, none⟩)))) (hi : H[i]? = some (.row v eT sz n0 cs)) (hr : RowAt v bl n0) (ho : o + xT.size ≤ n0 * sz) (h0 : 0 < n0) (h1 : tab P T = some xT) (h2 : descAgg xT.desc = true) (hc : (cs.drop o).take xT.size = c)
    : RunV P C H env (.load T x) (.agg c) := by
  subst hc
  intro R ρ w hm hf dst t p af g
  obtain ⟨hlen, cap, Cs, el, fz, _, hb, hsz, hnc, hl, _⟩ := row_cells hm hi hr h0
  have hmul : n0 * sz ≤ cap * sz := Nat.mul_le_mul_right _ hnc
  refine ⟨.agg ((Cs.toList.drop o).take xT.size).toArray, ?_, ?_, rfl⟩
  · simp only [execOp, rel_raw.1 (hf _ _ hx), Instr.loadAt, Instr.sureAddr, Sem.run_bind, Sem.run_pure, Result.andThen_ok, load_agg h1 h2 hb (show o + xT.size ≤ Cs.size by omega)]
  · have := relL_take xT.size (relL_drop o hl)
    rw [List.drop_take, List.take_take, Nat.min_eq_left (by omega)] at this
    simpa [Value.cells, RelC] using this
theorem rv_fieldAddr_raw {bl o k : Nat} {fs : Array Field} {f : Field} {xf : TI} 
    (hx : evalA env x = some (.raw (.pointer (some ⟨bl, o, none⟩)))) (h1 : tab P T = some xT) (h2 : xT.desc = .struct fs) (h3 : fs[k]? = some f) (h4 : tab P f.type = some xf) (h5 : Nat.ble 1 xf.size = true)
    : RunV P C H env (.fieldAddr T x k) (.raw (.pointer (some ⟨bl, o + f.offset, none⟩))) := by
  intro R ρ w hm hf dst t p af g
  refine ⟨_, ?_, rel_raw.2 rfl⟩
  have h5 := Nat.le_of_ble_eq_true h5
  simp only [execOp, rel_raw.1 (hf _ _ hx), Instr.fieldAt, Sem.run_bind, tab_run_und h1, h2, Result.andThen_ok, h3, Instr.sureAddr, Sem.run_pure, fieldPlace, tab_run_size h4]
  rw [if_neg (by omega)]
  simp only [Addr.add]
  by_cases h0 : f.offset = 0
  · simp [h0]
  · simp [h0]
theorem rv_indexAddr_raw {bl o len : Nat} {e : TypeId} {xe : TI} {k : IntKind} {i : Int} 
    (hx : evalA env x = some (.raw (.pointer (some ⟨bl, o, none⟩)))) (hy : evalA env y = some (.int k i)) (h1 : tab P T = some xT) (h2 : xT.desc = .array len e) (h3 : tab P e = some xe)
    (hi0 : 0 ≤ i) (hi : i < len)
    : RunV P C H env (.indexAddr T x y) (.raw (.pointer (some ⟨bl, o + i.toNat * xe.size, none⟩))) := by
  intro R ρ w hm hf dst t p af g
  refine ⟨_, ?_, rel_raw.2 rfl⟩
  simp only [execOp, rel_raw.1 (hf _ _ hx), rel_int.1 (hf _ _ hy), Instr.indexAt, asIntOf, Sem.run_bind, Sem.run_pure, Result.andThen_ok, tab_run_und h1, h2, Instr.sureAddr]
  rw [if_pos (show 0 ≤ i ∧ i < (len : Int) from ⟨hi0, hi⟩)]
  simp only [Sem.run_bind, tab_run_size h3, Result.andThen_ok, Sem.run_pure, Addr.add]
  by_cases h0 : i.toNat * xe.size = 0
  · simp [h0]
  · simp [h0]
theorem rv_nilCheck_raw {a : Addr}  (hx : evalA env x = some (.raw (.pointer (some a))))
    : RunV P C H env (.nilCheck x) (.raw (.pointer (some a))) := by
  intro R ρ w hm hf dst t p af g
  refine ⟨_, ?_, rel_raw.2 rfl⟩
  simp only [execOp, rel_raw.1 (hf _ _ hx)]
  rfl
theorem rv_field {cs : List AVal} {k : Nat} {fs : Array Field} {f : Field} {xf : TI} 
    (hx : evalA env x = some (.agg cs)) (h1 : tab P T = some xT) (h2 : xT.desc = .struct fs) (h3 : fs[k]? = some f) (h4 : tab P f.type = some xf) (h5 : descAgg xf.desc = false)
    (hc : cs[f.offset]? = some av) (ha : av.isAgg = false)
    : RunV P C H env (.field T x k) (av) := by
  intro R ρ w hm hf dst t p af g
  have hr := hf _ _ hx
  obtain ⟨vs, hvs⟩ : ∃ vs, ρ x = .agg vs := by
    have := hr.2
    cases hv : ρ x <;> rw [hv] at this <;> simp [AVal.isAgg, vAgg] at this
    exact ⟨_, rfl⟩
  rw [hvs] at hr
  obtain ⟨v, hv, hrv⟩ := relL_get (R := R) (cs := cs) (vs := vs.toList) hr.1 hc
  refine ⟨v, ?_, relC_rel hrv ha⟩
  have hv' : vs[f.offset]? = some v := by simpa using hv
  simp only [execOp, hvs, Instr.field, Sem.run_bind, tab_run_und h1, h2, Result.andThen_ok, h3, asAgg, Sem.run_pure, part, tab_run_agg h4, h5, Bool.false_eq_true, if_false, hv']
theorem rv_field_agg {cs : List AVal} {k : Nat} {fs : Array Field} {f : Field} {xf : TI} 
    (hx : evalA env x = some (.agg cs)) (h1 : tab P T = some xT) (h2 : xT.desc = .struct fs) (h3 : fs[k]? = some f) (h4 : tab P f.type = some xf) (h5 : descAgg xf.desc = true)
    : RunV P C H env (.field T x k) (.agg ((cs.drop f.offset).take xf.size)) := by
  intro R ρ w hm hf dst t p af g
  have hr := hf _ _ hx
  obtain ⟨vs, hvs⟩ : ∃ vs, ρ x = .agg vs := by
    have := hr.2
    cases hv : ρ x <;> rw [hv] at this <;> simp [AVal.isAgg, vAgg] at this
    exact ⟨_, rfl⟩
  rw [hvs] at hr
  refine ⟨.agg (vs.extract f.offset (f.offset + xf.size)), ?_, ?_, rfl⟩
  · simp only [execOp, hvs, Instr.field, Sem.run_bind, tab_run_und h1, h2, Result.andThen_ok, h3, asAgg, Sem.run_pure, part, tab_run_agg h4, h5, if_true, tab_run_size h4]
  · have := relL_take xf.size (relL_drop f.offset (vs := vs.toList) hr.1)
    simp only [Value.cells, RelC]
    rw [Array.toList_extract]
    simpa [List.extract_eq_take_drop] using this
theorem rv_build {l : List (Nat × Operand)} {ps : List (Nat × AVal)} {fs : List Field} {pl : List (Nat × Nat)} {z cs : List AVal} 
    (hl : partsA env l = some ps) (h1 : tab P T = some xT) (h2 : xT.desc = .struct fs.toArray) (h3 : placesA P fs = some pl) (h4 : zeroCellsA xT.zero = some z) (h5 : fillA pl z ps = some cs)
    : RunV P C H env (.build T l.toArray) (.agg cs) := by
  intro R ρ w hm hf dst t p af g
  obtain ⟨v, hv, hr⟩ := zeroCellsA_rel (R := R) h4
  obtain ⟨Cs, hC, hrC⟩ := fillA_run (place := (pl.toArray[·]?)) (fun i x hi => by simpa using hi) (partsA_rel hf hl) hr h5
  refine ⟨.agg Cs, ?_, hrC, rfl⟩
  have hmap : (l.toArray.map fun x => (x.1, ρ x.2)).toList = l.map fun x => (x.1, ρ x.2) := by simp
  simp only [execOp, Instr.build, Sem.run_bind, tab_run_zero h1 hv, Result.andThen_ok, tab_run_und h1, h2, Array.mapM_eq_mapM_toList, Sem.run_map, placesA_run h3]
  rw [show (Array.map (fun x : Nat × Operand => match x with | (i, x) => (i, ρ x)) l.toArray).toList = l.map fun x => (x.1, ρ x.2) from hmap, hC]
  rfl
/-- The places of an array's elements. -/
def arrPl : Nat → Nat → Nat → List (Nat × Nat)
  | 0, _, _ => []
  | m + 1, i, sz => (i * sz, sz) :: arrPl m (i + 1) sz
theorem arrPl_at : ∀ {m i sz k : Nat} {x : Nat × Nat}, (arrPl m i sz)[k]? = some x → x = ((i + k) * sz, sz)
  | 0, _, _, _, _, h => by simp [arrPl] at h
  | m + 1, i, sz, 0, x, h => by simpa [arrPl] using h.symm
  | m + 1, i, sz, k + 1, x, h => by
    have := arrPl_at (m := m) (i := i + 1) (sz := sz) (k := k) (by simpa [arrPl] using h)
    rw [this, show i + 1 + k = i + (k + 1) by omega]
theorem rv_build_arr {l : List (Nat × Operand)} {ps : List (Nat × AVal)} {m e : Nat} {xe : TI} {z cs : List AVal} 
    (hl : partsA env l = some ps) (h1 : tab P T = some xT) (h2 : xT.desc = .array m e) (h3 : tab P e = some xe) (h4 : zeroCellsA xT.zero = some z) (h5 : fillA (arrPl m 0 xe.size) z ps = some cs)
    : RunV P C H env (.build T l.toArray) (.agg cs) := by
  intro R ρ w hm hf dst t p af g
  obtain ⟨v, hv, hr⟩ := zeroCellsA_rel (R := R) h4
  obtain ⟨Cs, hC, hrC⟩ := fillA_run (place := fun i => some (i * xe.size, xe.size)) (fun i x hi => by rw [arrPl_at hi, Nat.zero_add]) (partsA_rel hf hl) hr h5
  refine ⟨.agg Cs, ?_, hrC, rfl⟩
  have hmap : (l.toArray.map fun x => (x.1, ρ x.2)).toList = l.map fun x => (x.1, ρ x.2) := by simp
  simp only [execOp, Instr.build, Sem.run_bind, tab_run_zero h1 hv, Result.andThen_ok, tab_run_und h1, h2, tab_run_size h3]
  rw [show (Array.map (fun x : Nat × Operand => match x with | (i, x) => (i, ρ x)) l.toArray).toList = l.map fun x => (x.1, ρ x.2) from hmap, hC]
  rfl
theorem rv_str_list {m : Nat} (s : List UInt8) {f : Nat → AVal} {S e : TypeId} {xS xe : TI} 
    (hx : evalA env x = some (.list 1 m f)) (hl : s.length = m) (hc : ∀ i, i < s.length → f i = byteA (s.getD i 0))
    (h1 : tab P S = some xS) (h2 : xS.desc = .slice e) (h5 : tab P e = some xe) (h6 : xe.desc = .int .u8) (h3 : tab P T = some xT) (h4 : xT.desc = .string)
    : RunV P C H env (.convert S T x) (.str s) := by
  subst hl
  intro R ρ w hm hf dst t p af g
  refine ⟨_, ?_, rel_str.2 rfl⟩
  obtain ⟨a, cap, e1, _, h7⟩ := rel_one (hf _ _ hx) rfl
  simp only [List.cons.injEq, and_true] at e1
  rcases h7 with h7 | ⟨bl, o, Cs, el, fz, rfl, hR, hall⟩
  · have : s = [] := List.eq_nil_of_length_eq_zero h7
    subst this
    simp only [execOp, e1, Sem.run_bind, List.length_nil]
    rw [run_convert_bytes_string w S T e a 0 cap (by rw [tab_und h1, h2]) (by rw [tab_und h5, h6]) (by rw [tab_und h3, h4])]
    cases a with
    | none => rfl
    | some a => simp [Conv.bytesToString, loadCells, loadCellsFrom]; rfl
  · have hcell : ∀ j (hj : j < s.length), w.cell? ((⟨bl, o, none⟩ : Addr).add j) = some (.int .u8 (s[j].toNat : Int)) := by
      intro j hj
      have hr := hall j hj
      rw [hc j hj] at hr
      simp only [byteA, RelC, Nat.mul_one] at hr
      rw [add_off]
      simp only [World.cell?, hm.sealed _ _ hR]
      have : (List.take 1 (List.drop (o + j) Cs.toList))[0]? = some (Value.int .u8 ((s.getD j 0).toNat : Int)) := by rw [hr]; rfl
      rw [List.getElem?_take_of_lt (by omega), List.getElem?_drop] at this
      simpa [List.getElem?_eq_getElem hj] using this
    simp only [execOp, e1, Sem.run_bind, bytes_back h1 h2 h5 h6 h3 h4 hcell, Result.andThen_ok, Sem.run_pure]
theorem rv_makeIface {v : AVal}  (hx : evalA env x = some v) (h1 : tab P T = some xT) (h2 : descIface xT.desc = false)
    : RunV P C H env (.makeInterface T x) (.iface T v) := by
  intro R ρ w hm hf dst t p af g
  refine ⟨.iface T (ρ x), ?_, rel_iface (hf _ _ hx)⟩
  simp only [execOp, Instr.makeInterface, Sem.run_bind, tab_run_und h1, Result.andThen_ok]
  cases hd : xT.desc <;> first | rfl | (rw [hd] at h2; simp [descIface] at h2)
theorem rv_assert_hit {v : AVal} {S : TypeId} {ty : TypeId}  (hx : evalA env x = some (.iface ty v)) (h1 : tab P T = some xT) (h2 : descIface xT.desc = false) (he : ty = T)
    : RunV P C H env (.typeAssert x S T true) (.tuple [v, .bool true]) := by
  subst he
  intro R ρ w hm hf dst t p af g
  obtain ⟨u, e, h3, h4⟩ := rel_one (hf _ _ hx) rfl
  simp only [List.cons.injEq, and_true] at e
  refine ⟨.tuple #[u, .bool true], ?_, ⟨⟨_, rfl, _, _, rfl, ⟨h3, h4⟩, _, _, rfl, ⟨rfl, rfl⟩, rfl⟩, rfl⟩⟩
  simp only [execOp, e, Instr.typeAssert, Sem.run_bind, tab_run_und h1, Result.andThen_ok]
  cases hd : xT.desc <;> first | (simp; done) | (rw [hd] at h2; simp [descIface] at h2)
theorem rv_assert_miss {v z : AVal} {S : TypeId} {ty : TypeId}  (hx : evalA env x = some (.iface ty v)) (h1 : tab P T = some xT) (h2 : descIface xT.desc = false) (he : Nat.beq ty T = false)
    (hz : zeroA xT.zero = some z)
    : RunV P C H env (.typeAssert x S T true) (.tuple [z, .bool false]) := by
  have he : ty ≠ T := by rintro rfl; rw [Nat.beq_refl] at he; cases he
  intro R ρ w hm hf dst t p af g
  obtain ⟨u, e, h3, h4⟩ := rel_one (hf _ _ hx) rfl
  simp only [List.cons.injEq, and_true] at e
  obtain ⟨zv, hzv, hzr⟩ := zeroA_rel (R := R) hz
  refine ⟨.tuple #[zv, .bool false], ?_, ⟨⟨_, rfl, _, _, rfl, hzr, _, _, rfl, ⟨rfl, rfl⟩, rfl⟩, rfl⟩⟩
  simp only [execOp, e, Instr.typeAssert, Sem.run_bind, tab_run_und h1, Result.andThen_ok]
  cases hd : xT.desc <;> first | (simp [he, tab_run_zero h1 hzv]; done) | (rw [hd] at h2; simp [descIface] at h2)
theorem rv_assert_nil {z : AVal} {S : TypeId}  (hx : evalA env x = some (.raw .nilIface)) (h1 : tab P T = some xT)
    (hz : zeroA xT.zero = some z)
    : RunV P C H env (.typeAssert x S T true) (.tuple [z, .bool false]) := by
  intro R ρ w hm hf dst t p af g
  obtain ⟨zv, hzv, hzr⟩ := zeroA_rel (R := R) hz
  refine ⟨.tuple #[zv, .bool false], ?_, ⟨⟨_, rfl, _, _, rfl, hzr, _, _, rfl, ⟨rfl, rfl⟩, rfl⟩, rfl⟩⟩
  simp only [execOp, rel_raw.1 (hf _ _ hx), Instr.typeAssert, Sem.run_bind, tab_run_und h1, Result.andThen_ok]
  cases xT.desc <;> simp [tab_run_zero h1 hzv]
theorem rv_eq_nil {a : AVal} {c : Bool} {z : Value}  (hx : evalA env x = some a) (h1 : tab P T = some xT) (hn : isNilA xT.desc a = some c) (hz : nilOf xT.desc = some z) {ty : TypeId}
    : RunV P C H env (.binOp .eql T x (.const z) ty) (.bool c) := by
  intro R ρ w hm hf dst t p af g
  refine ⟨_, ?_, rel_bool.2 rfl⟩
  have hc : ρ (.const z) = z := by
    have := hf (.const z) _ (evalA_const env z)
    have hz' : ∀ z' : Value, nilOf xT.desc = some z' → ofV z' = .raw z' := by
      intro z' hz'
      cases hd : xT.desc <;> rw [hd] at hz' <;> simp only [nilOf, Option.some.injEq] at hz' <;> first | (cases hz'; done) | (subst hz'; rfl)
    rw [hz' z hz] at this
    exact rel_raw.1 this
  obtain ⟨h3, h4, h5⟩ := equal_nil (x := x) (w := w) (hf _ _ hx) h1 hn hz
  simp only [execOp, hc, Sem.run_bind, h4, Result.andThen_ok, h5 .eql (.inl rfl), if_true, h3, Sem.run_pure]
theorem rv_ne_nil {a : AVal} {c : Bool} {z : Value}  (hx : evalA env x = some a) (h1 : tab P T = some xT) (hn : isNilA xT.desc a = some c) (hz : nilOf xT.desc = some z) {ty : TypeId}
    : RunV P C H env (.binOp .neq T x (.const z) ty) (.bool (!c)) := by
  intro R ρ w hm hf dst t p af g
  refine ⟨_, ?_, rel_bool.2 rfl⟩
  have hc : ρ (.const z) = z := by
    have := hf (.const z) _ (evalA_const env z)
    have hz' : ∀ z' : Value, nilOf xT.desc = some z' → ofV z' = .raw z' := by
      intro z' hz'
      cases hd : xT.desc <;> rw [hd] at hz' <;> simp only [nilOf, Option.some.injEq] at hz' <;> first | (cases hz'; done) | (subst hz'; rfl)
    rw [hz' z hz] at this
    exact rel_raw.1 this
  obtain ⟨h3, h4, h5⟩ := equal_nil (x := x) (w := w) (hf _ _ hx) h1 hn hz
  have h6 := h5 .neq (.inr rfl)
  rw [if_neg (by decide)] at h6
  simp only [execOp, hc, Sem.run_bind, h4, Result.andThen_ok, h6, h3, Sem.run_pure]
theorem rv_len_list {sz m : Nat} {f : Nat → AVal} {e : TypeId}  (hx : evalA env x = some (.list sz m f)) (h1 : tab P T = some xT) (h2 : xT.desc = .slice e)
    : RunV P C H env (.call { callee := .builtin .len, args := [x].toArray, argTypes := [T].toArray }) (.int .i64 (m : Int)) := by
  intro R ρ w hm hf dst t p af g
  refine ⟨_, ?_, rel_int.2 rfl⟩
  obtain ⟨a, cap, e1, _⟩ := rel_one (hf _ _ hx) rfl
  simp only [List.cons.injEq, and_true] at e1
  simp only [execOp, resolve, Sem.run_bind, Sem.run_pure, Result.andThen_ok, invoke, builtin, Builtin.len_, List.map_toArray, List.map_cons, List.map_nil, e1]
  simp only [List.getElem?_toArray, List.getElem?_cons_zero, Sem.run_bind, tab_run_und h1, h2, Result.andThen_ok, Sem.run_pure, goInt]
theorem rv_len_raw {a : Option Addr} {m cap : Nat} {e : TypeId}  (hx : evalA env x = some (.raw (.slice a m cap))) (h1 : tab P T = some xT) (h2 : xT.desc = .slice e)
    : RunV P C H env (.call { callee := .builtin .len, args := [x].toArray, argTypes := [T].toArray }) (.int .i64 (m : Int)) := by
  intro R ρ w hm hf dst t p af g
  refine ⟨_, ?_, rel_int.2 rfl⟩
  simp only [execOp, resolve, Sem.run_bind, Sem.run_pure, Result.andThen_ok, invoke, builtin, Builtin.len_, List.map_toArray, List.map_cons, List.map_nil, rel_raw.1 (hf _ _ hx)]
  simp only [List.getElem?_toArray, List.getElem?_cons_zero, Sem.run_bind, tab_run_und h1, h2, Result.andThen_ok, Sem.run_pure, goInt]
theorem rv_len_row {i sz m : Nat} {v : Value} {cs : List AVal} {e : TypeId}  (hx : evalA env x = some (.raw v)) (hi : H[i]? = some (.row v eT sz m cs)) (h1 : tab P T = some xT) (h2 : xT.desc = .slice e)
    : RunV P C H env (.call { callee := .builtin .len, args := [x].toArray, argTypes := [T].toArray }) (.int .i64 (m : Int)) := by
  intro R ρ w hm hf dst t p af g
  refine ⟨_, ?_, rel_int.2 rfl⟩
  have hv := rel_raw.1 (hf _ _ hx)
  obtain ⟨_, hh⟩ := hm.heap.holds _ (List.mem_of_getElem? hi)
  rcases hh with ⟨rfl, rfl⟩ | ⟨bl, cap, Cs, el, fz, rfl, _⟩
  all_goals
    simp only [execOp, resolve, Sem.run_bind, Sem.run_pure, Result.andThen_ok, invoke, builtin, Builtin.len_, List.map_toArray, List.map_cons, List.map_nil, hv]
    simp only [List.getElem?_toArray, List.getElem?_cons_zero, Sem.run_bind, tab_run_und h1, h2, Result.andThen_ok, Sem.run_pure, goInt]
theorem rv_min {k : IntKind} {m q : Int} {ts : Array TypeId}  (hx : evalA env x = some (.int k m)) (hy : evalA env y = some (.int k q))
    : RunV P C H env (.call { callee := .builtin .min, args := [x, y].toArray, argTypes := ts }) (.int k (min m q)) := by
  intro R ρ w hm hf dst t p af g
  refine ⟨_, ?_, rel_int.2 rfl⟩
  have e : min m q = if q < m then q else m := by split <;> omega
  simp only [execOp, resolve, Sem.run_bind, Sem.run_pure, Result.andThen_ok, invoke, builtin, List.map_toArray, List.map_cons, List.map_nil, rel_int.1 (hf _ _ hx), rel_int.1 (hf _ _ hy), e]
  rfl
theorem rv_max {k : IntKind} {m q : Int} {ts : Array TypeId}  (hx : evalA env x = some (.int k m)) (hy : evalA env y = some (.int k q))
    : RunV P C H env (.call { callee := .builtin .max, args := [x, y].toArray, argTypes := ts }) (.int k (max m q)) := by
  intro R ρ w hm hf dst t p af g
  refine ⟨_, ?_, rel_int.2 rfl⟩
  have e : max m q = if m < q then q else m := by split <;> omega
  simp only [execOp, resolve, Sem.run_bind, Sem.run_pure, Result.andThen_ok, invoke, builtin, List.map_toArray, List.map_cons, List.map_nil, rel_int.1 (hf _ _ hx), rel_int.1 (hf _ _ hy), e]
  rfl
theorem rv_makeFunc {fn : Fn} {l1 l2 : List Operand} {a1 a2 : List AVal}  (h1 : argsA env l1 = some a1) (h2 : argsA env l2 = some a2)
    : RunV P C H env (.makeFunc fn l1.toArray l2.toArray) (.func fn a1 a2) := by
  intro R ρ w hm hf dst t p af g
  refine ⟨_, rfl, ?_⟩
  exact ⟨⟨_, _, rfl, by simpa using argsA_rel hf h1, by simpa using argsA_rel hf h2⟩, rfl⟩
theorem rv_slice_list {lo hi : Option Operand} {sz m : Nat} {f : Nat → AVal} {i j : Int} {e : TypeId} {xe : TI}  (hx : evalA env x = some (.list sz m f))
    (h1 : tab P T = some xT) (h2 : xT.desc = .slice e) (h3 : tab P e = some xe) (h4 : xe.size = sz) (hlo : boundA env 0 lo = some i) (hhi : boundA env (m : Int) hi = some j) (h0 : 0 ≤ i) (hij : i ≤ j) (hj : j ≤ m)
    : RunV P C H env (.slice T x lo hi none) (.list sz (j.toNat - i.toNat) (fun k => f (i.toNat + k))) := by
  intro R ρ w hm hf dst t p af g
  obtain ⟨a, cap, e1, hle, h5⟩ := rel_one (hf _ _ hx) rfl
  simp only [List.cons.injEq, and_true] at e1
  have hb := bounds_run (P := P) (isS := true) (len := m) (cap := cap) hf hlo hhi h0 hij (by omega) hle w
  refine ⟨.slice (if cap = i.toNat then a else a.map (·.add (i.toNat * sz))) (j.toNat - i.toNat) (cap - i.toNat), ?_, ⟨_, _, rfl, by omega, ?_⟩, rfl⟩
  · simp only [execOp, e1, Instr.sliceAt, Instr.slice, Sem.run_bind, Sem.run_pure, Result.andThen_ok, tab_run_und h1, h2, Option.map_none, hb, tab_run_size h3, h4]
  · by_cases hz : j.toNat - i.toNat = 0
    · exact .inl hz
    · rcases h5 with h5 | ⟨bl, o, Cs, el, fz, rfl, hR, hall⟩
      · omega
      refine .inr ⟨bl, o + i.toNat * sz, Cs, el, fz, ?_, hR, fun k hk => ?_⟩
      · rw [if_neg (by omega)]
        simp only [Option.map_some, add_off]
      · have := hall (i.toNat + k) (by omega)
        rw [Nat.add_mul, ← Nat.add_assoc] at this
        exact this
theorem rv_shl_wrap {k j : IntKind} {m c : Int} {s : Nat} {x : Operand} {tx ty : TypeId} 
    (hx : evalA env x = some (.int k m)) (hs : Nat.ble s k.bits = true) (hc : nth pwL s = some c)
    : RunV P C H env (.binOp .shl tx x (.const (.int j (Int.ofNat s))) ty) (.int k (k.wrap (m * c))) := by
  rw [← pw_ok hc] at *
  intro R ρ w hm hf dst t p af g
  refine ⟨_, ?_, rel_int.2 rfl⟩
  have hs := Nat.le_of_ble_eq_true hs
  simp only [execOp, rel_int.1 (hf _ _ hx), rel_int.1 (hf (.const (.int j (Int.ofNat s))) _ rfl), Go.binOp, eqGuard, Op.shift]
  rw [if_neg (show ¬ (Int.ofNat s < 0) by simp only [Int.ofNat_eq_natCast]; omega)]
  simp only [Int.ofNat_eq_natCast, Int.toNat_natCast, Nat.min_eq_left hs]
  have : (m * 2 ^ s : Int) = m * ((2 ^ s : Nat) : Int) := by simp
  rw [this]
  rfl
end
end Go.Proofs.YtmgkpbgfkjedeaaGreatDoor
namespace Go.Proofs.YtmgkpbgfkjedeaaGreatDoor
open Go
set_option linter.unusedSimpArgs false
/-- Values within which no address of sealed memory stands: what stands for them is fixed. -/
def AVal.det : AVal → Bool
  | .bool _ => true
  | .int _ _ => true
  | .str _ => true
  | .raw _ => true
  | .own _ v => !vAgg v
  | .iface _ (.int _ _) => true
  | _ => false
def AVal.conc : AVal → Value
  | .bool b => .bool b
  | .int k m => .int k m
  | .str s => .string ⟨s.toArray⟩
  | .raw x => x
  | .own _ x => x
  | .iface t (.int k m) => .iface t (.int k m)
  | _ => undef
theorem det_eq {R : Seal} {av : AVal} {v : Value} (h : Rel R av v) (hd : av.det = true) : v = av.conc := by
  unfold AVal.det at hd
  split at hd
  · exact rel_bool.1 h
  · exact rel_int.1 h
  · exact rel_str.1 h
  · exact rel_raw.1 h
  · exact (rel_own.1 h).1
  · obtain ⟨w, e, h1, h2⟩ := rel_one h rfl
    have e : v = _ := (List.cons.inj e).1
    rw [e, rel_int.1 ⟨h1, h2⟩]
    rfl
  · cases hd
theorem det_rel {R : Seal} {av : AVal} (hd : av.det = true) : Rel R av av.conc := by
  unfold AVal.det at hd
  split at hd
  · exact rel_bool.2 rfl
  · exact rel_int.2 rfl
  · exact rel_str.2 rfl
  · exact rel_raw.2 rfl
  · exact rel_own.2 ⟨rfl, by simpa using hd⟩
  · exact ⟨⟨_, rfl, rfl, rfl⟩, rfl⟩
  · cases hd
/-- Worlds that fit. -/
def CW (C : Ctx) (R : Seal) (H : Heap) : World → Prop := fun w => ∃ R', R.le R' ∧ MS C R' H w
def AQ (P : Program) (C : Ctx) (n : Nat) (ops : Array Oper) (l : List Oper) (env : Env) (H : Heap) (K : Env → Prop) : Prop :=
  ∀ R a, FSa C.D n R env a → wpQuiet P ops (CW C R H) (fun a' => ∃ env', K env' ∧ FSa C.D n R env' a') l a
theorem MS.drawn {C : Ctx} {R : Seal} {H : Heap} {w : World} (h : MS C R H w) (k : Nat) : MS C R H { w with drawn := k } := by
  refine ⟨fun b o hb => h.sealed b o hb, h.ge, h.fresh, ⟨fun x hx => ?_, h.heap.nodup, h.heap.apart⟩, h.own, ⟨h.ext.os, h.ext.tape, h.ext.output, h.ext.size, h.ext.block⟩⟩
  exact HEnt.holds_mono (h.heap.holds x hx) (Seal.le_refl R) (fun _ _ => rfl)
section
variable {P : Program} {C : Ctx} {n : Nat} {env : Env} {H : Heap} {Q : AExit → Env → Heap → Prop} {K : Env → Prop} {ops : Array Oper} {rest : List Oper}
theorem aw_region_draw {id : Nat} {l : List Oper} (hm : P.follows .mixedOrders = true) (hB : Region.lexB .any l.toArray = true) (h : AQ P C n l.toArray l env H (fun e => Q .normal e H)) :
    AWp P C n (.region id l.toArray true) env H Q := by
  intro R a w hw hf
  refine wp_region_quiet (C := CW C R H) hm hB ⟨R, Seal.le_refl R, hw.drawn _⟩ ?_
  have h1 := h R a hf
  have h2 : ∀ (l' : List Oper) (a : Act), wpQuiet P l.toArray (CW C R H) (fun a' => ∃ env', Q .normal env' H ∧ FSa C.D n R env' a') l' a →
      wpQuiet P l.toArray (CW C R H) (fun a' => ∀ w', CW C R H w' → Post C n Q .normal a' w') l' a := by
    intro l'
    induction l' with
    | nil => rintro a ⟨env', hq, hfs⟩ w' ⟨R', hle, hms⟩; exact ⟨.normal, env', H, R', hq, rfl, hms, hfs.mono hle⟩
    | cons o r ih =>
      intro a h
      have h' := h
      unfold wpQuiet at h'
      refine wpQuiet_step fun X hX => ?_
      split
      · rename_i hw; rw [if_pos hw] at h'; exact Oper.quiet_mono (fun a' q => hX _ (ih a' q)) h'
      · rename_i hw; rw [if_neg hw] at h'; exact hX _ (ih _ h')
  exact h2 _ _ (by simpa using h1)
theorem aq_nil (h : K env) : AQ P C n ops [] env H K := fun _ _ hf => ⟨env, h, hf⟩
theorem aq_skip {o : Oper} {d : Nat} (hg : guardA ops env o.guard = some (true, false)) (hd : o.dst = some d) (hdn : Nat.ble (d + 1) n = true)
    (h : AQ P C n ops rest ((d, .raw undef) :: env) H K) : AQ P C n ops (o :: rest) env H K := by
  intro R a hf
  refine wpQuiet_step fun X hX => ?_
  rw [wanted_of hf hg, if_neg (by simp), hd]
  exact hX _ (h R _ (hf.put hdn (rel_raw.2 rfl)))
theorem aq_skip' {o : Oper} {d : Nat} (hg : guardA ops env o.guard = some (false, true)) (hd : o.dst = some d) (hdn : Nat.ble (d + 1) n = true)
    (h : AQ P C n ops rest ((d, .raw undef) :: env) H K) : AQ P C n ops (o :: rest) env H K := by
  intro R a hf
  refine wpQuiet_step fun X hX => ?_
  rw [wanted_of hf hg, if_neg (by simp), hd]
  exact hX _ (h R _ (hf.put hdn (rel_raw.2 rfl)))
theorem aq_callv {fv : Operand} {args : List Operand} {ts : Array TypeId} {f : FuncId} {avs : List AVal} {v : AVal} {d : Nat} {t : TypeId} {p : String} {af : Array Edge} {g : Option (Nat × Bool)} {b : Bool}
    (hg : guardA ops env g = some (b, b)) (hdn : Nat.ble (d + 1) n = true) (hfv : evalA env fv = some (.func (.func f) [] [])) (ha : argsA env args = some avs)
    (hs : FnIs P C.G f avs v) (hc : ∀ args w, (callFunc f args).run P w = .ok (.enter f args) w) (hdet : v.det = true) (h : AQ P C n ops rest ((d, v) :: env) H K) :
    AQ P C n ops ({ dst := some d, op := .call { callee := .value fv, args := args.toArray, argTypes := ts }, type := t, pos := p, after := af, guard := g } :: rest) env H K := by
  intro R a hf
  refine wpQuiet_step fun X hX => ?_
  rw [wanted_of hf hg, if_pos (by simp)]
  refine ⟨v.conc, ?_, hX _ (h R _ (hf.put hdn (det_rel hdet)))⟩
  rintro w ⟨R', hle, hms⟩
  have hf' := hf.mono hle
  obtain ⟨x1, x2, e, r1, r2⟩ := rel_one (hf'.eval hfv) rfl
  simp only [List.cons.injEq, and_true] at e
  have hrel : RelV R' avs (x1 ++ args.toArray.map a.eval ++ x2).toList := by
    have := relV_append r1 (relV_append (argsA_rel (fun x av h => hf'.eval h) ha) r2)
    simpa using this
  have hrun : (execOp a.eval { dst := some d, op := .call { callee := .value fv, args := args.toArray, argTypes := ts }, type := t, pos := p, after := af, guard := g : Oper }).run P w =
      (callFunc f (x1 ++ args.toArray.map a.eval ++ x2)).run P w := by
    simp only [execOp, resolve, e, Deferred.ofValue, Sem.run_bind, Sem.run_pure, Result.andThen_ok, invoke]
  show Oper.quietUpon P _ w _ ((execOp a.eval _).run P w)
  rw [hrun]
  have hent := hms.enter (H1 := []) (H2 := H) (G := C.G) (hG := hms.glo)
  rcases hs R' w _ hms.glo hent hrel with ⟨h1, h2⟩ | ⟨v', w', h1, _⟩
  · rw [h1]
    refine ⟨rfl, h2.mono ?_⟩
    rintro en w' ⟨res, H', R'', ⟨rfl, rfl⟩, ⟨y, rfl, hy⟩, hm'⟩
    refine ⟨by rw [det_eq hy hdet], R'', fun b o hb => hm'.ge b o (hle b o hb), ?_⟩
    exact MS.call (H1 := []) (H2 := H) hms hm'
  · rw [hc] at h1
    cases h1
end
end Go.Proofs.YtmgkpbgfkjedeaaGreatDoor
