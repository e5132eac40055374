/- The rules of operations on memory: what is only read, variables of the call's own, structs. -/
import Derived.Test.YtlmihggafbmkaaaGreatDoorStr
namespace Go.Proofs.YtlmihggafbmkaaaGreatDoor
open Go
set_option linter.unusedSimpArgs false
set_option linter.unusedSectionVars false

/-- Not a concrete aggregate behind 'raw'. -/
def AVal.plain : AVal → Bool
  | .raw (.agg _) => false
  | _ => true
theorem relC_cells {R : Seal} {x : AVal} {vs : List Value} (h : RelC R x vs) (hp : x.plain = true) : RelL R x.cells vs := by
  have one : ∀ v, vs = [v] → RelC R x [v] → RelL R [x] vs := by rintro v rfl hv; exact ⟨v, [], rfl, hv, rfl⟩
  cases x with
  | agg cs => exact h
  | bool c => simp only [RelC] at h; subst h; exact one _ rfl rfl
  | int k n => simp only [RelC] at h; subst h; exact one _ rfl rfl
  | str s => simp only [RelC] at h; subst h; exact one _ rfl rfl
  | raw y => 
    have : vs = [y] := by
      simp only [RelC] at h
      cases y <;> first | exact h | (simp [AVal.plain] at hp)
    subst this; exact one _ rfl h
  | list sz n f => obtain ⟨a, cap, e, h'⟩ := h; subst e; exact one _ rfl ⟨a, cap, rfl, h'⟩
  | rop cs off => obtain ⟨b, o, C, e, fz, h', r⟩ := h; subst h'; exact one _ rfl ⟨b, o, C, e, fz, rfl, r⟩
  | tuple cs => obtain ⟨ws, e, h'⟩ := h; subst e; exact one _ rfl ⟨ws, rfl, h'⟩
  | iface t v => obtain ⟨w, e, h'⟩ := h; subst e; exact one _ rfl ⟨w, rfl, h'⟩
  | func fn l1 l2 => obtain ⟨a, b, e, h'⟩ := h; subst e; exact one _ rfl ⟨a, b, rfl, h'⟩
  | own i y => obtain ⟨e, h'⟩ := h; subst e; exact one _ rfl ⟨rfl, h'⟩
theorem rel_cells {R : Seal} {x : AVal} {v : Value} (h : Rel R x v) (hp : x.plain = true) : RelL R x.cells v.cells.toList := relC_cells h.1 hp
theorem take_same {α : Type} {L : List α} {k s : Nat} (h : (L.take s).length = k) : L.take k = L.take s := by
  simp only [List.length_take] at h
  by_cases hs : s ≤ L.length
  · rw [Nat.min_eq_left hs] at h; rw [h]
  · rw [Nat.min_eq_right (by omega)] at h
    rw [List.take_of_length_le (by omega), List.take_of_length_le (by omega)]

/-- A run of sealed cells, at a place in a block. -/
def SealedAt (R : Seal) (b o : Nat) (cs : List AVal) : Prop := ∃ C e fz, R b = some (.cells C e fz) ∧ RelL R cs ((C.toList.drop o).take cs.length)
theorem relC_rop {R : Seal} {cs : List AVal} {off b o : Nat} (ho : off ≤ o) (h : SealedAt R b (o - off) cs) : Rel R (.rop cs off) (.pointer (some ⟨b, o, none⟩)) := by
  obtain ⟨C, e, fz, hR, hl⟩ := h
  exact ⟨⟨b, o, C, e, fz, rfl, ho, hR, hl⟩, rfl⟩
theorem rop_inv {R : Seal} {cs : List AVal} {off : Nat} {v : Value} (h : Rel R (.rop cs off) v) : ∃ b o, v = .pointer (some ⟨b, o, none⟩) ∧ off ≤ o ∧ SealedAt R b (o - off) cs := by
  obtain ⟨b, o, C, e, fz, hv, ho, hR, hl⟩ := rel_one h rfl
  simp only [List.cons.injEq, and_true] at hv
  exact ⟨b, o, hv, ho, C, e, fz, hR, hl⟩
theorem SealedAt.cell {R : Seal} {w : World} (hs : Sealed R w) {b o i : Nat} {cs : List AVal} {av : AVal} (h : SealedAt R b o cs) (hi : cs[i]? = some av) :
    ∃ v, w.cell? ⟨b, o + i, none⟩ = some v ∧ RelC R av [v] := by
  obtain ⟨C, e, fz, hR, hl⟩ := h
  obtain ⟨v, hv, hr⟩ := relL_get hl hi
  refine ⟨v, ?_, hr⟩
  have hlt : i < cs.length := (List.getElem?_eq_some_iff.1 hi).1
  rw [List.getElem?_take_of_lt hlt, List.getElem?_drop] at hv
  simp only [World.cell?, hs b _ hR]
  simpa using hv
/-- Loading from a block whose cells are known. -/
theorem load_scalar {P : Program} [Tab P] {w : World} {b o : Nat} {v : Value} {T : TypeId} {x : TI} (ht : tab P T = some x) (ha : descAgg x.desc = false) (hc : w.cell? ⟨b, o, none⟩ = some v) :
    (loadVar T ⟨b, o, none⟩).run P w = .ok v w := by
  simp only [loadVar, Sem.run_bind, tab_run_agg ht, Result.andThen_ok, ha, Bool.false_eq_true, if_false, run_load, hc]
theorem load_agg {P : Program} [Tab P] {w : World} {b o : Nat} {C : Array Value} {e : TypeId} {fz : Nat × Nat} {T : TypeId} {x : TI} (ht : tab P T = some x) (ha : descAgg x.desc = true)
    (hb : w.heap[b]? = some (.cells C e fz)) (hl : o + x.size ≤ C.size) :
    (loadVar T ⟨b, o, none⟩).run P w = .ok (.agg ((C.toList.drop o).take x.size).toArray) w := by
  simp only [loadVar, Sem.run_bind, tab_run_agg ht, Result.andThen_ok, ha, if_true, tab_run_size ht, loadCells]
  rw [loadCellsFrom_run hb o x.size 0 _ (by omega)]
  simp

section
variable {P : Program} [Tab P] {C : Ctx} {n : Nat} {env : Env} {H : Heap} {Q : AExit → Env → Heap → Prop} {ops : Array Oper} {rest : List Oper}
variable {eT : Option TypeId}
variable {d : Nat} {t : TypeId} {p : String} {af : Array Edge} {g : Option (Nat × Bool)} {b : Bool} {av : AVal}
variable {x y : Operand} {T : TypeId} {xT : TI}

/-! ### What is only read -/
theorem ao_index_list {e : TypeId} {xe : TI} {sz m : Nat} {f : Nat → AVal} {k : IntKind} {i : Int} (hg : guardA ops env g = some (b, b)) (hdn : Nat.ble (d + 1) n = true)
    (hx : evalA env x = some (.list sz m f)) (hy : evalA env y = some (.int k i)) (h1 : tab P T = some xT) (h2 : xT.desc = .slice e) (h3 : tab P e = some xe) (h4 : xe.size = sz)
    (hi0 : 0 ≤ i) (hi : i < m) (hp : (f i.toNat).plain = true)
    (h : AOps P C n ops rest ((d, .rop (f i.toNat).cells 0) :: env) H Q) :
    AOps P C n ops ({ dst := some d, op := .indexAddr T x y, type := t, pos := p, after := af, guard := g } :: rest) env H Q := by
  refine ao_pure hg rfl hdn (fun R ρ w hm hf => ?_) h
  obtain ⟨a, cap, e1, _, h5⟩ := rel_one (hf _ _ hx) rfl
  simp only [List.cons.injEq, and_true] at e1
  rcases h5 with h5 | ⟨bl, o, Cs, el, fz, rfl, hR, hall⟩
  · omega
  have hr := hall i.toNat (by omega)
  have hl := relC_cells hr hp
  have hlen := relL_length hl
  refine ⟨.pointer (some ⟨bl, o + i.toNat * sz, none⟩), ?_, relC_rop (Nat.zero_le _) ⟨Cs, el, fz, hR, ?_⟩⟩
  · simp only [execOp, e1, rel_int.1 (hf _ _ hy), Instr.indexAt, asIntOf, Sem.run_bind, Sem.run_pure, Result.andThen_ok, tab_run_und h1, h2]
    rw [if_pos (show 0 ≤ i ∧ i < (m : Int) from ⟨hi0, hi⟩)]
    simp only [Sem.run_bind, tab_run_size h3, h4, Result.andThen_ok, Sem.run_pure, Addr.add]
    by_cases h0 : i.toNat * sz = 0
    · simp [h0]
    · simp [h0]
  · rw [Nat.sub_zero, take_same hlen]; exact hl
theorem ao_load_rop {cs : List AVal} {off : Nat} (hg : guardA ops env g = some (b, b)) (hdn : Nat.ble (d + 1) n = true)
    (hx : evalA env x = some (.rop cs off)) (h1 : tab P T = some xT) (h2 : descAgg xT.desc = false) (hc : cs[off]? = some av) (ha : av.isAgg = false)
    (h : AOps P C n ops rest ((d, av) :: env) H Q) :
    AOps P C n ops ({ dst := some d, op := .load T x, type := t, pos := p, after := af, guard := g } :: rest) env H Q := by
  refine ao_pure hg rfl hdn (fun R ρ w hm hf => ?_) h
  obtain ⟨bl, o, e1, ho, hs⟩ := rop_inv (hf _ _ hx)
  obtain ⟨v, hv, hr⟩ := hs.cell hm.sealed hc
  rw [Nat.sub_add_cancel ho] at hv
  refine ⟨v, ?_, relC_rel hr ha⟩
  simp only [execOp, e1, Instr.loadAt, Instr.sureAddr, Sem.run_bind, Sem.run_pure, Result.andThen_ok, load_scalar h1 h2 hv]
theorem ao_load_rop_agg {cs : List AVal} {off : Nat} (hg : guardA ops env g = some (b, b)) (hdn : Nat.ble (d + 1) n = true)
    (hx : evalA env x = some (.rop cs off)) (h1 : tab P T = some xT) (h2 : descAgg xT.desc = true) (hc : off + xT.size ≤ cs.length)
    (h : AOps P C n ops rest ((d, .agg ((cs.drop off).take xT.size)) :: env) H Q) :
    AOps P C n ops ({ dst := some d, op := .load T x, type := t, pos := p, after := af, guard := g } :: rest) env H Q := by
  refine ao_pure hg rfl hdn (fun R ρ w hm hf => ?_) h
  obtain ⟨bl, o, e1, ho, Cs, el, fz, hR, hl⟩ := rop_inv (hf _ _ hx)
  have hlen := relL_length hl
  simp only [List.length_take, List.length_drop, Array.length_toList] at hlen
  refine ⟨.agg ((Cs.toList.drop o).take xT.size).toArray, ?_, ?_, rfl⟩
  · simp only [execOp, e1, Instr.loadAt, Instr.sureAddr, Sem.run_bind, Sem.run_pure, Result.andThen_ok]
    by_cases hz : xT.size = 0
    · simp only [loadVar, Sem.run_bind, tab_run_agg h1, h2, if_true, tab_run_size h1, loadCells, hz, loadCellsFrom, Result.andThen_ok]
      simp
    · rw [load_agg h1 h2 (hm.sealed _ _ hR) (by omega)]
      simp
  · have := relL_take xT.size (relL_drop off hl)
    simp only [Value.cells, RelC]
    rw [List.drop_take, List.drop_drop, Nat.sub_add_cancel ho, List.take_take] at this
    rw [Nat.min_eq_left (by omega)] at this
    simpa using this
theorem ao_fieldAddr_rop {cs : List AVal} {off k : Nat} {fs : Array Field} {f : Field} {xf : TI} (hg : guardA ops env g = some (b, b)) (hdn : Nat.ble (d + 1) n = true)
    (hx : evalA env x = some (.rop cs off)) (h1 : tab P T = some xT) (h2 : xT.desc = .struct fs) (h3 : fs[k]? = some f) (h4 : tab P f.type = some xf) (h5 : Nat.ble 1 xf.size = true)
    (h : AOps P C n ops rest ((d, .rop cs (off + f.offset)) :: env) H Q) :
    AOps P C n ops ({ dst := some d, op := .fieldAddr T x k, type := t, pos := p, after := af, guard := g } :: rest) env H Q := by
  refine ao_pure hg rfl hdn (fun R ρ w hm hf => ?_) h
  have h5 := Nat.le_of_ble_eq_true h5
  obtain ⟨bl, o, e1, ho, hs⟩ := rop_inv (hf _ _ hx)
  refine ⟨.pointer (some ⟨bl, o + f.offset, none⟩), ?_, relC_rop (by omega) (by rw [Nat.add_sub_add_right]; exact hs)⟩
  simp only [execOp, e1, Instr.fieldAt, Sem.run_bind, tab_run_und h1, h2, Result.andThen_ok, h3, Instr.sureAddr, Sem.run_pure, fieldPlace, tab_run_size h4]
  rw [if_neg (by omega)]
  simp only [Addr.add]
  by_cases h0 : f.offset = 0
  · simp [h0]
  · simp [h0]
theorem ao_nilCheck_rop {cs : List AVal} {off : Nat} (hg : guardA ops env g = some (b, b)) (hdn : Nat.ble (d + 1) n = true) (hx : evalA env x = some (.rop cs off))
    (h : AOps P C n ops rest ((d, .rop cs off) :: env) H Q) :
    AOps P C n ops ({ dst := some d, op := .nilCheck x, type := t, pos := p, after := af, guard := g } :: rest) env H Q := by
  refine ao_pure hg rfl hdn (fun R ρ w hm hf => ?_) h
  have hr := hf _ _ hx
  obtain ⟨bl, o, e1, ho, hs⟩ := rop_inv hr
  rw [e1] at hr
  exact ⟨_, by simp only [execOp, e1]; rfl, hr⟩

/-! ### A package-level variable that is sealed -/
/-- The variable's cells are known. -/
def GloAt (G : Glo) (gl : Nat) (cs : List AVal) : Prop := ∀ R, G.p R → SealedAt R gl 0 cs
theorem ao_indexAddr_glob {gl len : Nat} {e : TypeId} {xe : TI} {cs : List AVal} {k : IntKind} {i : Int} (hG : GloAt C.G gl cs) (hg : guardA ops env g = some (b, b)) (hdn : Nat.ble (d + 1) n = true)
    (hy : evalA env y = some (.int k i)) (h1 : tab P T = some xT) (h2 : xT.desc = .array len e) (h3 : tab P e = some xe)
    (hi0 : 0 ≤ i) (hi : i < len)
    (h : AOps P C n ops rest ((d, .rop cs (i.toNat * xe.size)) :: env) H Q) :
    AOps P C n ops ({ dst := some d, op := .indexAddr T (.global gl) y, type := t, pos := p, after := af, guard := g } :: rest) env H Q := by
  refine ao_pure hg rfl hdn (fun R ρ w hm hf => ?_) h
  have hr := rel_raw.1 (hf (.global gl) _ rfl)
  refine ⟨.pointer (some ⟨gl, i.toNat * xe.size, none⟩), ?_, relC_rop (Nat.le_refl _) (by rw [Nat.sub_self]; exact hG R hm.glo)⟩
  simp only [execOp, hr, rel_int.1 (hf _ _ hy), Instr.indexAt, asIntOf, Sem.run_bind, Sem.run_pure, Result.andThen_ok, tab_run_und h1, h2, Instr.sureAddr]
  rw [if_pos (show 0 ≤ i ∧ i < (len : Int) from ⟨hi0, hi⟩)]
  simp only [Sem.run_bind, tab_run_size h3, Result.andThen_ok, Sem.run_pure, Addr.add]
  by_cases h0 : i.toNat * xe.size = 0
  · simp [h0]
  · simp [h0]
theorem ao_load_glob {gl : Nat} {cs : List AVal} (hG : GloAt C.G gl cs) (hg : guardA ops env g = some (b, b)) (hdn : Nat.ble (d + 1) n = true)
    (h1 : tab P T = some xT) (h2 : descAgg xT.desc = false) (hc : cs[0]? = some av) (ha : av.isAgg = false)
    (h : AOps P C n ops rest ((d, av) :: env) H Q) :
    AOps P C n ops ({ dst := some d, op := .load T (.global gl), type := t, pos := p, after := af, guard := g } :: rest) env H Q := by
  refine ao_pure hg rfl hdn (fun R ρ w hm hf => ?_) h
  have hr := rel_raw.1 (hf (.global gl) _ rfl)
  obtain ⟨v, hv, hrv⟩ := (hG R hm.glo).cell hm.sealed hc
  refine ⟨v, ?_, relC_rel hrv ha⟩
  simp only [execOp, hr, Instr.loadAt, Instr.sureAddr, Sem.run_bind, Sem.run_pure, Result.andThen_ok, load_scalar h1 h2 hv]

/-! ### Variables of the call's own -/
theorem own_cells {R : Seal} {w : World} (hm : MS C R H w) {i bl : Nat} {cs : List AVal} (hi : H[i]? = some (.cells bl eT cs)) :
    ∃ Cs e fz, w.heap[bl]? = some (.cells Cs e fz) ∧ RelL R cs Cs.toList ∧ Loose fz Cs.size ∧ ∀ t, eT = some t → e = t := hm.heap.holds _ (List.mem_of_getElem? hi)
theorem ao_load_own {i bl o : Nat} {cs : List AVal} (hg : guardA ops env g = some (b, b)) (hdn : Nat.ble (d + 1) n = true)
    (hx : evalA env x = some (.raw (.pointer (some ⟨bl, o, none⟩)))) (hi : H[i]? = some (.cells bl eT cs)) (h1 : tab P T = some xT) (h2 : descAgg xT.desc = false) (hc : cs[o]? = some av) (ha : av.isAgg = false)
    (h : AOps P C n ops rest ((d, av) :: env) H Q) :
    AOps P C n ops ({ dst := some d, op := .load T x, type := t, pos := p, after := af, guard := g } :: rest) env H Q := by
  refine ao_pure hg rfl hdn (fun R ρ w hm hf => ?_) h
  obtain ⟨Cs, el, fz, hb, hl, _⟩ := own_cells hm hi
  obtain ⟨v, hv, hr⟩ := relL_get hl hc
  refine ⟨v, ?_, relC_rel hr ha⟩
  have hcell : w.cell? ⟨bl, o, none⟩ = some v := by simp only [World.cell?, hb]; simpa using hv
  simp only [execOp, rel_raw.1 (hf _ _ hx), Instr.loadAt, Instr.sureAddr, Sem.run_bind, Sem.run_pure, Result.andThen_ok, load_scalar h1 h2 hcell]
theorem ao_load_own_agg {i bl o : Nat} {cs : List AVal} (hg : guardA ops env g = some (b, b)) (hdn : Nat.ble (d + 1) n = true)
    (hx : evalA env x = some (.raw (.pointer (some ⟨bl, o, none⟩)))) (hi : H[i]? = some (.cells bl eT cs)) (h1 : tab P T = some xT) (h2 : descAgg xT.desc = true) (hc : o + xT.size ≤ cs.length)
    (h : AOps P C n ops rest ((d, .agg ((cs.drop o).take xT.size)) :: env) H Q) :
    AOps P C n ops ({ dst := some d, op := .load T x, type := t, pos := p, after := af, guard := g } :: rest) env H Q := by
  refine ao_pure hg rfl hdn (fun R ρ w hm hf => ?_) h
  obtain ⟨Cs, el, fz, hb, hl, _⟩ := own_cells hm hi
  have hlen := relL_length hl
  simp only [Array.length_toList] at hlen
  refine ⟨.agg ((Cs.toList.drop o).take xT.size).toArray, ?_, ?_, rfl⟩
  · simp only [execOp, rel_raw.1 (hf _ _ hx), Instr.loadAt, Instr.sureAddr, Sem.run_bind, Sem.run_pure, Result.andThen_ok, load_agg h1 h2 hb (show o + xT.size ≤ Cs.size by omega)]
  · simpa [Value.cells, RelC] using relL_take xT.size (relL_drop o hl)
theorem ao_fieldAddr_raw {bl o k : Nat} {fs : Array Field} {f : Field} {xf : TI} (hg : guardA ops env g = some (b, b)) (hdn : Nat.ble (d + 1) n = true)
    (hx : evalA env x = some (.raw (.pointer (some ⟨bl, o, none⟩)))) (h1 : tab P T = some xT) (h2 : xT.desc = .struct fs) (h3 : fs[k]? = some f) (h4 : tab P f.type = some xf) (h5 : Nat.ble 1 xf.size = true)
    (h : AOps P C n ops rest ((d, .raw (.pointer (some ⟨bl, o + f.offset, none⟩))) :: env) H Q) :
    AOps P C n ops ({ dst := some d, op := .fieldAddr T x k, type := t, pos := p, after := af, guard := g } :: rest) env H Q := by
  refine ao_pure hg rfl hdn (fun R ρ w hm hf => ⟨_, ?_, rel_raw.2 rfl⟩) h
  have h5 := Nat.le_of_ble_eq_true h5
  simp only [execOp, rel_raw.1 (hf _ _ hx), Instr.fieldAt, Sem.run_bind, tab_run_und h1, h2, Result.andThen_ok, h3, Instr.sureAddr, Sem.run_pure, fieldPlace, tab_run_size h4]
  rw [if_neg (by omega)]
  simp only [Addr.add]
  by_cases h0 : f.offset = 0
  · simp [h0]
  · simp [h0]
theorem ao_indexAddr_raw {bl o len : Nat} {e : TypeId} {xe : TI} {k : IntKind} {i : Int} (hg : guardA ops env g = some (b, b)) (hdn : Nat.ble (d + 1) n = true)
    (hx : evalA env x = some (.raw (.pointer (some ⟨bl, o, none⟩)))) (hy : evalA env y = some (.int k i)) (h1 : tab P T = some xT) (h2 : xT.desc = .array len e) (h3 : tab P e = some xe)
    (hi0 : 0 ≤ i) (hi : i < len)
    (h : AOps P C n ops rest ((d, .raw (.pointer (some ⟨bl, o + i.toNat * xe.size, none⟩))) :: env) H Q) :
    AOps P C n ops ({ dst := some d, op := .indexAddr T x y, type := t, pos := p, after := af, guard := g } :: rest) env H Q := by
  refine ao_pure hg rfl hdn (fun R ρ w hm hf => ⟨_, ?_, rel_raw.2 rfl⟩) h
  simp only [execOp, rel_raw.1 (hf _ _ hx), rel_int.1 (hf _ _ hy), Instr.indexAt, asIntOf, Sem.run_bind, Sem.run_pure, Result.andThen_ok, tab_run_und h1, h2, Instr.sureAddr]
  rw [if_pos (show 0 ≤ i ∧ i < (len : Int) from ⟨hi0, hi⟩)]
  simp only [Sem.run_bind, tab_run_size h3, Result.andThen_ok, Sem.run_pure, Addr.add]
  by_cases h0 : i.toNat * xe.size = 0
  · simp [h0]
  · simp [h0]
theorem ao_nilCheck_raw {a : Addr} (hg : guardA ops env g = some (b, b)) (hdn : Nat.ble (d + 1) n = true) (hx : evalA env x = some (.raw (.pointer (some a))))
    (h : AOps P C n ops rest ((d, .raw (.pointer (some a))) :: env) H Q) :
    AOps P C n ops ({ dst := some d, op := .nilCheck x, type := t, pos := p, after := af, guard := g } :: rest) env H Q := by
  refine ao_pure hg rfl hdn (fun R ρ w hm hf => ⟨_, ?_, rel_raw.2 rfl⟩) h
  simp only [execOp, rel_raw.1 (hf _ _ hx)]
  rfl

/-- Cells written behind one another into one block. -/
theorem storeCells_run {P : Program} {bl e : Nat} {fz : Nat × Nat} : ∀ (vs : List Value) (o i : Nat) (Cs : Array Value) (w : World), w.heap[bl]? = some (.cells Cs e fz) → o + i + vs.length ≤ Cs.size → Loose fz Cs.size →
    (∀ v ∈ vs, vAgg v = false ∧ ∀ a, v ≠ .tuple a) →
    ∃ w', (storeCells ⟨bl, o, none⟩ vs i).run P w = .ok () w' ∧ OneBlk w bl (.cells (Cs.toList.take (o + i) ++ vs ++ Cs.toList.drop (o + i + vs.length)).toArray e fz) w'
  | [], o, i, Cs, w, hb, _, _, _ => ⟨w, rfl, ⟨rfl, rfl, rfl, rfl, by simpa using hb, fun _ _ => rfl⟩⟩
  | v :: vs, o, i, Cs, w, hb, hl, hfz, hv => by
    simp only [List.length_cons] at hl
    have hlt : o + i < Cs.size := by omega
    have hadd : (⟨bl, o, none⟩ : Addr).add i = ⟨bl, o + i, none⟩ := by
      simp only [Addr.add]
      by_cases h0 : i = 0
      · simp [h0]
      · simp [h0]
    have hcell : w.cell? ⟨bl, o + i, none⟩ = some Cs[o + i] := by simp [World.cell?, hb, hlt]
    have hfro : w.frozen? ⟨bl, o + i, none⟩ = false := by
      obtain ⟨lo, hi⟩ := fz
      simp only [World.frozen?, hb, Loose] at hfz ⊢
      simp
      omega
    have hst : (store ⟨bl, o + i, none⟩ v).run P w = .ok () (w.setCell ⟨bl, o + i, none⟩ v) := by
      have := hv v (by simp)
      cases v <;> first | (simp [store, Sem.run, hcell, hfro]; done) | (simp [vAgg] at this; done) | (exact absurd rfl (this.2 _))
    have hw1 : (w.setCell ⟨bl, o + i, none⟩ v).heap[bl]? = some (.cells (Cs.setIfInBounds (o + i) v) e fz) := by
      simp only [World.setCell, Array.getElem?_modify, if_true, hb, Option.map_some, Option.isSome_none, Bool.false_eq_true, if_false]
    obtain ⟨w', hr, ho⟩ := storeCells_run (P := P) vs o (i + 1) _ _ hw1 (by simp; omega) (by simpa using hfz) (fun u hu => hv u (by simp [hu]))
    refine ⟨w', ?_, ⟨ho.os, ho.tape, ho.output, ?_, ?_, ?_⟩⟩
    · simp only [storeCells, hadd, Sem.run_bind, hst, Result.andThen_ok, hr]
    · rw [ho.size]; simp [World.setCell]
    · rw [ho.at_]
      congr 2
      simp only [Array.toList_setIfInBounds, ← Nat.add_assoc]
      congr 1
      rw [List.drop_set_of_lt (by omega)]
      rw [show o + i + 1 = (o + i) + 1 by omega, List.take_add_one]
      rw [List.take_set_of_le (Nat.le_refl _)]
      simp [hlt, Nat.add_assoc, Nat.add_comm 1]
    · intro k hk
      rw [ho.other k hk]
      simp only [World.setCell, Array.getElem?_modify]
      rw [if_neg (by omega)]

/-- No tuple, and no aggregate, in a cell. -/
def AVal.cellOK : AVal → Bool
  | .agg _ | .tuple _ => false
  | .raw (.agg _) | .raw (.tuple _) => false
  | .own _ (.tuple _) => false
  | _ => true
theorem cellOK_val {R : Seal} {a : AVal} {v : Value} (h : RelC R a [v]) (ha : a.cellOK = true) : vAgg v = false ∧ ∀ l, v ≠ .tuple l := by
  cases a <;> simp only [RelC] at h
  case bool => simp only [List.cons.injEq] at h; obtain ⟨rfl, _⟩ := h; exact ⟨rfl, fun _ => by simp⟩
  case int => simp only [List.cons.injEq] at h; obtain ⟨rfl, _⟩ := h; exact ⟨rfl, fun _ => by simp⟩
  case str => simp only [List.cons.injEq] at h; obtain ⟨rfl, _⟩ := h; exact ⟨rfl, fun _ => by simp⟩
  case raw x => cases x <;> simp_all [Value.cells, vAgg, AVal.cellOK]
  case list => obtain ⟨_, _, h, _⟩ := h; simp only [List.cons.injEq] at h; obtain ⟨rfl, _⟩ := h; exact ⟨rfl, fun _ => by simp⟩
  case rop => obtain ⟨_, _, _, _, _, h, _⟩ := h; simp only [List.cons.injEq] at h; obtain ⟨rfl, _⟩ := h; exact ⟨rfl, fun _ => by simp⟩
  case agg => simp [AVal.cellOK] at ha
  case tuple => simp [AVal.cellOK] at ha
  case iface => obtain ⟨_, h, _⟩ := h; simp only [List.cons.injEq] at h; obtain ⟨rfl, _⟩ := h; exact ⟨rfl, fun _ => by simp⟩
  case func => obtain ⟨_, _, h, _⟩ := h; simp only [List.cons.injEq] at h; obtain ⟨rfl, _⟩ := h; exact ⟨rfl, fun _ => by simp⟩
  case own i x => obtain ⟨h, h2⟩ := h; simp only [List.cons.injEq] at h; obtain ⟨rfl, _⟩ := h; exact ⟨h2, fun l e => by subst e; simp [AVal.cellOK] at ha⟩
def allOK : List AVal → Bool
  | [] => true
  | c :: cs => c.cellOK && allOK cs
theorem allOK_vals {R : Seal} : ∀ {cs : List AVal} {vs : List Value}, RelL R cs vs → allOK cs = true → ∀ v ∈ vs, vAgg v = false ∧ ∀ l, v ≠ .tuple l
  | [], _, h, _ => by simp only [RelL] at h; subst h; simp
  | c :: cs, _, h, ho => by
    obtain ⟨v, t, rfl, hv, h⟩ := h
    simp only [allOK, Bool.and_eq_true] at ho
    intro u hu
    rcases List.mem_cons.1 hu with rfl | hu
    · exact cellOK_val hv ho.1
    · exact allOK_vals h ho.2 u hu
/-- The operation that writes. -/
theorem ao_skipval {o : Oper} {H' : Heap} {b : Bool} (hg : guardA ops env o.guard = some (b, b)) (hd : o.dst = none)
    (hx : ∀ R ρ w, MS C R H w → Evals R env ρ → ∃ w' R', (execOp ρ o).run P w = .ok .skip w' ∧ R.le R' ∧ MS C R' H' w')
    (h : AOps P C n ops rest env H' Q) : AOps P C n ops (o :: rest) env H Q := by
  intro R a w hm hf
  refine wpList_step fun K hK => ?_
  rw [wanted_of hf hg, if_pos (by simp)]
  obtain ⟨w', R', hr, hR, hm'⟩ := hx R a.eval w hm (fun x av h => hf.eval h)
  rw [Oper.wp, hr, Oper.upon_skip, hd]
  exact hK _ _ (h R' _ w' hm' (hf.mono hR))
theorem ao_store_own {i bl o : Nat} {cs : List AVal} (hg : guardA ops env g = some (b, b))
    (hx : evalA env x = some (.raw (.pointer (some ⟨bl, o, none⟩)))) (hy : evalA env y = some av) (hi : H[i]? = some (.cells bl eT cs)) (h1 : tab P T = some xT) (h2 : av.cells.length = xT.size)
    (hc : Nat.ble (o + xT.size) cs.length = true) (hp : av.plain = true) (hok : allOK av.cells = true)
    (h : AOps P C n ops rest env (H.set i (.cells bl eT (cs.take o ++ av.cells ++ cs.drop (o + xT.size)))) Q) :
    AOps P C n ops ({ dst := none, op := .store T x y, type := t, pos := p, after := af, guard := g } :: rest) env H Q := by
  refine ao_skipval hg rfl (fun R ρ w hm hf => ?_) h
  have hc := Nat.le_of_ble_eq_true hc
  obtain ⟨Cs, el, fz, hb, hl, hfz⟩ := own_cells hm hi
  have hlen := relL_length hl
  simp only [Array.length_toList] at hlen
  have hv := rel_cells (hf _ _ hy) hp
  have hvl := relL_length hv
  simp only [Array.length_toList] at hvl
  obtain ⟨w', hr, ho⟩ := storeCells_run (P := P) (ρ y).cells.toList o 0 Cs w hb (by simp only [Array.length_toList]; omega) hfz.1 (allOK_vals hv hok)
  refine ⟨w', R, ?_, Seal.le_refl R, hm.write hi rfl ho rfl ?_⟩
  · simp only [execOp, rel_raw.1 (hf _ _ hx), Instr.storeAt, Instr.sureAddr, storeVar, Sem.run_bind, Sem.run_pure, Result.andThen_ok, tab_run_size h1]
    rw [if_neg (by omega)]
    simp only [Sem.run_bind, Sem.run_pure, Result.andThen_ok, hr]
  · refine ⟨_, _, _, ho.at_, ?_, ?_⟩
    · simp only [Nat.add_zero, Array.length_toList, hvl, h2]
      exact relL_append (relL_append (relL_take o hl) hv) (relL_drop _ hl)
    · simp only [Nat.add_zero, Array.length_toList, hvl, h2, List.size_toArray, List.length_append, List.length_take, List.length_drop]
      have : min o Cs.size + xT.size + (Cs.size - (o + xT.size)) = Cs.size := by omega
      rw [this]; exact hfz

/-! ### New variables -/
theorem newRow_run {P : Program} (T : TypeId) (cs : Array Value) (w : World) : (newRow T cs).run P w = .ok ⟨w.heap.size, 0, none⟩ (grow w (.cells cs T)) := rfl
theorem ao_box (hg : guardA ops env g = some (b, b)) (hdn : Nat.ble (d + 1) n = true) (hx : evalA env x = some av) (hp : av.plain = true)
    (h : ∀ bl : Nat, AOps P C n ops rest ((d, .raw (.pointer (some ⟨bl, 0, none⟩))) :: env) (.cells bl (some T) av.cells :: H) Q) :
    AOps P C n ops ({ dst := some d, op := .box T x, type := t, pos := p, after := af, guard := g } :: rest) env H Q := by
  refine ao_valX (av := fun bl : Nat => .raw (.pointer (some ⟨bl, 0, none⟩))) (H' := fun bl => .cells bl (some T) av.cells :: H) hg rfl hdn (fun R ρ w hm hf => ?_) h
  refine ⟨w.heap.size, _, grow w (.cells (ρ x).cells T), R, rfl, Seal.le_refl R, rel_raw.2 rfl, hm.alloc _ _ rfl ⟨_, _, _, grow_at w _, ?_, .inl (Nat.le_refl _), fun t ht => Option.some.inj ht⟩⟩
  exact rel_cells (hf _ _ hx) hp
/-- A variable that nobody will write. -/
theorem ao_box_sealed (hg : guardA ops env g = some (b, b)) (hdn : Nat.ble (d + 1) n = true) (hx : evalA env x = some av) (hp : av.plain = true)
    (h : AOps P C n ops rest ((d, .rop av.cells 0) :: env) H Q) :
    AOps P C n ops ({ dst := some d, op := .box T x, type := t, pos := p, after := af, guard := g } :: rest) env H Q := by
  refine ao_val hg rfl hdn (fun R ρ w hm hf => ?_) h
  have hle := Seal.put_le (o := Obj.cells (ρ x).cells T) hm.seal_free
  refine ⟨_, grow w (.cells (ρ x).cells T), R.put w.heap.size (.cells (ρ x).cells T), rfl, hle, relC_rop (Nat.le_refl _) ⟨_, _, _, Seal.put_at _ _ _, ?_⟩, hm.alloc_sealed _⟩
  have := rel_cells (hf _ _ hx) hp
  have hl := relL_length this
  rw [Nat.sub_self, List.drop_zero, List.take_of_length_le (by omega)]
  exact relL_mono hle _ _ this
/-- The zero value, as cells. -/
def zeroCellsA : Option Value → Option (List AVal)
  | some (.agg cs) => match cs.toList.all fun v => !vAgg v with
    | true => some (cs.toList.map ofV)
    | false => none
  | some v => some [ofV v]
  | none => none
theorem relC_ofV (R : Seal) {v : Value} (hv : vAgg v = false) : RelC R (ofV v) [v] := by
  have := rel_ofV R v
  exact rel_one this (by rw [this.2]; exact hv)
theorem relL_ofV (R : Seal) : ∀ {vs : List Value}, (∀ v ∈ vs, vAgg v = false) → RelL R (vs.map ofV) vs
  | [], _ => rfl
  | v :: vs, h => ⟨v, vs, rfl, relC_ofV R (h v (by simp)), relL_ofV R (fun u hu => h u (by simp [hu]))⟩
theorem zeroCellsA_rel {R : Seal} {z : Option Value} {cs : List AVal} (h : zeroCellsA z = some cs) : ∃ v, z = some v ∧ RelL R cs v.cells.toList := by
  cases z with
  | none => simp [zeroCellsA] at h
  | some v =>
    refine ⟨v, rfl, ?_⟩
    cases v <;> simp only [zeroCellsA, Option.some.injEq] at h
    case agg l =>
      split at h
      · rename_i hall
        simp only [Option.some.injEq] at h
        subst h
        exact relL_ofV R (fun v hv => by have := List.all_eq_true.1 hall v hv; simpa using this)
      · cases h
    all_goals (subst h; exact ⟨_, [], rfl, relC_ofV R rfl, rfl⟩)
theorem ao_alloc {cs : List AVal} (hg : guardA ops env g = some (b, b)) (hdn : Nat.ble (d + 1) n = true) (h1 : tab P T = some xT) (h2 : zeroCellsA xT.zero = some cs)
    (h : ∀ bl : Nat, AOps P C n ops rest ((d, .raw (.pointer (some ⟨bl, 0, none⟩))) :: env) (.cells bl (some T) cs :: H) Q) :
    AOps P C n ops ({ dst := some d, op := .alloc T, type := t, pos := p, after := af, guard := g } :: rest) env H Q := by
  refine ao_valX (av := fun bl : Nat => .raw (.pointer (some ⟨bl, 0, none⟩))) (H' := fun bl => .cells bl (some T) cs :: H) hg rfl hdn (fun R ρ w hm hf => ?_) h
  obtain ⟨v, hv, hr⟩ := zeroCellsA_rel (R := R) h2
  refine ⟨w.heap.size, _, grow w (.cells v.cells T), R, ?_, Seal.le_refl R, rel_raw.2 rfl, hm.alloc _ _ rfl ⟨_, _, _, grow_at w _, hr, .inl (Nat.le_refl _), fun t ht => Option.some.inj ht⟩⟩
  simp only [execOp, Instr.alloc, Sem.run_bind, tab_run_zero h1 hv, Result.andThen_ok]
  rfl

/-! ### A struct's part -/
theorem ao_field {cs : List AVal} {k : Nat} {fs : Array Field} {f : Field} {xf : TI} (hg : guardA ops env g = some (b, b)) (hdn : Nat.ble (d + 1) n = true)
    (hx : evalA env x = some (.agg cs)) (h1 : tab P T = some xT) (h2 : xT.desc = .struct fs) (h3 : fs[k]? = some f) (h4 : tab P f.type = some xf) (h5 : descAgg xf.desc = false)
    (hc : cs[f.offset]? = some av) (ha : av.isAgg = false)
    (h : AOps P C n ops rest ((d, av) :: env) H Q) :
    AOps P C n ops ({ dst := some d, op := .field T x k, type := t, pos := p, after := af, guard := g } :: rest) env H Q := by
  refine ao_pure hg rfl hdn (fun R ρ w hm hf => ?_) h
  have hr := hf _ _ hx
  obtain ⟨vs, hvs⟩ : ∃ vs, ρ x = .agg vs := by
    have := hr.2
    cases hv : ρ x <;> rw [hv] at this <;> simp [AVal.isAgg, vAgg] at this
    exact ⟨_, rfl⟩
  rw [hvs] at hr
  obtain ⟨v, hv, hrv⟩ := relL_get (R := R) (cs := cs) (vs := vs.toList) hr.1 hc
  refine ⟨v, ?_, relC_rel hrv ha⟩
  have hv' : vs[f.offset]? = some v := by simpa using hv
  simp only [execOp, hvs, Instr.field, Sem.run_bind, tab_run_und h1, h2, Result.andThen_ok, h3, asAgg, Sem.run_pure, part, tab_run_agg h4, h5, Bool.false_eq_true, if_false, hv']
theorem ao_field_agg {cs : List AVal} {k : Nat} {fs : Array Field} {f : Field} {xf : TI} (hg : guardA ops env g = some (b, b)) (hdn : Nat.ble (d + 1) n = true)
    (hx : evalA env x = some (.agg cs)) (h1 : tab P T = some xT) (h2 : xT.desc = .struct fs) (h3 : fs[k]? = some f) (h4 : tab P f.type = some xf) (h5 : descAgg xf.desc = true)
    (h : AOps P C n ops rest ((d, .agg ((cs.drop f.offset).take xf.size)) :: env) H Q) :
    AOps P C n ops ({ dst := some d, op := .field T x k, type := t, pos := p, after := af, guard := g } :: rest) env H Q := by
  refine ao_pure hg rfl hdn (fun R ρ w hm hf => ?_) h
  have hr := hf _ _ hx
  obtain ⟨vs, hvs⟩ : ∃ vs, ρ x = .agg vs := by
    have := hr.2
    cases hv : ρ x <;> rw [hv] at this <;> simp [AVal.isAgg, vAgg] at this
    exact ⟨_, rfl⟩
  rw [hvs] at hr
  refine ⟨.agg (vs.extract f.offset (f.offset + xf.size)), ?_, ?_, rfl⟩
  · simp only [execOp, hvs, Instr.field, Sem.run_bind, tab_run_und h1, h2, Result.andThen_ok, h3, asAgg, Sem.run_pure, part, tab_run_agg h4, h5, if_true, tab_run_size h4]
  · have := relL_take xf.size (relL_drop f.offset (vs := vs.toList) hr.1)
    simp only [Value.cells, RelC]
    rw [Array.toList_extract]
    simpa [List.extract_eq_take_drop] using this

/-! ### Building structs -/
/-- Cells laid over cells. -/
def over (cs new : List AVal) (off : Nat) : List AVal := cs.take off ++ new ++ cs.drop (off + new.length)
theorem foldl_set (new : List Value) : ∀ (off j : Nat) (cs : Array Value), off + j + new.length ≤ cs.size →
    ((new.zipIdx j).foldl (fun cs (x : Value × Nat) => cs.setIfInBounds (off + x.2) x.1) cs).toList = cs.toList.take (off + j) ++ new ++ cs.toList.drop (off + j + new.length) := by
  induction new with
  | nil => intro off j cs h; simp
  | cons v new ih =>
    intro off j cs h
    simp only [List.length_cons] at h
    rw [List.zipIdx_cons, List.foldl_cons, ih off (j + 1) _ (by simp; omega)]
    simp only [Array.toList_setIfInBounds, List.length_cons, ← Nat.add_assoc]
    rw [List.drop_set_of_lt (by omega), List.take_add_one, List.take_set_of_le (Nat.le_refl _)]
    have : off + j < cs.size := by omega
    simp [this, Nat.add_assoc, Nat.add_comm 1]
/-- The places of a struct's fields. -/
def placesA (P : Program) [Tab P] : List Field → Option (List (Nat × Nat))
  | [] => some []
  | f :: fs => match tab P f.type, placesA P fs with
    | some x, some r => some ((f.offset, x.size) :: r)
    | _, _ => none
def fillA (pl : List (Nat × Nat)) (cs : List AVal) : List (Nat × AVal) → Option (List AVal)
  | [] => some cs
  | (i, v) :: r => match pl[i]? with
    | some (off, size) => match Nat.beq v.cells.length size && Nat.ble (off + v.cells.length) cs.length && v.plain with
      | true => fillA pl (over cs v.cells off) r
      | false => none
    | none => none
def PartsRel (R : Seal) : List (Nat × AVal) → List (Nat × Value) → Prop
  | [], vs => vs = []
  | a :: as, vs => ∃ v t, vs = v :: t ∧ (a.1 = v.1 ∧ Rel R a.2 v.2) ∧ PartsRel R as t
theorem fillA_run {R : Seal} {pl : List (Nat × Nat)} {place : Nat → Option (Nat × Nat)} (hpl : ∀ (i : Nat) (x : Nat × Nat), pl[i]? = some x → place i = some x) : ∀ {ps : List (Nat × AVal)} {vs : List (Nat × Value)} {cs cs' : List AVal} {Cs : Array Value},
    PartsRel R ps vs → RelL R cs Cs.toList → fillA pl cs ps = some cs' → ∃ Cs', Instr.fill place Cs vs = some Cs' ∧ RelL R cs' Cs'.toList
  | [], _, cs, cs', Cs, hp, hl, h => by
    simp only [PartsRel] at hp
    subst hp
    simp only [fillA, Option.some.injEq] at h
    subst h
    exact ⟨Cs, rfl, hl⟩
  | (i, a) :: ps, _, cs, cs', Cs, hp, hl, h => by
    obtain ⟨v, vs, rfl, h1, hp⟩ := hp
    obtain ⟨i', v⟩ := v
    obtain ⟨e, hr⟩ := h1
    simp only at e hr
    subst e
    simp only [fillA] at h
    split at h
    · rename_i off size hi
      split at h
      · rename_i hc
        simp only [Bool.and_eq_true] at hc
        have h1 := Nat.eq_of_beq_eq_true hc.1.1
        have h2 := Nat.le_of_ble_eq_true hc.1.2
        have hv := rel_cells hr hc.2
        have hvl := relL_length hv
        have hll := relL_length hl
        simp only [Array.length_toList] at hvl hll
        have hf : (v.cells.zipIdx.foldl (fun cs (x : Value × Nat) => cs.setIfInBounds (off + x.2) x.1) Cs).toList = Cs.toList.take off ++ v.cells.toList ++ Cs.toList.drop (off + v.cells.toList.length) := by
          have := foldl_set v.cells.toList off 0 Cs (by simp; omega)
          rw [← Array.foldl_toList, Array.toList_zipIdx]
          simpa using this
        obtain ⟨Cs', hC, hrC⟩ := fillA_run hpl hp (Cs := v.cells.zipIdx.foldl (fun cs (x : Value × Nat) => cs.setIfInBounds (off + x.2) x.1) Cs) (by
          rw [hf]
          have e : v.cells.toList.length = a.cells.length := by simpa using hvl
          rw [e]
          exact relL_append (relL_append (relL_take off hl) hv) (relL_drop _ hl)) h
        refine ⟨Cs', ?_, hrC⟩
        simp only [Instr.fill, hpl i _ hi]
        rw [if_neg (by simp only [Bool.or_eq_true, decide_eq_true_eq, not_or]; omega)]
        exact hC
      · cases h
    · cases h
theorem placesA_run {P : Program} [Tab P] {w : World} : ∀ {fs : List Field} {pl : List (Nat × Nat)}, placesA P fs = some pl →
    (fs.mapM (fun f => do pure (f.offset, ← sizeOf f.type) : Field → Sem (Nat × Nat))).run P w = .ok pl w
  | [], pl, h => by simp only [placesA, Option.some.injEq] at h; subst h; rfl
  | f :: fs, pl, h => by
    simp only [placesA] at h
    split at h
    · rename_i x r hx hr
      simp only [Option.some.injEq] at h
      subst h
      simp only [List.mapM_cons, Sem.run_bind, tab_run_size hx, Result.andThen_ok, Sem.run_pure, placesA_run hr]
    · cases h
/-- The parts' values. -/
def partsA (env : Env) : List (Nat × Operand) → Option (List (Nat × AVal))
  | [] => some []
  | (i, x) :: t => match evalA env x, partsA env t with
    | some v, some r => some ((i, v) :: r)
    | _, _ => none
theorem partsA_rel {R : Seal} {ρ : Operand → Value} (hf : Evals R env ρ) : ∀ {l : List (Nat × Operand)} {ps : List (Nat × AVal)}, partsA env l = some ps →
    PartsRel R ps (l.map fun x => (x.1, ρ x.2))
  | [], ps, h => by simp only [partsA, Option.some.injEq] at h; subst h; rfl
  | (i, x) :: t, ps, h => by
    simp only [partsA] at h
    split at h
    · rename_i v r hv hr
      simp only [Option.some.injEq] at h
      subst h
      exact ⟨_, _, rfl, ⟨rfl, hf x v hv⟩, partsA_rel hf hr⟩
    · cases h
theorem ao_build {l : List (Nat × Operand)} {ps : List (Nat × AVal)} {fs : List Field} {pl : List (Nat × Nat)} {z cs : List AVal} (hg : guardA ops env g = some (b, b)) (hdn : Nat.ble (d + 1) n = true)
    (hl : partsA env l = some ps) (h1 : tab P T = some xT) (h2 : xT.desc = .struct fs.toArray) (h3 : placesA P fs = some pl) (h4 : zeroCellsA xT.zero = some z) (h5 : fillA pl z ps = some cs)
    (h : AOps P C n ops rest ((d, .agg cs) :: env) H Q) :
    AOps P C n ops ({ dst := some d, op := .build T l.toArray, type := t, pos := p, after := af, guard := g } :: rest) env H Q := by
  refine ao_pure hg rfl hdn (fun R ρ w hm hf => ?_) h
  obtain ⟨v, hv, hr⟩ := zeroCellsA_rel (R := R) h4
  obtain ⟨Cs, hC, hrC⟩ := fillA_run (place := (pl.toArray[·]?)) (fun i x hi => by simpa using hi) (partsA_rel hf hl) hr h5
  refine ⟨.agg Cs, ?_, hrC, rfl⟩
  have hmap : (l.toArray.map fun x => (x.1, ρ x.2)).toList = l.map fun x => (x.1, ρ x.2) := by simp
  simp only [execOp, Instr.build, Sem.run_bind, tab_run_zero h1 hv, Result.andThen_ok, tab_run_und h1, h2, Array.mapM_eq_mapM_toList, Sem.run_map, placesA_run h3]
  rw [show (Array.map (fun x : Nat × Operand => match x with | (i, x) => (i, ρ x)) l.toArray).toList = l.map fun x => (x.1, ρ x.2) from hmap, hC]
  rfl
end
end Go.Proofs.YtlmihggafbmkaaaGreatDoor
