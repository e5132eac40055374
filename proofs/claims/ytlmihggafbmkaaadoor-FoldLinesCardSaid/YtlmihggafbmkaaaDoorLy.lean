/- What laid tables hold: lists in chunks, tables of numbers, a type's handle; and the witness world of rows that list a handle. -/
import Derived.Test.YtlmihggafbmkaaaDoorDc
import Derived.Test.YtlmihggafbmkaaaDoorTelb
import Derived.Test.YtlmihggafbmkaaaDoorEnd
import Derived.LaidSub
import Derived.LaidHandle
import Derived.OpenShut
namespace Go.Proofs.YtlmihggafbmkaaaDoor
open Go
theorem chunks {α β : Type} (k : Nat) (E : α → List β) (hE : ∀ z, (E z).length = k) : ∀ (zs : List α) (cs : List β), cs.length = zs.length * k →
    (∀ i z, zs[i]? = some z → (cs.drop (i * k)).take k = E z) → cs = zs.flatMap E
  | [], cs, hl, _ => by
    simp only [List.length_nil, Nat.zero_mul] at hl
    simp [List.eq_nil_of_length_eq_zero hl]
  | z :: zs, cs, hl, h => by
    have h0 := h 0 z rfl
    simp only [Nat.zero_mul, List.drop_zero] at h0
    have hr := chunks k E hE zs (cs.drop k) (by rw [List.length_drop, hl, List.length_cons, Nat.succ_mul]; omega) (fun i y hy => by
      have := h (i + 1) y hy
      rw [List.drop_drop]
      rw [Nat.succ_mul, Nat.add_comm] at this
      exact this)
    rw [List.flatMap_cons, ← h0, ← hr, List.take_append_drop]
theorem relL_ints {R : Seal} : ∀ (l : List (IntKind × Int)), RelL R (l.map fun x => .int x.1 x.2) (l.map fun x => .int x.1 x.2)
  | [] => rfl
  | _ :: l => ⟨_, _, rfl, rfl, relL_ints l⟩
section
variable {P : Program} {H : Type} {enc : TypeId × Value → H} {w : World} {base : Nat} {spare : Nat → Bool} {held : Bool}
theorem trod_ints {t e n fuel : Nat} {k : IntKind} {cs : List Value} {ps : List MemPlace} {zs : List Nat} (ht : P.underlying t = some (.array n e)) (he : P.underlying e = some (.int k)) (hc : P.cellsOf e = 1) (hct : P.cellsOf t = n)
    (h : DataW.trod enc P w base spare held fuel t cs = some (.agg (zs.map fun x : Nat => .lit (.int k (x : Int))), ps)) (hz : zs.length = n) : cs = zs.flatMap fun x : Nat => [Value.int k (x : Int)] := by
  obtain ⟨xs, m, _, ex, hl, hxl, hel⟩ := DataW.trod_array ht h
  have e3 : (xs.map (·.1)) = zs.map fun x : Nat => .lit (.int k x) := (DataW.agg.inj (Prod.mk.inj ex).1).symm
  refine chunks 1 _ (fun _ => rfl) zs cs (by omega) (fun i z hi => ?_)
  have hin : i < zs.length := (List.getElem?_eq_some_iff.1 hi).1
  have hE := hel i (by omega)
  rw [hc, List.getElem?_eq_getElem (by omega)] at hE
  obtain ⟨y, e1, e2, _⟩ := DataW.trod_int he hE
  have e4 : (xs.map (·.1))[i]? = (zs.map fun x : Nat => (DataW.lit (.int k x) : DataW H))[i]? := by rw [e3]
  rw [List.getElem?_map, List.getElem?_map, List.getElem?_eq_getElem (by omega : i < xs.length), hi, e2] at e4
  simp only [Option.map_some, Option.some.injEq, DataW.lit.injEq, Lit.int.injEq, true_and] at e4
  rw [e1, e4]
theorem trod_pairs {t e n fuel u : Nat} {k : IntKind} {f0 f1 : Field} {cs : List Value} {ps : List MemPlace} {zs : List (Nat × Nat)} (ht : P.underlying t = some (.array n e)) (he : P.underlying e = some (.struct #[f0, f1])) (hc : P.cellsOf e = 2) (hct : P.cellsOf t = n * 2)
    (hf0 : f0.type = u) (hf1 : f1.type = u) (ho0 : f0.offset = 0) (ho1 : f1.offset = 1) (hu : P.underlying u = some (.int k)) (hcu : P.cellsOf u = 1)
    (h : DataW.trod enc P w base spare held fuel t cs = some (.agg (zs.map fun x : Nat × Nat => .agg [.lit (.int k (x.1 : Int)), .lit (.int k (x.2 : Int))]), ps)) (hz : zs.length = n) : cs = zs.flatMap fun x : Nat × Nat => [Value.int k (x.1 : Int), Value.int k (x.2 : Int)] := by
  obtain ⟨xs, m, _, ex, hl, hxl, hel⟩ := DataW.trod_array ht h
  have e3 : (xs.map (·.1)) = zs.map fun x : Nat × Nat => .agg [.lit (.int k x.1), .lit (.int k x.2)] := (DataW.agg.inj (Prod.mk.inj ex).1).symm
  refine chunks 2 _ (fun _ => rfl) zs cs (by omega) (fun i z hi => ?_)
  have hin : i < zs.length := (List.getElem?_eq_some_iff.1 hi).1
  have hE := hel i (by omega)
  rw [hc, List.getElem?_eq_getElem (by omega)] at hE
  generalize hcc : (cs.drop (i * 2)).take 2 = c at hE
  obtain ⟨y0, y1, m', e2, hl2, h0, h1⟩ := Go.ChangeShapes.trod_struct2 he hE
  rw [hf0, ho0, hcu] at h0
  rw [hf1, ho1, hcu] at h1
  obtain ⟨a0, c0, d0, _⟩ := DataW.trod_int hu h0
  obtain ⟨a1, c1, d1, _⟩ := DataW.trod_int hu h1
  have e4 : (xs.map (·.1))[i]? = (zs.map fun x : Nat × Nat => (DataW.agg [.lit (.int k x.1), .lit (.int k x.2)] : DataW H))[i]? := by rw [e3]
  rw [List.getElem?_map, List.getElem?_map, List.getElem?_eq_getElem (by omega : i < xs.length), hi, e2, d0, d1] at e4
  simp only [Option.map_some, Option.some.injEq, DataW.agg.injEq, List.cons.injEq, DataW.lit.injEq, Lit.int.injEq, true_and, and_true] at e4
  rw [hc] at hl2
  match c, hl2 with
  | [x0, x1], _ =>
    simp only [List.drop_zero, List.take_succ_cons, List.take_zero, List.cons.injEq, and_true, List.drop_succ_cons] at c0 c1
    rw [c0, c1, e4.1, e4.2]
end
theorem var_heap {P : Program} {w : World} {n : String} {g : Nat} {cs : Array Value} (hg : P.globalNamed n = some g) (hv : w.var? P n = some cs) : ∃ e fz, w.heap[g]? = some (.cells cs e fz) := by
  simp only [World.var?, hg, Option.bind_some] at hv
  split at hv
  · rename_i c e fz hh
    cases hv
    exact ⟨_, _, hh⟩
  · cases hv
/-- A list of package-level variables that are known. -/
def gloOf (L : List (Nat × List AVal)) : Glo := ⟨fun R => ∀ x, x ∈ L → SealedAt R x.1 0 x.2, fun _ _ hle h x hx => by
  obtain ⟨C, e, fz, h1, h2⟩ := h x hx
  exact ⟨C, e, fz, hle _ _ h1, relL_mono hle _ _ h2⟩⟩
theorem gloGet_mem : ∀ (L : List (Nat × List AVal)) {g : Nat} {cs : List AVal}, gloGet L g = some cs → (g, cs) ∈ L
  | [], _, _, h => by simp [gloGet] at h
  | (k, c) :: r, g, cs, h => by
    unfold gloGet at h
    split at h
    · rename_i e
      obtain rfl := Nat.eq_of_beq_eq_true e
      cases h
      exact List.mem_cons_self
    · exact List.mem_cons_of_mem _ (gloGet_mem r h)
theorem gloAll_of {L L' : List (Nat × List AVal)} (h : ∀ x, x ∈ L' → x ∈ L) : GloAll (gloOf L) L' := fun g cs hg R hR => hR (g, cs) (h _ (gloGet_mem L' hg))
/-- One laid variable. -/
theorem laid_at {P : Program} {W : World} {laid : List (String × DataW Unit)} (hL : laidMetH P laid W) {n : String} {d : DataW Unit} (hm : (n, d) ∈ laid) (hn : d.handleName?.isNone = true) {g : Nat} {t : TypeId} (hg : P.globalNamed n = some g) (ht : (P.globals[g]?).map (·.type) = some t) :
    ∃ cs e fz fuel p, W.heap[g]? = some (.cells cs e fz) ∧ DataW.trod (fun _ => ()) P W 0 (fun _ => true) false fuel t cs.toList = some (d, p) := by
  have h1 := (laidMetH_iff.1 hL).1
  obtain ⟨ps, h, _⟩ := h1
  have key : ∀ (l : List (String × DataW Unit)) (ps : List MemPlace), DataW.LaidVars P W l ps → (n, d) ∈ l → ∃ cs e fz fuel p, W.heap[g]? = some (.cells cs e fz) ∧ DataW.trod (fun _ => ()) P W 0 (fun _ => true) false fuel t cs.toList = some (d, p) := by
    intro l
    induction l with
    | nil => intro ps _ hm; cases hm
    | cons a r ih =>
      obtain ⟨m, b⟩ := a
      rintro ps ⟨g', t', cs, fuel, p, q, e1, e2, e3, e4, e5, _⟩ hm
      rcases List.mem_cons.1 hm with hm | hm
      · cases hm
        obtain rfl := Option.some.inj (hg.symm.trans e1)
        obtain rfl := Option.some.inj (ht.symm.trans e2)
        obtain ⟨e, fz, hh⟩ := var_heap hg e3
        exact ⟨cs, e, fz, fuel, p, hh, e4⟩
      · exact ih q e5 hm
  exact key _ ps h (List.mem_filter.2 ⟨hm, hn⟩)
theorem sealed_below {W : World} {k g : Nat} {C : Array Value} {e : TypeId} {fz : Nat × Nat} {cs : List AVal} (hk : g < k) (hW : W.heap[g]? = some (.cells C e fz)) (h : RelL (sealBelow W k) cs (C.toList.take cs.length)) : SealedAt (sealBelow W k) g 0 cs :=
  ⟨C, e, fz, by unfold sealBelow; rw [if_pos hk]; exact hW, by rw [List.drop_zero]; exact h⟩
theorem first_laid {W : World} {k : Nat} (hk : 6 < k) {laid : List (String × DataW Unit)} (hL : laidMetH Tryd.prog laid W) (hm : ("unicode/utf8.first", Rows.laid_unicode_utf8_first) ∈ laid) : SealedAt (sealBelow W k) 6 0 firstTab := by
  obtain ⟨C, e, fz, fuel, p, hW, hd⟩ := laid_at hL hm (by kernel_rfl) (g := 6) (t := 208) (by kernel_rfl) (by kernel_rfl)
  refine sealed_below hk hW ?_
  have hc := trod_ints (n := 256) (zs := Go.Pinned.utf8FirstZ) Tryd.underlying208 Tryd.underlying5 (by kernel_rfl) (by kernel_rfl) hd (by kernel_rfl)
  have e1 : firstTab = (Go.Pinned.utf8FirstZ.map fun x : Nat => (IntKind.u8, (x : Int))).map fun x => .int x.1 x.2 := by simp [firstTab]
  have e2 : C.toList.take firstTab.length = (Go.Pinned.utf8FirstZ.map fun x : Nat => (IntKind.u8, (x : Int))).map fun x => .int x.1 x.2 := by
    have : C.toList = Go.Pinned.utf8FirstZ.map fun x : Nat => Value.int .u8 (x : Int) := by
      rw [hc]; generalize Go.Pinned.utf8FirstZ = l; induction l <;> simp_all
    rw [this, List.take_of_length_le (by simp [firstTab])]
    simp
  rw [e2, e1]
  exact relL_ints _
def acceptZ : List (Nat × Nat) := [(128, 191), (160, 191), (128, 159), (144, 191), (128, 143), (0, 0), (0, 0), (0, 0), (0, 0), (0, 0), (0, 0), (0, 0), (0, 0), (0, 0), (0, 0), (0, 0)]
theorem accept_laid {W : World} {k : Nat} (hk : 7 < k) {laid : List (String × DataW Unit)} (hL : laidMetH Tryd.prog laid W) (hm : ("unicode/utf8.acceptRanges", Rows.laid_unicode_utf8_acceptRanges) ∈ laid) : SealedAt (sealBelow W k) 7 0 acceptTab := by
  obtain ⟨C, e, fz, fuel, p, hW, hd⟩ := laid_at hL hm (by kernel_rfl) (g := 7) (t := 211) (by kernel_rfl) (by kernel_rfl)
  refine sealed_below hk hW ?_
  rw [trod_pairs (n := 16) (zs := acceptZ) Tryd.underlying211 Tryd.underlying210 (by kernel_rfl) (by kernel_rfl) rfl rfl rfl rfl Tryd.underlying5 (by kernel_rfl) hd (by kernel_rfl)]
  exact relL_ints ((acceptZ.flatMap fun x : Nat × Nat => [x.1, x.2]).map fun x : Nat => (IntKind.u8, (x : Int)))
theorem rowNamed_error : ∀ ty, ty < Tryd.prog.types.size → Tryd.prog.rowNamed ty [101, 114, 114, 111, 114] = true → ty = 32 := by
  have h : ((List.range Tryd.prog.types.size).all fun ty => !Tryd.prog.rowNamed ty [101, 114, 114, 111, 114] || Nat.beq ty 32) = true := by kernel_rfl
  intro ty h1 h2
  have := List.all_eq_true.1 h ty (List.mem_range.2 h1)
  rw [h2] at this
  exact Nat.eq_of_beq_eq_true (by simpa using this)
theorem error_laid {W : World} {k : Nat} (hk : 3 < k) {laid : List (String × DataW Unit)} (hL : laidMetH Tryd.prog laid W) (hm : ("errors.errorType", Rows.laid_errors_errorType) ∈ laid) : SealedAt (sealBelow W k) 3 0 [rty 32] := by
  have h := (laidMetH_iff.1 hL).2 _ (List.mem_filter.2 ⟨hm, by kernel_rfl⟩)
  have h : ∃ name u ty, (Rows.laid_errors_errorType (H := Unit)).handleName? = some name ∧ (Tryd.prog.cutTypes.find? (·.1 == "internal/reflectlite.rtype")).map (·.2) = some u ∧ ty < Tryd.prog.types.size ∧ Tryd.prog.rowNamed ty name = true ∧
      W.var? Tryd.prog "errors.errorType" = some #[.iface u (.agg #[typeHandle Tryd.prog ty])] := h
  obtain ⟨name, u, ty, h1, h2, h3, h4, h5⟩ := h
  obtain rfl : [101, 114, 114, 111, 114] = name := Option.some.inj ((show (Rows.laid_errors_errorType (H := Unit)).handleName? = some [101, 114, 114, 111, 114] by kernel_rfl).symm.trans h1)
  obtain rfl : 217 = u := Option.some.inj ((show (Tryd.prog.cutTypes.find? (·.1 == "internal/reflectlite.rtype")).map (·.2) = some 217 by kernel_rfl).symm.trans h2)
  obtain rfl := rowNamed_error ty h3 h4
  obtain ⟨e, fz, hh⟩ := var_heap (show Tryd.prog.globalNamed "errors.errorType" = some 3 by kernel_rfl) h5
  exact sealed_below hk hh ⟨_, _, rfl, (rel_rty _).1, rfl⟩
/-- The witness world of a row that lists a type's handle: the handle in its cell, the rest laid. -/
noncomputable def handleWorld (os : Os) : World :=
  let w0 := World.holding Tryd.prog os ⟨#[], #[], []⟩
  { w0 with heap := w0.heap.modify 3 fun
      | .cells _ t frozen => .cells #[.iface 217 (.agg #[hdl 32])] t frozen
      | o => o }
def plainOf (laid : List (String × DataW Unit)) : List (String × DataW Unit) := laid.filter fun x => x.2.handleName?.isNone
noncomputable def handleLaid (os : Os) (laid : List (String × DataW Unit)) : World := (handleWorld os).layVars Tryd.prog (plainOf laid)
theorem handleLaid_os (os : Os) (laid : List (String × DataW Unit)) : (handleLaid os laid).os = os := World.layVars_os _ _ _
theorem handleLaid_met {os : Os} {laid : List (String × DataW Unit)} (args : Array Value) (hf : (handleWorld os).layFits Tryd.prog (plainOf laid) [] = true) (hi : (handleWorld os).layIfaces Tryd.prog (plainOf laid) (handleLaid os laid) = true)
    (hh : ((laid.filter fun x => x.2.handleName?.isSome).all (handleAtB Tryd.prog ((handleLaid os laid).forCall (fun _ _ => 0) ⟨#[], args, []⟩).memory)) = true) :
    laidMetH Tryd.prog laid ((handleLaid os laid).forCall (fun _ _ => 0) ⟨#[], args, []⟩).memory := by
  refine laidMetH_of_parts ?_ hh
  have e1 : ((plainOf laid).filter fun x => ((plainOf laid).map (·.1)).contains x.1) = plainOf laid := List.filter_eq_self.2 fun x hx => List.contains_iff_mem.2 (List.mem_map.2 ⟨x, hx, rfl⟩)
  have e2 : ((plainOf laid).filter fun x => !((plainOf laid).map (·.1)).contains x.1) = [] := List.filter_eq_nil_iff.2 fun x hx => by rw [List.contains_iff_mem.2 (List.mem_map.2 ⟨x, hx, rfl⟩)]; simp
  have h : laidMet Tryd.prog (plainOf laid) (handleLaid os laid) := laidMet_layVars (w0 := handleWorld os) ((plainOf laid).map (·.1)) [] (by rw [e1]; rfl) (by rw [e1]; exact hf) (by rw [e1]; exact hi) (by rw [e2]; exact LaidIn.none)
  exact h.of_heap (by simp [World.memory, World.forCall, Input.heap])
theorem glo_err {W : World} {k : Nat} (hk : 63 < k) {laid : List (String × DataW Unit)} (h3 : ("errors.errorType", Rows.laid_errors_errorType) ∈ laid)
    (hL : laidMetH Tryd.prog laid W) : (gloOf errTy).p (sealBelow W k) := by
  intro x hx
  simp only [List.mem_cons, List.not_mem_nil, or_false] at hx
  subst hx
  exact error_laid (by omega) hL h3
theorem glo_ute {W : World} {k : Nat} (hk : 63 < k) {laid : List (String × DataW Unit)} (h1 : ("unicode/utf8.first", Rows.laid_unicode_utf8_first) ∈ laid) (h2 : ("unicode/utf8.acceptRanges", Rows.laid_unicode_utf8_acceptRanges) ∈ laid) (h3 : ("errors.errorType", Rows.laid_errors_errorType) ∈ laid)
    (hL : laidMetH Tryd.prog laid W) : (gloOf [(6, firstTab), (7, acceptTab), (3, [rty 32])]).p (sealBelow W k) := by
  intro x hx
  simp only [List.mem_cons, List.not_mem_nil, or_false] at hx
  rcases hx with rfl | rfl | rfl
  · exact first_laid (by omega) hL h1
  · exact accept_laid (by omega) hL h2
  · exact error_laid (by omega) hL h3
end Go.Proofs.YtlmihggafbmkaaaDoor
