/- Parts of the proof of jsonWrites_card: Han, Upt, Lnb, Lai, Lu, Jsl. -/
import Derived.LaidSub
import Derived.LaidHandle
import Derived.OpenShut
import Derived.Lib.Join
import Derived.Deep.Strs
import Derived.Lib.ItoaNum
import Derived.Shelf.Vars
import Derived.SizedLaws
import Derived.Test.YtmgkpbgfkjedeaaDoorBae
import Derived.Test.YtmgkpbgfkjedeaaDoorBaf
import Derived.Test.YtmgkpbgfkjedeaaDoorBad
import Derived.Test.YtmgkpbgfkjedeaaDoorBaa
set_option linter.unusedVariables false
set_option linter.unusedSimpArgs false
namespace Go.Proofs.YtmgkpbgfkjedeaaDoor
open Go
theorem var_heap {P : Program} {w : World} {n : String} {g : Nat} {cs : Array Value} (hg : P.globalNamed n = some g) (hv : w.var? P n = some cs) : ∃ e fz, w.heap[g]? = some (.cells cs e fz) := by
  simp only [World.var?, hg, Option.bind_some] at hv
  split at hv
  · rename_i c e fz hh
    cases hv
    exact ⟨_, _, hh⟩
  · cases hv
/-- A list of package-level variables that are known. -/
def gloOf (L : List (Nat × List AVal)) : Glo := ⟨fun R => ∀ x, x ∈ L → SealedAt R x.1 0 x.2, fun _ _ hle h x hx => by
  obtain ⟨C, e, fz, h1, h2⟩ := h x hx
  exact ⟨C, e, fz, hle _ _ h1, relL_mono hle _ _ h2⟩⟩
theorem gloGet_mem : ∀ (L : List (Nat × List AVal)) {g : Nat} {cs : List AVal}, gloGet L g = some cs → (g, cs) ∈ L
  | [], _, _, h => by simp [gloGet] at h
  | (k, c) :: r, g, cs, h => by
    unfold gloGet at h
    split at h
    · rename_i e
      obtain rfl := Nat.eq_of_beq_eq_true e
      cases h
      exact List.mem_cons_self
    · exact List.mem_cons_of_mem _ (gloGet_mem r h)
theorem gloAll_of {L L' : List (Nat × List AVal)} (h : ∀ x, x ∈ L' → x ∈ L) : GloAll (gloOf L) L' := fun g cs hg R hR => hR (g, cs) (h _ (gloGet_mem L' hg))
theorem sealed_below {W : World} {k g : Nat} {C : Array Value} {e : TypeId} {fz : Nat × Nat} {cs : List AVal} (hk : g < k) (hW : W.heap[g]? = some (.cells C e fz)) (h : RelL (sealBelow W k) cs (C.toList.take cs.length)) : SealedAt (sealBelow W k) g 0 cs :=
  ⟨C, e, fz, by unfold sealBelow; rw [if_pos hk]; exact hW, by rw [List.drop_zero]; exact h⟩
theorem rowNamed_error : ∀ ty, ty < Tryd.prog.types.size → Tryd.prog.rowNamed ty [101, 114, 114, 111, 114] = true → ty = 31 := by
  have h : ((List.range Tryd.prog.types.size).all fun ty => !Tryd.prog.rowNamed ty [101, 114, 114, 111, 114] || Nat.beq ty 31) = true := by kernel_rfl
  intro ty h1 h2
  have := List.all_eq_true.1 h ty (List.mem_range.2 h1)
  rw [h2] at this
  exact Nat.eq_of_beq_eq_true (by simpa using this)
theorem error_laid {W : World} {k : Nat} (hk : 1 < k) {laid : List (String × DataW Unit)} (hL : laidMetH Tryd.prog laid W) (hm : ("errors.errorType", Rows.laid_errors_errorType) ∈ laid) : SealedAt (sealBelow W k) 1 0 [rty 31] := by
  have h := (laidMetH_iff.1 hL).2 _ (List.mem_filter.2 ⟨hm, by kernel_rfl⟩)
  have h : ∃ name u ty, (Rows.laid_errors_errorType (H := Unit)).handleName? = some name ∧ (Tryd.prog.cutTypes.find? (·.1 == "internal/reflectlite.rtype")).map (·.2) = some u ∧ ty < Tryd.prog.types.size ∧ Tryd.prog.rowNamed ty name = true ∧
      W.var? Tryd.prog "errors.errorType" = some #[.iface u (.agg #[typeHandle Tryd.prog ty])] := h
  obtain ⟨name, u, ty, h1, h2, h3, h4, h5⟩ := h
  obtain rfl : [101, 114, 114, 111, 114] = name := Option.some.inj ((show (Rows.laid_errors_errorType (H := Unit)).handleName? = some [101, 114, 114, 111, 114] by kernel_rfl).symm.trans h1)
  obtain rfl : 110 = u := Option.some.inj ((show (Tryd.prog.cutTypes.find? (·.1 == "internal/reflectlite.rtype")).map (·.2) = some 110 by kernel_rfl).symm.trans h2)
  obtain rfl := rowNamed_error ty h3 h4
  obtain ⟨e, fz, hh⟩ := var_heap (show Tryd.prog.globalNamed "errors.errorType" = some 1 by kernel_rfl) h5
  exact sealed_below hk hh ⟨_, _, rfl, (rel_rty _).1, rfl⟩
/-- The witness world of a row that lists a type's handle: the handle in its cell, the rest laid. -/
noncomputable def handleWorld (os : Os) : World :=
  let w0 := World.holding Tryd.prog os ⟨#[], #[], []⟩
  { w0 with heap := w0.heap.modify 1 fun
      | .cells _ t frozen => .cells #[.iface 110 (.agg #[hdl 31])] t frozen
      | o => o }
def plainOf (laid : List (String × DataW Unit)) : List (String × DataW Unit) := laid.filter fun x => x.2.handleName?.isNone
noncomputable def handleLaid (os : Os) (laid : List (String × DataW Unit)) : World := (handleWorld os).layVars Tryd.prog (plainOf laid)
theorem handleLaid_os (os : Os) (laid : List (String × DataW Unit)) : (handleLaid os laid).os = os := World.layVars_os _ _ _
theorem handleLaid_met {os : Os} {laid : List (String × DataW Unit)} (args : Array Value) (hf : (handleWorld os).layFits Tryd.prog (plainOf laid) [] = true) (hi : (handleWorld os).layIfaces Tryd.prog (plainOf laid) (handleLaid os laid) = true)
    (hh : ((laid.filter fun x => x.2.handleName?.isSome).all (handleAtB Tryd.prog ((handleLaid os laid).forCall (fun _ _ => 0) ⟨#[], args, []⟩).memory)) = true) :
    laidMetH Tryd.prog laid ((handleLaid os laid).forCall (fun _ _ => 0) ⟨#[], args, []⟩).memory := by
  refine laidMetH_of_parts ?_ hh
  have e1 : ((plainOf laid).filter fun x => ((plainOf laid).map (·.1)).contains x.1) = plainOf laid := List.filter_eq_self.2 fun x hx => List.contains_iff_mem.2 (List.mem_map.2 ⟨x, hx, rfl⟩)
  have e2 : ((plainOf laid).filter fun x => !((plainOf laid).map (·.1)).contains x.1) = [] := List.filter_eq_nil_iff.2 fun x hx => by rw [List.contains_iff_mem.2 (List.mem_map.2 ⟨x, hx, rfl⟩)]; simp
  have h : laidMet Tryd.prog (plainOf laid) (handleLaid os laid) := laidMet_layVars (w0 := handleWorld os) ((plainOf laid).map (·.1)) [] (by rw [e1]; rfl) (by rw [e1]; exact hf) (by rw [e1]; exact hi) (by rw [e2]; exact LaidIn.none)
  exact h.of_heap (by simp [World.memory, World.forCall, Input.heap])
theorem err_lt {W : World} {laid : List (String × DataW Unit)} (hL : laidMetH Tryd.prog laid W) (hm : ("errors.errorType", Rows.laid_errors_errorType) ∈ laid) : 1 < W.heap.size := by
  have h := (laidMetH_iff.1 hL).2 _ (List.mem_filter.2 ⟨hm, by kernel_rfl⟩)
  obtain ⟨name, u, ty, h1, h2, h3, h4, h5⟩ := h
  obtain ⟨e, fz, hh⟩ := var_heap (show Tryd.prog.globalNamed "errors.errorType" = some 1 by kernel_rfl) h5
  exact (Array.getElem?_eq_some_iff.1 hh).1
/-- A call's end; what was there below stays. -/
theorem law_below {P : Program} {G : Glo} {f : FuncId} {avs : List AVal} {c : Bool} {args : Array Value} {W : World} {R : Seal} (hs : FnIs P G f avs (.bool c)) (hc : (callFunc f args).run P W = .ok (.enter f args) W)
    (hG : G.p R) (hR : Sealed R W) (ha : RelV R avs args.toList) : Calls P f args W fun e W' => e = .returned (.bool c) ∧ (∀ may, W.keptBut W' may) ∧ Go.RowKit.Below W.heap.size W W' := by
  rcases hs R W args hG (ms_start W R G hG hR) ha with ⟨_, h⟩ | ⟨v, w', h, _⟩
  · refine h.mono fun e W' ⟨res, H', R', ⟨hr, hH⟩, he, hm⟩ => ?_
    subst hr
    obtain ⟨x, rfl, hx⟩ := he
    refine ⟨by rw [rel_bool.1 hx], fun may => keptBut_of_ext hm.ext may, ⟨hm.ext.os, hm.ext.tape, hm.ext.output, hm.ext.size, fun k hk => hm.ext.block k hk (fun h => absurd h List.not_mem_nil)⟩⟩
  · rw [hc] at h
    cases h
end Go.Proofs.YtmgkpbgfkjedeaaDoor
namespace Go.Proofs.YtmgkpbgfkjedeaaDoor
open Go.ChangeShapes Go.WideShapes Go.ChangeAt Go.RowKit Go.WideMaps Go.WideElems
theorem bulk_pos {H : Type} (d : DataW H) : 1 ≤ Rows.uptoBulk d := by
  cases d with
  | lit l => cases l <;> simp [Rows.uptoBulk]
  | _ => simp [Rows.uptoBulk]
theorem bulk_strs {H : Type} : ∀ l : List (List UInt8), Rows.uptoBulkAll (H := H) (l.map fun s => .lit (.string s)) = Lib.lens l + l.length
  | [] => rfl
  | s :: r => by
    have e1 : Lib.lens (s :: r) = s.length + Lib.lens r := by simp [Lib.lens]
    have h := bulk_strs (H := H) r
    simp only [List.map_cons, Rows.uptoBulkAll, Rows.uptoBulk, h, e1, List.length_cons]
    omega
section
variable {H : Type} {enc : TypeId × Value → H} {W : World}
/-- A row of cells in old memory, as a list. -/
theorem rel_list {m : Nat} {f : Nat → AVal} {a : Addr} {cap : Nat} (hm : m ≤ cap) {V : Nat → Value} (hV : ∀ i, i < m → W.cell? (a.add i) = some (V i) ∧ RelC (sealBelow W W.heap.size) (f i) [V i]) :
    Rel (sealBelow W W.heap.size) (.list 1 m f) (.slice (some a) m cap) := by
  refine ⟨⟨some a, cap, rfl, hm, ?_⟩, rfl⟩
  rcases Nat.eq_zero_or_pos m with h0 | h0
  · exact .inl h0
  · refine .inr ?_
    obtain ⟨b, o, sp⟩ := a
    have h1 := (hV 0 h0).1
    rw [show (⟨b, o, sp⟩ : Addr).add 0 = ⟨b, o, sp⟩ from rfl] at h1
    unfold World.cell? at h1
    dsimp only at h1
    cases hW : W.heap[b]? with
    | none => rw [hW] at h1; cases h1
    | some ob =>
      cases ob with
      | cells C e fz =>
        rw [hW] at h1
        cases sp with
        | some s => simp at h1
        | none =>
          refine ⟨b, o, C, e, fz, rfl, ?_, fun i hi => ?_⟩
          · unfold sealBelow
            rw [if_pos (Array.getElem?_eq_some_iff.1 hW).1]
            exact hW
          · obtain ⟨h2, h3⟩ := hV i hi
            have ha : (⟨b, o, none⟩ : Addr).add i = ⟨b, o + i, none⟩ := by
              unfold Addr.add
              split
              · rename_i h; rw [h]; rfl
              · rfl
            rw [ha] at h2
            have hci : C[o + i]? = some (V i) := by
              unfold World.cell? at h2
              simpa [hW] using h2
            have hlt : o + i < C.toList.length := by simpa using (Array.getElem?_eq_some_iff.1 hci).1
            have e1 : (C.toList.drop (o + i * 1)).take 1 = [V i] := by
              rw [Nat.mul_one, List.drop_eq_getElem_cons hlt, List.take_succ_cons, List.take_zero]
              have : C.toList[o + i]? = some (V i) := by rw [Array.getElem?_toList]; exact hci
              rw [List.getElem?_eq_getElem hlt] at this
              rw [Option.some.inj this]
            rw [e1]
            exact h3
      | _ => rw [hW] at h1; cases h1
end
end Go.Proofs.YtmgkpbgfkjedeaaDoor
namespace Go.Proofs.YtmgkpbgfkjedeaaDoor
open Go Go.ChangeShapes Go.WideShapes Go.ChangeAt Go.RowKit Go.WideMaps Go.WideElems
theorem four_of {α : Type} {l : List α} (h : l.length = 4) : ∃ a b c d, l = [a, b, c, d] := by
  match l, h with
  | [a, b, c, d], _ => exact ⟨a, b, c, d, rfl⟩
theorem addr_add (b o n : Nat) : (⟨b, o, none⟩ : Addr).add n = ⟨b, o + n, none⟩ := by
  unfold Addr.add
  split
  · rename_i h; rw [h]; rfl
  · rfl
theorem cell_none {W : World} {b o : Nat} {C : Array Value} {e : TypeId} {fz : Nat × Nat} (h : W.heap[b]? = some (.cells C e fz)) : W.cell? ⟨b, o, none⟩ = C[o]? := by
  unfold World.cell?
  simp [h]
section
variable {H : Type} {enc : TypeId × Value → H} {W : World}
/-- A row in old memory whose elements have several cells, as a list. -/
theorem rel_listZ {sz m : Nat} (hz : 0 < sz) {f : Nat → AVal} {a : Addr} {cap : Nat} (hm : m ≤ cap) {cs : Nat → List Value} (hV : ∀ i, i < m → W.cells? 0 (a.add (i * sz)) sz = some (cs i) ∧ RelC (sealBelow W W.heap.size) (f i) (cs i)) :
    Rel (sealBelow W W.heap.size) (.list sz m f) (.slice (some a) m cap) := by
  refine ⟨⟨some a, cap, rfl, hm, ?_⟩, rfl⟩
  rcases Nat.eq_zero_or_pos m with h0 | h0
  · exact .inl h0
  · refine .inr ?_
    obtain ⟨b, o, sp⟩ := a
    obtain ⟨_, hl0, hc0⟩ := World.cells?_some (hV 0 h0).1
    have h1 := hc0 0 hz
    rw [Nat.zero_mul, show (⟨b, o, sp⟩ : Addr).add 0 = ⟨b, o, sp⟩ from rfl, show (⟨b, o, sp⟩ : Addr).add 0 = ⟨b, o, sp⟩ from rfl, List.getElem?_eq_getElem (by omega)] at h1
    unfold World.cell? at h1
    dsimp only at h1
    cases hW : W.heap[b]? with
    | none => rw [hW] at h1; cases h1
    | some ob =>
      cases ob with
      | cells C e fz =>
        rw [hW] at h1
        cases sp with
        | some s => simp at h1
        | none =>
          refine ⟨b, o, C, e, fz, rfl, ?_, fun i hi => ?_⟩
          · unfold sealBelow
            rw [if_pos (Array.getElem?_eq_some_iff.1 hW).1]
            exact hW
          · obtain ⟨h2, h3⟩ := hV i hi
            obtain ⟨_, hl, hc⟩ := World.cells?_some h2
            have e1 : (C.toList.drop (o + i * sz)).take sz = cs i := by
              refine List.ext_getElem? fun k => ?_
              by_cases hk : k < sz
              · have h4 := hc k hk
                rw [addr_add, addr_add, cell_none hW] at h4
                rw [← h4, List.getElem?_take_of_lt hk, List.getElem?_drop, Array.getElem?_toList]
              · rw [List.getElem?_eq_none (by rw [List.length_take]; omega), List.getElem?_eq_none (by omega)]
            rw [e1]
            exact h3
      | _ => rw [hW] at h1; cases h1
end
end Go.Proofs.YtmgkpbgfkjedeaaDoor
namespace Go.Proofs.YtmgkpbgfkjedeaaDoor
open Go
theorem chunks {α β : Type} (k : Nat) (E : α → List β) (hE : ∀ z, (E z).length = k) : ∀ (zs : List α) (cs : List β), cs.length = zs.length * k →
    (∀ i z, zs[i]? = some z → (cs.drop (i * k)).take k = E z) → cs = zs.flatMap E
  | [], cs, hl, _ => by
    simp only [List.length_nil, Nat.zero_mul] at hl
    simp [List.eq_nil_of_length_eq_zero hl]
  | z :: zs, cs, hl, h => by
    have h0 := h 0 z rfl
    simp only [Nat.zero_mul, List.drop_zero] at h0
    have hr := chunks k E hE zs (cs.drop k) (by rw [List.length_drop, hl, List.length_cons, Nat.succ_mul]; omega) (fun i y hy => by
      have := h (i + 1) y hy
      rw [List.drop_drop]
      rw [Nat.succ_mul, Nat.add_comm] at this
      exact this)
    rw [List.flatMap_cons, ← h0, ← hr, List.take_append_drop]
theorem relL_ints {R : Seal} : ∀ (l : List (IntKind × Int)), RelL R (l.map fun x => .int x.1 x.2) (l.map fun x => .int x.1 x.2)
  | [] => rfl
  | _ :: l => ⟨_, _, rfl, rfl, relL_ints l⟩
section
variable {P : Program} {H : Type} {enc : TypeId × Value → H} {w : World} {base : Nat} {spare : Nat → Bool} {held : Bool}
theorem trod_ints {t e n fuel : Nat} {k : IntKind} {cs : List Value} {ps : List MemPlace} {zs : List Nat} (ht : P.underlying t = some (.array n e)) (he : P.underlying e = some (.int k)) (hc : P.cellsOf e = 1) (hct : P.cellsOf t = n)
    (h : DataW.trod enc P w base spare held fuel t cs = some (.agg (zs.map fun x : Nat => .lit (.int k (x : Int))), ps)) (hz : zs.length = n) : cs = zs.flatMap fun x : Nat => [Value.int k (x : Int)] := by
  obtain ⟨xs, m, _, ex, hl, hxl, hel⟩ := DataW.trod_array ht h
  have e3 : (xs.map (·.1)) = zs.map fun x : Nat => .lit (.int k x) := (DataW.agg.inj (Prod.mk.inj ex).1).symm
  refine chunks 1 _ (fun _ => rfl) zs cs (by omega) (fun i z hi => ?_)
  have hin : i < zs.length := (List.getElem?_eq_some_iff.1 hi).1
  have hE := hel i (by omega)
  rw [hc, List.getElem?_eq_getElem (by omega)] at hE
  obtain ⟨y, e1, e2, _⟩ := DataW.trod_int he hE
  have e4 : (xs.map (·.1))[i]? = (zs.map fun x : Nat => (DataW.lit (.int k x) : DataW H))[i]? := by rw [e3]
  rw [List.getElem?_map, List.getElem?_map, List.getElem?_eq_getElem (by omega : i < xs.length), hi, e2] at e4
  simp only [Option.map_some, Option.some.injEq, DataW.lit.injEq, Lit.int.injEq, true_and] at e4
  rw [e1, e4]
end
/-- One laid variable. -/
theorem laid_at {P : Program} {W : World} {laid : List (String × DataW Unit)} (hL : laidMetH P laid W) {n : String} {d : DataW Unit} (hm : (n, d) ∈ laid) (hn : d.handleName?.isNone = true) {g : Nat} {t : TypeId} (hg : P.globalNamed n = some g) (ht : (P.globals[g]?).map (·.type) = some t) :
    ∃ cs e fz fuel p, W.heap[g]? = some (.cells cs e fz) ∧ DataW.trod (fun _ => ()) P W 0 (fun _ => true) false fuel t cs.toList = some (d, p) := by
  have h1 := (laidMetH_iff.1 hL).1
  obtain ⟨ps, h, _⟩ := h1
  have key : ∀ (l : List (String × DataW Unit)) (ps : List MemPlace), DataW.LaidVars P W l ps → (n, d) ∈ l → ∃ cs e fz fuel p, W.heap[g]? = some (.cells cs e fz) ∧ DataW.trod (fun _ => ()) P W 0 (fun _ => true) false fuel t cs.toList = some (d, p) := by
    intro l
    induction l with
    | nil => intro ps _ hm; cases hm
    | cons a r ih =>
      obtain ⟨m, b⟩ := a
      rintro ps ⟨g', t', cs, fuel, p, q, e1, e2, e3, e4, e5, _⟩ hm
      rcases List.mem_cons.1 hm with hm | hm
      · cases hm
        obtain rfl := Option.some.inj (hg.symm.trans e1)
        obtain rfl := Option.some.inj (ht.symm.trans e2)
        obtain ⟨e, fz, hh⟩ := var_heap hg e3
        exact ⟨cs, e, fz, fuel, p, hh, e4⟩
      · exact ih q e5 hm
  exact key _ ps h (List.mem_filter.2 ⟨hm, hn⟩)
theorem block_lt {W : World} {g : Nat} {o : Obj} (h : W.heap[g]? = some o) : g < W.heap.size := (Array.getElem?_eq_some_iff.1 h).1
theorem laid_lt {W : World} {laid : List (String × DataW Unit)} (hL : laidMetH Tryd.prog laid W) {n : String} {d : DataW Unit} (hm : (n, d) ∈ laid) (hn : d.handleName?.isNone = true) {g : Nat} {t : TypeId} (hg : Tryd.prog.globalNamed n = some g) (ht : (Tryd.prog.globals[g]?).map (·.type) = some t) : g < W.heap.size := by
  obtain ⟨_, _, _, _, _, hW, _⟩ := laid_at hL hm hn hg ht
  exact block_lt hW
end Go.Proofs.YtmgkpbgfkjedeaaDoor
namespace Go.Proofs.YtmgkpbgfkjedeaaDoor
open Go
section
variable {P : Program} {H : Type} {enc : TypeId × Value → H} {w : World} {base : Nat} {spare : Nat → Bool} {held : Bool}
theorem trod_pairs {t e n fuel u : Nat} {k : IntKind} {f0 f1 : Field} {cs : List Value} {ps : List MemPlace} {zs : List (Nat × Nat)} (ht : P.underlying t = some (.array n e)) (he : P.underlying e = some (.struct #[f0, f1])) (hc : P.cellsOf e = 2) (hct : P.cellsOf t = n * 2)
    (hf0 : f0.type = u) (hf1 : f1.type = u) (ho0 : f0.offset = 0) (ho1 : f1.offset = 1) (hu : P.underlying u = some (.int k)) (hcu : P.cellsOf u = 1)
    (h : DataW.trod enc P w base spare held fuel t cs = some (.agg (zs.map fun x : Nat × Nat => .agg [.lit (.int k (x.1 : Int)), .lit (.int k (x.2 : Int))]), ps)) (hz : zs.length = n) : cs = zs.flatMap fun x : Nat × Nat => [Value.int k (x.1 : Int), Value.int k (x.2 : Int)] := by
  obtain ⟨xs, m, _, ex, hl, hxl, hel⟩ := DataW.trod_array ht h
  have e3 : (xs.map (·.1)) = zs.map fun x : Nat × Nat => .agg [.lit (.int k x.1), .lit (.int k x.2)] := (DataW.agg.inj (Prod.mk.inj ex).1).symm
  refine chunks 2 _ (fun _ => rfl) zs cs (by omega) (fun i z hi => ?_)
  have hin : i < zs.length := (List.getElem?_eq_some_iff.1 hi).1
  have hE := hel i (by omega)
  rw [hc, List.getElem?_eq_getElem (by omega)] at hE
  generalize hcc : (cs.drop (i * 2)).take 2 = c at hE
  obtain ⟨y0, y1, m', e2, hl2, h0, h1⟩ := Go.ChangeShapes.trod_struct2 he hE
  rw [hf0, ho0, hcu] at h0
  rw [hf1, ho1, hcu] at h1
  obtain ⟨a0, c0, d0, _⟩ := DataW.trod_int hu h0
  obtain ⟨a1, c1, d1, _⟩ := DataW.trod_int hu h1
  have e4 : (xs.map (·.1))[i]? = (zs.map fun x : Nat × Nat => (DataW.agg [.lit (.int k x.1), .lit (.int k x.2)] : DataW H))[i]? := by rw [e3]
  rw [List.getElem?_map, List.getElem?_map, List.getElem?_eq_getElem (by omega : i < xs.length), hi, e2, d0, d1] at e4
  simp only [Option.map_some, Option.some.injEq, DataW.agg.injEq, List.cons.injEq, DataW.lit.injEq, Lit.int.injEq, true_and, and_true] at e4
  rw [hc] at hl2
  match c, hl2 with
  | [x0, x1], _ =>
    simp only [List.drop_zero, List.take_succ_cons, List.take_zero, List.cons.injEq, and_true, List.drop_succ_cons] at c0 c1
    rw [c0, c1, e4.1, e4.2]
end
theorem first_laid {W : World} {k : Nat} (hk : 2 < k) {laid : List (String × DataW Unit)} (hL : laidMetH Tryd.prog laid W) (hm : ("unicode/utf8.first", Rows.laid_unicode_utf8_first) ∈ laid) : SealedAt (sealBelow W k) 2 0 firstTab := by
  obtain ⟨C, e, fz, fuel, p, hW, hd⟩ := laid_at hL hm (by kernel_rfl) (g := 2) (t := 98) (by kernel_rfl) (by kernel_rfl)
  refine sealed_below hk hW ?_
  have hc := trod_ints (n := 256) (zs := Go.Pinned.utf8FirstZ) Tryd.underlying98 Tryd.underlying5 (by kernel_rfl) (by kernel_rfl) hd (by kernel_rfl)
  have e1 : firstTab = (Go.Pinned.utf8FirstZ.map fun x : Nat => (IntKind.u8, (x : Int))).map fun x => .int x.1 x.2 := by simp [firstTab]
  have e2 : C.toList.take firstTab.length = (Go.Pinned.utf8FirstZ.map fun x : Nat => (IntKind.u8, (x : Int))).map fun x => .int x.1 x.2 := by
    have : C.toList = Go.Pinned.utf8FirstZ.map fun x : Nat => Value.int .u8 (x : Int) := by
      rw [hc]; generalize Go.Pinned.utf8FirstZ = l; induction l <;> simp_all
    rw [this, List.take_of_length_le (by simp [firstTab])]
    simp
  rw [e2, e1]
  exact relL_ints _
def acceptZ : List (Nat × Nat) := [(128, 191), (160, 191), (128, 159), (144, 191), (128, 143), (0, 0), (0, 0), (0, 0), (0, 0), (0, 0), (0, 0), (0, 0), (0, 0), (0, 0), (0, 0), (0, 0)]
theorem accept_laid {W : World} {k : Nat} (hk : 3 < k) {laid : List (String × DataW Unit)} (hL : laidMetH Tryd.prog laid W) (hm : ("unicode/utf8.acceptRanges", Rows.laid_unicode_utf8_acceptRanges) ∈ laid) : SealedAt (sealBelow W k) 3 0 acceptTab := by
  obtain ⟨C, e, fz, fuel, p, hW, hd⟩ := laid_at hL hm (by kernel_rfl) (g := 3) (t := 101) (by kernel_rfl) (by kernel_rfl)
  refine sealed_below hk hW ?_
  rw [trod_pairs (n := 16) (zs := acceptZ) Tryd.underlying101 Tryd.underlying100 (by kernel_rfl) (by kernel_rfl) rfl rfl rfl rfl Tryd.underlying5 (by kernel_rfl) hd (by kernel_rfl)]
  exact relL_ints ((acceptZ.flatMap fun x : Nat × Nat => [x.1, x.2]).map fun x : Nat => (IntKind.u8, (x : Int)))
end Go.Proofs.YtmgkpbgfkjedeaaDoor
namespace Go.Proofs.YtmgkpbgfkjedeaaDoor
open Go Go.ChangeShapes Go.WideShapes Go.ChangeAt Go.RowKit Go.WideMaps Go.WideElems
instance : Inhabited Js := ⟨Js.z⟩
theorem bulk_range {H : Type} (D : Nat → DataW H) (m : Nat) : Rows.uptoBulkAll ((List.range m).map D) = sumR m (fun i => Rows.uptoBulk (D i)) := by
  have h : ∀ l : List Nat, Rows.uptoBulkAll (l.map D) = (l.map fun i => Rows.uptoBulk (D i)).sum := by
    intro l
    induction l with
    | nil => rfl
    | cons x l ih => simp only [List.map_cons, Rows.uptoBulkAll, List.sum_cons, ih]
  exact h _
section
variable {H : Type} {enc : TypeId × Value → H} {W : World}
theorem rel_strsB {fuel : Nat} {spare : Nat → Bool} {held : Bool} {v : Value} {x : DataW H × List MemPlace} (h : DataW.trod enc Tryd.prog W 0 spare held fuel 22 [v] = some x) :
    ∃ l : List (List UInt8), Rel (sealBelow W W.heap.size) (.list 1 l.length (strsF l)) v ∧ l.length + Lib.lens l + 1 ≤ Rows.uptoBulk x.1 := by
  rcases Go.Deep.open_strs Tryd.underlying22 Tryd.underlying9 (by kernel_rfl) h with ⟨hv, rfl⟩ | ⟨a, len, cap, m, Sx, hv, _, hl, _, hm, rfl, hx⟩
  · obtain rfl : v = .slice none 0 0 := by simpa using hv
    exact ⟨[], ⟨⟨none, 0, rfl, Nat.le_refl _, .inl rfl⟩, rfl⟩, by simp [Rows.uptoBulk, Lib.lens]⟩
  · obtain rfl : v = .slice (some a) len cap := by simpa using hv
    have hlm : len ≤ m := by rw [hm]; split <;> omega
    let l : List (List UInt8) := (List.range len).map fun i => (Sx i).data.toList
    have hll : l.length = len := by simp [l]
    have hget : ∀ i, i < len → l.getD i [] = (Sx i).data.toList := fun i hi => by simp [l, List.getD, hi]
    refine ⟨l, ?_, ?_⟩
    · rw [hll]
      refine rel_list hl (V := fun i => .string (Sx i)) (fun i hi => ⟨(hx i (by omega)).1, ?_⟩)
      have := (rel_str (R := sealBelow W W.heap.size) (s := l.getD i []) (v := .string (Sx i))).2 (by rw [hget i hi, str_mk])
      exact this.1
    · have e1 : ((List.range len).map fun i => (DataW.lit (.string (Sx i).data.toList) : DataW H)) = l.map fun s => .lit (.string s) := by simp [l, List.map_map, Function.comp_def]
      have h1 := bulk_strs (H := H) l
      simp only [Rows.uptoBulk]
      rw [e1, h1]
      omega
theorem rel_jsonC : ∀ (N : Nat) {fuel : Nat} {spare : Nat → Bool} {held : Bool} {cs : List Value} {x : DataW H × List MemPlace}, DataW.trod enc Tryd.prog W 0 spare held fuel 25 cs = some x → Rows.uptoBulk x.1 ≤ N →
    ∃ j : Js, RelC (sealBelow W W.heap.size) (Js.R N j) cs ∧ Js.le N j ∧ Js.sz N j ≤ Rows.uptoBulk x.1
  | 0, fuel, spare, held, cs, x, h, hb => by have := bulk_pos x.1; omega
  | N + 1, fuel, spare, held, cs, x, h, hb => by
    obtain ⟨xs, n, _, hx, hl, hxl, hf⟩ := DataW.trod_struct Tryd.underlying25 h
    have hc : Tryd.prog.cellsOf 25 = 4 := by kernel_rfl
    have hci : Tryd.prog.cellsOf 3 = 1 := by kernel_rfl
    have hcs : Tryd.prog.cellsOf 9 = 1 := by kernel_rfl
    have hck : Tryd.prog.cellsOf 22 = 1 := by kernel_rfl
    have hcl : Tryd.prog.cellsOf 23 = 1 := by kernel_rfl
    rw [hc] at hl
    have hxl : xs.length = 4 := hxl
    obtain ⟨x0, x1, x2, x3, rfl⟩ := four_of hxl
    obtain ⟨u0, u1, u2, u3, rfl⟩ := four_of hl
    have g0 : DataW.trod enc Tryd.prog W 0 spare held n 3 (([u0, u1, u2, u3].drop 0).take (Tryd.prog.cellsOf 3)) = some x0 := hf 0 _ rfl
    have g1 : DataW.trod enc Tryd.prog W 0 spare held n 9 (([u0, u1, u2, u3].drop 1).take (Tryd.prog.cellsOf 9)) = some x1 := hf 1 _ rfl
    have g2 : DataW.trod enc Tryd.prog W 0 spare held n 22 (([u0, u1, u2, u3].drop 2).take (Tryd.prog.cellsOf 22)) = some x2 := hf 2 _ rfl
    have g3 : DataW.trod enc Tryd.prog W 0 spare held n 23 (([u0, u1, u2, u3].drop 3).take (Tryd.prog.cellsOf 23)) = some x3 := hf 3 _ rfl
    rw [hci] at g0
    rw [hcs] at g1
    rw [hck] at g2
    rw [hcl] at g3
    simp only [List.drop_zero, List.drop_succ_cons, List.take_succ_cons, List.take_zero] at g0 g1 g2 g3
    rw [hx] at hb ⊢
    simp only [List.map_cons, List.map_nil, Rows.uptoBulk, Rows.uptoBulkAll] at hb ⊢
    obtain ⟨n0, q0, _, _⟩ := DataW.trod_int Tryd.underlying3 g0
    obtain ⟨s1, q1, e1, _⟩ := DataW.trod_string Tryd.underlying9 g1
    obtain ⟨ks, r2, h2⟩ := rel_strsB g2
    rw [e1] at hb ⊢
    simp only [Rows.uptoBulk] at hb ⊢
    obtain rfl := List.singleton_inj.1 q0
    obtain rfl := List.singleton_inj.1 q1
    rcases Go.Deep.open_slice Tryd.underlying23 g3 with ⟨hv, rfl⟩ | ⟨a, len, cap, m, n', D, Pl, hv, _, hlc, _, hm, rfl, hx3⟩
    · obtain rfl : u3 = .slice none 0 0 := by simpa using hv
      refine ⟨.mk n0 s1.data.toList ks [], ?_, fun i hi => absurd hi (Nat.not_lt_zero _), ?_⟩
      · exact ⟨_, _, rfl, rfl, _, _, rfl, by (show RelC _ (.str s1.data.toList) _); rw [RelC, str_mk], _, _, rfl, rel_one r2 rfl, _, _, rfl, ⟨none, 0, rfl, Nat.le_refl _, .inl rfl⟩, rfl⟩
      · rw [sz_succ]
        show s1.data.toList.length + ks.length + Lib.lens ks + 1 + 0 ≤ _
        omega
    · obtain rfl : u3 = .slice (some a) len cap := by simpa using hv
      rw [hc] at hx3
      have hlm : len ≤ m := by rw [hm]; split <;> omega
      simp only [Rows.uptoBulk, bulk_range] at hb ⊢
      have hD : ∀ i, i < len → Rows.uptoBulk (D i) ≤ N := fun i hi => by
        have := sumR_at (g := fun i => Rows.uptoBulk (D i)) hi
        omega
      obtain ⟨Cx, hCx⟩ := Go.Deep.choose_lt (α := List Value) (n := len) (p := fun i cs => W.cells? 0 (a.add (i * 4)) 4 = some cs ∧ DataW.trod enc Tryd.prog W 0 spare held n' 25 cs = some (D i, Pl i)) (fun i hi => hx3 i (by omega))
      obtain ⟨Lx, hLx⟩ := Go.Deep.choose_lt (α := Js) (n := len) (p := fun i q => RelC (sealBelow W W.heap.size) (Js.R N q) (Cx i) ∧ Js.le N q ∧ Js.sz N q ≤ Rows.uptoBulk (D i)) (fun i hi => rel_jsonC N (hCx i hi).2 (hD i hi))
      let L : List Js := (List.range len).map Lx
      have hll : L.length = len := by simp [L]
      have hget : ∀ i, i < len → atJ L i = Lx i := fun i hi => by simp [L, List.getD, hi]
      have r3 : Rel (sealBelow W W.heap.size) (.list 4 L.length (jsF (N + 1) L)) (.slice (some a) len cap) := by
        rw [hll]
        refine rel_listZ (by decide) hlc (cs := Cx) (fun i hi => ⟨(hCx i hi).1, ?_⟩)
        rw [jsF_at, hget i hi]
        exact (hLx i hi).1
      refine ⟨.mk n0 s1.data.toList ks L, ?_, ?_, ?_⟩
      · exact ⟨_, _, rfl, rfl, _, _, rfl, by (show RelC _ (.str s1.data.toList) _); rw [RelC, str_mk], _, _, rfl, rel_one r2 rfl, _, _, rfl, rel_one r3 rfl, rfl⟩
      · intro i hi
        have hi : i < L.length := hi
        show Js.le N (atJ L i)
        rw [hget i (by omega)]
        exact (hLx i (by omega)).2.1
      · rw [sz_succ]
        show s1.data.toList.length + ks.length + Lib.lens ks + 1 + sumR L.length (fun i => Js.sz N (atJ L i)) ≤ _
        rw [hll]
        have h4 : sumR len (fun i => Js.sz N (atJ L i)) ≤ sumR len (fun i => Rows.uptoBulk (D i)) := sumR_le fun i hi => by rw [hget i hi]; exact (hLx i hi).2.2
        omega
end
theorem bru_laid {W : World} {k : Nat} (hk : 6 < k) {laid : List (String × DataW Unit)} (hL : laidMetH Tryd.prog laid W) (hm : ("math/bits.deBruijn64tab", Rows.laid_math_bits_deBruijn64tab) ∈ laid) : SealedAt (sealBelow W k) 6 0 (bruL.map fun z => .int .u8 z) := by
  obtain ⟨C, e, fz, fuel, p, hW, hd⟩ := laid_at hL hm (by kernel_rfl) (g := 6) (t := 127) (by kernel_rfl) (by kernel_rfl)
  refine sealed_below hk hW ?_
  have hc := trod_ints (n := 64) (zs := bruL.map Int.toNat) Tryd.underlying127 Tryd.underlying5 (by kernel_rfl) (by kernel_rfl) hd (by kernel_rfl)
  rw [hc]
  exact relL_ints (bruL.map fun z => (IntKind.u8, z))
end Go.Proofs.YtmgkpbgfkjedeaaDoor
