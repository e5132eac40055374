/- Dates and times: what the table of the reference holds, and a stamp as an argument. -/
import Derived.Test.YtlmihggafbmkaaaDoorLai
namespace Go.Proofs.YtlmihggafbmkaaaDoor
open Go Go.ChangeShapes Go.WideShapes
theorem cell_block {W : World} {a : Addr} {v : Value} (h : W.cell? a = some v) : ∃ b o C e fz, a = ⟨b, o, none⟩ ∧ W.heap[b]? = some (.cells C e fz) := by
  obtain ⟨b, o, sp⟩ := a
  unfold World.cell? at h
  dsimp only at h
  cases hW : W.heap[b]? with
  | none => rw [hW] at h; cases h
  | some ob =>
    cases ob with
    | cells C e fz =>
      rw [hW] at h
      cases sp with
      | some s => simp at h
      | none => exact ⟨b, o, C, e, fz, rfl, hW⟩
    | _ => rw [hW] at h; cases h
theorem add_none (b o i : Nat) : (⟨b, o, none⟩ : Addr).add i = ⟨b, o + i, none⟩ := by
  unfold Addr.add
  split
  · rename_i h; rw [h]; rfl
  · rfl
theorem cell_at {W : World} {b o : Nat} {C : Array Value} {e : TypeId} {fz : Nat × Nat} (hW : W.heap[b]? = some (.cells C e fz)) : W.cell? ⟨b, o, none⟩ = C.toList[o]? := by
  unfold World.cell?
  simp [hW]
/-- Cells read one after the other are a part of their block. -/
theorem cells_take {W : World} {base b o n : Nat} {C : Array Value} {e : TypeId} {fz : Nat × Nat} (hW : W.heap[b]? = some (.cells C e fz)) {cs : List Value} (h : W.cells? base ⟨b, o, none⟩ n = some cs) : (C.toList.drop o).take n = cs := by
  obtain ⟨_, hl, hi⟩ := World.cells?_some h
  have hx : ∀ i, i < n → C.toList[o + i]? = cs[i]? := fun i k => by
    have := hi i k
    rwa [add_none, cell_at hW] at this
  apply List.ext_getElem?
  intro i
  by_cases k : i < n
  · rw [List.getElem?_take_of_lt k, List.getElem?_drop, hx i k]
  · rw [List.getElem?_eq_none (by rw [List.length_take]; omega), List.getElem?_eq_none (by omega)]
theorem rel_struct3 {R : Seal} {x y z : List UInt8} {cs : List Value} {s0 s1 s2 : ByteArray} (h : cs = [.string s0, .string s1, .string s2]) (h0 : s0.data.toList = x) (h1 : s1.data.toList = y) (h2 : s2.data.toList = z) : RelC R (.agg [.str x, .str y, .str z]) cs := by
  subst h h0 h1 h2
  exact ⟨_, _, rfl, by rw [RelC, str_mk], _, _, rfl, by rw [RelC, str_mk], _, _, rfl, by rw [RelC, str_mk], rfl⟩
theorem three_of {α : Type} {l : List α} (h : l.length = 3) : ∃ a b c, l = [a, b, c] := by
  match l, h with
  | [a, b, c], _ => exact ⟨a, b, c, rfl⟩
theorem eight_of {α : Type} {l : List α} (h : l.length = 8) : ∃ a b c d e f g i, l = [a, b, c, d, e, f, g, i] := by
  match l, h with
  | [a, b, c, d, e, f, g, i], _ => exact ⟨a, b, c, d, e, f, g, i, rfl⟩
def shapeD {H : Type} (i : Nat) : DataW H := .agg [.lit (.string (toldF i)), .lit (.string (dateF i)), .lit (.string (clkF i))]
theorem shapes_laid {W : World} {laid : List (String × DataW Unit)} (hL : laidMetH Tryd.prog laid W) (hm : ("visitingcard/visitingcardref.shapes", Rows.laid_visitingcard_visitingcardref_shapes) ∈ laid) : SealedAt (sealBelow W W.heap.size) 0 0 [.list 3 7 shapesF] := by
  obtain ⟨C0, e0, fz0, fuel, p, hW0, hd⟩ := laid_at hL hm (by kernel_rfl) (g := 0) (t := 156) (by kernel_rfl) (by kernel_rfl)
  rcases Go.Deep.open_slice Tryd.underlying156 hd with ⟨_, hx⟩ | ⟨a, len, cap, m, n, D, Pl, hv, _, hl, _, hm2, hx, hi⟩
  · cases hx
  have e1 : (List.range 7).map (fun i => (shapeD i : DataW Unit)) = (List.range len).map D := by
    have := (DataW.slice.inj (Prod.mk.inj hx).1).1
    rw [← this]
    rfl
  have hlen : len = 7 := by
    have := congrArg List.length e1
    simpa using this.symm
  subst hlen
  have hD : ∀ i, i < 7 → D i = shapeD i := fun i k => by
    have h1 : ((List.range 7).map D)[i]? = some (D i) := by simp [k]
    have h2 : ((List.range 7).map (fun i => (shapeD i : DataW Unit)))[i]? = some (shapeD i) := by simp [k]
    rw [e1, h1] at h2
    exact Option.some.inj h2
  have hm7 : 7 ≤ m := by rw [hm2]; split <;> omega
  have hc3 : Tryd.prog.cellsOf 155 = 3 := by kernel_rfl
  have hc1 : Tryd.prog.cellsOf 9 = 1 := by kernel_rfl
  rw [hc3] at hi
  obtain ⟨c0, hc0, _⟩ := hi 0 (by omega)
  have hcell : ∃ v, W.cell? a = some v := by
    obtain ⟨_, h1, h2⟩ := World.cells?_some hc0
    have h3 := h2 0 (by decide)
    rw [Nat.zero_mul, show (a.add 0).add 0 = a from rfl, List.getElem?_eq_getElem (by omega)] at h3
    exact ⟨_, h3⟩
  obtain ⟨v, hv0⟩ := hcell
  obtain ⟨b, o, C, e, fz, rfl, hWb⟩ := cell_block hv0
  refine sealed_below (block_lt hW0) hW0 ?_
  rw [hv]
  refine ⟨_, _, rfl, ⟨some ⟨b, o, none⟩, cap, rfl, hl, .inr ⟨b, o, C, e, fz, rfl, ?_, fun i k => ?_⟩⟩, rfl⟩
  · unfold sealBelow
    rw [if_pos (block_lt hWb)]
    exact hWb
  · obtain ⟨cs, h1, h2⟩ := hi i (by omega)
    rw [add_none] at h1
    have h3 := cells_take hWb h1
    rw [h3]
    rw [hD i k] at h2
    obtain ⟨y0, y1, y2, n2, hy, hcl, g0, g1, g2⟩ := Go.Deep.trod_struct3 Tryd.underlying155 h2
    rw [hc3] at hcl
    obtain ⟨s0, q0, r0, _⟩ := DataW.trod_string Tryd.underlying9 g0
    obtain ⟨s1, q1, r1, _⟩ := DataW.trod_string Tryd.underlying9 g1
    obtain ⟨s2, q2, r2, _⟩ := DataW.trod_string Tryd.underlying9 g2
    have hy1 := (Prod.mk.inj hy).1
    rw [r0, r1, r2] at hy1
    unfold shapeD at hy1
    simp only [DataW.agg.injEq, List.cons.injEq, DataW.lit.injEq, Lit.string.injEq, and_true] at hy1
    refine rel_struct3 (s0 := s0) (s1 := s1) (s2 := s2) ?_ hy1.1.symm hy1.2.1.symm hy1.2.2.symm
    obtain ⟨u0, u1, u2, rfl⟩ := three_of hcl
    have q0 : ([u0, u1, u2].drop 0).take (Tryd.prog.cellsOf 9) = [.string s0] := q0
    have q1 : ([u0, u1, u2].drop 1).take (Tryd.prog.cellsOf 9) = [.string s1] := q1
    have q2 : ([u0, u1, u2].drop 2).take (Tryd.prog.cellsOf 9) = [.string s2] := q2
    rw [hc1] at q0 q1 q2
    simp at q0 q1 q2
    rw [q0, q1, q2]
/-- A stamp as an argument. -/
theorem rel_stamp {H : Type} {enc : TypeId × Value → H} {W : World} {base : Nat} {spare : Nat → Bool} {held : Bool} {R : Seal} {v : Value} {d : DataW H} {ps : List MemPlace} (h : DataW.Trod enc Tryd.prog W base spare held 53 v d ps) :
    ∃ t : Stm, Rel R t.A v := by
  obtain ⟨fuel, h⟩ := h
  obtain ⟨xs, n, _, hx, hl, hxl, hf⟩ := DataW.trod_struct Tryd.underlying53 h
  have hc : Tryd.prog.cellsOf 53 = 8 := by kernel_rfl
  have hci : Tryd.prog.cellsOf 3 = 1 := by kernel_rfl
  have hcb : Tryd.prog.cellsOf 4 = 1 := by kernel_rfl
  rw [hc] at hl
  have hxl : xs.length = 8 := hxl
  obtain ⟨x0, x1, x2, x3, x4, x5, x6, x7, rfl⟩ := eight_of hxl
  obtain ⟨u0, u1, u2, u3, u4, u5, u6, u7, hu⟩ := eight_of hl
  rw [hu] at hf
  have g0 : DataW.trod enc Tryd.prog W base spare held n 3 (([u0, u1, u2, u3, u4, u5, u6, u7].drop 0).take (Tryd.prog.cellsOf 3)) = some x0 := hf 0 _ rfl
  have g1 : DataW.trod enc Tryd.prog W base spare held n 3 (([u0, u1, u2, u3, u4, u5, u6, u7].drop 1).take (Tryd.prog.cellsOf 3)) = some x1 := hf 1 _ rfl
  have g2 : DataW.trod enc Tryd.prog W base spare held n 3 (([u0, u1, u2, u3, u4, u5, u6, u7].drop 2).take (Tryd.prog.cellsOf 3)) = some x2 := hf 2 _ rfl
  have g3 : DataW.trod enc Tryd.prog W base spare held n 3 (([u0, u1, u2, u3, u4, u5, u6, u7].drop 3).take (Tryd.prog.cellsOf 3)) = some x3 := hf 3 _ rfl
  have g4 : DataW.trod enc Tryd.prog W base spare held n 3 (([u0, u1, u2, u3, u4, u5, u6, u7].drop 4).take (Tryd.prog.cellsOf 3)) = some x4 := hf 4 _ rfl
  have g5 : DataW.trod enc Tryd.prog W base spare held n 3 (([u0, u1, u2, u3, u4, u5, u6, u7].drop 5).take (Tryd.prog.cellsOf 3)) = some x5 := hf 5 _ rfl
  have g6 : DataW.trod enc Tryd.prog W base spare held n 4 (([u0, u1, u2, u3, u4, u5, u6, u7].drop 6).take (Tryd.prog.cellsOf 4)) = some x6 := hf 6 _ rfl
  have g7 : DataW.trod enc Tryd.prog W base spare held n 3 (([u0, u1, u2, u3, u4, u5, u6, u7].drop 7).take (Tryd.prog.cellsOf 3)) = some x7 := hf 7 _ rfl
  rw [hci] at g0 g1 g2 g3 g4 g5 g7
  rw [hcb] at g6
  simp only [List.drop_zero, List.drop_succ_cons, List.take_succ_cons, List.take_zero] at g0 g1 g2 g3 g4 g5 g6 g7
  obtain ⟨n0, q0, _, _⟩ := DataW.trod_int Tryd.underlying3 g0
  obtain ⟨n1, q1, _, _⟩ := DataW.trod_int Tryd.underlying3 g1
  obtain ⟨n2, q2, _, _⟩ := DataW.trod_int Tryd.underlying3 g2
  obtain ⟨n3, q3, _, _⟩ := DataW.trod_int Tryd.underlying3 g3
  obtain ⟨n4, q4, _, _⟩ := DataW.trod_int Tryd.underlying3 g4
  obtain ⟨n5, q5, _, _⟩ := DataW.trod_int Tryd.underlying3 g5
  obtain ⟨n6, q6, _⟩ := DataW.trod_bool Tryd.underlying4 g6
  obtain ⟨n7, q7, _, _⟩ := DataW.trod_int Tryd.underlying3 g7
  refine ⟨⟨n0, n1, n2, n3, n4, n5, n6, n7⟩, ?_, ?_⟩
  · rw [hu]
    obtain rfl := List.singleton_inj.1 q0
    obtain rfl := List.singleton_inj.1 q1
    obtain rfl := List.singleton_inj.1 q2
    obtain rfl := List.singleton_inj.1 q3
    obtain rfl := List.singleton_inj.1 q4
    obtain rfl := List.singleton_inj.1 q5
    obtain rfl := List.singleton_inj.1 q6
    obtain rfl := List.singleton_inj.1 q7
    exact ⟨_, _, rfl, rfl, _, _, rfl, rfl, _, _, rfl, rfl, _, _, rfl, rfl, _, _, rfl, rfl, _, _, rfl, rfl, _, _, rfl, rfl, _, _, rfl, rfl, rfl⟩
  · cases v with
    | agg cs => rfl
    | _ => exact absurd (congrArg List.length hu) (by simp [Value.cells])
theorem cell_lt {W : World} {g : Nat} {v : Value} (h : W.cell? ⟨g, 0, none⟩ = some v) : g < W.heap.size := by
  obtain ⟨b, o, C, e, fz, ha, hW⟩ := cell_block h
  cases ha
  exact block_lt hW
theorem laid_lt {W : World} {laid : List (String × DataW Unit)} (hL : laidMetH Tryd.prog laid W) {n : String} {d : DataW Unit} (hm : (n, d) ∈ laid) (hn : d.handleName?.isNone = true) {g : Nat} {t : TypeId} (hg : Tryd.prog.globalNamed n = some g) (ht : (Tryd.prog.globals[g]?).map (·.type) = some t) : g < W.heap.size := by
  obtain ⟨_, _, _, _, _, hW, _⟩ := laid_at hL hm hn hg ht
  exact block_lt hW
theorem glo_when {W : World} {m : Int} (hm : W.cell? ⟨1, 0, none⟩ = some (.int .i64 m)) {laid : List (String × DataW Unit)} (h1 : ("errors.errorType", Rows.laid_errors_errorType) ∈ laid) (h2 : ("internal/strconv.uint64pow10", Rows.laid_internal_strconv_uint64pow10) ∈ laid)
    (h3 : ("visitingcard/visitingcardref.shapes", Rows.laid_visitingcard_visitingcardref_shapes) ∈ laid) (hL : laidMetH Tryd.prog laid W) : (gloAnd (gloOf (errTy ++ maxTy m ++ shapesTy)) gloPow).p (sealBelow W W.heap.size) := by
  refine ⟨?_, pow_laid (laid_lt hL h2 (by kernel_rfl) (g := 8) (t := 231) (by kernel_rfl) (by kernel_rfl)) hL h2⟩
  intro x hx
  simp only [List.cons_append, List.nil_append, List.mem_cons, List.not_mem_nil, or_false] at hx
  rcases hx with rfl | rfl | hx
  · exact error_laid (err_lt hL h1) hL h1
  · exact max_sealed (cell_lt hm) hm
  · obtain rfl := List.mem_singleton.1 (show x ∈ [(0, [AVal.list 3 7 shapesF])] from hx)
    exact shapes_laid hL h3
end Go.Proofs.YtlmihggafbmkaaaDoor
