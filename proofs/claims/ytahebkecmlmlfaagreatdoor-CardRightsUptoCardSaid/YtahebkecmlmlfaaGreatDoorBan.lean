/- Parts of the proof of prints_root: Lnb, Whi, Vlh, Arc, Rui, Erl, Rpq, Lnc, Lne, Crp, Esq, Tjo, Tjp, Crq. -/
import Derived.Deep.DeepHandedRow
import Derived.Carry
import Derived.Test.YtahebkecmlmlfaaGreatDoorBaj
import Derived.Test.YtahebkecmlmlfaaGreatDoorBam
import Derived.Test.YtahebkecmlmlfaaGreatDoorBal
import Derived.Test.YtahebkecmlmlfaaGreatDoorBak
import Derived.Test.YtahebkecmlmlfaaGreatDoorBag
import Derived.Test.YtahebkecmlmlfaaGreatDoorBai
import Derived.Test.YtahebkecmlmlfaaGreatDoorBae
import Derived.Test.YtahebkecmlmlfaaGreatDoorBaf
set_option linter.unusedVariables false
set_option linter.unusedSimpArgs false
set_option linter.unusedSectionVars false
namespace Go.Proofs.YtahebkecmlmlfaaGreatDoor
set_option maxRecDepth 20000
set_option maxHeartbeats 4000000
section
open Go Go.ChangeShapes Go.WideShapes Go.ChangeAt Go.RowKit Go.WideMaps Go.WideElems
theorem lF {α : Type} {l : List α} (h : l.length = 2) : ∃ a b, l = [a, b] := by
 match l, h with
 | [a, b], _ => exact ⟨a, b, rfl⟩
theorem EF {α : Type} {l : List α} (h : l.length = 4) : ∃ a b c d, l = [a, b, c, d] := by
 match l, h with
 | [a, b, c, d], _ => exact ⟨a, b, c, d, rfl⟩
theorem vX (b o n : Nat) : (⟨b, o, none⟩ : Addr).add n = ⟨b, o + n, none⟩ := by
 unfold Addr.add
 split
 ·rename_i h; rw [h]; rfl
 ·rfl
theorem AP {W : World} {b o : Nat} {C : Array Value} {e : TypeId} {fz : Nat × Nat} (h : W.heap[b]? = some (.cells C e fz)) : W.cell? ⟨b, o, none⟩ = C[o]? := by
 unfold World.cell?
 simp [h]
section
variable {H : Type} {enc : TypeId × Value → H} {W : World}
theorem lU {sz m : Nat} (hz : 0 < sz) {f : Nat → AVal} {a : Addr} {cap : Nat} (hm : m ≤ cap) {cs : Nat → List Value} (hV : ∀ i, i < m → W.cells? 0 (a.add (i * sz)) sz = some (cs i) ∧ RelC (aw W W.heap.size) (f i) (cs i)) :
  Rel (aw W W.heap.size) (.list sz m f) (.slice (some a) m cap) := by
 refine ⟨⟨some a, cap, rfl, hm, ?_⟩, rfl⟩
 rcases Nat.eq_zero_or_pos m with h0 | h0
 ·exact .inl h0
 ·refine .inr ?_
  obtain ⟨b, o, sp⟩ := a
  obtain ⟨_, hl0, hc0⟩ := World.cells?_some (hV 0 h0).1
  have h1 := hc0 0 hz
  rw [Nat.zero_mul, show (⟨b, o, sp⟩ : Addr).add 0 = ⟨b, o, sp⟩ from rfl, show (⟨b, o, sp⟩ : Addr).add 0 = ⟨b, o, sp⟩ from rfl, List.getElem?_eq_getElem (by omega)] at h1
  unfold World.cell? at h1
  dsimp only at h1
  cases hW : W.heap[b]? with
  | none => rw [hW] at h1; cases h1
  | some ob =>
   cases ob with
   | cells C e fz =>
    rw [hW] at h1
    cases sp with
    | some s => simp at h1
    | none =>
     refine ⟨b, o, C, e, fz, rfl, ?_, fun i hi => ?_⟩
     ·unfold aw
      rw [if_pos (Array.getElem?_eq_some_iff.1 hW).1]
      exact hW
     ·obtain ⟨h2, h3⟩ := hV i hi
      obtain ⟨_, hl, hc⟩ := World.cells?_some h2
      have e1 : (C.toList.drop (o + i * sz)).take sz = cs i := by
       refine List.ext_getElem? fun k => ?_
       by_cases hk : k < sz
       ·have h4 := hc k hk
        rw [vX, vX, AP hW] at h4
        rw [← h4, List.getElem?_take_of_lt hk, List.getElem?_drop, Array.getElem?_toList]
       ·rw [List.getElem?_eq_none (by rw [List.length_take]; omega), List.getElem?_eq_none (by omega)]
      rw [e1]
      exact h3
   | _ => rw [hW] at h1; cases h1
theorem Ad {fuel : Nat} {spare : Nat → Bool} {held : Bool} {cs : List Value} {x : DataW H × List MemPlace} (h : DataW.trod enc Tryz.prog W 0 spare held fuel 103 cs = some x) :
  ∃ q : Pr, RelC (aw W W.heap.size) (.agg [.str q.n, .list 1 q.vs.length (aF q.vs)]) cs ∧ q.n.length ≤ Rows.uptoBulk x.1 ∧ q.vs.length ≤ Rows.uptoBulk x.1 ∧ Lib.lens q.vs ≤ Rows.uptoBulk x.1 := by
 obtain ⟨xs, n, _, hx, hl, hxl, hf⟩ := DataW.trod_struct Tryz.underlying103 h
 have hc : Tryz.prog.cellsOf 103 = 2 := by kernel_rfl
 have hcs : Tryz.prog.cellsOf 9 = 1 := by kernel_rfl
 have hcp : Tryz.prog.cellsOf 67 = 1 := by kernel_rfl
 rw [hc] at hl
 have hxl : xs.length = 2 := hxl
 obtain ⟨x0, x1, rfl⟩ := lF hxl
 obtain ⟨u0, u1, rfl⟩ := lF hl
 have g0 : DataW.trod enc Tryz.prog W 0 spare held n 9 (([u0, u1].drop 0).take (Tryz.prog.cellsOf 9)) = some x0 := hf 0 _ rfl
 have g1 : DataW.trod enc Tryz.prog W 0 spare held n 67 (([u0, u1].drop 1).take (Tryz.prog.cellsOf 67)) = some x1 := hf 1 _ rfl
 rw [hcs] at g0
 rw [hcp] at g1
 simp only [List.drop_zero, List.drop_succ_cons, List.take_succ_cons, List.take_zero] at g0 g1
 obtain ⟨s0, q0, e0, _⟩ := DataW.trod_string Tryz.underlying9 g0
 obtain ⟨l, r1, hb1, hb2⟩ := uq g1
 obtain rfl := List.singleton_inj.1 q0
 rw [hx]
 simp only [List.map_cons, List.map_nil, Rows.uptoBulk, Rows.uptoBulkAll]
 refine ⟨⟨s0.data.toList, l⟩, ⟨_, _, rfl, by rw [RelC, ip], _, _, rfl, aP r1 rfl, rfl⟩, ?_, by dsimp only; omega, by dsimp only; omega⟩
 rw [e0]
 simp only [Rows.uptoBulk]
 omega
theorem wN {fuel : Nat} {spare : Nat → Bool} {held : Bool} {v : Value} {x : DataW H × List MemPlace} (h : DataW.trod enc Tryz.prog W 0 spare held fuel 26 [v] = some x) :
  ∃ L : List Pr, Rel (aw W W.heap.size) (.list 2 L.length (prF L)) v ∧ L.length ≤ Rows.uptoBulk x.1 ∧ ∀ k, (L.getD k Pr.z).n.length ≤ Rows.uptoBulk x.1 ∧ (L.getD k Pr.z).vs.length ≤ Rows.uptoBulk x.1 ∧ Lib.lens (L.getD k Pr.z).vs ≤ Rows.uptoBulk x.1 := by
 have hc : Tryz.prog.cellsOf 103 = 2 := by kernel_rfl
 rcases Go.Deep.open_slice Tryz.underlying26 h with ⟨hv, rfl⟩ | ⟨a, len, cap, m, n, D, Pl, hv, _, hl, _, hm, rfl, hx⟩
 ·obtain rfl : v = .slice none 0 0 := by simpa using hv
  refine ⟨[], ⟨⟨none, 0, rfl, Nat.le_refl _, .inl rfl⟩, rfl⟩, Nat.zero_le _, fun k => ?_⟩
  rw [List.getD_nil]
  exact ⟨by simp [Pr.z], by simp [Pr.z], by simp [Pr.z, Lib.lens]⟩
 ·obtain rfl : v = .slice (some a) len cap := by simpa using hv
  rw [hc] at hx
  have hlm : len ≤ m := by rw [hm]; split <;> omega
  obtain ⟨Cx, hCx⟩ := Go.Deep.choose_lt (α := List Value) (n := len) (p := fun i cs => W.cells? 0 (a.add (i * 2)) 2 = some cs ∧ DataW.trod enc Tryz.prog W 0 spare held n 103 cs = some (D i, Pl i)) (fun i hi => hx i (by omega))
  obtain ⟨Lx, hLx⟩ := Go.Deep.choose_lt (α := Pr) (n := len) (p := fun i q => RelC (aw W W.heap.size) (.agg [.str q.n, .list 1 q.vs.length (aF q.vs)]) (Cx i) ∧ q.n.length ≤ Rows.uptoBulk (D i) ∧ q.vs.length ≤ Rows.uptoBulk (D i) ∧ Lib.lens q.vs ≤ Rows.uptoBulk (D i)) (fun i hi => Ad (hCx i hi).2)
  let L : List Pr := (List.range len).map Lx
  have hll : L.length = len := by simp [L]
  have hget : ∀ i, i < len → L.getD i Pr.z = Lx i := fun i hi => by simp [L, List.getD, hi]
  have h1 := iQ ((List.range len).map D)
  rw [List.length_map, List.length_range] at h1
  simp only [Rows.uptoBulk]
  refine ⟨L, ?_, by omega, fun k => ?_⟩
  ·rw [hll]
   refine lU (by decide) hl (cs := Cx) (fun i hi => ⟨(hCx i hi).1, ?_⟩)
   unfold prF
   rw [hget i hi]
   exact (hLx i hi).1
  ·by_cases hk : k < len
   ·rw [hget k hk]
    have h2 := (hLx k hk).2
    have h3 := iP (d := D k) (l := (List.range len).map D) (List.mem_map.2 ⟨k, List.mem_range.2 hk, rfl⟩)
    omega
   ·rw [List.getD_eq_getElem?_getD, List.getElem?_eq_none (by omega)]
    exact ⟨by simp [Pr.z], by simp [Pr.z], by simp [Pr.z, Lib.lens]⟩
end
end
section
open Go Go.ChangeShapes Go.WideShapes
theorem pD {W : World} {a : Addr} {v : Value} (h : W.cell? a = some v) : ∃ b o C e fz, a = ⟨b, o, none⟩ ∧ W.heap[b]? = some (.cells C e fz) := by
 obtain ⟨b, o, sp⟩ := a
 unfold World.cell? at h
 dsimp only at h
 cases hW : W.heap[b]? with
 | none => rw [hW] at h; cases h
 | some ob =>
  cases ob with
  | cells C e fz =>
   rw [hW] at h
   cases sp with
   | some s => simp at h
   | none => exact ⟨b, o, C, e, fz, rfl, hW⟩
  | _ => rw [hW] at h; cases h
theorem vY (b o i : Nat) : (⟨b, o, none⟩ : Addr).add i = ⟨b, o + i, none⟩ := by
 unfold Addr.add
 split
 ·rename_i h; rw [h]; rfl
 ·rfl
theorem ES {W : World} {b o : Nat} {C : Array Value} {e : TypeId} {fz : Nat × Nat} (hW : W.heap[b]? = some (.cells C e fz)) : W.cell? ⟨b, o, none⟩ = C.toList[o]? := by
 unfold World.cell?
 simp [hW]
theorem yg {W : World} {base b o n : Nat} {C : Array Value} {e : TypeId} {fz : Nat × Nat} (hW : W.heap[b]? = some (.cells C e fz)) {cs : List Value} (h : W.cells? base ⟨b, o, none⟩ n = some cs) : (C.toList.drop o).take n = cs := by
 obtain ⟨_, hl, hi⟩ := World.cells?_some h
 have hx : ∀ i, i < n → C.toList[o + i]? = cs[i]? := fun i k => by
  have := hi i k
  rwa [vY, ES hW] at this
 apply List.ext_getElem?
 intro i
 by_cases k : i < n
 ·rw [List.getElem?_take_of_lt k, List.getElem?_drop, hx i k]
 ·rw [List.getElem?_eq_none (by rw [List.length_take]; omega), List.getElem?_eq_none (by omega)]
theorem uo {R : Seal} {x y z : List UInt8} {cs : List Value} {s0 s1 s2 : ByteArray} (h : cs = [.string s0, .string s1, .string s2]) (h0 : s0.data.toList = x) (h1 : s1.data.toList = y) (h2 : s2.data.toList = z) : RelC R (.agg [.str x, .str y, .str z]) cs := by
 subst h h0 h1 h2
 exact ⟨_, _, rfl, by rw [RelC, ip], _, _, rfl, by rw [RelC, ip], _, _, rfl, by rw [RelC, ip], rfl⟩
theorem Bl {α : Type} {l : List α} (h : l.length = 3) : ∃ a b c, l = [a, b, c] := by
 match l, h with
 | [a, b, c], _ => exact ⟨a, b, c, rfl⟩
theorem vC {α : Type} {l : List α} (h : l.length = 8) : ∃ a b c d e f g i, l = [a, b, c, d, e, f, g, i] := by
 match l, h with
 | [a, b, c, d, e, f, g, i], _ => exact ⟨a, b, c, d, e, f, g, i, rfl⟩
def od {H : Type} (i : Nat) : DataW H := .agg [.lit (.string (Fd i)), .lit (.string (bg i)), .lit (.string (clkF i))]
theorem tO {W : World} {laid : List (String × DataW Unit)} (hL : laidMetH Tryz.prog laid W) (hm : ("visitingcard/visitingcardref.shapes", Rows.laid_visitingcard_visitingcardref_shapes) ∈ laid) : bY (aw W W.heap.size) 3 0 [.list 3 7 rO] := by
 obtain ⟨C0, e0, fz0, fuel, p, hW0, hd⟩ := gL hL hm (by kernel_rfl) (g := 3) (t := 254) (by kernel_rfl) (by kernel_rfl)
 rcases Go.Deep.open_slice Tryz.underlying254 hd with ⟨_, hx⟩ | ⟨a, len, cap, m, n, D, Pl, hv, _, hl, _, hm2, hx, hi⟩
 ·cases hx
 have e1 : (List.range 7).map (fun i => (od i : DataW Unit)) = (List.range len).map D := by
  have := (DataW.slice.inj (Prod.mk.inj hx).1).1
  rw [← this]
  rfl
 have hlen : len = 7 := by
  have := congrArg List.length e1
  simpa using this.symm
 subst hlen
 have hD : ∀ i, i < 7 → D i = od i := fun i k => by
  have h1 : ((List.range 7).map D)[i]? = some (D i) := by simp [k]
  have h2 : ((List.range 7).map (fun i => (od i : DataW Unit)))[i]? = some (od i) := by simp [k]
  rw [e1, h1] at h2
  exact Option.some.inj h2
 have hm7 : 7 ≤ m := by rw [hm2]; split <;> omega
 have hc3 : Tryz.prog.cellsOf 255 = 3 := by kernel_rfl
 have hc1 : Tryz.prog.cellsOf 9 = 1 := by kernel_rfl
 rw [hc3] at hi
 obtain ⟨c0, hc0, _⟩ := hi 0 (by omega)
 have hcell : ∃ v, W.cell? a = some v := by
  obtain ⟨_, h1, h2⟩ := World.cells?_some hc0
  have h3 := h2 0 (by decide)
  rw [Nat.zero_mul, show (a.add 0).add 0 = a from rfl, List.getElem?_eq_getElem (by omega)] at h3
  exact ⟨_, h3⟩
 obtain ⟨v, hv0⟩ := hcell
 obtain ⟨b, o, C, e, fz, rfl, hWb⟩ := pD hv0
 refine dh (iS hW0) hW0 ?_
 rw [hv]
 refine ⟨_, _, rfl, ⟨some ⟨b, o, none⟩, cap, rfl, hl, .inr ⟨b, o, C, e, fz, rfl, ?_, fun i k => ?_⟩⟩, rfl⟩
 ·unfold aw
  rw [if_pos (iS hWb)]
  exact hWb
 ·obtain ⟨cs, h1, h2⟩ := hi i (by omega)
  rw [vY] at h1
  have h3 := yg hWb h1
  rw [h3]
  rw [hD i k] at h2
  obtain ⟨y0, y1, y2, n2, hy, hcl, g0, g1, g2⟩ := Go.Deep.trod_struct3 Tryz.underlying255 h2
  rw [hc3] at hcl
  obtain ⟨s0, q0, r0, _⟩ := DataW.trod_string Tryz.underlying9 g0
  obtain ⟨s1, q1, r1, _⟩ := DataW.trod_string Tryz.underlying9 g1
  obtain ⟨s2, q2, r2, _⟩ := DataW.trod_string Tryz.underlying9 g2
  have hy1 := (Prod.mk.inj hy).1
  rw [r0, r1, r2] at hy1
  unfold od at hy1
  simp only [DataW.agg.injEq, List.cons.injEq, DataW.lit.injEq, Lit.string.injEq, and_true] at hy1
  refine uo (s0 := s0) (s1 := s1) (s2 := s2) ?_ hy1.1.symm hy1.2.1.symm hy1.2.2.symm
  obtain ⟨u0, u1, u2, rfl⟩ := Bl hcl
  have q0 : ([u0, u1, u2].drop 0).take (Tryz.prog.cellsOf 9) = [.string s0] := q0
  have q1 : ([u0, u1, u2].drop 1).take (Tryz.prog.cellsOf 9) = [.string s1] := q1
  have q2 : ([u0, u1, u2].drop 2).take (Tryz.prog.cellsOf 9) = [.string s2] := q2
  rw [hc1] at q0 q1 q2
  simp at q0 q1 q2
  rw [q0, q1, q2]
theorem z8 {H : Type} {enc : TypeId × Value → H} {W : World} {base : Nat} {spare : Nat → Bool} {held : Bool} {R : Seal} {v : Value} {d : DataW H} {ps : List MemPlace} (h : DataW.Trod enc Tryz.prog W base spare held 29 v d ps) :
  ∃ t : Stm, Rel R t.A v := by
 obtain ⟨fuel, h⟩ := h
 obtain ⟨xs, n, _, hx, hl, hxl, hf⟩ := DataW.trod_struct Tryz.underlying29 h
 have hc : Tryz.prog.cellsOf 29 = 8 := by kernel_rfl
 have hci : Tryz.prog.cellsOf 3 = 1 := by kernel_rfl
 have hcb : Tryz.prog.cellsOf 4 = 1 := by kernel_rfl
 rw [hc] at hl
 have hxl : xs.length = 8 := hxl
 obtain ⟨x0, x1, x2, x3, x4, x5, x6, x7, rfl⟩ := vC hxl
 obtain ⟨u0, u1, u2, u3, u4, u5, u6, u7, hu⟩ := vC hl
 rw [hu] at hf
 have g0 : DataW.trod enc Tryz.prog W base spare held n 3 (([u0, u1, u2, u3, u4, u5, u6, u7].drop 0).take (Tryz.prog.cellsOf 3)) = some x0 := hf 0 _ rfl
 have g1 : DataW.trod enc Tryz.prog W base spare held n 3 (([u0, u1, u2, u3, u4, u5, u6, u7].drop 1).take (Tryz.prog.cellsOf 3)) = some x1 := hf 1 _ rfl
 have g2 : DataW.trod enc Tryz.prog W base spare held n 3 (([u0, u1, u2, u3, u4, u5, u6, u7].drop 2).take (Tryz.prog.cellsOf 3)) = some x2 := hf 2 _ rfl
 have g3 : DataW.trod enc Tryz.prog W base spare held n 3 (([u0, u1, u2, u3, u4, u5, u6, u7].drop 3).take (Tryz.prog.cellsOf 3)) = some x3 := hf 3 _ rfl
 have g4 : DataW.trod enc Tryz.prog W base spare held n 3 (([u0, u1, u2, u3, u4, u5, u6, u7].drop 4).take (Tryz.prog.cellsOf 3)) = some x4 := hf 4 _ rfl
 have g5 : DataW.trod enc Tryz.prog W base spare held n 3 (([u0, u1, u2, u3, u4, u5, u6, u7].drop 5).take (Tryz.prog.cellsOf 3)) = some x5 := hf 5 _ rfl
 have g6 : DataW.trod enc Tryz.prog W base spare held n 4 (([u0, u1, u2, u3, u4, u5, u6, u7].drop 6).take (Tryz.prog.cellsOf 4)) = some x6 := hf 6 _ rfl
 have g7 : DataW.trod enc Tryz.prog W base spare held n 3 (([u0, u1, u2, u3, u4, u5, u6, u7].drop 7).take (Tryz.prog.cellsOf 3)) = some x7 := hf 7 _ rfl
 rw [hci] at g0 g1 g2 g3 g4 g5 g7
 rw [hcb] at g6
 simp only [List.drop_zero, List.drop_succ_cons, List.take_succ_cons, List.take_zero] at g0 g1 g2 g3 g4 g5 g6 g7
 obtain ⟨n0, q0, _, _⟩ := DataW.trod_int Tryz.underlying3 g0
 obtain ⟨n1, q1, _, _⟩ := DataW.trod_int Tryz.underlying3 g1
 obtain ⟨n2, q2, _, _⟩ := DataW.trod_int Tryz.underlying3 g2
 obtain ⟨n3, q3, _, _⟩ := DataW.trod_int Tryz.underlying3 g3
 obtain ⟨n4, q4, _, _⟩ := DataW.trod_int Tryz.underlying3 g4
 obtain ⟨n5, q5, _, _⟩ := DataW.trod_int Tryz.underlying3 g5
 obtain ⟨n6, q6, _⟩ := DataW.trod_bool Tryz.underlying4 g6
 obtain ⟨n7, q7, _, _⟩ := DataW.trod_int Tryz.underlying3 g7
 refine ⟨⟨n0, n1, n2, n3, n4, n5, n6, n7⟩, ?_, ?_⟩
 ·rw [hu]
  obtain rfl := List.singleton_inj.1 q0
  obtain rfl := List.singleton_inj.1 q1
  obtain rfl := List.singleton_inj.1 q2
  obtain rfl := List.singleton_inj.1 q3
  obtain rfl := List.singleton_inj.1 q4
  obtain rfl := List.singleton_inj.1 q5
  obtain rfl := List.singleton_inj.1 q6
  obtain rfl := List.singleton_inj.1 q7
  exact ⟨_, _, rfl, rfl, _, _, rfl, rfl, _, _, rfl, rfl, _, _, rfl, rfl, _, _, rfl, rfl, _, _, rfl, rfl, _, _, rfl, rfl, _, _, rfl, rfl, rfl⟩
 ·cases v with
  | agg cs => rfl
  | _ => exact absurd (congrArg List.length hu) (by simp [Value.cells])
theorem ER {W : World} {g : Nat} {v : Value} (h : W.cell? ⟨g, 0, none⟩ = some v) : g < W.heap.size := by
 obtain ⟨b, o, C, e, fz, ha, hW⟩ := pD h
 cases ha
 exact iS hW
end
section
open Go Go.ChangeShapes Go.WideShapes
theorem EG {α : Type} {l : List α} (h : l.length = 5) : ∃ a b c d e, l = [a, b, c, d, e] := by
 match l, h with
 | [a, b, c, d, e], _ => exact ⟨a, b, c, d, e, rfl⟩
theorem zJ {α : Type} {l : List α} (h : l.length = 12) : ∃ a b c d e f g i j k m n, l = [a, b, c, d, e, f, g, i, j, k, m, n] := by
 match l, h with
 | [a, b, c, d, e, f, g, i, j, k, m, n], _ => exact ⟨a, b, c, d, e, f, g, i, j, k, m, n, rfl⟩
theorem CB {l : List (List UInt8)} {j : Nat} : (l.getD j []).length ≤ Lib.lens l := cI
theorem z7 {H : Type} {enc : TypeId × Value → H} {W : World} {spare : Nat → Bool} {held : Bool} {v : Value} {d : DataW H} {ps : List MemPlace} (h : DataW.Trod enc Tryz.prog W 0 spare held 31 v d ps) (hb : Rows.uptoBulk d ≤ 1048576) :
  ∃ u : Vl, Rel (aw W W.heap.size) u.A v ∧ u.s.length ≤ 1048576 ∧ Small u.L ∧ u.OK := by
 obtain ⟨fuel, h⟩ := h
 obtain ⟨xs, n, _, hx, hl, hxl, hf⟩ := DataW.trod_struct Tryz.underlying31 h
 have hc : Tryz.prog.cellsOf 31 = 12 := by kernel_rfl
 have hci : Tryz.prog.cellsOf 3 = 1 := by kernel_rfl
 have hcs : Tryz.prog.cellsOf 9 = 1 := by kernel_rfl
 have hcp : Tryz.prog.cellsOf 27 = 1 := by kernel_rfl
 have hct : Tryz.prog.cellsOf 29 = 8 := by kernel_rfl
 rw [hc] at hl
 have hxl : xs.length = 5 := hxl
 obtain ⟨x0, x1, x2, x3, x4, rfl⟩ := EG hxl
 obtain ⟨u0, u1, u2, u3, u4, u5, u6, u7, u8, u9, u10, u11, hu⟩ := zJ hl
 rw [hu] at hf
 have g0 : DataW.trod enc Tryz.prog W 0 spare held n 3 (([u0, u1, u2, u3, u4, u5, u6, u7, u8, u9, u10, u11].drop 0).take (Tryz.prog.cellsOf 3)) = some x0 := hf 0 _ rfl
 have g1 : DataW.trod enc Tryz.prog W 0 spare held n 9 (([u0, u1, u2, u3, u4, u5, u6, u7, u8, u9, u10, u11].drop 1).take (Tryz.prog.cellsOf 9)) = some x1 := hf 1 _ rfl
 have g2 : DataW.trod enc Tryz.prog W 0 spare held n 27 (([u0, u1, u2, u3, u4, u5, u6, u7, u8, u9, u10, u11].drop 2).take (Tryz.prog.cellsOf 27)) = some x2 := hf 2 _ rfl
 have g3 : DataW.trod enc Tryz.prog W 0 spare held n 29 (([u0, u1, u2, u3, u4, u5, u6, u7, u8, u9, u10, u11].drop 3).take (Tryz.prog.cellsOf 29)) = some x3 := hf 3 _ rfl
 have g4 : DataW.trod enc Tryz.prog W 0 spare held n 3 (([u0, u1, u2, u3, u4, u5, u6, u7, u8, u9, u10, u11].drop 11).take (Tryz.prog.cellsOf 3)) = some x4 := hf 4 _ rfl
 rw [hci] at g0 g4
 rw [hcs] at g1
 rw [hcp] at g2
 rw [hct] at g3
 simp only [List.drop_zero, List.drop_succ_cons, List.take_succ_cons, List.take_zero] at g0 g1 g2 g3 g4
 obtain rfl : d = .agg ([x0, x1, x2, x3, x4].map (·.1)) := (Prod.mk.inj hx).1
 simp only [List.map_cons, List.map_nil, Rows.uptoBulk, Rows.uptoBulkAll] at hb
 obtain ⟨n0, q0, _, _⟩ := DataW.trod_int Tryz.underlying3 g0
 obtain ⟨n4, q4, _, _⟩ := DataW.trod_int Tryz.underlying3 g4
 obtain ⟨s1, q1, e1, _⟩ := DataW.trod_string Tryz.underlying9 g1
 obtain ⟨L, r2, hs⟩ := Aa g2 (by omega)
 obtain ⟨t, r3⟩ := z8 (R := aw W W.heap.size) (v := .agg #[u3, u4, u5, u6, u7, u8, u9, u10]) (d := x3.1) (ps := x3.2) ⟨n, g3⟩
 have hbs : s1.data.toList.length ≤ 1048576 := by
  rw [e1] at hb
  simp only [Rows.uptoBulk] at hb
  omega
 have hLk := hs.k
 refine ⟨⟨n0, s1.data.toList, L, t, n4⟩, ⟨?_, ?_⟩, hbs, hs, ⟨by dsimp only; omega, hs.n, fun k => (hLk k).1, fun k j => by have h1 := CB (l := L.getD k []) (j := j); have h2 := (hLk k).2; dsimp only; omega⟩⟩
 ·rw [hu]
  obtain rfl := List.singleton_inj.1 q0
  obtain rfl := List.singleton_inj.1 q1
  obtain rfl := List.singleton_inj.1 q4
  have h3 : RelL (aw W W.heap.size) _ [u3, u4, u5, u6, u7, u8, u9, u10] := r3.1
  exact ⟨_, _, rfl, rfl, _, _, rfl, by rw [RelC, ip], _, _, rfl, aP r2 rfl, aZ h3 ⟨_, _, rfl, rfl, rfl⟩⟩
 ·cases v with
  | agg cs => rfl
  | _ => exact absurd (congrArg List.length hu) (by simp [Value.cells])
end
section
open Go Go.ChangeShapes Go.WideShapes Go.ChangeAt Go.RowKit Go.WideMaps Go.WideElems
section
variable {H : Type} {enc : TypeId × Value → H} {W : World}
theorem Bp {α : Type} {l : List α} {n : Nat} (h : l.length = n) : l.take n = l := by rw [← h, List.take_length]
theorem BX {fuel : Nat} {spare : Nat → Bool} {held : Bool} {cs : List Value} {x : DataW H × List MemPlace} (h : DataW.trod enc Tryz.prog W 0 spare held fuel 33 cs = some x) (hb : Rows.uptoBulk x.1 ≤ 1048576) :
  ∃ u : Itm, RelC (aw W W.heap.size) (itR u) cs ∧ Itm.OK 1048576 u := by
 obtain ⟨xs, n, _, hx, hl, hxl, hf⟩ := DataW.trod_struct Tryz.underlying33 h
 have hc : Tryz.prog.cellsOf 33 = 15 := by kernel_rfl
 have hcs : Tryz.prog.cellsOf 9 = 1 := by kernel_rfl
 have hcp : Tryz.prog.cellsOf 26 = 1 := by kernel_rfl
 have hcv : Tryz.prog.cellsOf 31 = 12 := by kernel_rfl
 rw [hc] at hl
 have hxl : xs.length = 4 := hxl
 obtain ⟨x0, x1, x2, x3, rfl⟩ := EF hxl
 obtain ⟨u0, u1, u2, cv, hu⟩ : ∃ u0 u1 u2 cv, cs = u0 :: u1 :: u2 :: cv := by
  rcases cs with _ | ⟨u0, _ | ⟨u1, _ | ⟨u2, cv⟩⟩⟩
  ·simp at hl
  ·simp at hl
  ·simp at hl
  ·exact ⟨u0, u1, u2, cv, rfl⟩
 rw [hu] at hf hl
 have hlv : cv.length = 12 := by simpa using hl
 have g0 : DataW.trod enc Tryz.prog W 0 spare held n 9 (((u0 :: u1 :: u2 :: cv).drop 0).take (Tryz.prog.cellsOf 9)) = some x0 := hf 0 _ rfl
 have g1 : DataW.trod enc Tryz.prog W 0 spare held n 9 (((u0 :: u1 :: u2 :: cv).drop 1).take (Tryz.prog.cellsOf 9)) = some x1 := hf 1 _ rfl
 have g2 : DataW.trod enc Tryz.prog W 0 spare held n 26 (((u0 :: u1 :: u2 :: cv).drop 2).take (Tryz.prog.cellsOf 26)) = some x2 := hf 2 _ rfl
 have g3 : DataW.trod enc Tryz.prog W 0 spare held n 31 (((u0 :: u1 :: u2 :: cv).drop 3).take (Tryz.prog.cellsOf 31)) = some x3 := hf 3 _ rfl
 rw [hcs] at g0 g1
 rw [hcp] at g2
 rw [hcv] at g3
 simp only [List.drop_zero, List.drop_succ_cons, List.take_succ_cons, List.take_zero] at g0 g1 g2 g3
 rw [Bp hlv] at g3
 obtain ⟨d, pl⟩ := x
 obtain rfl : d = .agg ([x0, x1, x2, x3].map (·.1)) := (Prod.mk.inj hx).1
 simp only [List.map_cons, List.map_nil, Rows.uptoBulk, Rows.uptoBulkAll] at hb
 obtain ⟨s0, q0, e0, _⟩ := DataW.trod_string Tryz.underlying9 g0
 obtain ⟨s1, q1, e1, _⟩ := DataW.trod_string Tryz.underlying9 g1
 obtain ⟨L, r2, hn, hk⟩ := wN g2
 obtain ⟨u, r3, h1, h2, _⟩ := z7 (v := .agg cv.toArray) (d := x3.1) (ps := x3.2) ⟨n, by simpa [Value.cells] using g3⟩ (by omega)
 rw [e0, e1] at hb
 simp only [Rows.uptoBulk] at hb
 refine ⟨(⟨s0.data.toList, s1.data.toList, L, []⟩, u), ?_, ⟨⟨?_, ?_, Nat.zero_le _, ?_, fun k => ?_⟩, h1, h2⟩⟩
 ·rw [hu]
  obtain rfl := List.singleton_inj.1 q0
  obtain rfl := List.singleton_inj.1 q1
  have r3' : RelC (aw W W.heap.size) u.A cv := by
   have := r3.1
   rwa [show (Value.agg cv.toArray).cells.toList = cv by simp [Value.cells]] at this
  exact ⟨_, _, rfl, by rw [RelC, ip], _, _, rfl, by rw [RelC, ip], _, _, rfl, aP r2 rfl, r3'⟩
 ·show s0.data.toList.length ≤ _; omega
 ·show s1.data.toList.length ≤ _; omega
 ·show L.length ≤ _; omega
 ·have := hk k
  show (L.getD k Pr.z).n.length ≤ _ ∧ (L.getD k Pr.z).vs.length ≤ _ ∧ Lib.lens (L.getD k Pr.z).vs ≤ _
  omega
theorem qD {fuel : Nat} {spare : Nat → Bool} {held : Bool} {v : Value} {x : DataW H × List MemPlace} (h : DataW.trod enc Tryz.prog W 0 spare held fuel 22 [v] = some x) (hb : Rows.uptoBulk x.1 ≤ 1048576) :
  ∃ L : List Itm, Rel (aw W W.heap.size) (.list 15 L.length (itsF L)) v ∧ L.length ≤ 1048576 ∧ ∀ y ∈ L, Itm.OK 1048576 y := by
 have hc : Tryz.prog.cellsOf 33 = 15 := by kernel_rfl
 rcases Go.Deep.open_slice Tryz.underlying22 h with ⟨hv, rfl⟩ | ⟨a, len, cap, m, n, D, Pl, hv, _, hl, _, hm, rfl, hx⟩
 ·obtain rfl : v = .slice none 0 0 := by simpa using hv
  exact ⟨[], ⟨⟨none, 0, rfl, Nat.le_refl _, .inl rfl⟩, rfl⟩, Nat.zero_le _, fun y hy => by cases hy⟩
 ·obtain rfl : v = .slice (some a) len cap := by simpa using hv
  rw [hc] at hx
  have hlm : len ≤ m := by rw [hm]; split <;> omega
  simp only [Rows.uptoBulk] at hb
  have h1 := iQ ((List.range len).map D)
  rw [List.length_map, List.length_range] at h1
  have hD : ∀ i, i < len → Rows.uptoBulk (D i) ≤ 1048576 := fun i hi => by
   have := iP (d := D i) (l := (List.range len).map D) (List.mem_map.2 ⟨i, List.mem_range.2 hi, rfl⟩)
   omega
  obtain ⟨Cx, hCx⟩ := Go.Deep.choose_lt (α := List Value) (n := len) (p := fun i cs => W.cells? 0 (a.add (i * 15)) 15 = some cs ∧ DataW.trod enc Tryz.prog W 0 spare held n 33 cs = some (D i, Pl i)) (fun i hi => hx i (by omega))
  obtain ⟨Lx, hLx⟩ := Go.Deep.choose_lt (α := Itm) (n := len) (p := fun i q => RelC (aw W W.heap.size) (itR q) (Cx i) ∧ Itm.OK 1048576 q) (fun i hi => BX (hCx i hi).2 (hD i hi))
  let L : List Itm := (List.range len).map Lx
  have hll : L.length = len := by simp [L]
  have hget : ∀ i, i < len → L.getD i Itm.z = Lx i := fun i hi => by simp [L, List.getD, hi]
  refine ⟨L, ?_, by omega, y9 fun k hk => ?_⟩
  ·rw [hll]
   refine lU (by decide) hl (cs := Cx) (fun i hi => ⟨(hCx i hi).1, ?_⟩)
   unfold itsF
   rw [hget i hi]
   exact (hLx i hi).1
  ·rw [hget k (by omega)]
   exact (hLx k (by omega)).2
theorem us {spare : Nat → Bool} {held : Bool} {v : Value} {d : DataW H} {ps : List MemPlace} (h : DataW.Trod enc Tryz.prog W 0 spare held 24 v d ps) (hb : Rows.uptoBulk d ≤ 1048576) :
  ∃ c : Crd, Rel (aw W W.heap.size) c.A v ∧ c.l.length ≤ 1048576 ∧ ∀ y ∈ c.l, Itm.OK 1048576 y := by
 obtain ⟨fuel, h⟩ := h
 obtain ⟨xs, n, _, hx, hl, hxl, hf⟩ := DataW.trod_struct Tryz.underlying24 h
 have hc : Tryz.prog.cellsOf 24 = 2 := by kernel_rfl
 have hci : Tryz.prog.cellsOf 3 = 1 := by kernel_rfl
 have hcl : Tryz.prog.cellsOf 22 = 1 := by kernel_rfl
 rw [hc] at hl
 have hxl : xs.length = 2 := hxl
 obtain ⟨x0, x1, rfl⟩ := lF hxl
 obtain ⟨u0, u1, hu⟩ := lF hl
 rw [hu] at hf
 have g0 : DataW.trod enc Tryz.prog W 0 spare held n 3 (([u0, u1].drop 0).take (Tryz.prog.cellsOf 3)) = some x0 := hf 0 _ rfl
 have g1 : DataW.trod enc Tryz.prog W 0 spare held n 22 (([u0, u1].drop 1).take (Tryz.prog.cellsOf 22)) = some x1 := hf 1 _ rfl
 rw [hci] at g0
 rw [hcl] at g1
 simp only [List.drop_zero, List.drop_succ_cons, List.take_succ_cons, List.take_zero] at g0 g1
 obtain rfl : d = .agg ([x0, x1].map (·.1)) := (Prod.mk.inj hx).1
 simp only [List.map_cons, List.map_nil, Rows.uptoBulk, Rows.uptoBulkAll] at hb
 obtain ⟨n0, q0, _, _⟩ := DataW.trod_int Tryz.underlying3 g0
 obtain ⟨L, r1, h1, h2⟩ := qD g1 (by omega)
 refine ⟨⟨n0, L⟩, ⟨?_, ?_⟩, h1, h2⟩
 ·rw [hu]
  obtain rfl := List.singleton_inj.1 q0
  exact ⟨_, _, rfl, rfl, _, _, rfl, aP r1 rfl, rfl⟩
 ·cases v with
  | agg cs => rfl
  | _ => exact absurd (congrArg List.length hu) (by simp [Value.cells])
end
end
section
open Go Go.ChangeShapes Go.WideShapes
def Fi : Glo := ⟨fun R => ∃ e fz, R 0 = some (.cells (Lib.asciiSpaceTab.map fun z => Value.int .u8 z).toArray e fz), fun _ _ hle ⟨e, fz, h⟩ => ⟨e, fz, hle _ _ h⟩⟩
theorem DZ {W : World} {k : Nat} (hk : 0 < k) {laid : List (String × DataW Unit)} (hL : laidMetH Tryz.prog laid W) (hm : ("strings.asciiSpace", Rows.laid_strings_asciiSpace) ∈ laid) : Fi.p (aw W k) := by
 obtain ⟨C, e, fz, fuel, p, hW, hd⟩ := gL hL hm (by kernel_rfl) (g := 0) (t := 160) (by kernel_rfl) (by kernel_rfl)
 have e0 : (Rows.laid_strings_asciiSpace : DataW Unit) = .agg (((List.range 256).map fun i => if Lib.isSp (UInt8.ofNat i) then 1 else 0).map fun x : Nat => .lit (.int .u8 (x : Int))) := by kernel_rfl
 rw [e0] at hd
 have hc := lG (n := 256) Tryz.underlying160 Tryz.underlying5 (by kernel_rfl) (by kernel_rfl) hd (by rw [List.length_map, List.length_range])
 have e1 : C = (Lib.asciiSpaceTab.map fun z => Value.int .u8 z).toArray := by
  apply Array.ext'
  rw [hc]
  kernel_rfl
 refine ⟨e, fz, ?_⟩
 unfold aw
 rw [if_pos hk, hW, e1]
end
section
open Go Go.ChangeShapes Go.WideShapes Go.ChangeAt Go.RowKit Go.WideMaps Go.WideElems
theorem Bj {H : Type} {enc : TypeId × Value → H} {P : Program} {W : World} {base : Nat} {spare : Nat → Bool} {fuel : Nat} {t : TypeId} {ms : Array (String × TypeId)} {cs : List Value} {nm : String} {x : DataW H} {p : List MemPlace} (ht : P.underlying t = some (.interface ms)) (h : DataW.trod enc P W base spare false fuel t cs = some (.iface nm x, p)) : ∃ u v, cs = [.iface u v] := by
 cases fuel with
 | zero => simp [DataW.trod] at h
 | succ n =>
  rcases cs with _ | ⟨c, _ | ⟨c2, r⟩⟩
  ·simp [DataW.trod, ht] at h
  ·cases c with
   | iface u v => exact ⟨_, _, rfl⟩
   | _ => simp [DataW.trod, ht] at h
  ·simp [DataW.trod, ht] at h
theorem vy {W : World} {laid : List (String × DataW Unit)} (hL : laidMetH Tryz.prog laid W) {n nm : String} {x : DataW Unit} (hm : (n, .iface nm x) ∈ laid) (hn : (DataW.iface nm x).handleName?.isNone = true) {g : Nat} (hg : Tryz.prog.globalNamed n = some g) (ht : (Tryz.prog.globals[g]?).map (·.type) = some 38) : rF g (aw W W.heap.size) := by
 obtain ⟨C, e, fz, fuel, p, hW, hd⟩ := gL hL hm hn hg ht
 obtain ⟨u, v, h⟩ := Bj Tryz.underlying38 hd
 refine ⟨u, v, e, fz, ?_⟩
 unfold aw
 rw [if_pos (iS hW), hW]
 obtain ⟨l⟩ := C
 obtain rfl := h
 rfl
def EA : Glo := ⟨fun R => rF 5 R ∧ rF 6 R, fun _ _ hle ⟨⟨t, v, e, fz, h⟩, ⟨t2, v2, e2, fz2, h2⟩⟩ => ⟨⟨t, v, e, fz, hle _ _ h⟩, ⟨t2, v2, e2, fz2, hle _ _ h2⟩⟩⟩
noncomputable def mU (m : Int) : Glo := sJ (Fj (utfTy ++ errTy ++ bI m ++ shapesTy)) (sJ CR (sJ EA Fi))
theorem xY {m : Int} : ad (mU m) utfTy := k6 (jj fun x h => List.mem_append_left _ (List.mem_append_left _ (List.mem_append_left _ h)))
theorem yb {m : Int} : ad (mU m) errTy := k6 (jj fun x h => List.mem_append_left _ (List.mem_append_left _ (List.mem_append_right _ h)))
theorem x9 {m : Int} : ad (mU m) (bI m) := k6 (jj fun x h => List.mem_append_left _ (List.mem_append_right _ h))
theorem xZ {m : Int} : ad (mU m) shapesTy := k6 (jj fun x h => List.mem_append_right _ h)
theorem x8 {m : Int} : co (mU m) := fun _ h => h.2.1
theorem s7 {m : Int} : ij (mU m) := fun _ h => h.2.2.1
theorem Dh {m : Int} : SpIs (mU m) := fun _ h => h.2.2.2
theorem xB {W : World} {m : Int} (hm : W.cell? ⟨4, 0, none⟩ = some (.int .i64 m)) {laid : List (String × DataW Unit)} (h0 : ("unicode/utf8.first", Rows.laid_unicode_utf8_first) ∈ laid) (h4 : ("unicode/utf8.acceptRanges", Rows.laid_unicode_utf8_acceptRanges) ∈ laid) (h1 : ("errors.errorType", Rows.laid_errors_errorType) ∈ laid)
  (h3 : ("visitingcard/visitingcardref.shapes", Rows.laid_visitingcard_visitingcardref_shapes) ∈ laid) (h2 : ("strings.asciiSpace", Rows.laid_strings_asciiSpace) ∈ laid) (h5 : ("internal/strconv.uint64pow10", Rows.laid_internal_strconv_uint64pow10) ∈ laid) (h6 : ("strconv.ErrSyntax", Rows.laid_strconv_ErrSyntax) ∈ laid) (h7 : ("strconv.ErrRange", Rows.laid_strconv_ErrRange) ∈ laid) (hL : laidMetH Tryz.prog laid W) : (mU m).p (aw W W.heap.size) := by
 refine ⟨fun x hx => ?_, B7 (nx hL h5 (by kernel_rfl) (g := 7) (t := 277) (by kernel_rfl) (by kernel_rfl)) hL h5, ⟨vy hL h6 (by kernel_rfl) (by kernel_rfl) (by kernel_rfl), vy hL h7 (by kernel_rfl) (by kernel_rfl) (by kernel_rfl)⟩, DZ (nx hL h2 (by kernel_rfl) (g := 0) (t := 160) (by kernel_rfl) (by kernel_rfl)) hL h2⟩
 simp only [List.cons_append, List.nil_append, List.mem_cons, List.not_mem_nil, or_false] at hx
 rcases hx with rfl | rfl | rfl | rfl | hx
 ·exact xH (nx hL h0 (by kernel_rfl) (g := 8) (t := 160) (by kernel_rfl) (by kernel_rfl)) hL h0
 ·exact vZ (nx hL h4 (by kernel_rfl) (g := 9) (t := 297) (by kernel_rfl) (by kernel_rfl)) hL h4
 ·exact xP (Gp hL h1) hL h1
 ·exact w9 (ER hm) hm
 ·obtain rfl := List.mem_singleton.1 (show x ∈ [(3, [AVal.list 3 7 rO])] from hx)
  exact tO hL h3
end
section
open Go Go.RowKit
attribute [local irreducible] AWp AOps aa ax OrOk ad ae
attribute [local irreducible] tabC encF encS
theorem Do (a : AVal) : ∀ R v, Rel R a v → ∀ w, ∃ u, (Go.method (Tryz.prog.types.size + Made.depth) 294 v "Replace").run Tryz.prog w = .ok (297, u) w ∧ Rel R a u := by
 intro R v hv w
 exact ⟨v, by kernel_rfl, hv⟩
structure EncY where
 va : Option Addr
 vk : Nat
 vt : Nat
 bz : Nat
 b1 : Nat
 c1 : Nat
 b2 : Nat
 c2 : Nat
 b3 : Nat
 c3 : Nat
 h : RowV 3 va vk
abbrev encR (y : EncY) : List AVal := [.int .u32 0, .int .i32 1, .int .u32 0, .iface 294 (.own 3 (pv y.bz 0)), .raw (.slice none 0 0)]
abbrev encQ (y : EncY) : List AVal := [.int .u32 1, .int .i32 0, .int .u32 0, .iface 294 (.own 3 (pv y.bz 0)), .raw (.slice none 0 0)]
theorem Gu {G : Glo} (br bl vc : Nat) : ae Tryz.prog G 157 [.raw (pv bl 0), .func (.func 158) [.raw (pv bl 0)] []] [.row (.slice (some ⟨br, 0, none⟩) 6 vc) none 1 6 [.str [94], .str [94, 94], .str [10], .str [94, 110], .str [34], .str [94, 39]], .cells bl (some 214) (eD (.slice (some ⟨br, 0, none⟩) 6 vc))]
  (fun r H => ∃ y : EncY, r = .ret (.tuple []) ∧ H = encH br bl vc (encQ y) y.va y.vk y.vt y.bz y.b1 y.c1 y.b2 y.c2 y.b3 y.c3) := by
 have e1 := yl (G := G) br bl vc
 have e2 := yX (G := G) (b := bl) (off := 0) (fid := 158) (eT := some 214) (cs := eD (.slice (some ⟨br, 0, none⟩) 6 vc)) (T := [.row (.slice (some ⟨br, 0, none⟩) 6 vc) none 1 6 [.str [94], .str [94, 94], .str [10], .str [94, 110], .str [34], .str [94, 39]]]) (Y := EncY) (cs2 := encR) (T2 := fun y => (encH br bl vc (encR y) y.va y.vk y.vt y.bz y.b1 y.c1 y.b2 y.c2 y.b3 y.c3).eraseIdx 1) (l1 := [.raw (pv bl 0)]) (l2 := []) rfl rfl (fun _ => rfl) (fun _ => rfl) rfl rfl
  (by
   refine dP (dO (List.Perm.swap _ _ _) e1) ?_
   rintro r H ⟨va, vk, vt, bz, b1, c1, b2, c2, b3, c3, hva, rfl, rfl⟩
   exact ⟨_, List.Perm.swap _ _ _, ⟨va, vk, vt, bz, b1, c1, b2, c2, b3, c3, hva⟩, rfl, rfl⟩)
 refine dP (dO (List.Perm.swap _ _ _) e2) ?_
 rintro r H ⟨y, rfl, rfl⟩
 exact ⟨_, List.Perm.swap _ _ _, y, rfl, rfl⟩
theorem un {G : Glo} (br bl vc : Nat) (s : List UInt8) (hl : s.length ≤ 1000000) (hct : ∀ c, FnIs Tryz.prog G 185 [.str s, .str [c]] (.int .i64 (s.countP (· == c) : Nat))) :
  ae Tryz.prog G 114 [.raw (pv bl 0), .str s] [.row (.slice (some ⟨br, 0, none⟩) 6 vc) none 1 6 [.str [94], .str [94, 94], .str [10], .str [94, 110], .str [34], .str [94, 39]], .cells bl (some 214) (eD (.slice (some ⟨br, 0, none⟩) 6 vc))] (fun r H => r = .ret (.str (encS s)) ∧ H = []) := by
 have hGL : ad G [] := ab
 have e1 := Gu (G := G) br bl vc
 refine gj 1 Tryz.func114 Tryz.call114 rfl rfl rfl rfl hGL rfl ?_
 intro C hC
 refine xn1 ?_
 intros
 refine ⟨_, e1, ?_, fun v' H' ⟨y, e, _⟩ => by cases e⟩
 rintro v' H' ⟨y, e, rfl⟩
 cases e
 have e3 := vP (G := G) br bl vc (encQ y) y.va y.vk y.vt y.bz y.b1 y.c1 y.b2 y.c2 y.b3 y.c3 y.h s hl hct
 refine xn1 ?_
 intros
 refine iv 297 (.raw (pv y.bz 0)) (Do _) (s4 e3 ?_)
 exact xn0
theorem ls {G : Glo} (s : List UInt8) (hl : s.length ≤ 1000000) (hct : ∀ c, FnIs Tryz.prog G 185 [.str s, .str [c]] (.int .i64 (s.countP (· == c) : Nat))) : FnIs Tryz.prog G 58 [.str s] (.str (encS s)) := by
 have hGL : ad G [] := ab
 refine fn_x Tryz.func58 Tryz.call58 rfl rfl rfl rfl hGL ?_
 intro C hC
 refine xn1 ?_
 intros
 refine ⟨_, nk 6 _ (by decide) (by decide) ?_, ?_, ?_⟩
 ·unfold ax
  exact f7 rfl
 ·rintro v H' ⟨bl, va, vk, vc, hva, e, rfl⟩
  cases e
  obtain ⟨br, rfl, rfl⟩ := hva (by omega)
  have e2 := un (G := G) br bl vc s hl hct
  refine xn1 ?_
  intros
  refine s4 e2 ?_
  exact xn0
 ·rintro v H' ⟨bl, va, vk, vc, hva, e, rfl⟩
  cases e
end
section
open Go Go.RowKit
attribute [local irreducible] AWp AOps aa ax OrOk ad ae
attribute [local irreducible] hdC hdB badI isS mayV encS
theorem j6 {G : Glo} (s : List UInt8) (hl : s.length ≤ 9223372036854775807) : FnIs Tryz.prog G 99 [.str s] (.bool (hdB false s)) := by
 have hB := nr (G := G) s hl
 have k1 := fun i (_ : 0 ≤ (aa s i : Int)) => sA (G := G) (aa s i)
 have hGL : ad G [] := ab
 refine fn_x Tryz.func99 Tryz.call99 rfl rfl rfl rfl hGL ?_
 intro C hC
 refine xw1 ?_
 refine lp hC hGL (fun i : Nat => [(0, .str s), (5, .int .i64 (s.length : Nat)), (6, .int .i64 (i : Nat))]) (fun _ => []) (fun i => i ≤ s.length ∧ ∀ j, j < i → hdC false (aa s j : Int) = false) (fun i => s.length - i) 0 ?_ ai rfl ?_
 ·exact ⟨Nat.zero_le _, fun j h => absurd h (Nat.not_lt_zero _)⟩
 rintro i ⟨h1, h2⟩
 refine xw ?_
 repeat' (first | exact Le.n | refine Lc.mk ?_ ?_)
 all_goals intros
 all_goals first
  | (apply aj; rw [CP (i := i) (by omega) (by assumption) h2]; rfl)
  | (refine nxt (i + 1) ⟨by omega, bF h2 (by assumption)⟩ (by omega) ai rfl)
  | (apply aj; rw [zi (i := i) (by omega) h2])
theorem j8 {G : Glo} (s : List UInt8) (c : Bool) (hl : s.length ≤ 1000000) : FnIs Tryz.prog G 98 [.str s, .bool c] (.bool (mayV c s)) := by
 have hq := fun t => aL (G := G) t 34 (by decide) (by decide)
 cases c with
 | true =>
  have hE := ls (G := G) s hl (jv _)
  have hC1 := j6 (G := G) (encS s) (by have := (fh s).2; omega)
  have hq1 := hq (encS s)
  have e : mayV true s = (hdB false (encS s) && decide (idxB (encS s) 34 < 0)) := by unfold mayV eIf; rfl
  rw [e]
  have hGL : ad G [] := ab
  refine fn_x Tryz.func98 Tryz.call98 rfl rfl rfl rfl hGL ?_
  intro C hC
  refine xw ?_
  repeat' (first | exact Le.n | refine Lc.mk ?_ ?_)
  all_goals intros
  all_goals (apply aj; refine congrArg AVal.bool ?_; rw [show hdB false (encS s) = _ by assumption])
  all_goals (rw [Bool.eq_iff_iff]; simp [jM])
 | false =>
  have hC1 := j6 (G := G) s (by omega)
  have hq1 := hq s
  have e : mayV false s = (hdB false s && decide (idxB s 34 < 0)) := by unfold mayV eIf; rfl
  rw [e]
  have hGL : ad G [] := ab
  refine fn_x Tryz.func98 Tryz.call98 rfl rfl rfl rfl hGL ?_
  intro C hC
  refine xw ?_
  repeat' (first | exact Le.n | refine Lc.mk ?_ ?_)
  all_goals intros
  all_goals (apply aj; refine congrArg AVal.bool ?_; rw [show hdB false s = _ by assumption])
  all_goals (rw [Bool.eq_iff_iff]; simp [jM])
theorem oS {G : Glo} (p : Ln) (c : Bool) (ho : p.Fit) : FnIs Tryz.prog G 50 [p.A, .bool c] (p.E c).A := by
  have n1 := kU (G := G) p.n (by have := ho.n; omega)
  have n2 := kU (G := G) p.g (by have := ho.g; omega)
  have hv := j6 (G := G) p.v (by have := ho.v; omega)
  have hps := ho.ps
  have hGL : ad G [] := ab
  refine fn_x Tryz.func50 Tryz.call50 rfl rfl rfl rfl hGL ?_
  intro C hC
  refine xw ?_
  repeat' (first | exact Le.n | refine Lc.mk ?_ ?_)
  all_goals intros
  all_goals try (apply aj; first | (rw [Ln.E_5 (.inl (by assumption))]; rfl) | (rw [Ln.E_5 (.inr ⟨by assumption, by assumption⟩)]; rfl) | (rw [Ln.E_4 (by assumption) (.inl (by assumption)) (by omega)]; rfl) | (rw [Ln.E_4 (by assumption) (.inr (by assumption)) (by omega)]; rfl))
  all_goals
    have q1 : isS p.n = true := by assumption
    have q2 : p.g.length = 0 ∨ isS p.g = true := by first | exact .inl (by assumption) | exact .inr (by assumption)
    have q3 : p.ps.length ≤ 20 := by omega
    refine lp hC hGL (fun k : Nat => [(1, .bool c), (2, .rop [.str p.g, .str p.n, .list 2 p.ps.length (prF p.ps), .str p.v] 0), (34, .list 2 p.ps.length (prF p.ps)), (35, .int .i64 (p.ps.length : Nat)), (36, .int .i64 (k : Nat))]) (fun _ => []) (fun k => k ≤ p.ps.length ∧ ∀ j, j < k → prE c (p.ps.getD j Pr.z) = 0) (fun k => p.ps.length - k) 0 ?_ ai rfl ?_
    · exact ⟨Nat.zero_le _, fun j h => absurd h (Nat.not_lt_zero _)⟩
    rintro k ⟨h1, h2⟩
    have hq := ho.q k
    have n3 := kU (G := G) (p.ps.getD k Pr.z).n (by omega)
    by_cases hk : k < p.ps.length
    · cases hn : isS (p.ps.getD k Pr.z).n with
      | false =>
        rw [hn] at n3
        refine xw ?_
        repeat' (first | exact Le.n | refine Lc.mk ?_ ?_)
        all_goals intros
        · refine lp hC hGL (fun x : Nat × Int => [(1, .bool c), (2, .rop [.str p.g, .str p.n, .list 2 p.ps.length (prF p.ps), .str p.v] 0), (5, .int .i64 (k : Nat)), (7, .int .i64 x.2), (34, .list 2 p.ps.length (prF p.ps)), (35, .int .i64 (p.ps.length : Nat)), (36, .int .i64 (k : Nat)), (52, .list 1 (p.ps.getD k Pr.z).vs.length (aF (p.ps.getD k Pr.z).vs)), (53, .int .i64 ((p.ps.getD k Pr.z).vs.length : Nat)), (54, .int .i64 (x.1 : Nat))]) (fun _ => [.cells _ (some 103) [.str (p.ps.getD k Pr.z).n, .list 1 (p.ps.getD k Pr.z).vs.length (aF (p.ps.getD k Pr.z).vs)]]) (fun x => x.1 ≤ (p.ps.getD k Pr.z).vs.length ∧ prI c (p.ps.getD k Pr.z) x.1 x.2) (fun x => (p.ps.getD k Pr.z).vs.length - x.1) (0, 5) ?_ ai rfl ?_
          · exact ⟨Nat.zero_le _, .inl ⟨hn, rfl⟩⟩
          rintro ⟨j, e⟩ ⟨g1, g2⟩
          dsimp only at g1 g2
          have hj := j8 (G := G) ((p.ps.getD k Pr.z).vs.getD j []) c (by have := cI (l := (p.ps.getD k Pr.z).vs) (k := j); omega)
          refine xw ?_
          repeat' (first | exact Le.n | refine Lc.mk ?_ ?_)
          all_goals intros
          all_goals try dsimp only at *
          all_goals first
            | exact nxt (j + 1, e) ⟨by dsimp only; omega, oE g2 (by assumption)⟩ (by dsimp only; omega) ai rfl
            | exact nxt (j + 1, e) ⟨by dsimp only; omega, wV g2 (by assumption) (by assumption)⟩ (by dsimp only; omega) ai rfl
            | exact nxt (j + 1, 3) ⟨by dsimp only; omega, sm g2 (by assumption) (by omega) (by assumption)⟩ (by dsimp only; omega) ai rfl
            | exact nxs (k + 1) ⟨by omega, aM h2 ((jc g2 (by omega)).symm.trans (by assumption))⟩ (by omega) ai aR
            | (apply aj
               have e1 := jc g2 (by omega)
               rw [Ln.E_at q1 q2 q3 (by omega) h2 (by rw [← e1]; assumption), ← e1]
               rfl)
      | true =>
        rw [hn] at n3
        by_cases hz : (p.ps.getD k Pr.z).vs.length = 0
        · refine xw ?_
          repeat' (first | exact Le.n | refine Lc.mk ?_ ?_)
          all_goals intros
          · refine lp hC hGL (fun x : Nat × Int => [(1, .bool c), (2, .rop [.str p.g, .str p.n, .list 2 p.ps.length (prF p.ps), .str p.v] 0), (5, .int .i64 (k : Nat)), (7, .int .i64 x.2), (34, .list 2 p.ps.length (prF p.ps)), (35, .int .i64 (p.ps.length : Nat)), (36, .int .i64 (k : Nat)), (52, .list 1 (p.ps.getD k Pr.z).vs.length (aF (p.ps.getD k Pr.z).vs)), (53, .int .i64 ((p.ps.getD k Pr.z).vs.length : Nat)), (54, .int .i64 (x.1 : Nat))]) (fun _ => [.cells _ (some 103) [.str (p.ps.getD k Pr.z).n, .list 1 (p.ps.getD k Pr.z).vs.length (aF (p.ps.getD k Pr.z).vs)]]) (fun x => x.1 ≤ (p.ps.getD k Pr.z).vs.length ∧ prI c (p.ps.getD k Pr.z) x.1 x.2) (fun x => (p.ps.getD k Pr.z).vs.length - x.1) (0, 8) ?_ ai rfl ?_
            · exact ⟨Nat.zero_le _, .inr (.inl ⟨hn, hz, rfl⟩)⟩
            rintro ⟨j, e⟩ ⟨g1, g2⟩
            dsimp only at g1 g2
            have hj := j8 (G := G) ((p.ps.getD k Pr.z).vs.getD j []) c (by have := cI (l := (p.ps.getD k Pr.z).vs) (k := j); omega)
            refine xw ?_
            repeat' (first | exact Le.n | refine Lc.mk ?_ ?_)
            all_goals intros
            all_goals try dsimp only at *
            all_goals first
              | exact nxt (j + 1, e) ⟨by dsimp only; omega, oE g2 (by assumption)⟩ (by dsimp only; omega) ai rfl
              | exact nxt (j + 1, e) ⟨by dsimp only; omega, wV g2 (by assumption) (by assumption)⟩ (by dsimp only; omega) ai rfl
              | exact nxt (j + 1, 3) ⟨by dsimp only; omega, sm g2 (by assumption) (by omega) (by assumption)⟩ (by dsimp only; omega) ai rfl
              | exact nxs (k + 1) ⟨by omega, aM h2 ((jc g2 (by omega)).symm.trans (by assumption))⟩ (by omega) ai aR
              | (apply aj
                 have e1 := jc g2 (by omega)
                 rw [Ln.E_at q1 q2 q3 (by omega) h2 (by rw [← e1]; assumption), ← e1]
                 rfl)
        · refine xw ?_
          repeat' (first | exact Le.n | refine Lc.mk ?_ ?_)
          all_goals intros
          · refine lp hC hGL (fun x : Nat × Int => [(1, .bool c), (2, .rop [.str p.g, .str p.n, .list 2 p.ps.length (prF p.ps), .str p.v] 0), (5, .int .i64 (k : Nat)), (7, .int .i64 x.2), (34, .list 2 p.ps.length (prF p.ps)), (35, .int .i64 (p.ps.length : Nat)), (36, .int .i64 (k : Nat)), (52, .list 1 (p.ps.getD k Pr.z).vs.length (aF (p.ps.getD k Pr.z).vs)), (53, .int .i64 ((p.ps.getD k Pr.z).vs.length : Nat)), (54, .int .i64 (x.1 : Nat))]) (fun _ => [.cells _ (some 103) [.str (p.ps.getD k Pr.z).n, .list 1 (p.ps.getD k Pr.z).vs.length (aF (p.ps.getD k Pr.z).vs)]]) (fun x => x.1 ≤ (p.ps.getD k Pr.z).vs.length ∧ prI c (p.ps.getD k Pr.z) x.1 x.2) (fun x => (p.ps.getD k Pr.z).vs.length - x.1) (0, 0) ?_ ai rfl ?_
            · exact ⟨Nat.zero_le _, .inr (.inr ⟨hn, hz, .inl ⟨rfl, fun i hi => absurd hi (Nat.not_lt_zero _)⟩⟩)⟩
            rintro ⟨j, e⟩ ⟨g1, g2⟩
            dsimp only at g1 g2
            have hj := j8 (G := G) ((p.ps.getD k Pr.z).vs.getD j []) c (by have := cI (l := (p.ps.getD k Pr.z).vs) (k := j); omega)
            refine xw ?_
            repeat' (first | exact Le.n | refine Lc.mk ?_ ?_)
            all_goals intros
            all_goals try dsimp only at *
            all_goals first
              | exact nxt (j + 1, e) ⟨by dsimp only; omega, oE g2 (by assumption)⟩ (by dsimp only; omega) ai rfl
              | exact nxt (j + 1, e) ⟨by dsimp only; omega, wV g2 (by assumption) (by assumption)⟩ (by dsimp only; omega) ai rfl
              | exact nxt (j + 1, 3) ⟨by dsimp only; omega, sm g2 (by assumption) (by omega) (by assumption)⟩ (by dsimp only; omega) ai rfl
              | exact nxs (k + 1) ⟨by omega, aM h2 ((jc g2 (by omega)).symm.trans (by assumption))⟩ (by omega) ai aR
              | (apply aj
                 have e1 := jc g2 (by omega)
                 rw [Ln.E_at q1 q2 q3 (by omega) h2 (by rw [← e1]; assumption), ← e1]
                 rfl)
    · refine xw ?_
      repeat' (first | exact Le.n | refine Lc.mk ?_ ?_)
      all_goals intros
      all_goals (apply aj; first | (rw [Ln.E_3 q1 q2 q3 (by omega) h2 (by assumption)]; rfl) | (rw [Ln.E_0 q1 q2 q3 (by omega) h2 (by assumption)]; rfl))
end
section
open Go Go.RowKit
theorem pm {c : Bool} : ∀ {l : List Pr} {i : Nat}, firE c l i = .none → ∀ q ∈ l, prE c q = 0
 | [], _, _, q, h => by cases h
 | x :: l, i, h, q, hq => by
  simp only [firE] at h
  split at h
  ·rename_i h0
   rcases List.mem_cons.1 hq with rfl | hq
   ·exact h0
   ·exact pm h q hq
  ·cases h
theorem Ln.E_inv {c : Bool} {p : Ln} (h : p.E c = .none) : p.ps.length ≤ 20 ∧ ∀ k, k < p.ps.length → (p.ps.getD k Pr.z).vs.length ≠ 0 := by
 unfold Ln.E at h
 split at h
 ·cases h
 ·split at h
  ·cases h
  ·refine ⟨by omega, fun k hk h0 => ?_⟩
   have hf : firE c p.ps 0 = .none := by
    cases hf : firE c p.ps 0 with
    | none => rfl
    | errno e => rw [hf] at h; cases h
    | «at» e q => rw [hf] at h; cases h
   have h1 := pm hf (p.ps.getD k Pr.z) (by rw [List.getD_eq_getElem?_getD, List.getElem?_eq_getElem hk]; exact List.getElem_mem hk)
   cases hn : isS (p.ps.getD k Pr.z).n with
   | false => rw [uz hn] at h1; cases h1
   | true => rw [yU hn h0] at h1; cases h1
theorem E2 {P : Program} [Tab P] {C : Ctx} {n : Nat} {env : Env} {H : Heap} {Q : AExit → Env → Heap → Prop} {c : Code} (i : Nat) {b : Nat} (hi : H[i]? = some (.cells b (some 94) [.raw (.pointer none), .raw (.slice none 0 0)]))
  (h : AWp P C n c env (H.set i (bldC b (.pointer none) H.length (.slice none 0 0)) ++ [bldR (.slice none 0 0) []]) Q) : AWp P C n c env H Q := by
 refine gU (eT := some 5) 1 ?_
 unfold AWp at h ⊢
 intro R a w hm hf
 obtain ⟨Cs, e, fz, hb, hl, hr⟩ := hm.heap.holds (.cells b (some 94) [.raw (.pointer none), .raw (.slice none 0 0)]) (List.mem_cons_of_mem _ (List.mem_of_getElem? hi))
 obtain ⟨v1, t1, e1, r1, v2, t2, e2, r2, e3⟩ := hl
 have r2' : RelC R (.own H.length (.slice none 0 0)) [v2] := by
  have : v2 = .slice none 0 0 := by simpa [RelC, Value.cells] using r2
  subst this
  simp [RelC, vAgg]
 have h1 := hm.swap (i := i + 1) (x := .cells b (some 94) [.raw (.pointer none), .raw (.slice none 0 0)]) (y := bldC b (.pointer none) H.length (.slice none 0 0)) (by rw [List.getElem?_cons_succ]; exact hi) rfl
  ⟨Cs, e, fz, hb, ⟨v1, t1, e1, r1, v2, t2, e2, r2', e3⟩, hr⟩
 rw [List.set_cons_succ] at h1
 exact h R a w (h1.perm (List.perm_append_singleton _ _).symm) hf
theorem E9 {s : List UInt8} : 0 ≤ Lib.indexAny s [44, 59, 58] ↔ 0 ≤ fstB quoC s := by
 have key : ∀ x : UInt8, ([44, 59, 58] : List UInt8).contains x = quoC (x.toNat : Int) := by
  intro x
  unfold quoC
  rw [Bool.eq_iff_iff, sI, decide_eq_true_eq]
  simp only [List.mem_cons, List.not_mem_nil, or_false, exists_eq_or_imp, exists_eq_left]
  exact Iff.rfl
 rcases gO quoC s with ⟨h1, h2⟩ | ⟨m, h1, h2, h3, h4⟩
 ·rw [Lib.indexAny_none (fun j x hj hx => by
   rw [key, bu hx]
   exact h2 j hj), h1]
 ·have hx : s[m]? = some s[m] := List.getElem?_eq_getElem h1
  rw [Lib.indexAny_hit (i := m) (fun j x hj hx => by
   rw [key, bu hx]
   exact h4 j hj) hx (by rw [key, bu hx]; exact h3), h2]
attribute [local irreducible] AWp AOps aa ax OrOk ad ae
attribute [local irreducible] hdC hdB badI isS mayV encS quoS vaT psT hdT eIf
theorem s8 {G : Glo} (s : List UInt8) (hl : s.length ≤ 1000000) : FnIs Tryz.prog G 59 [.str s, .str [44, 59, 58]] (.bool (decide (0 ≤ fstB quoC s))) := by
 have hI := xz (G := G) (cs := [44, 59, 58]) (A5 (by decide) (by decide) (by decide)) (by decide) (by decide) (by decide) s (by omega)
 have hGL : ad G [] := ab
 refine fn_x Tryz.func59 Tryz.call59 rfl rfl rfl rfl hGL ?_
 intro C hC
 refine xw1 ?_
 apply aj
 refine congrArg AVal.bool ?_
 rw [Bool.eq_iff_iff]
 simp only [Bool.not_eq_true', g8, decide_eq_true_eq, E9]
theorem GR {c : Bool} {s : List UInt8} (h : decide (0 ≤ fstB quoC (eIf c s)) = true) : quoS c s = 34 :: eIf c s ++ [34] := by
 unfold quoS
 rw [if_neg (by have := of_decide_eq_true h; omega)]
theorem GS {c : Bool} {s : List UInt8} (h : decide (0 ≤ fstB quoC (eIf c s)) = false) : quoS c s = eIf c s := by
 unfold quoS
 rw [if_pos (by have := of_decide_eq_false h; omega)]
theorem Fl (s : List UInt8) : eIf true s = encS s := by unfold eIf; rfl
theorem Fm (s : List UInt8) : eIf false s = s := by unfold eIf; rfl
theorem va_0 {c : Bool} {vs : List (List UInt8)} {j : Nat} (hj : j < vs.length) (h : (j : Int) = 0) (t : List UInt8) : t ++ vaT c vs (j + 1) = t ++ vaT c vs j ++ [61] ++ quoS c (vs.getD j []) := by
 rw [tD hj, if_pos (by omega)]
 simp only [List.append_assoc]
theorem va_1 {c : Bool} {vs : List (List UInt8)} {j : Nat} (hj : j < vs.length) (h : (j : Int) ≠ 0) (t : List UInt8) : t ++ vaT c vs (j + 1) = t ++ vaT c vs j ++ [44] ++ quoS c (vs.getD j []) := by
 rw [tD hj, if_neg (by omega)]
 simp only [List.append_assoc]
theorem j7 {G : Glo} (p : Ln) (c : Bool) (ho : p.Fit) : FnIs Tryz.prog G 23 [p.A, .bool c] (.tuple [.str (p.T c), (p.E c).A]) := by
  have h0 := oS (G := G) p c ho
  rcases hq : p.E c with _ | e | ⟨e, i⟩
  case errno =>
    rw [hq] at h0
    rw [show p.T c = [] by unfold Ln.T; rw [hq]]
    have hGL : ad G [] := ab
    refine fn_x Tryz.func23 Tryz.call23 rfl rfl rfl rfl hGL ?_
    intro C hC
    exact xw0
  case «at» =>
    rw [hq] at h0
    rw [show p.T c = [] by unfold Ln.T; rw [hq]]
    have hGL : ad G [] := ab
    refine fn_x Tryz.func23 Tryz.call23 rfl rfl rfl rfl hGL ?_
    intro C hC
    exact xw0
  rw [hq] at h0
  rw [show p.T c = p.txt c by unfold Ln.T; rw [hq], yD]
  obtain ⟨i1, i2⟩ := Ln.E_inv hq
  have o1 := ho.g
  have o2 := ho.n
  have o3 := ho.v
  have o4 : ∀ k, k ≤ p.ps.length → (psT c p.ps k).length ≤ 20 * 15002 := fun k hk => by
    have h1 := sl (c := c) ho.q k hk
    rw [show 2 + 6 * 2500 = 15002 by decide] at h1
    have h2 := Nat.mul_le_mul_right 15002 (show k ≤ 20 by omega)
    exact Nat.le_trans h1 h2
  have hd1 : p.g.length ≠ 0 → p.g ++ [46] ++ p.n = hdT p := fun h => by unfold hdT; rw [if_neg h]
  have hd0 : p.g.length = 0 → p.n = hdT p := fun h => by unfold hdT; rw [if_pos h]
  have hdl : (hdT p).length ≤ 5001 := by
    unfold hdT
    split
    · omega
    · simp only [List.length_append, List.length_cons, List.length_nil]; omega
  have hGL : ad G [] := ab
  refine fn_a Tryz.func23 Tryz.call23 rfl rfl rfl rfl ?_
  intro C hC
  refine cut hC hGL [(1, .bool c), (2, .rop [.str p.g, .str p.n, .list 2 p.ps.length (prF p.ps), .str p.v] 0)] [] True ?_ fun _ => ?_
  · exact xw0
  refine cut hC hGL [(1, .bool c), (2, .rop [.str p.g, .str p.n, .list 2 p.ps.length (prF p.ps), .str p.v] 0)] [] True ?_ fun _ => ?_
  · exact xw0
  refine cuty hC hGL (fun bl : Nat => [(1, .bool c), (2, .rop [.str p.g, .str p.n, .list 2 p.ps.length (prF p.ps), .str p.v] 0), (7, .own 0 (ptrA bl))]) (fun bl => [.cells bl (some 94) [.raw (.pointer none), .raw (.slice none 0 0)]]) (fun _ => True) ?_ fun bl _ => ?_
  · refine xw1 ?_
    intro bl
    exact cy bl trivial
  refine E2 0 rfl ?_
  refine cuty hC hGL (fun x : Value × Value × List UInt8 => [(1, .bool c), (2, .rop [.str p.g, .str p.n, .list 2 p.ps.length (prF p.ps), .str p.v] 0), (7, .own 0 (ptrA bl))]) (fun x => [bldC bl x.1 1 x.2.1, bldR x.2.1 x.2.2]) (fun x => mE bl x.1 ∧ x.2.2.length ≤ 2501 ∧ x.2.2 ++ p.n = hdT p) ?_ fun x hx => ?_
  · refine xw ?_
    repeat' (first | exact Le.n | refine Lc.mk ?_ ?_)
    all_goals intros
    · apply dI (i := 0) (j := 1) rfl rfl (by decide) (aU (.inl rfl) _ [] (p.g ++ [46]) (by simp only [List.length_append, List.length_cons, List.length_nil]; omega))
      intro ua uk uc
      refine xw1 ?_
      exact cy (ptrA bl, .slice ua uk uc, [] ++ (p.g ++ [46])) ⟨.inr rfl, by simp only [List.length_append, List.length_cons, List.length_nil]; omega, by rw [List.nil_append]; exact hd1 (by assumption)⟩
    · exact cy (.pointer none, .slice none 0 0, []) ⟨.inl rfl, by simp, by rw [List.nil_append]; exact hd0 (by assumption)⟩
  obtain ⟨pa, va, tx⟩ := x
  obtain ⟨hp, hlx, htx⟩ := hx
  dsimp only at hp hlx htx
  refine cuty hC hGL (fun x : Value => [(1, .bool c), (2, .rop [.str p.g, .str p.n, .list 2 p.ps.length (prF p.ps), .str p.v] 0), (7, .own 0 (ptrA bl))]) (fun x => [bldC bl (ptrA bl) 1 x, bldR x (hdT p ++ psT c p.ps 0)]) (fun x => True) ?_ fun vb _ => ?_
  · refine xw1 ?_
    apply dI (i := 0) (j := 1) rfl rfl (by decide) (aU hp va tx p.n (by omega))
    intro ua uk uc
    rw [htx.trans (show hdT p = hdT p ++ psT c p.ps 0 by rw [show psT c p.ps 0 = [] by unfold psT; rfl, List.append_nil])]
    refine xw1 ?_
    exact cy (.slice ua uk uc) trivial
  clear htx hp hlx
  refine bw hC hGL ?_
  refine xw1 ?_
  refine lp hC hGL (fun x : Nat × Value => [(1, .bool c), (2, .rop [.str p.g, .str p.n, .list 2 p.ps.length (prF p.ps), .str p.v] 0), (7, .own 0 (ptrA bl)), (29, .list 2 p.ps.length (prF p.ps)), (30, .int .i64 (p.ps.length : Nat)), (31, .int .i64 (x.1 : Nat))]) (fun x => [bldC bl (ptrA bl) 1 x.2, bldR x.2 (hdT p ++ psT c p.ps x.1)]) (fun x => x.1 ≤ p.ps.length) (fun x => p.ps.length - x.1) (0, vb) ?_ ai rfl ?_
  · exact Nat.zero_le _
  rintro ⟨k, v⟩ h1
  dsimp only at h1
  have ol := o4 k h1
  have hqk := ho.q k
  refine xn ?_
  repeat' (first | exact Le.n | refine Lc.mk ?_ ?_)
  all_goals intros
  · rename_i b9 hkl
    dsimp only at hkl
    have hk : k < p.ps.length := by omega
    apply dI (i := 0) (j := 1) rfl rfl (by decide) (aU (.inr rfl) v (hdT p ++ psT c p.ps k) ([59] ++ (p.ps.getD k Pr.z).n) (by simp only [List.length_append, List.length_cons, List.length_nil]; omega))
    intro ua uk uc
    generalize hX : hdT p ++ psT c p.ps k ++ ([59] ++ (p.ps.getD k Pr.z).n) = X
    have hXl : X.length ≤ 500000 := by
      rw [← hX]
      simp only [List.length_append, List.length_cons, List.length_nil]
      omega
    refine xw1 ?_
    refine lp hC hGL (fun x : Nat × Value => [(1, .bool c), (2, .rop [.str p.g, .str p.n, .list 2 p.ps.length (prF p.ps), .str p.v] 0), (7, .own 0 (ptrA bl)), (29, .list 2 p.ps.length (prF p.ps)), (30, .int .i64 (p.ps.length : Nat)), (31, .int .i64 (k : Nat)), (40, .list 1 (p.ps.getD k Pr.z).vs.length (aF (p.ps.getD k Pr.z).vs)), (41, .int .i64 ((p.ps.getD k Pr.z).vs.length : Nat)), (42, .int .i64 (x.1 : Nat))]) (fun x => [bldC bl (ptrA bl) 1 x.2, bldR x.2 (X ++ vaT c (p.ps.getD k Pr.z).vs x.1), .cells b9 (some 103) [.str (p.ps.getD k Pr.z).n, .list 1 (p.ps.getD k Pr.z).vs.length (aF (p.ps.getD k Pr.z).vs)]]) (fun x => x.1 ≤ (p.ps.getD k Pr.z).vs.length) (fun x => (p.ps.getD k Pr.z).vs.length - x.1) (0, .slice ua uk uc) ?_ ai ?_ ?_
    · exact Nat.zero_le _
    · dsimp only
      rw [show vaT c (p.ps.getD k Pr.z).vs 0 = [] by unfold vaT; rfl, List.append_nil]
    rintro ⟨j, u⟩ g1
    dsimp only at g1
    have hvl := DR c (p.ps.getD k Pr.z).vs j
    have hj1 := cI (l := (p.ps.getD k Pr.z).vs) (k := j)
    have hel := sX c ((p.ps.getD k Pr.z).vs.getD j [])
    have hql := uw c ((p.ps.getD k Pr.z).vs.getD j [])
    have hE := ls (G := G) ((p.ps.getD k Pr.z).vs.getD j []) (by omega) (jv _)
    have hQ := s8 (G := G) (eIf c ((p.ps.getD k Pr.z).vs.getD j [])) (by omega)
    have hY := GR (c := c) (s := (p.ps.getD k Pr.z).vs.getD j [])
    have hN := GS (c := c) (s := (p.ps.getD k Pr.z).vs.getD j [])
    have hv0 := fun (hj : j < (p.ps.getD k Pr.z).vs.length) (h : (j : Int) = 0) => va_0 (c := c) hj h X
    have hv1 := fun (hj : j < (p.ps.getD k Pr.z).vs.length) (h : (j : Int) ≠ 0) => va_1 (c := c) hj h X
    refine xw ?_
    repeat' (first | exact Le.n | refine Lc.mk ?_ ?_)
    all_goals intros
    all_goals first
      | (have hj0 := hv0 (by omega) (by assumption)
         apply dI (i := 0) (j := 1) rfl rfl (by decide) (aU (.inr rfl) u (X ++ vaT c (p.ps.getD k Pr.z).vs j) [61] (by simp only [List.length_append, List.length_cons, List.length_nil]; omega))
         intro xa xk xc
         cases c
         all_goals
           simp only [Fl, Fm] at hQ hY hN hel
           refine xw ?_
           repeat' (first | exact Le.n | refine Lc.mk ?_ ?_)
           all_goals intros
           all_goals
             first
             | (have hy := hY (by assumption)
                apply dI (i := 0) (j := 1) rfl rfl (by decide) (aU (.inr rfl) (.slice xa xk xc) _ _ (by rw [hy] at hql; simp only [List.length_append, List.length_cons, List.length_nil] at *; omega))
                intro ya yk yc
                refine xw1 ?_
                refine nxs (j + 1, .slice ya yk yc) (by dsimp only; omega) (by dsimp only; omega) ai ?_
                dsimp only
                rw [hj0, hy]
                exact aR)
             | (have hy := hN (by assumption)
                apply dI (i := 0) (j := 1) rfl rfl (by decide) (aU (.inr rfl) (.slice xa xk xc) _ _ (by simp only [List.length_append, List.length_cons, List.length_nil] at *; omega))
                intro ya yk yc
                refine xw1 ?_
                refine nxs (j + 1, .slice ya yk yc) (by dsimp only; omega) (by dsimp only; omega) ai ?_
                dsimp only
                rw [hj0, hy]
                exact aR))
      | (have hj1 := hv1 (by omega) (by assumption)
         apply dI (i := 0) (j := 1) rfl rfl (by decide) (aU (.inr rfl) u (X ++ vaT c (p.ps.getD k Pr.z).vs j) [44] (by simp only [List.length_append, List.length_cons, List.length_nil]; omega))
         intro xa xk xc
         cases c
         all_goals
           simp only [Fl, Fm] at hQ hY hN hel
           refine xw ?_
           repeat' (first | exact Le.n | refine Lc.mk ?_ ?_)
           all_goals intros
           all_goals
             first
             | (have hy := hY (by assumption)
                apply dI (i := 0) (j := 1) rfl rfl (by decide) (aU (.inr rfl) (.slice xa xk xc) _ _ (by rw [hy] at hql; simp only [List.length_append, List.length_cons, List.length_nil] at *; omega))
                intro ya yk yc
                refine xw1 ?_
                refine nxs (j + 1, .slice ya yk yc) (by dsimp only; omega) (by dsimp only; omega) ai ?_
                dsimp only
                rw [hj1, hy]
                exact aR)
             | (have hy := hN (by assumption)
                apply dI (i := 0) (j := 1) rfl rfl (by decide) (aU (.inr rfl) (.slice xa xk xc) _ _ (by simp only [List.length_append, List.length_cons, List.length_nil] at *; omega))
                intro ya yk yc
                refine xw1 ?_
                refine nxs (j + 1, .slice ya yk yc) (by dsimp only; omega) (by dsimp only; omega) ai ?_
                dsimp only
                rw [hj1, hy]
                exact aR))
      | (have hj9 : (p.ps.getD k Pr.z).vs.length = j := by omega
         refine nxs (k + 1, u) (by dsimp only; omega) (by dsimp only; omega) ai ?_
         dsimp only
         rw [show hdT p ++ psT c p.ps (k + 1) = X ++ vaT c (p.ps.getD k Pr.z).vs j by
           rw [oD hk, DT (i2 k hk), ← hX, hj9]
           simp only [List.append_assoc, List.cons_append, List.nil_append]]
         exact aR)
  · have hkk : k = p.ps.length := by dsimp only at *; omega
    subst hkk
    refine dw_p mixed hC hGL false (fun (_ : Unit) => [(4, .str (hdT p ++ psT c p.ps p.ps.length ++ [58] ++ p.v)), (5, .raw .nilIface)]) (fun _ => [cU, cU]) (.take 2 (.take 3 (.br 0 (.take 1 (.take 4 (.take 5 (.take 6 (.done))))) (.nil)))) (by kernel_rfl) ?_ ?_
    · refine xn1 ?_
      intro C hC
      refine s3 (i := 0) (j := 1) rfl rfl (by decide) (du (hdT p ++ psT c p.ps p.ps.length) (by rw [List.length_append]; omega)) ?_
      have hlen : (hdT p ++ psT c p.ps p.ps.length).length ≤ 400000 := by rw [List.length_append]; omega
      refine xn ?_
      repeat' (first | exact Le.n | refine Lc.mk ?_ ?_)
      all_goals intros
      all_goals exact ⟨(), ⟨rfl, rfl, trivial⟩, rfl⟩
    · intro _
      exact xn0
end
section
open Go Go.RowKit
def fstN (f : Nat → Int) : Nat → Int
 | 0 => 0
 | n + 1 => if fstN f n = 0 then f n else fstN f n
theorem gh {f : Nat → Int} : ∀ {n : Nat}, (∀ j, j < n → f j = 0) → fstN f n = 0
 | 0, _ => rfl
 | n + 1, h => by rw [fstN, if_pos (gh fun j hj => h j (by omega)), h n (by omega)]
theorem nz {f : Nat → Int} {k : Nat} : ∀ {n : Nat}, k < n → (∀ j, j < k → f j = 0) → f k ≠ 0 → fstN f n = f k
 | 0, h, _, _ => absurd h (Nat.not_lt_zero _)
 | n + 1, h, h1, h2 => by
  rw [fstN]
  rcases Nat.lt_or_ge k n with g | g
  ·rw [nz g h1 h2, if_neg h2]
  ·obtain rfl : k = n := by omega
   rw [if_pos (gh h1)]
def fstE (f : Nat → Int) : Nat → Err
 | 0 => .none
 | n + 1 => match fstE f n with
  | .none => if f n = 0 then .none else .at (f n) n
  | e => e
theorem gi {f : Nat → Int} : ∀ {n : Nat}, (∀ j, j < n → f j = 0) → fstE f n = .none
 | 0, _ => rfl
 | n + 1, h => by rw [fstE, gi fun j hj => h j (by omega)]; simp only [h n (by omega), if_true]
theorem sM {f : Nat → Int} {k : Nat} : ∀ {n : Nat}, k < n → (∀ j, j < k → f j = 0) → f k ≠ 0 → fstE f n = .at (f k) k
 | 0, h, _, _ => absurd h (Nat.not_lt_zero _)
 | n + 1, h, h1, h2 => by
  rw [fstE]
  rcases Nat.lt_or_ge k n with g | g
  ·rw [sM g h1 h2]
  ·obtain rfl : k = n := by omega
   rw [gi h1]
   simp only [h2, if_false]
def frB (n : List UInt8) : Bool := seqB (al 97 122 (-32) n) [66, 69, 71, 73, 78] || (seqB (al 97 122 (-32) n) [69, 78, 68] || seqB (al 97 122 (-32) n) [86, 69, 82, 83, 73, 79, 78])
def pE (ps : List Pr) (i : Nat) : Int := if (ps.getD i Pr.z).fit = false then 3 else if al 97 122 (-32) (ps.getD i Pr.z).n ≠ nTYP ∧ bO (ps.getD i Pr.z).n ps 0 < (i : Int) then 9 else 0
def parE (ps : List Pr) : Int := fstN (pE ps) ps.length
theorem CX {s : List UInt8} {l : List Pr} : ∀ {j : Nat}, j < l.length → al 97 122 (-32) (l.getD j Pr.z).n = al 97 122 (-32) s → bO s l 0 ≤ (j : Int) := by
 intro j
 induction j using Nat.strongRecOn with
 | _ j ih =>
  intro hj he
  by_cases h : ∃ i, i < j ∧ al 97 122 (-32) (l.getD i Pr.z).n = al 97 122 (-32) s
  ·obtain ⟨i, hi, h⟩ := h
   have := ih i hi (by omega) h
   omega
  ·rw [iK 0 hj (fun i hi e => h ⟨i, hi, e⟩) he]
   omega
theorem rj {l : List Pr} {i : Nat} (hi : i < l.length) : bO (l.getD i Pr.z).n l 0 < (i : Int) ↔ ∃ j, j < i ∧ al 97 122 (-32) (l.getD j Pr.z).n = al 97 122 (-32) (l.getD i Pr.z).n := by
 constructor
 ·intro h
  apply Classical.byContradiction
  intro hn
  rw [iK 0 hi (fun j hj e => hn ⟨j, hj, e⟩) rfl] at h
  omega
 ·rintro ⟨j, hj, h⟩
  have := CX (s := (l.getD i Pr.z).n) (l := l) (j := j) (by omega) h
  omega
theorem pE_3 {ps : List Pr} {i : Nat} (h : (ps.getD i Pr.z).fit = false) : pE ps i = 3 := by unfold pE; rw [if_pos h]
theorem pE_9 {ps : List Pr} {i : Nat} (h : (ps.getD i Pr.z).fit = true) (h1 : al 97 122 (-32) (ps.getD i Pr.z).n ≠ nTYP) (h2 : bO (ps.getD i Pr.z).n ps 0 < (i : Int)) : pE ps i = 9 := by unfold pE; rw [if_neg (by rw [h]; decide), if_pos ⟨h1, h2⟩]
theorem pE_0 {ps : List Pr} {i : Nat} (h : (ps.getD i Pr.z).fit = true) (h1 : ¬ (al 97 122 (-32) (ps.getD i Pr.z).n ≠ nTYP ∧ bO (ps.getD i Pr.z).n ps 0 < (i : Int))) : pE ps i = 0 := by unfold pE; rw [if_neg (by rw [h]; decide), if_neg h1]
theorem fw {ps : List Pr} {k : Nat} (hk : k < ps.length) (h : ∀ j, j < k → pE ps j = 0) (h1 : pE ps k ≠ 0) : parE ps = pE ps k := nz hk h h1
theorem B8 {ps : List Pr} {k : Nat} (hk : ps.length ≤ k) (h : ∀ j, j < k → pE ps j = 0) : parE ps = 0 := gh fun j hj => h j (by omega)
def Itm.k (v : Int) (x : Itm) : Int := eO v x.1.n x.1.ps
def Itm.ln (x : Itm) : Ln := ⟨x.1.g, x.1.n, x.1.ps, x.2.T⟩
def Itm.L (v : Int) (x : Itm) : List UInt8 := x.ln.T (eqB v 4)
def Itm.r (v : Int) (x : Itm) : Int := if x.2.t = 3 ∧ 0 < (ba v x.1.n).p ∧ (ba v x.1.n).p ≠ (x.2.L.length : Int) then 2 else if 1500 < (x.L v).length then 4 else 0
def Itm.w (v : Int) (x : Itm) : Int := match x.p.E (eqB v 4) with
 | .none => if frB x.1.n = true then 5 else if parE x.1.ps ≠ 0 then parE x.1.ps else if x.k v ≠ x.2.t then 1 else match x.2.E with
  | .none => x.r v
  | e => e.e
 | e => e.e
theorem w_ln {v : Int} {x : Itm} (h : x.p.E (eqB v 4) ≠ .none) : x.w v = (x.p.E (eqB v 4)).e := by
 unfold Itm.w
 split
 ·rename_i k; exact absurd k h
 ·rfl
theorem w_fr {v : Int} {x : Itm} (h : x.p.E (eqB v 4) = .none) (h1 : frB x.1.n = true) : x.w v = 5 := by
 unfold Itm.w
 rw [h]
 simp only [h1, if_true]
theorem Fb {v : Int} {x : Itm} (h : x.p.E (eqB v 4) = .none) (h1 : frB x.1.n = false) (h2 : parE x.1.ps ≠ 0) : x.w v = parE x.1.ps := by
 unfold Itm.w
 rw [h]
 simp only [h1, Bool.false_eq_true, if_false, if_pos h2]
theorem Fc {v : Int} {x : Itm} (h : x.p.E (eqB v 4) = .none) (h1 : frB x.1.n = false) (h2 : parE x.1.ps = 0) (h3 : x.k v ≠ x.2.t) : x.w v = 1 := by
 unfold Itm.w
 rw [h]
 simp only [h1, Bool.false_eq_true, if_false, h2, ne_eq, not_true_eq_false, if_pos h3]
theorem Fa {v : Int} {x : Itm} (h : x.p.E (eqB v 4) = .none) (h1 : frB x.1.n = false) (h2 : parE x.1.ps = 0) (h3 : x.k v = x.2.t) (h4 : x.2.E ≠ .none) : x.w v = x.2.E.e := by
 unfold Itm.w
 rw [h]
 simp only [h1, Bool.false_eq_true, if_false, h2, h3, ne_eq, not_true_eq_false]
theorem w_r {v : Int} {x : Itm} (h : x.p.E (eqB v 4) = .none) (h1 : frB x.1.n = false) (h2 : parE x.1.ps = 0) (h3 : x.k v = x.2.t) (h4 : x.2.E = .none) : x.w v = x.r v := by
 unfold Itm.w
 rw [h]
 simp only [h1, Bool.false_eq_true, if_false, h2, h3, h4, ne_eq, not_true_eq_false]
theorem Ln.E_v {c : Bool} {p : Ln} {v : List UInt8} (h : Ln.E c ⟨p.g, p.n, p.ps, []⟩ = .none) (hv : hdB false v = true) : Ln.E c ⟨p.g, p.n, p.ps, v⟩ = .none := by
 unfold Ln.E at h ⊢
 dsimp only at h ⊢
 split at h
 ·cases h
 ·rename_i h1
  rw [if_neg h1]
  split at h
  ·cases h
  ·rename_i h2
   rw [if_neg h2]
   split at h
   ·rename_i h3
    simp only [hv, if_true]
   ·rename_i h3
    exact absurd h h3
theorem CV {c : Bool} : ∀ {l : List Pr} {i : Nat}, (firE c l i).e = 0 → firE c l i = .none
 | [], _, _ => rfl
 | q :: l, i, h => by
  simp only [firE] at h ⊢
  split at h
  ·rename_i g
   rw [if_pos g]
   exact CV h
  ·rename_i g
   exact absurd h g
theorem G1 {c : Bool} {p : Ln} (h : (p.E c).e = 0) : p.E c = .none := by
 unfold Ln.E at h ⊢
 split
 ·rename_i g; rw [if_pos g] at h; cases h
 ·rename_i g
  rw [if_neg g] at h
  split
  ·rename_i g2; rw [if_pos g2] at h; cases h
  ·rename_i g2
   rw [if_neg g2] at h
   have h0 := CV (c := c) (l := p.ps) (i := 0)
   cases hf : firE c p.ps 0 with
   | none =>
    rw [hf] at h
    dsimp only at h ⊢
    split
    ·rfl
    ·rename_i g3; rw [if_neg g3] at h; cases h
   | errno e => rw [hf] at h h0; exact absurd (h0 h) (fun k => by cases k)
   | «at» e q => rw [hf] at h h0; exact absurd (h0 h) (fun k => by cases k)
theorem w_ok {v : Int} {x : Itm} (h : x.w v = 0) : x.p.E (eqB v 4) = .none := by
 unfold Itm.w at h
 split at h
 ·rename_i k; exact k
 ·exact G1 h
theorem Bb {v : Int} {x : Itm} (h : x.w v = 0) : x.ln.E (eqB v 4) = .none := Ln.E_v (p := x.ln) (w_ok h) (Vl.T_hd _)
theorem w_E {v : Int} {x : Itm} (h : x.w v = 0) : x.2.E = .none := by
 have h0 := w_ok h
 unfold Itm.w at h
 rw [h0] at h
 dsimp only at h
 split at h
 ·cases h
 split at h
 ·rename_i k; exact absurd h k
 split at h
 ·cases h
 split at h
 ·assumption
 ·rename_i k
  exact Vl.E_zero _ h
def Itm.lE (v : Int) (x : Itm) : Err := if v = 3 ∨ v = 4 then if x.w v = 0 then .none else .errno (x.w v) else .errno 1
def Itm.lT (v : Int) (x : Itm) : List UInt8 := if v = 3 ∨ v = 4 then if x.w v = 0 then x.L v else [] else []
def cntI (l : List Itm) (s : List UInt8) (k : Nat) : Nat := ((l.take k).filter fun x => seqB (al 97 122 (-32) x.1.n) s).length
theorem ro (l : List Itm) (s : List UInt8) : cntI l s 0 = 0 := rfl
theorem my {l : List Itm} {s : List UInt8} {k : Nat} (hk : k < l.length) : cntI l s (k + 1) = cntI l s k + if seqB (al 97 122 (-32) (l.getD k Itm.z).1.n) s then 1 else 0 := by
 unfold cntI
 rw [List.take_succ_eq_append_getElem hk, List.filter_append, List.length_append, List.getD_eq_getElem?_getD, List.getElem?_eq_getElem hk, Option.getD_some]
 congr 1
 simp only [List.filter_cons, List.filter_nil]
 split <;> rfl
theorem lm (l : List Itm) (s : List UInt8) (k : Nat) : cntI l s k ≤ k := by
 unfold cntI
 refine Nat.le_trans (List.length_filter_le _ _) ?_
 rw [List.length_take]
 omega
def fx (v : Int) (l : List Itm) (i : Nat) : Int := if 0 < (ba v (l.getD i Itm.z).1.n).b ∧ (ba v (l.getD i Itm.z).1.n).b ≤ (cntI l (al 97 122 (-32) (l.getD i Itm.z).1.n) i : Int) then 9 else 0
def leE (v : Int) (l : List Itm) (i : Nat) : Int := if (cntI l ((au v).getD i []) l.length : Int) < (ba v ((au v).getD i [])).a then 7 else 0
def Crd.E (c : Crd) : Err := if c.v = 3 ∨ c.v = 4 then
  if 60 < c.l.length then .errno 4
  else match fstE (fun i => (c.l.getD i Itm.z).w c.v) c.l.length with
   | .none => match fstE (fx c.v c.l) c.l.length with
    | .none => if fstN (leE c.v c.l) (au c.v).length = 0 then .none else .errno 7
    | e => e
   | e => e
 else .errno 1
theorem qr : ∀ s : List UInt8, al 97 122 (-32) (al 97 122 (-32) s) = al 97 122 (-32) s
 | [] => rfl
 | c :: s => by
  have ih := qr s
  have hc : UInt8.ofNat (bR 97 122 (-32) (UInt8.ofNat (bR 97 122 (-32) c.toNat).toNat).toNat).toNat = UInt8.ofNat (bR 97 122 (-32) c.toNat).toNat := by
   have h1 := c.toNat_lt
   rw [← UInt8.toNat_inj]
   simp only [UInt8.toNat_ofNat']
   unfold bR
   (repeat' split) <;> omega
  unfold al at ih ⊢
  simp only [List.map_cons, List.cons.injEq]
  exact ⟨hc, ih⟩
theorem D8 (v : Int) (s : List UInt8) : ba v (al 97 122 (-32) s) = ba v s := by unfold ba; rw [qr]
theorem vp {s : List UInt8} : ∀ l : List (List UInt8 × Rl), (∀ x ∈ l, 0 ≤ x.2.p) → 0 ≤ (cE s l).p
 | [], _ => by show (0 : Int) ≤ 0; decide
 | x :: t, h => by
  unfold cE
  split
  ·exact h x (List.mem_cons_self ..)
  ·exact vp t fun y hy => h y (List.mem_cons_of_mem _ hy)
theorem FX (v : Int) (s : List UInt8) : 0 ≤ (ba v s).p := by
 unfold ba
 split
 ·rename_i h
  refine vp _ fun x hx => ?_
  have : ∀ w : Int, (w = 3 ∨ w = 4) → (rowV w).all (fun x => decide (0 ≤ x.2.p)) = true := by
   rintro w (rfl | rfl) <;> decide
  exact of_decide_eq_true (List.all_eq_true.1 (this v h) x hx)
 ·decide
theorem Cl {v : Int} {n : List UInt8} (h : n ∈ au v) : al 97 122 (-32) n = n ∧ n.length ≤ 20 := by
 unfold au at h
 split at h
 ·rename_i hv
  have : ∀ w : Int, (w = 3 ∨ w = 4) → ((rowV w).map (·.1)).all (fun n => decide (al 97 122 (-32) n = n ∧ n.length ≤ 20)) = true := by
   rintro w (rfl | rfl) <;> decide
  exact of_decide_eq_true (List.all_eq_true.1 (this v hv) n h)
 ·cases h
theorem qN (v : Int) : (au v).length ≤ 100 := by
 unfold au
 split
 ·rename_i hv
  have : ∀ w : Int, (w = 3 ∨ w = 4) → ((rowV w).map (·.1)).length ≤ 100 := by
   rintro w (rfl | rfl) <;> decide
  exact this v hv
 ·exact Nat.zero_le _
theorem uK {v : Int} {i : Nat} (h : i < (au v).length) : al 97 122 (-32) ((au v).getD i []) = (au v).getD i [] ∧ ((au v).getD i []).length ≤ 20 := by
 rw [List.getD_eq_getElem?_getD, List.getElem?_eq_getElem h]
 exact Cl (List.getElem_mem h)
def Crd.ok (c : Crd) : Prop := c.l.length ≤ 1000000 ∧ ∀ x ∈ c.l, Itm.OK 2500 x
theorem Crd.fine.ok {c : Crd} (h : c.fine) : c.ok := ⟨by have := h.1; omega, h.2⟩
theorem Itm.fit {x : Itm} (h : x.OK 2500) : x.ln.Fit := ⟨h.p.g, h.p.n, Vl.T_len (by have := h.s; omega) h.L, h.p.ps, h.p.q⟩
theorem Itm.OK.v {x : Itm} (h : x.OK 2500) : x.2.OK := ⟨by have := h.s; omega, h.L.n, fun k => (h.L.k k).1, fun k j => by have := (h.L.k k).2; have := cI (l := x.2.L.getD k []) (k := j); omega⟩
end
section
open Go Go.RowKit
attribute [local irreducible] AWp AOps ax OrOk ad ae
attribute [local irreducible] tabE escF escS
theorem GZ (a : AVal) : ∀ R v, Rel R a v → ∀ w, ∃ u, (Go.method (Tryz.prog.types.size + Made.depth) 294 v "Replace").run Tryz.prog w = .ok (297, u) w ∧ Rel R a u := by
 intro R v hv w
 exact ⟨v, by kernel_rfl, hv⟩
theorem um {G : Glo} (br bl vc : Nat) (s : List UInt8) (hl : s.length ≤ 2000000) (hct : ∀ c, FnIs Tryz.prog G 185 [.str s, .str [c]] (.int .i64 (s.countP (· == c) : Nat))) :
  ae Tryz.prog G 114 [.raw (pv bl 0), .str s] [escO br vc, .cells bl (some 214) (newC (.slice (some ⟨br, 0, none⟩) 8 vc))] (fun r H => r = .ret (.str (escS s)) ∧ H = []) := by
 have hGL : ad G [] := ab
 have e1 := Gr (G := G) br bl vc
 refine gj 1 Tryz.func114 Tryz.call114 rfl rfl rfl rfl hGL rfl ?_
 intro C hC
 refine xm1 ?_
 intros
 refine ⟨_, e1, ?_, fun v' H' ⟨y, e, _⟩ => by cases e⟩
 rintro v' H' ⟨y, e, rfl⟩
 cases e
 have e3 := vu (G := G) br bl vc (escQ y) y.va y.vk y.vt y.bz y.b1 y.c1 y.b2 y.c2 y.b3 y.c3 y.b4 y.c4 y.h s hl hct
 refine xm1 ?_
 intros
 refine iv 297 (.raw (pv y.bz 0)) (GZ _) (s4 e3 ?_)
 exact xm0
theorem mH {G : Glo} (s : List UInt8) (hl : s.length ≤ 2000000) (hct : ∀ c, FnIs Tryz.prog G 185 [.str s, .str [c]] (.int .i64 (s.countP (· == c) : Nat))) : FnIs Tryz.prog G 109 [.str s] (.str (escS s)) := by
 have hGL : ad G [] := ab
 refine fn_x Tryz.func109 Tryz.call109 rfl rfl rfl rfl hGL ?_
 intro C hC
 refine xn1 ?_
 intros
 refine ⟨_, ss 8 _ (by decide) (by decide) ?_, ?_, ?_⟩
 ·unfold ax
  exact f7 rfl
 ·rintro v H' ⟨bl, va, vk, vc, hva, e, rfl⟩
  cases e
  obtain ⟨br, rfl, rfl⟩ := hva (by omega)
  have e2 := um (G := G) br bl vc s hl hct
  refine xm1 ?_
  intros
  refine s4 e2 ?_
  exact xm0
 ·rintro v H' ⟨bl, va, vk, vc, hva, e, rfl⟩
  cases e
end
section
open Go Go.RowKit
attribute [local irreducible] AWp AOps aa ax OrOk ad ae
attribute [local irreducible] escF escS
theorem zK {G : Glo} (l : List (List UInt8)) (hn : l.length ≤ 2000000) (hl : Lib.lens l ≤ 2000000) : FnIs Tryz.prog G 154 [.list 1 l.length (aF l)] (.tuple [.str (joinT l), (kY l).A]) := by
 have hE := fun k => mH (G := G) (l.getD k []) (by have := cI (l := l) (k := k); omega) (jv _)
 have hj := jf l
 have hGL : ad G [] := ab
 refine fn_x Tryz.func154 Tryz.call154 rfl rfl rfl rfl hGL ?_
 intro C hC
 cases l with
 | nil =>
  exact xw0
 | cons x r =>
  refine xw1 ?_
  intros
  refine oR 4 1 rfl ?_
  refine lp hC hGL (fun (y : List (List UInt8) × Value) => [(4, .own 0 y.2), (11, .list 1 (x :: r).length (aF (x :: r))), (12, .int .i64 ((x :: r).length : Nat)), (13, .int .i64 (y.1.length : Nat))]) (fun y => [.row y.2 none 1 y.1.length (aN y.1)]) (fun y => y.1.length ≤ (x :: r).length ∧ y.1 = ((x :: r).map escS).take y.1.length) (fun y => (x :: r).length - y.1.length) ([], .slice none 0 0) ?_ ai rfl ?_
  ·exact ⟨Nat.zero_le _, rfl⟩
  ·rintro ⟨ps, v⟩ ⟨h1, h2⟩
   have h1 : ps.length ≤ (x :: r).length := h1
   have h2 : ps = ((x :: r).map escS).take ps.length := h2
   repeat' (first | (conv => whnf); first | refine .w ?_ | refine .v ?_ | refine sc_c ?_ ?_ <;> (intro hb; try exact dd hb) | apply an | apply az | (apply sc_i <;> intro hb) | (apply bx_i; intro hbd) | (apply ar; first | exact hE _) | (apply ap (i := 0) rfl; first | exact hE _) | (apply ab_i; intro bl) | (apply as_i; intro va vk vc hva) | (apply av_i; intro v) | (apply ac_i; intro bl cap hcap) | apply bo_l | (apply nx_i <;> intro hnx) | exact rt_w | apply dw_q mixed hC hGL (by kernel_rfl) | (apply cq; assumption; (first | exact hE _); exact rfl))
   all_goals try conv => whnf
   ·have hb : ((ps.length : Nat) : Int) < (((x :: r).length : Nat) : Int) := hb
    have hlt : ps.length < (x :: r).length := by omega
    refine nxt (ps ++ [escS ((x :: r).getD ps.length [])], .slice va vk vc) ?_ ?_ ⟨rfl, rfl, rfl, ?_, trivial⟩ ?_
    ·refine ⟨?_, ?_⟩
     ·show (ps ++ [escS ((x :: r).getD ps.length [])]).length ≤ (x :: r).length
      rw [List.length_append, List.length_singleton]; omega
     ·show ps ++ [escS ((x :: r).getD ps.length [])] = ((x :: r).map escS).take (ps ++ [escS ((x :: r).getD ps.length [])]).length
      rw [List.length_append, List.length_singleton, pV hlt, ← h2]
    ·show (x :: r).length - (ps ++ [escS ((x :: r).getD ps.length [])]).length < (x :: r).length - ps.length
     rw [List.length_append, List.length_singleton]; omega
    ·show some (AVal.int .i64 (((ps.length : Nat) : Int) + 1)) = some (AVal.int .i64 ((ps ++ [escS ((x :: r).getD ps.length [])]).length : Nat))
     rw [List.length_append]; rfl
    ·dsimp only
     rw [← bS, List.length_append]
     rfl
   ·have hb : (((x :: r).length : Nat) : Int) ≤ ((ps.length : Nat) : Int) := hb
    have h3 : ps = (x :: r).map escS := by rw [h2, List.take_of_length_le (by rw [List.length_map]; omega)]
    subst h3
    refine ap (i := 0) rfl (bP ((x :: r).map escS) [44] v (by omega) (by have : (Lib.join ((x :: r).map escS) [44]).length ≤ _ := hj; omega)) ?_
    exact xw0
theorem B1 {G : Glo} (l : List (List UInt8)) (hn : l.length ≤ 2000000) (hl : Lib.lens l ≤ 2000000) : FnIs Tryz.prog G 145 [.list 1 l.length (aF l)] (.tuple [.str (joinT l), .int .i64 (kY l).e]) := by
 have hE := fun k => oy (G := G) (l.getD k []) (by have := cI (l := l) (k := k); omega)
 have hj := jf l
 have hGL : ad G [] := ab
 refine fn_x Tryz.func145 Tryz.call145 rfl rfl rfl rfl hGL ?_
 intro C hC
 cases l with
 | nil =>
  exact xw0
 | cons x r =>
  have hq : ∀ k, (escS x ++ Lib.joinTail [44] ((r.map escS).take k)).length ≤ (joinT (x :: r)).length := fun k => by
   unfold joinT
   rw [List.map_cons, Lib.join_cons, List.length_append, List.length_append]
   have := Lib.joinTail_take_le [44] (r.map escS) k
   omega
  have hx : ∀ k, (escS ((x :: r).getD k [])).length ≤ 4000000 := fun k => by
   have h1 := (ff ((x :: r).getD k [])).2
   have h2 := cI (l := x :: r) (k := k)
   omega
  have k1 := @hE
  refine xw1 ?_
  intros
  refine lp hC hGL (fun k : Nat => [(4, .str (escS x ++ Lib.joinTail [44] ((r.map escS).take k))), (15, .list 1 ((x :: r).length - 1) (fun k => aF (x :: r) (1 + k))), (16, .int .i64 (((x :: r).length - 1 : Nat) : Int)), (17, .int .i64 (k : Nat))]) (fun _ => []) (fun k => k ≤ r.length) (fun k => r.length - k) 0 (Nat.zero_le _) ⟨?_, rfl, rfl, rfl, trivial⟩ rfl ?_
  ·show some (AVal.str (escS x)) = some (AVal.str (escS x ++ Lib.joinTail [44] []))
   simp [Lib.joinTail]
  ·intro k hk
   have hq1 := hq k
   have hx1 := hx (1 + k)
   have hgl : (x :: r).getD (1 + k) [] = r.getD k [] := by rw [Nat.add_comm]; rfl
   repeat' (first | (conv => whnf); first | refine .w ?_ | refine .v ?_ | refine sc_c ?_ ?_ <;> (intro hb; try exact dd hb) | apply an | apply az | (apply sc_i <;> intro hb) | (apply bx_i; intro hbd) | (apply ar; first | exact hE _) | (apply ap (i := 0) rfl; first | exact hE _) | (apply ab_i; intro bl) | (apply as_i; intro va vk vc hva) | (apply av_i; intro v) | (apply ac_i; intro bl cap hcap) | apply bo_l | (apply nx_i <;> intro hnx) | exact rt_w | apply dw_q mixed hC hGL (by kernel_rfl) | (apply cq; assumption; (first | exact hE _); exact rfl))
   all_goals try conv => whnf
   ·have hb2 : ((k : Nat) : Int) < ((r.length : Nat) : Int) := hb
    have hlt : k < r.length := by omega
    refine nxt (k + 1) ?_ ?_ ⟨?_, rfl, rfl, rfl, trivial⟩ rfl
    ·exact hlt
    ·show r.length - (k + 1) < r.length - k; omega
    ·show some (AVal.str (escS x ++ Lib.joinTail [44] ((r.map escS).take k) ++ ([44] ++ escS ((x :: r).getD (1 + k) [])))) = some (AVal.str (escS x ++ Lib.joinTail [44] ((r.map escS).take (k + 1))))
     rw [Lib.joinTail_take_succ [44] (r.map escS) k (escS (r.getD k [])) (by rw [List.getElem?_map, List.getD_eq_getElem?_getD, List.getElem?_eq_getElem hlt]; rfl), hgl]
     simp only [List.append_assoc]
   ·have hb2 : ((r.length : Nat) : Int) ≤ ((k : Nat) : Int) := hb
    apply aj
    unfold joinT
    rw [List.take_of_length_le (by rw [List.length_map]; omega), List.map_cons, Lib.join_cons]
    rfl
end
section
open Go Go.RowKit
attribute [local irreducible] AWp AOps aa ax OrOk ad ae
attribute [local irreducible] escF escS joinT kY
theorem qY : kY [] = .errno 8 := by unfold kY; rw [if_pos rfl]
theorem o6 {l : List (List UInt8)} (h : l ≠ []) : kY l = .none := by unfold kY; rw [if_neg h]
theorem nX {G : Glo} (L : List (List (List UInt8))) (hs : Small L) : FnIs Tryz.prog G 110 [.list 1 L.length (cB L)] (.tuple [.str (cS L), (dm L).A]) := by
 have hJ := fun k => zK (G := G) (L.getD k []) (hs.k k).1 (hs.k k).2
 have hn := hs.n
 by_cases h0 : L = []
 ·subst h0
  have hGL : ad G [] := ab
  refine fn_x Tryz.func110 Tryz.call110 rfl rfl rfl rfl hGL ?_
  intro C hC
  exact xw0
 ·have h00 : L.length ≠ 0 := fun h => h0 (List.eq_nil_of_length_eq_zero h)
  have hGL : ad G [] := ab
  refine fn_x Tryz.func110 Tryz.call110 rfl rfl rfl rfl hGL ?_
  intro C hC
  refine xw1 ?_
  intros
  refine oR 4 1 rfl ?_
  refine lp hC hGL (fun (y : List (List UInt8) × Value) => [(4, .own 0 y.2), (13, .list 1 L.length (cB L)), (14, .int .i64 (L.length : Nat)), (15, .int .i64 (y.1.length : Nat))]) (fun y => [.row y.2 none 1 y.1.length (aN y.1)]) (fun y => y.1.length ≤ bV L ∧ y.1 = (L.map joinT).take y.1.length) (fun y => L.length - y.1.length) ([], .slice none 0 0) ?_ ai rfl ?_
  ·exact ⟨Nat.zero_le _, rfl⟩
  ·rintro ⟨ps, v⟩ ⟨h1, h2⟩
   have h1 : ps.length ≤ bV L := h1
   have h2 : ps = (L.map joinT).take ps.length := h2
   have h3 := kT L
   by_cases hlt : ps.length < L.length
   ·have hJ1 := hJ ps.length
    by_cases hnil : L.getD ps.length [] = []
    ·have hk := me hlt h1 hnil
     rw [show kY (L.getD ps.length []) = .errno 8 by rw [hnil]; exact qY] at hJ1
     refine xw1 ?_
     intros
     apply aj
     unfold cS dm
     rw [if_pos (by omega), if_neg h0, if_pos (by omega), hk]
     rfl
    ·rw [o6 hnil] at hJ1
     repeat' (first | (conv => whnf); first | refine .w ?_ | refine .v ?_ | refine sc_c ?_ ?_ <;> (intro hb; try exact dd hb) | apply an | apply az | (apply sc_i <;> intro hb) | (apply bx_i; intro hbd) | (apply ar; first | exact hJ1) | (apply ap (i := 0) rfl; first | exact hJ1) | (apply ab_i; intro bl) | (apply as_i; intro va vk vc hva) | (apply av_i; intro v) | (apply ac_i; intro bl cap hcap) | apply bo_l | (apply nx_i <;> intro hnx) | exact rt_w | apply dw_q mixed hC hGL (by kernel_rfl) | (apply cq; assumption; (first | exact hJ1); exact rfl))
     all_goals try conv => whnf
     have hm := j5 hlt h1 hnil
     refine nxt (ps ++ [joinT (L.getD ps.length [])], .slice va vk vc) ?_ ?_ ⟨rfl, rfl, rfl, ?_, trivial⟩ ?_
     ·refine ⟨?_, ?_⟩
      ·show (ps ++ [joinT (L.getD ps.length [])]).length ≤ bV L
       rw [List.length_append, List.length_singleton]; exact hm
      ·show ps ++ [joinT (L.getD ps.length [])] = (L.map joinT).take (ps ++ [joinT (L.getD ps.length [])]).length
       rw [List.length_append, List.length_singleton, io hlt, ← h2]
     ·show L.length - (ps ++ [joinT (L.getD ps.length [])]).length < L.length - ps.length
      rw [List.length_append, List.length_singleton]; omega
     ·show some (AVal.int .i64 (((ps.length : Nat) : Int) + 1)) = some (AVal.int .i64 ((ps ++ [joinT (L.getD ps.length [])]).length : Nat))
      rw [List.length_append]; rfl
     ·dsimp only
      rw [← bS, List.length_append]
      rfl
   ·refine xw1 ?_
    intros
    have h5 : bV L = L.length := by omega
    have h4 : ps = L.map joinT := by rw [h2, List.take_of_length_le (by rw [List.length_map]; omega)]
    subst h4
    refine ap (i := 0) rfl (bP (L.map joinT) [59] v (by omega) (oa hs)) ?_
    refine xw1 ?_
    intros
    apply aj
    unfold cS dm
    rw [if_neg (by omega), if_neg h0, if_neg (by omega)]
    rfl
theorem qa {G : Glo} (L : List (List (List UInt8))) (hs : Small L) : FnIs Tryz.prog G 91 [.list 1 L.length (cB L)] (.tuple [.str (cS L), .agg [.int .i64 (dm L).e, .int .i64 (dm L).p]]) := by
 have hJ := fun k => B1 (G := G) (L.getD k []) (hs.k k).1 (hs.k k).2
 have hn := hs.n
 have hb8 := dj (G := G) 8
 have hg := di (G := G)
 by_cases h0 : L = []
 ·subst h0
  have hGL : ad G [] := ab
  refine fn_x Tryz.func91 Tryz.call91 rfl rfl rfl rfl hGL ?_
  intro C hC
  exact xw0
 ·have h00 : L.length ≠ 0 := fun h => h0 (List.eq_nil_of_length_eq_zero h)
  have hGL : ad G [] := ab
  refine fn_x Tryz.func91 Tryz.call91 rfl rfl rfl rfl hGL ?_
  intro C hC
  repeat' (first | (conv => whnf); first | refine .w ?_ | refine .v ?_ | refine sc_c ?_ ?_ <;> (intro hb; try exact dd hb) | apply an | apply az | (apply sc_i <;> intro hb) | (apply bx_i; intro hbd) | (apply ar; first | fail) | (apply ap (i := 0) rfl; first | fail) | (apply ab_i; intro bl) | (apply as_i; intro va vk vc hva) | (apply av_i; intro v) | (apply ac_i; intro bl cap hcap) | apply bo_l | (apply nx_i <;> intro hnx) | exact rt_w | apply dw_q mixed hC hGL (by kernel_rfl) | (apply cq; assumption; (first | fail); exact rfl))
  all_goals try conv => whnf
  refine oR 4 1 rfl ?_
  refine lp hC hGL (fun (y : List (List UInt8) × Value) => [(0, .list 1 L.length (cB L)), (3, .own 0 (pv bl 0)), (4, .own 1 y.2), (13, .int .i64 (L.length : Nat)), (14, .int .i64 (y.1.length : Nat))]) (fun y => [.cells bl (some 45) [.int .i64 0, .int .i64 0], .row y.2 none 1 y.1.length (aN y.1)]) (fun y => y.1.length ≤ bV L ∧ y.1 = (L.map joinT).take y.1.length) (fun y => L.length - y.1.length) ([], .slice none 0 0) ?_ ai rfl ?_
  ·exact ⟨Nat.zero_le _, rfl⟩
  ·rintro ⟨ps, v⟩ ⟨h1, h2⟩
   have h1 : ps.length ≤ bV L := h1
   have h2 : ps = (L.map joinT).take ps.length := h2
   have h3 := kT L
   by_cases hlt : ps.length < L.length
   ·have hJ1 := hJ ps.length
    by_cases hnil : L.getD ps.length [] = []
    ·have hk := me hlt h1 hnil
     rw [show kY (L.getD ps.length []) = .errno 8 by rw [hnil]; exact qY] at hJ1
     have hJ1 : FnIs Tryz.prog G 145 [.list 1 (L.getD ps.length []).length (aF (L.getD ps.length []))] (.tuple [.str (joinT (L.getD ps.length [])), .int .i64 8]) := hJ1
     refine xw1 ?_
     intros
     apply aj
     unfold cS dm
     rw [if_pos (by omega), if_neg h0, if_pos (by omega), hk]
     rfl
    ·rw [o6 hnil] at hJ1
     have hJ1 : FnIs Tryz.prog G 145 [.list 1 (L.getD ps.length []).length (aF (L.getD ps.length []))] (.tuple [.str (joinT (L.getD ps.length [])), .int .i64 0]) := hJ1
     repeat' (first | (conv => whnf); first | refine .w ?_ | refine .v ?_ | refine sc_c ?_ ?_ <;> (intro hb; try exact dd hb) | apply an | apply az | (apply sc_i <;> intro hb) | (apply bx_i; intro hbd) | (apply ar; first | exact hJ1) | (apply ap (i := 0) rfl; first | exact hJ1) | (apply ab_i; intro bl) | (apply as_i; intro va vk vc hva) | (apply av_i; intro v) | (apply ac_i; intro bl cap hcap) | apply bo_l | (apply nx_i <;> intro hnx) | exact rt_w | apply dw_q mixed hC hGL (by kernel_rfl) | (apply cq; assumption; (first | exact hJ1); exact rfl))
     all_goals try conv => whnf
     have hm := j5 hlt h1 hnil
     refine nxt (ps ++ [joinT (L.getD ps.length [])], .slice va vk vc) ?_ ?_ ⟨rfl, rfl, rfl, rfl, ?_, trivial⟩ ?_
     ·refine ⟨?_, ?_⟩
      ·show (ps ++ [joinT (L.getD ps.length [])]).length ≤ bV L
       rw [List.length_append, List.length_singleton]; exact hm
      ·show ps ++ [joinT (L.getD ps.length [])] = (L.map joinT).take (ps ++ [joinT (L.getD ps.length [])]).length
       rw [List.length_append, List.length_singleton, io hlt, ← h2]
     ·show L.length - (ps ++ [joinT (L.getD ps.length [])]).length < L.length - ps.length
      rw [List.length_append, List.length_singleton]; omega
     ·show some (AVal.int .i64 (((ps.length : Nat) : Int) + 1)) = some (AVal.int .i64 ((ps ++ [joinT (L.getD ps.length [])]).length : Nat))
      rw [List.length_append]; rfl
     ·dsimp only
      rw [← bS, List.length_append]
      rfl
   ·refine xw1 ?_
    intros
    have h5 : bV L = L.length := by omega
    have h4 : ps = L.map joinT := by rw [h2, List.take_of_length_le (by rw [List.length_map]; omega)]
    subst h4
    refine ap (i := 1) rfl (bP (L.map joinT) [59] v (by omega) (oa hs)) ?_
    refine xw1 ?_
    intros
    apply aj
    unfold cS dm
    rw [if_neg (by omega), if_neg h0, if_neg (by omega)]
    rfl
end
section
open Go Go.RowKit
theorem Gj (n : List UInt8) : (seqB (al 65 90 32 n) (al 65 90 32 [98, 101, 103, 105, 110]) || (seqB (al 65 90 32 n) (al 65 90 32 [101, 110, 100]) || seqB (al 65 90 32 n) (al 65 90 32 [118, 101, 114, 115, 105, 111, 110]))) = frB n := by
 rw [e8, e8, e8]
 rfl
theorem FA (n : List UInt8) : seqB (al 65 90 32 n) (al 65 90 32 [116, 121, 112, 101]) = seqB (al 97 122 (-32) n) nTYP := by
 rw [e8]
 rfl
attribute [local irreducible] AWp AOps aa ax OrOk ad ae
attribute [local irreducible] al bO Pr.fit Ln.E Ln.T Vl.E Vl.T eO ba cntI
theorem FZ {G : Glo} {m : Int} (hU : ad G utfTy) (hM : ad G (bI m)) (hH : ad G shapesTy) (hP : co G) (x : Vl) (hs : x.s.length ≤ 2500) (hL : Small x.L) (hv : x.OK) : FnIs Tryz.prog G 48 [x.A] (.tuple [.str x.T, .int .i64 x.E.e]) :=
 ow x (iy hU hM x hv (by omega) (fL hH x.st)) (oy x.s (by omega)) (qa x.L hL) (p6 hH hP x.st) x.E_zero
theorem jY {G : Glo} {m : Int} (hU : ad G utfTy) (hM : ad G (bI m)) (hH : ad G shapesTy) (hP : co G) (v : Int) (x : Itm) (hx : x.OK 2500) : FnIs Tryz.prog G 20 [itR x, .int .i64 v] (.str (x.L v)) := by
 have h1 := FZ hU hM hH hP x.2 hx.s hx.L hx.v
 have h2 := p8 hU x.ln (eqB v 4) (Itm.fit hx)
 unfold Itm.L
 unfold Vl.A at h1
 unfold Ln.A at h2
 unfold itR
 obtain ⟨⟨g, n, ps, vv⟩, u⟩ := x
 unfold Itm.ln at h2 ⊢
 dsimp only at *
 generalize Ln.E (eqB v 4) ⟨g, n, ps, u.T⟩ = eL at *
 generalize Ln.T (eqB v 4) ⟨g, n, ps, u.T⟩ = tL at *
 generalize u.E = eV at *
 generalize u.T = tV at *
 have hGL : ad G [] := ab
 refine fn_x Tryz.func20 Tryz.call20 rfl rfl rfl rfl hGL ?_
 intro C hC
 exact xw0
theorem qF {G : Glo} {m : Int} (hU : ad G utfTy) (hM : ad G (bI m)) (hH : ad G shapesTy) (hP : co G) (v : Int) (hv : v = 3 ∨ v = 4) (x : Itm) (hx : x.OK 2500) : FnIs Tryz.prog G 19 [itR x, .int .i64 v] (.int .i64 (x.w v)) := by
 have h1 := jG hU x.p (eqB v 4) hx.p.fit
 have h4 := fun e p => po (G := G) e p
 have hn : x.1.n.length ≤ 2500 := hx.p.n
 have hps : x.1.ps.length ≤ 2500 := hx.p.ps
 have hq : ∀ k, (x.1.ps.getD k Pr.z).n.length ≤ 2500 ∧ (x.1.ps.getD k Pr.z).vs.length ≤ 2500 ∧ Lib.lens (x.1.ps.getD k Pr.z).vs ≤ 2500 := hx.p.q
 have hvl : ∀ k j, ((x.1.ps.getD k Pr.z).vs.getD j []).length ≤ 2500 := fun k j => by
  have := cI (l := (x.1.ps.getD k Pr.z).vs) (k := j); have := (hq k).2.2; omega
 have b1 := dY (G := G) x.1.n [98, 101, 103, 105, 110] (by omega) (by decide)
 have b2 := dY (G := G) x.1.n [101, 110, 100] (by omega) (by decide)
 have b3 := dY (G := G) x.1.n [118, 101, 114, 115, 105, 111, 110] (by omega) (by decide)
 have hfr := Gj x.1.n
 generalize seqB (al 65 90 32 x.1.n) (al 65 90 32 [98, 101, 103, 105, 110]) = f1 at *
 generalize seqB (al 65 90 32 x.1.n) (al 65 90 32 [101, 110, 100]) = f2 at *
 generalize seqB (al 65 90 32 x.1.n) (al 65 90 32 [118, 101, 114, 115, 105, 111, 110]) = f3 at *
 have hve : verE v = .none := by unfold verE; rw [if_pos hv]
 have hT := BZ (G := G) v x.1.n x.1.ps (by omega) (by omega) (fun k => by have := (hq k).1; omega) (fun k => ⟨by have := (hq k).2.1; omega, by have := hvl k 0; omega⟩)
 have hV := iy hU hM x.2 hx.v (by have := hx.s; omega) (fL hH x.2.st)
 have hR := kO (G := G) v x.1.n (by omega)
 have hrp := FX v x.1.n
 have hlo := jY hU hM hH hP v x hx
 have hw : ∀ (_ : x.p.E (eqB v 4) = .none) (_ : frB x.1.n = false), (parE x.1.ps ≠ 0 → x.w v = parE x.1.ps) ∧ (parE x.1.ps = 0 → (x.k v ≠ x.2.t → x.w v = 1) ∧ (x.k v = x.2.t → (x.2.E ≠ .none → x.w v = x.2.E.e) ∧ (x.2.E = .none → x.w v = x.r v))) := fun a b => ⟨Fb a b, fun c => ⟨Fc a b c, fun d => ⟨Fa a b c d, w_r a b c d⟩⟩⟩
 have hwl := fun a => w_ln (v := v) (x := x) a
 have hwf := fun a b => w_fr (v := v) (x := x) a b
 have hz := Vl.E_zero x.2
 have hok : ∀ k, x.p.E (eqB v 4) = .none → k < x.1.ps.length → isS (x.1.ps.getD k Pr.z).n = true := fun k h hk => by
  have h1 : firE (eqB v 4) x.p.ps 0 = .none := by
   unfold Ln.E at h
   split at h
   ·cases h
   ·split at h
    ·cases h
    ·cases hf : firE (eqB v 4) x.p.ps 0 with
     | none => rfl
     | errno e => rw [hf] at h; cases h
     | «at» e q => rw [hf] at h; cases h
  have h2 := pm h1 (x.1.ps.getD k Pr.z) (by rw [List.getD_eq_getElem?_getD, List.getElem?_eq_getElem hk]; exact List.getElem_mem hk)
  cases hn : isS (x.1.ps.getD k Pr.z).n with
  | true => rfl
  | false => rw [uz hn] at h2; cases h2
 rw [hve] at hT hR
 generalize x.w v = W at *
 unfold Itm.r at hw
 generalize x.L v = tL at *
 unfold Itm.k at hw
 obtain ⟨⟨g, n, ps, vv⟩, u⟩ := x
 unfold itR at hlo ⊢
 unfold Vl.A at hV
 unfold Itm.p at h1 hw hwl hwf hok
 dsimp only at *
 generalize eO v n ps = K at *
 generalize ba v n = r at *
 unfold Rl.A at hR
 obtain ⟨r0, r1, r2, r3⟩ := r
 dsimp only at *
 generalize u.E = eV at *
 generalize hE0 : Ln.E (eqB v 4) ⟨g, n, ps, []⟩ = e0 at *
 have hfin : e0 ≠ .none → e0.e ≠ 0 := fun h h2 => by
  have := w_ok (v := v) (x := (⟨g, n, ps, vv⟩, u))
  unfold Itm.p at this
  dsimp only at this
  rw [hE0] at this
  refine h (this ?_)
  rw [w_ln (by unfold Itm.p; dsimp only; rw [hE0]; exact h)]
  unfold Itm.p
  dsimp only
  rw [hE0]
  exact h2
 by_cases he : e0 = .none
 ·subst he
  simp only [Err.e, Err.p] at h1
  have h4 := h4 0 (-1)
  cases hf : frB n with
  | true =>
   rw [hwf rfl hf]
   rw [hf] at hfr
   have hGL : ad G [] := ab
   refine fn_x Tryz.func19 Tryz.call19 rfl rfl rfl rfl hGL ?_
   intro C hC
   refine xw ?_
   repeat' (first | exact Le.n | refine Lc.mk ?_ ?_)
   all_goals intros
   all_goals (first | exact aj rfl | (exfalso; revert hfr; simp [*]; done))
  | false =>
   rw [hf] at hfr
   have hw := hw rfl hf
   simp only [Bool.or_eq_false_iff] at hfr
   obtain ⟨rfl, rfl, rfl⟩ := hfr
   have hGL : ad G [] := ab
   refine fn_x Tryz.func19 Tryz.call19 rfl rfl rfl rfl hGL ?_
   intro C hC
   refine xw1 ?_
   intro b5
   intros
   refine lp hC hGL (fun k : Nat => [(1, .int .i64 v), (2, .rop (za (⟨g, n, ps, vv⟩, u)) 0), (44, .list 2 ps.length (prF ps)), (45, .int .i64 (ps.length : Nat)), (46, .int .i64 (k : Nat))]) (fun _ => [.cells b5 (some 45) [.int .i64 0, .int .i64 (-1)]]) (fun k => k ≤ ps.length ∧ ∀ j, j < k → pE ps j = 0) (fun k => ps.length - k) 0 ⟨Nat.zero_le _, fun j h => absurd h (Nat.not_lt_zero _)⟩ ai rfl ?_
   rintro k ⟨k1, k2⟩
   by_cases hk : k < ps.length
   ·have hqk := hq k
    have hfi := B3 hP hM (ps.getD k Pr.z) (hok k rfl hk) (by omega) (by omega) (fun j => by have := hvl k j; omega)
    have hsa := dY (G := G) (ps.getD k Pr.z).n [116, 121, 112, 101] (by omega) (by decide)
    rw [FA] at hsa
    cases hf : (ps.getD k Pr.z).fit with
    | false =>
     rw [hf] at hfi
     have e := pE_3 hf
     rw [hw.1 (by rw [fw hk k2 (by rw [e]; decide), e]; decide), fw hk k2 (by rw [e]; decide), e]
     exact xw0
    | true =>
     rw [hf] at hfi
     refine xw1 ?_
     intro b7
     intros
     refine lp hC hGL (fun j : Nat => [(1, .int .i64 v), (2, .rop (za (⟨g, n, ps, vv⟩, u)) 0), (7, .own 1 (.pointer (some ⟨b7, 0, none⟩))), (44, .list 2 ps.length (prF ps)), (45, .int .i64 (ps.length : Nat)), (46, .int .i64 (k : Nat)), (57, .list 2 k (prF ps)), (58, .int .i64 (k : Nat)), (59, .int .i64 (j : Nat))]) (fun _ => [.cells b5 (some 45) [.int .i64 0, .int .i64 (-1)], .cells b7 (some 103) [.str (ps.getD k Pr.z).n, .list 1 (ps.getD k Pr.z).vs.length (aF (ps.getD k Pr.z).vs)]]) (fun j => j ≤ k ∧ ∀ i, i < j → (seqB (al 97 122 (-32) (ps.getD k Pr.z).n) (al 97 122 (-32) (ps.getD i Pr.z).n) && !seqB (al 97 122 (-32) (ps.getD k Pr.z).n) nTYP) = false) (fun j => k - j) 0 ⟨Nat.zero_le _, fun j h => absurd h (Nat.not_lt_zero _)⟩ ai rfl ?_
     rintro j ⟨j1, j2⟩
     by_cases hj : j < k
     ·have hqj := hq j
      have hss := dY (G := G) (ps.getD k Pr.z).n (ps.getD j Pr.z).n (by omega) (by omega)
      rw [e8] at hss
      obtain ⟨bt, hbt⟩ : ∃ b, seqB (al 97 122 (-32) (ps.getD k Pr.z).n) nTYP = b := ⟨_, rfl⟩
      cases bt with
      | true =>
       rw [hbt] at hsa
       have e : (seqB (al 97 122 (-32) (ps.getD k Pr.z).n) (al 97 122 (-32) (ps.getD j Pr.z).n) && !seqB (al 97 122 (-32) (ps.getD k Pr.z).n) nTYP) = false := by rw [hbt, Bool.not_true, Bool.and_false]
       obtain ⟨bs, hsm⟩ : ∃ b, seqB (al 97 122 (-32) (ps.getD k Pr.z).n) (al 97 122 (-32) (ps.getD j Pr.z).n) = b := ⟨_, rfl⟩
       cases bs with
       | true =>
        rw [hsm] at hss
        refine xw1 ?_
        intros
        exact nxs (j + 1) ⟨hj, fun i hi => by
         rcases Nat.lt_or_eq_of_le (Nat.le_of_lt_succ hi) with g | rfl
         ·exact j2 i g
         ·exact e⟩ (by omega) ai aR
       | false =>
        rw [hsm] at hss
        refine xw1 ?_
        intros
        exact nxs (j + 1) ⟨hj, fun i hi => by
         rcases Nat.lt_or_eq_of_le (Nat.le_of_lt_succ hi) with g | rfl
         ·exact j2 i g
         ·exact e⟩ (by omega) ai aR
      | false =>
       rw [hbt] at hsa
       obtain ⟨bs, hsm⟩ : ∃ b, seqB (al 97 122 (-32) (ps.getD k Pr.z).n) (al 97 122 (-32) (ps.getD j Pr.z).n) = b := ⟨_, rfl⟩
       cases bs with
       | true =>
        rw [hsm] at hss
        have hd : bO (ps.getD k Pr.z).n ps 0 < (k : Int) := (rj hk).2 ⟨j, hj, (a7.1 hsm).symm⟩
        have e := pE_9 hf (iq.1 hbt) hd
        rw [hw.1 (by rw [fw hk k2 (by rw [e]; decide), e]; decide), fw hk k2 (by rw [e]; decide), e]
        exact xw0
       | false =>
        rw [hsm] at hss
        refine xw1 ?_
        intros
        exact nxs (j + 1) ⟨hj, fun i hi => by
         rcases Nat.lt_or_eq_of_le (Nat.le_of_lt_succ hi) with g | rfl
         ·exact j2 i g
         ·rw [hsm, Bool.false_and]⟩ (by omega) ai aR
     ·obtain rfl : j = k := by omega
      have e : pE ps j = 0 := pE_0 hf (fun h => by
       obtain ⟨i, hi, hs⟩ := (rj hk).1 h.2
       have := j2 i hi
       rw [a7.2 hs.symm, iq.2 h.1] at this
       cases this)
      refine xw1 ?_
      intros
      exact nxs (j + 1) ⟨by omega, aM k2 e⟩ (by omega) ai aR
   ·have hw := hw.2 (B8 (by omega) k2)
    by_cases hK : K = u.t
    ·have hw := hw.2 hK
     by_cases hV0 : eV.e = 0
     ·obtain rfl := hz hV0
      have hw := hw.2 rfl
      simp only [Err.e] at hV
      subst hw
      by_cases ha : u.t = 3 ∧ 0 < r3 ∧ r3 ≠ (u.L.length : Int)
      ·rw [if_pos ha]
       obtain ⟨a1, a2, a3⟩ := ha
       have a4 : r3 ≠ 0 := by omega
       exact xw0
      ·rw [if_neg ha]
       by_cases a1 : u.t = 3
       ·by_cases a2 : r3 = 0
        ·by_cases hl : 1500 < tL.length
         ·rw [if_pos hl]
          exact xw0
         ·rw [if_neg hl]
          exact xw0
        ·have a3 : r3 = (u.L.length : Int) := by omega
         by_cases hl : 1500 < tL.length
         ·rw [if_pos hl]
          exact xw0
         ·rw [if_neg hl]
          exact xw0
       ·by_cases hl : 1500 < tL.length
        ·rw [if_pos hl]
         exact xw0
        ·rw [if_neg hl]
         exact xw0
     ·rw [hw.1 (fun h => hV0 (by rw [h]; rfl))]
      exact xw0
    ·rw [hw.1 hK]
     exact xw0
 ·have h0 := hfin he
  rw [hwl he]
  have h4 := h4 e0.e e0.p
  generalize e0.e = ee at *
  generalize e0.p = pp at *
  rw [show eqB ee 0 = false from jP.2 h0] at h4
  have hGL : ad G [] := ab
  refine fn_x Tryz.func19 Tryz.call19 rfl rfl rfl rfl hGL ?_
  intro C hC
  exact xw0
end
end Go.Proofs.YtahebkecmlmlfaaGreatDoor
