/- Parts of the proof of pickAlls_card: Upt, Lnb, Lai, Whc, Whi, Vlh, Arc. -/
import Derived.Deep.Strs
import Derived.Lib.ItoaNum
import Derived.Shelf.Vars
import Derived.SizedLaws
import Derived.Test.YtcoidjllehieeaaGreatDoorBae
import Derived.Test.YtcoidjllehieeaaGreatDoorBag
import Derived.Test.YtcoidjllehieeaaGreatDoorBad
import Derived.Test.YtcoidjllehieeaaGreatDoorBaf
set_option linter.unusedVariables false
set_option linter.unusedSimpArgs false
namespace Go.Proofs.YtcoidjllehieeaaGreatDoor
open Go.ChangeShapes Go.WideShapes Go.ChangeAt Go.RowKit Go.WideMaps Go.WideElems
theorem bulk_pos {H : Type} (d : DataW H) : 1 ≤ Rows.uptoBulk d := by
  cases d with
  | lit l => cases l <;> simp [Rows.uptoBulk]
  | _ => simp [Rows.uptoBulk]
theorem bulk_len {H : Type} : ∀ l : List (DataW H), l.length ≤ Rows.uptoBulkAll l
  | [] => Nat.zero_le _
  | x :: r => by
    have h1 := bulk_pos x
    have h2 := bulk_len r
    simp only [Rows.uptoBulkAll, List.length_cons]
    omega
theorem bulk_mem {H : Type} {d : DataW H} : ∀ {l : List (DataW H)}, d ∈ l → Rows.uptoBulk d ≤ Rows.uptoBulkAll l
  | [], h => by cases h
  | x :: r, h => by
    simp only [Rows.uptoBulkAll]
    rcases List.mem_cons.1 h with rfl | h
    · omega
    · have := bulk_mem h; omega
theorem bulk_strs {H : Type} : ∀ l : List (List UInt8), Rows.uptoBulkAll (H := H) (l.map fun s => .lit (.string s)) = Lib.lens l + l.length
  | [] => rfl
  | s :: r => by
    have e1 : Lib.lens (s :: r) = s.length + Lib.lens r := by simp [Lib.lens]
    have h := bulk_strs (H := H) r
    simp only [List.map_cons, Rows.uptoBulkAll, Rows.uptoBulk, h, e1, List.length_cons]
    omega
section
variable {H : Type} {enc : TypeId × Value → H} {W : World}
/-- A row of cells in old memory, as a list. -/
theorem rel_list {m : Nat} {f : Nat → AVal} {a : Addr} {cap : Nat} (hm : m ≤ cap) {V : Nat → Value} (hV : ∀ i, i < m → W.cell? (a.add i) = some (V i) ∧ RelC (sealBelow W W.heap.size) (f i) [V i]) :
    Rel (sealBelow W W.heap.size) (.list 1 m f) (.slice (some a) m cap) := by
  refine ⟨⟨some a, cap, rfl, hm, ?_⟩, rfl⟩
  rcases Nat.eq_zero_or_pos m with h0 | h0
  · exact .inl h0
  · refine .inr ?_
    obtain ⟨b, o, sp⟩ := a
    have h1 := (hV 0 h0).1
    rw [show (⟨b, o, sp⟩ : Addr).add 0 = ⟨b, o, sp⟩ from rfl] at h1
    unfold World.cell? at h1
    dsimp only at h1
    cases hW : W.heap[b]? with
    | none => rw [hW] at h1; cases h1
    | some ob =>
      cases ob with
      | cells C e fz =>
        rw [hW] at h1
        cases sp with
        | some s => simp at h1
        | none =>
          refine ⟨b, o, C, e, fz, rfl, ?_, fun i hi => ?_⟩
          · unfold sealBelow
            rw [if_pos (Array.getElem?_eq_some_iff.1 hW).1]
            exact hW
          · obtain ⟨h2, h3⟩ := hV i hi
            have ha : (⟨b, o, none⟩ : Addr).add i = ⟨b, o + i, none⟩ := by
              unfold Addr.add
              split
              · rename_i h; rw [h]; rfl
              · rfl
            rw [ha] at h2
            have hci : C[o + i]? = some (V i) := by
              unfold World.cell? at h2
              simpa [hW] using h2
            have hlt : o + i < C.toList.length := by simpa using (Array.getElem?_eq_some_iff.1 hci).1
            have e1 : (C.toList.drop (o + i * 1)).take 1 = [V i] := by
              rw [Nat.mul_one, List.drop_eq_getElem_cons hlt, List.take_succ_cons, List.take_zero]
              have : C.toList[o + i]? = some (V i) := by rw [Array.getElem?_toList]; exact hci
              rw [List.getElem?_eq_getElem hlt] at this
              rw [Option.some.inj this]
            rw [e1]
            exact h3
      | _ => rw [hW] at h1; cases h1
/-- A list of texts. -/
theorem rel_strs {fuel : Nat} {spare : Nat → Bool} {held : Bool} {v : Value} {x : DataW H × List MemPlace} (h : DataW.trod enc Tryz.prog W 0 spare held fuel 50 [v] = some x) :
    ∃ l : List (List UInt8), Rel (sealBelow W W.heap.size) (.list 1 l.length (strsF l)) v ∧ l.length ≤ Rows.uptoBulk x.1 ∧ Lib.lens l ≤ Rows.uptoBulk x.1 := by
  rcases Go.Deep.open_strs Tryz.underlying50 Tryz.underlying9 (by kernel_rfl) h with ⟨hv, rfl⟩ | ⟨a, len, cap, m, Sx, hv, _, hl, _, hm, rfl, hx⟩
  · obtain rfl : v = .slice none 0 0 := by simpa using hv
    exact ⟨[], ⟨⟨none, 0, rfl, Nat.le_refl _, .inl rfl⟩, rfl⟩, Nat.zero_le _, Nat.zero_le _⟩
  · obtain rfl : v = .slice (some a) len cap := by simpa using hv
    have hlm : len ≤ m := by rw [hm]; split <;> omega
    let l : List (List UInt8) := (List.range len).map fun i => (Sx i).data.toList
    have hll : l.length = len := by simp [l]
    have hget : ∀ i, i < len → l.getD i [] = (Sx i).data.toList := fun i hi => by simp [l, List.getD, hi]
    refine ⟨l, ?_, ?_⟩
    · rw [hll]
      refine rel_list hl (V := fun i => .string (Sx i)) (fun i hi => ⟨(hx i (by omega)).1, ?_⟩)
      have := (rel_str (R := sealBelow W W.heap.size) (s := l.getD i []) (v := .string (Sx i))).2 (by rw [hget i hi, str_mk])
      exact this.1
    · have e1 : ((List.range len).map fun i => (DataW.lit (.string (Sx i).data.toList) : DataW H)) = l.map fun s => .lit (.string s) := by simp [l, List.map_map, Function.comp_def]
      have h1 := bulk_strs (H := H) l
      simp only [Rows.uptoBulk]
      rw [e1, h1]
      omega
/-- A list of lists of texts. -/
theorem rel_parts {fuel : Nat} {spare : Nat → Bool} {held : Bool} {v : Value} {x : DataW H × List MemPlace} (h : DataW.trod enc Tryz.prog W 0 spare held fuel 33 [v] = some x) (hb : Rows.uptoBulk x.1 ≤ 1048576) :
    ∃ L : List (List (List UInt8)), Rel (sealBelow W W.heap.size) (.list 1 L.length (partsF L)) v ∧ Small L := by
  rcases Go.Deep.open_slice1 Tryz.underlying33 (by kernel_rfl) h with ⟨hv, rfl⟩ | ⟨a, len, cap, m, n, V, D, Pl, hv, _, hl, _, hm, rfl, hx⟩
  · obtain rfl : v = .slice none 0 0 := by simpa using hv
    refine ⟨[], ⟨⟨none, 0, rfl, Nat.le_refl _, .inl rfl⟩, rfl⟩, ⟨by simp, fun k => ?_⟩⟩
    rw [List.getD_nil]
    exact ⟨by simp, by simp [Lib.lens]⟩
  · obtain rfl : v = .slice (some a) len cap := by simpa using hv
    have hlm : len ≤ m := by rw [hm]; split <;> omega
    obtain ⟨Lx, hLx⟩ := Go.Deep.choose_lt (α := List (List UInt8)) (n := len) (p := fun i l => Rel (sealBelow W W.heap.size) (.list 1 l.length (strsF l)) (V i) ∧ l.length ≤ Rows.uptoBulk (D i) ∧ Lib.lens l ≤ Rows.uptoBulk (D i)) (fun i hi => rel_strs (hx i (by omega)).2)
    let L : List (List (List UInt8)) := (List.range len).map Lx
    have hll : L.length = len := by simp [L]
    have hget : ∀ i, i < len → L.getD i [] = Lx i := fun i hi => by simp [L, List.getD, hi]
    simp only [Rows.uptoBulk] at hb
    have h1 := bulk_len ((List.range len).map D)
    rw [List.length_map, List.length_range] at h1
    refine ⟨L, ?_, ⟨by omega, fun k => ?_⟩⟩
    · rw [hll]
      refine rel_list hl (V := V) (fun i hi => ⟨(hx i (by omega)).1, ?_⟩)
      have h2 := (hLx i hi).1
      unfold partsF
      rw [hget i hi]
      have h3 := h2.1
      obtain ⟨c, cp, e, h4⟩ := h3
      have e2 : [V i] = [.slice c (Lx i).length cp] := by
        obtain ⟨c2, cp2, e3, _⟩ := rel_one h2 rfl
        have e4 : V i = .slice c2 (Lx i).length cp2 := by simpa using e3
        rw [e4] at e ⊢
        exact e
      exact ⟨c, cp, e2, h4⟩
    · by_cases hk : k < len
      · rw [hget k hk]
        have h2 := (hLx k hk).2
        have h3 := bulk_mem (d := D k) (l := (List.range len).map D) (List.mem_map.2 ⟨k, List.mem_range.2 hk, rfl⟩)
        omega
      · rw [List.getD_eq_getElem?_getD, List.getElem?_eq_none (by omega)]
        exact ⟨by simp, by simp [Lib.lens]⟩
end
end Go.Proofs.YtcoidjllehieeaaGreatDoor
namespace Go.Proofs.YtcoidjllehieeaaGreatDoor
open Go Go.ChangeShapes Go.WideShapes Go.ChangeAt Go.RowKit Go.WideMaps Go.WideElems
theorem two_of {α : Type} {l : List α} (h : l.length = 2) : ∃ a b, l = [a, b] := by
  match l, h with
  | [a, b], _ => exact ⟨a, b, rfl⟩
theorem four_of {α : Type} {l : List α} (h : l.length = 4) : ∃ a b c d, l = [a, b, c, d] := by
  match l, h with
  | [a, b, c, d], _ => exact ⟨a, b, c, d, rfl⟩
theorem addr_add (b o n : Nat) : (⟨b, o, none⟩ : Addr).add n = ⟨b, o + n, none⟩ := by
  unfold Addr.add
  split
  · rename_i h; rw [h]; rfl
  · rfl
theorem cell_none {W : World} {b o : Nat} {C : Array Value} {e : TypeId} {fz : Nat × Nat} (h : W.heap[b]? = some (.cells C e fz)) : W.cell? ⟨b, o, none⟩ = C[o]? := by
  unfold World.cell?
  simp [h]
section
variable {H : Type} {enc : TypeId × Value → H} {W : World}
/-- A row in old memory whose elements have several cells, as a list. -/
theorem rel_listZ {sz m : Nat} (hz : 0 < sz) {f : Nat → AVal} {a : Addr} {cap : Nat} (hm : m ≤ cap) {cs : Nat → List Value} (hV : ∀ i, i < m → W.cells? 0 (a.add (i * sz)) sz = some (cs i) ∧ RelC (sealBelow W W.heap.size) (f i) (cs i)) :
    Rel (sealBelow W W.heap.size) (.list sz m f) (.slice (some a) m cap) := by
  refine ⟨⟨some a, cap, rfl, hm, ?_⟩, rfl⟩
  rcases Nat.eq_zero_or_pos m with h0 | h0
  · exact .inl h0
  · refine .inr ?_
    obtain ⟨b, o, sp⟩ := a
    obtain ⟨_, hl0, hc0⟩ := World.cells?_some (hV 0 h0).1
    have h1 := hc0 0 hz
    rw [Nat.zero_mul, show (⟨b, o, sp⟩ : Addr).add 0 = ⟨b, o, sp⟩ from rfl, show (⟨b, o, sp⟩ : Addr).add 0 = ⟨b, o, sp⟩ from rfl, List.getElem?_eq_getElem (by omega)] at h1
    unfold World.cell? at h1
    dsimp only at h1
    cases hW : W.heap[b]? with
    | none => rw [hW] at h1; cases h1
    | some ob =>
      cases ob with
      | cells C e fz =>
        rw [hW] at h1
        cases sp with
        | some s => simp at h1
        | none =>
          refine ⟨b, o, C, e, fz, rfl, ?_, fun i hi => ?_⟩
          · unfold sealBelow
            rw [if_pos (Array.getElem?_eq_some_iff.1 hW).1]
            exact hW
          · obtain ⟨h2, h3⟩ := hV i hi
            obtain ⟨_, hl, hc⟩ := World.cells?_some h2
            have e1 : (C.toList.drop (o + i * sz)).take sz = cs i := by
              refine List.ext_getElem? fun k => ?_
              by_cases hk : k < sz
              · have h4 := hc k hk
                rw [addr_add, addr_add, cell_none hW] at h4
                rw [← h4, List.getElem?_take_of_lt hk, List.getElem?_drop, Array.getElem?_toList]
              · rw [List.getElem?_eq_none (by rw [List.length_take]; omega), List.getElem?_eq_none (by omega)]
            rw [e1]
            exact h3
      | _ => rw [hW] at h1; cases h1
/-- A parameter. -/
theorem rel_param {fuel : Nat} {spare : Nat → Bool} {held : Bool} {cs : List Value} {x : DataW H × List MemPlace} (h : DataW.trod enc Tryz.prog W 0 spare held fuel 52 cs = some x) :
    ∃ q : Pr, RelC (sealBelow W W.heap.size) (.agg [.str q.n, .list 1 q.vs.length (strsF q.vs)]) cs ∧ q.n.length ≤ Rows.uptoBulk x.1 ∧ q.vs.length ≤ Rows.uptoBulk x.1 ∧ Lib.lens q.vs ≤ Rows.uptoBulk x.1 := by
  obtain ⟨xs, n, _, hx, hl, hxl, hf⟩ := DataW.trod_struct Tryz.underlying52 h
  have hc : Tryz.prog.cellsOf 52 = 2 := by kernel_rfl
  have hcs : Tryz.prog.cellsOf 9 = 1 := by kernel_rfl
  have hcp : Tryz.prog.cellsOf 50 = 1 := by kernel_rfl
  rw [hc] at hl
  have hxl : xs.length = 2 := hxl
  obtain ⟨x0, x1, rfl⟩ := two_of hxl
  obtain ⟨u0, u1, rfl⟩ := two_of hl
  have g0 : DataW.trod enc Tryz.prog W 0 spare held n 9 (([u0, u1].drop 0).take (Tryz.prog.cellsOf 9)) = some x0 := hf 0 _ rfl
  have g1 : DataW.trod enc Tryz.prog W 0 spare held n 50 (([u0, u1].drop 1).take (Tryz.prog.cellsOf 50)) = some x1 := hf 1 _ rfl
  rw [hcs] at g0
  rw [hcp] at g1
  simp only [List.drop_zero, List.drop_succ_cons, List.take_succ_cons, List.take_zero] at g0 g1
  obtain ⟨s0, q0, e0, _⟩ := DataW.trod_string Tryz.underlying9 g0
  obtain ⟨l, r1, hb1, hb2⟩ := rel_strs g1
  obtain rfl := List.singleton_inj.1 q0
  rw [hx]
  simp only [List.map_cons, List.map_nil, Rows.uptoBulk, Rows.uptoBulkAll]
  refine ⟨⟨s0.data.toList, l⟩, ⟨_, _, rfl, by rw [RelC, str_mk], _, _, rfl, rel_one r1 rfl, rfl⟩, ?_, by dsimp only; omega, by dsimp only; omega⟩
  rw [e0]
  simp only [Rows.uptoBulk]
  omega
/-- A list of parameters. -/
theorem rel_params {fuel : Nat} {spare : Nat → Bool} {held : Bool} {v : Value} {x : DataW H × List MemPlace} (h : DataW.trod enc Tryz.prog W 0 spare held fuel 32 [v] = some x) :
    ∃ L : List Pr, Rel (sealBelow W W.heap.size) (.list 2 L.length (prF L)) v ∧ L.length ≤ Rows.uptoBulk x.1 ∧ ∀ k, (L.getD k Pr.z).n.length ≤ Rows.uptoBulk x.1 ∧ (L.getD k Pr.z).vs.length ≤ Rows.uptoBulk x.1 ∧ Lib.lens (L.getD k Pr.z).vs ≤ Rows.uptoBulk x.1 := by
  have hc : Tryz.prog.cellsOf 52 = 2 := by kernel_rfl
  rcases Go.Deep.open_slice Tryz.underlying32 h with ⟨hv, rfl⟩ | ⟨a, len, cap, m, n, D, Pl, hv, _, hl, _, hm, rfl, hx⟩
  · obtain rfl : v = .slice none 0 0 := by simpa using hv
    refine ⟨[], ⟨⟨none, 0, rfl, Nat.le_refl _, .inl rfl⟩, rfl⟩, Nat.zero_le _, fun k => ?_⟩
    rw [List.getD_nil]
    exact ⟨by simp [Pr.z], by simp [Pr.z], by simp [Pr.z, Lib.lens]⟩
  · obtain rfl : v = .slice (some a) len cap := by simpa using hv
    rw [hc] at hx
    have hlm : len ≤ m := by rw [hm]; split <;> omega
    obtain ⟨Cx, hCx⟩ := Go.Deep.choose_lt (α := List Value) (n := len) (p := fun i cs => W.cells? 0 (a.add (i * 2)) 2 = some cs ∧ DataW.trod enc Tryz.prog W 0 spare held n 52 cs = some (D i, Pl i)) (fun i hi => hx i (by omega))
    obtain ⟨Lx, hLx⟩ := Go.Deep.choose_lt (α := Pr) (n := len) (p := fun i q => RelC (sealBelow W W.heap.size) (.agg [.str q.n, .list 1 q.vs.length (strsF q.vs)]) (Cx i) ∧ q.n.length ≤ Rows.uptoBulk (D i) ∧ q.vs.length ≤ Rows.uptoBulk (D i) ∧ Lib.lens q.vs ≤ Rows.uptoBulk (D i)) (fun i hi => rel_param (hCx i hi).2)
    let L : List Pr := (List.range len).map Lx
    have hll : L.length = len := by simp [L]
    have hget : ∀ i, i < len → L.getD i Pr.z = Lx i := fun i hi => by simp [L, List.getD, hi]
    have h1 := bulk_len ((List.range len).map D)
    rw [List.length_map, List.length_range] at h1
    simp only [Rows.uptoBulk]
    refine ⟨L, ?_, by omega, fun k => ?_⟩
    · rw [hll]
      refine rel_listZ (by decide) hl (cs := Cx) (fun i hi => ⟨(hCx i hi).1, ?_⟩)
      unfold prF
      rw [hget i hi]
      exact (hLx i hi).1
    · by_cases hk : k < len
      · rw [hget k hk]
        have h2 := (hLx k hk).2
        have h3 := bulk_mem (d := D k) (l := (List.range len).map D) (List.mem_map.2 ⟨k, List.mem_range.2 hk, rfl⟩)
        omega
      · rw [List.getD_eq_getElem?_getD, List.getElem?_eq_none (by omega)]
        exact ⟨by simp [Pr.z], by simp [Pr.z], by simp [Pr.z, Lib.lens]⟩
end
end Go.Proofs.YtcoidjllehieeaaGreatDoor
namespace Go.Proofs.YtcoidjllehieeaaGreatDoor
open Go
theorem chunks {α β : Type} (k : Nat) (E : α → List β) (hE : ∀ z, (E z).length = k) : ∀ (zs : List α) (cs : List β), cs.length = zs.length * k →
    (∀ i z, zs[i]? = some z → (cs.drop (i * k)).take k = E z) → cs = zs.flatMap E
  | [], cs, hl, _ => by
    simp only [List.length_nil, Nat.zero_mul] at hl
    simp [List.eq_nil_of_length_eq_zero hl]
  | z :: zs, cs, hl, h => by
    have h0 := h 0 z rfl
    simp only [Nat.zero_mul, List.drop_zero] at h0
    have hr := chunks k E hE zs (cs.drop k) (by rw [List.length_drop, hl, List.length_cons, Nat.succ_mul]; omega) (fun i y hy => by
      have := h (i + 1) y hy
      rw [List.drop_drop]
      rw [Nat.succ_mul, Nat.add_comm] at this
      exact this)
    rw [List.flatMap_cons, ← h0, ← hr, List.take_append_drop]
section
variable {P : Program} {H : Type} {enc : TypeId × Value → H} {w : World} {base : Nat} {spare : Nat → Bool} {held : Bool}
theorem trod_ints {t e n fuel : Nat} {k : IntKind} {cs : List Value} {ps : List MemPlace} {zs : List Nat} (ht : P.underlying t = some (.array n e)) (he : P.underlying e = some (.int k)) (hc : P.cellsOf e = 1) (hct : P.cellsOf t = n)
    (h : DataW.trod enc P w base spare held fuel t cs = some (.agg (zs.map fun x : Nat => .lit (.int k (x : Int))), ps)) (hz : zs.length = n) : cs = zs.flatMap fun x : Nat => [Value.int k (x : Int)] := by
  obtain ⟨xs, m, _, ex, hl, hxl, hel⟩ := DataW.trod_array ht h
  have e3 : (xs.map (·.1)) = zs.map fun x : Nat => .lit (.int k x) := (DataW.agg.inj (Prod.mk.inj ex).1).symm
  refine chunks 1 _ (fun _ => rfl) zs cs (by omega) (fun i z hi => ?_)
  have hin : i < zs.length := (List.getElem?_eq_some_iff.1 hi).1
  have hE := hel i (by omega)
  rw [hc, List.getElem?_eq_getElem (by omega)] at hE
  obtain ⟨y, e1, e2, _⟩ := DataW.trod_int he hE
  have e4 : (xs.map (·.1))[i]? = (zs.map fun x : Nat => (DataW.lit (.int k x) : DataW H))[i]? := by rw [e3]
  rw [List.getElem?_map, List.getElem?_map, List.getElem?_eq_getElem (by omega : i < xs.length), hi, e2] at e4
  simp only [Option.map_some, Option.some.injEq, DataW.lit.injEq, Lit.int.injEq, true_and] at e4
  rw [e1, e4]
end
/-- One laid variable. -/
theorem laid_at {P : Program} {W : World} {laid : List (String × DataW Unit)} (hL : laidMetH P laid W) {n : String} {d : DataW Unit} (hm : (n, d) ∈ laid) (hn : d.handleName?.isNone = true) {g : Nat} {t : TypeId} (hg : P.globalNamed n = some g) (ht : (P.globals[g]?).map (·.type) = some t) :
    ∃ cs e fz fuel p, W.heap[g]? = some (.cells cs e fz) ∧ DataW.trod (fun _ => ()) P W 0 (fun _ => true) false fuel t cs.toList = some (d, p) := by
  have h1 := (laidMetH_iff.1 hL).1
  obtain ⟨ps, h, _⟩ := h1
  have key : ∀ (l : List (String × DataW Unit)) (ps : List MemPlace), DataW.LaidVars P W l ps → (n, d) ∈ l → ∃ cs e fz fuel p, W.heap[g]? = some (.cells cs e fz) ∧ DataW.trod (fun _ => ()) P W 0 (fun _ => true) false fuel t cs.toList = some (d, p) := by
    intro l
    induction l with
    | nil => intro ps _ hm; cases hm
    | cons a r ih =>
      obtain ⟨m, b⟩ := a
      rintro ps ⟨g', t', cs, fuel, p, q, e1, e2, e3, e4, e5, _⟩ hm
      rcases List.mem_cons.1 hm with hm | hm
      · cases hm
        obtain rfl := Option.some.inj (hg.symm.trans e1)
        obtain rfl := Option.some.inj (ht.symm.trans e2)
        obtain ⟨e, fz, hh⟩ := var_heap hg e3
        exact ⟨cs, e, fz, fuel, p, hh, e4⟩
      · exact ih q e5 hm
  exact key _ ps h (List.mem_filter.2 ⟨hm, hn⟩)
/-- The bound of package bytealg is some number. -/
theorem max_some {W : World} (h : W.ShapedOpen Tryz.prog) : ∃ m, W.cell? ⟨2, 0, none⟩ = some (.int .i64 m) :=
  cell_of_shapedOpen_int (t := 3) (zero := #[.int .i64 0]) h (of_decide_eq_true (by kernel_rfl)) (by kernel_rfl) rfl (by kernel_rfl) (by kernel_rfl) Tryz.underlying3
theorem max_sealed {W : World} {k : Nat} (hk : 2 < k) {m : Int} (h : W.cell? ⟨2, 0, none⟩ = some (.int .i64 m)) : SealedAt (sealBelow W k) 2 0 [.int .i64 m] := by
  unfold World.cell? at h
  split at h
  · rename_i C e fz hW
    refine sealed_below hk hW ?_
    have h : C[0]? = some (.int .i64 m) := h
    have h0 := (Array.getElem?_eq_some_iff.1 h)
    obtain ⟨hlt, h1⟩ := h0
    have e1 : C.toList.take 1 = [.int .i64 m] := by
      have hl : 0 < C.toList.length := by simpa using hlt
      have := List.take_succ_eq_append_getElem (l := C.toList) (i := 0) hl
      simp at this
      rw [show (1 : Nat) = 0 + 1 from rfl, List.take_succ_eq_append_getElem hl]
      simp [h1]
    show RelL _ _ (C.toList.take 1)
    rw [e1]
    exact ⟨_, _, rfl, rfl, rfl⟩
  · cases h
def gloAnd (A B : Glo) : Glo := ⟨fun R => A.p R ∧ B.p R, fun R R' h k => ⟨A.mono R R' h k.1, B.mono R R' h k.2⟩⟩
theorem gloAll_l {A B : Glo} {L : List (Nat × List AVal)} (h : GloAll A L) : GloAll (gloAnd A B) L := fun g cs hg R hR => h g cs hg R hR.1
def gloPow : Glo := ⟨fun R => ∃ e fz, R 6 = some (.cells (Lib.pow10Tab.map fun z => Value.int .u64 z).toArray e fz), fun _ _ hle ⟨e, fz, h⟩ => ⟨e, fz, hle _ _ h⟩⟩
theorem pow_laid {W : World} {k : Nat} (hk : 6 < k) {laid : List (String × DataW Unit)} (hL : laidMetH Tryz.prog laid W) (hm : ("internal/strconv.uint64pow10", Rows.laid_internal_strconv_uint64pow10) ∈ laid) : gloPow.p (sealBelow W k) := by
  obtain ⟨C, e, fz, fuel, p, hW, hd⟩ := laid_at hL hm (by kernel_rfl) (g := 6) (t := 154) (by kernel_rfl) (by kernel_rfl)
  have hc := trod_ints (n := 20) (zs := (List.range 20).map (10 ^ ·)) Tryz.underlying154 Tryz.underlying115 (by kernel_rfl) (by kernel_rfl) hd (by simp)
  have e1 : C = (Lib.pow10Tab.map fun z => Value.int .u64 z).toArray := by
    apply Array.ext'
    rw [hc]
    unfold Lib.pow10Tab
    simp
    rfl
  refine ⟨e, fz, ?_⟩
  unfold sealBelow
  rw [if_pos hk, hW, e1]
theorem block_lt {W : World} {g : Nat} {o : Obj} (h : W.heap[g]? = some o) : g < W.heap.size := (Array.getElem?_eq_some_iff.1 h).1
theorem laid_lt {W : World} {laid : List (String × DataW Unit)} (hL : laidMetH Tryz.prog laid W) {n : String} {d : DataW Unit} (hm : (n, d) ∈ laid) (hn : d.handleName?.isNone = true) {g : Nat} {t : TypeId} (hg : Tryz.prog.globalNamed n = some g) (ht : (Tryz.prog.globals[g]?).map (·.type) = some t) : g < W.heap.size := by
  obtain ⟨_, _, _, _, _, hW, _⟩ := laid_at hL hm hn hg ht
  exact block_lt hW
end Go.Proofs.YtcoidjllehieeaaGreatDoor
namespace Go.Proofs.YtcoidjllehieeaaGreatDoor
open Go Go.RowKit
set_option maxRecDepth 20000
set_option maxHeartbeats 8000000
set_option linter.unusedSimpArgs false
set_option linter.unusedVariables false
attribute [local irreducible] AWp AOps SrcOK OrOk GloAll FnSpec
/-- A stamp in its memory. -/
def Stm.R (t : Stm) : List AVal := [.int .i64 t.y, .int .i64 t.m, .int .i64 t.d, .int .i64 t.h, .int .i64 t.i, .int .i64 t.s, .bool t.z, .int .i64 t.o]
attribute [local irreducible] fourS twoS zprS
end Go.Proofs.YtcoidjllehieeaaGreatDoor
namespace Go.Proofs.YtcoidjllehieeaaGreatDoor
open Go Go.ChangeShapes Go.WideShapes
theorem cell_block {W : World} {a : Addr} {v : Value} (h : W.cell? a = some v) : ∃ b o C e fz, a = ⟨b, o, none⟩ ∧ W.heap[b]? = some (.cells C e fz) := by
  obtain ⟨b, o, sp⟩ := a
  unfold World.cell? at h
  dsimp only at h
  cases hW : W.heap[b]? with
  | none => rw [hW] at h; cases h
  | some ob =>
    cases ob with
    | cells C e fz =>
      rw [hW] at h
      cases sp with
      | some s => simp at h
      | none => exact ⟨b, o, C, e, fz, rfl, hW⟩
    | _ => rw [hW] at h; cases h
theorem eight_of {α : Type} {l : List α} (h : l.length = 8) : ∃ a b c d e f g i, l = [a, b, c, d, e, f, g, i] := by
  match l, h with
  | [a, b, c, d, e, f, g, i], _ => exact ⟨a, b, c, d, e, f, g, i, rfl⟩
/-- A stamp as an argument. -/
theorem rel_stamp {H : Type} {enc : TypeId × Value → H} {W : World} {base : Nat} {spare : Nat → Bool} {held : Bool} {R : Seal} {v : Value} {d : DataW H} {ps : List MemPlace} (h : DataW.Trod enc Tryz.prog W base spare held 35 v d ps) :
    ∃ t : Stm, Rel R t.A v := by
  obtain ⟨fuel, h⟩ := h
  obtain ⟨xs, n, _, hx, hl, hxl, hf⟩ := DataW.trod_struct Tryz.underlying35 h
  have hc : Tryz.prog.cellsOf 35 = 8 := by kernel_rfl
  have hci : Tryz.prog.cellsOf 3 = 1 := by kernel_rfl
  have hcb : Tryz.prog.cellsOf 4 = 1 := by kernel_rfl
  rw [hc] at hl
  have hxl : xs.length = 8 := hxl
  obtain ⟨x0, x1, x2, x3, x4, x5, x6, x7, rfl⟩ := eight_of hxl
  obtain ⟨u0, u1, u2, u3, u4, u5, u6, u7, hu⟩ := eight_of hl
  rw [hu] at hf
  have g0 : DataW.trod enc Tryz.prog W base spare held n 3 (([u0, u1, u2, u3, u4, u5, u6, u7].drop 0).take (Tryz.prog.cellsOf 3)) = some x0 := hf 0 _ rfl
  have g1 : DataW.trod enc Tryz.prog W base spare held n 3 (([u0, u1, u2, u3, u4, u5, u6, u7].drop 1).take (Tryz.prog.cellsOf 3)) = some x1 := hf 1 _ rfl
  have g2 : DataW.trod enc Tryz.prog W base spare held n 3 (([u0, u1, u2, u3, u4, u5, u6, u7].drop 2).take (Tryz.prog.cellsOf 3)) = some x2 := hf 2 _ rfl
  have g3 : DataW.trod enc Tryz.prog W base spare held n 3 (([u0, u1, u2, u3, u4, u5, u6, u7].drop 3).take (Tryz.prog.cellsOf 3)) = some x3 := hf 3 _ rfl
  have g4 : DataW.trod enc Tryz.prog W base spare held n 3 (([u0, u1, u2, u3, u4, u5, u6, u7].drop 4).take (Tryz.prog.cellsOf 3)) = some x4 := hf 4 _ rfl
  have g5 : DataW.trod enc Tryz.prog W base spare held n 3 (([u0, u1, u2, u3, u4, u5, u6, u7].drop 5).take (Tryz.prog.cellsOf 3)) = some x5 := hf 5 _ rfl
  have g6 : DataW.trod enc Tryz.prog W base spare held n 4 (([u0, u1, u2, u3, u4, u5, u6, u7].drop 6).take (Tryz.prog.cellsOf 4)) = some x6 := hf 6 _ rfl
  have g7 : DataW.trod enc Tryz.prog W base spare held n 3 (([u0, u1, u2, u3, u4, u5, u6, u7].drop 7).take (Tryz.prog.cellsOf 3)) = some x7 := hf 7 _ rfl
  rw [hci] at g0 g1 g2 g3 g4 g5 g7
  rw [hcb] at g6
  simp only [List.drop_zero, List.drop_succ_cons, List.take_succ_cons, List.take_zero] at g0 g1 g2 g3 g4 g5 g6 g7
  obtain ⟨n0, q0, _, _⟩ := DataW.trod_int Tryz.underlying3 g0
  obtain ⟨n1, q1, _, _⟩ := DataW.trod_int Tryz.underlying3 g1
  obtain ⟨n2, q2, _, _⟩ := DataW.trod_int Tryz.underlying3 g2
  obtain ⟨n3, q3, _, _⟩ := DataW.trod_int Tryz.underlying3 g3
  obtain ⟨n4, q4, _, _⟩ := DataW.trod_int Tryz.underlying3 g4
  obtain ⟨n5, q5, _, _⟩ := DataW.trod_int Tryz.underlying3 g5
  obtain ⟨n6, q6, _⟩ := DataW.trod_bool Tryz.underlying4 g6
  obtain ⟨n7, q7, _, _⟩ := DataW.trod_int Tryz.underlying3 g7
  refine ⟨⟨n0, n1, n2, n3, n4, n5, n6, n7⟩, ?_, ?_⟩
  · rw [hu]
    obtain rfl := List.singleton_inj.1 q0
    obtain rfl := List.singleton_inj.1 q1
    obtain rfl := List.singleton_inj.1 q2
    obtain rfl := List.singleton_inj.1 q3
    obtain rfl := List.singleton_inj.1 q4
    obtain rfl := List.singleton_inj.1 q5
    obtain rfl := List.singleton_inj.1 q6
    obtain rfl := List.singleton_inj.1 q7
    exact ⟨_, _, rfl, rfl, _, _, rfl, rfl, _, _, rfl, rfl, _, _, rfl, rfl, _, _, rfl, rfl, _, _, rfl, rfl, _, _, rfl, rfl, _, _, rfl, rfl, rfl⟩
  · cases v with
    | agg cs => rfl
    | _ => exact absurd (congrArg List.length hu) (by simp [Value.cells])
theorem cell_lt {W : World} {g : Nat} {v : Value} (h : W.cell? ⟨g, 0, none⟩ = some v) : g < W.heap.size := by
  obtain ⟨b, o, C, e, fz, ha, hW⟩ := cell_block h
  cases ha
  exact block_lt hW
end Go.Proofs.YtcoidjllehieeaaGreatDoor
namespace Go.Proofs.YtcoidjllehieeaaGreatDoor
open Go Go.ChangeShapes Go.WideShapes
theorem five_of {α : Type} {l : List α} (h : l.length = 5) : ∃ a b c d e, l = [a, b, c, d, e] := by
  match l, h with
  | [a, b, c, d, e], _ => exact ⟨a, b, c, d, e, rfl⟩
theorem twelve_of {α : Type} {l : List α} (h : l.length = 12) : ∃ a b c d e f g i j k m n, l = [a, b, c, d, e, f, g, i, j, k, m, n] := by
  match l, h with
  | [a, b, c, d, e, f, g, i, j, k, m, n], _ => exact ⟨a, b, c, d, e, f, g, i, j, k, m, n, rfl⟩
theorem lens_mem {l : List (List UInt8)} {j : Nat} : (l.getD j []).length ≤ Lib.lens l := lens_at
theorem rel_value {H : Type} {enc : TypeId × Value → H} {W : World} {spare : Nat → Bool} {held : Bool} {v : Value} {d : DataW H} {ps : List MemPlace} (h : DataW.Trod enc Tryz.prog W 0 spare held 37 v d ps) (hb : Rows.uptoBulk d ≤ 1048576) :
    ∃ u : Vl, Rel (sealBelow W W.heap.size) u.A v ∧ u.s.length ≤ 1048576 ∧ Small u.L ∧ u.OK := by
  obtain ⟨fuel, h⟩ := h
  obtain ⟨xs, n, _, hx, hl, hxl, hf⟩ := DataW.trod_struct Tryz.underlying37 h
  have hc : Tryz.prog.cellsOf 37 = 12 := by kernel_rfl
  have hci : Tryz.prog.cellsOf 3 = 1 := by kernel_rfl
  have hcs : Tryz.prog.cellsOf 9 = 1 := by kernel_rfl
  have hcp : Tryz.prog.cellsOf 33 = 1 := by kernel_rfl
  have hct : Tryz.prog.cellsOf 35 = 8 := by kernel_rfl
  rw [hc] at hl
  have hxl : xs.length = 5 := hxl
  obtain ⟨x0, x1, x2, x3, x4, rfl⟩ := five_of hxl
  obtain ⟨u0, u1, u2, u3, u4, u5, u6, u7, u8, u9, u10, u11, hu⟩ := twelve_of hl
  rw [hu] at hf
  have g0 : DataW.trod enc Tryz.prog W 0 spare held n 3 (([u0, u1, u2, u3, u4, u5, u6, u7, u8, u9, u10, u11].drop 0).take (Tryz.prog.cellsOf 3)) = some x0 := hf 0 _ rfl
  have g1 : DataW.trod enc Tryz.prog W 0 spare held n 9 (([u0, u1, u2, u3, u4, u5, u6, u7, u8, u9, u10, u11].drop 1).take (Tryz.prog.cellsOf 9)) = some x1 := hf 1 _ rfl
  have g2 : DataW.trod enc Tryz.prog W 0 spare held n 33 (([u0, u1, u2, u3, u4, u5, u6, u7, u8, u9, u10, u11].drop 2).take (Tryz.prog.cellsOf 33)) = some x2 := hf 2 _ rfl
  have g3 : DataW.trod enc Tryz.prog W 0 spare held n 35 (([u0, u1, u2, u3, u4, u5, u6, u7, u8, u9, u10, u11].drop 3).take (Tryz.prog.cellsOf 35)) = some x3 := hf 3 _ rfl
  have g4 : DataW.trod enc Tryz.prog W 0 spare held n 3 (([u0, u1, u2, u3, u4, u5, u6, u7, u8, u9, u10, u11].drop 11).take (Tryz.prog.cellsOf 3)) = some x4 := hf 4 _ rfl
  rw [hci] at g0 g4
  rw [hcs] at g1
  rw [hcp] at g2
  rw [hct] at g3
  simp only [List.drop_zero, List.drop_succ_cons, List.take_succ_cons, List.take_zero] at g0 g1 g2 g3 g4
  obtain rfl : d = .agg ([x0, x1, x2, x3, x4].map (·.1)) := (Prod.mk.inj hx).1
  simp only [List.map_cons, List.map_nil, Rows.uptoBulk, Rows.uptoBulkAll] at hb
  obtain ⟨n0, q0, _, _⟩ := DataW.trod_int Tryz.underlying3 g0
  obtain ⟨n4, q4, _, _⟩ := DataW.trod_int Tryz.underlying3 g4
  obtain ⟨s1, q1, e1, _⟩ := DataW.trod_string Tryz.underlying9 g1
  obtain ⟨L, r2, hs⟩ := rel_parts g2 (by omega)
  obtain ⟨t, r3⟩ := rel_stamp (R := sealBelow W W.heap.size) (v := .agg #[u3, u4, u5, u6, u7, u8, u9, u10]) (d := x3.1) (ps := x3.2) ⟨n, g3⟩
  have hbs : s1.data.toList.length ≤ 1048576 := by
    rw [e1] at hb
    simp only [Rows.uptoBulk] at hb
    omega
  have hLk := hs.k
  refine ⟨⟨n0, s1.data.toList, L, t, n4⟩, ⟨?_, ?_⟩, hbs, hs, ⟨by dsimp only; omega, hs.n, fun k => (hLk k).1, fun k j => by have h1 := lens_mem (l := L.getD k []) (j := j); have h2 := (hLk k).2; dsimp only; omega⟩⟩
  · rw [hu]
    obtain rfl := List.singleton_inj.1 q0
    obtain rfl := List.singleton_inj.1 q1
    obtain rfl := List.singleton_inj.1 q4
    have h3 : RelL (sealBelow W W.heap.size) _ [u3, u4, u5, u6, u7, u8, u9, u10] := r3.1
    exact ⟨_, _, rfl, rfl, _, _, rfl, by rw [RelC, str_mk], _, _, rfl, rel_one r2 rfl, relL_append h3 ⟨_, _, rfl, rfl, rfl⟩⟩
  · cases v with
    | agg cs => rfl
    | _ => exact absurd (congrArg List.length hu) (by simp [Value.cells])
end Go.Proofs.YtcoidjllehieeaaGreatDoor
namespace Go.Proofs.YtcoidjllehieeaaGreatDoor
open Go Go.ChangeShapes Go.WideShapes Go.ChangeAt Go.RowKit Go.WideMaps Go.WideElems
section
variable {H : Type} {enc : TypeId × Value → H} {W : World}
theorem take_all {α : Type} {l : List α} {n : Nat} (h : l.length = n) : l.take n = l := by rw [← h, List.take_length]
/-- An item. -/
theorem rel_item {fuel : Nat} {spare : Nat → Bool} {held : Bool} {cs : List Value} {x : DataW H × List MemPlace} (h : DataW.trod enc Tryz.prog W 0 spare held fuel 39 cs = some x) (hb : Rows.uptoBulk x.1 ≤ 1048576) :
    ∃ u : Itm, RelC (sealBelow W W.heap.size) (itR u) cs ∧ Itm.OK 1048576 u := by
  obtain ⟨xs, n, _, hx, hl, hxl, hf⟩ := DataW.trod_struct Tryz.underlying39 h
  have hc : Tryz.prog.cellsOf 39 = 15 := by kernel_rfl
  have hcs : Tryz.prog.cellsOf 9 = 1 := by kernel_rfl
  have hcp : Tryz.prog.cellsOf 32 = 1 := by kernel_rfl
  have hcv : Tryz.prog.cellsOf 37 = 12 := by kernel_rfl
  rw [hc] at hl
  have hxl : xs.length = 4 := hxl
  obtain ⟨x0, x1, x2, x3, rfl⟩ := four_of hxl
  obtain ⟨u0, u1, u2, cv, hu⟩ : ∃ u0 u1 u2 cv, cs = u0 :: u1 :: u2 :: cv := by
    rcases cs with _ | ⟨u0, _ | ⟨u1, _ | ⟨u2, cv⟩⟩⟩
    · simp at hl
    · simp at hl
    · simp at hl
    · exact ⟨u0, u1, u2, cv, rfl⟩
  rw [hu] at hf hl
  have hlv : cv.length = 12 := by simpa using hl
  have g0 : DataW.trod enc Tryz.prog W 0 spare held n 9 (((u0 :: u1 :: u2 :: cv).drop 0).take (Tryz.prog.cellsOf 9)) = some x0 := hf 0 _ rfl
  have g1 : DataW.trod enc Tryz.prog W 0 spare held n 9 (((u0 :: u1 :: u2 :: cv).drop 1).take (Tryz.prog.cellsOf 9)) = some x1 := hf 1 _ rfl
  have g2 : DataW.trod enc Tryz.prog W 0 spare held n 32 (((u0 :: u1 :: u2 :: cv).drop 2).take (Tryz.prog.cellsOf 32)) = some x2 := hf 2 _ rfl
  have g3 : DataW.trod enc Tryz.prog W 0 spare held n 37 (((u0 :: u1 :: u2 :: cv).drop 3).take (Tryz.prog.cellsOf 37)) = some x3 := hf 3 _ rfl
  rw [hcs] at g0 g1
  rw [hcp] at g2
  rw [hcv] at g3
  simp only [List.drop_zero, List.drop_succ_cons, List.take_succ_cons, List.take_zero] at g0 g1 g2 g3
  rw [take_all hlv] at g3
  obtain ⟨d, pl⟩ := x
  obtain rfl : d = .agg ([x0, x1, x2, x3].map (·.1)) := (Prod.mk.inj hx).1
  simp only [List.map_cons, List.map_nil, Rows.uptoBulk, Rows.uptoBulkAll] at hb
  obtain ⟨s0, q0, e0, _⟩ := DataW.trod_string Tryz.underlying9 g0
  obtain ⟨s1, q1, e1, _⟩ := DataW.trod_string Tryz.underlying9 g1
  obtain ⟨L, r2, hn, hk⟩ := rel_params g2
  obtain ⟨u, r3, h1, h2, _⟩ := rel_value (v := .agg cv.toArray) (d := x3.1) (ps := x3.2) ⟨n, by simpa [Value.cells] using g3⟩ (by omega)
  rw [e0, e1] at hb
  simp only [Rows.uptoBulk] at hb
  refine ⟨(⟨s0.data.toList, s1.data.toList, L, []⟩, u), ?_, ⟨⟨?_, ?_, Nat.zero_le _, ?_, fun k => ?_⟩, h1, h2⟩⟩
  · rw [hu]
    obtain rfl := List.singleton_inj.1 q0
    obtain rfl := List.singleton_inj.1 q1
    have r3' : RelC (sealBelow W W.heap.size) u.A cv := by
      have := r3.1
      rwa [show (Value.agg cv.toArray).cells.toList = cv by simp [Value.cells]] at this
    exact ⟨_, _, rfl, by rw [RelC, str_mk], _, _, rfl, by rw [RelC, str_mk], _, _, rfl, rel_one r2 rfl, r3'⟩
  · show s0.data.toList.length ≤ _; omega
  · show s1.data.toList.length ≤ _; omega
  · show L.length ≤ _; omega
  · have := hk k
    show (L.getD k Pr.z).n.length ≤ _ ∧ (L.getD k Pr.z).vs.length ≤ _ ∧ Lib.lens (L.getD k Pr.z).vs ≤ _
    omega
/-- A list of items. -/
theorem rel_items {fuel : Nat} {spare : Nat → Bool} {held : Bool} {v : Value} {x : DataW H × List MemPlace} (h : DataW.trod enc Tryz.prog W 0 spare held fuel 22 [v] = some x) (hb : Rows.uptoBulk x.1 ≤ 1048576) :
    ∃ L : List Itm, Rel (sealBelow W W.heap.size) (.list 15 L.length (itsF L)) v ∧ L.length ≤ 1048576 ∧ ∀ y ∈ L, Itm.OK 1048576 y := by
  have hc : Tryz.prog.cellsOf 39 = 15 := by kernel_rfl
  rcases Go.Deep.open_slice Tryz.underlying22 h with ⟨hv, rfl⟩ | ⟨a, len, cap, m, n, D, Pl, hv, _, hl, _, hm, rfl, hx⟩
  · obtain rfl : v = .slice none 0 0 := by simpa using hv
    exact ⟨[], ⟨⟨none, 0, rfl, Nat.le_refl _, .inl rfl⟩, rfl⟩, Nat.zero_le _, fun y hy => by cases hy⟩
  · obtain rfl : v = .slice (some a) len cap := by simpa using hv
    rw [hc] at hx
    have hlm : len ≤ m := by rw [hm]; split <;> omega
    simp only [Rows.uptoBulk] at hb
    have h1 := bulk_len ((List.range len).map D)
    rw [List.length_map, List.length_range] at h1
    have hD : ∀ i, i < len → Rows.uptoBulk (D i) ≤ 1048576 := fun i hi => by
      have := bulk_mem (d := D i) (l := (List.range len).map D) (List.mem_map.2 ⟨i, List.mem_range.2 hi, rfl⟩)
      omega
    obtain ⟨Cx, hCx⟩ := Go.Deep.choose_lt (α := List Value) (n := len) (p := fun i cs => W.cells? 0 (a.add (i * 15)) 15 = some cs ∧ DataW.trod enc Tryz.prog W 0 spare held n 39 cs = some (D i, Pl i)) (fun i hi => hx i (by omega))
    obtain ⟨Lx, hLx⟩ := Go.Deep.choose_lt (α := Itm) (n := len) (p := fun i q => RelC (sealBelow W W.heap.size) (itR q) (Cx i) ∧ Itm.OK 1048576 q) (fun i hi => rel_item (hCx i hi).2 (hD i hi))
    let L : List Itm := (List.range len).map Lx
    have hll : L.length = len := by simp [L]
    have hget : ∀ i, i < len → L.getD i Itm.z = Lx i := fun i hi => by simp [L, List.getD, hi]
    refine ⟨L, ?_, by omega, itm_all fun k hk => ?_⟩
    · rw [hll]
      refine rel_listZ (by decide) hl (cs := Cx) (fun i hi => ⟨(hCx i hi).1, ?_⟩)
      unfold itsF
      rw [hget i hi]
      exact (hLx i hi).1
    · rw [hget k (by omega)]
      exact (hLx k (by omega)).2
theorem rel_card {spare : Nat → Bool} {held : Bool} {v : Value} {d : DataW H} {ps : List MemPlace} (h : DataW.Trod enc Tryz.prog W 0 spare held 24 v d ps) (hb : Rows.uptoBulk d ≤ 1048576) :
    ∃ c : Crd, Rel (sealBelow W W.heap.size) c.A v ∧ c.l.length ≤ 1048576 ∧ ∀ y ∈ c.l, Itm.OK 1048576 y := by
  obtain ⟨fuel, h⟩ := h
  obtain ⟨xs, n, _, hx, hl, hxl, hf⟩ := DataW.trod_struct Tryz.underlying24 h
  have hc : Tryz.prog.cellsOf 24 = 2 := by kernel_rfl
  have hci : Tryz.prog.cellsOf 3 = 1 := by kernel_rfl
  have hcl : Tryz.prog.cellsOf 22 = 1 := by kernel_rfl
  rw [hc] at hl
  have hxl : xs.length = 2 := hxl
  obtain ⟨x0, x1, rfl⟩ := two_of hxl
  obtain ⟨u0, u1, hu⟩ := two_of hl
  rw [hu] at hf
  have g0 : DataW.trod enc Tryz.prog W 0 spare held n 3 (([u0, u1].drop 0).take (Tryz.prog.cellsOf 3)) = some x0 := hf 0 _ rfl
  have g1 : DataW.trod enc Tryz.prog W 0 spare held n 22 (([u0, u1].drop 1).take (Tryz.prog.cellsOf 22)) = some x1 := hf 1 _ rfl
  rw [hci] at g0
  rw [hcl] at g1
  simp only [List.drop_zero, List.drop_succ_cons, List.take_succ_cons, List.take_zero] at g0 g1
  obtain rfl : d = .agg ([x0, x1].map (·.1)) := (Prod.mk.inj hx).1
  simp only [List.map_cons, List.map_nil, Rows.uptoBulk, Rows.uptoBulkAll] at hb
  obtain ⟨n0, q0, _, _⟩ := DataW.trod_int Tryz.underlying3 g0
  obtain ⟨L, r1, h1, h2⟩ := rel_items g1 (by omega)
  refine ⟨⟨n0, L⟩, ⟨?_, ?_⟩, h1, h2⟩
  · rw [hu]
    obtain rfl := List.singleton_inj.1 q0
    exact ⟨_, _, rfl, rfl, _, _, rfl, rel_one r1 rfl, rfl⟩
  · cases v with
    | agg cs => rfl
    | _ => exact absurd (congrArg List.length hu) (by simp [Value.cells])
end
end Go.Proofs.YtcoidjllehieeaaGreatDoor
