/- Lists of texts among the arguments: how they are read, and what the bound says of them. -/
import Derived.Test.YtlmihggafbmkaaaGreatDoorTjp
import Derived.Test.YtlmihggafbmkaaaGreatDoorHan
import Derived.Deep.Strs
namespace Go.Proofs.YtlmihggafbmkaaaGreatDoor
open Go.ChangeShapes Go.WideShapes Go.ChangeAt Go.RowKit Go.WideMaps Go.WideElems
theorem bulk_pos {H : Type} (d : DataW H) : 1 ≤ Rows.uptoBulk d := by
  cases d with
  | lit l => cases l <;> simp [Rows.uptoBulk]
  | _ => simp [Rows.uptoBulk]
theorem bulk_len {H : Type} : ∀ l : List (DataW H), l.length ≤ Rows.uptoBulkAll l
  | [] => Nat.zero_le _
  | x :: r => by
    have h1 := bulk_pos x
    have h2 := bulk_len r
    simp only [Rows.uptoBulkAll, List.length_cons]
    omega
theorem bulk_mem {H : Type} {d : DataW H} : ∀ {l : List (DataW H)}, d ∈ l → Rows.uptoBulk d ≤ Rows.uptoBulkAll l
  | [], h => by cases h
  | x :: r, h => by
    simp only [Rows.uptoBulkAll]
    rcases List.mem_cons.1 h with rfl | h
    · omega
    · have := bulk_mem h; omega
theorem bulk_strs {H : Type} : ∀ l : List (List UInt8), Rows.uptoBulkAll (H := H) (l.map fun s => .lit (.string s)) = Lib.lens l + l.length
  | [] => rfl
  | s :: r => by
    have e1 : Lib.lens (s :: r) = s.length + Lib.lens r := by simp [Lib.lens]
    have h := bulk_strs (H := H) r
    simp only [List.map_cons, Rows.uptoBulkAll, Rows.uptoBulk, h, e1, List.length_cons]
    omega
section
variable {H : Type} {enc : TypeId × Value → H} {W : World}
/-- A row of cells in old memory, as a list. -/
theorem rel_list {m : Nat} {f : Nat → AVal} {a : Addr} {cap : Nat} (hm : m ≤ cap) {V : Nat → Value} (hV : ∀ i, i < m → W.cell? (a.add i) = some (V i) ∧ RelC (sealBelow W W.heap.size) (f i) [V i]) :
    Rel (sealBelow W W.heap.size) (.list 1 m f) (.slice (some a) m cap) := by
  refine ⟨⟨some a, cap, rfl, hm, ?_⟩, rfl⟩
  rcases Nat.eq_zero_or_pos m with h0 | h0
  · exact .inl h0
  · refine .inr ?_
    obtain ⟨b, o, sp⟩ := a
    have h1 := (hV 0 h0).1
    rw [show (⟨b, o, sp⟩ : Addr).add 0 = ⟨b, o, sp⟩ from rfl] at h1
    unfold World.cell? at h1
    dsimp only at h1
    cases hW : W.heap[b]? with
    | none => rw [hW] at h1; cases h1
    | some ob =>
      cases ob with
      | cells C e fz =>
        rw [hW] at h1
        cases sp with
        | some s => simp at h1
        | none =>
          refine ⟨b, o, C, e, fz, rfl, ?_, fun i hi => ?_⟩
          · unfold sealBelow
            rw [if_pos (Array.getElem?_eq_some_iff.1 hW).1]
            exact hW
          · obtain ⟨h2, h3⟩ := hV i hi
            have ha : (⟨b, o, none⟩ : Addr).add i = ⟨b, o + i, none⟩ := by
              unfold Addr.add
              split
              · rename_i h; rw [h]; rfl
              · rfl
            rw [ha] at h2
            have hci : C[o + i]? = some (V i) := by
              unfold World.cell? at h2
              simpa [hW] using h2
            have hlt : o + i < C.toList.length := by simpa using (Array.getElem?_eq_some_iff.1 hci).1
            have e1 : (C.toList.drop (o + i * 1)).take 1 = [V i] := by
              rw [Nat.mul_one, List.drop_eq_getElem_cons hlt, List.take_succ_cons, List.take_zero]
              have : C.toList[o + i]? = some (V i) := by rw [Array.getElem?_toList]; exact hci
              rw [List.getElem?_eq_getElem hlt] at this
              rw [Option.some.inj this]
            rw [e1]
            exact h3
      | _ => rw [hW] at h1; cases h1
/-- A list of texts. -/
theorem rel_strs {fuel : Nat} {spare : Nat → Bool} {held : Bool} {v : Value} {x : DataW H × List MemPlace} (h : DataW.trod enc Tryz.prog W 0 spare held fuel 23 [v] = some x) :
    ∃ l : List (List UInt8), Rel (sealBelow W W.heap.size) (.list 1 l.length (strsF l)) v ∧ l.length ≤ Rows.uptoBulk x.1 ∧ Lib.lens l ≤ Rows.uptoBulk x.1 := by
  rcases Go.Deep.open_strs Tryz.underlying23 Tryz.underlying9 (by kernel_rfl) h with ⟨hv, rfl⟩ | ⟨a, len, cap, m, Sx, hv, _, hl, _, hm, rfl, hx⟩
  · obtain rfl : v = .slice none 0 0 := by simpa using hv
    exact ⟨[], ⟨⟨none, 0, rfl, Nat.le_refl _, .inl rfl⟩, rfl⟩, Nat.zero_le _, Nat.zero_le _⟩
  · obtain rfl : v = .slice (some a) len cap := by simpa using hv
    have hlm : len ≤ m := by rw [hm]; split <;> omega
    let l : List (List UInt8) := (List.range len).map fun i => (Sx i).data.toList
    have hll : l.length = len := by simp [l]
    have hget : ∀ i, i < len → l.getD i [] = (Sx i).data.toList := fun i hi => by simp [l, List.getD, hi]
    refine ⟨l, ?_, ?_⟩
    · rw [hll]
      refine rel_list hl (V := fun i => .string (Sx i)) (fun i hi => ⟨(hx i (by omega)).1, ?_⟩)
      have := (rel_str (R := sealBelow W W.heap.size) (s := l.getD i []) (v := .string (Sx i))).2 (by rw [hget i hi, str_mk])
      exact this.1
    · have e1 : ((List.range len).map fun i => (DataW.lit (.string (Sx i).data.toList) : DataW H)) = l.map fun s => .lit (.string s) := by simp [l, List.map_map, Function.comp_def]
      have h1 := bulk_strs (H := H) l
      simp only [Rows.uptoBulk]
      rw [e1, h1]
      omega
/-- A list of lists of texts. -/
theorem rel_parts {fuel : Nat} {spare : Nat → Bool} {held : Bool} {v : Value} {x : DataW H × List MemPlace} (h : DataW.trod enc Tryz.prog W 0 spare held fuel 22 [v] = some x) (hb : Rows.uptoBulk x.1 ≤ 1048576) :
    ∃ L : List (List (List UInt8)), Rel (sealBelow W W.heap.size) (.list 1 L.length (partsF L)) v ∧ Small L := by
  rcases Go.Deep.open_slice1 Tryz.underlying22 (by kernel_rfl) h with ⟨hv, rfl⟩ | ⟨a, len, cap, m, n, V, D, Pl, hv, _, hl, _, hm, rfl, hx⟩
  · obtain rfl : v = .slice none 0 0 := by simpa using hv
    refine ⟨[], ⟨⟨none, 0, rfl, Nat.le_refl _, .inl rfl⟩, rfl⟩, ⟨by simp, fun k => ?_⟩⟩
    rw [List.getD_nil]
    exact ⟨by simp, by simp [Lib.lens]⟩
  · obtain rfl : v = .slice (some a) len cap := by simpa using hv
    have hlm : len ≤ m := by rw [hm]; split <;> omega
    obtain ⟨Lx, hLx⟩ := Go.Deep.choose_lt (α := List (List UInt8)) (n := len) (p := fun i l => Rel (sealBelow W W.heap.size) (.list 1 l.length (strsF l)) (V i) ∧ l.length ≤ Rows.uptoBulk (D i) ∧ Lib.lens l ≤ Rows.uptoBulk (D i)) (fun i hi => rel_strs (hx i (by omega)).2)
    let L : List (List (List UInt8)) := (List.range len).map Lx
    have hll : L.length = len := by simp [L]
    have hget : ∀ i, i < len → L.getD i [] = Lx i := fun i hi => by simp [L, List.getD, hi]
    simp only [Rows.uptoBulk] at hb
    have h1 := bulk_len ((List.range len).map D)
    rw [List.length_map, List.length_range] at h1
    refine ⟨L, ?_, ⟨by omega, fun k => ?_⟩⟩
    · rw [hll]
      refine rel_list hl (V := V) (fun i hi => ⟨(hx i (by omega)).1, ?_⟩)
      have h2 := (hLx i hi).1
      unfold partsF
      rw [hget i hi]
      have h3 := h2.1
      obtain ⟨c, cp, e, h4⟩ := h3
      have e2 : [V i] = [.slice c (Lx i).length cp] := by
        obtain ⟨c2, cp2, e3, _⟩ := rel_one h2 rfl
        have e4 : V i = .slice c2 (Lx i).length cp2 := by simpa using e3
        rw [e4] at e ⊢
        exact e
      exact ⟨c, cp, e2, h4⟩
    · by_cases hk : k < len
      · rw [hget k hk]
        have h2 := (hLx k hk).2
        have h3 := bulk_mem (d := D k) (l := (List.range len).map D) (List.mem_map.2 ⟨k, List.mem_range.2 hk, rfl⟩)
        omega
      · rw [List.getD_eq_getElem?_getD, List.getElem?_eq_none (by omega)]
        exact ⟨by simp, by simp [Lib.lens]⟩
end
end Go.Proofs.YtlmihggafbmkaaaGreatDoor
