/- Contracts of the shelf over memory that one owns; rows and lists of texts; strings.Join. -/
import Derived.Test.YtlmihggafbmkaaaGreatDoorShb
import Derived.Test.YtlmihggafbmkaaaGreatDoorExh
import Derived.Test.YtlmihggafbmkaaaGreatDoorShelf
import Derived.Lib.Join
namespace Go.Proofs.YtlmihggafbmkaaaGreatDoor
open Go Go.RowKit
theorem MS.below {C : Ctx} {R : Seal} {H : Heap} {w w' : World} (h : MS C R H w) (hb : Below w.heap.size w w') : MS C R H w' := by
  have hlt : ∀ {b : Nat} {o : Obj}, w.heap[b]? = some o → b < w.heap.size := fun {b o} h1 => by
    rcases Nat.lt_or_ge b w.heap.size with h | h
    · exact h
    · rw [Array.getElem?_eq_none h] at h1; cases h1
  refine ⟨fun b o ho => ?_, h.ge, h.fresh, ⟨fun x hx => ?_, h.heap.nodup, h.heap.apart⟩, h.own, ?_⟩
  · have h1 := h.sealed b o ho
    rw [hb.block b (hlt h1), h1]
  · exact HEnt.holds_mono (h.heap.holds x hx) (Seal.le_refl R) (fun b hbk => hb.block b (HEnt.blk_lt (h.heap.holds x hx) hbk))
  · exact ⟨hb.os.trans h.ext.os, hb.tape.trans h.ext.tape, hb.output.trans h.ext.output, Nat.le_trans h.ext.size hb.size, fun b hlt hn => by
      rw [hb.block b (Nat.lt_of_lt_of_le hlt h.ext.size)]; exact h.ext.block b hlt hn⟩
/-- A call that leaves all that was there as it was. -/
theorem fnspec_of_calls {P : Program} {G : Glo} {f : FuncId} {avs : List AVal} {H : Heap} {v : AVal} (u : Value) (hu : ∀ R, Rel R v u) (hc : ∀ args w, (callFunc f args).run P w = .ok (.enter f args) w)
    (h : ∀ C R args, RelV R avs args.toList → ∀ w, G.p R → MS C R H w → Calls P f args w fun e w' => e = .returned u ∧ Below w.heap.size w w') : FnSpec P G f avs H (fun r H' => r = .ret v ∧ H' = H) := by
  intro R w args hG hm ha
  refine .inl ⟨hc args w, (h _ R args ha w hG hm).mono ?_⟩
  rintro e w' ⟨rfl, hb⟩
  exact ⟨.ret v, H, R, ⟨rfl, rfl⟩, ⟨_, rfl, hu R⟩, hm.below hb⟩
/-- Texts in a row. -/
def strsC (l : List (List UInt8)) : List AVal := l.map .str
def strsF (l : List (List UInt8)) (i : Nat) : AVal := .str (l.getD i [])
theorem strsF_ok (l : List (List UInt8)) : ∀ i, i < l.length → (strsF l i).cells = ((strsC l).drop (i * 1)).take 1 ∧ (strsF l i).plain = true := by
  intro i hi
  refine ⟨?_, rfl⟩
  have : i < (strsC l).length := by simpa [strsC] using hi
  rw [Nat.mul_one, List.drop_eq_getElem_cons this]
  simp [strsF, AVal.cells, strsC, List.getD, hi]
theorem strsC_snoc (l : List (List UInt8)) (s : List UInt8) : strsC l ++ [.str s] = strsC (l ++ [s]) := by simp [strsC]
theorem strsC_len (l : List (List UInt8)) : (strsC l).length = l.length := by simp [strsC]
def baS (l : List (List UInt8)) : List ByteArray := l.map fun s => ⟨s.toArray⟩
theorem baS_data (l : List (List UInt8)) : (baS l).map (·.data.toList) = l := by
  unfold baS
  rw [List.map_map]
  refine (List.map_congr_left (g := id) fun x _ => ?_).trans (List.map_id l)
  simp
theorem baS_len (l : List (List UInt8)) : (baS l).length = l.length := by simp [baS]
theorem relL_strs_inv {R : Seal} : ∀ {l : List (List UInt8)} {vs : List Value}, RelL R (strsC l) vs → vs = l.map fun s => Value.string ⟨s.toArray⟩
  | [], _, h => h
  | s :: l, _, h => by
    obtain ⟨v, t, rfl, h1, h2⟩ := h
    have h1 : [v] = [.string ⟨s.toArray⟩] := h1
    rw [List.cons.injEq] at h1
    rw [relL_strs_inv h2, h1.1]
    rfl
theorem strs_cell {R : Seal} {w : World} {bl o : Nat} {Cs : Array Value} {e : TypeId} {fz : Nat × Nat} {l : List (List UInt8)} (hb : w.heap[bl]? = some (.cells Cs e fz)) (hl : RelL R (strsC l) ((Cs.toList.drop o).take l.length)) :
    ∀ (j : Nat) x, (baS l)[j]? = some x → w.cell? ⟨bl, o + j, none⟩ = some (.string x) := by
  intro j x hx
  have hj : j < l.length := by have := (List.getElem?_eq_some_iff.1 hx).1; rwa [baS_len] at this
  have := relL_strs_inv hl
  simp only [World.cell?, hb]
  have h2 : ((Cs.toList.drop o).take l.length)[j]? = (l.map fun s => Value.string ⟨s.toArray⟩)[j]? := by rw [this]
  rw [List.getElem?_take_of_lt hj, List.getElem?_drop] at h2
  have hx : x = ⟨(l[j]).toArray⟩ := by
    unfold baS at hx
    rw [List.getElem?_map, List.getElem?_eq_getElem hj] at hx
    simpa using hx.symm
  rw [hx]
  simpa [List.getElem?_eq_getElem hj] using h2
/-- A sealed list of texts: where its cells are. -/
theorem list_strs {R : Seal} {w : World} (hs : Sealed R w) {l : List (List UInt8)} {v : Value} (h : Rel R (.list 1 l.length (strsF l)) v) : ∃ a cap, v = .slice a l.length cap ∧ l.length ≤ cap ∧ (l = [] ∨ ∃ b o C e fz, a = some ⟨b, o, none⟩ ∧ w.heap[b]? = some (.cells C e fz) ∧ RelL R (strsC l) ((C.toList.drop o).take l.length)) := by
  obtain ⟨a, cap, e1, hle, h7⟩ := rel_one h rfl
  simp only [List.cons.injEq, and_true] at e1
  refine ⟨a, cap, e1, hle, ?_⟩
  rcases h7 with h7 | ⟨b, o, C, e, fz, ha, hR, hall⟩
  · exact .inl (List.eq_nil_of_length_eq_zero h7)
  · refine .inr ⟨b, o, C, e, fz, ha, hs _ _ hR, ?_⟩
    have key : ∀ (m : Nat) (l' : List (List UInt8)) (o' : Nat), l'.length = m → (∀ i, i < m → RelC R (strsF l' i) ((C.toList.drop (o' + i * 1)).take 1)) → RelL R (strsC l') ((C.toList.drop o').take m) := by
      intro m
      induction m with
      | zero => intro l' o' hl _; rw [List.eq_nil_of_length_eq_zero hl]; simp [strsC, RelL]
      | succ m ih =>
        intro l' o' hl hi
        match l', hl with
        | s :: t, hl =>
          have h0 := hi 0 (by omega)
          have h0 : (C.toList.drop (o' + 0 * 1)).take 1 = [.string ⟨s.toArray⟩] := h0
          rw [Nat.zero_mul, Nat.add_zero] at h0
          have hlt : o' < C.toList.length := by
            rcases Nat.lt_or_ge o' C.toList.length with h | h
            · exact h
            · rw [List.drop_eq_nil_of_le h] at h0; cases h0
          rw [List.drop_eq_getElem_cons hlt] at h0 ⊢
          simp only [List.take_succ_cons, List.take_zero, List.cons.injEq, and_true] at h0
          rw [List.take_succ_cons, h0]
          refine ⟨_, _, rfl, rfl, ih t (o' + 1) (by simpa using hl) (fun i h => ?_)⟩
          have := hi (i + 1) (by omega)
          rw [show o' + (i + 1) * 1 = o' + 1 + i * 1 by omega] at this
          exact this
    exact key _ l o rfl hall
theorem join_calls {l : List (List UInt8)} {sep : List UInt8} {w : World} {b o cap : Nat} {C : Array Value} {e : TypeId} {fz : Nat × Nat} {R : Seal} (hb : w.heap[b]? = some (.cells C e fz)) (hl : RelL R (strsC l) ((C.toList.drop o).take l.length)) (hcap : l.length ≤ cap) (hN : l.length ≤ 140737488355328) (hlen : (Lib.join l sep).length ≤ 140737488355328) :
    Calls Tryz.prog 22 #[.slice (some ⟨b, o, none⟩) l.length cap, .string ⟨sep.toArray⟩] w fun e w' => e = .returned (.string ⟨(Lib.join l sep).toArray⟩) ∧ Below w.heap.size w w' := by
  have hlt : b < w.heap.size := by
    rcases Nat.lt_or_ge b w.heap.size with h | h
    · exact h
    · rw [Array.getElem?_eq_none h] at hb; cases hb
  have := Tryz.strings_Join b o cap (baS l) ⟨sep.toArray⟩ w (strs_cell hb hl) hlt (by rw [baS_len]; exact hN) (by rw [baS_len]; exact hcap) (by rw [baS_data]; simpa using hlen)
  rw [baS_len, baS_data] at this
  simpa using this
theorem join_none {sep : List UInt8} {w : World} {a : Option Addr} {cap : Nat} : Calls Tryz.prog 22 #[.slice a 0 cap, .string ⟨sep.toArray⟩] w fun e w' => e = .returned (.string ⟨#[]⟩) ∧ Below w.heap.size w w' := by
  refine (Tryz.strings_Join_none a cap ⟨sep.toArray⟩ w).mono ?_
  rintro e w' ⟨rfl, rfl⟩
  exact ⟨rfl, Below.refl _ _⟩
theorem strings_Join_row {G : Glo} {eT : Option TypeId} (l : List (List UInt8)) (sep : List UInt8) (v : Value) (hN : l.length ≤ 140737488355328) (hlen : (Lib.join l sep).length ≤ 140737488355328) :
    FnSpec Tryz.prog G 22 [.raw v, .str sep] [.row v eT 1 l.length (strsC l)] (fun r H => r = .ret (.str (Lib.join l sep)) ∧ H = [.row v eT 1 l.length (strsC l)]) := by
  refine fnspec_of_calls (.string ⟨(Lib.join l sep).toArray⟩) (fun R => rel_str.2 rfl) Tryz.call22 ?_
  rintro C R args ⟨x, t, e, hx, y, t', e', hy, rfl⟩ w hG hm
  obtain rfl := rel_raw.1 hx
  obtain rfl := rel_str.1 hy
  subst e'
  obtain rfl := arr_of e
  obtain ⟨hlen', hx'⟩ := hm.heap.holds _ (List.mem_singleton.2 rfl)
  rcases hx' with ⟨rfl, h0⟩ | ⟨bl, cap, Cs, el, fz, rfl, hb, hcs, hnc, hl, hfz⟩
  · have : l = [] := List.eq_nil_of_length_eq_zero h0
    subst this
    exact join_none
  · exact join_calls (o := 0) hb (by simpa using hl) hnc hN hlen
theorem strings_Join {G : Glo} (l : List (List UInt8)) (sep : List UInt8) (hN : l.length ≤ 140737488355328) (hlen : (Lib.join l sep).length ≤ 140737488355328) :
    FnIs Tryz.prog G 22 [.list 1 l.length (strsF l), .str sep] (.str (Lib.join l sep)) := by
  refine fnis_of_calls rfl Tryz.call22 ?_
  rintro R args ⟨x, t, e, hx, y, t', e', hy, rfl⟩ w hG hs
  obtain rfl := rel_str.1 hy
  subst e'
  obtain ⟨a, cap, rfl, hcap, h7⟩ := list_strs hs hx
  obtain rfl := arr_of e
  rcases h7 with rfl | ⟨b, o, C, e, fz, rfl, hb, hl⟩
  · exact join_none
  · exact join_calls hb hl hcap hN hlen
end Go.Proofs.YtlmihggafbmkaaaGreatDoor
