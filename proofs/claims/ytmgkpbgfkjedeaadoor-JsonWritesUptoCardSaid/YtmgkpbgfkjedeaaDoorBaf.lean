/- Parts of the proof of jsonWrites_card: Shc, Jsb, Jsc, Jse, Dc, Rf, Jsf, Jsh, Jsi, Jsj, Jsk, Prm, End. -/
import Derived.Lib.Join
import GoSem.PinnedTables
import Derived.Test.YtmgkpbgfkjedeaaDoorRows
import Derived.ProofKit
import Derived.LaidMore
import Derived.Lay
import Derived.Stop.Joined
import Derived.Test.YtmgkpbgfkjedeaaDoorBad
import Derived.Test.YtmgkpbgfkjedeaaDoorBae
import Derived.Test.YtmgkpbgfkjedeaaDoorBaa
import Derived.Test.YtmgkpbgfkjedeaaDoorBac
set_option linter.unusedVariables false
set_option linter.unusedSimpArgs false
namespace Go.Proofs.YtmgkpbgfkjedeaaDoor
open Go Go.RowKit
theorem MS.below {C : Ctx} {R : Seal} {H : Heap} {w w' : World} (h : MS C R H w) (hb : Below w.heap.size w w') : MS C R H w' := by
  have hlt : ∀ {b : Nat} {o : Obj}, w.heap[b]? = some o → b < w.heap.size := fun {b o} h1 => by
    rcases Nat.lt_or_ge b w.heap.size with h | h
    · exact h
    · rw [Array.getElem?_eq_none h] at h1; cases h1
  refine ⟨fun b o ho => ?_, h.ge, h.fresh, ⟨fun x hx => ?_, h.heap.nodup, h.heap.apart⟩, h.own, ?_⟩
  · have h1 := h.sealed b o ho
    rw [hb.block b (hlt h1), h1]
  · exact HEnt.holds_mono (h.heap.holds x hx) (Seal.le_refl R) (fun b hbk => hb.block b (HEnt.blk_lt (h.heap.holds x hx) hbk))
  · exact ⟨hb.os.trans h.ext.os, hb.tape.trans h.ext.tape, hb.output.trans h.ext.output, Nat.le_trans h.ext.size hb.size, fun b hlt hn => by
      rw [hb.block b (Nat.lt_of_lt_of_le hlt h.ext.size)]; exact h.ext.block b hlt hn⟩
/-- A call that leaves all that was there as it was. -/
theorem fnspec_of_calls {P : Program} {G : Glo} {f : FuncId} {avs : List AVal} {H : Heap} {v : AVal} (u : Value) (hu : ∀ R, Rel R v u) (hc : ∀ args w, (callFunc f args).run P w = .ok (.enter f args) w)
    (h : ∀ C R args, RelV R avs args.toList → ∀ w, G.p R → MS C R H w → Calls P f args w fun e w' => e = .returned u ∧ Below w.heap.size w w') : FnSpec P G f avs H (fun r H' => r = .ret v ∧ H' = H) := by
  intro R w args hG hm ha
  refine .inl ⟨hc args w, (h _ R args ha w hG hm).mono ?_⟩
  rintro e w' ⟨rfl, hb⟩
  exact ⟨.ret v, H, R, ⟨rfl, rfl⟩, ⟨_, rfl, hu R⟩, hm.below hb⟩
/-- Texts in a row. -/
def strsC (l : List (List UInt8)) : List AVal := l.map .str
def strsF (l : List (List UInt8)) (i : Nat) : AVal := .str (l.getD i [])
theorem strsC_snoc (l : List (List UInt8)) (s : List UInt8) : strsC l ++ [.str s] = strsC (l ++ [s]) := by simp [strsC]
def baS (l : List (List UInt8)) : List ByteArray := l.map fun s => ⟨s.toArray⟩
theorem baS_data (l : List (List UInt8)) : (baS l).map (·.data.toList) = l := by
  unfold baS
  rw [List.map_map]
  refine (List.map_congr_left (g := id) fun x _ => ?_).trans (List.map_id l)
  simp
theorem baS_len (l : List (List UInt8)) : (baS l).length = l.length := by simp [baS]
theorem relL_strs_inv {R : Seal} : ∀ {l : List (List UInt8)} {vs : List Value}, RelL R (strsC l) vs → vs = l.map fun s => Value.string ⟨s.toArray⟩
  | [], _, h => h
  | s :: l, _, h => by
    obtain ⟨v, t, rfl, h1, h2⟩ := h
    have h1 : [v] = [.string ⟨s.toArray⟩] := h1
    rw [List.cons.injEq] at h1
    rw [relL_strs_inv h2, h1.1]
    rfl
theorem strs_cell {R : Seal} {w : World} {bl o : Nat} {Cs : Array Value} {e : TypeId} {fz : Nat × Nat} {l : List (List UInt8)} (hb : w.heap[bl]? = some (.cells Cs e fz)) (hl : RelL R (strsC l) ((Cs.toList.drop o).take l.length)) :
    ∀ (j : Nat) x, (baS l)[j]? = some x → w.cell? ⟨bl, o + j, none⟩ = some (.string x) := by
  intro j x hx
  have hj : j < l.length := by have := (List.getElem?_eq_some_iff.1 hx).1; rwa [baS_len] at this
  have := relL_strs_inv hl
  simp only [World.cell?, hb]
  have h2 : ((Cs.toList.drop o).take l.length)[j]? = (l.map fun s => Value.string ⟨s.toArray⟩)[j]? := by rw [this]
  rw [List.getElem?_take_of_lt hj, List.getElem?_drop] at h2
  have hx : x = ⟨(l[j]).toArray⟩ := by
    unfold baS at hx
    rw [List.getElem?_map, List.getElem?_eq_getElem hj] at hx
    simpa using hx.symm
  rw [hx]
  simpa [List.getElem?_eq_getElem hj] using h2
/-- A sealed list of texts: where its cells are. -/
theorem list_strs {R : Seal} {w : World} (hs : Sealed R w) {l : List (List UInt8)} {v : Value} (h : Rel R (.list 1 l.length (strsF l)) v) : ∃ a cap, v = .slice a l.length cap ∧ l.length ≤ cap ∧ (l = [] ∨ ∃ b o C e fz, a = some ⟨b, o, none⟩ ∧ w.heap[b]? = some (.cells C e fz) ∧ RelL R (strsC l) ((C.toList.drop o).take l.length)) := by
  obtain ⟨a, cap, e1, hle, h7⟩ := rel_one h rfl
  simp only [List.cons.injEq, and_true] at e1
  refine ⟨a, cap, e1, hle, ?_⟩
  rcases h7 with h7 | ⟨b, o, C, e, fz, ha, hR, hall⟩
  · exact .inl (List.eq_nil_of_length_eq_zero h7)
  · refine .inr ⟨b, o, C, e, fz, ha, hs _ _ hR, ?_⟩
    have key : ∀ (m : Nat) (l' : List (List UInt8)) (o' : Nat), l'.length = m → (∀ i, i < m → RelC R (strsF l' i) ((C.toList.drop (o' + i * 1)).take 1)) → RelL R (strsC l') ((C.toList.drop o').take m) := by
      intro m
      induction m with
      | zero => intro l' o' hl _; rw [List.eq_nil_of_length_eq_zero hl]; simp [strsC, RelL]
      | succ m ih =>
        intro l' o' hl hi
        match l', hl with
        | s :: t, hl =>
          have h0 := hi 0 (by omega)
          have h0 : (C.toList.drop (o' + 0 * 1)).take 1 = [.string ⟨s.toArray⟩] := h0
          rw [Nat.zero_mul, Nat.add_zero] at h0
          have hlt : o' < C.toList.length := by
            rcases Nat.lt_or_ge o' C.toList.length with h | h
            · exact h
            · rw [List.drop_eq_nil_of_le h] at h0; cases h0
          rw [List.drop_eq_getElem_cons hlt] at h0 ⊢
          simp only [List.take_succ_cons, List.take_zero, List.cons.injEq, and_true] at h0
          rw [List.take_succ_cons, h0]
          refine ⟨_, _, rfl, rfl, ih t (o' + 1) (by simpa using hl) (fun i h => ?_)⟩
          have := hi (i + 1) (by omega)
          rw [show o' + (i + 1) * 1 = o' + 1 + i * 1 by omega] at this
          exact this
    exact key _ l o rfl hall
theorem join_calls {l : List (List UInt8)} {sep : List UInt8} {w : World} {b o cap : Nat} {C : Array Value} {e : TypeId} {fz : Nat × Nat} {R : Seal} (hb : w.heap[b]? = some (.cells C e fz)) (hl : RelL R (strsC l) ((C.toList.drop o).take l.length)) (hcap : l.length ≤ cap) (hN : l.length ≤ 140737488355328) (hlen : (Lib.join l sep).length ≤ 140737488355328) :
    Calls Tryd.prog 14 #[.slice (some ⟨b, o, none⟩) l.length cap, .string ⟨sep.toArray⟩] w fun e w' => e = .returned (.string ⟨(Lib.join l sep).toArray⟩) ∧ Below w.heap.size w w' := by
  have hlt : b < w.heap.size := by
    rcases Nat.lt_or_ge b w.heap.size with h | h
    · exact h
    · rw [Array.getElem?_eq_none h] at hb; cases hb
  have := Tryd.strings_Join b o cap (baS l) ⟨sep.toArray⟩ w (strs_cell hb hl) hlt (by rw [baS_len]; exact hN) (by rw [baS_len]; exact hcap) (by rw [baS_data]; simpa using hlen)
  rw [baS_len, baS_data] at this
  simpa using this
theorem join_none {sep : List UInt8} {w : World} {a : Option Addr} {cap : Nat} : Calls Tryd.prog 14 #[.slice a 0 cap, .string ⟨sep.toArray⟩] w fun e w' => e = .returned (.string ⟨#[]⟩) ∧ Below w.heap.size w w' := by
  refine (Tryd.strings_Join_none a cap ⟨sep.toArray⟩ w).mono ?_
  rintro e w' ⟨rfl, rfl⟩
  exact ⟨rfl, Below.refl _ _⟩
theorem strings_Join_row {G : Glo} {eT : Option TypeId} (l : List (List UInt8)) (sep : List UInt8) (v : Value) (hN : l.length ≤ 140737488355328) (hlen : (Lib.join l sep).length ≤ 140737488355328) :
    FnSpec Tryd.prog G 14 [.raw v, .str sep] [.row v eT 1 l.length (strsC l)] (fun r H => r = .ret (.str (Lib.join l sep)) ∧ H = [.row v eT 1 l.length (strsC l)]) := by
  refine fnspec_of_calls (.string ⟨(Lib.join l sep).toArray⟩) (fun R => rel_str.2 rfl) Tryd.call14 ?_
  rintro C R args ⟨x, t, e, hx, y, t', e', hy, rfl⟩ w hG hm
  obtain rfl := rel_raw.1 hx
  obtain rfl := rel_str.1 hy
  subst e'
  obtain rfl := arr_of e
  obtain ⟨hlen', hx'⟩ := hm.heap.holds _ (List.mem_singleton.2 rfl)
  rcases hx' with ⟨rfl, h0⟩ | ⟨bl, cap, Cs, el, fz, rfl, hb, hcs, hnc, hl, hfz⟩
  · have : l = [] := List.eq_nil_of_length_eq_zero h0
    subst this
    exact join_none
  · exact join_calls (o := 0) hb (by simpa using hl) hnc hN hlen
theorem strings_Join {G : Glo} (l : List (List UInt8)) (sep : List UInt8) (hN : l.length ≤ 140737488355328) (hlen : (Lib.join l sep).length ≤ 140737488355328) :
    FnIs Tryd.prog G 14 [.list 1 l.length (strsF l), .str sep] (.str (Lib.join l sep)) := by
  refine fnis_of_calls rfl Tryd.call14 ?_
  rintro R args ⟨x, t, e, hx, y, t', e', hy, rfl⟩ w hG hs
  obtain rfl := rel_str.1 hy
  subst e'
  obtain ⟨a, cap, rfl, hcap, h7⟩ := list_strs hs hx
  obtain rfl := arr_of e
  rcases h7 with rfl | ⟨b, o, C, e, fz, rfl, hb, hl⟩
  · exact join_none
  · exact join_calls hb hl hcap hN hlen
end Go.Proofs.YtmgkpbgfkjedeaaDoor
namespace Go.Proofs.YtmgkpbgfkjedeaaDoor
open Go Go.RowKit
inductive Js where
  | mk (k : Int) (t : List UInt8) (ks : List (List UInt8)) (l : List Js)
def Js.k : Js → Int | .mk k _ _ _ => k
def Js.t : Js → List UInt8 | .mk _ t _ _ => t
def Js.ks : Js → List (List UInt8) | .mk _ _ ks _ => ks
def Js.l : Js → List Js | .mk _ _ _ l => l
def Js.z : Js := .mk 0 [] [] []
abbrev atJ (l : List Js) (i : Nat) : Js := l.getD i Js.z
/-- A list of trees of so many levels. -/
def jsF : Nat → List Js → Nat → AVal
  | 0, _, _ => .bool false
  | d + 1, l, i => .agg [.int .i64 (atJ l i).k, .str (atJ l i).t, .list 1 (atJ l i).ks.length (strsF (atJ l i).ks), .list 4 (atJ l i).l.length (jsF d (atJ l i).l)]
/-- A tree; what is in it has so many levels. -/
abbrev Js.C (d : Nat) (x : Js) : List AVal := [.int .i64 x.k, .str x.t, .list 1 x.ks.length (strsF x.ks), .list 4 x.l.length (jsF d x.l)]
def Js.R (d : Nat) (x : Js) : AVal := .agg (Js.C d x)
theorem jsF_at (d : Nat) (l : List Js) (i : Nat) : jsF (d + 1) l i = Js.R d (atJ l i) := rfl
def Js.le : Nat → Js → Prop
  | 0, x => x.l = []
  | d + 1, x => ∀ i, i < x.l.length → Js.le d (atJ x.l i)
theorem le_pos {d : Nat} {x : Js} (h : Js.le d x) {i : Nat} (hi : i < x.l.length) : ∃ e, d = e + 1 ∧ Js.le e (atJ x.l i) := by
  cases d with
  | zero => rw [show x.l = [] from h] at hi; cases hi
  | succ d => exact ⟨d, rfl, h i hi⟩
/-- How much a tree holds. -/
def Js.sz : Nat → Js → Nat
  | 0, x => x.t.length + x.ks.length + Lib.lens x.ks + 1
  | d + 1, x => x.t.length + x.ks.length + Lib.lens x.ks + 1 + ((List.range x.l.length).map fun i => Js.sz d (atJ x.l i)).sum
/-! ## What is wrong with a tree -/
/-- A key twice. -/
def twoK (l : List (List UInt8)) : Bool := (List.range l.length).any fun i => (l.take i).contains (l.getD i [])
theorem two_at {l : List (List UInt8)} {k : Nat} (hk : k < l.length) (h : l.getD k [] ∈ l.take k) : twoK l = true := by
  unfold twoK
  rw [List.any_eq_true]
  exact ⟨k, List.mem_range.2 hk, by simpa using h⟩
theorem two_no {l : List (List UInt8)} (h : ∀ k, k < l.length → l.getD k [] ∉ l.take k) : twoK l = false := by
  unfold twoK
  rw [List.any_eq_false]
  intro k hk
  have := h k (List.mem_range.1 hk)
  simpa using this
/-- A tree has what its kind has not, or its kind is none. -/
def argJ (x : Js) : Prop := ¬ (1 ≤ x.k ∧ x.k ≤ 7) ∨ (x.t ≠ [] ∧ x.k ≠ 4 ∧ x.k ≠ 5) ∨ (x.ks ≠ [] ∧ x.k ≠ 7) ∨ (x.l ≠ [] ∧ x.k ≠ 6 ∧ x.k ≠ 7) ∨ (x.k = 7 ∧ x.ks.length ≠ x.l.length)
def formJ (x : Js) : Prop := (x.k = 4 ∧ (x.t = [] ∨ numI x.t ≠ x.t.length)) ∨ 0 ≤ badI x.t ∨ ∃ k ∈ x.ks, 0 ≤ badI k
noncomputable def nodeE (x : Js) : Int := open Classical in if argJ x then 1 else if formJ x then 3 else if twoK x.ks then 9 else 0
/-- The first that is not nought of so many. -/
def fsJ (f : Nat → Int) : Nat → Int
  | 0 => 0
  | n + 1 => if fsJ f n ≠ 0 then fsJ f n else f n
theorem fsJ_none {f : Nat → Int} : ∀ {n : Nat}, (∀ j, j < n → f j = 0) → fsJ f n = 0
  | 0, _ => rfl
  | n + 1, h => by rw [fsJ, if_neg (by rw [fsJ_none fun j hj => h j (by omega)]; simp)]; exact h n (by omega)
theorem fsJ_at {f : Nat → Int} {k : Nat} : ∀ {n : Nat}, k < n → (∀ j, j < k → f j = 0) → f k ≠ 0 → fsJ f n = f k
  | 0, h, _, _ => absurd h (Nat.not_lt_zero _)
  | n + 1, h, h1, h2 => by
    rw [fsJ]
    rcases Nat.lt_or_ge k n with g | g
    · rw [fsJ_at g h1 h2, if_pos h2]
    · obtain rfl : k = n := by omega
      rw [fsJ_none h1, if_neg (by simp)]
theorem fsJ_zero {f : Nat → Int} : ∀ {n : Nat}, fsJ f n = 0 → ∀ j, j < n → f j = 0
  | 0, _, j, h => absurd h (Nat.not_lt_zero _)
  | n + 1, h, j, hj => by
    rw [fsJ] at h
    split at h
    · rename_i g; exact absurd h g
    · rename_i g
      rcases Nat.lt_or_ge j n with k | k
      · exact fsJ_zero (Decidable.not_not.1 g) j k
      · obtain rfl : j = n := by omega
        exact h
/-- What is wrong with a tree that may have so many levels. -/
noncomputable def jrE : Nat → Js → Int
  | 0, _ => 4
  | n + 1, x => if nodeE x ≠ 0 then nodeE x else fsJ (fun i => jrE n (atJ x.l i)) x.l.length
theorem jr_arg {n : Nat} {x : Js} (h : argJ x) : jrE (n + 1) x = 1 := by
  have e : nodeE x = 1 := by unfold nodeE; rw [if_pos h]
  rw [jrE, e, if_pos (by decide)]
theorem jr_form {n : Nat} {x : Js} (h : ¬ argJ x) (h1 : formJ x) : jrE (n + 1) x = 3 := by
  have e : nodeE x = 3 := by unfold nodeE; rw [if_neg h, if_pos h1]
  rw [jrE, e, if_pos (by decide)]
theorem jr_two {n : Nat} {x : Js} (h : ¬ argJ x) (h1 : ¬ formJ x) (h2 : twoK x.ks = true) : jrE (n + 1) x = 9 := by
  have e : nodeE x = 9 := by unfold nodeE; rw [if_neg h, if_neg h1, if_pos h2]
  rw [jrE, e, if_pos (by decide)]
theorem node_0 {x : Js} (h : ¬ argJ x) (h1 : ¬ formJ x) (h2 : twoK x.ks = false) : nodeE x = 0 := by
  unfold nodeE; rw [if_neg h, if_neg h1, if_neg (by rw [h2]; decide)]
theorem jr_kid {n : Nat} {x : Js} (h : ¬ argJ x) (h1 : ¬ formJ x) (h2 : twoK x.ks = false) : jrE (n + 1) x = fsJ (fun i => jrE n (atJ x.l i)) x.l.length := by
  rw [jrE, node_0 h h1 h2, if_neg (by simp)]
/-- What a right tree is. -/
theorem jr_ok {n : Nat} {x : Js} (h : jrE (n + 1) x = 0) : (1 ≤ x.k ∧ x.k ≤ 7) ∧ (x.k = 7 → x.ks.length = x.l.length) ∧ ∀ i, i < x.l.length → jrE n (atJ x.l i) = 0 := by
  by_cases h1 : argJ x
  · rw [jr_arg h1] at h; cases h
  · by_cases h2 : formJ x
    · rw [jr_form h1 h2] at h; cases h
    · cases h3 : twoK x.ks with
      | true => rw [jr_two h1 h2 h3] at h; cases h
      | false =>
        rw [jr_kid h1 h2 h3] at h
        unfold argJ at h1
        exact ⟨by omega, fun h7 => by omega, fun i hi => fsJ_zero h i hi⟩
/-! ## A tree as text -/
/-- Things with commas between. -/
def joinC : List (List UInt8) → List UInt8
  | [] => []
  | [x] => x
  | x :: l => x ++ 44 :: joinC l
def jwS : Nat → Js → List UInt8
  | 0, _ => []
  | n + 1, x => if x.k = 1 then [110, 117, 108, 108] else if x.k = 2 then [102, 97, 108, 115, 101] else if x.k = 3 then [116, 114, 117, 101]
    else if x.k = 4 then x.t else if x.k = 5 then qtS x.t
    else (if x.k = 7 then 123 else 91) :: joinC ((List.range x.l.length).map fun i => (if x.k = 7 then qtS (x.ks.getD i []) ++ [58] else []) ++ jwS n (atJ x.l i)) ++ [if x.k = 7 then 125 else 93]
theorem joinC_snoc : ∀ (l : List (List UInt8)) (x : List UInt8), joinC (l ++ [x]) = if l = [] then x else joinC l ++ 44 :: x
  | [], x => rfl
  | [a], x => rfl
  | a :: b :: l, x => by
    have ih := joinC_snoc (b :: l) x
    rw [if_neg (by simp)] at ih ⊢
    show a ++ 44 :: joinC (b :: l ++ [x]) = (a ++ 44 :: joinC (b :: l)) ++ 44 :: x
    rw [ih]
    simp
theorem joinC_len (l : List (List UInt8)) : (joinC l).length ≤ Lib.lens l + l.length := by
  induction l with
  | nil => exact Nat.zero_le _
  | cons x l ih =>
    have e1 : Lib.lens (x :: l) = x.length + Lib.lens l := by simp [Lib.lens]
    rw [e1, List.length_cons]
    cases l with
    | nil => show x.length ≤ _; omega
    | cons y l =>
      show (x ++ 44 :: joinC (y :: l)).length ≤ _
      rw [List.length_append, List.length_cons]
      omega
theorem joinC_lib (l : List (List UInt8)) : Lib.join l [44] = joinC l := by
  induction l with
  | nil => rfl
  | cons x l ih =>
    cases l with
    | nil => simp [Lib.join, joinC]
    | cons y l =>
      show _ = x ++ 44 :: joinC (y :: l)
      rw [← ih]
      simp [Lib.join, List.intercalate]
end Go.Proofs.YtmgkpbgfkjedeaaDoor
namespace Go.Proofs.YtmgkpbgfkjedeaaDoor
open Go Go.RowKit
abbrev pJ (b : Nat) : Value := .pointer (some ⟨b, 0, none⟩)
abbrev inZ (b : Nat) (i : Int) : HEnt := .cells b (some 3) [.int .i64 i]
abbrev inC (b i : Nat) : HEnt := inZ b (i : Nat)
abbrev dgF (b : Nat) (s : List UInt8) : AVal := .func (.func 40) [] [.own 0 (pJ b), .rop [.str s] 0]
/-- Where a number's whole part ends. -/
def intS (s : List UInt8) : Nat := if mnS s < s.length ∧ byteAt s (mnS s) = 48 then mnS s + 1 else dgE s (mnS s)
theorem numI_int (s : List UInt8) : numI s = if intS s = mnS s then 0 else frS s (intS s) := by
  unfold numI intS
  split
  · rw [if_neg (by omega)]
  · rfl
def frP (s : List UInt8) (b : Nat) : Nat := if b < s.length ∧ byteAt s b = 46 then dgE s (b + 1) else b
/-! ## The reference's machine, by classes of bytes -/
def nmC (c : Nat) : Nat := if c = 45 then 1 else if c = 48 then 2 else if 49 ≤ c ∧ c ≤ 57 then 3 else if c = 46 then 4 else if c = 101 ∨ c = 69 then 5 else if c = 43 then 6 else 0
def nmK (t k : Nat) : Nat :=
  if t = 0 ∧ k = 1 then 1
  else if (t = 0 ∨ t = 1) ∧ k = 2 then 2
  else if (t = 0 ∨ t = 1 ∨ t = 3) ∧ (k = 2 ∨ k = 3) then 3
  else if (t = 2 ∨ t = 3) ∧ k = 4 then 4
  else if (t = 4 ∨ t = 5) ∧ (k = 2 ∨ k = 3) then 5
  else if (t = 2 ∨ t = 3 ∨ t = 5) ∧ k = 5 then 6
  else if t = 6 ∧ (k = 6 ∨ k = 1) then 7
  else if (t = 6 ∨ t = 7 ∨ t = 8) ∧ (k = 2 ∨ k = 3) then 8
  else 9
theorem nm_cls (c : Nat) : (c = 45 ∧ nmC c = 1) ∨ (c = 48 ∧ nmC c = 2) ∨ ((49 ≤ c ∧ c ≤ 57) ∧ nmC c = 3) ∨ (c = 46 ∧ nmC c = 4) ∨ (c = 101 ∧ nmC c = 5) ∨ (c = 69 ∧ nmC c = 5) ∨ (c = 43 ∧ nmC c = 6) ∨ ((c < 43 ∨ c = 44 ∨ c = 47) ∧ nmC c = 0) ∨ (58 ≤ c ∧ c ≠ 101 ∧ c ≠ 69 ∧ nmC c = 0) := by
  unfold nmC
  (repeat' split) <;> omega
theorem nmT_K (t c : Nat) : nmT t c = nmK t (nmC c) := by
  have h := nm_cls c
  have h1 : (48 ≤ c ∧ c ≤ 57) ↔ (nmC c = 2 ∨ nmC c = 3) := by omega
  have h2 : c = 45 ↔ nmC c = 1 := by omega
  have h3 : c = 48 ↔ nmC c = 2 := by omega
  have h4 : c = 46 ↔ nmC c = 4 := by omega
  have h5 : (c = 101 ∨ c = 69) ↔ nmC c = 5 := by omega
  have h6 : (c = 43 ∨ nmC c = 1) ↔ (nmC c = 6 ∨ nmC c = 1) := by omega
  unfold nmT nmK
  simp only [h1, h2, h3, h4, h5, h6]
def stN : Nat → List UInt8
  | 0 => [115, 116, 97, 114, 116]
  | 1 => [109, 105, 110, 117, 115]
  | 2 => [122, 101, 114, 111]
  | 3 => [105, 110, 116]
  | 4 => [100, 111, 116]
  | 5 => [102, 114, 97, 99]
  | 6 => [101]
  | 7 => [115, 105, 103, 110]
  | _ => [101, 120, 112]
set_option maxRecDepth 20000
set_option maxHeartbeats 4000000
set_option linter.unusedSimpArgs false
set_option linter.unusedVariables false
attribute [local irreducible] AWp AOps byteAt SrcOK OrOk GloAll FnSpec
attribute [local irreducible] numI
theorem num_digits {G : Glo} (b : Nat) (s : List UInt8) (i : Nat) (hl : s.length ≤ 4611686018427387904) (hi : i ≤ s.length) : FnSpec Tryd.prog G 40 [.raw (pJ b), .rop [.str s] 0] [inC b i] (fun r H => r = .ret (.bool (ltB (i : Int) (dgE s i : Nat))) ∧ H = [inC b (dgE s i)]) := by
  have hGL : GloAll G [] := gloAll_nil
  refine fn_own [(0, 0, pJ b)] Tryd.func40 Tryd.call40 rfl rfl rfl rfl (by repeat (first | exact trivial | refine And.intro ⟨rfl, rfl⟩ ?_)) ?_
  intro C hC
  refine aw_code hC hGL (xn1 ?_)
  intros
  refine lp hC hGL (fun k : Nat => [(0, .own 0 (pJ b)), (1, .rop [.str s] 0), (3, .int .i64 (i : Nat))]) (fun k => [inC b k]) (fun k => i ≤ k ∧ k ≤ s.length ∧ dgE s k = dgE s i) (fun k => s.length - k) i ⟨Nat.le_refl _, hi, rfl⟩ env_w rfl ?_
  rintro k ⟨k1, k2, k3⟩
  by_cases h : k < s.length ∧ 48 ≤ byteAt s k ∧ byteAt s k ≤ 57
  · have e := dgE_go h.1 h.2.1 h.2.2
    obtain ⟨h1, h2, h3⟩ := h
    refine xn1 ?_
    intros
    exact nxs (k + 1) ⟨by omega, by omega, by omega⟩ (by omega) env_w sub_w
  · have e := dgE_no h
    rw [← k3, e]
    by_cases h1 : k < s.length
    · by_cases h2 : 48 ≤ byteAt s k
      · have h3 : ¬ byteAt s k ≤ 57 := fun h3 => h ⟨h1, h2, h3⟩
        exact xn0
      · exact xn0
    · exact xn0
theorem json_number {G : Glo} (s : List UInt8) (hl : s.length ≤ 4611686018427387904) : FnIs Tryd.prog G 30 [.str s] (.int .i64 (numI s : Nat)) := by
  rw [numI_int]
  have hGL : GloAll G [] := gloAll_nil
  refine fn_a Tryd.func30 Tryd.call30 rfl rfl rfl rfl ?_
  intro C hC
  refine cut hC hGL [(1, .rop [.str s] 0), (2, .int .i64 0)] [] True xn0 fun _ => ?_
  refine cuty hC hGL (fun b : Nat => [(1, .rop [.str s] 0), (2, .int .i64 0), (3, .own 0 (pJ b))]) (fun b => [inC b 0]) (fun _ => True) ?_ ?_
  · refine xn1 ?_
    intro b
    exact cy b trivial
  intro b _
  have hD := fun i hi => num_digits (G := G) b s i hl hi
  refine cut hC hGL [(1, .rop [.str s] 0), (2, .int .i64 0), (3, .own 0 (pJ b)), (4, dgF b s)] [inC b 0] True xn0 fun _ => ?_
  refine cut hC hGL [(1, .rop [.str s] 0), (2, .int .i64 0), (3, .own 0 (pJ b)), (4, dgF b s)] [inC b (mnS s)] True ?_ fun _ => ?_
  · unfold mnS
    by_cases h : 0 < s.length ∧ byteAt s 0 = 45
    · rw [if_pos h]
      obtain ⟨h1, h2⟩ := h
      exact xn0
    · rw [if_neg h]
      by_cases h1 : 0 < s.length
      · have h2 : byteAt s 0 ≠ 45 := fun h2 => h ⟨h1, h2⟩
        exact xn0
      · exact xn0
  have hm := mnS_le s
  by_cases hn : intS s = mnS s
  · rw [if_pos hn]
    unfold intS at hn
    generalize mnS s = m at *
    by_cases h : m < s.length ∧ byteAt s m = 48
    · rw [if_pos h] at hn; omega
    · rw [if_neg h] at hn
      have hD := hD m (by omega)
      rw [hn] at hD
      by_cases h1 : m < s.length
      · have h2 : byteAt s m ≠ 48 := fun h2 => h ⟨h1, h2⟩
        exact aw_code hC hGL xn0
      · exact aw_code hC hGL xn0
  rw [if_neg hn]
  have hi : intS s ≤ s.length := by
    have := (dgE_ge s (mnS s)).2
    unfold intS
    split <;> omega
  refine cut hC hGL [(1, .rop [.str s] 0), (3, .own 0 (pJ b)), (4, dgF b s)] [inC b (intS s)] True ?_ fun _ => ?_
  · unfold intS at *
    generalize mnS s = m at *
    by_cases h : m < s.length ∧ byteAt s m = 48
    · rw [if_pos h]
      obtain ⟨h1, h2⟩ := h
      exact xn0
    · rw [if_neg h] at *
      have hD := hD m (by omega)
      have hg := (dgE_ge s m).1
      by_cases h1 : m < s.length
      · have h2 : byteAt s m ≠ 48 := fun h2 => h ⟨h1, h2⟩
        exact xn0
      · exact xn0
  clear hm hn
  generalize intS s = a at *
  have hD1 : a + 1 ≤ s.length → FnSpec Tryd.prog G 40 [.raw (pJ b), .rop [.str s] 0] [inZ b ((a : Int) + 1)] (fun r H => r = .ret (.bool (ltB ((a : Int) + 1) (dgE s (a + 1) : Nat))) ∧ H = [inC b (dgE s (a + 1))]) := hD (a + 1)
  have hg1 := dgE_ge s (a + 1)
  by_cases hf : (a < s.length ∧ byteAt s a = 46) ∧ dgE s (a + 1) = a + 1
  · obtain ⟨h, h3⟩ := hf
    rw [show frS s a = a by unfold frS; rw [if_pos h, if_pos h3]]
    obtain ⟨h1, h2⟩ := h
    have hD1 := hD1 (by omega)
    rw [h3] at hD1
    exact aw_code hC hGL xn0
  have hf2 : frS s a = exS s (frP s a) := by
    unfold frS frP
    by_cases h : a < s.length ∧ byteAt s a = 46
    · rw [if_pos h, if_pos h, if_neg fun h3 => hf ⟨h, h3⟩]
    · rw [if_neg h, if_neg h]
  have hf3 : frP s a ≤ s.length := by unfold frP; split <;> omega
  rw [hf2]
  refine cut hC hGL [(1, .rop [.str s] 0), (3, .own 0 (pJ b)), (4, dgF b s)] [inC b (frP s a)] True ?_ fun _ => ?_
  · unfold frP
    by_cases h : a < s.length ∧ byteAt s a = 46
    · have h3 : dgE s (a + 1) ≠ a + 1 := fun h3 => hf ⟨h, h3⟩
      rw [if_pos h]
      obtain ⟨h1, h2⟩ := h
      have hD1 := hD1 (by omega)
      exact xn0
    · rw [if_neg h]
      by_cases h1 : a < s.length
      · have h2 : byteAt s a ≠ 46 := fun h2 => h ⟨h1, h2⟩
        exact xn0
      · exact xn0
  clear hf hf2 hg1 hD1
  generalize frP s a = c at *
  unfold exS
  by_cases h : c < s.length ∧ (byteAt s c = 101 ∨ byteAt s c = 69)
  · rw [if_pos h]
    obtain ⟨h1, h2⟩ := h
    have hs := sgS_le s (c + 1)
    have hg := (dgE_ge s (sgS s (c + 1))).1
    have hD := hD (sgS s (c + 1)) (by omega)
    unfold sgS at *
    by_cases h3 : c + 1 < s.length ∧ (byteAt s (c + 1) = 43 ∨ byteAt s (c + 1) = 45)
    · rw [if_pos h3] at *
      obtain ⟨h3, h4⟩ := h3
      change FnSpec _ _ _ _ [inZ b ((c : Int) + 1 + 1)] _ at hD
      by_cases h5 : dgE s (c + 1 + 1) = c + 1 + 1
      · rw [if_pos h5]
        rw [h5] at hD
        rcases h2 with h2 | h2 <;> rcases h4 with h4 | h4 <;> exact aw_code hC hGL xn0
      · rw [if_neg h5]
        rcases h2 with h2 | h2 <;> rcases h4 with h4 | h4 <;> exact aw_code hC hGL xn0
    · rw [if_neg h3] at *
      change FnSpec _ _ _ _ [inZ b ((c : Int) + 1)] _ at hD
      by_cases h6 : c + 1 < s.length
      · have h7 : byteAt s (c + 1) ≠ 43 ∧ byteAt s (c + 1) ≠ 45 := ⟨fun h2 => h3 ⟨h6, .inl h2⟩, fun h2 => h3 ⟨h6, .inr h2⟩⟩
        by_cases h5 : dgE s (c + 1) = c + 1
        · rw [if_pos h5]
          rw [h5] at hD
          rcases h2 with h2 | h2 <;> exact aw_code hC hGL xn0
        · rw [if_neg h5]
          rcases h2 with h2 | h2 <;> exact aw_code hC hGL xn0
      · by_cases h5 : dgE s (c + 1) = c + 1
        · rw [if_pos h5]
          rw [h5] at hD
          rcases h2 with h2 | h2 <;> exact aw_code hC hGL xn0
        · rw [if_neg h5]
          rcases h2 with h2 | h2 <;> exact aw_code hC hGL xn0
  · rw [if_neg h]
    by_cases h1 : c < s.length
    · have h2 : byteAt s c ≠ 101 ∧ byteAt s c ≠ 69 := ⟨fun h2 => h ⟨h1, .inl h2⟩, fun h2 => h ⟨h1, .inr h2⟩⟩
      exact aw_code hC hGL xn0
    · exact aw_code hC hGL xn0
theorem ref_numeral {G : Glo} (s : List UInt8) (hl : s.length ≤ 4611686018427387904) : FnIs Tryd.prog G 12 [.str s] (.int .i64 (numI s : Nat)) := by
  rw [← nm_0]
  have hGL : GloAll G [] := gloAll_nil
  refine fn_a Tryd.func12 Tryd.call12 rfl rfl rfl rfl ?_
  intro C hC
  refine aw_code hC hGL (xn1 ?_)
  intro bl cap _
  refine lp hC hGL (fun x : Nat × Nat × Nat => [(3, .int .i64 (x.2.2 : Nat)), (4, .str (stN x.2.1)), (9, .own 0 (.slice (some ⟨bl, 0, none⟩) s.length cap)), (10, .int .i64 (s.length : Nat)), (11, .int .i64 (x.1 : Nat))]) (fun _ => [.buf bl s cap]) (fun x => x.1 ≤ s.length ∧ x.2.1 ≤ 8 ∧ x.2.2 ≤ x.1 ∧ nmR s x.1 x.2.1 x.2.2 = nmR s 0 0 0) (fun x => s.length - x.1) (0, 0, 0) ⟨Nat.zero_le _, by decide, Nat.le_refl _, rfl⟩ env_w rfl ?_
  rintro ⟨i, t, b⟩ ⟨h1, h2, h3, h4⟩
  dsimp only at h1 h2 h3 h4 ⊢
  rw [← h4]
  by_cases h : i < s.length
  · have hK := nmT_K t (byteAt s i)
    have hs := nmR_stop (t := t) (best := b) h
    have hg := fun t' => nmR_go (t := t) (best := b) (t' := t') h
    rw [hK] at hs hg
    refine Exists.elim ⟨nmK t (nmC (byteAt s i)), rfl⟩ fun u (hu : nmK t (nmC (byteAt s i)) = u) => ?_
    have hb : nmB u i b ≤ i + 1 := by unfold nmB; split <;> omega
    have ht : t = 0 ∨ t = 1 ∨ t = 2 ∨ t = 3 ∨ t = 4 ∨ t = 5 ∨ t = 6 ∨ t = 7 ∨ t = 8 := by omega
    clear hK h2
    rcases nm_cls (byteAt s i) with ⟨hc, e⟩ | ⟨hc, e⟩ | ⟨hc, e⟩ | ⟨hc, e⟩ | ⟨hc, e⟩ | ⟨hc, e⟩ | ⟨hc, e⟩ | ⟨hc, e⟩ | ⟨hc, hc1, hc2, e⟩
    all_goals
      rw [e] at hs hg hu
      rcases ht with rfl | rfl | rfl | rfl | rfl | rfl | rfl | rfl | rfl
    all_goals
      refine xn1 ?_
      intros
      first
        | (rw [hs rfl]; exact rt_w)
        | (refine nxs (i + 1, u, nmB u i b) ⟨h, ?_, hb, ?_⟩ (by dsimp only; omega) ?_ sub_w
           · subst hu; dsimp only; decide
           · exact ((hg u hu (by subst hu; decide)).symm.trans h4).trans h4.symm
           · subst hu; exact env_w)
  · rw [nmR_end h]
    exact xn0
end Go.Proofs.YtmgkpbgfkjedeaaDoor
namespace Go.Proofs.YtmgkpbgfkjedeaaDoor
open Go Go.RowKit
def jErr (e : Int) : Err := if e = 0 then .none else .errno e
theorem jErr_ne {e : Int} (h : e ≠ 0) : jErr e = .errno e := if_neg h
theorem jErr_e (e : Int) : (jErr e).e = e ∧ (jErr e).p = -1 := by unfold jErr; split <;> rename_i h <;> first | exact ⟨h.symm, rfl⟩ | exact ⟨rfl, rfl⟩
/-- A set of texts. -/
def mapT (L : List (List UInt8)) : List (AVal × AVal) := L.map fun s => (.str s, .bool true)
theorem mapT_push (L : List (List UInt8)) (s : List UInt8) : mapT L ++ [(AVal.str s, AVal.bool true)] = mapT (L ++ [s]) := by unfold mapT; rw [List.map_append]; rfl
theorem set_look (s : List UInt8) {z : Nat → Prop} {f : AVal × AVal → List (AVal × AVal) → (Nat → Prop) → Nat → Prop} {L : List (List UInt8)} (h1 : s ∈ L → f (.str s, .bool true) [] (fun _ => True) 0) (h2 : s ∉ L → ∀ i, z i)
    (hf : ∀ t r ih i, (seqB s t = true → f (.str s, .bool true) [] (fun _ => True) 0) → (seqB s t = false → ih (i + 1)) → f (.str t, .bool true) r ih i := by exact fun _ _ _ _ h1 h2 => (⟨fun e => (h1 e).1 (seqB_t.2 rfl), h2⟩ : Sc _ _ _)) :
    List.rec (motive := fun _ => Nat → Prop) z f (mapT L) 0 := by
  have g : ∀ (L : List (List UInt8)) (i : Nat), (s ∈ L → f (.str s, .bool true) [] (fun _ => True) 0) → (s ∉ L → ∀ i, z i) → List.rec (motive := fun _ => Nat → Prop) z f (mapT L) i := by
    intro L
    induction L with
    | nil => exact fun i _ h => h (by simp) i
    | cons x L ih =>
      intro i k1 k2
      refine hf x (mapT L) _ i (fun e => k1 ?_) (fun e => ih (i + 1) (fun h => k1 (List.mem_cons_of_mem _ h)) fun h => k2 ?_)
      · rw [seqB_t.1 e]; exact List.mem_cons_self
      · rw [List.mem_cons]
        rintro (h3 | h3)
        · exact absurd h3 (seqB_f.1 e)
        · exact h h3
  exact g L 0 h1 h2
theorem set_lay (s : List UInt8) {z : Nat → Prop} {f : AVal × AVal → List (AVal × AVal) → (Nat → Prop) → Nat → Prop} {L : List (List UInt8)} (hs : s ∉ L) (h2 : ∀ i, z i)
    (hf : ∀ t r ih i, (seqB s t = false → ih (i + 1)) → seqB s t = false → f (.str t, .bool true) r ih i := by exact fun _ _ _ _ h1 h => (⟨fun e => absurd (e.symm.trans h) (by decide), h1⟩ : Sc _ _ _)) :
    List.rec (motive := fun _ => Nat → Prop) z f (mapT L) 0 := by
  have g : ∀ (L : List (List UInt8)) (i : Nat), s ∉ L → List.rec (motive := fun _ => Nat → Prop) z f (mapT L) i := by
    intro L
    induction L with
    | nil => exact fun i _ => h2 i
    | cons x L ih =>
      intro i k
      rw [List.mem_cons, not_or] at k
      exact hf x (mapT L) _ i (fun _ => ih (i + 1) k.2) (seqB_f.2 k.1)
  exact g L 0 hs
/-- How long the texts of a tree of so many levels may be. -/
def Js.fit : Nat → Js → Prop
  | 0, x => x.t.length ≤ 1048576 ∧ x.ks.length ≤ 1048576 ∧ Lib.lens x.ks ≤ 1048576 ∧ x.l.length ≤ 1048576
  | d + 1, x => (x.t.length ≤ 1048576 ∧ x.ks.length ≤ 1048576 ∧ Lib.lens x.ks ≤ 1048576 ∧ x.l.length ≤ 1048576) ∧ ∀ i, i < x.l.length → Js.fit d (atJ x.l i)
theorem fit_1 {d : Nat} {x : Js} (h : Js.fit d x) : x.t.length ≤ 1048576 ∧ x.ks.length ≤ 1048576 ∧ Lib.lens x.ks ≤ 1048576 ∧ x.l.length ≤ 1048576 := by
  cases d with
  | zero => exact h
  | succ d => exact h.1
theorem lens_atJ (l : List (List UInt8)) (i : Nat) : (l.getD i []).length ≤ Lib.lens l := by
  induction l generalizing i with
  | nil => simp
  | cons x l ih =>
    have e1 : Lib.lens (x :: l) = x.length + Lib.lens l := by simp [Lib.lens]
    rw [e1]
    cases i with
    | zero => simp
    | succ i => have := ih i; rw [List.getD_cons_succ]; omega
/-! ## What a kind has -/
def tJ (x : Js) : Bool := if x.k = 4 ∨ x.k = 5 then true else seqB x.t []
def kJ (x : Js) : Bool := if x.k = 7 then true else eqB (x.ks.length : Nat) 0
def lJ (x : Js) : Bool := if x.k = 6 then true else if x.k = 7 then eqB (x.ks.length : Nat) (x.l.length : Nat) else eqB (x.l.length : Nat) 0
theorem tJ_1 {x : Js} (h : ¬ (x.k = 4 ∨ x.k = 5)) : tJ x = seqB x.t [] := if_neg h
theorem tJ_2 {x : Js} (h : x.k = 4 ∨ x.k = 5) : tJ x = true := if_pos h
theorem kJ_1 {x : Js} (h : ¬ x.k = 7) : kJ x = eqB (x.ks.length : Nat) 0 := if_neg h
theorem kJ_2 {x : Js} (h : x.k = 7) : kJ x = true := if_pos h
theorem lJ_1 {x : Js} (h : x.k = 6) : lJ x = true := if_pos h
theorem lJ_2 {x : Js} (h : x.k = 7) : lJ x = eqB (x.ks.length : Nat) (x.l.length : Nat) := by unfold lJ; rw [if_neg (by omega), if_pos h]
theorem lJ_3 {x : Js} (h : ¬ (x.k = 6 ∨ x.k = 7)) : lJ x = eqB (x.l.length : Nat) 0 := by unfold lJ; rw [if_neg (by omega), if_neg (by omega)]
theorem arg_J {x : Js} (hk : 1 ≤ x.k ∧ x.k ≤ 7) : argJ x ↔ ¬ (tJ x = true ∧ kJ x = true ∧ lJ x = true) := by
  have e1 : ∀ l : List UInt8, l = [] ∨ l ≠ [] := fun l => by cases l <;> simp
  have h1 := e1 x.t
  have h2 : x.ks = [] ↔ x.ks.length = 0 := List.length_eq_zero_iff.symm
  have h3 : x.l = [] ↔ x.l.length = 0 := List.length_eq_zero_iff.symm
  have q1 : tJ x = true ↔ (x.t = [] ∨ x.k = 4 ∨ x.k = 5) := by
    by_cases h : x.k = 4 ∨ x.k = 5
    · rw [tJ_2 h]; simp [h]
    · rw [tJ_1 h, seqB_t]; simp [h]
  have q2 : kJ x = true ↔ (x.ks = [] ∨ x.k = 7) := by
    by_cases h : x.k = 7
    · rw [kJ_2 h]; simp [h]
    · rw [kJ_1 h, eqB_t, h2]; simp [h]
  have q3 : lJ x = true ↔ ((x.l = [] ∧ x.k ≠ 7) ∨ x.k = 6 ∨ (x.k = 7 ∧ x.ks.length = x.l.length)) := by
    by_cases h : x.k = 6
    · rw [lJ_1 h]; simp [h]
    · by_cases h' : x.k = 7
      · rw [lJ_2 h', eqB_t]; simp [h']; omega
      · rw [lJ_3 (by omega), eqB_t, h3]; simp [h, h']
  rw [q1, q2, q3]
  unfold argJ
  simp only [ne_eq, h2, h3]
  by_cases ht : x.t = []
  · simp only [ht, not_true_eq_false, false_and, true_or, true_and, false_or]; omega
  · simp only [ht, not_false_eq_true, true_and, false_or]; omega
theorem keys_mem {l : List (List UInt8)} {k : Nat} (h : k < l.length) : l.getD k [] ∈ l := by
  rw [List.getD_eq_getElem?_getD, List.getElem?_eq_getElem h]
  exact List.getElem_mem h
set_option maxRecDepth 20000
set_option maxHeartbeats 4000000
set_option linter.unusedSimpArgs false
set_option linter.unusedVariables false
attribute [local irreducible] AWp AOps byteAt SrcOK OrOk GloAll FnSpec
attribute [local irreducible] numI badI tJ kJ lJ
theorem json_right {G : Glo} : ∀ (n d : Nat) (x : Js), n ≤ 12 → Js.le d x → Js.fit d x → FnIs Tryd.prog G 20 [Js.R d x, .int .i64 (13 - (n : Int))] (jErr (jrE n x)).A
  | 0, d, x, hn, hd, hx => by
    rw [show jrE 0 x = 4 from rfl, jErr_ne (by decide)]
    unfold Js.R
    simp only [Err.A, errA]
    have hGL : GloAll G [] := gloAll_nil
    refine fn_x Tryd.func20 Tryd.call20 rfl rfl rfl rfl hGL ?_
    intro C hC
    exact xw0
  | n + 1, d, x, hn, hd, hx => by
    unfold Js.R
    obtain ⟨f1, f2, f3, f4⟩ := fit_1 hx
    have hNum := json_number (G := G) x.t (by omega)
    have hBad := utf_Bad (G := G) x.t (by omega)
    have hBadK := fun i => utf_Bad (G := G) (x.ks.getD i []) (by have := lens_atJ x.ks i; omega)
    have hc1 := Tryd.call30
    have hc2 := Tryd.call31
    have hGL : GloAll G [] := gloAll_nil
    refine fn_a Tryd.func20 Tryd.call20 rfl rfl rfl rfl ?_
    intro C hC
    refine cut hC hGL [(1, .int .i64 (13 - ((n + 1 : Nat) : Int))), (2, .rop (Js.C d x) 0), (4, .raw .nilIface)] [] True xn0 fun _ => ?_
    refine cut hC hGL [(1, .int .i64 (13 - ((n + 1 : Nat) : Int))), (2, .rop (Js.C d x) 0), (4, .raw .nilIface)] [] True xn0 fun _ => ?_
    refine cut hC hGL [(1, .int .i64 (13 - ((n + 1 : Nat) : Int))), (2, .rop (Js.C d x) 0), (4, .raw .nilIface), (5, .bool (seqB x.t [])), (6, .bool (eqB (x.ks.length : Nat) 0)), (7, .bool (eqB (x.l.length : Nat) 0))] [] True xw0 fun _ => ?_
    by_cases hk : ¬ (1 ≤ x.k ∧ x.k ≤ 7)
    · rw [jr_arg (.inl hk), jErr_ne (by decide)]
      simp only [Err.A, errA]
      exact aw_code hC hGL xn0
    have hk : 1 ≤ x.k ∧ x.k ≤ 7 := Decidable.not_not.1 hk
    have hJ := arg_J hk
    refine cut hC hGL [(1, .int .i64 (13 - ((n + 1 : Nat) : Int))), (2, .rop (Js.C d x) 0), (4, .raw .nilIface), (5, .bool (tJ x)), (6, .bool (kJ x)), (7, .bool (lJ x))] [] True ?_ fun _ => ?_
    · have hk7 : x.k = 1 ∨ x.k = 2 ∨ x.k = 3 ∨ x.k = 4 ∨ x.k = 5 ∨ x.k = 6 ∨ x.k = 7 := by omega
      rcases hk7 with h | h | h | h | h | h | h
      all_goals
        first | rw [tJ_1 (by omega)] | rw [tJ_2 (by omega)]
        first | rw [kJ_1 (by omega)] | rw [kJ_2 (by omega)]
        first | rw [lJ_1 (by omega)] | rw [lJ_2 (by omega)] | rw [lJ_3 (by omega)]
        exact xw0
    generalize tJ x = bt at *
    generalize kJ x = bk at *
    generalize lJ x = bl at *
    by_cases ha : argJ x
    · rw [jr_arg ha, jErr_ne (by decide)]
      simp only [Err.A, errA]
      have hJ := hJ.1 ha
      cases bt with
      | false => exact aw_code hC hGL xn0
      | true =>
        cases bk with
        | false => exact aw_code hC hGL xn0
        | true =>
          cases bl with
          | false => exact aw_code hC hGL xn0
          | true => exact absurd ⟨rfl, rfl, rfl⟩ hJ
    obtain ⟨rfl, rfl, rfl⟩ := Decidable.not_not.1 fun h => ha (hJ.2 h)
    by_cases hf0 : (x.k = 4 ∧ (x.t = [] ∨ numI x.t ≠ x.t.length)) ∨ 0 ≤ badI x.t
    · rw [jr_form ha (by unfold formJ; exact hf0.imp id .inl), jErr_ne (by decide)]
      simp only [Err.A, errA]
      by_cases h4 : x.k = 4
      · by_cases h5 : x.t.length = 0
        · exact aw_code hC hGL xw0
        · have h5' : x.t ≠ [] := fun h => h5 (by rw [h]; rfl)
          by_cases h6 : numI x.t = x.t.length
          · have h7 : 0 ≤ badI x.t := by
              rcases hf0 with ⟨_, h | h⟩ | h
              · exact absurd h h5'
              · exact absurd h6 h
              · exact h
            exact aw_code hC hGL xw0
          · exact aw_code hC hGL xw0
      · have h7 : 0 ≤ badI x.t := by
          rcases hf0 with ⟨h, _⟩ | h
          · exact absurd h h4
          · exact h
        exact aw_code hC hGL xw0
    have hf1 : badI x.t < 0 := by omega
    refine cut hC hGL [(1, .int .i64 (13 - ((n + 1 : Nat) : Int))), (2, .rop (Js.C d x) 0), (4, .raw .nilIface)] [] True ?_ fun _ => ?_
    · by_cases h4 : x.k = 4
      · have h5' : x.t ≠ [] := fun h => hf0 (.inl ⟨h4, .inl h⟩)
        have h5 : x.t.length ≠ 0 := fun h => h5' (List.length_eq_zero_iff.1 h)
        have h6 : numI x.t = x.t.length := Decidable.not_not.1 fun h => hf0 (.inl ⟨h4, .inr h⟩)
        exact xw0
      · exact xw0
    clear hJ hNum hBad
    refine cuty hC hGL (fun b : Nat => [(1, .int .i64 (13 - ((n + 1 : Nat) : Int))), (2, .rop (Js.C d x) 0), (4, .raw .nilIface), (8, .own 0 (.map (some b)))]) (fun b => [.mp b []]) (fun _ => True) ?_ ?_
    · refine xn1 ?_
      intro b
      exact cy b trivial
    intro b8 _
    refine cuty hC hGL (fun _ : Unit => [(1, .int .i64 (13 - ((n + 1 : Nat) : Int))), (2, .rop (Js.C d x) 0), (4, .raw .nilIface), (8, .own 0 (.map (some b8)))]) (fun _ => [.mp b8 []]) (fun _ => ∀ j, j < x.ks.length → badI (x.ks.getD j []) < 0) ?_ ?_
    · refine xn1 ?_
      intros
      refine lp hC hGL (fun k : Nat => [(1, .int .i64 (13 - ((n + 1 : Nat) : Int))), (2, .rop (Js.C d x) 0), (4, .raw .nilIface), (8, .own 0 (.map (some b8))), (90, .list 1 x.ks.length (strsF x.ks)), (91, .int .i64 (x.ks.length : Nat)), (92, .int .i64 (k : Nat))]) (fun _ => [.mp b8 []]) (fun k => k ≤ x.ks.length ∧ ∀ j, j < k → badI (x.ks.getD j []) < 0) (fun k => x.ks.length - k) 0 ⟨Nat.zero_le _, fun j h => absurd h (Nat.not_lt_zero _)⟩ env_w rfl ?_
      rintro k ⟨k1, k2⟩
      by_cases h : k < x.ks.length
      · have hB := hBadK k
        by_cases hb : 0 ≤ badI (x.ks.getD k [])
        · rw [jr_form ha (.inr (.inr ⟨_, keys_mem h, hb⟩)), jErr_ne (by decide)]
          simp only [Err.A, errA]
          exact xn0
        · refine xn1 ?_
          intros
          exact nxs (k + 1) ⟨h, below_succ k2 (by omega)⟩ (by omega) env_w sub_w
      · obtain rfl : k = x.ks.length := by omega
        refine xn1 ?_
        intros
        exact cy () k2
    intro _ hbk
    have hf : ¬ formJ x := by
      rintro (h | h | ⟨k, h1, h2⟩)
      · exact hf0 (.inl h)
      · omega
      · obtain ⟨i, hi, rfl⟩ := List.getElem_of_mem h1
        have := hbk i hi
        rw [List.getD_eq_getElem?_getD, List.getElem?_eq_getElem hi, Option.getD_some] at this
        omega
    clear hBadK hbk hf0 hf1
    refine cuty hC hGL (fun _ : Unit => [(1, .int .i64 (13 - ((n + 1 : Nat) : Int))), (2, .rop (Js.C d x) 0), (4, .raw .nilIface)]) (fun _ => [.mp b8 (mapT x.ks)]) (fun _ => twoK x.ks = false) ?_ ?_
    · refine xn1 ?_
      intros
      refine lp hC hGL (fun k : Nat => [(1, .int .i64 (13 - ((n + 1 : Nat) : Int))), (2, .rop (Js.C d x) 0), (4, .raw .nilIface), (8, .own 0 (.map (some b8))), (102, .list 1 x.ks.length (strsF x.ks)), (103, .int .i64 (x.ks.length : Nat)), (104, .int .i64 (k : Nat))]) (fun k => [.mp b8 (mapT (x.ks.take k))]) (fun k => k ≤ x.ks.length ∧ ∀ j, j < k → x.ks.getD j [] ∉ x.ks.take j) (fun k => x.ks.length - k) 0 ⟨Nat.zero_le _, fun j h => absurd h (Nat.not_lt_zero _)⟩ env_w rfl ?_
      rintro k ⟨k1, k2⟩
      by_cases h : k < x.ks.length
      · have htk : x.ks.take k ++ [x.ks.getD k []] = x.ks.take (k + 1) := by
          rw [List.take_add_one, List.getElem?_eq_getElem h, List.getD_eq_getElem?_getD, List.getElem?_eq_getElem h]
          rfl
        have htw := fun hm => jr_two (n := n) ha hf (two_at h hm)
        have k3 := fun hm => below_succ (p := fun j => x.ks.getD j [] ∉ x.ks.take j) k2 hm
        refine xn1 ?_
        intros
        refine set_look (x.ks.getD k []) (fun hm => ?_) (fun hm _ => ?_)
        · rw [htw hm, jErr_ne (by decide)]
          simp only [Err.A, errA]
          refine ⟨fun _ => ?_, fun h => absurd (h.symm.trans (seqB_t.2 rfl)) (by decide)⟩
          exact xn0
        · have eL : mapT (x.ks.take k) ++ [(AVal.str (x.ks.getD k []), AVal.bool true)] = mapT (x.ks.take (k + 1)) := by rw [mapT_push, htk]
          refine xn1 ?_
          refine set_lay (x.ks.getD k []) hm (fun _ => ?_)
          refine xn1 ?_
          refine nxs (k + 1) ⟨h, k3 hm⟩ (by omega) env_w ?_
          show [HEnt.mp b8 (mapT (x.ks.take (k + 1)))].Sublist [HEnt.mp b8 (mapT (x.ks.take k) ++ [(AVal.str (x.ks.getD k []), AVal.bool true)])]
          rw [eL]
          exact List.Sublist.refl _
      · obtain rfl : k = x.ks.length := by omega
        refine xn1 ?_
        intros
        rw [List.take_length]
        exact cy () (two_no k2)
    intro _ ht
    have hkd := fun k h h1 h2 => fsJ_at (f := fun i => jrE n (atJ x.l i)) (k := k) (n := x.l.length) h h1 h2
    rw [jr_kid ha hf ht]
    have ih := fun e i h1 h2 => json_right (G := G) n e (atJ x.l i) (by omega) h1 h2
    have hK := fsJ_none (f := fun i => jrE n (atJ x.l i)) (n := x.l.length)
    generalize fsJ (fun i => jrE n (atJ x.l i)) x.l.length = E at *
    refine aw_code hC hGL (xn1 ?_)
    intros
    refine lp hC hGL (fun k : Nat => [(1, .int .i64 (13 - ((n + 1 : Nat) : Int))), (116, .list 4 x.l.length (jsF d x.l)), (117, .int .i64 (x.l.length : Nat)), (118, .int .i64 (k : Nat))]) (fun _ => [.mp b8 (mapT x.ks)]) (fun k => k ≤ x.l.length ∧ ∀ j, j < k → jrE n (atJ x.l j) = 0) (fun k => x.l.length - k) 0 ⟨Nat.zero_le _, fun j h => absurd h (Nat.not_lt_zero _)⟩ env_w rfl ?_
    rintro k ⟨k1, k2⟩
    by_cases h : k < x.l.length
    · obtain ⟨e, rfl, he⟩ := le_pos hd h
      have h1 := ih e k he (hx.2 k h)
      unfold Js.R at h1
      rw [show (13 - (n : Int)) = 13 - ((n + 1 : Nat) : Int) + 1 by omega] at h1
      have hkd := hkd k h k2
      by_cases h0 : jrE n (atJ x.l k) = 0
      · rw [h0, show jErr 0 = .none from rfl] at h1
        simp only [Err.A] at h1
        refine xn1 ?_
        intros
        exact nxs (k + 1) ⟨h, below_succ k2 h0⟩ (by omega) env_w sub_w
      · rw [hkd h0]
        rw [jErr_ne h0] at h1 ⊢
        simp only [Err.A, errA] at h1 ⊢
        exact xn0
    · obtain rfl : k = x.l.length := by omega
      rw [hK k2]
      exact xn0
end Go.Proofs.YtmgkpbgfkjedeaaDoor
namespace Go.Proofs.YtmgkpbgfkjedeaaDoor
open Go
set_option maxRecDepth 20000
set_option maxHeartbeats 4000000
set_option linter.unusedSimpArgs false
set_option linter.unusedVariables false
attribute [local irreducible] AWp AOps byteAt SrcOK OrOk GloAll FnSpec
attribute [local irreducible] nextS badI badS stepS rngR ownB
def firstTab : List AVal := Go.Pinned.utf8FirstZ.map (fun x : Nat => AVal.int .u8 (x : Int))
def acceptTab : List AVal := [.int .u8 128, .int .u8 191, .int .u8 160, .int .u8 191, .int .u8 128, .int .u8 159, .int .u8 144, .int .u8 191, .int .u8 128, .int .u8 143, .int .u8 0, .int .u8 0, .int .u8 0, .int .u8 0, .int .u8 0, .int .u8 0, .int .u8 0, .int .u8 0, .int .u8 0, .int .u8 0, .int .u8 0, .int .u8 0, .int .u8 0, .int .u8 0, .int .u8 0, .int .u8 0, .int .u8 0, .int .u8 0, .int .u8 0, .int .u8 0, .int .u8 0, .int .u8 0]
def firstN (b : Nat) : Nat :=
  if b < 128 then 240 else if b < 194 then 241 else if b < 224 then 2 else if b = 224 then 19 else if b < 237 then 3 else if b = 237 then 35 else if b < 240 then 3 else if b = 240 then 52
  else if b < 244 then 4 else if b = 244 then 68 else 241
theorem firstN_ok : ∀ b : Fin 256, Go.Pinned.utf8FirstZ[b.1]? = some (firstN b.1) := by decide +kernel
theorem firstTab_at (b : Nat) (h : b < 256) : firstTab[b * 1]? = some (.int .u8 (firstN b : Int)) := by
  rw [Nat.mul_one]
  simp only [firstTab, List.getElem?_map, firstN_ok ⟨b, h⟩, Option.map_some]
/-- What it answers. -/
def runeS (s : List UInt8) : Nat × Nat := if s.length = 0 then (65533, 0) else if (nextS s).2 = 0 then (65533, 1) else nextS s
theorem xx_mask (b : Int) : IntKind.wrap .i32 (BitVec.ofInt 32 (IntKind.wrap .i32 (BitVec.ofInt 32 b &&& ~~~ BitVec.ofInt 32 (IntKind.wrap .i32 (241 * 2147483648) / 2147483648)).toNat) ||| BitVec.ofInt 32 (IntKind.wrap .i32 (BitVec.ofInt 32 65533 &&& BitVec.ofInt 32 (IntKind.wrap .i32 (241 * 2147483648) / 2147483648)).toNat)).toNat = 65533 := by
  have e : (~~~ BitVec.ofInt 32 (IntKind.wrap .i32 (241 * 2147483648) / 2147483648)) = 0#32 := by decide +kernel
  rw [e, BitVec.and_zero]
  decide +kernel
attribute [local irreducible] firstTab
/-- The two tables of package utf8. -/
abbrev utfTy : List (Nat × List AVal) := [(2, firstTab), (3, acceptTab)]
theorem dec_cases (b : Nat) (h : b < 256) (h1 : 128 ≤ b) :
    (firstTab[b * 1]? = some (.int .u8 241) ∧ (b < 194 ∨ 245 ≤ b)) ∨ (firstTab[b * 1]? = some (.int .u8 2) ∧ 194 ≤ b ∧ b < 224) ∨ (firstTab[b * 1]? = some (.int .u8 19) ∧ b = 224)
    ∨ (firstTab[b * 1]? = some (.int .u8 3) ∧ 225 ≤ b ∧ b < 240 ∧ b ≠ 237) ∨ (firstTab[b * 1]? = some (.int .u8 35) ∧ b = 237) ∨ (firstTab[b * 1]? = some (.int .u8 52) ∧ b = 240)
    ∨ (firstTab[b * 1]? = some (.int .u8 4) ∧ 241 ≤ b ∧ b < 244) ∨ (firstTab[b * 1]? = some (.int .u8 68) ∧ b = 244) := by
  have e := firstTab_at b h
  have key : ∀ c : Nat, firstN b = c → firstTab[b * 1]? = some (.int .u8 (c : Int)) := fun c hc => by rw [e, hc]
  by_cases c1 : b < 194 ∨ 245 ≤ b
  · refine .inl ⟨key 241 (by unfold firstN; (repeat' split) <;> omega), c1⟩
  by_cases c2 : b < 224
  · refine .inr (.inl ⟨key 2 (by unfold firstN; (repeat' split) <;> omega), by omega, c2⟩)
  by_cases c3 : b = 224
  · subst c3; exact .inr (.inr (.inl ⟨key 19 rfl, rfl⟩))
  by_cases c5 : b = 237
  · subst c5; exact .inr (.inr (.inr (.inr (.inl ⟨key 35 rfl, rfl⟩))))
  by_cases c4 : b < 240
  · refine .inr (.inr (.inr (.inl ⟨key 3 (by unfold firstN; (repeat' split) <;> omega), by omega, c4, c5⟩)))
  by_cases c6 : b = 240
  · subst c6; exact .inr (.inr (.inr (.inr (.inr (.inl ⟨key 52 rfl, rfl⟩)))))
  by_cases c7 : b < 244
  · refine .inr (.inr (.inr (.inr (.inr (.inr (.inl ⟨key 4 (by unfold firstN; (repeat' split) <;> omega), by omega, c7⟩))))))
  have c8 : b = 244 := by omega
  subst c8
  exact .inr (.inr (.inr (.inr (.inr (.inr (.inr ⟨key 68 rfl, rfl⟩))))))
theorem rune_bad {s : List UInt8} {a b : Int} (h0 : ¬ s.length = 0) (h : ((nextS s).1 : Int) = 0 ∧ ((nextS s).2 : Int) = 0) (ha : a = 65533) (hb : b = 1) : ((runeS s).1 : Int) = a ∧ ((runeS s).2 : Int) = b := by
  have : (nextS s).2 = 0 := by omega
  subst ha hb
  simp [runeS, h0, this]
theorem rune_ok {s : List UInt8} {a b : Int} (h0 : ¬ s.length = 0) (h : ((nextS s).1 : Int) = a ∧ ((nextS s).2 : Int) = b) (hb : 0 < b) : ((runeS s).1 : Int) = a ∧ ((runeS s).2 : Int) = b := by
  have : ¬ (nextS s).2 = 0 := by omega
  simpa [runeS, h0, this] using h
theorem dec_slow {G : Glo} (hGL : GloAll G utfTy) (s : List UInt8) (hs : s.length = 0 ∨ 128 ≤ byteAt s 0) :
    FnIs Tryd.prog G 45 [.str s] (.tuple [.int .i32 ((runeS s).1 : Int), .int .i64 ((runeS s).2 : Int)]) := by
  refine fn_x Tryd.func45 Tryd.call45 rfl rfl rfl rfl hGL ?_
  intro C hC
  by_cases h0 : s.length = 0
  · refine xw1 ?_
    intros
    refine tup2 ?_
    simp only [runeS, if_pos h0]
    exact ⟨rfl, rfl⟩
  replace hs : 128 ≤ byteAt s 0 := by omega
  have hdc := dec_cases (byteAt s 0) (byteAt_lt s 0) hs
  refine xw1 ?_
  intros
  rcases hdc with ⟨hx, hb⟩ | ⟨hx, hb⟩ | ⟨hx, hb⟩ | ⟨hx, hb⟩ | ⟨hx, hb⟩ | ⟨hx, hb⟩ | ⟨hx, hb⟩ | ⟨hx, hb⟩
  all_goals (erw [hx])
  · refine xw1 ?_
    intros
    apply ch_r
    refine xw1 ?_
    intros
    apply ch_r
    refine xw1 ?_
    intros
    apply ch_r
    refine xw1 ?_
    intros
    clear hx
    refine tup2 ?_
    refine rune_bad h0 ?_ (xx_mask _) rfl
    generalize hz : nextS s = z
    unfold nextS contAt mayN cp2 cp3 cp4 at hz
    try simp only [show Int.toNat 0 = 0 from rfl, show Int.toNat 1 = 1 from rfl, show Int.toNat (1 + 1) = 2 from rfl, show Int.toNat (1 + 1 + 1) = 3 from rfl] at *
    generalize byteAt s 0 = b0 at *
    generalize byteAt s 1 = b1 at *
    generalize byteAt s 2 = b2 at *
    generalize byteAt s 3 = b3 at *
    generalize s.length = l at *
    repeat' (split at hz; try (exfalso; omega))
    all_goals (try subst z)
    all_goals (first
      | exact ⟨rfl, rfl⟩
      | (simp only [Bool.and_eq_true, Bool.or_eq_true, decide_eq_true_eq, beq_iff_eq] at *; first | (exfalso; omega) | omega))
  all_goals (repeat' (first | (conv => whnf); first | refine .w ?_ | refine .v ?_ | refine sc_c ?_ ?_ <;> (intro hb; try exact dd hb) | apply sc_not | apply sc_or | (apply sc_i <;> intro hb) | (apply bx_i; intro hbd) | (apply cx_is; first | fail) | (apply cx_do (i := 0) rfl; first | fail) | (apply ab_i; intro bl) | (apply as_i; intro va vk vc hva) | (apply av_i; intro v) | (apply ac_i; intro bl cap hcap) | apply bo_l | (apply nx_i <;> intro hnx) | apply dw_q mixed hC hGL (by kernel_rfl) | (apply cq; assumption; (first | fail); exact rfl) | (show Rt _ _ _; exact rt_w) | fail)
             all_goals try conv => whnf)
  all_goals (clear hx; refine tup2 ?_)
  all_goals (first
    | (refine rune_bad h0 ?_ rfl rfl
       generalize hz : nextS s = z
       unfold nextS contAt mayN cp2 cp3 cp4 at hz
       try simp only [show Int.toNat 0 = 0 from rfl, show Int.toNat 1 = 1 from rfl, show Int.toNat (1 + 1) = 2 from rfl, show Int.toNat (1 + 1 + 1) = 3 from rfl] at *
       generalize byteAt s 0 = b0 at *
       generalize byteAt s 1 = b1 at *
       generalize byteAt s 2 = b2 at *
       generalize byteAt s 3 = b3 at *
       generalize s.length = l at *
       repeat' (split at hz; try (exfalso; omega))
       all_goals (try subst z)
       all_goals (first
         | exact ⟨rfl, rfl⟩
         | (simp only [Bool.and_eq_true, Bool.or_eq_true, decide_eq_true_eq, beq_iff_eq] at *; first | (exfalso; omega) | omega))
       done)
    | (refine rune_ok h0 ?_ (by decide)
       generalize hz : nextS s = z
       unfold nextS contAt mayN cp2 cp3 cp4 at hz
       try simp only [show Int.toNat 0 = 0 from rfl, show Int.toNat 1 = 1 from rfl, show Int.toNat (1 + 1) = 2 from rfl, show Int.toNat (1 + 1 + 1) = 3 from rfl] at *
       generalize byteAt s 0 = b0 at *
       generalize byteAt s 1 = b1 at *
       generalize byteAt s 2 = b2 at *
       generalize byteAt s 3 = b3 at *
       generalize s.length = l at *
       repeat' (split at hz; try (exfalso; omega))
       all_goals (try subst z)
       all_goals (first
         | exact ⟨rfl, rfl⟩
         | (simp only [Bool.and_eq_true, Bool.or_eq_true, decide_eq_true_eq, beq_iff_eq] at *; first | (exfalso; omega) | omega))))
theorem dec_rune {G : Glo} (hGL : GloAll G utfTy) (s : List UInt8) :
    FnIs Tryd.prog G 33 [.str s] (.tuple [.int .i32 ((runeS s).1 : Int), .int .i64 ((runeS s).2 : Int)]) := by
  refine fn_x Tryd.func33 Tryd.call33 rfl rfl rfl rfl hGL ?_
  intro C hC
  by_cases h0 : s.length = 0 ∨ 128 ≤ byteAt s 0
  · have hd := dec_slow (G := G) hGL s h0
    by_cases h1 : s.length = 0
    all_goals (repeat' (first | (conv => whnf); first | refine .w ?_ | refine .v ?_ | refine sc_c ?_ ?_ <;> (intro hb; try exact dd hb) | apply sc_not | apply sc_or | (apply sc_i <;> intro hb) | (apply bx_i; intro hbd) | (apply cx_is; first | exact hd) | (apply cx_do (i := 0) rfl; first | exact hd) | (apply ab_i; intro bl) | (apply as_i; intro va vk vc hva) | (apply av_i; intro v) | (apply ac_i; intro bl cap hcap) | apply bo_l | (apply nx_i <;> intro hnx) | apply dw_q mixed hC hGL (by kernel_rfl) | (apply cq; assumption; (first | exact hd); exact rfl) | (show Rt _ _ _; exact rt_w) | fail)
               all_goals try conv => whnf)
    all_goals (exfalso; simp only [Int.toNat_zero] at *; omega)
  · refine xw1 ?_
    intros
    refine tup2 ?_
    refine rune_ok (by omega) ?_ (by decide)
    generalize hz : nextS s = z
    unfold nextS contAt mayN cp2 cp3 cp4 at hz
    try simp only [show Int.toNat 0 = 0 from rfl, show Int.toNat 1 = 1 from rfl, show Int.toNat (1 + 1) = 2 from rfl, show Int.toNat (1 + 1 + 1) = 3 from rfl] at *
    generalize byteAt s 0 = b0 at *
    generalize byteAt s 1 = b1 at *
    generalize byteAt s 2 = b2 at *
    generalize byteAt s 3 = b3 at *
    generalize s.length = l at *
    repeat' (split at hz; try (exfalso; omega))
    all_goals (try subst z)
    all_goals (first
      | exact ⟨rfl, rfl⟩
      | (simp only [Bool.and_eq_true, Bool.or_eq_true, decide_eq_true_eq, beq_iff_eq] at *; first | (exfalso; omega) | omega))
end Go.Proofs.YtmgkpbgfkjedeaaDoor
namespace Go.Proofs.YtmgkpbgfkjedeaaDoor
open Go
set_option maxRecDepth 20000
set_option maxHeartbeats 4000000
set_option linter.unusedSimpArgs false
set_option linter.unusedVariables false
attribute [local irreducible] AWp AOps byteAt SrcOK OrOk GloAll FnSpec
attribute [local irreducible] nextS badI badS stepS rngR ownB
attribute [local irreducible] firstTab runeS
theorem nextS_facts (s : List UInt8) : ((nextS s).2 = 0 → (nextS s).1 = 0) ∧ ((nextS s).2 = 1 → (nextS s).1 < 128) ∧ (s.length = 0 → (nextS s).2 = 0) := by
  refine ⟨?_, ?_, ?_⟩
  · unfold nextS; (repeat' split) <;> simp
  · unfold nextS; (repeat' split) <;> simp; omega
  · intro h; unfold nextS; simp [h]
theorem rune_next (s : List UInt8) : (((nextS s).2 : Int) = 0 → ((runeS s).2 : Int) = 0 ∧ s.length = 0 ∨ ((runeS s).1 : Int) = 65533 ∧ ((runeS s).2 : Int) = 1) ∧ (((nextS s).2 : Int) ≠ 0 → ((runeS s).1 : Int) = (nextS s).1 ∧ ((runeS s).2 : Int) = (nextS s).2) := by
  have hf := nextS_facts s
  unfold runeS
  by_cases h0 : s.length = 0
  · rw [if_pos h0]
    refine ⟨fun _ => .inl ⟨rfl, h0⟩, fun h => absurd (hf.2.2 h0) (by omega)⟩
  · rw [if_neg h0]
    by_cases h1 : (nextS s).2 = 0
    · rw [if_pos h1]
      exact ⟨fun _ => .inr ⟨rfl, rfl⟩, fun h => absurd h1 (by omega)⟩
    · rw [if_neg h1]
      exact ⟨fun h => absurd h (by omega), fun _ => ⟨rfl, rfl⟩⟩
theorem ref_Next {G : Glo} (hU : GloAll G utfTy) (s : List UInt8) :
    FnIs Tryd.prog G 22 [.str s] (.tuple [.int .i64 ((nextS s).1 : Int), .int .i64 ((nextS s).2 : Int)]) := by
  have hGL : GloAll G [] := gloAll_nil
  refine fn_x Tryd.func22 Tryd.call22 rfl rfl rfl rfl hGL ?_
  intro C hC
  have hd := dec_rune (G := G) hU s
  have hn := nextS_le s
  have hf := nextS_facts s
  have hr := rune_next s
  have hk : ((runeS s).1 : Int) ≤ 1114111 := by
    by_cases h : (nextS s).2 = 0
    · unfold runeS; rw [if_pos h]; split <;> decide
    · omega
  repeat' (first | (conv => whnf); first | refine .w ?_ | refine .v ?_ | refine sc_c ?_ ?_ <;> (intro hb; try exact dd hb) | apply sc_not | apply sc_or | (apply sc_i <;> intro hb) | (apply bx_i; intro hbd) | (apply cx_is; first | exact hd) | (apply cx_do (i := 0) rfl; first | exact hd) | (apply ab_i; intro bl) | (apply as_i; intro va vk vc hva) | (apply av_i; intro v) | (apply ac_i; intro bl cap hcap) | apply bo_l | (apply nx_i <;> intro hnx) | apply dw_q mixed hC hGL (by kernel_rfl) | (apply cq; assumption; (first | exact hd); exact rfl) | (show Rt _ _ _; exact rt_w) | fail)
  all_goals try conv => whnf
  all_goals (refine tup2 ?_; omega)
theorem ref_Bad {G : Glo} (hU : GloAll G utfTy) (s : List UInt8) (hl : s.length ≤ 9223372036854775807) : FnIs Tryd.prog G 13 [.str s] (.int .i64 (badI s)) := by
  have hGL : GloAll G [] := gloAll_nil
  refine fn_x Tryd.func13 Tryd.call13 rfl rfl rfl rfl hGL ?_
  intro C hC
  have hle := fun k => nextS_le (s.drop k)
  have hN := fun t => ref_Next (G := G) hU t
  repeat' (first | (conv => whnf); first | refine .w ?_ | refine .v ?_ | refine sc_c ?_ ?_ <;> (intro hb; try exact dd hb) | apply sc_not | apply sc_or | (apply sc_i <;> intro hb) | (apply bx_i; intro hbd) | (apply cx_is; first | exact hN _) | (apply cx_do (i := 0) rfl; first | exact hN _) | (apply ab_i; intro bl) | (apply as_i; intro va vk vc hva) | (apply av_i; intro v) | (apply ac_i; intro bl cap hcap) | apply bo_l | (apply nx_i <;> intro hnx) | apply dw_q mixed hC hGL (by kernel_rfl) | (apply cq; assumption; (first | exact hN _); exact rfl) | (show Rt _ _ _; exact rt_w) | fail)
  all_goals try conv => whnf
  refine lp hC hGL (fun (i : Nat) => [(0, .str s), (7, .own 0 (.pointer (some ⟨bl, 0, none⟩)))]) (fun i => [.iter bl s i]) (fun i => i ≤ s.length ∧ badS s = (badS (s.drop i)).map (· + i)) (fun i => s.length - i) 0 ?_ env_w rfl ?_
  · exact ⟨Nat.zero_le _, by simp⟩
  rintro i ⟨hi, hb0⟩
  have hn := hle i
  rw [List.length_drop] at hn
  repeat' (first | (conv => whnf); first | refine .w ?_ | refine .v ?_ | refine sc_c ?_ ?_ <;> (intro hb; try exact dd hb) | apply sc_not | apply sc_or | (apply sc_i <;> intro hb) | (apply bx_i; intro hbd) | (apply cx_is; first | exact hN _) | (apply cx_do (i := 0) rfl; first | exact hN _) | (apply ab_i; intro bl) | (apply as_i; intro va vk vc hva) | (apply av_i; intro v) | (apply ac_i; intro bl cap hcap) | apply bo_l | (apply nx_i <;> intro hnx) | apply dw_q mixed hC hGL (by kernel_rfl) | (apply cq; assumption; (first | exact hN _); exact rfl) | (show Rt _ _ _; exact rt_w) | fail)
  all_goals try conv => whnf
  · apply rt_is
    refine congrArg (AVal.int .i64) ?_
    have h1 := badS_step (s.drop i) (by rw [List.length_drop]; omega)
    rw [if_pos (by omega)] at h1
    rw [h1] at hb0
    simp only [badI, hb0, Option.map_some, Nat.zero_add]
  · have h1 := badS_step (s.drop i) (by rw [List.length_drop]; omega)
    rw [if_neg (by omega)] at h1
    have h2 : stepS (s.drop i) = (nextS (s.drop i)).2 := by unfold stepS; rw [if_neg (by omega)]
    refine nxt (i + stepS (s.drop i)) ⟨by omega, ?_⟩ (by omega) ⟨rfl, rfl, trivial⟩ rfl
    rw [hb0, h1, List.drop_drop, h2]
    cases badS (s.drop (i + (nextS (s.drop i)).2)) <;> simp <;> omega
  · apply rt_is
    refine congrArg (AVal.int .i64) ?_
    rw [badS_nil (s.drop i) (by rw [List.length_drop]; omega)] at hb0
    simp only [badI, hb0, Option.map_none]
end Go.Proofs.YtmgkpbgfkjedeaaDoor
namespace Go.Proofs.YtmgkpbgfkjedeaaDoor
open Go Go.RowKit
theorem byteAt_nl {a b : List UInt8} {k : Nat} (h : k < a.length) : byteAt (a ++ 10 :: b) k = byteAt a k := by
  unfold byteAt
  rw [List.getD_eq_getElem?_getD, List.getD_eq_getElem?_getD, List.getElem?_append_left h]
theorem contAt_nl {a b : List UInt8} {k : Nat} (h : k ≤ a.length) : contAt (a ++ 10 :: b) k = contAt a k := by
  unfold contAt
  rcases Nat.lt_or_ge k a.length with g | g
  · rw [byteAt_nl g, decide_eq_true g, decide_eq_true (by rw [List.length_append, List.length_cons]; omega)]
  · obtain rfl : k = a.length := by omega
    have e : byteAt (a ++ 10 :: b) a.length = 10 := by
      unfold byteAt
      rw [List.getD_eq_getElem?_getD, List.getElem?_append_right (Nat.le_refl _), Nat.sub_self]
      rfl
    rw [e, decide_eq_false (show ¬ a.length < a.length by omega)]
    simp
theorem next_nl {a b : List UInt8} (h : a.length ≠ 0) : nextS (a ++ 10 :: b) = nextS a := by
  have h0 := byteAt_nl (b := b) (show 0 < a.length by omega)
  have c1 := contAt_nl (b := b) (show 1 ≤ a.length by omega)
  have hz : ∀ k, a.length ≤ k → contAt a k = false := fun k hk => by unfold contAt; rw [decide_eq_false (by omega)]; rfl
  unfold nextS
  rw [if_neg h, if_neg (by rw [List.length_append, List.length_cons]; omega), h0]
  by_cases l1 : a.length = 1
  · rw [c1, hz 1 (by omega)]
    simp
  · have h1 := byteAt_nl (b := b) (show 1 < a.length by omega)
    have c2 := contAt_nl (b := b) (show 2 ≤ a.length by omega)
    have e2 : cp2 (a ++ 10 :: b) = cp2 a := by unfold cp2; rw [h0, h1]
    rw [c1, c2, e2]
    by_cases l2 : a.length = 2
    · rw [hz 2 (by omega)]
      simp
    · have h2 := byteAt_nl (b := b) (show 2 < a.length by omega)
      have c3 := contAt_nl (b := b) (show 3 ≤ a.length by omega)
      have e3 : cp3 (a ++ 10 :: b) = cp3 a := by unfold cp3; rw [h0, h1, h2]
      rw [c3, e3]
      by_cases l3 : a.length = 3
      · rw [hz 3 (by omega)]
        simp
      · have h3 := byteAt_nl (b := b) (show 3 < a.length by omega)
        have e4 : cp4 (a ++ 10 :: b) = cp4 a := by unfold cp4; rw [h0, h1, h2, h3]
        rw [e4]
theorem bad_nl : ∀ (n : Nat) (a b : List UInt8), a.length ≤ n → (badS (a ++ 10 :: b) = none ↔ badS a = none ∧ badS b = none)
  | n, a, b, hn => by
    by_cases h : a.length = 0
    · obtain rfl := List.length_eq_zero_iff.1 h
      rw [List.nil_append, badS_step (10 :: b) (by simp), badS_nil [] rfl]
      rw [show nextS (10 :: b) = (10, 1) from rfl]
      simp
    · rw [badS_step _ (by rw [List.length_append, List.length_cons]; omega), badS_step a h, next_nl h]
      by_cases h2 : (nextS a).2 = 0
      · rw [if_pos h2, if_pos h2]; simp
      · have h3 := (nextS_le a).1
        rw [if_neg h2, if_neg h2, List.drop_append_of_le_length h3, Option.map_eq_none_iff, Option.map_eq_none_iff]
        cases n with
        | zero => omega
        | succ n => exact bad_nl n _ b (by rw [List.length_drop]; omega)
theorem bad_join : ∀ l : List (List UInt8), badS (Lib.join l [10]) = none ↔ ∀ k ∈ l, badS k = none
  | [] => by simp [Lib.join, badS_nil]
  | [x] => by simp [Lib.join]
  | x :: y :: l => by
    have e : Lib.join (x :: y :: l) [10] = x ++ 10 :: Lib.join (y :: l) [10] := by simp [Lib.join, List.intercalate]
    rw [e, bad_nl _ _ _ (Nat.le_refl _), bad_join (y :: l)]
    simp
theorem badI_0 (s : List UInt8) : 0 ≤ badI s ↔ badS s ≠ none := by
  unfold badI
  cases badS s with
  | none => simp
  | some i => simp
theorem badI_join (l : List (List UInt8)) : 0 ≤ badI (Lib.join l [10]) ↔ ∃ k ∈ l, 0 ≤ badI k := by
  rw [badI_0, ne_eq, bad_join]
  simp only [badI_0]
  constructor
  · intro h
    refine Classical.byContradiction fun h2 => h fun k hk => Classical.byContradiction fun h3 => h2 ⟨k, hk, h3⟩
  · rintro ⟨k, hk, h⟩ h2
    exact h (h2 k hk)
theorem join_len (l : List (List UInt8)) (c : UInt8) : (Lib.join l [c]).length ≤ Lib.lens l + l.length := by
  induction l with
  | nil => simp [Lib.join]
  | cons x l ih =>
    have e1 : Lib.lens (x :: l) = x.length + Lib.lens l := by simp [Lib.lens]
    rw [e1, List.length_cons]
    cases l with
    | nil => simp [Lib.join]; omega
    | cons y l =>
      have e : Lib.join (x :: y :: l) [c] = x ++ c :: Lib.join (y :: l) [c] := by simp [Lib.join, List.intercalate]
      rw [e, List.length_append, List.length_cons]
      omega
theorem ref_contains {G : Glo} (s : List UInt8) (c : UInt8) : FnIs Tryd.prog G 11 [.str s, .str [c]] (.bool (decide (0 ≤ Lib.indexByte s c))) := by
  refine fnis_of_calls rfl Tryd.call11 ?_
  rintro R args ⟨x, t, e, hx, y, t', e', hy, rfl⟩ w hG hs
  obtain rfl := rel_str.1 hx
  obtain rfl := rel_str.1 hy
  subst e'
  obtain rfl := arr_of e
  refine (Tryd.strings_Contains_one ⟨s.toArray⟩ c w).mono ?_
  rintro e w' ⟨rfl, rfl⟩
  exact ⟨by simp [AVal.conc], Below.refl _ _⟩
def hasJ (x : Js) : List UInt8 := if x.k = 4 ∨ x.k = 5 then [116] else if x.k = 6 then [108] else if x.k = 7 then [107, 108] else []
abbrev mayM (b : Nat) : HEnt := .mp b [(.int .i64 1, .str []), (.int .i64 2, .str []), (.int .i64 3, .str []), (.int .i64 4, .str [116]), (.int .i64 5, .str [116]), (.int .i64 6, .str [108]), (.int .i64 7, .str [107, 108])]
set_option maxRecDepth 20000
set_option maxHeartbeats 4000000
set_option linter.unusedSimpArgs false
set_option linter.unusedVariables false
attribute [local irreducible] AWp AOps byteAt SrcOK OrOk GloAll FnSpec
attribute [local irreducible] numI badI
theorem ref_JsonRight {G : Glo} (hU : GloAll G utfTy) : ∀ (n d : Nat) (x : Js), n ≤ 12 → Js.le d x → Js.fit d x → FnIs Tryd.prog G 5 [Js.R d x, .int .i64 (13 - (n : Int))] (.int .i64 (jrE n x))
  | 0, d, x, hn, hd, hx => by
    rw [show jrE 0 x = 4 from rfl]
    unfold Js.R
    have hGL : GloAll G [] := gloAll_nil
    refine fn_x Tryd.func5 Tryd.call5 rfl rfl rfl rfl hGL ?_
    intro C hC
    exact xw0
  | n + 1, d, x, hn, hd, hx => by
    unfold Js.R
    obtain ⟨f1, f2, f3, f4⟩ := fit_1 hx
    have hNum := ref_numeral (G := G) x.t (by omega)
    have hBad := ref_Bad (G := G) hU x.t (by omega)
    have hjl := join_len x.ks 10
    have hJn := strings_Join (G := G) x.ks [10] (by omega) (by omega)
    have hBadK := ref_Bad (G := G) hU (Lib.join x.ks [10]) (by omega)
    have hbj := badI_join x.ks
    have hc1 := Tryd.call12
    have hc2 := Tryd.call13
    have hc3 := Tryd.call14
    have hc4 := Tryd.call11
    have hCo : ∀ (s : List UInt8) (c : UInt8) (b : Bool), decide (0 ≤ Lib.indexByte s c) = b → FnIs Tryd.prog G 11 [.str s, .str [c]] (.bool b) := fun s c b h => h ▸ ref_contains s c
    have q1 := hCo [] 116 false (by decide)
    have q2 := hCo [] 107 false (by decide)
    have q3 := hCo [] 108 false (by decide)
    have q4 := hCo [116] 116 true (by decide)
    have q5 := hCo [116] 107 false (by decide)
    have q6 := hCo [116] 108 false (by decide)
    have q7 := hCo [108] 116 false (by decide)
    have q8 := hCo [108] 107 false (by decide)
    have q9 := hCo [108] 108 true (by decide)
    have qa := hCo [107, 108] 116 false (by decide)
    have qb := hCo [107, 108] 107 true (by decide)
    have qc := hCo [107, 108] 108 true (by decide)
    clear hCo
    have hGL : GloAll G [] := gloAll_nil
    refine fn_a Tryd.func5 Tryd.call5 rfl rfl rfl rfl ?_
    intro C hC
    refine cut hC hGL [(1, .int .i64 (13 - ((n + 1 : Nat) : Int))), (2, .rop (Js.C d x) 0)] [] True xn0 fun _ => ?_
    refine cut hC hGL [(1, .int .i64 (13 - ((n + 1 : Nat) : Int))), (2, .rop (Js.C d x) 0)] [] True xn0 fun _ => ?_
    by_cases hk : ¬ (1 ≤ x.k ∧ x.k ≤ 7)
    · rw [jr_arg (.inl hk)]
      exact aw_code hC hGL xw0
    have hk : 1 ≤ x.k ∧ x.k ≤ 7 := Decidable.not_not.1 hk
    have hk7 : x.k = 1 ∨ x.k = 2 ∨ x.k = 3 ∨ x.k = 4 ∨ x.k = 5 ∨ x.k = 6 ∨ x.k = 7 := by omega
    have e1 : x.t = [] ↔ x.t.length = 0 := List.length_eq_zero_iff.symm
    refine cuty hC hGL (fun b : Nat => [(1, .int .i64 (13 - ((n + 1 : Nat) : Int))), (2, .rop (Js.C d x) 0), (5, .own 0 (.map (some b)))]) (fun b => [mayM b]) (fun _ => True) ?_ ?_
    · refine xn1 ?_
      intro b
      intros
      exact cy b trivial
    intro b5 _
    have hh : (hasJ x = [] ∧ (x.k = 1 ∨ x.k = 2 ∨ x.k = 3)) ∨ (hasJ x = [116] ∧ (x.k = 4 ∨ x.k = 5)) ∨ (hasJ x = [108] ∧ x.k = 6) ∨ (hasJ x = [107, 108] ∧ x.k = 7) := by
      unfold hasJ
      rcases hk7 with h | h | h | h | h | h | h <;> rw [h] <;> decide
    refine cut hC hGL [(1, .int .i64 (13 - ((n + 1 : Nat) : Int))), (2, .rop (Js.C d x) 0), (6, .str (hasJ x)), (7, .bool true)] [mayM b5] True ?_ fun _ => ?_
    · rcases hk7 with h | h | h | h | h | h | h
      all_goals
        rw [show hasJ x = _ from by unfold hasJ; rw [h]]
        exact xn0
    by_cases ha : argJ x
    · rw [jr_arg ha]
      unfold argJ at ha
      have e2 : x.ks = [] ↔ x.ks.length = 0 := List.length_eq_zero_iff.symm
      have e3 : x.l = [] ↔ x.l.length = 0 := List.length_eq_zero_iff.symm
      simp only [ne_eq, e1, e2, e3] at ha
      rcases hh with ⟨h, h2⟩ | ⟨h, h2⟩ | ⟨h, h2⟩ | ⟨h, h2⟩
      all_goals
        rw [h]
        by_cases z1 : x.t.length = 0 <;> by_cases z2 : x.ks.length = 0 <;> by_cases z3 : x.l.length = 0 <;> by_cases z4 : x.ks.length = x.l.length
        all_goals first
          | (exfalso; omega)
          | exact aw_code hC hGL xw0
    refine cut hC hGL [(1, .int .i64 (13 - ((n + 1 : Nat) : Int))), (2, .rop (Js.C d x) 0)] [mayM b5] True ?_ fun _ => ?_
    · have ha' := ha
      unfold argJ at ha'
      have e2 : x.ks = [] ↔ x.ks.length = 0 := List.length_eq_zero_iff.symm
      have e3 : x.l = [] ↔ x.l.length = 0 := List.length_eq_zero_iff.symm
      simp only [ne_eq, e1, e2, e3] at ha'
      rcases hh with ⟨h, h2⟩ | ⟨h, h2⟩ | ⟨h, h2⟩ | ⟨h, h2⟩
      all_goals
        rw [h]
        by_cases z1 : x.t.length = 0 <;> by_cases z2 : x.ks.length = 0 <;> by_cases z3 : x.l.length = 0
        all_goals first
          | (exfalso; omega)
          | exact xw0
    clear hh q1 q2 q3 q4 q5 q6 q7 q8 q9 qa qb qc hc4
    by_cases hf : formJ x
    · rw [jr_form ha hf]
      unfold formJ at hf
      rw [← hbj, e1] at hf
      clear hbj
      by_cases h4 : x.k = 4
      · by_cases h6 : numI x.t = x.t.length
        · by_cases h5 : x.t.length = 0
          · exact aw_code hC hGL xw0
          · by_cases h7 : 0 ≤ badI x.t
            · exact aw_code hC hGL xw0
            · have h8 : 0 ≤ badI (Lib.join x.ks [10]) := by omega
              exact aw_code hC hGL xw0
        · exact aw_code hC hGL xw0
      · by_cases h7 : 0 ≤ badI x.t
        · exact aw_code hC hGL xw0
        · have h8 : 0 ≤ badI (Lib.join x.ks [10]) := by omega
          exact aw_code hC hGL xw0
    refine cut hC hGL [(1, .int .i64 (13 - ((n + 1 : Nat) : Int))), (2, .rop (Js.C d x) 0)] [mayM b5] True ?_ fun _ => ?_
    · have hf' := hf
      unfold formJ at hf'
      rw [← hbj, e1] at hf'
      clear hbj
      have h7 : badI x.t < 0 := by omega
      have h8 : badI (Lib.join x.ks [10]) < 0 := by omega
      by_cases h4 : x.k = 4
      · have h5 : x.t.length ≠ 0 := by omega
        have h6 : numI x.t = x.t.length := by omega
        exact xw0
      · exact xw0
    clear hbj hBadK hBad hNum hJn hjl hc1 hc2 hc3
    refine cuty hC hGL (fun _ : Unit => [(1, .int .i64 (13 - ((n + 1 : Nat) : Int))), (2, .rop (Js.C d x) 0)]) (fun _ => [mayM b5]) (fun _ => twoK x.ks = false) ?_ ?_
    · refine xn1 ?_
      intros
      refine lp hC hGL (fun k : Nat => [(1, .int .i64 (13 - ((n + 1 : Nat) : Int))), (2, .rop (Js.C d x) 0), (110, .list 1 x.ks.length (strsF x.ks)), (111, .int .i64 (x.ks.length : Nat)), (112, .int .i64 (k : Nat))]) (fun k => [mayM b5]) (fun k => k ≤ x.ks.length ∧ ∀ j, j < k → x.ks.getD j [] ∉ x.ks.take j) (fun k => x.ks.length - k) 0 ⟨Nat.zero_le _, fun j h => absurd h (Nat.not_lt_zero _)⟩ env_w rfl ?_
      rintro k ⟨k1, k2⟩
      by_cases h : k < x.ks.length
      · have htw := fun hm => jr_two (n := n) ha hf (two_at h hm)
        have k3 := fun hm => below_succ (p := fun j => x.ks.getD j [] ∉ x.ks.take j) k2 hm
        refine xn1 ?_
        intros
        refine lp hC hGL (fun m : Nat => [(1, .int .i64 (13 - ((n + 1 : Nat) : Int))), (2, .rop (Js.C d x) 0), (9, .str (x.ks.getD k [])), (110, .list 1 x.ks.length (strsF x.ks)), (111, .int .i64 (x.ks.length : Nat)), (112, .int .i64 (k : Nat)), (120, .list 1 k (strsF x.ks)), (121, .int .i64 (k : Nat)), (122, .int .i64 (m : Nat))]) (fun m => [mayM b5]) (fun m => m ≤ k ∧ ∀ j, j < m → x.ks.getD k [] ≠ x.ks.getD j []) (fun m => k - m) 0 ⟨Nat.zero_le _, fun j h => absurd h (Nat.not_lt_zero _)⟩ env_w rfl ?_
        rintro m ⟨m1, m2⟩
        by_cases hm : m < k
        · by_cases he : x.ks.getD k [] = x.ks.getD m []
          · have hin : x.ks.getD k [] ∈ x.ks.take k := by
              rw [he, List.mem_take_iff_getElem]
              exact ⟨m, by omega, by rw [List.getD_eq_getElem?_getD, List.getElem?_eq_getElem (by omega)]; rfl⟩
            rw [htw hin]
            exact xn0
          · refine xn1 ?_
            intros
            exact nxs (m + 1) ⟨hm, below_succ m2 he⟩ (by omega) env_w sub_w
        · obtain rfl : m = k := by omega
          have hni : x.ks.getD m [] ∉ x.ks.take m := by
            rw [List.mem_take_iff_getElem]
            rintro ⟨j, hj, hj2⟩
            refine m2 j (by omega) (hj2.symm.trans ?_)
            rw [List.getD_eq_getElem?_getD, List.getElem?_eq_getElem (by omega)]
            rfl
          refine xn1 ?_
          intros
          exact nxs (m + 1) ⟨h, k3 hni⟩ (by omega) env_w sub_w
      · obtain rfl : k = x.ks.length := by omega
        refine xn1 ?_
        intros
        exact cy () (two_no k2)
    intro _ ht
    have hkd := fun k h h1 h2 => fsJ_at (f := fun i => jrE n (atJ x.l i)) (k := k) (n := x.l.length) h h1 h2
    rw [jr_kid ha hf ht]
    have ih := fun e i h1 h2 => ref_JsonRight (G := G) hU n e (atJ x.l i) (by omega) h1 h2
    have hK := fsJ_none (f := fun i => jrE n (atJ x.l i)) (n := x.l.length)
    generalize fsJ (fun i => jrE n (atJ x.l i)) x.l.length = E at *
    refine aw_code hC hGL (xn1 ?_)
    intros
    refine lp hC hGL (fun k : Nat => [(1, .int .i64 (13 - ((n + 1 : Nat) : Int))), (132, .list 4 x.l.length (jsF d x.l)), (133, .int .i64 (x.l.length : Nat)), (134, .int .i64 (k : Nat))]) (fun k => [mayM b5]) (fun k => k ≤ x.l.length ∧ ∀ j, j < k → jrE n (atJ x.l j) = 0) (fun k => x.l.length - k) 0 ⟨Nat.zero_le _, fun j h => absurd h (Nat.not_lt_zero _)⟩ env_w rfl ?_
    rintro k ⟨k1, k2⟩
    by_cases h : k < x.l.length
    · obtain ⟨e, rfl, he⟩ := le_pos hd h
      have h1 := ih e k he (hx.2 k h)
      unfold Js.R at h1
      rw [show (13 - (n : Int)) = 13 - ((n + 1 : Nat) : Int) + 1 by omega] at h1
      have hkd := hkd k h k2
      by_cases h0 : jrE n (atJ x.l k) = 0
      · rw [h0] at h1
        refine xn1 ?_
        intros
        exact nxs (k + 1) ⟨h, below_succ k2 h0⟩ (by omega) env_w sub_w
      · rw [hkd h0]
        generalize jrE n (atJ x.l k) = E2 at *
        exact xn0
    · obtain rfl : k = x.l.length := by omega
      rw [hK k2]
      exact xn0
end Go.Proofs.YtmgkpbgfkjedeaaDoor
namespace Go.Proofs.YtmgkpbgfkjedeaaDoor
open Go Go.RowKit
abbrev escL : List UInt8 := [34, 92, 8, 12, 10, 13, 9]
theorem esc_at : ∀ j, j < escL.length → byteAt escL j = 34 ∨ byteAt escL j = 92 ∨ byteAt escL j = 8 ∨ byteAt escL j = 12 ∨ byteAt escL j = 10 ∨ byteAt escL j = 13 ∨ byteAt escL j = 9 := by decide
theorem rq_esc {c : Nat} (h : c = 34 ∨ c = 92 ∨ c = 8 ∨ c = 12 ∨ c = 10 ∨ c = 13 ∨ c = 9) : (idxB escL (c : Int) = 0 ∧ qtB c = [92, 34]) ∨ (idxB escL (c : Int) = 1 ∧ qtB c = [92, 92]) ∨ (idxB escL (c : Int) = 2 ∧ qtB c = [92, 98]) ∨ (idxB escL (c : Int) = 3 ∧ qtB c = [92, 102]) ∨ (idxB escL (c : Int) = 4 ∧ qtB c = [92, 110]) ∨ (idxB escL (c : Int) = 5 ∧ qtB c = [92, 114]) ∨ (idxB escL (c : Int) = 6 ∧ qtB c = [92, 116]) := by
  rcases h with rfl | rfl | rfl | rfl | rfl | rfl | rfl <;> decide
theorem rq_cls (c : Nat) : (c = 34 ∨ c = 92 ∨ c = 8 ∨ c = 12 ∨ c = 10 ∨ c = 13 ∨ c = 9) ∨ (c < 32 ∧ idxB escL (c : Int) = -1 ∧ qtB c = [92, 117, 48, 48, UInt8.ofNat (48 + c / 16), UInt8.ofNat (hexB (c % 16))]) ∨ (32 ≤ c ∧ idxB escL (c : Int) = -1 ∧ qtB c = [UInt8.ofNat c]) := by
  by_cases h : c = 34 ∨ c = 92 ∨ c = 8 ∨ c = 12 ∨ c = 10 ∨ c = 13 ∨ c = 9
  · exact .inl h
  · have h2 := idx_no (l := escL) (c := c) (fun j hj e => by have := esc_at j hj; omega)
    have h3 : escB c = 0 := by unfold escB; (repeat' split) <;> omega
    by_cases h4 : c < 32
    · exact .inr (.inl ⟨h4, h2, by unfold qtB; rw [h3, if_neg (by decide), if_pos h4]⟩)
    · exact .inr (.inr ⟨by omega, h2, by unfold qtB; rw [h3, if_neg (by decide), if_neg h4]⟩)
theorem take_one (s : List UInt8) (k : Nat) (h : k < s.length) : (s.take (k + 1)).drop k = [UInt8.ofNat (byteAt s k)] := by
  rw [List.take_add_one, List.getElem?_eq_getElem h, List.drop_append_of_le_length (by rw [List.length_take]; omega), List.drop_of_length_le (by rw [List.length_take]; omega)]
  simp [byteAt, List.getD, h]
set_option maxRecDepth 20000
set_option maxHeartbeats 4000000
set_option linter.unusedSimpArgs false
set_option linter.unusedVariables false
attribute [local irreducible] AWp AOps byteAt SrcOK OrOk GloAll FnSpec
attribute [local irreducible] qtT
theorem ref_jsonText {G : Glo} (hB : GloAll G bruTy) (s : List UInt8) (hl : s.length ≤ 8589934592) : FnIs Tryd.prog G 16 [.str s] (.str (qtS s)) := by
  have hX := fun c h0 h1 => strings_IndexByte (G := G) escL c h0 h1
  have hGL : GloAll G [] := gloAll_nil
  refine fn_x Tryd.func16 Tryd.call16 rfl rfl rfl rfl hGL ?_
  intro C hC
  refine xn1 ?_
  refine lp hC hGL (fun k : Nat => [(0, .str s), (3, .str (qtT (s.take k))), (8, .int .i64 (s.length : Nat)), (9, .int .i64 (k : Nat))]) (fun _ => []) (fun k => k ≤ s.length) (fun k => s.length - k) 0 (Nat.zero_le _) (by unfold qtT; exact env_w) rfl ?_
  intro k hk
  have hk : k ≤ s.length := hk
  have hql := qtT_len (s.take k)
  rw [List.length_take] at hql
  by_cases h : k < s.length
  · have hs := qtT_snoc s k h
    have hb := byteAt_lt s k
    have hX := hX (byteAt s k) (by omega) (by omega)
    have nx : ∀ t, qtT (s.take k) ++ t = qtT (s.take (k + 1)) → AVal.str (qtT (s.take k) ++ t) = .str (qtT (s.take (k + 1))) := fun t e => by rw [e]
    rcases rq_cls (byteAt s k) with hc | ⟨hc, hi, hq⟩ | ⟨hc, hi, hq⟩
    · rcases rq_esc hc with ⟨hi, hq⟩ | ⟨hi, hq⟩ | ⟨hi, hq⟩ | ⟨hi, hq⟩ | ⟨hi, hq⟩ | ⟨hi, hq⟩ | ⟨hi, hq⟩
      all_goals
        rw [hi] at hX
        rw [hq] at hs
        refine xn1 ?_
        intros
        exact nxs (k + 1) h (by omega) ⟨rfl, congrArg some (nx _ hs), rfl, rfl, trivial⟩ sub_w
    · rw [hi] at hX
      rw [hq] at hs
      have hH := hex_digits hB (byteAt s k) hc
      refine xn1 ?_
      intros
      exact nxs (k + 1) h (by omega) ⟨rfl, congrArg some (nx _ hs), rfl, rfl, trivial⟩ sub_w
    · rw [hi] at hX
      rw [hq] at hs
      have ht := take_one s k h
      refine xn1 ?_
      intros
      refine nxs (k + 1) h (by omega) ⟨rfl, ?_, rfl, rfl, trivial⟩ sub_w
      rw [← ht] at hs
      exact congrArg some (nx _ hs)
  · obtain rfl : k = s.length := by omega
    refine xn1 ?_
    intros
    rw [List.take_length]
    exact rt_w
end Go.Proofs.YtmgkpbgfkjedeaaDoor
namespace Go.Proofs.YtmgkpbgfkjedeaaDoor
open Go Go.RowKit
abbrev sumR (m : Nat) (g : Nat → Nat) : Nat := ((List.range m).map g).sum
theorem sumR_succ (m : Nat) (g : Nat → Nat) : sumR (m + 1) g = sumR m g + g m := by
  unfold sumR
  rw [List.range_succ, List.map_append, List.sum_append]
  simp
theorem sumR_le {m : Nat} {a b : Nat → Nat} (h : ∀ i, i < m → a i ≤ b i) : sumR m a ≤ sumR m b := by
  induction m with
  | zero => exact Nat.le_refl _
  | succ m ih =>
    rw [sumR_succ, sumR_succ]
    have := ih fun i hi => h i (by omega)
    have := h m (by omega)
    omega
theorem sumR_at {m : Nat} {g : Nat → Nat} {i : Nat} (h : i < m) : g i ≤ sumR m g := by
  induction m with
  | zero => omega
  | succ m ih =>
    rw [sumR_succ]
    rcases Nat.lt_or_ge i m with k | k
    · have := ih k; omega
    · obtain rfl : i = m := by omega
      omega
theorem sumR_one (m : Nat) : sumR m (fun _ => 1) = m := by
  induction m with
  | zero => rfl
  | succ m ih => rw [sumR_succ, ih]
theorem sumR_add (m : Nat) (a b : Nat → Nat) : sumR m (fun i => a i + b i) = sumR m a + sumR m b := by
  induction m with
  | zero => rfl
  | succ m ih => rw [sumR_succ, sumR_succ, sumR_succ, ih]; omega
theorem sumR_mul (m c : Nat) (a : Nat → Nat) : sumR m (fun i => c * a i) = c * sumR m a := by
  induction m with
  | zero => rfl
  | succ m ih => rw [sumR_succ, sumR_succ, ih, Nat.mul_add]
theorem sumR_keys (l : List (List UInt8)) (m : Nat) : sumR m (fun i => (l.getD i []).length) ≤ Lib.lens l := by
  induction m generalizing l with
  | zero => exact Nat.zero_le _
  | succ m ih =>
    cases l with
    | nil =>
      refine Nat.le_trans (sumR_le (b := fun _ => 0) fun i _ => by simp) ?_
      have : ∀ m, sumR m (fun _ => 0) = 0 := fun m => by
        induction m with
        | zero => rfl
        | succ m ih => rw [sumR_succ, ih]
      rw [this]
      exact Nat.zero_le _
    | cons x l =>
      have e1 : Lib.lens (x :: l) = x.length + Lib.lens l := by simp [Lib.lens]
      have e2 : sumR (m + 1) (fun i => ((x :: l).getD i []).length) = x.length + sumR m (fun i => (l.getD i []).length) := by
        unfold sumR
        rw [List.range_succ_eq_map, List.map_cons, List.sum_cons, List.map_map]
        rfl
      rw [e1, e2]
      have := ih l
      omega
theorem lens_sumR (m : Nat) (f : Nat → List UInt8) : Lib.lens ((List.range m).map f) = sumR m (fun i => (f i).length) := by
  unfold sumR Lib.lens
  rw [List.map_map]
  rfl
theorem sz_succ (d : Nat) (x : Js) : Js.sz (d + 1) x = x.t.length + x.ks.length + Lib.lens x.ks + 1 + sumR x.l.length (fun i => Js.sz d (atJ x.l i)) := rfl
theorem sz_pos (d : Nat) (x : Js) : 1 + x.t.length + x.ks.length + Lib.lens x.ks ≤ Js.sz d x := by
  cases d with
  | zero => show _ ≤ x.t.length + x.ks.length + Lib.lens x.ks + 1; omega
  | succ d => rw [sz_succ]; omega
theorem sz_kid {d : Nat} {x : Js} {i : Nat} (h : i < x.l.length) : Js.sz d (atJ x.l i) ≤ Js.sz (d + 1) x := by
  rw [sz_succ]
  have := sumR_at (g := fun i => Js.sz d (atJ x.l i)) h
  omega
theorem sz_len {d : Nat} {x : Js} (hd : Js.le d x) : x.l.length ≤ Js.sz d x := by
  cases d with
  | zero => rw [show x.l = [] from hd]; exact Nat.zero_le _
  | succ d =>
    rw [sz_succ]
    have := sumR_le (m := x.l.length) (a := fun _ => 1) (b := fun i => Js.sz d (atJ x.l i)) fun i _ => by have := sz_pos d (atJ x.l i); omega
    rw [sumR_one] at this
    omega
theorem sz_fit : ∀ {d : Nat} {x : Js}, Js.le d x → Js.sz d x ≤ 1048576 → Js.fit d x
  | 0, x, hd, h => by
    have h1 := sz_pos 0 x
    have h2 := sz_len hd
    exact ⟨by omega, by omega, by omega, by omega⟩
  | d + 1, x, hd, h => by
    have h1 := sz_pos (d + 1) x
    have h2 := sz_len hd
    refine ⟨⟨by omega, by omega, by omega, by omega⟩, fun i hi => sz_fit (hd i hi) ?_⟩
    have := sz_kid (d := d) hi
    omega
def prJ (n : Nat) (x : Js) (i : Nat) : List UInt8 := (if x.k = 7 then qtS (x.ks.getD i []) ++ [58] else []) ++ jwS n (atJ x.l i)
theorem jw_arr {n : Nat} {x : Js} (h : ¬ (1 ≤ x.k ∧ x.k ≤ 5)) : jwS (n + 1) x = (if x.k = 7 then 123 else 91) :: joinC ((List.range x.l.length).map (prJ n x)) ++ [if x.k = 7 then 125 else 93] := by
  unfold jwS
  rw [if_neg (by omega), if_neg (by omega), if_neg (by omega), if_neg (by omega), if_neg (by omega)]
  rfl
theorem jw_len : ∀ (n d : Nat) (x : Js), Js.le d x → (jwS n x).length + 4 ≤ 13 * Js.sz d x
  | 0, d, x, _ => by have := sz_pos d x; show 0 + 4 ≤ _; omega
  | n + 1, d, x, hd => by
    have h0 := sz_pos d x
    by_cases hk : 1 ≤ x.k ∧ x.k ≤ 5
    · have hq := qtS_len x.t
      have hk5 : x.k = 1 ∨ x.k = 2 ∨ x.k = 3 ∨ x.k = 4 ∨ x.k = 5 := by omega
      unfold jwS
      rcases hk5 with h | h | h | h | h
      · rw [if_pos h]; show 4 + 4 ≤ _; omega
      · rw [if_neg (by omega), if_pos h]; show 5 + 4 ≤ _; omega
      · rw [if_neg (by omega), if_neg (by omega), if_pos h]; show 4 + 4 ≤ _; omega
      · rw [if_neg (by omega), if_neg (by omega), if_neg (by omega), if_pos h]; omega
      · rw [if_neg (by omega), if_neg (by omega), if_neg (by omega), if_neg (by omega), if_pos h]; omega
    · rw [jw_arr hk, List.length_append, List.length_cons, List.length_singleton]
      have h1 := joinC_len ((List.range x.l.length).map (prJ n x))
      rw [lens_sumR, List.length_map, List.length_range] at h1
      cases d with
      | zero =>
        rw [show x.l = [] from hd] at h1 ⊢
        have e : sumR ([] : List Js).length (fun i => (prJ n x i).length) = 0 := rfl
        have e0 : ([] : List Js).length = 0 := rfl
        rw [e] at h1
        omega
      | succ d =>
        have h2 : ∀ i, i < x.l.length → (prJ n x i).length + 1 ≤ 13 * Js.sz d (atJ x.l i) + 6 * (x.ks.getD i []).length := fun i hi => by
          have ih := jw_len n d (atJ x.l i) (hd i hi)
          have hq := qtS_len (x.ks.getD i [])
          unfold prJ
          split
          · rw [List.length_append, List.length_append, List.length_singleton]; omega
          · rw [List.length_append, List.length_nil]; omega
        have h3 := sumR_le h2
        rw [sumR_add, sumR_add, sumR_one, sumR_mul, sumR_mul] at h3
        have h4 := sumR_keys x.ks x.l.length
        rw [sz_succ]
        omega
set_option maxRecDepth 20000
set_option maxHeartbeats 4000000
set_option linter.unusedSimpArgs false
set_option linter.unusedVariables false
attribute [local irreducible] AWp AOps byteAt SrcOK OrOk GloAll FnSpec
attribute [local irreducible] qtT qtS jwS joinC
theorem format_bool {G : Glo} (b : Bool) : FnIs Tryd.prog G 15 [.bool b] (.str (if b then [116, 114, 117, 101] else [102, 97, 108, 115, 101])) := by
  have h : FnIs Tryd.prog G 25 [.bool b] (.str (if b then [116, 114, 117, 101] else [102, 97, 108, 115, 101])) := by
    cases b <;> (have hGL : GloAll G [] := gloAll_nil
                 refine fn_x Tryd.func25 Tryd.call25 rfl rfl rfl rfl hGL ?_
                 intro C hC
                 exact xw0)
  have hGL : GloAll G [] := gloAll_nil
  refine fn_x Tryd.func15 Tryd.call15 rfl rfl rfl rfl hGL ?_
  intro C hC
  exact xw0
theorem strs_push (f : Nat → List UInt8) (k : Nat) : strsC ((List.range k).map f) ++ [AVal.str (f k)] = strsC ((List.range (k + 1)).map f) := by
  rw [strsC_snoc, List.range_succ, List.map_append]
  rfl
theorem ref_JsonWrite {G : Glo} (hB : GloAll G bruTy) : ∀ (n d : Nat) (x : Js), jrE n x = 0 → Js.le d x → Js.sz d x ≤ 1048576 → FnIs Tryd.prog G 6 [Js.R d x] (.str (jwS n x))
  | 0, d, x, h, _, _ => by cases h
  | n + 1, d, x, h, hd, hs => by
    obtain ⟨hk, h7, hc⟩ := jr_ok h
    have h0 := sz_pos d x
    have h00 := sz_len hd
    unfold Js.R
    have hT := ref_jsonText hB x.t (by omega)
    have hTk := fun i => ref_jsonText hB (x.ks.getD i []) (by have := lens_atJ x.ks i; omega)
    have hb := format_bool (G := G)
    have hw := jw_len (n + 1) d x hd
    by_cases h5 : x.k ≤ 5
    · have hk5 : x.k = 1 ∨ x.k = 2 ∨ x.k = 3 ∨ x.k = 4 ∨ x.k = 5 := by omega
      have hb1 := hb true
      have hb2 := hb false
      clear hb hw
      unfold jwS
      rcases hk5 with h | h | h | h | h
      · rw [if_pos h]
        have hGL : GloAll G [] := gloAll_nil
        refine fn_x Tryd.func6 Tryd.call6 rfl rfl rfl rfl hGL ?_
        intro C hC
        exact xw0
      · rw [if_neg (by omega), if_pos h]
        rw [if_neg (by decide), show false = eqB x.k 3 from (eqB_f.2 (by omega)).symm] at hb2
        have hGL : GloAll G [] := gloAll_nil
        refine fn_x Tryd.func6 Tryd.call6 rfl rfl rfl rfl hGL ?_
        intro C hC
        exact xw0
      · rw [if_neg (by omega), if_neg (by omega), if_pos h]
        rw [if_pos rfl, show true = eqB x.k 3 from (eqB_t.2 (by omega)).symm] at hb1
        have hGL : GloAll G [] := gloAll_nil
        refine fn_x Tryd.func6 Tryd.call6 rfl rfl rfl rfl hGL ?_
        intro C hC
        exact xw0
      · rw [if_neg (by omega), if_neg (by omega), if_neg (by omega), if_pos h]
        have hGL : GloAll G [] := gloAll_nil
        refine fn_x Tryd.func6 Tryd.call6 rfl rfl rfl rfl hGL ?_
        intro C hC
        exact xw0
      · rw [if_neg (by omega), if_neg (by omega), if_neg (by omega), if_neg (by omega), if_pos h]
        have hGL : GloAll G [] := gloAll_nil
        refine fn_x Tryd.func6 Tryd.call6 rfl rfl rfl rfl hGL ?_
        intro C hC
        exact xw0
    have hjl : (Lib.join ((List.range x.l.length).map (prJ n x)) [44]).length ≤ 13631488 := by
      rw [jw_arr (by omega), List.length_append, List.length_cons] at hw
      rw [joinC_lib]
      omega
    rw [jw_arr (by omega), ← joinC_lib]
    have hJ := fun v => strings_Join_row (G := G) (eT := none) ((List.range x.l.length).map (prJ n x)) [44] v (by rw [List.length_map, List.length_range]; omega) (by omega)
    rw [List.length_map, List.length_range] at hJ
    have ih := fun e i h1 h2 h3 => ref_JsonWrite (G := G) hB n e (atJ x.l i) h1 h2 h3
    clear hb hw hT
    generalize hLL : Lib.join ((List.range x.l.length).map (prJ n x)) [44] = LL at *
    have hGL : GloAll G [] := gloAll_nil
    refine fn_x Tryd.func6 Tryd.call6 rfl rfl rfl rfl hGL ?_
    intro C hC
    refine xn1 ?_
    intros
    refine lp_row 3 1 rfl ?_
    refine lp hC hGL (fun z : Nat × Value => [(1, .rop (Js.C d x) 0), (3, .own 0 z.2), (28, .list 4 x.l.length (jsF d x.l)), (29, .int .i64 (x.l.length : Nat)), (30, .int .i64 (z.1 : Nat))]) (fun z => [.row z.2 none 1 z.1 (strsC ((List.range z.1).map (prJ n x)))]) (fun z => z.1 ≤ x.l.length) (fun z => x.l.length - z.1) (0, .slice none 0 0) (Nat.zero_le _) env_w rfl ?_
    rintro ⟨k, v⟩ k1
    dsimp only at k1 ⊢
    by_cases hlt : k < x.l.length
    · obtain ⟨e, rfl, he⟩ := le_pos hd hlt
      have hz := sz_kid (d := e) hlt
      have h1 := ih e k (hc k hlt) he (by omega)
      have hTk := hTk k
      have hp := strs_push (prJ n x) k
      unfold Js.R at h1
      by_cases hk7 : x.k = 7
      · have hkl := h7 hk7
        rw [show prJ n x k = qtS (x.ks.getD k []) ++ [58] ++ jwS n (atJ x.l k) by unfold prJ; rw [if_pos hk7]] at hp
        have q1 := qtS_len (x.ks.getD k [])
        have q2 := lens_atJ x.ks k
        have q3 := jw_len n e _ he
        have q4 : (qtS (x.ks.getD k [])).length + [(58 : UInt8)].length ≤ 9223372036854775807 := by rw [List.length_singleton]; omega
        have q5 : (qtS (x.ks.getD k []) ++ [58]).length + (jwS n (atJ x.l k)).length ≤ 9223372036854775807 := by rw [List.length_append, List.length_singleton]; omega
        refine xn1 ?_
        intro _ va vk vc hva
        intros
        refine nxs (k + 1, .slice va vk vc) hlt (by dsimp only; omega) env_w ?_
        dsimp only
        rw [← hp]
        exact sub_w
      · rw [show prJ n x k = jwS n (atJ x.l k) by unfold prJ; rw [if_neg hk7]; rfl] at hp
        refine xn1 ?_
        intro _ va vk vc hva
        intros
        refine nxs (k + 1, .slice va vk vc) hlt (by dsimp only; omega) env_w ?_
        dsimp only
        rw [← hp]
        exact sub_w
    · obtain rfl : k = x.l.length := by omega
      have hJ := hJ v
      by_cases hk7 : x.k = 7
      · rw [if_pos hk7, if_pos hk7]
        exact xn0
      · rw [if_neg hk7, if_neg hk7]
        exact xn0
end Go.Proofs.YtmgkpbgfkjedeaaDoor
namespace Go.Proofs.YtmgkpbgfkjedeaaDoor
open Go Go.RowKit
theorem wr_rt {b : Nat} {t : List UInt8} {va : Option Addr} {vk vc : Nat} {H : Heap} (h : [bldC b (ptrA b) 1 (.slice va vk vc), bldR (.slice va vk vc) t].Sublist H) : Rt (fun r H => ∃ va vk vc, r = .ret (.tuple []) ∧ H = [bldC b (ptrA b) 1 (.slice va vk vc), bldR (.slice va vk vc) t]) (.tuple []) H := ⟨_, h, va, vk, vc, rfl, rfl⟩
theorem len_ok {a c : Nat} (h : a + c ≤ 33554432) : a + c ≤ 137438953472 := by omega
theorem joinC_range (f : Nat → List UInt8) (k : Nat) : joinC ((List.range (k + 1)).map f) = if k = 0 then f 0 else joinC ((List.range k).map f) ++ 44 :: f k := by
  rw [List.range_succ, List.map_append]
  show joinC ((List.range k).map f ++ [f k]) = _
  rw [joinC_snoc]
  cases k with
  | zero => rfl
  | succ k =>
    rw [if_neg (by simp [List.range_succ]), if_neg (by omega)]
theorem joinC_mono (f : Nat → List UInt8) {k m : Nat} (h : k ≤ m) : (joinC ((List.range k).map f)).length ≤ (joinC ((List.range m).map f)).length := by
  induction m with
  | zero => obtain rfl : k = 0 := by omega
            exact Nat.le_refl _
  | succ m ih =>
    rcases Nat.lt_or_ge m k with g | g
    · obtain rfl : k = m + 1 := by omega
      exact Nat.le_refl _
    · refine Nat.le_trans (ih g) ?_
      rw [joinC_range]
      split
      · rename_i h0
        subst h0
        exact Nat.zero_le _
      · rw [List.length_append]; omega
set_option maxRecDepth 20000
set_option maxHeartbeats 4000000
set_option linter.unusedSimpArgs false
set_option linter.unusedVariables false
attribute [local irreducible] AWp AOps byteAt SrcOK OrOk GloAll FnSpec
attribute [local irreducible] qtT qtS jwS joinC
theorem json_write {G : Glo} (n : Nat) : ∀ (d : Nat) (x : Js) (b : Nat) (p v : Value) (s : List UInt8), jrE n x = 0 → Js.le d x → Js.sz d x ≤ 1048576 → AddrOK b p → s.length + (jwS n x).length ≤ 33554432 →
    FnSpec Tryd.prog G 17 [.raw (ptrA b), Js.R d x] [bldC b p 1 v, bldR v s] (fun r H => ∃ va vk vc, r = .ret (.tuple []) ∧ H = [bldC b (ptrA b) 1 (.slice va vk vc), bldR (.slice va vk vc) (s ++ jwS n x)]) := by
  induction n with
  | zero => intro d x b p v s h; cases h
  | succ n ih =>
    intro d x b p v s h hd hs hp hl
    obtain ⟨hk, h7, hc⟩ := jr_ok h
    have h0 := sz_pos d x
    have h00 := sz_len hd
    unfold Js.R
    have hT := json_quoted (G := G) x.t (by omega)
    have hTk := fun i => json_quoted (G := G) (x.ks.getD i []) (by have := lens_atJ x.ks i; omega)
    by_cases h5 : x.k ≤ 5
    · have hk5 : x.k = 1 ∨ x.k = 2 ∨ x.k = 3 ∨ x.k = 4 ∨ x.k = 5 := by omega
      unfold jwS at hl ⊢
      rcases hk5 with h | h | h | h | h
      · rw [if_pos h] at hl ⊢
        have hGL : GloAll G [] := gloAll_nil
        refine fn_xo 0 Tryd.func17 Tryd.call17 rfl rfl rfl rfl hGL rfl ?_
        intro C hC
        refine xn1 ?_
        intros
        apply cx_bld (i := 0) (j := 1) rfl rfl (by decide) (write_string1 hp v s _ (len_ok hl))
        intro va vk vc
        refine xn1 ?_
        exact wr_rt (List.Sublist.refl _)
      · rw [if_neg (by omega), if_pos h] at hl ⊢
        have hGL : GloAll G [] := gloAll_nil
        refine fn_xo 0 Tryd.func17 Tryd.call17 rfl rfl rfl rfl hGL rfl ?_
        intro C hC
        refine xn1 ?_
        intros
        apply cx_bld (i := 0) (j := 1) rfl rfl (by decide) (write_string1 hp v s _ (len_ok hl))
        intro va vk vc
        refine xn1 ?_
        exact wr_rt (List.Sublist.refl _)
      · rw [if_neg (by omega), if_neg (by omega), if_pos h] at hl ⊢
        have hGL : GloAll G [] := gloAll_nil
        refine fn_xo 0 Tryd.func17 Tryd.call17 rfl rfl rfl rfl hGL rfl ?_
        intro C hC
        refine xn1 ?_
        intros
        apply cx_bld (i := 0) (j := 1) rfl rfl (by decide) (write_string1 hp v s _ (len_ok hl))
        intro va vk vc
        refine xn1 ?_
        exact wr_rt (List.Sublist.refl _)
      · rw [if_neg (by omega), if_neg (by omega), if_neg (by omega), if_pos h] at hl ⊢
        have hGL : GloAll G [] := gloAll_nil
        refine fn_xo 0 Tryd.func17 Tryd.call17 rfl rfl rfl rfl hGL rfl ?_
        intro C hC
        refine xn1 ?_
        intros
        apply cx_bld (i := 0) (j := 1) rfl rfl (by decide) (write_string1 hp v s _ (len_ok hl))
        intro va vk vc
        refine xn1 ?_
        exact wr_rt (List.Sublist.refl _)
      · rw [if_neg (by omega), if_neg (by omega), if_neg (by omega), if_neg (by omega), if_pos h] at hl ⊢
        have hGL : GloAll G [] := gloAll_nil
        refine fn_xo 0 Tryd.func17 Tryd.call17 rfl rfl rfl rfl hGL rfl ?_
        intro C hC
        refine xn1 ?_
        intros
        apply cx_bld (i := 0) (j := 1) rfl rfl (by decide) (write_string1 hp v s _ (len_ok hl))
        intro va vk vc
        refine xn1 ?_
        exact wr_rt (List.Sublist.refl _)
    rw [jw_arr (by omega)] at hl ⊢
    have hkn : ¬ (1 ≤ x.k ∧ x.k ≤ 5) := by omega
    generalize hO : (if x.k = 7 then (123 : UInt8) else 91) = op at *
    generalize hE : (if x.k = 7 then (125 : UInt8) else 93) = en at *
    have hO' : (x.k = 7 ∧ op = 123 ∧ en = 125) ∨ (x.k = 6 ∧ op = 91 ∧ en = 93) := by
      by_cases h : x.k = 7
      · rw [if_pos h] at hO hE; exact .inl ⟨h, hO.symm, hE.symm⟩
      · rw [if_neg h] at hO hE; exact .inr ⟨by omega, hO.symm, hE.symm⟩
    have hll := joinC_len ((List.range x.l.length).map (prJ n x))
    rw [List.length_append, List.length_cons, List.length_singleton] at hl
    have hpart : ∀ k, k ≤ x.l.length → (joinC ((List.range k).map (prJ n x))).length ≤ (joinC ((List.range x.l.length).map (prJ n x))).length := fun k hk => joinC_mono (prJ n x) hk
    have hrg := joinC_range (prJ n x)
    rcases hO' with ⟨hk7, rfl, rfl⟩ | ⟨hk6, rfl, rfl⟩
    · have hkl := h7 hk7
      have hpr : ∀ k, prJ n x k = qtS (x.ks.getD k []) ++ [58] ++ jwS n (atJ x.l k) := fun k => by unfold prJ; rw [if_pos hk7]
      have hGL : GloAll G [] := gloAll_nil
      refine fn_xo 0 Tryd.func17 Tryd.call17 rfl rfl rfl rfl hGL rfl ?_
      intro C hC
      refine xn1 ?_
      intros
      apply cx_bld (i := 0) (j := 1) rfl rfl (by decide) (write_string1 hp v s [123] (by rw [List.length_singleton]; omega))
      intro ua uk uc
      refine xn1 ?_
      refine lp hC hGL (fun z : Nat × Value => [(0, .own 0 (ptrA b)), (3, .rop (Js.C d x) 0), (5, .str [125]), (17, .list 4 x.l.length (jsF d x.l)), (18, .int .i64 (x.l.length : Nat)), (19, .int .i64 (z.1 : Nat))]) (fun z => [bldC b (ptrA b) 1 z.2, bldR z.2 (s ++ 123 :: joinC ((List.range z.1).map (prJ n x)))]) (fun z => z.1 ≤ x.l.length ∧ ∃ va vk vc, z.2 = .slice va vk vc) (fun z => x.l.length - z.1) (0, .slice ua uk uc) ⟨Nat.zero_le _, _, _, _, rfl⟩ env_w (by unfold joinC; rfl) ?_
      rintro ⟨k, _⟩ ⟨k1, va, vk, vc, rfl⟩
      dsimp only at k1 ⊢
      by_cases hlt : k < x.l.length
      · obtain ⟨e, rfl, he⟩ := le_pos hd hlt
        have hz := sz_kid (d := e) hlt
        have hTk := hTk k
        have hp1 := hpart (k + 1) hlt
        have hp0 := hpart k k1
        have hrg := hrg k
        have hpr := hpr k
        have hpl := congrArg List.length hpr
        rw [List.length_append, List.length_append, List.length_singleton] at hpl
        have h1 := fun va vk vc t ht => ih e (atJ x.l k) b (ptrA b) (.slice va vk vc) t (hc k hlt) he (by omega) (.inr rfl) ht
        unfold Js.R at h1
        by_cases hk0 : k = 0
        · subst hk0
          rw [if_pos rfl] at hrg
          have e0 : joinC ((List.range 0).map (prJ n x)) = [] := by unfold joinC; rfl
          rw [e0]
          rw [hrg] at hp1
          refine xn1 ?_
          intros
          apply cx_bld (i := 0) (j := 1) rfl rfl (by decide) (write_string1 (.inr rfl) (.slice va vk vc) (s ++ [123]) (qtS (x.ks.getD 0 []) ++ [58]) (by simp only [List.length_append, List.length_cons, List.length_nil]; omega))
          intro xa xk xc
          refine xn1 ?_
          intros
          apply cx_bld (i := 0) (j := 1) rfl rfl (by decide) (h1 xa xk xc (s ++ [123] ++ (qtS (x.ks.getD 0 []) ++ [58])) (by simp only [List.length_append, List.length_cons, List.length_nil]; omega))
          intro ya yk yc
          refine xn1 ?_
          refine nxs (1, .slice ya yk yc) ⟨hlt, _, _, _, rfl⟩ (by dsimp only; omega) env_w ?_
          dsimp only
          rw [hrg, hpr, show s ++ 123 :: (qtS (x.ks.getD 0 []) ++ [58] ++ jwS n (atJ x.l 0)) = s ++ [123] ++ (qtS (x.ks.getD 0 []) ++ [58]) ++ jwS n (atJ x.l 0) by simp]
          exact sub_w
        · rw [if_neg hk0] at hrg
          rw [hrg, List.length_append, List.length_cons] at hp1
          refine xn1 ?_
          intros
          apply cx_bld (i := 0) (j := 1) rfl rfl (by decide) (write_string1 (.inr rfl) (.slice va vk vc) (s ++ 123 :: joinC ((List.range k).map (prJ n x))) [44] (by simp only [List.length_append, List.length_cons, List.length_nil]; omega))
          intro ga gk gc
          refine xn1 ?_
          intros
          apply cx_bld (i := 0) (j := 1) rfl rfl (by decide) (write_string1 (.inr rfl) (.slice ga gk gc) (s ++ 123 :: joinC ((List.range k).map (prJ n x)) ++ [44]) (qtS (x.ks.getD k []) ++ [58]) (by simp only [List.length_append, List.length_cons, List.length_nil]; omega))
          intro xa xk xc
          refine xn1 ?_
          intros
          apply cx_bld (i := 0) (j := 1) rfl rfl (by decide) (h1 xa xk xc (s ++ 123 :: joinC ((List.range k).map (prJ n x)) ++ [44] ++ (qtS (x.ks.getD k []) ++ [58])) (by simp only [List.length_append, List.length_cons, List.length_nil]; omega))
          intro ya yk yc
          refine xn1 ?_
          refine nxs (k + 1, .slice ya yk yc) ⟨hlt, _, _, _, rfl⟩ (by dsimp only; omega) env_w ?_
          dsimp only
          rw [hrg, hpr, show s ++ 123 :: (joinC ((List.range k).map (prJ n x)) ++ 44 :: (qtS (x.ks.getD k []) ++ [58] ++ jwS n (atJ x.l k))) = s ++ 123 :: joinC ((List.range k).map (prJ n x)) ++ [44] ++ (qtS (x.ks.getD k []) ++ [58]) ++ jwS n (atJ x.l k) by simp]
          exact sub_w
      · obtain rfl : k = x.l.length := by omega
        refine xn1 ?_
        intros
        apply cx_bld (i := 0) (j := 1) rfl rfl (by decide) (write_string1 (.inr rfl) (.slice va vk vc) (s ++ 123 :: joinC ((List.range x.l.length).map (prJ n x))) [125] (by simp only [List.length_append, List.length_cons, List.length_nil]; omega))
        intro ya yk yc
        refine xn1 ?_
        refine wr_rt (va := ya) (vk := yk) (vc := yc) ?_
        rw [show s ++ (123 :: joinC ((List.range x.l.length).map (prJ n x)) ++ [125]) = s ++ 123 :: joinC ((List.range x.l.length).map (prJ n x)) ++ [125] by simp]
        exact List.Sublist.refl _
    · have hpr : ∀ k, prJ n x k = jwS n (atJ x.l k) := fun k => by unfold prJ; rw [if_neg (by omega)]; rfl
      have hGL : GloAll G [] := gloAll_nil
      refine fn_xo 0 Tryd.func17 Tryd.call17 rfl rfl rfl rfl hGL rfl ?_
      intro C hC
      refine xn1 ?_
      intros
      apply cx_bld (i := 0) (j := 1) rfl rfl (by decide) (write_string1 hp v s [91] (by rw [List.length_singleton]; omega))
      intro ua uk uc
      refine xn1 ?_
      refine lp hC hGL (fun z : Nat × Value => [(0, .own 0 (ptrA b)), (3, .rop (Js.C d x) 0), (5, .str [93]), (17, .list 4 x.l.length (jsF d x.l)), (18, .int .i64 (x.l.length : Nat)), (19, .int .i64 (z.1 : Nat))]) (fun z => [bldC b (ptrA b) 1 z.2, bldR z.2 (s ++ 91 :: joinC ((List.range z.1).map (prJ n x)))]) (fun z => z.1 ≤ x.l.length ∧ ∃ va vk vc, z.2 = .slice va vk vc) (fun z => x.l.length - z.1) (0, .slice ua uk uc) ⟨Nat.zero_le _, _, _, _, rfl⟩ env_w (by unfold joinC; rfl) ?_
      rintro ⟨k, _⟩ ⟨k1, va, vk, vc, rfl⟩
      dsimp only at k1 ⊢
      by_cases hlt : k < x.l.length
      · obtain ⟨e, rfl, he⟩ := le_pos hd hlt
        have hz := sz_kid (d := e) hlt
        have hTk := hTk k
        have hp1 := hpart (k + 1) hlt
        have hp0 := hpart k k1
        have hrg := hrg k
        have hpr := hpr k
        have hpl := congrArg List.length hpr
        have h1 := fun va vk vc t ht => ih e (atJ x.l k) b (ptrA b) (.slice va vk vc) t (hc k hlt) he (by omega) (.inr rfl) ht
        unfold Js.R at h1
        by_cases hk0 : k = 0
        · subst hk0
          rw [if_pos rfl] at hrg
          have e0 : joinC ((List.range 0).map (prJ n x)) = [] := by unfold joinC; rfl
          rw [e0]
          rw [hrg] at hp1
          refine xn1 ?_
          intros
          apply cx_bld (i := 0) (j := 1) rfl rfl (by decide) (h1 va vk vc (s ++ [91]) (by simp only [List.length_append, List.length_cons, List.length_nil]; omega))
          intro ya yk yc
          refine xn1 ?_
          refine nxs (1, .slice ya yk yc) ⟨hlt, _, _, _, rfl⟩ (by dsimp only; omega) env_w ?_
          dsimp only
          rw [hrg, hpr, show s ++ 91 :: jwS n (atJ x.l 0) = s ++ [91] ++ jwS n (atJ x.l 0) by simp]
          exact sub_w
        · rw [if_neg hk0] at hrg
          rw [hrg, List.length_append, List.length_cons] at hp1
          refine xn1 ?_
          intros
          apply cx_bld (i := 0) (j := 1) rfl rfl (by decide) (write_string1 (.inr rfl) (.slice va vk vc) (s ++ 91 :: joinC ((List.range k).map (prJ n x))) [44] (by simp only [List.length_append, List.length_cons, List.length_nil]; omega))
          intro ga gk gc
          refine xn1 ?_
          intros
          apply cx_bld (i := 0) (j := 1) rfl rfl (by decide) (h1 ga gk gc (s ++ 91 :: joinC ((List.range k).map (prJ n x)) ++ [44]) (by simp only [List.length_append, List.length_cons, List.length_nil]; omega))
          intro ya yk yc
          refine xn1 ?_
          refine nxs (k + 1, .slice ya yk yc) ⟨hlt, _, _, _, rfl⟩ (by dsimp only; omega) env_w ?_
          dsimp only
          rw [hrg, hpr, show s ++ 91 :: (joinC ((List.range k).map (prJ n x)) ++ 44 :: jwS n (atJ x.l k)) = s ++ 91 :: joinC ((List.range k).map (prJ n x)) ++ [44] ++ jwS n (atJ x.l k) by simp]
          exact sub_w
      · obtain rfl : k = x.l.length := by omega
        refine xn1 ?_
        intros
        apply cx_bld (i := 0) (j := 1) rfl rfl (by decide) (write_string1 (.inr rfl) (.slice va vk vc) (s ++ 91 :: joinC ((List.range x.l.length).map (prJ n x))) [93] (by simp only [List.length_append, List.length_cons, List.length_nil]; omega))
        intro ya yk yc
        refine xn1 ?_
        refine wr_rt (va := ya) (vk := yk) (vc := yc) ?_
        rw [show s ++ (91 :: joinC ((List.range x.l.length).map (prJ n x)) ++ [93]) = s ++ 91 :: joinC ((List.range x.l.length).map (prJ n x)) ++ [93] by simp]
        exact List.Sublist.refl _
end Go.Proofs.YtmgkpbgfkjedeaaDoor
namespace Go.Proofs.YtmgkpbgfkjedeaaDoor
open Go Go.RowKit
noncomputable def jwT (x : Js) : List UInt8 := if jrE 12 x = 0 then jwS 12 x else []
set_option maxRecDepth 20000
set_option maxHeartbeats 4000000
set_option linter.unusedSimpArgs false
set_option linter.unusedVariables false
attribute [local irreducible] AWp AOps byteAt SrcOK OrOk GloAll FnSpec
attribute [local irreducible] jwS
theorem json_Right {G : Glo} (d : Nat) (x : Js) (hd : Js.le d x) (hs : Js.sz d x ≤ 1048576) : FnIs Tryd.prog G 9 [Js.R d x] (jErr (jrE 12 x)).A := by
  have h := json_right (G := G) 12 d x (by decide) hd (sz_fit hd hs)
  rw [show (13 - ((12 : Nat) : Int)) = 1 by decide] at h
  unfold Js.R at h ⊢
  generalize (jErr (jrE 12 x)).A = E at *
  have hGL : GloAll G [] := gloAll_nil
  refine fn_x Tryd.func9 Tryd.call9 rfl rfl rfl rfl hGL ?_
  intro C hC
  exact xw0
theorem json_Write {G : Glo} (d : Nat) (x : Js) (hd : Js.le d x) (hs : Js.sz d x ≤ 1048576) : FnIs Tryd.prog G 7 [Js.R d x] (.tuple [.str (jwT x), (jErr (jrE 12 x)).A]) := by
  have h := json_Right (G := G) d x hd hs
  unfold jwT
  by_cases h0 : jrE 12 x = 0
  · have hl := jw_len 12 d x hd
    have hw := fun b => json_write (G := G) 12 d x b (.pointer none) (.slice none 0 0) [] h0 hd hs (.inl rfl) (by rw [List.length_nil]; omega)
    rw [if_pos h0]
    rw [h0, show jErr 0 = .none from rfl] at h ⊢
    unfold Js.R at h hw ⊢
    simp only [Err.A] at h ⊢
    have hGL : GloAll G [] := gloAll_nil
    refine fn_a Tryd.func7 Tryd.call7 rfl rfl rfl rfl ?_
    intro C hC
    refine cut hC hGL [(1, .rop (Js.C d x) 0)] [] True xn0 fun _ => ?_
    refine cut hC hGL [(1, .rop (Js.C d x) 0)] [] True xn0 fun _ => ?_
    refine cuty hC hGL (fun b : Nat => [(1, .rop (Js.C d x) 0), (5, .own 0 (ptrA b))]) (fun b => [.cells b (some 47) [.raw (.pointer none), .raw (.slice none 0 0)]]) (fun _ => True) ?_ ?_
    · refine xn1 ?_
      intro b
      exact cy b trivial
    intro b _
    refine aw_bld 0 rfl ?_
    refine aw_code hC hGL (xn1 ?_)
    apply cx_bld (i := 0) (j := 1) rfl rfl (by decide) (hw b)
    intro va vk vc
    refine xn1 ?_
    apply cx_ble (i := 0) (j := 1) rfl rfl (by decide) (builder_string (jwS 12 x) (by omega))
    exact xn0
  · rw [if_neg h0]
    rw [jErr_ne h0] at h ⊢
    unfold Js.R at h ⊢
    simp only [Err.A, errA] at h ⊢
    have hGL : GloAll G [] := gloAll_nil
    refine fn_x Tryd.func7 Tryd.call7 rfl rfl rfl rfl hGL ?_
    intro C hC
    exact xw0
theorem law_weight {G : Glo} : ∀ (m d : Nat) (x : Js), m ≤ 21 → Js.le d x → Js.fit d x → FnSpec Tryd.prog G 10 [Js.R d x, .int .i64 (21 - (m : Int))] [] (fun r H => (∃ a, r = .ret a ∧ ∃ z, a = .int .i64 z) ∧ H = [])
  | 0, d, x, hm, hd, hx => by
    obtain ⟨f1, f2, f3, f4⟩ := fit_1 hx
    unfold Js.R
    have hGL : GloAll G [] := gloAll_nil
    refine fn_x Tryd.func10 Tryd.call10 rfl rfl rfl rfl hGL ?_
    intro C hC
    refine xw1 ?_
    intros
    exact ⟨[], List.nil_sublist _, ⟨_, rfl, _, rfl⟩, rfl⟩
  | m + 1, d, x, hm, hd, hx => by
    obtain ⟨f1, f2, f3, f4⟩ := fit_1 hx
    unfold Js.R
    have hGL : GloAll G [] := gloAll_nil
    refine fn_x Tryd.func10 Tryd.call10 rfl rfl rfl rfl hGL ?_
    intro C hC
    refine xw1 ?_
    intros
    refine lp hC hGL (fun z : Nat × Int => [(1, .int .i64 (21 - ((m + 1 : Nat) : Int))), (5, .int .i64 z.2), (20, .list 4 x.l.length (jsF d x.l)), (21, .int .i64 (x.l.length : Nat)), (22, .int .i64 (z.1 : Nat))]) (fun _ => []) (fun z => z.1 ≤ x.l.length) (fun z => x.l.length - z.1) (0, _) (Nat.zero_le _) ⟨rfl, rfl, rfl, rfl, rfl, trivial⟩ rfl ?_
    rintro ⟨k, a⟩ k1
    dsimp only at k1 ⊢
    by_cases hlt : k < x.l.length
    · obtain ⟨e, rfl, he⟩ := le_pos hd hlt
      have h1 := law_weight (G := G) m e (atJ x.l k) (by omega) he (hx.2 k hlt)
      unfold Js.R at h1
      rw [show (21 - (m : Int)) = 21 - ((m + 1 : Nat) : Int) + 1 by omega] at h1
      refine xw1 ?_
      intros
      refine cx_any h1 ?_
      rintro _ ⟨z, rfl⟩
      (conv => whnf)
      refine ch_r ?_
      generalize IntKind.wrap IntKind.i64 (a + z) = z2
      refine xw ?_
      repeat' (first | exact Le.n | refine Lc.mk ?_ ?_)
      all_goals intros
      all_goals intros
      · exact ⟨[], List.nil_sublist _, ⟨_, rfl, _, rfl⟩, rfl⟩
      · exact nxs (k + 1, z2) hlt (by dsimp only; omega) env_w sub_w
    · refine xw1 ?_
      intros
      exact ⟨[], List.nil_sublist _, ⟨_, rfl, _, rfl⟩, rfl⟩
theorem law_deep {G : Glo} (d : Nat) (x : Js) (hd : Js.le d x) (hx : Js.fit d x) : FnSpec Tryd.prog G 4 [Js.R d x] [] (fun r H => (∃ a, r = .ret a ∧ ∃ b, a = .bool b) ∧ H = []) := by
  have h := law_weight (G := G) 20 d x (by decide) hd hx
  rw [show (21 - ((20 : Nat) : Int)) = 1 by decide] at h
  unfold Js.R at h ⊢
  have hGL : GloAll G [] := gloAll_nil
  refine fn_x Tryd.func4 Tryd.call4 rfl rfl rfl rfl hGL ?_
  intro C hC
  refine xw1 ?_
  refine cx_any h ?_
  rintro _ ⟨z, rfl⟩
  refine xw1 ?_
  exact ⟨[], List.nil_sublist _, ⟨_, rfl, _, rfl⟩, rfl⟩
theorem law_JsonWrites {G : Glo} (hE : GloAll G errTy) (hU : GloAll G utfTy) (hB : GloAll G bruTy) (d : Nat) (x : Js) (hd : Js.le d x) (hs : Js.sz d x ≤ 1048576) : FnIs Tryd.prog G 3 [Js.R d x] (.bool true) := by
  have h0 := law_deep (G := G) d x hd (sz_fit hd hs)
  have h1 := ref_JsonRight (G := G) hU 12 d x (by decide) hd (sz_fit hd hs)
  rw [show (13 - ((12 : Nat) : Int)) = 1 by decide] at h1
  have h2 := json_Write (G := G) d x hd hs
  have h3 := json_Right (G := G) d x hd hs
  have h4 := bare_ok (G := G) hE (jErr (jrE 12 x)) (jErr_e _).2
  rw [(jErr_e _).1] at h4
  have hc1 := Tryd.call8
  have hc2 := Tryd.call9
  have h5 := ref_JsonWrite (G := G) hB 12 d x
  unfold jwT at h2
  unfold Js.R at *
  by_cases hz : jrE 12 x = 0
  · have h5 := h5 hz hd hs
    rw [if_pos hz, hz] at h2
    rw [hz] at h1 h3 h4
    rw [show jErr 0 = .none from rfl] at h2 h3 h4
    simp only [Err.A] at h2 h3 h4
    have hGL : GloAll G [] := gloAll_nil
    refine fn_x Tryd.func3 Tryd.call3 rfl rfl rfl rfl hGL ?_
    intro C hC
    refine xw1 ?_
    refine cx_any h0 ?_
    rintro _ ⟨b, rfl⟩
    cases b
    · exact xw0
    · exact xw0
  · rw [if_neg hz] at h2
    rw [jErr_ne hz] at h2 h3 h4
    simp only [Err.A, errA] at h2 h3 h4
    generalize jrE 12 x = e at *
    have hGL : GloAll G [] := gloAll_nil
    refine fn_x Tryd.func3 Tryd.call3 rfl rfl rfl rfl hGL ?_
    intro C hC
    refine xw1 ?_
    refine cx_any h0 ?_
    rintro _ ⟨b, rfl⟩
    cases b
    · exact xw0
    · exact xw0
end Go.Proofs.YtmgkpbgfkjedeaaDoor
namespace Go.Proofs.YtmgkpbgfkjedeaaDoor
open Go Go.RowKit
/-- A parameter. -/
structure Pr where
  n : List UInt8
  vs : List (List UInt8)
def Pr.z : Pr := ⟨[], []⟩
instance : Inhabited Pr := ⟨Pr.z⟩
/-- A line as it stands. -/
structure Ln where
  g : List UInt8
  n : List UInt8
  ps : List Pr
  v : List UInt8
def prF (ps : List Pr) (i : Nat) : AVal := .agg [.str (ps.getD i Pr.z).n, .list 1 (ps.getD i Pr.z).vs.length (strsF (ps.getD i Pr.z).vs)]
def Ln.A (p : Ln) : AVal := .agg [.str p.g, .str p.n, .list 2 p.ps.length (prF p.ps), .str p.v]
/-- How much a line may hold. -/
structure Ln.OK (N : Nat) (p : Ln) : Prop where
  g : p.g.length ≤ N
  n : p.n.length ≤ N
  v : p.v.length ≤ N
  ps : p.ps.length ≤ N
  q : ∀ k, (p.ps.getD k Pr.z).n.length ≤ N ∧ (p.ps.getD k Pr.z).vs.length ≤ N ∧ Lib.lens (p.ps.getD k Pr.z).vs ≤ N
/-- The same, where the value may be long. -/
structure Ln.Fit (p : Ln) : Prop where
  g : p.g.length ≤ 2500
  n : p.n.length ≤ 2500
  v : p.v.length ≤ 140737488355328
  ps : p.ps.length ≤ 2500
  q : ∀ k, (p.ps.getD k Pr.z).n.length ≤ 2500 ∧ (p.ps.getD k Pr.z).vs.length ≤ 2500 ∧ Lib.lens (p.ps.getD k Pr.z).vs ≤ 2500
theorem Ln.OK.fit {p : Ln} (h : p.OK 2500) : p.Fit := ⟨h.g, h.n, by have := h.v; omega, h.ps, h.q⟩
end Go.Proofs.YtmgkpbgfkjedeaaDoor
namespace Go.Proofs.YtmgkpbgfkjedeaaDoor
open Go
theorem Tryd.own : ownKnob Tryd.prog.godebug = none := by kernel_rfl
/-- All blocks below, sealed as they stand. -/
def sealBelow (W : World) (k : Nat) : Seal := fun b => if b < k then W.heap[b]? else none
theorem sealBelow_ok (W : World) (k : Nat) : Sealed (sealBelow W k) W := by
  intro b o h
  unfold sealBelow at h
  split at h
  · exact h
  · cases h
theorem ms_start (W : World) (R : Seal) (G : Glo) (hG : G.p R) (hs : Sealed R W) : MS ⟨W, R, blks [], G, hG, []⟩ R [] W :=
  ⟨hs, Seal.le_refl R, fun _ hb => .inl hb, ⟨fun _ h => absurd h List.not_mem_nil, List.nodup_nil, fun _ h => absurd h List.not_mem_nil⟩, fun _ h => absurd h List.not_mem_nil, Ext.refl W _⟩
theorem keptBut_of_ext {W W' : World} (h : Ext W [] W') (may : MemPlace → Prop) : W.keptBut W' may := by
  refine ⟨h.os, h.output, fun i hi => ?_⟩
  rw [h.block i hi (by simp)]
  generalize W.heap[i]? = o
  cases o with
  | none => rfl
  | some o =>
    cases o with
    | cells c t fr => exact ⟨rfl, rfl, rfl, fun _ _ => rfl⟩
    | map es clock => exact .inr ⟨rfl, rfl⟩
    | _ => rfl
end Go.Proofs.YtmgkpbgfkjedeaaDoor
