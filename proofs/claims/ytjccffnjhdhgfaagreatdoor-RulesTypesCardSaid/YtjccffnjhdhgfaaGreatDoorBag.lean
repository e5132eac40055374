/- Parts of the proof of rulesTypes_card: Lai, Rui, Upt, Lnb, Rum. -/
import Derived.Lib.ItoaNum
import Derived.Deep.Strs
import Derived.Shelf.Vars
import Derived.SizedLaws
import Derived.Lib.Join
import Derived.Test.YtjccffnjhdhgfaaGreatDoorBae
import Derived.Test.YtjccffnjhdhgfaaGreatDoorBaf
import Derived.Test.YtjccffnjhdhgfaaGreatDoorBad
import Derived.Test.YtjccffnjhdhgfaaGreatDoorBaa
set_option linter.unusedVariables false
set_option linter.unusedSimpArgs false
namespace Go.Proofs.YtjccffnjhdhgfaaGreatDoor
open Go
theorem chunks {α β : Type} (k : Nat) (E : α → List β) (hE : ∀ z, (E z).length = k) : ∀ (zs : List α) (cs : List β), cs.length = zs.length * k →
    (∀ i z, zs[i]? = some z → (cs.drop (i * k)).take k = E z) → cs = zs.flatMap E
  | [], cs, hl, _ => by
    simp only [List.length_nil, Nat.zero_mul] at hl
    simp [List.eq_nil_of_length_eq_zero hl]
  | z :: zs, cs, hl, h => by
    have h0 := h 0 z rfl
    simp only [Nat.zero_mul, List.drop_zero] at h0
    have hr := chunks k E hE zs (cs.drop k) (by rw [List.length_drop, hl, List.length_cons, Nat.succ_mul]; omega) (fun i y hy => by
      have := h (i + 1) y hy
      rw [List.drop_drop]
      rw [Nat.succ_mul, Nat.add_comm] at this
      exact this)
    rw [List.flatMap_cons, ← h0, ← hr, List.take_append_drop]
section
variable {P : Program} {H : Type} {enc : TypeId × Value → H} {w : World} {base : Nat} {spare : Nat → Bool} {held : Bool}
theorem trod_ints {t e n fuel : Nat} {k : IntKind} {cs : List Value} {ps : List MemPlace} {zs : List Nat} (ht : P.underlying t = some (.array n e)) (he : P.underlying e = some (.int k)) (hc : P.cellsOf e = 1) (hct : P.cellsOf t = n)
    (h : DataW.trod enc P w base spare held fuel t cs = some (.agg (zs.map fun x : Nat => .lit (.int k (x : Int))), ps)) (hz : zs.length = n) : cs = zs.flatMap fun x : Nat => [Value.int k (x : Int)] := by
  obtain ⟨xs, m, _, ex, hl, hxl, hel⟩ := DataW.trod_array ht h
  have e3 : (xs.map (·.1)) = zs.map fun x : Nat => .lit (.int k x) := (DataW.agg.inj (Prod.mk.inj ex).1).symm
  refine chunks 1 _ (fun _ => rfl) zs cs (by omega) (fun i z hi => ?_)
  have hin : i < zs.length := (List.getElem?_eq_some_iff.1 hi).1
  have hE := hel i (by omega)
  rw [hc, List.getElem?_eq_getElem (by omega)] at hE
  obtain ⟨y, e1, e2, _⟩ := DataW.trod_int he hE
  have e4 : (xs.map (·.1))[i]? = (zs.map fun x : Nat => (DataW.lit (.int k x) : DataW H))[i]? := by rw [e3]
  rw [List.getElem?_map, List.getElem?_map, List.getElem?_eq_getElem (by omega : i < xs.length), hi, e2] at e4
  simp only [Option.map_some, Option.some.injEq, DataW.lit.injEq, Lit.int.injEq, true_and] at e4
  rw [e1, e4]
end
/-- One laid variable. -/
theorem laid_at {P : Program} {W : World} {laid : List (String × DataW Unit)} (hL : laidMetH P laid W) {n : String} {d : DataW Unit} (hm : (n, d) ∈ laid) (hn : d.handleName?.isNone = true) {g : Nat} {t : TypeId} (hg : P.globalNamed n = some g) (ht : (P.globals[g]?).map (·.type) = some t) :
    ∃ cs e fz fuel p, W.heap[g]? = some (.cells cs e fz) ∧ DataW.trod (fun _ => ()) P W 0 (fun _ => true) false fuel t cs.toList = some (d, p) := by
  have h1 := (laidMetH_iff.1 hL).1
  obtain ⟨ps, h, _⟩ := h1
  have key : ∀ (l : List (String × DataW Unit)) (ps : List MemPlace), DataW.LaidVars P W l ps → (n, d) ∈ l → ∃ cs e fz fuel p, W.heap[g]? = some (.cells cs e fz) ∧ DataW.trod (fun _ => ()) P W 0 (fun _ => true) false fuel t cs.toList = some (d, p) := by
    intro l
    induction l with
    | nil => intro ps _ hm; cases hm
    | cons a r ih =>
      obtain ⟨m, b⟩ := a
      rintro ps ⟨g', t', cs, fuel, p, q, e1, e2, e3, e4, e5, _⟩ hm
      rcases List.mem_cons.1 hm with hm | hm
      · cases hm
        obtain rfl := Option.some.inj (hg.symm.trans e1)
        obtain rfl := Option.some.inj (ht.symm.trans e2)
        obtain ⟨e, fz, hh⟩ := var_heap hg e3
        exact ⟨cs, e, fz, fuel, p, hh, e4⟩
      · exact ih q e5 hm
  exact key _ ps h (List.mem_filter.2 ⟨hm, hn⟩)
/-- The wrap of a row with a listed table, the world's shape kept. -/
theorem returnsInHanded_shaped {H : Type} {enc : TypeId × Value → H} {a : Assume} {C : Checked} {os : Os} {f : FuncId} {fn : Func} {s : ChangeSpec} {conds : List PathCond} {apart fresh handsOn again : Bool} {X : World → Array Value → Prop}
    (hX : ∀ (w w' : World) (args : Array Value), w.heap = w'.heap → X w args → X w' args)
    (own : ownKnob C.prog.godebug = none) (started : os.Started) (noInit : C.prog.inits.idxOf? f = none) (hfn : C.prog.funcs[f]? = some fn)
    (witness : ∃ (w : World) (tape : Tape) (i : Input), w.os = os ∧ (w.forCall tape i).Shaped C.prog ∧ i.vars = [] ∧ Input.okWide C.prog (w.forCall tape i) .any w.heap.size f i ∧
      ((s.pre enc C.prog fn conds apart (w.forCall tape i).memory i.args ∧ X (w.forCall tape i).memory i.args) ∧ sizedMet enc C.prog fn (OpenSpec.ofChange s) apart (w.forCall tape i).memory i.args) ∧ a.holds C.prog (lone (Frame.enter C.prog f i.args .normal) [] (w.forCall tape i)))
    (contract : ∀ (W : World) (base : Nat) (args : Array Value) (ds gs : List (DataW H)) (before : List MemPlace),
      (∀ (j : Nat) t v, fn.params[j]? = some t → args[j]? = some v → Value.okWide C.prog W .any base t v) →
      DataW.Whole enc C.prog fn.params.toList s.vars apart W args.toList ds gs before →
      conds.all (PathCond.test C.prog ⟨fn.params.toList, ds, s.plain.varTypes C.prog, gs⟩) = true →
      X W args → W.ShapedOpen C.prog →
      Calls C.prog f args W fun e W' => ∃ v, e = .returned v ∧ s.post enc C.prog fn apart fresh handsOn again W args v W') :
    ReturnsInHanded a C os f .any (fun w args => (s.pre enc C.prog fn conds apart w args ∧ X w args) ∧ sizedMet enc C.prog fn (OpenSpec.ofChange s) apart w args) (s.post enc C.prog fn apart fresh handsOn again) := by
  refine returnsInHanded_of_calls own started noInit witness ?_
  intro w tape i _ hsh _ hok hpre _
  obtain ⟨_, _, _, fn', hfn', _, _, _, _, hval⟩ := hok
  have e : fn' = fn := Option.some.inj (hfn'.symm.trans hfn)
  subst e
  obtain ⟨⟨⟨ds, gs, before, hw, hc⟩, hx⟩, _⟩ := hpre
  have hw' := DataW.Whole.of_heap (w' := w.forCall tape i) (by rfl) hw
  refine (contract (w.forCall tape i) w.heap.size i.args ds gs before hval hw' hc (hX _ _ _ (by rfl) hx) hsh).mono fun e W' ⟨v, he, hp⟩ => ?_
  subst he
  exact ChangeSpec.post_blind hp
def gloAnd (A B : Glo) : Glo := ⟨fun R => A.p R ∧ B.p R, fun R R' h k => ⟨A.mono R R' h k.1, B.mono R R' h k.2⟩⟩
theorem gloAll_l {A B : Glo} {L : List (Nat × List AVal)} (h : GloAll A L) : GloAll (gloAnd A B) L := fun g cs hg R hR => h g cs hg R hR.1
theorem block_lt {W : World} {g : Nat} {o : Obj} (h : W.heap[g]? = some o) : g < W.heap.size := (Array.getElem?_eq_some_iff.1 h).1
theorem laid_lt {W : World} {laid : List (String × DataW Unit)} (hL : laidMetH Tryz.prog laid W) {n : String} {d : DataW Unit} (hm : (n, d) ∈ laid) (hn : d.handleName?.isNone = true) {g : Nat} {t : TypeId} (hg : Tryz.prog.globalNamed n = some g) (ht : (Tryz.prog.globals[g]?).map (·.type) = some t) : g < W.heap.size := by
  obtain ⟨_, _, _, _, _, hW, _⟩ := laid_at hL hm hn hg ht
  exact block_lt hW
end Go.Proofs.YtjccffnjhdhgfaaGreatDoor
namespace Go.Proofs.YtjccffnjhdhgfaaGreatDoor
open Go Go.ChangeShapes Go.WideShapes
def gloSp : Glo := ⟨fun R => ∃ e fz, R 0 = some (.cells (Lib.asciiSpaceTab.map fun z => Value.int .u8 z).toArray e fz), fun _ _ hle ⟨e, fz, h⟩ => ⟨e, fz, hle _ _ h⟩⟩
theorem sp_laid {W : World} {k : Nat} (hk : 0 < k) {laid : List (String × DataW Unit)} (hL : laidMetH Tryz.prog laid W) (hm : ("strings.asciiSpace", Rows.laid_strings_asciiSpace) ∈ laid) : gloSp.p (sealBelow W k) := by
  obtain ⟨C, e, fz, fuel, p, hW, hd⟩ := laid_at hL hm (by kernel_rfl) (g := 0) (t := 74) (by kernel_rfl) (by kernel_rfl)
  have e0 : (Rows.laid_strings_asciiSpace : DataW Unit) = .agg (((List.range 256).map fun i => if Lib.isSp (UInt8.ofNat i) then 1 else 0).map fun x : Nat => .lit (.int .u8 (x : Int))) := by kernel_rfl
  rw [e0] at hd
  have hc := trod_ints (n := 256) Tryz.underlying74 Tryz.underlying5 (by kernel_rfl) (by kernel_rfl) hd (by rw [List.length_map, List.length_range])
  have e1 : C = (Lib.asciiSpaceTab.map fun z => Value.int .u8 z).toArray := by
    apply Array.ext'
    rw [hc]
    kernel_rfl
  refine ⟨e, fz, ?_⟩
  unfold sealBelow
  rw [if_pos hk, hW, e1]
theorem glo_rules {W : World} {laid : List (String × DataW Unit)} (h1 : ("errors.errorType", Rows.laid_errors_errorType) ∈ laid) (h2 : ("strings.asciiSpace", Rows.laid_strings_asciiSpace) ∈ laid) (hL : laidMetH Tryz.prog laid W) : (gloAnd (gloOf errTy) gloSp).p (sealBelow W W.heap.size) := by
  refine ⟨fun x hx => ?_, sp_laid (laid_lt hL h2 (by kernel_rfl) (g := 0) (t := 74) (by kernel_rfl) (by kernel_rfl)) hL h2⟩
  obtain rfl := List.mem_singleton.1 (show x ∈ [_] from hx)
  exact error_laid (err_lt hL h1) hL h1
end Go.Proofs.YtjccffnjhdhgfaaGreatDoor
namespace Go.Proofs.YtjccffnjhdhgfaaGreatDoor
open Go.ChangeShapes Go.WideShapes Go.ChangeAt Go.RowKit Go.WideMaps Go.WideElems
section
variable {H : Type} {enc : TypeId × Value → H} {W : World}
/-- A row of cells in old memory, as a list. -/
theorem rel_list {m : Nat} {f : Nat → AVal} {a : Addr} {cap : Nat} (hm : m ≤ cap) {V : Nat → Value} (hV : ∀ i, i < m → W.cell? (a.add i) = some (V i) ∧ RelC (sealBelow W W.heap.size) (f i) [V i]) :
    Rel (sealBelow W W.heap.size) (.list 1 m f) (.slice (some a) m cap) := by
  refine ⟨⟨some a, cap, rfl, hm, ?_⟩, rfl⟩
  rcases Nat.eq_zero_or_pos m with h0 | h0
  · exact .inl h0
  · refine .inr ?_
    obtain ⟨b, o, sp⟩ := a
    have h1 := (hV 0 h0).1
    rw [show (⟨b, o, sp⟩ : Addr).add 0 = ⟨b, o, sp⟩ from rfl] at h1
    unfold World.cell? at h1
    dsimp only at h1
    cases hW : W.heap[b]? with
    | none => rw [hW] at h1; cases h1
    | some ob =>
      cases ob with
      | cells C e fz =>
        rw [hW] at h1
        cases sp with
        | some s => simp at h1
        | none =>
          refine ⟨b, o, C, e, fz, rfl, ?_, fun i hi => ?_⟩
          · unfold sealBelow
            rw [if_pos (Array.getElem?_eq_some_iff.1 hW).1]
            exact hW
          · obtain ⟨h2, h3⟩ := hV i hi
            have ha : (⟨b, o, none⟩ : Addr).add i = ⟨b, o + i, none⟩ := by
              unfold Addr.add
              split
              · rename_i h; rw [h]; rfl
              · rfl
            rw [ha] at h2
            have hci : C[o + i]? = some (V i) := by
              unfold World.cell? at h2
              simpa [hW] using h2
            have hlt : o + i < C.toList.length := by simpa using (Array.getElem?_eq_some_iff.1 hci).1
            have e1 : (C.toList.drop (o + i * 1)).take 1 = [V i] := by
              rw [Nat.mul_one, List.drop_eq_getElem_cons hlt, List.take_succ_cons, List.take_zero]
              have : C.toList[o + i]? = some (V i) := by rw [Array.getElem?_toList]; exact hci
              rw [List.getElem?_eq_getElem hlt] at this
              rw [Option.some.inj this]
            rw [e1]
            exact h3
      | _ => rw [hW] at h1; cases h1
end
end Go.Proofs.YtjccffnjhdhgfaaGreatDoor
namespace Go.Proofs.YtjccffnjhdhgfaaGreatDoor
open Go Go.ChangeShapes Go.WideShapes Go.ChangeAt Go.RowKit Go.WideMaps Go.WideElems
theorem two_of {α : Type} {l : List α} (h : l.length = 2) : ∃ a b, l = [a, b] := by
  match l, h with
  | [a, b], _ => exact ⟨a, b, rfl⟩
theorem addr_add (b o n : Nat) : (⟨b, o, none⟩ : Addr).add n = ⟨b, o + n, none⟩ := by
  unfold Addr.add
  split
  · rename_i h; rw [h]; rfl
  · rfl
theorem cell_none {W : World} {b o : Nat} {C : Array Value} {e : TypeId} {fz : Nat × Nat} (h : W.heap[b]? = some (.cells C e fz)) : W.cell? ⟨b, o, none⟩ = C[o]? := by
  unfold World.cell?
  simp [h]
section
variable {H : Type} {enc : TypeId × Value → H} {W : World}
/-- A row in old memory whose elements have several cells, as a list. -/
theorem rel_listZ {sz m : Nat} (hz : 0 < sz) {f : Nat → AVal} {a : Addr} {cap : Nat} (hm : m ≤ cap) {cs : Nat → List Value} (hV : ∀ i, i < m → W.cells? 0 (a.add (i * sz)) sz = some (cs i) ∧ RelC (sealBelow W W.heap.size) (f i) (cs i)) :
    Rel (sealBelow W W.heap.size) (.list sz m f) (.slice (some a) m cap) := by
  refine ⟨⟨some a, cap, rfl, hm, ?_⟩, rfl⟩
  rcases Nat.eq_zero_or_pos m with h0 | h0
  · exact .inl h0
  · refine .inr ?_
    obtain ⟨b, o, sp⟩ := a
    obtain ⟨_, hl0, hc0⟩ := World.cells?_some (hV 0 h0).1
    have h1 := hc0 0 hz
    rw [Nat.zero_mul, show (⟨b, o, sp⟩ : Addr).add 0 = ⟨b, o, sp⟩ from rfl, show (⟨b, o, sp⟩ : Addr).add 0 = ⟨b, o, sp⟩ from rfl, List.getElem?_eq_getElem (by omega)] at h1
    unfold World.cell? at h1
    dsimp only at h1
    cases hW : W.heap[b]? with
    | none => rw [hW] at h1; cases h1
    | some ob =>
      cases ob with
      | cells C e fz =>
        rw [hW] at h1
        cases sp with
        | some s => simp at h1
        | none =>
          refine ⟨b, o, C, e, fz, rfl, ?_, fun i hi => ?_⟩
          · unfold sealBelow
            rw [if_pos (Array.getElem?_eq_some_iff.1 hW).1]
            exact hW
          · obtain ⟨h2, h3⟩ := hV i hi
            obtain ⟨_, hl, hc⟩ := World.cells?_some h2
            have e1 : (C.toList.drop (o + i * sz)).take sz = cs i := by
              refine List.ext_getElem? fun k => ?_
              by_cases hk : k < sz
              · have h4 := hc k hk
                rw [addr_add, addr_add, cell_none hW] at h4
                rw [← h4, List.getElem?_take_of_lt hk, List.getElem?_drop, Array.getElem?_toList]
              · rw [List.getElem?_eq_none (by rw [List.length_take]; omega), List.getElem?_eq_none (by omega)]
            rw [e1]
            exact h3
      | _ => rw [hW] at h1; cases h1
end
end Go.Proofs.YtjccffnjhdhgfaaGreatDoor
namespace Go.Proofs.YtjccffnjhdhgfaaGreatDoor
open Go Go.ChangeShapes Go.WideShapes Go.ChangeAt Go.RowKit Go.WideMaps Go.WideElems
section
variable {H : Type} {enc : TypeId × Value → H} {W : World}
theorem rel_strsZ {fuel : Nat} {spare : Nat → Bool} {held : Bool} {v : Value} {x : DataW H × List MemPlace} (h : DataW.trod enc Tryz.prog W 0 spare held fuel 31 [v] = some x) :
    ∃ l : List (List UInt8), Rel (sealBelow W W.heap.size) (.list 1 l.length (strsF l)) v ∧ l.length ≤ maxLen ∧ ∀ k, (l.getD k []).length ≤ maxLen := by
  rcases Go.Deep.open_strs Tryz.underlying31 Tryz.underlying9 (by kernel_rfl) h with ⟨hv, rfl⟩ | ⟨a, len, cap, m, Sx, hv, _, hl, hcap, hm, rfl, hx⟩
  · obtain rfl : v = .slice none 0 0 := by simpa using hv
    exact ⟨[], ⟨⟨none, 0, rfl, Nat.le_refl _, .inl rfl⟩, rfl⟩, Nat.zero_le _, fun k => by rw [List.getD_nil]; exact Nat.zero_le _⟩
  · obtain rfl : v = .slice (some a) len cap := by simpa using hv
    have hlm : len ≤ m := by rw [hm]; split <;> omega
    let l : List (List UInt8) := (List.range len).map fun i => (Sx i).data.toList
    have hll : l.length = len := by simp [l]
    have hget : ∀ i, i < len → l.getD i [] = (Sx i).data.toList := fun i hi => by simp [l, List.getD, hi]
    refine ⟨l, ?_, by omega, fun k => ?_⟩
    · rw [hll]
      refine rel_list hl (V := fun i => .string (Sx i)) (fun i hi => ⟨(hx i (by omega)).1, ?_⟩)
      have := (rel_str (R := sealBelow W W.heap.size) (s := l.getD i []) (v := .string (Sx i))).2 (by rw [hget i hi, str_mk])
      exact this.1
    · by_cases hk : k < len
      · rw [hget k hk]
        exact (hx k (by omega)).2
      · rw [List.getD_eq_getElem?_getD, List.getElem?_eq_none (by omega)]
        exact Nat.zero_le _
/-- A parameter. -/
theorem rel_paramZ {fuel : Nat} {spare : Nat → Bool} {held : Bool} {cs : List Value} {x : DataW H × List MemPlace} (h : DataW.trod enc Tryz.prog W 0 spare held fuel 68 cs = some x) :
    ∃ q : Pr, RelC (sealBelow W W.heap.size) (.agg [.str q.n, .list 1 q.vs.length (strsF q.vs)]) cs ∧ q.n.length ≤ maxLen ∧ q.vs.length ≤ maxLen ∧ ∀ k, (q.vs.getD k []).length ≤ maxLen := by
  obtain ⟨xs, n, _, hx, hl, hxl, hf⟩ := DataW.trod_struct Tryz.underlying68 h
  have hc : Tryz.prog.cellsOf 68 = 2 := by kernel_rfl
  have hcs : Tryz.prog.cellsOf 9 = 1 := by kernel_rfl
  have hcp : Tryz.prog.cellsOf 31 = 1 := by kernel_rfl
  rw [hc] at hl
  have hxl : xs.length = 2 := hxl
  obtain ⟨x0, x1, rfl⟩ := two_of hxl
  obtain ⟨u0, u1, rfl⟩ := two_of hl
  have g0 : DataW.trod enc Tryz.prog W 0 spare held n 9 (([u0, u1].drop 0).take (Tryz.prog.cellsOf 9)) = some x0 := hf 0 _ rfl
  have g1 : DataW.trod enc Tryz.prog W 0 spare held n 31 (([u0, u1].drop 1).take (Tryz.prog.cellsOf 31)) = some x1 := hf 1 _ rfl
  rw [hcs] at g0
  rw [hcp] at g1
  simp only [List.drop_zero, List.drop_succ_cons, List.take_succ_cons, List.take_zero] at g0 g1
  obtain ⟨s0, q0, e0, hs0⟩ := DataW.trod_string Tryz.underlying9 g0
  obtain ⟨l, r1, hb1, hb2⟩ := rel_strsZ g1
  obtain rfl := List.singleton_inj.1 q0
  exact ⟨⟨s0.data.toList, l⟩, ⟨_, _, rfl, by rw [RelC, str_mk], _, _, rfl, rel_one r1 rfl, rfl⟩, hs0, hb1, hb2⟩
/-- A list of parameters. -/
theorem rel_paramsZ {fuel : Nat} {spare : Nat → Bool} {held : Bool} {v : Value} {x : DataW H × List MemPlace} (h : DataW.trod enc Tryz.prog W 0 spare held fuel 39 [v] = some x) :
    ∃ L : List Pr, Rel (sealBelow W W.heap.size) (.list 2 L.length (prF L)) v ∧ L.length ≤ maxLen ∧ ∀ k, (L.getD k Pr.z).n.length ≤ maxLen ∧ (L.getD k Pr.z).vs.length ≤ maxLen ∧ ∀ j, ((L.getD k Pr.z).vs.getD j []).length ≤ maxLen := by
  have hc : Tryz.prog.cellsOf 68 = 2 := by kernel_rfl
  rcases Go.Deep.open_slice Tryz.underlying39 h with ⟨hv, rfl⟩ | ⟨a, len, cap, m, n, D, Pl, hv, _, hl, hcap, hm, rfl, hx⟩
  · obtain rfl : v = .slice none 0 0 := by simpa using hv
    refine ⟨[], ⟨⟨none, 0, rfl, Nat.le_refl _, .inl rfl⟩, rfl⟩, Nat.zero_le _, fun k => ?_⟩
    rw [List.getD_nil]
    exact ⟨Nat.zero_le _, Nat.zero_le _, fun j => Nat.zero_le _⟩
  · obtain rfl : v = .slice (some a) len cap := by simpa using hv
    rw [hc] at hx
    have hlm : len ≤ m := by rw [hm]; split <;> omega
    obtain ⟨Cx, hCx⟩ := Go.Deep.choose_lt (α := List Value) (n := len) (p := fun i cs => W.cells? 0 (a.add (i * 2)) 2 = some cs ∧ DataW.trod enc Tryz.prog W 0 spare held n 68 cs = some (D i, Pl i)) (fun i hi => hx i (by omega))
    obtain ⟨Lx, hLx⟩ := Go.Deep.choose_lt (α := Pr) (n := len) (p := fun i q => RelC (sealBelow W W.heap.size) (.agg [.str q.n, .list 1 q.vs.length (strsF q.vs)]) (Cx i) ∧ q.n.length ≤ maxLen ∧ q.vs.length ≤ maxLen ∧ ∀ k, (q.vs.getD k []).length ≤ maxLen) (fun i hi => rel_paramZ (hCx i hi).2)
    let L : List Pr := (List.range len).map Lx
    have hll : L.length = len := by simp [L]
    have hget : ∀ i, i < len → L.getD i Pr.z = Lx i := fun i hi => by simp [L, List.getD, hi]
    refine ⟨L, ?_, by omega, fun k => ?_⟩
    · rw [hll]
      refine rel_listZ (by decide) hl (cs := Cx) (fun i hi => ⟨(hCx i hi).1, ?_⟩)
      unfold prF
      rw [hget i hi]
      exact (hLx i hi).1
    · by_cases hk : k < len
      · rw [hget k hk]
        exact (hLx k hk).2
      · rw [List.getD_eq_getElem?_getD, List.getElem?_eq_none (by omega)]
        exact ⟨Nat.zero_le _, Nat.zero_le _, fun j => Nat.zero_le _⟩
end
end Go.Proofs.YtjccffnjhdhgfaaGreatDoor
