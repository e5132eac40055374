/- Atomics, a lock that nobody holds, sync.Once that has not been done. -/
import Derived.Test.YtlmihggafbmkaaaGreatDoorDeh
import Derived.Laws.LoneSync
namespace Go.Proofs.YtlmihggafbmkaaaGreatDoor
open Go Go.RowKit
theorem spec_cells {P : Program} [Tab P] {G : Glo} {f : FuncId} {avs : List AVal} {b : Nat} {eT : Option TypeId} {cs cs' : List AVal} {v : AVal}
    (hrun : ∀ R w Cs e fz args, w.heap[b]? = some (.cells Cs e fz) → RelL R cs Cs.toList → Loose fz Cs.size → RelV R avs args.toList → ∃ x w' Cs', (callFunc f args).run P w = .ok (.value x) w' ∧ Rel R v x ∧ OneBlk w b (.cells Cs' e fz) w' ∧ RelL R cs' Cs'.toList ∧ Cs'.size = Cs.size) :
    FnSpec P G f avs [.cells b eT cs] (fun r H => r = .ret v ∧ H = [.cells b eT cs']) := by
  intro R w args hG hm ha
  obtain ⟨Cs, e, fz, hb, hl, hfz, het⟩ := hm.heap.holds _ (List.mem_cons_self ..)
  obtain ⟨x, w', Cs', h1, h2, h3, h4, h5⟩ := hrun R w Cs e fz args hb hl hfz ha
  refine .inr ⟨x, w', h1, .ret v, [.cells b eT cs'], R, ⟨rfl, rfl⟩, ⟨x, rfl, h2⟩, ?_⟩
  exact hm.write (i := 0) rfl rfl h3 rfl ⟨Cs', e, fz, h3.at_, h4, by rw [h5]; exact hfz, het⟩
theorem oneBlk_refl {w : World} {b : Nat} {o : Obj} (h : w.heap[b]? = some o) : OneBlk w b o w := ⟨rfl, rfl, rfl, rfl, h, fun _ _ => rfl⟩
theorem oneBlk_set {w : World} {b off e : Nat} {Cs : Array Value} {fz : Nat × Nat} {v : Value} (h : w.heap[b]? = some (.cells Cs e fz)) (ho : off < Cs.size) : OneBlk w b (.cells (Cs.setIfInBounds off v) e fz) (w.setCell ⟨b, off, none⟩ v) := by
  have hlt : b < w.heap.size := by
    rcases Nat.lt_or_ge b w.heap.size with h1 | h1
    · exact h1
    · simp [Array.getElem?_eq_none h1] at h
  refine ⟨rfl, rfl, rfl, by simp [World.setCell], ?_, fun k hk => ?_⟩
  · simp only [World.setCell, Array.getElem?_modify, if_true, h, Option.map_some, Option.isSome_none, Bool.false_eq_true, if_false]
  · simp only [World.setCell, Array.getElem?_modify]
    rw [if_neg (fun e => hk e.symm)]
theorem relL_put {R : Seal} {a : AVal} {v : Value} (ha : RelC R a [v]) : ∀ {cs : List AVal} {vs : List Value} {p : Nat}, RelL R cs vs → p < cs.length → RelL R (cs.set p a) (vs.set p v)
  | [], _, _, _, h => absurd h (Nat.not_lt_zero _)
  | c :: cs, _, 0, ⟨u, t, rfl, h1, h2⟩, _ => ⟨v, t, rfl, ha, h2⟩
  | c :: cs, _, p + 1, ⟨u, t, rfl, h1, h2⟩, hp => ⟨u, _, rfl, h1, relL_put ha h2 (by simpa using hp)⟩
theorem arg1 {R : Seal} {v : Value} {args : Array Value} (h : RelV R [.raw v] args.toList) : args = #[v] := by
  obtain ⟨x, t, e, hx, rfl⟩ := h
  obtain rfl := rel_raw.1 (show Rel R (.raw v) x from hx)
  exact Array.ext' e
theorem arg2 {R : Seal} {v : Value} {k : IntKind} {n : Int} {args : Array Value} (h : RelV R [.raw v, .int k n] args.toList) : args = #[v, .int k n] := by
  obtain ⟨x, t, e, hx, y, t2, rfl, hy, rfl⟩ := h
  obtain rfl := rel_raw.1 (show Rel R (.raw v) x from hx)
  obtain rfl := rel_int.1 (show Rel R (.int k n) y from hy)
  exact Array.ext' e
theorem arg3 {R : Seal} {v : Value} {k k2 : IntKind} {n m : Int} {args : Array Value} (h : RelV R [.raw v, .int k n, .int k2 m] args.toList) : args = #[v, .int k n, .int k2 m] := by
  obtain ⟨x, t, e, hx, y, t2, rfl, hy, z, t3, rfl, hz, rfl⟩ := h
  obtain rfl := rel_raw.1 (show Rel R (.raw v) x from hx)
  obtain rfl := rel_int.1 (show Rel R (.int k n) y from hy)
  obtain rfl := rel_int.1 (show Rel R (.int k2 m) z from hz)
  exact Array.ext' e
section
variable {G : Glo} {b off : Nat} {eT : Option TypeId} {cs : List AVal}
abbrev pv (b off : Nat) : Value := .pointer (some ⟨b, off, none⟩)
theorem cell_int {R : Seal} {w : World} {Cs : Array Value} {e : Nat} {fz : Nat × Nat} {k : IntKind} {n : Int} (hb : w.heap[b]? = some (.cells Cs e fz)) (hl : RelL R cs Cs.toList) (hc : cs[off]? = some (.int k n)) : w.cell? ⟨b, off, none⟩ = some (.int k n) ∧ off < Cs.size := by
  obtain ⟨v, hv, hr⟩ := relL_get hl hc
  simp only [RelC, List.cons.injEq, and_true] at hr
  subst hr
  refine ⟨by simp only [World.cell?, hb]; simpa using hv, ?_⟩
  have := (List.getElem?_eq_some_iff.1 hv).1
  simpa using this
theorem not_frozen {w : World} {Cs : Array Value} {e : Nat} {fz : Nat × Nat} (hb : w.heap[b]? = some (.cells Cs e fz)) (hfz : Loose fz Cs.size) (ho : off < Cs.size) : w.frozen? ⟨b, off, none⟩ = false := by
  obtain ⟨lo, hi⟩ := fz
  simp only [World.frozen?, hb, Loose] at hfz ⊢
  simp
  omega
theorem at_load {n : Int} (hc : cs[off]? = some (.int .u32 n)) : FnSpec Tryz.prog G 54 [.raw (pv b off)] [.cells b eT cs] (fun r H => r = .ret (.int .u32 n) ∧ H = [.cells b eT cs]) := by
  refine spec_cells fun R w Cs e fz args hb hl hfz ha => ?_
  obtain rfl := arg1 ha
  obtain ⟨h1, _⟩ := cell_int hb hl hc
  exact ⟨_, _, Cs, run_call_load Tryz.func54 (by kernel_rfl) (by kernel_rfl) (by kernel_rfl) .u32 (by kernel_rfl) h1, rel_int.2 rfl, oneBlk_refl hb, hl, rfl⟩
theorem at_store {n y : Int} (hc : cs[off]? = some (.int .u32 n)) : FnSpec Tryz.prog G 65 [.raw (pv b off), .int .u32 y] [.cells b eT cs] (fun r H => r = .ret (.tuple []) ∧ H = [.cells b eT (cs.set off (.int .u32 y))]) := by
  refine spec_cells fun R w Cs e fz args hb hl hfz ha => ?_
  obtain rfl := arg2 ha
  obtain ⟨h1, ho⟩ := cell_int hb hl hc
  have hlen := relL_length hl
  rw [Array.length_toList] at hlen
  refine ⟨_, _, Cs.setIfInBounds off (.int .u32 y), run_call_store Tryz.func65 (by kernel_rfl) (by kernel_rfl) (by kernel_rfl) (by kernel_rfl) h1 (not_frozen hb hfz ho), ⟨⟨#[], rfl, rfl⟩, rfl⟩, oneBlk_set hb ho, ?_, by simp⟩
  rw [Array.toList_setIfInBounds]
  exact relL_put (show RelC R (.int .u32 y) [.int .u32 y] from rfl) hl (by omega)
theorem at_cas {n y : Int} (hc : cs[off]? = some (.int .i32 n)) : FnSpec Tryz.prog G 70 [.raw (pv b off), .int .i32 n, .int .i32 y] [.cells b eT cs] (fun r H => r = .ret (.bool true) ∧ H = [.cells b eT (cs.set off (.int .i32 y))]) := by
  refine spec_cells fun R w Cs e fz args hb hl hfz ha => ?_
  obtain rfl := arg3 ha
  obtain ⟨h1, ho⟩ := cell_int hb hl hc
  have hlen := relL_length hl
  rw [Array.length_toList] at hlen
  refine ⟨_, _, Cs.setIfInBounds off (.int .i32 y), run_call_cas_hit Tryz.func70 (by kernel_rfl) (by kernel_rfl) (by kernel_rfl) .i32 (by kernel_rfl) h1 (not_frozen hb hfz ho), rel_bool.2 rfl, oneBlk_set hb ho, ?_, by simp⟩
  rw [Array.toList_setIfInBounds]
  exact relL_put (show RelC R (.int .i32 y) [.int .i32 y] from rfl) hl (by omega)
theorem at_dec (hc : cs[off]? = some (.int .i32 1)) : FnSpec Tryz.prog G 75 [.raw (pv b off), .int .i32 (-1)] [.cells b eT cs] (fun r H => r = .ret (.int .i32 0) ∧ H = [.cells b eT (cs.set off (.int .i32 0))]) := by
  refine spec_cells fun R w Cs e fz args hb hl hfz ha => ?_
  obtain rfl := arg2 ha
  obtain ⟨h1, ho⟩ := cell_int hb hl hc
  have hlen := relL_length hl
  rw [Array.length_toList] at hlen
  refine ⟨_, _, Cs.setIfInBounds off (.int .i32 0), run_call_add Tryz.func75 (by kernel_rfl) (by kernel_rfl) (by kernel_rfl) .i32 (by kernel_rfl) (s := 0) h1 (not_frozen hb hfz ho) (by simp [go_sem]; rfl), rel_int.2 rfl, oneBlk_set hb ho, ?_, by simp⟩
  rw [Array.toList_setIfInBounds]
  exact relL_put (show RelC R (.int .i32 0) [.int .i32 0] from rfl) hl (by omega)
end
end Go.Proofs.YtlmihggafbmkaaaGreatDoor
