/- From a contract of the shelf to one of my own layer. -/
import Derived.Test.YtlmihggafbmkaaaGreatDoorExq
import Derived.Below
import Derived.Laws.Externs
namespace Go.Proofs.YtlmihggafbmkaaaGreatDoor
open Go Go.RowKit
theorem fnis_of_calls {P : Program} {G : Glo} {f : FuncId} {avs : List AVal} {v : AVal} (hdet : v.det = true) (hc : ∀ args w, (callFunc f args).run P w = .ok (.enter f args) w)
    (h : ∀ R args, RelV R avs args.toList → ∀ w, G.p R → Sealed R w → Calls P f args w fun e w' => e = .returned v.conc ∧ Below w.heap.size w w') : FnIs P G f avs v := by
  intro R w args hG hm ha
  refine .inl ⟨hc args w, (h R args ha w hG hm.sealed).mono ?_⟩
  rintro e w' ⟨rfl, hb⟩
  refine ⟨.ret v, [], R, ⟨rfl, rfl⟩, ⟨_, rfl, det_rel hdet⟩, ?_⟩
  refine ⟨?_, Seal.le_refl R, fun _ hb => .inl hb, ⟨fun _ h => absurd h List.not_mem_nil, List.nodup_nil, fun _ h => absurd h List.not_mem_nil⟩, fun _ h => absurd h List.not_mem_nil,
    ⟨hb.os, hb.tape, hb.output, hb.size, fun b hlt _ => hb.block b hlt⟩⟩
  intro b o ho
  have h1 := hm.sealed b o ho
  have hlt : b < w.heap.size := by
    rcases Nat.lt_or_ge b w.heap.size with h | h
    · exact h
    · rw [Array.getElem?_eq_none h] at h1; cases h1
  rw [hb.block b hlt, h1]
/-- The same, of any value that no sealed memory is asked for. -/
theorem fnis_of_calls_v {P : Program} {G : Glo} {f : FuncId} {avs : List AVal} {v : AVal} (u : Value) (hu : ∀ R, Rel R v u) (hc : ∀ args w, (callFunc f args).run P w = .ok (.enter f args) w)
    (h : ∀ R args, RelV R avs args.toList → ∀ w, G.p R → Sealed R w → Calls P f args w fun e w' => e = .returned u ∧ Below w.heap.size w w') : FnIs P G f avs v := by
  intro R w args hG hm ha
  refine .inl ⟨hc args w, (h R args ha w hG hm.sealed).mono ?_⟩
  rintro e w' ⟨rfl, hb⟩
  refine ⟨.ret v, [], R, ⟨rfl, rfl⟩, ⟨_, rfl, hu R⟩, ?_⟩
  refine ⟨?_, Seal.le_refl R, fun _ hb => .inl hb, ⟨fun _ h => absurd h List.not_mem_nil, List.nodup_nil, fun _ h => absurd h List.not_mem_nil⟩, fun _ h => absurd h List.not_mem_nil,
    ⟨hb.os, hb.tape, hb.output, hb.size, fun b hlt _ => hb.block b hlt⟩⟩
  intro b o ho
  have h1 := hm.sealed b o ho
  have hlt : b < w.heap.size := by
    rcases Nat.lt_or_ge b w.heap.size with h | h
    · exact h
    · rw [Array.getElem?_eq_none h] at h1; cases h1
  rw [hb.block b hlt, h1]
theorem arr_of {args : Array Value} {l : List Value} (h : args.toList = l) : args = l.toArray := by rw [← h]
theorem rel_tup2 {R : Seal} {a b : AVal} {x y : Value} (h : Rel R a x) (k : Rel R b y) : Rel R (.tuple [a, b]) (.tuple #[x, y]) :=
  ⟨⟨_, rfl, _, _, rfl, ⟨h.1, h.2⟩, _, _, rfl, ⟨k.1, k.2⟩, rfl⟩, rfl⟩
theorem rel_tup3 {R : Seal} {a b c : AVal} {x y z : Value} (h : Rel R a x) (k : Rel R b y) (l : Rel R c z) : Rel R (.tuple [a, b, c]) (.tuple #[x, y, z]) :=
  ⟨⟨_, rfl, _, _, rfl, ⟨h.1, h.2⟩, _, _, rfl, ⟨k.1, k.2⟩, _, _, rfl, ⟨l.1, l.2⟩, rfl⟩, rfl⟩
theorem fnis_extern {P : Program} {G : Glo} {f : FuncId} {fn : Func} {e : Array Value → Sem Value} {avs : List AVal} {v : AVal} (hf : P.funcs[f]? = some fn) (hname : (fn.name == "runtime.NumGoroutine") = false)
    (hb : fn.body.isNone = true) (hn : Extern.findNext fn = none) (he : Extern.find fn = some e)
    (h : ∀ R args, RelV R avs args.toList → ∀ w, ∃ x, (e args).run P w = .ok x w ∧ Rel R v x) : FnIs P G f avs v := by
  intro R w args hG hm ha
  obtain ⟨x, hx, hr⟩ := h R args ha w
  refine .inr ⟨x, w, ?_, .ret v, [], R, ⟨rfl, rfl⟩, ⟨x, rfl, hr⟩, hm⟩
  rw [run_callFunc_extern hf hname hb hn he]
  simp only [hx, Result.andThen_ok]
/-- What the model answers, whatever it does to memory. -/
theorem fnspec_extern {P : Program} {G : Glo} {f : FuncId} {fn : Func} {e : Array Value → Sem Value} {avs : List AVal} {H : Heap} {v : AVal} {H' : Heap} (hf : P.funcs[f]? = some fn) (hname : (fn.name == "runtime.NumGoroutine") = false)
    (hb : fn.body.isNone = true) (hn : Extern.findNext fn = none) (he : Extern.find fn = some e)
    (h : ∀ C R args w, MS C R H w → RelV R avs args.toList → ∃ x w' R', (e args).run P w = .ok x w' ∧ R.le R' ∧ Rel R' v x ∧ MS C R' H' w') : FnSpec P G f avs H (fun r h => r = .ret v ∧ h = H') := by
  intro R w args hG hm ha
  obtain ⟨x, w', R', hx, hle, hr, hm'⟩ := h _ R args w hm ha
  refine .inr ⟨x, w', ?_, .ret v, H', R', ⟨rfl, rfl⟩, ⟨x, rfl, hr⟩, hm'⟩
  rw [run_callFunc_extern hf hname hb hn he]
  simp only [hx, Result.andThen_ok]
/-- The same, where a new variable is laid that nobody will write. -/
theorem fnis_extern_new {P : Program} {G : Glo} {f : FuncId} {fn : Func} {e : Array Value → Sem Value} {avs : List AVal} {v : AVal} (hf : P.funcs[f]? = some fn) (hname : (fn.name == "runtime.NumGoroutine") = false)
    (hb : fn.body.isNone = true) (hn : Extern.findNext fn = none) (he : Extern.find fn = some e)
    (h : ∀ R args w, RelV R avs args.toList → ∃ x cs t, (e args).run P w = .ok x (w.alloc (.cells cs t)) ∧ ∀ R', R.le R' → R' w.heap.size = some (.cells cs t) → Rel R' v x) : FnIs P G f avs v := by
  refine fnspec_extern hf hname hb hn he fun C R args w hm ha => ?_
  obtain ⟨x, cs, t, hx, hr⟩ := h R args w ha
  exact ⟨x, _, R.put w.heap.size (.cells cs t), hx, Seal.put_le hm.seal_free, hr _ (Seal.put_le hm.seal_free) (Seal.put_at _ _ _), hm.alloc_sealed _⟩
end Go.Proofs.YtlmihggafbmkaaaGreatDoor
