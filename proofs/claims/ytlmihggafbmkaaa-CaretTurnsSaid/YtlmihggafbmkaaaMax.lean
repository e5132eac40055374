/- What a row's first world gives: the bound of package bytealg is some number. -/
import Derived.Test.YtlmihggafbmkaaaCnt
import Derived.Test.YtlmihggafbmkaaaEnd
import Derived.Shelf.Vars
import Derived.SizedLaws
namespace Go.Proofs.Ytlmihggafbmkaaa
open Go
/-- The wrap of a row with a listed table, the world's shape kept. -/
theorem returnsInHanded_shaped {H : Type} {enc : TypeId × Value → H} {a : Assume} {C : Checked} {os : Os} {f : FuncId} {fn : Func} {s : ChangeSpec} {conds : List PathCond} {apart fresh handsOn again : Bool} {X : World → Array Value → Prop}
    (hX : ∀ (w w' : World) (args : Array Value), w.heap = w'.heap → X w args → X w' args)
    (own : ownKnob C.prog.godebug = none) (started : os.Started) (noInit : C.prog.inits.idxOf? f = none) (hfn : C.prog.funcs[f]? = some fn)
    (witness : ∃ (w : World) (tape : Tape) (i : Input), w.os = os ∧ (w.forCall tape i).Shaped C.prog ∧ i.vars = [] ∧ Input.okWide C.prog (w.forCall tape i) .any w.heap.size f i ∧
      ((s.pre enc C.prog fn conds apart (w.forCall tape i).memory i.args ∧ X (w.forCall tape i).memory i.args) ∧ sizedMet enc C.prog fn (OpenSpec.ofChange s) apart (w.forCall tape i).memory i.args) ∧ a.holds C.prog (lone (Frame.enter C.prog f i.args .normal) [] (w.forCall tape i)))
    (contract : ∀ (W : World) (base : Nat) (args : Array Value) (ds gs : List (DataW H)) (before : List MemPlace),
      (∀ (j : Nat) t v, fn.params[j]? = some t → args[j]? = some v → Value.okWide C.prog W .any base t v) →
      DataW.Whole enc C.prog fn.params.toList s.vars apart W args.toList ds gs before →
      conds.all (PathCond.test C.prog ⟨fn.params.toList, ds, s.plain.varTypes C.prog, gs⟩) = true →
      X W args → W.ShapedOpen C.prog →
      Calls C.prog f args W fun e W' => ∃ v, e = .returned v ∧ s.post enc C.prog fn apart fresh handsOn again W args v W') :
    ReturnsInHanded a C os f .any (fun w args => (s.pre enc C.prog fn conds apart w args ∧ X w args) ∧ sizedMet enc C.prog fn (OpenSpec.ofChange s) apart w args) (s.post enc C.prog fn apart fresh handsOn again) := by
  refine returnsInHanded_of_calls own started noInit witness ?_
  intro w tape i _ hsh _ hok hpre _
  obtain ⟨_, _, _, fn', hfn', _, _, _, _, hval⟩ := hok
  have e : fn' = fn := Option.some.inj (hfn'.symm.trans hfn)
  subst e
  obtain ⟨⟨⟨ds, gs, before, hw, hc⟩, hx⟩, _⟩ := hpre
  have hw' := DataW.Whole.of_heap (w' := w.forCall tape i) (by rfl) hw
  refine (contract (w.forCall tape i) w.heap.size i.args ds gs before hval hw' hc (hX _ _ _ (by rfl) hx) hsh).mono fun e W' ⟨v, he, hp⟩ => ?_
  subst he
  exact ChangeSpec.post_blind hp
def gloOf (L : List (Nat × List AVal)) : Glo := ⟨fun R => ∀ x, x ∈ L → SealedAt R x.1 0 x.2, fun _ _ hle h x hx => by
  obtain ⟨C, e, fz, h1, h2⟩ := h x hx
  exact ⟨C, e, fz, hle _ _ h1, relL_mono hle _ _ h2⟩⟩
theorem gloGet_mem : ∀ (L : List (Nat × List AVal)) {g : Nat} {cs : List AVal}, gloGet L g = some cs → (g, cs) ∈ L
  | [], _, _, h => by simp [gloGet] at h
  | (k, c) :: r, g, cs, h => by
    unfold gloGet at h
    split at h
    · rename_i e
      obtain rfl := Nat.eq_of_beq_eq_true e
      cases h
      exact List.mem_cons_self
    · exact List.mem_cons_of_mem _ (gloGet_mem r h)
theorem gloAll_of {L L' : List (Nat × List AVal)} (h : ∀ x, x ∈ L' → x ∈ L) : GloAll (gloOf L) L' := fun g cs hg R hR => hR (g, cs) (h _ (gloGet_mem L' hg))
theorem sealed_below {W : World} {k g : Nat} {C : Array Value} {e : TypeId} {fz : Nat × Nat} {cs : List AVal} (hk : g < k) (hW : W.heap[g]? = some (.cells C e fz)) (h : RelL (sealBelow W k) cs (C.toList.take cs.length)) : SealedAt (sealBelow W k) g 0 cs :=
  ⟨C, e, fz, by unfold sealBelow; rw [if_pos hk]; exact hW, by rw [List.drop_zero]; exact h⟩
/-- The bound of package bytealg is some number. -/
theorem max_some {W : World} (h : W.ShapedOpen Try.prog) : ∃ m, W.cell? ⟨0, 0, none⟩ = some (.int .i64 m) :=
  cell_of_shapedOpen_int (t := 3) (zero := #[.int .i64 0]) h (of_decide_eq_true (by kernel_rfl)) (by kernel_rfl) rfl (by kernel_rfl) (by kernel_rfl) Try.underlying3
theorem max_sealed {W : World} {k : Nat} (hk : 0 < k) {m : Int} (h : W.cell? ⟨0, 0, none⟩ = some (.int .i64 m)) : SealedAt (sealBelow W k) 0 0 [.int .i64 m] := by
  unfold World.cell? at h
  split at h
  · rename_i C e fz hW
    refine sealed_below hk hW ?_
    have h : C[0]? = some (.int .i64 m) := h
    have h0 := (Array.getElem?_eq_some_iff.1 h)
    obtain ⟨hlt, h1⟩ := h0
    have e1 : C.toList.take 1 = [.int .i64 m] := by
      have hl : 0 < C.toList.length := by simpa using hlt
      have := List.take_succ_eq_append_getElem (l := C.toList) (i := 0) hl
      simp at this
      rw [show (1 : Nat) = 0 + 1 from rfl, List.take_succ_eq_append_getElem hl]
      simp [h1]
    show RelL _ _ (C.toList.take 1)
    rw [e1]
    exact ⟨_, _, rfl, rfl, rfl⟩
  · cases h
theorem glo_max {W : World} {k : Nat} (hk : 0 < k) {m : Int} (hm : W.cell? ⟨0, 0, none⟩ = some (.int .i64 m)) : (gloOf (maxTy m)).p (sealBelow W k) := by
  intro x hx
  simp only [List.mem_cons, List.not_mem_nil, or_false] at hx
  subst hx
  exact max_sealed hk hm
end Go.Proofs.Ytlmihggafbmkaaa
