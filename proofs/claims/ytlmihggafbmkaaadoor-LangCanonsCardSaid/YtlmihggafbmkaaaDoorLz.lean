/- What a row's first world gives: the shape of package-level variables; more of what laid tables hold. -/
import Derived.Test.YtlmihggafbmkaaaDoorLy
import Derived.Test.YtlmihggafbmkaaaDoorGeo
import Derived.Shelf.Vars
import Derived.SizedLaws
namespace Go.Proofs.YtlmihggafbmkaaaDoor
open Go
/-- The wrap of a row with a listed table, the world's shape kept. -/
theorem returnsInHanded_shaped {H : Type} {enc : TypeId × Value → H} {a : Assume} {C : Checked} {os : Os} {f : FuncId} {fn : Func} {s : ChangeSpec} {conds : List PathCond} {apart fresh handsOn again : Bool} {X : World → Array Value → Prop}
    (hX : ∀ (w w' : World) (args : Array Value), w.heap = w'.heap → X w args → X w' args)
    (own : ownKnob C.prog.godebug = none) (started : os.Started) (noInit : C.prog.inits.idxOf? f = none) (hfn : C.prog.funcs[f]? = some fn)
    (witness : ∃ (w : World) (tape : Tape) (i : Input), w.os = os ∧ (w.forCall tape i).Shaped C.prog ∧ i.vars = [] ∧ Input.okWide C.prog (w.forCall tape i) .any w.heap.size f i ∧
      ((s.pre enc C.prog fn conds apart (w.forCall tape i).memory i.args ∧ X (w.forCall tape i).memory i.args) ∧ sizedMet enc C.prog fn (OpenSpec.ofChange s) apart (w.forCall tape i).memory i.args) ∧ a.holds C.prog (lone (Frame.enter C.prog f i.args .normal) [] (w.forCall tape i)))
    (contract : ∀ (W : World) (base : Nat) (args : Array Value) (ds gs : List (DataW H)) (before : List MemPlace),
      (∀ (j : Nat) t v, fn.params[j]? = some t → args[j]? = some v → Value.okWide C.prog W .any base t v) →
      DataW.Whole enc C.prog fn.params.toList s.vars apart W args.toList ds gs before →
      conds.all (PathCond.test C.prog ⟨fn.params.toList, ds, s.plain.varTypes C.prog, gs⟩) = true →
      X W args → W.ShapedOpen C.prog →
      Calls C.prog f args W fun e W' => ∃ v, e = .returned v ∧ s.post enc C.prog fn apart fresh handsOn again W args v W') :
    ReturnsInHanded a C os f .any (fun w args => (s.pre enc C.prog fn conds apart w args ∧ X w args) ∧ sizedMet enc C.prog fn (OpenSpec.ofChange s) apart w args) (s.post enc C.prog fn apart fresh handsOn again) := by
  refine returnsInHanded_of_calls own started noInit witness ?_
  intro w tape i _ hsh _ hok hpre _
  obtain ⟨_, _, _, fn', hfn', _, _, _, _, hval⟩ := hok
  have e : fn' = fn := Option.some.inj (hfn'.symm.trans hfn)
  subst e
  obtain ⟨⟨⟨ds, gs, before, hw, hc⟩, hx⟩, _⟩ := hpre
  have hw' := DataW.Whole.of_heap (w' := w.forCall tape i) (by rfl) hw
  refine (contract (w.forCall tape i) w.heap.size i.args ds gs before hval hw' hc (hX _ _ _ (by rfl) hx) hsh).mono fun e W' ⟨v, he, hp⟩ => ?_
  subst he
  exact ChangeSpec.post_blind hp
/-- The bound of package bytealg is some number. -/
theorem max_some {W : World} (h : W.ShapedOpen Tryd.prog) : ∃ m, W.cell? ⟨1, 0, none⟩ = some (.int .i64 m) :=
  cell_of_shapedOpen_int (t := 3) (zero := #[.int .i64 0]) h (of_decide_eq_true (by kernel_rfl)) (by kernel_rfl) rfl (by kernel_rfl) (by kernel_rfl) Tryd.underlying3
theorem max_sealed {W : World} {k : Nat} (hk : 1 < k) {m : Int} (h : W.cell? ⟨1, 0, none⟩ = some (.int .i64 m)) : SealedAt (sealBelow W k) 1 0 [.int .i64 m] := by
  unfold World.cell? at h
  split at h
  · rename_i C e fz hW
    refine sealed_below hk hW ?_
    have h : C[0]? = some (.int .i64 m) := h
    have h0 := (Array.getElem?_eq_some_iff.1 h)
    obtain ⟨hlt, h1⟩ := h0
    have e1 : C.toList.take 1 = [.int .i64 m] := by
      have hl : 0 < C.toList.length := by simpa using hlt
      have := List.take_succ_eq_append_getElem (l := C.toList) (i := 0) hl
      simp at this
      rw [show (1 : Nat) = 0 + 1 from rfl, List.take_succ_eq_append_getElem hl]
      simp [h1]
    show RelL _ _ (C.toList.take 1)
    rw [e1]
    exact ⟨_, _, rfl, rfl, rfl⟩
  · cases h
def gloAnd (A B : Glo) : Glo := ⟨fun R => A.p R ∧ B.p R, fun R R' h k => ⟨A.mono R R' h k.1, B.mono R R' h k.2⟩⟩
theorem gloAll_l {A B : Glo} {L : List (Nat × List AVal)} (h : GloAll A L) : GloAll (gloAnd A B) L := fun g cs hg R hR => h g cs hg R hR.1
def gloPow : Glo := ⟨fun R => ∃ e fz, R 8 = some (.cells (Lib.pow10Tab.map fun z => Value.int .u64 z).toArray e fz), fun _ _ hle ⟨e, fz, h⟩ => ⟨e, fz, hle _ _ h⟩⟩
theorem pow_laid {W : World} {k : Nat} (hk : 8 < k) {laid : List (String × DataW Unit)} (hL : laidMetH Tryd.prog laid W) (hm : ("internal/strconv.uint64pow10", Rows.laid_internal_strconv_uint64pow10) ∈ laid) : gloPow.p (sealBelow W k) := by
  obtain ⟨C, e, fz, fuel, p, hW, hd⟩ := laid_at hL hm (by kernel_rfl) (g := 8) (t := 231) (by kernel_rfl) (by kernel_rfl)
  have hc := trod_ints (n := 20) (zs := (List.range 20).map (10 ^ ·)) Tryd.underlying231 Tryd.underlying199 (by kernel_rfl) (by kernel_rfl) hd (by simp)
  have e1 : C = (Lib.pow10Tab.map fun z => Value.int .u64 z).toArray := by
    apply Array.ext'
    rw [hc]
    unfold Lib.pow10Tab
    simp
    rfl
  refine ⟨e, fz, ?_⟩
  unfold sealBelow
  rw [if_pos hk, hW, e1]
theorem glo_em {W : World} {k : Nat} (hk : 63 < k) {m : Int} (hm : W.cell? ⟨1, 0, none⟩ = some (.int .i64 m)) {laid : List (String × DataW Unit)} (h3 : ("errors.errorType", Rows.laid_errors_errorType) ∈ laid)
    (hL : laidMetH Tryd.prog laid W) : (gloOf (errTy ++ maxTy m)).p (sealBelow W k) := by
  intro x hx
  simp only [List.cons_append, List.nil_append, List.mem_cons, List.not_mem_nil, or_false] at hx
  rcases hx with rfl | rfl
  · exact error_laid (by omega) hL h3
  · exact max_sealed (by omega) hm
end Go.Proofs.YtlmihggafbmkaaaDoor
