/- The law CaretTurns: its row. -/
import Derived.Test.YtlmihggafbmkaaaCar
import Derived.Test.YtlmihggafbmkaaaMax
import Derived.Test.YtlmihggafbmkaaaEnd
namespace Go.Proofs.Ytlmihggafbmkaaa
open Go.ChangeShapes Go.WideShapes Go.ChangeAt Go.RowKit Go.WideMaps Go.WideElems
open Go.ChangeMaps (setBlock shut_map_nil open_string shut_string keptBut_setBlock)
set_option maxRecDepth 100000 in
theorem caretTurns_lifted (os : Os) (started : os.Started) (H : Type) (enc : TypeId × Value → H) :
    ReturnsInHanded {} Try.checked os 3 .any (fun w args => (Rows.caretTurnsSpec.pre enc Try.prog Try.f3 Rows.caretTurnsRow.domain false w args) ∧ sizedMet enc Try.prog Try.f3 (OpenSpec.ofChange Rows.caretTurnsSpec) false w args)
      (Rows.caretTurnsSpec.post enc Try.prog Try.f3 false true false false) := by
  suffices h : ReturnsInHanded {} Try.checked os 3 .any (fun w args => (Rows.caretTurnsSpec.pre enc Try.prog Try.f3 Rows.caretTurnsRow.domain false w args ∧ True) ∧ sizedMet enc Try.prog Try.f3 (OpenSpec.ofChange Rows.caretTurnsSpec) false w args)
      (Rows.caretTurnsSpec.post enc Try.prog Try.f3 false true false false) by simpa only [and_true] using h
  refine returnsInHanded_shaped (C := Try.checked) (X := fun _ _ => True) (fun _ _ _ _ h => h) Try.own started (by kernel_rfl) Try.func3
    (ChangeSpec.witness_shaped (enc := enc) (C := Try.checked) (os := os) (X := fun _ _ => True) false (World.laidAll Try.prog os Rows.caretTurnsRow.laid) #[.string ⟨#[]⟩] 8 (World.laidAll_os _ _ _)
      (World.shaped_of_ZipB (by kernel_rfl) (by kernel_rfl)) (by kernel_rfl) (by kernel_rfl) (by kernel_rfl)
      trivial) ?_
  intro W base args ds gs before hval0 hW hc hL hsh
  obtain ⟨m, hm⟩ := max_some hsh
  have hval : ∀ (j : Nat) t v, Try.f3.params[j]? = some t → args[j]? = some v → Value.okWide Try.prog W .any base t v := hval0
  have hW' := hW
  obtain ⟨p, q, hA0, hV, rfl, _, _⟩ := hW
  have hA : DataW.TrodAll enc Try.prog W 0 (fun _ => true) true Try.f3.params.toList args.toList ds p := hA0
  rw [Try.params3] at hA hval
  obtain ⟨v0, d0, rfl, rfl, h0⟩ := trodAll_one hA
  obtain ⟨rfl, rfl⟩ := trodVars_none hV
  obtain ⟨x0, rfl, rfl, rfl, w0⟩ := open_string Try.underlying9 (hval 0 9 v0 rfl rfl) h0
  simp only [List.append_nil] at hW'
  have fin := law_end (W := W) (R := sealBelow W 1) (args := #[.string x0]) (law_CaretTurns (G := gloOf (maxTy m)) (gloAll_of fun x h => h) x0.data.toList (len_of_size w0)) (Try.call3 _ _) (glo_max (k := 1) (by decide) hm) (sealBelow_ok W _)
    ⟨_, _, rfl, rel_str.2 (by rw [str_mk]), rfl⟩
  refine fin.mono fun e W' ⟨he, hw⟩ => ?_
  subst he
  refine ⟨_, rfl, _, _, _, [], [], [], hW', ?_, ?_, ?_, hw _, fun h => by cases h⟩
  · exact trodAll_mk1 (shut_bool Try.underlying4 true)
  · exact trodAll_mk1 (shut_string Try.underlying9 w0)
  · rfl
theorem caretTurns_holds : Rows.CaretTurnsSaid :=
  OpenClaim.holds_of_wide 3 Try.f3 rfl rfl rfl rfl rfl rfl rfl ⟨rfl, rfl, rfl, rfl, rfl⟩ rfl rfl rfl rfl rfl (by kernel_rfl) Try.func3 (by kernel_rfl)
    (of_decide_eq_true (by kernel_rfl)) (by unfold Func.isWrapper; first | (rw [if_pos (by decide +kernel)]; kernel_rfl) | (rw [if_neg (by decide +kernel)]; exact ⟨rfl, rfl⟩))
    (fun os started H enc _ => caretTurns_lifted os started H enc)
#print axioms caretTurns_holds
end Go.Proofs.Ytlmihggafbmkaaa
