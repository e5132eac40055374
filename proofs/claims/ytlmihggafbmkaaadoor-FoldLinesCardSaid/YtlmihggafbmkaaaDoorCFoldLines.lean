/- The law FoldLines: its row and its tied card. -/
import Derived.Test.YtlmihggafbmkaaaDoorFll
import Derived.Test.YtlmihggafbmkaaaDoorLy
import Derived.Test.YtlmihggafbmkaaaDoorEnd
import Derived.Test.YtlmihggafbmkaaaDoorTie
import Derived.Test.YtlmihggafbmkaaaDoorCards
import Derived.SevenTiedAt
namespace Go.Proofs.YtlmihggafbmkaaaDoor
open Go.ChangeShapes Go.WideShapes Go.ChangeAt Go.RowKit Go.WideMaps Go.WideElems
open Go.ChangeMaps (setBlock shut_map_nil open_string shut_string keptBut_setBlock)
set_option maxRecDepth 100000 in
theorem foldLines_lifted (os : Os) (started : os.Started) (H : Type) (enc : TypeId × Value → H) :
    ReturnsInHanded {} Tryd.checked os 4 .any (fun w args => (Rows.foldLinesSpec.pre enc Tryd.prog Tryd.f4 Rows.foldLinesRow.domain false w args ∧ laidMetH Tryd.prog Rows.foldLinesRow.laid w) ∧ sizedMet enc Tryd.prog Tryd.f4 (OpenSpec.ofChange Rows.foldLinesSpec) false w args)
      (Rows.foldLinesSpec.post enc Tryd.prog Tryd.f4 false true false false) := by
  refine returnsInHanded_of_change_and (C := Tryd.checked) (X := fun w _ => laidMetH Tryd.prog Rows.foldLinesRow.laid w) (fun _ _ _ hh h => h.of_heap hh) Tryd.own started (by kernel_rfl) Tryd.func4
    (ChangeSpec.witness_shaped (enc := enc) (C := Tryd.checked) (os := os) (X := fun w _ => laidMetH Tryd.prog Rows.foldLinesRow.laid w) false (handleLaid os Rows.foldLinesRow.laid) #[.string ⟨#[]⟩, .int .i64 0] 8 (handleLaid_os _ _)
      (World.shaped_of_ZipB (by kernel_rfl) (by kernel_rfl)) (by kernel_rfl) (by kernel_rfl) (by kernel_rfl)
      (handleLaid_met _ (by kernel_rfl) (by kernel_rfl) (by kernel_rfl))) ?_
  intro W base args ds gs before hval0 hW hc _ hL _
  have hval : ∀ (j : Nat) t v, Tryd.f4.params[j]? = some t → args[j]? = some v → Value.okWide Tryd.prog W .any base t v := hval0
  have hW' := hW
  obtain ⟨p, q, hA0, hV, rfl, _, _⟩ := hW
  have hA : DataW.TrodAll enc Tryd.prog W 0 (fun _ => true) true Tryd.f4.params.toList args.toList ds p := hA0
  rw [Tryd.params4] at hA hval
  obtain ⟨v0, v1, d0, d1, p0, p1, rfl, rfl, rfl, h0, h1⟩ := trodAll_two hA
  obtain ⟨rfl, rfl⟩ := trodVars_none hV
  obtain ⟨x0, rfl, rfl, rfl, w0⟩ := open_string Tryd.underlying9 (hval 0 9 v0 rfl rfl) h0
  obtain ⟨x1, rfl, rfl, rfl, w1⟩ := open_int Tryd.underlying3 (hval 1 3 v1 rfl rfl) h1
  simp only [List.append_nil] at hW'
  have fin := law_end (W := W) (R := sealBelow W 64) (args := #[.string x0, .int .i64 x1]) (law_FoldLines (G := gloOf errTy) (gloAll_of fun x h => h) x0.data.toList x1 (len_of_size w0)) (Tryd.call4 _ _) (glo_err (k := 64) (by omega) (.head _) hL) (sealBelow_ok W _)
    ⟨_, _, rfl, rel_str.2 (by rw [str_mk]), ⟨_, _, rfl, rel_int.2 rfl, rfl⟩⟩
  refine fin.mono fun e W' ⟨he, hw⟩ => ?_
  subst he
  refine ⟨_, rfl, _, _, _, [], [], [], hW', ?_, ?_, ?_, hw _, fun h => by cases h⟩
  · exact trodAll_mk1 (shut_bool Tryd.underlying4 true)
  · exact trodAll_mk2 (shut_string Tryd.underlying9 w0) (shut_int Tryd.underlying3 w1)
  · rfl
theorem foldLines_holds : Rows.FoldLinesSaid :=
  OpenClaim.holds_of_wide 4 Tryd.f4 rfl rfl rfl rfl rfl rfl rfl ⟨rfl, rfl, rfl, rfl, rfl⟩ rfl rfl rfl rfl rfl (by kernel_rfl) Tryd.func4 (by kernel_rfl)
    (of_decide_eq_true (by kernel_rfl)) (by unfold Func.isWrapper; first | (rw [if_pos (by decide +kernel)]; kernel_rfl) | (rw [if_neg (by decide +kernel)]; exact ⟨rfl, rfl⟩))
    (fun os started H enc _ => foldLines_lifted os started H enc)
theorem foldLines_card : Rows.FoldLinesCardSaid :=
  Claim7.holds_tied_plain_at .later [] [.handle] true Rows.foldLinesCard.stood.harness true
    foldLines_holds (fun _ h => by cases h) (by kernel_rfl) (fun _ h => by cases h) foldLines_row_tie rfl ⟨rfl, rfl⟩ (by kernel_rfl) rfl
    (fun f fn hf hfn => by
      obtain rfl : f = 4 := Option.some.inj ((show Tryd.prog.funcNamed "visitingcard/visitingcardlaw.FoldLines" = some 4 by kernel_rfl).symm.trans hf) |>.symm
      obtain rfl : fn = Tryd.f4 := (Option.some.inj (Tryd.func4.symm.trans hfn)).symm
      exact ⟨by kernel_rfl, fun j t ht => by
        rw [Tryd.params4] at ht
        have hm : t ∈ [9, 3] := by simpa using Array.mem_of_getElem? ht
        have hall : ([9, 3].all fun u => !Tryd.prog.wantsStandIn u) = true := by kernel_rfl
        exact (show Tryd.prog.wantsStandIn t = false by simpa using List.all_eq_true.1 hall t hm)⟩)
    (by kernel_rfl)
#print axioms foldLines_card
end Go.Proofs.YtlmihggafbmkaaaDoor
