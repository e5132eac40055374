/- The law UtfPoints: its row and its tied card. -/
import Derived.Test.YtfpfjchapjelaaaDoorUr
import Derived.Test.YtfpfjchapjelaaaDoorLy
import Derived.Test.YtfpfjchapjelaaaDoorEnd
import Derived.Test.YtfpfjchapjelaaaDoorTie
import Derived.Test.YtfpfjchapjelaaaDoorCards
import Derived.SevenTiedAt
namespace Go.Proofs.YtfpfjchapjelaaaDoor
open Go.ChangeShapes Go.WideShapes Go.ChangeAt Go.RowKit Go.WideMaps Go.WideElems
open Go.ChangeMaps (setBlock shut_map_nil open_string shut_string keptBut_setBlock)
set_option maxRecDepth 100000 in
theorem utfPoints_lifted (os : Os) (started : os.Started) (H : Type) (enc : TypeId × Value → H) :
    ReturnsInHanded {} Tryd.checked os 5 .any (fun w args => (Rows.utfPointsSpec.pre enc Tryd.prog Tryd.f5 Rows.utfPointsRow.domain false w args ∧ laidMetH Tryd.prog Rows.utfPointsRow.laid w) ∧ sizedMet enc Tryd.prog Tryd.f5 (OpenSpec.ofChange Rows.utfPointsSpec) false w args)
      (Rows.utfPointsSpec.post enc Tryd.prog Tryd.f5 false true false false) := by
  refine returnsInHanded_of_change_and (C := Tryd.checked) (X := fun w _ => laidMetH Tryd.prog Rows.utfPointsRow.laid w) (fun _ _ _ hh h => h.of_heap hh) Tryd.own started (by kernel_rfl) Tryd.func5
    (ChangeSpec.witness_shaped (enc := enc) (C := Tryd.checked) (os := os) (X := fun w _ => laidMetH Tryd.prog Rows.utfPointsRow.laid w) false (handleLaid os Rows.utfPointsRow.laid) #[.int .i64 0, .string ⟨#[]⟩] 8 (handleLaid_os _ _)
      (World.shaped_of_ZipB (by kernel_rfl) (by kernel_rfl)) (by kernel_rfl) (by kernel_rfl) (by kernel_rfl)
      (handleLaid_met _ (by kernel_rfl) (by kernel_rfl) (by kernel_rfl))) ?_
  intro W base args ds gs before hval0 hW hc _ hL _
  have hval : ∀ (j : Nat) t v, Tryd.f5.params[j]? = some t → args[j]? = some v → Value.okWide Tryd.prog W .any base t v := hval0
  have hW' := hW
  obtain ⟨p, q, hA0, hV, rfl, _, _⟩ := hW
  have hA : DataW.TrodAll enc Tryd.prog W 0 (fun _ => true) true Tryd.f5.params.toList args.toList ds p := hA0
  rw [Tryd.params5] at hA hval
  obtain ⟨v0, v1, d0, d1, p0, p1, rfl, rfl, rfl, h0, h1⟩ := trodAll_two hA
  obtain ⟨rfl, rfl⟩ := trodVars_none hV
  obtain ⟨x0, rfl, rfl, rfl, w0⟩ := open_int Tryd.underlying3 (hval 0 3 v0 rfl rfl) h0
  obtain ⟨x1, rfl, rfl, rfl, w1⟩ := open_string Tryd.underlying9 (hval 1 9 v1 rfl rfl) h1
  simp only [List.append_nil] at hW'
  have fin := law_end (W := W) (R := sealBelow W 4) (args := #[.int .i64 x0, .string x1]) (law_UtfPoints (G := gloOf (utfTy ++ errTy)) (gloAll_of fun x h => List.mem_append_left _ h) (gloAll_of fun x h => List.mem_append_right _ h) x0 x1.data.toList (len_of_size w1)) (Tryd.call5 _ _) (glo_ute (k := 4) (by omega) (.tail _ (.tail _ (.head _))) (.head _) (.tail _ (.head _)) hL) (sealBelow_ok W _)
    ⟨_, _, rfl, rel_int.2 rfl, ⟨_, _, rfl, rel_str.2 (by rw [str_mk]), rfl⟩⟩
  refine fin.mono fun e W' ⟨he, hw⟩ => ?_
  subst he
  refine ⟨_, rfl, _, _, _, [], [], [], hW', ?_, ?_, ?_, hw _, fun h => by cases h⟩
  · exact trodAll_mk1 (shut_bool Tryd.underlying4 true)
  · exact trodAll_mk2 (shut_int Tryd.underlying3 w0) (shut_string Tryd.underlying9 w1)
  · rfl
theorem utfPoints_holds : Rows.UtfPointsSaid :=
  OpenClaim.holds_of_wide 5 Tryd.f5 rfl rfl rfl rfl rfl rfl rfl ⟨rfl, rfl, rfl, rfl, rfl⟩ rfl rfl rfl rfl rfl (by kernel_rfl) Tryd.func5 (by kernel_rfl)
    (of_decide_eq_true (by kernel_rfl)) (by unfold Func.isWrapper; first | (rw [if_pos (by decide +kernel)]; kernel_rfl) | (rw [if_neg (by decide +kernel)]; exact ⟨rfl, rfl⟩))
    (fun os started H enc _ => utfPoints_lifted os started H enc)
theorem utfPoints_card : Rows.UtfPointsCardSaid :=
  Claim7.holds_tied_plain_at .later [] [.data, .handle, .pinned] true Rows.utfPointsCard.stood.harness true
    utfPoints_holds (fun _ h => by cases h) (by kernel_rfl) (fun _ h => by cases h) utfPoints_row_tie rfl ⟨rfl, rfl⟩ (by kernel_rfl) rfl
    (fun f fn hf hfn => by
      obtain rfl : f = 5 := Option.some.inj ((show Tryd.prog.funcNamed "visitingcard/visitingcardlaw.UtfPoints" = some 5 by kernel_rfl).symm.trans hf) |>.symm
      obtain rfl : fn = Tryd.f5 := (Option.some.inj (Tryd.func5.symm.trans hfn)).symm
      exact ⟨by kernel_rfl, fun j t ht => by
        rw [Tryd.params5] at ht
        have hm : t ∈ [3, 9] := by simpa using Array.mem_of_getElem? ht
        have hall : ([3, 9].all fun u => !Tryd.prog.wantsStandIn u) = true := by kernel_rfl
        exact (show Tryd.prog.wantsStandIn t = false by simpa using List.all_eq_true.1 hall t hm)⟩)
    (by kernel_rfl)
#print axioms utfPoints_card
end Go.Proofs.YtfpfjchapjelaaaDoor
