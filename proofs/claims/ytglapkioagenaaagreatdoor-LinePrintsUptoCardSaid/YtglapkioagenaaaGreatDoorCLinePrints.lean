/- Proved here: linePrints_card, the given statement of that law: for every input of the kind the row names the call returns true and leaves its argument as it read. Conditions: none beside the row's own. -/
import Derived.Test.YtglapkioagenaaaGreatDoorTie
import Derived.Test.YtglapkioagenaaaGreatDoorCards
import Derived.SevenTiedAt
import Derived.Deep.DeepHandedRow
import Derived.Carry
import Derived.Test.YtglapkioagenaaaGreatDoorBai
set_option linter.unusedVariables false
set_option linter.unusedSimpArgs false
namespace Go.Proofs.YtglapkioagenaaaGreatDoor
open Go.ChangeShapes Go.WideShapes Go.ChangeAt Go.RowKit Go.WideMaps Go.WideElems
theorem Tryz.laidOut : laidOutB Tryz.prog = true := by kernel_rfl
/-- What the law leans on. -/
noncomputable def gloLin : Glo := gloOf (utfTy ++ errTy)
theorem lin_utf : GloAll gloLin utfTy := gloAll_of fun _ h => List.mem_append_left _ h
theorem lin_err : GloAll gloLin errTy := gloAll_of fun _ h => List.mem_append_right _ h
theorem glo_lin {W : World} {laid : List (String × DataW Unit)} (h0 : ("unicode/utf8.first", Rows.laid_unicode_utf8_first) ∈ laid) (h4 : ("unicode/utf8.acceptRanges", Rows.laid_unicode_utf8_acceptRanges) ∈ laid) (h1 : ("errors.errorType", Rows.laid_errors_errorType) ∈ laid) (hL : laidMetH Tryz.prog laid W) : gloLin.p (sealBelow W W.heap.size) := by
  intro x hx
  simp only [List.mem_append, List.mem_cons, List.not_mem_nil, or_false] at hx
  rcases hx with (rfl | rfl) | rfl
  · exact first_laid (laid_lt hL h0 (by kernel_rfl) (g := 3) (t := 142) (by kernel_rfl) (by kernel_rfl)) hL h0
  · exact accept_laid (laid_lt hL h4 (by kernel_rfl) (g := 4) (t := 183) (by kernel_rfl) (by kernel_rfl)) hL h4
  · exact error_laid (err_lt hL h1) hL h1
def valW : Value := .agg #[.string ⟨#[]⟩, .string ⟨#[]⟩, .slice none 0 0, .string ⟨#[]⟩]
set_option maxRecDepth 100000 in
theorem linePrints_lifted (os : Os) (started : os.Started) (H : Type) (enc : TypeId × Value → H) (F : Stop.Interp) :
    ReturnsInHanded {} Tryz.checked os 3 .any ((Rows.OpenSpec.upto Rows.linePrintsSpec).preRow enc Tryz.prog Tryz.f3 Rows.linePrintsUptoRow.domain false Rows.linePrintsUptoRow.laid) (((Rows.OpenSpec.upto Rows.linePrintsSpec).at F).post enc Tryz.prog Tryz.f3 false true false false) := by
  have hx : ∃ places, DataW.whole enc Tryz.prog ((handleLaid os Rows.linePrintsUptoRow.laid).forCall (fun _ _ => 0) ⟨#[], #[valW, .bool false], []⟩).memory Tryz.f3.params.toList Rows.linePrintsSpec.vars false #[valW, .bool false].toList 8 = some ([.agg [.lit (.string []), .lit (.string []), .nil, .lit (.string [])], .lit (.bool false)], [], places) := ⟨[], by kernel_rfl⟩
  obtain ⟨places, hx⟩ := hx
  have hok : Input.okWideB Tryz.prog ((handleLaid os Rows.linePrintsUptoRow.laid).forCall (fun _ _ => 0) ⟨#[], #[valW, .bool false], []⟩) 3 ⟨#[], #[valW, .bool false], []⟩ = true := by kernel_rfl
  refine returnsInHanded_of_row (C := Tryz.checked) (s := Rows.OpenSpec.upto Rows.linePrintsSpec) Tryz.own started (by kernel_rfl) Tryz.func3
    ⟨handleLaid os Rows.linePrintsUptoRow.laid, fun _ _ => 0, ⟨#[], #[valW, .bool false], []⟩, handleLaid_os _ _, World.shaped_of_ZipB (by kernel_rfl) (by kernel_rfl), (Input.okWide_of_okWideB (base := 0) hok).1, (Input.okWide_of_okWideB hok).2,
      OpenSpec.preRow_of_cond 8 hx (by kernel_rfl) (fun k hk => by cases hk; kernel_rfl) (by kernel_rfl) (handleLaid_met _ (by kernel_rfl) (by kernel_rfl) (by kernel_rfl)), by
        simp only [Assume.holds]
        exact ⟨by simp, by simp, by simp, by simp, by simp⟩⟩ ?_
  intro W base args ds gs before hval0 hW _ hcond _ hL hsh _
  have hW' := hW
  obtain ⟨p, q, hA0, hV, rfl, _, _⟩ := hW
  have hA : DataW.TrodAll enc Tryz.prog W 0 (fun _ => true) true Tryz.f3.params.toList args.toList ds p := hA0
  rw [Tryz.params3] at hA
  obtain ⟨v0, v1, d0, d1, p0, p1, rfl, rfl, rfl, h0, h1⟩ := trodAll_two hA
  obtain ⟨rfl, rfl⟩ := trodVars_none hV
  simp only [List.append_nil] at hW'
  have hk := hcond _ rfl
  have hbulk : Rows.uptoBulkAll ([d0, d1] ++ ([] : List (DataW H))) ≤ 1048576 := of_decide_eq_true hk
  simp only [List.append_nil, Rows.uptoBulkAll, Nat.add_zero] at hbulk
  have h0k := h0
  have h1k := h1
  obtain ⟨u, hr, ho⟩ := rel_prop h0 (by omega)
  obtain ⟨c, rfl, _, _⟩ := open_bool Tryz.underlying4 (hval0 1 4 v1 (by rw [Tryz.params3]; rfl) rfl) h1
  have fin := law_below (W := W) (R := sealBelow W W.heap.size) (args := #[v0, .bool c]) (law_LinePrints lin_utf lin_err u c ho) (Tryz.call3 _ _) (glo_lin (.tail _ (.tail _ (.tail _ (.head _)))) (.head _) (.tail _ (.head _)) hL) (sealBelow_ok W _) ⟨_, _, rfl, hr, _, _, rfl, rel_bool.2 rfl, rfl⟩
  have hlt : ∀ x ∈ p0 ++ p1, x.block < W.heap.size := fun x hx => by simpa using hW'.lt x hx
  refine fin.mono fun e W' ⟨he, hw, hb⟩ => ?_
  subst he
  refine ⟨_, rfl, _, _, _, [], p0 ++ p1, [], hW', ?_, ?_, ?_, hw _, fun h => by cases h⟩
  · exact trodAll_mk1 (shut_bool Tryz.underlying4 true)
  · exact trodAll_mk2 (Below.trod Tryz.laidOut (by kernel_rfl) (of_decide_eq_true (by kernel_rfl)) h0k hb (fun x hx => hlt x (List.mem_append_left _ hx))) (Below.trod Tryz.laidOut (by kernel_rfl) (of_decide_eq_true (by kernel_rfl)) h1k hb (fun x hx => hlt x (List.mem_append_right _ hx)))
  · rfl
theorem linePrints_said : Rows.LinePrintsUptoSaid :=
  OpenClaim.holds_of_cond 3 Tryz.f3 rfl rfl rfl rfl rfl rfl rfl ⟨rfl, rfl, rfl, rfl, rfl⟩ rfl rfl rfl rfl rfl (by kernel_rfl) Tryz.func3 (by kernel_rfl)
    (of_decide_eq_true (by kernel_rfl)) (by unfold Func.isWrapper; first | (rw [if_pos (by decide +kernel)]; kernel_rfl) | (rw [if_neg (by decide +kernel)]; exact ⟨rfl, rfl⟩))
    (fun os started H enc _ F => by rw [OpenClaim.pre_eq_preRow]; exact linePrints_lifted os started H enc F)
theorem linePrints_card : Rows.LinePrintsUptoCardSaid :=
  Claim7.holds_tied_plain_at .later [] _ _ _ _ linePrints_said (fun _ h => by cases h) (by kernel_rfl) (fun _ h => by cases h) linePrintsUpto_row_tie rfl ⟨rfl, rfl⟩ (by kernel_rfl) rfl
    (fun f fn hf hfn => by
      obtain rfl : f = 3 := Option.some.inj ((show Tryz.prog.funcNamed "visitingcard/visitingcardlaw.LinePrints" = some 3 by kernel_rfl).symm.trans hf) |>.symm
      obtain rfl : fn = Tryz.f3 := (Option.some.inj (Tryz.func3.symm.trans hfn)).symm
      exact ⟨by kernel_rfl, fun j t ht => by
        rw [Tryz.params3] at ht
        have hm : t ∈ [24, 4] := by simpa using Array.mem_of_getElem? ht
        have hall : ([24, 4].all fun u => !Tryz.prog.wantsStandIn u) = true := by kernel_rfl
        exact (show Tryz.prog.wantsStandIn t = false by simpa using List.all_eq_true.1 hall t hm)⟩)
    (by kernel_rfl)
#print axioms linePrints_card
end Go.Proofs.YtglapkioagenaaaGreatDoor
