/- Proved here: jsonWrites_card, the given statement of that law: for every input of the kind the row names the call returns true and leaves its argument as it read. Conditions: none beside the row's own. -/
import Derived.Test.YtmgkpbgfkjedeaaDoorTie
import Derived.Test.YtmgkpbgfkjedeaaDoorCards
import Derived.SevenTiedAt
import Derived.Deep.DeepHandedRow
import Derived.Carry
import Derived.Test.YtmgkpbgfkjedeaaDoorBag
set_option linter.unusedVariables false
set_option linter.unusedSimpArgs false
namespace Go.Proofs.YtmgkpbgfkjedeaaDoor
open Go.ChangeShapes Go.WideShapes Go.ChangeAt Go.RowKit Go.WideMaps Go.WideElems
theorem Tryd.laidOut : laidOutB Tryd.prog = true := by kernel_rfl
/-- What the law leans on. -/
noncomputable def gloJs : Glo := gloOf (utfTy ++ errTy ++ bruTy)
theorem js_utf : GloAll gloJs utfTy := gloAll_of fun x h => List.mem_append_left _ (List.mem_append_left _ h)
theorem js_err : GloAll gloJs errTy := gloAll_of fun x h => List.mem_append_left _ (List.mem_append_right _ h)
theorem js_bru : GloAll gloJs bruTy := gloAll_of fun x h => List.mem_append_right _ h
theorem glo_js {W : World} {laid : List (String × DataW Unit)} (h0 : ("unicode/utf8.first", Rows.laid_unicode_utf8_first) ∈ laid) (h4 : ("unicode/utf8.acceptRanges", Rows.laid_unicode_utf8_acceptRanges) ∈ laid)
    (h1 : ("errors.errorType", Rows.laid_errors_errorType) ∈ laid) (h2 : ("math/bits.deBruijn64tab", Rows.laid_math_bits_deBruijn64tab) ∈ laid) (hL : laidMetH Tryd.prog laid W) : gloJs.p (sealBelow W W.heap.size) := by
  intro x hx
  simp only [List.append_assoc, List.cons_append, List.nil_append, List.mem_cons, List.not_mem_nil, or_false] at hx
  rcases hx with rfl | rfl | rfl | rfl
  · exact first_laid (laid_lt hL h0 (by kernel_rfl) (g := 2) (t := 98) (by kernel_rfl) (by kernel_rfl)) hL h0
  · exact accept_laid (laid_lt hL h4 (by kernel_rfl) (g := 3) (t := 101) (by kernel_rfl) (by kernel_rfl)) hL h4
  · exact error_laid (err_lt hL h1) hL h1
  · exact bru_laid (laid_lt hL h2 (by kernel_rfl) (g := 6) (t := 127) (by kernel_rfl) (by kernel_rfl)) hL h2
def jsW : Value := .agg #[.int .i64 0, .string ⟨#[]⟩, .slice none 0 0, .slice none 0 0]
set_option maxHeartbeats 4000000 in
set_option maxRecDepth 100000 in
theorem jsonWrites_lifted (os : Os) (started : os.Started) (H : Type) (enc : TypeId × Value → H) (F : Stop.Interp) :
    ReturnsInHanded {} Tryd.checked os 3 .any ((Rows.OpenSpec.upto Rows.jsonWritesSpec).preRow enc Tryd.prog Tryd.f3 Rows.jsonWritesUptoRow.domain false Rows.jsonWritesUptoRow.laid) (((Rows.OpenSpec.upto Rows.jsonWritesSpec).at F).post enc Tryd.prog Tryd.f3 false true false false) := by
  have hx : ∃ places, DataW.whole enc Tryd.prog ((handleLaid os Rows.jsonWritesUptoRow.laid).forCall (fun _ _ => 0) ⟨#[], #[jsW], []⟩).memory Tryd.f3.params.toList Rows.jsonWritesSpec.vars false #[jsW].toList 8 = some ([.agg [.lit (.int .i64 0), .lit (.string []), .nil, .nil]], [], places) := ⟨[], by kernel_rfl⟩
  obtain ⟨places, hx⟩ := hx
  have hok : Input.okWideB Tryd.prog ((handleLaid os Rows.jsonWritesUptoRow.laid).forCall (fun _ _ => 0) ⟨#[], #[jsW], []⟩) 3 ⟨#[], #[jsW], []⟩ = true := by kernel_rfl
  refine returnsInHanded_of_row (C := Tryd.checked) (s := Rows.OpenSpec.upto Rows.jsonWritesSpec) Tryd.own started (by kernel_rfl) Tryd.func3
    ⟨handleLaid os Rows.jsonWritesUptoRow.laid, fun _ _ => 0, ⟨#[], #[jsW], []⟩, handleLaid_os _ _, World.shaped_of_ZipB (by kernel_rfl) (by kernel_rfl), (Input.okWide_of_okWideB (base := 0) hok).1, (Input.okWide_of_okWideB hok).2,
      OpenSpec.preRow_of_cond 8 hx (by kernel_rfl) (fun k hk => by cases hk; kernel_rfl) (by kernel_rfl) (handleLaid_met _ (by kernel_rfl) (by kernel_rfl) (by kernel_rfl)), by
        simp only [Assume.holds]
        exact ⟨by simp, by simp, by simp, by simp, by simp⟩⟩ ?_
  intro W base args ds gs before hval0 hW _ hcond _ hL hsh _
  have hW' := hW
  obtain ⟨p, q, hA0, hV, rfl, _, _⟩ := hW
  have hA : DataW.TrodAll enc Tryd.prog W 0 (fun _ => true) true Tryd.f3.params.toList args.toList ds p := hA0
  rw [Tryd.params3] at hA
  obtain ⟨v0, d0, rfl, rfl, h0⟩ := trodAll_one hA
  obtain ⟨rfl, rfl⟩ := trodVars_none hV
  simp only [List.append_nil] at hW'
  have hk := hcond _ rfl
  have hbulk : Rows.uptoBulkAll ([d0] ++ ([] : List (DataW H))) ≤ 1048576 := of_decide_eq_true hk
  simp only [List.append_nil, Rows.uptoBulkAll, Nat.add_zero] at hbulk
  have h0k := h0
  obtain ⟨fuel, h0⟩ := h0
  obtain ⟨u, hr, hd, hz⟩ := rel_jsonC _ h0 hbulk
  have hz : Js.sz _ u ≤ Rows.uptoBulk d0 := hz
  have hag : vAgg v0 = true := by
    have hl := (DataW.trod_struct Tryd.underlying25 h0)
    obtain ⟨_, _, _, _, hl, _, _⟩ := hl
    rw [show Tryd.prog.cellsOf 25 = 4 by kernel_rfl] at hl
    cases v0 with
    | agg cs => rfl
    | _ => exact absurd hl (by simp [Value.cells])
  have fin := law_below (W := W) (R := sealBelow W W.heap.size) (args := #[v0]) (law_JsonWrites js_err js_utf js_bru _ u hd (by omega)) (Tryd.call3 _ _) (glo_js (by repeat (first | exact List.Mem.head _ | apply List.Mem.tail)) (by repeat (first | exact List.Mem.head _ | apply List.Mem.tail)) (by repeat (first | exact List.Mem.head _ | apply List.Mem.tail)) (by repeat (first | exact List.Mem.head _ | apply List.Mem.tail)) hL) (sealBelow_ok W _) ⟨_, _, rfl, ⟨hr, hag.symm⟩, rfl⟩
  have hlt : ∀ x ∈ p, x.block < W.heap.size := fun x hx => by simpa using hW'.lt x hx
  refine fin.mono fun e W' ⟨he, hw, hb⟩ => ?_
  subst he
  refine ⟨_, rfl, _, _, _, [], p, [], hW', ?_, ?_, ?_, hw _, fun h => by cases h⟩
  · exact trodAll_mk1 (shut_bool Tryd.underlying4 true)
  · exact trodAll_mk1 (Below.trod Tryd.laidOut (by kernel_rfl) (of_decide_eq_true (by kernel_rfl)) h0k hb hlt)
  · rfl
theorem jsonWrites_said : Rows.JsonWritesUptoSaid :=
  OpenClaim.holds_of_cond 3 Tryd.f3 rfl rfl rfl rfl rfl rfl rfl ⟨rfl, rfl, rfl, rfl, rfl⟩ rfl rfl rfl rfl rfl (by kernel_rfl) Tryd.func3 (by kernel_rfl)
    (of_decide_eq_true (by kernel_rfl)) (by unfold Func.isWrapper; first | (rw [if_pos (by decide +kernel)]; kernel_rfl) | (rw [if_neg (by decide +kernel)]; exact ⟨rfl, rfl⟩))
    (fun os started H enc _ F => by rw [OpenClaim.pre_eq_preRow]; exact jsonWrites_lifted os started H enc F)
theorem jsonWrites_card : Rows.JsonWritesUptoCardSaid :=
  Claim7.holds_tied_plain_at .later [] _ _ _ _ jsonWrites_said (fun _ h => by cases h) (by kernel_rfl) (fun _ h => by cases h) jsonWritesUpto_row_tie rfl ⟨rfl, rfl⟩ (by kernel_rfl) rfl
    (fun f fn hf hfn => by
      obtain rfl : f = 3 := Option.some.inj ((show Tryd.prog.funcNamed "visitingcard/visitingcardlaw.JsonWrites" = some 3 by kernel_rfl).symm.trans hf) |>.symm
      obtain rfl : fn = Tryd.f3 := (Option.some.inj (Tryd.func3.symm.trans hfn)).symm
      exact ⟨by kernel_rfl, fun j t ht => by
        rw [Tryd.params3] at ht
        have hm : t ∈ [25] := by simpa using Array.mem_of_getElem? ht
        have hall : ([25].all fun u => !Tryd.prog.wantsStandIn u) = true := by kernel_rfl
        exact (show Tryd.prog.wantsStandIn t = false by simpa using List.all_eq_true.1 hall t hm)⟩)
    (by kernel_rfl)
#print axioms jsonWrites_card
end Go.Proofs.YtmgkpbgfkjedeaaDoor
