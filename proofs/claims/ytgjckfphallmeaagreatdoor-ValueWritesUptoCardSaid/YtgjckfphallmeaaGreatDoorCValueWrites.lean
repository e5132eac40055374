/- Proved here: valueWrites_card, the given statement of that law: for every input of the kind the row names the call returns true and leaves its argument as it read. Conditions: none beside the row's own. -/
import Derived.Test.YtgjckfphallmeaaGreatDoorTie
import Derived.Test.YtgjckfphallmeaaGreatDoorCards
import Derived.SevenTiedAt
import Derived.Deep.DeepHandedRow
import Derived.Carry
import Derived.Test.YtgjckfphallmeaaGreatDoorBag
import Derived.Test.YtgjckfphallmeaaGreatDoorBah
import Derived.Test.YtgjckfphallmeaaGreatDoorBaj
import Derived.Test.YtgjckfphallmeaaGreatDoorBak
namespace Go.Proofs.YtgjckfphallmeaaGreatDoor
open Go.ChangeShapes Go.WideShapes Go.ChangeAt Go.RowKit Go.WideMaps Go.WideElems
theorem Tryz.laidOut : laidOutB Tryz.prog = true := by kernel_rfl
/-- What the law leans on. -/
noncomputable def gloVal (m : Int) : Glo := gloAnd (gloOf (utfTy ++ errTy ++ maxTy m ++ shapesTy)) gloPow
theorem val_utf {m : Int} : GloAll (gloVal m) utfTy := gloAll_l (gloAll_of fun x h => List.mem_append_left _ (List.mem_append_left _ (List.mem_append_left _ h)))
theorem val_err {m : Int} : GloAll (gloVal m) errTy := gloAll_l (gloAll_of fun x h => List.mem_append_left _ (List.mem_append_left _ (List.mem_append_right _ h)))
theorem val_max {m : Int} : GloAll (gloVal m) (maxTy m) := gloAll_l (gloAll_of fun x h => List.mem_append_left _ (List.mem_append_right _ h))
theorem val_shp {m : Int} : GloAll (gloVal m) shapesTy := gloAll_l (gloAll_of fun x h => List.mem_append_right _ h)
theorem val_pow {m : Int} : PowIs (gloVal m) := fun _ h => h.2
theorem law_val {m : Int} (u : Vl) (hs : u.s.length ≤ 1048576) (hL : Small u.L) (hv : u.OK) : FnIs Tryz.prog (gloVal m) 3 [u.A] (.bool true) :=
  law_ValueWrites val_utf val_err u (by omega) hL fun hl =>
    have hR := value_Right val_err val_max u hv
    ⟨ref_ValueWrite u (ref_ValueRight val_utf val_max u hv (by omega) (ref_WhenRight val_shp u.st)) (ref_Escape u.s (by omega)) (ref_JoinParts u.L hL) (ref_WhenPrint val_shp val_pow u.st) u.E_zero,
      value_Write u hR (text_Escape u.s (by omega) (count_one _)) (text_JoinParts u.L hL) (when_Print val_max u.st), hR⟩
theorem glo_val {W : World} {m : Int} (hm : W.cell? ⟨2, 0, none⟩ = some (.int .i64 m)) {laid : List (String × DataW Unit)} (h0 : ("unicode/utf8.first", Rows.laid_unicode_utf8_first) ∈ laid) (h4 : ("unicode/utf8.acceptRanges", Rows.laid_unicode_utf8_acceptRanges) ∈ laid)
    (h1 : ("errors.errorType", Rows.laid_errors_errorType) ∈ laid) (h2 : ("internal/strconv.uint64pow10", Rows.laid_internal_strconv_uint64pow10) ∈ laid) (h3 : ("visitingcard/visitingcardref.shapes", Rows.laid_visitingcard_visitingcardref_shapes) ∈ laid) (hL : laidMetH Tryz.prog laid W) : (gloVal m).p (sealBelow W W.heap.size) := by
  have k := glo_when hm h1 h2 h3 hL
  refine ⟨fun x hx => ?_, k.2⟩
  simp only [List.append_assoc] at hx
  rcases List.mem_append.1 hx with h | h
  · simp only [List.mem_cons, List.not_mem_nil, or_false] at h
    rcases h with rfl | rfl
    · exact first_laid (laid_lt hL h0 (by kernel_rfl) (g := 3) (t := 165) (by kernel_rfl) (by kernel_rfl)) hL h0
    · exact accept_laid (laid_lt hL h4 (by kernel_rfl) (g := 4) (t := 187) (by kernel_rfl) (by kernel_rfl)) hL h4
  · exact k.1 x (by simpa only [List.append_assoc] using h)
def valW : Value := .agg #[.int .i64 0, .string ⟨#[]⟩, .slice none 0 0, .int .i64 0, .int .i64 0, .int .i64 0, .int .i64 0, .int .i64 0, .int .i64 0, .bool false, .int .i64 0, .int .i64 0]
set_option maxRecDepth 100000 in
theorem valueWrites_lifted (os : Os) (started : os.Started) (H : Type) (enc : TypeId × Value → H) (F : Stop.Interp) :
    ReturnsInHanded {} Tryz.checked os 3 .any ((Rows.OpenSpec.upto Rows.valueWritesSpec).preRow enc Tryz.prog Tryz.f3 Rows.valueWritesUptoRow.domain false Rows.valueWritesUptoRow.laid) (((Rows.OpenSpec.upto Rows.valueWritesSpec).at F).post enc Tryz.prog Tryz.f3 false true false false) := by
  have hx : ∃ places, DataW.whole enc Tryz.prog ((handleLaid os Rows.valueWritesUptoRow.laid).forCall (fun _ _ => 0) ⟨#[], #[valW], []⟩).memory Tryz.f3.params.toList Rows.valueWritesSpec.vars false #[valW].toList 8 = some ([.agg [.lit (.int .i64 0), .lit (.string []), .nil, .agg [.lit (.int .i64 0), .lit (.int .i64 0), .lit (.int .i64 0), .lit (.int .i64 0), .lit (.int .i64 0), .lit (.int .i64 0), .lit (.bool false), .lit (.int .i64 0)], .lit (.int .i64 0)]], [], places) := ⟨[], by kernel_rfl⟩
  obtain ⟨places, hx⟩ := hx
  have hok : Input.okWideB Tryz.prog ((handleLaid os Rows.valueWritesUptoRow.laid).forCall (fun _ _ => 0) ⟨#[], #[valW], []⟩) 3 ⟨#[], #[valW], []⟩ = true := by kernel_rfl
  refine returnsInHanded_of_row (C := Tryz.checked) (s := Rows.OpenSpec.upto Rows.valueWritesSpec) Tryz.own started (by kernel_rfl) Tryz.func3
    ⟨handleLaid os Rows.valueWritesUptoRow.laid, fun _ _ => 0, ⟨#[], #[valW], []⟩, handleLaid_os _ _, World.shaped_of_ZipB (by kernel_rfl) (by kernel_rfl), (Input.okWide_of_okWideB (base := 0) hok).1, (Input.okWide_of_okWideB hok).2,
      OpenSpec.preRow_of_cond 8 hx (by kernel_rfl) (fun k hk => by cases hk; kernel_rfl) (by kernel_rfl) (handleLaid_met _ (by kernel_rfl) (by kernel_rfl) (by kernel_rfl)), by
        simp only [Assume.holds]
        exact ⟨by simp, by simp, by simp, by simp, by simp⟩⟩ ?_
  intro W base args ds gs before hval0 hW _ hcond _ hL hsh _
  obtain ⟨m, hm⟩ := max_some hsh
  have hW' := hW
  obtain ⟨p, q, hA0, hV, rfl, _, _⟩ := hW
  have hA : DataW.TrodAll enc Tryz.prog W 0 (fun _ => true) true Tryz.f3.params.toList args.toList ds p := hA0
  rw [Tryz.params3] at hA
  obtain ⟨v0, d0, rfl, rfl, h0⟩ := trodAll_one hA
  obtain ⟨rfl, rfl⟩ := trodVars_none hV
  simp only [List.append_nil] at hW'
  have hk := hcond _ rfl
  have hbulk : Rows.uptoBulkAll ([d0] ++ ([] : List (DataW H))) ≤ 1048576 := of_decide_eq_true hk
  simp only [List.append_nil, Rows.uptoBulkAll, Nat.add_zero] at hbulk
  have h0k := h0
  obtain ⟨u, hr, hs, hp, hv⟩ := rel_value h0 hbulk
  have fin := law_below (W := W) (R := sealBelow W W.heap.size) (args := #[v0]) (law_val (m := m) u hs hp hv) (Tryz.call3 _ _) (glo_val hm (.tail _ (.tail _ (.tail _ (.tail _ (.tail _ (.tail _ (.tail _ (.head _)))))))) (.tail _ (.tail _ (.tail _ (.head _)))) (.tail _ (.tail _ (.tail _ (.tail _ (.head _))))) (.tail _ (.tail _ (.head _))) (.tail _ (.tail _ (.tail _ (.tail _ (.tail _ (.head _)))))) hL) (sealBelow_ok W _) ⟨_, _, rfl, hr, rfl⟩
  have hlt : ∀ x ∈ p, x.block < W.heap.size := fun x hx => by simpa using hW'.lt x hx
  refine fin.mono fun e W' ⟨he, hw, hb⟩ => ?_
  subst he
  refine ⟨_, rfl, _, _, _, [], p, [], hW', ?_, ?_, ?_, hw _, fun h => by cases h⟩
  · exact trodAll_mk1 (shut_bool Tryz.underlying4 true)
  · exact trodAll_mk1 (Below.trod Tryz.laidOut (by kernel_rfl) (of_decide_eq_true (by kernel_rfl)) h0k hb hlt)
  · rfl
theorem valueWrites_said : Rows.ValueWritesUptoSaid :=
  OpenClaim.holds_of_cond 3 Tryz.f3 rfl rfl rfl rfl rfl rfl rfl ⟨rfl, rfl, rfl, rfl, rfl⟩ rfl rfl rfl rfl rfl (by kernel_rfl) Tryz.func3 (by kernel_rfl)
    (of_decide_eq_true (by kernel_rfl)) (by unfold Func.isWrapper; first | (rw [if_pos (by decide +kernel)]; kernel_rfl) | (rw [if_neg (by decide +kernel)]; exact ⟨rfl, rfl⟩))
    (fun os started H enc _ F => by rw [OpenClaim.pre_eq_preRow]; exact valueWrites_lifted os started H enc F)
theorem valueWrites_card : Rows.ValueWritesUptoCardSaid :=
  Claim7.holds_tied_plain_at .later [] _ _ _ _ valueWrites_said (fun _ h => by cases h) (by kernel_rfl) (fun _ h => by cases h) valueWritesUpto_row_tie rfl ⟨rfl, rfl⟩ (by kernel_rfl) rfl
    (fun f fn hf hfn => by
      obtain rfl : f = 3 := Option.some.inj ((show Tryz.prog.funcNamed "visitingcard/visitingcardlaw.ValueWrites" = some 3 by kernel_rfl).symm.trans hf) |>.symm
      obtain rfl : fn = Tryz.f3 := (Option.some.inj (Tryz.func3.symm.trans hfn)).symm
      exact ⟨by kernel_rfl, fun j t ht => by
        rw [Tryz.params3] at ht
        have hm : t ∈ [26] := by simpa using Array.mem_of_getElem? ht
        have hall : ([26].all fun u => !Tryz.prog.wantsStandIn u) = true := by kernel_rfl
        exact (show Tryz.prog.wantsStandIn t = false by simpa using List.all_eq_true.1 hall t hm)⟩)
    (by kernel_rfl)
#print axioms valueWrites_card
end Go.Proofs.YtgjckfphallmeaaGreatDoor
