/- Proved here: lineParses_card, the given statement of that law: for every input of the kind the row names the call returns true and leaves its argument as it read. Conditions: none beside the row's own. -/
import Derived.Test.YtkmpcdlmeiophaaGreatDoorTie
import Derived.Test.YtkmpcdlmeiophaaGreatDoorCards
import Derived.SevenTiedAt
import Derived.Test.YtkmpcdlmeiophaaGreatDoorBai
import Derived.Test.YtkmpcdlmeiophaaGreatDoorBaj
set_option linter.unusedVariables false
set_option linter.unusedSimpArgs false
namespace Go.Proofs.YtkmpcdlmeiophaaGreatDoor
open Go.ChangeShapes Go.WideShapes Go.ChangeAt Go.RowKit Go.WideMaps Go.WideElems
open Go.ChangeMaps (setBlock shut_map_nil open_string shut_string keptBut_setBlock)
/-- What the law leans on. -/
noncomputable def gloLp (m : Int) : Glo := gloOf (utfTy ++ errTy ++ maxTy m)
theorem lp_utf {m : Int} : GloAll (gloLp m) utfTy := gloAll_of fun x h => List.mem_append_left _ (List.mem_append_left _ h)
theorem lp_err {m : Int} : GloAll (gloLp m) errTy := gloAll_of fun x h => List.mem_append_left _ (List.mem_append_right _ h)
theorem lp_max {m : Int} : GloAll (gloLp m) (maxTy m) := gloAll_of fun x h => List.mem_append_right _ h
theorem lp_cell_block {W : World} {a : Addr} {v : Value} (h : W.cell? a = some v) : ∃ b o C e fz, a = ⟨b, o, none⟩ ∧ W.heap[b]? = some (.cells C e fz) := by
  obtain ⟨b, o, sp⟩ := a
  unfold World.cell? at h
  dsimp only at h
  cases hW : W.heap[b]? with
  | none => rw [hW] at h; cases h
  | some ob =>
    cases ob with
    | cells C e fz =>
      rw [hW] at h
      cases sp with
      | some s => simp at h
      | none => exact ⟨b, o, C, e, fz, rfl, hW⟩
    | _ => rw [hW] at h; cases h
theorem lp_cell_lt {W : World} {g : Nat} {v : Value} (h : W.cell? ⟨g, 0, none⟩ = some v) : g < W.heap.size := by
  obtain ⟨b, o, C, e, fz, ha, hW⟩ := lp_cell_block h
  cases ha
  exact block_lt hW
theorem glo_lp {W : World} {m : Int} (hm : W.cell? ⟨0, 0, none⟩ = some (.int .i64 m)) {laid : List (String × DataW Unit)} (h0 : ("unicode/utf8.first", Rows.laid_unicode_utf8_first) ∈ laid) (h4 : ("unicode/utf8.acceptRanges", Rows.laid_unicode_utf8_acceptRanges) ∈ laid) (h1 : ("errors.errorType", Rows.laid_errors_errorType) ∈ laid)
    (hL : laidMetH Tryz.prog laid W) : (gloLp m).p (sealBelow W W.heap.size) := by
  intro x hx
  simp only [List.cons_append, List.nil_append, List.mem_cons, List.not_mem_nil, or_false] at hx
  rcases hx with rfl | rfl | rfl | rfl
  · exact first_laid (laid_lt hL h0 (by kernel_rfl) (g := 2) (t := 116) (by kernel_rfl) (by kernel_rfl)) hL h0
  · exact accept_laid (laid_lt hL h4 (by kernel_rfl) (g := 3) (t := 119) (by kernel_rfl) (by kernel_rfl)) hL h4
  · exact error_laid (err_lt hL h1) hL h1
  · exact max_sealed (lp_cell_lt hm) hm
set_option maxRecDepth 100000 in
theorem lineParses_lifted (os : Os) (started : os.Started) (H : Type) (enc : TypeId × Value → H) :
    ReturnsInHanded {} Tryz.checked os 3 .any (fun w args => (Rows.lineParsesSpec.pre enc Tryz.prog Tryz.f3 Rows.lineParsesRow.domain false w args ∧ laidMetH Tryz.prog Rows.lineParsesRow.laid w) ∧ sizedMet enc Tryz.prog Tryz.f3 (OpenSpec.ofChange Rows.lineParsesSpec) false w args)
      (Rows.lineParsesSpec.post enc Tryz.prog Tryz.f3 false true false false) := by
  refine returnsInHanded_shaped (C := Tryz.checked) (X := fun w _ => laidMetH Tryz.prog Rows.lineParsesRow.laid w) (fun _ _ _ hh h => h.of_heap hh) Tryz.own started (by kernel_rfl) Tryz.func3
    (ChangeSpec.witness_shaped (enc := enc) (C := Tryz.checked) (os := os) (X := fun w _ => laidMetH Tryz.prog Rows.lineParsesRow.laid w) false (handleLaid os Rows.lineParsesRow.laid) #[.string ⟨#[]⟩, .bool false] 8 (handleLaid_os _ _)
      (World.shaped_of_ZipB (by kernel_rfl) (by kernel_rfl)) (by kernel_rfl) (by kernel_rfl) (by kernel_rfl)
      (handleLaid_met _ (by kernel_rfl) (by kernel_rfl) (by kernel_rfl))) ?_
  intro W base args ds gs before hval0 hW hc hL hsh
  obtain ⟨m, hm⟩ := max_some hsh
  have hval : ∀ (j : Nat) t v, Tryz.f3.params[j]? = some t → args[j]? = some v → Value.okWide Tryz.prog W .any base t v := hval0
  have hW' := hW
  obtain ⟨p, q, hA0, hV, rfl, _, _⟩ := hW
  have hA : DataW.TrodAll enc Tryz.prog W 0 (fun _ => true) true Tryz.f3.params.toList args.toList ds p := hA0
  rw [Tryz.params3] at hA hval
  obtain ⟨v0, v1, d0, d1, p0, p1, rfl, rfl, rfl, h0, h1⟩ := trodAll_two hA
  obtain ⟨rfl, rfl⟩ := trodVars_none hV
  obtain ⟨x0, rfl, rfl, rfl, w0⟩ := open_string Tryz.underlying9 (hval 0 9 v0 rfl rfl) h0
  obtain ⟨x1, rfl, rfl, rfl⟩ := open_bool Tryz.underlying4 (hval 1 4 v1 rfl rfl) h1
  simp only [List.append_nil] at hW'
  have fin := law_end (W := W) (R := sealBelow W W.heap.size) (args := #[.string x0, .bool x1]) (law_LineParses lp_err lp_utf lp_max x0.data.toList x1 (len_of_size w0)) (Tryz.call3 _ _) (glo_lp hm (by repeat (first | exact List.Mem.head _ | apply List.Mem.tail)) (by repeat (first | exact List.Mem.head _ | apply List.Mem.tail)) (by repeat (first | exact List.Mem.head _ | apply List.Mem.tail)) hL) (sealBelow_ok W _)
    ⟨_, _, rfl, rel_str.2 (by rw [str_mk]), ⟨_, _, rfl, rel_bool.2 rfl, rfl⟩⟩
  refine fin.mono fun e W' ⟨he, hw⟩ => ?_
  subst he
  refine ⟨_, rfl, _, _, _, [], [], [], hW', ?_, ?_, ?_, hw _, fun h => by cases h⟩
  · exact trodAll_mk1 (shut_bool Tryz.underlying4 true)
  · exact trodAll_mk2 (shut_string Tryz.underlying9 w0) (shut_bool Tryz.underlying4 x1)
  · rfl
theorem lineParses_holds : Rows.LineParsesSaid :=
  OpenClaim.holds_of_wide 3 Tryz.f3 rfl rfl rfl rfl rfl rfl rfl ⟨rfl, rfl, rfl, rfl, rfl⟩ rfl rfl rfl rfl rfl (by kernel_rfl) Tryz.func3 (by kernel_rfl)
    (of_decide_eq_true (by kernel_rfl)) (by unfold Func.isWrapper; first | (rw [if_pos (by decide +kernel)]; kernel_rfl) | (rw [if_neg (by decide +kernel)]; exact ⟨rfl, rfl⟩))
    (fun os started H enc _ => lineParses_lifted os started H enc)
theorem lineParses_card : Rows.LineParsesCardSaid :=
  Claim7.holds_tied_plain_at .later [] [.data, .handle, .pinned, .pinned] true Rows.lineParsesCard.stood.harness true
    lineParses_holds (fun _ h => by cases h) (by kernel_rfl) (fun _ h => by cases h) lineParses_row_tie rfl ⟨rfl, rfl⟩ (by kernel_rfl) rfl
    (fun f fn hf hfn => by
      obtain rfl : f = 3 := Option.some.inj ((show Tryz.prog.funcNamed "visitingcard/visitingcardlaw.LineParses" = some 3 by kernel_rfl).symm.trans hf) |>.symm
      obtain rfl : fn = Tryz.f3 := (Option.some.inj (Tryz.func3.symm.trans hfn)).symm
      exact ⟨by kernel_rfl, fun j t ht => by
        rw [Tryz.params3] at ht
        have hm : t ∈ [9, 4] := by simpa using Array.mem_of_getElem? ht
        have hall : ([9, 4].all fun u => !Tryz.prog.wantsStandIn u) = true := by kernel_rfl
        exact (show Tryz.prog.wantsStandIn t = false by simpa using List.all_eq_true.1 hall t hm)⟩)
    (by kernel_rfl)
#print axioms lineParses_card
end Go.Proofs.YtkmpcdlmeiophaaGreatDoor
