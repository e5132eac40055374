/- Proved here: cardItems_card, the given statement of that law: for every input of the kind the row names the call returns true and leaves its argument as it read. Conditions: none beside the row's own. -/
import Derived.Test.YtkelbglfhigmiaaGreatDoorTie
import Derived.Test.YtkelbglfhigmiaaGreatDoorCards
import Derived.SevenTiedAt
import Derived.Test.YtkelbglfhigmiaaGreatDoorBan
import Derived.Test.YtkelbglfhigmiaaGreatDoorBao
set_option linter.unusedVariables false
set_option linter.unusedSimpArgs false
set_option linter.unusedSectionVars false
namespace Go.Proofs.YtkelbglfhigmiaaGreatDoor
set_option maxRecDepth 20000
set_option maxHeartbeats 4000000
section
open Go.ChangeShapes Go.WideShapes Go.ChangeAt Go.RowKit Go.WideMaps Go.WideElems
open Go.ChangeMaps (setBlock shut_map_nil open_string shut_string keptBut_setBlock)
noncomputable def tB (m : Int) : Glo := BW (E0 (utfTy ++ errTy ++ ce m ++ shapesTy)) EZ
theorem Gd {m : Int} : ab (tB m) utfTy := kH (jh fun x h => List.mem_append_left _ (List.mem_append_left _ (List.mem_append_left _ h)))
theorem Gi {m : Int} : ab (tB m) errTy := kH (jh fun x h => List.mem_append_left _ (List.mem_append_left _ (List.mem_append_right _ h)))
theorem Gh {m : Int} : ab (tB m) (ce m) := kH (jh fun x h => List.mem_append_left _ (List.mem_append_right _ h))
theorem Gf {m : Int} : ab (tB m) shapesTy := kH (jh fun x h => List.mem_append_right _ h)
theorem F3 {W : World} {m : Int} (hm : W.cell? ⟨3, 0, none⟩ = some (.int .i64 m)) {laid : List (String × DataW Unit)} (h0 : ("unicode/utf8.first", Rows.laid_unicode_utf8_first) ∈ laid) (h4 : ("unicode/utf8.acceptRanges", Rows.laid_unicode_utf8_acceptRanges) ∈ laid) (h1 : ("errors.errorType", Rows.laid_errors_errorType) ∈ laid)
  (h3 : ("visitingcard/visitingcardref.shapes", Rows.laid_visitingcard_visitingcardref_shapes) ∈ laid) (h2 : ("strings.asciiSpace", Rows.laid_strings_asciiSpace) ∈ laid) (hL : laidMetH Tryz.prog laid W) : (tB m).p (bE W W.heap.size) := by
 refine ⟨fun x hx => ?_, DB (qS hL h2 (by kernel_rfl) (g := 2) (t := 199) (by kernel_rfl) (by kernel_rfl)) hL h2⟩
 simp only [List.cons_append, List.nil_append, List.mem_cons, List.not_mem_nil, or_false] at hx
 rcases hx with rfl | rfl | rfl | rfl | hx
 ·exact vY (qS hL h0 (by kernel_rfl) (g := 5) (t := 199) (by kernel_rfl) (by kernel_rfl)) hL h0
 ·exact um (qS hL h4 (by kernel_rfl) (g := 6) (t := 252) (by kernel_rfl) (by kernel_rfl)) hL h4
 ·exact v7 (F9 hL h1) hL h1
 ·exact vz (Er hm) hm
 ·obtain rfl := List.mem_singleton.1 (show x ∈ [(0, [AVal.list 3 7 aI])] from hx)
  exact r9 hL h3
set_option maxRecDepth 100000 in
theorem cardItems_lifted (os : Os) (started : os.Started) (H : Type) (enc : TypeId × Value → H) :
  ReturnsInHanded {} Tryz.checked os 3 .any (fun w args => (Rows.cardItemsSpec.pre enc Tryz.prog Tryz.f3 Rows.cardItemsRow.domain false w args ∧ laidMetH Tryz.prog Rows.cardItemsRow.laid w) ∧ sizedMet enc Tryz.prog Tryz.f3 (OpenSpec.ofChange Rows.cardItemsSpec) false w args)
   (Rows.cardItemsSpec.post enc Tryz.prog Tryz.f3 false true false false) := by
 refine gR (C := Tryz.checked) (X := fun w _ => laidMetH Tryz.prog Rows.cardItemsRow.laid w) (fun _ _ _ hh h => h.of_heap hh) Tryz.own started (by kernel_rfl) Tryz.func3
  (ChangeSpec.witness_shaped (enc := enc) (C := Tryz.checked) (os := os) (X := fun w _ => laidMetH Tryz.prog Rows.cardItemsRow.laid w) false (eG os Rows.cardItemsRow.laid) #[.string ⟨#[]⟩, .int .i64 0] 8 (oY _ _)
   (World.shaped_of_ZipB (by kernel_rfl) (by kernel_rfl)) (by kernel_rfl) (by kernel_rfl) (by kernel_rfl)
   (n6 _ (by kernel_rfl) (by kernel_rfl) (by kernel_rfl))) ?_
 intro W base args ds gs before hval0 hW hc hL hsh
 obtain ⟨m, hm⟩ := Br hsh
 have hval : ∀ (j : Nat) t v, Tryz.f3.params[j]? = some t → args[j]? = some v → Value.okWide Tryz.prog W .any base t v := hval0
 have hW' := hW
 obtain ⟨p, q, hA0, hV, rfl, _, _⟩ := hW
 have hA : DataW.TrodAll enc Tryz.prog W 0 (fun _ => true) true Tryz.f3.params.toList args.toList ds p := hA0
 rw [Tryz.params3] at hA hval
 obtain ⟨v0, v1, d0, d1, p0, p1, rfl, rfl, rfl, h0, h1⟩ := trodAll_two hA
 obtain ⟨rfl, rfl⟩ := trodVars_none hV
 obtain ⟨x0, rfl, rfl, rfl, w0⟩ := open_string Tryz.underlying9 (hval 0 9 v0 rfl rfl) h0
 obtain ⟨x1, rfl, rfl, rfl, w1⟩ := open_int Tryz.underlying3 (hval 1 3 v1 rfl rfl) h1
 simp only [List.append_nil] at hW'
 have fin := D1 (W := W) (R := bE W W.heap.size) (args := #[.string x0, .int .i64 x1]) (oT Gi Gd Gh (fun _ h => h.2) Gf x0.data.toList x1 (tj w0)) (Tryz.call3 _ _) (F3 hm (by repeat (first | exact List.Mem.head _ | apply List.Mem.tail)) (by repeat (first | exact List.Mem.head _ | apply List.Mem.tail)) (by repeat (first | exact List.Mem.head _ | apply List.Mem.tail)) (by repeat (first | exact List.Mem.head _ | apply List.Mem.tail)) (by repeat (first | exact List.Mem.head _ | apply List.Mem.tail)) hL) (ql W _)
  ⟨_, _, rfl, az.2 (by rw [qe]), ⟨_, _, rfl, ao.2 rfl, rfl⟩⟩
 refine fin.mono fun e W' ⟨he, hw⟩ => ?_
 subst he
 refine ⟨_, rfl, _, _, _, [], [], [], hW', ?_, ?_, ?_, hw _, fun h => by cases h⟩
 ·exact trodAll_mk1 (shut_bool Tryz.underlying4 true)
 ·exact trodAll_mk2 (shut_string Tryz.underlying9 w0) (shut_int Tryz.underlying3 w1)
 ·rfl
theorem CA : (Rows.cardItemsRow.inPlace == Tryz.pinned.checked.prog.inPlace 3) = true := by kernel_rfl
theorem Ge : (Rows.cardItemsRow.unfollowed == Tryz.pinned.checked.prog.unfollowed 3) = true := by kernel_rfl
theorem Gg : (Rows.cardItemsRow.recurses == Tryz.pinned.checked.prog.recurses 3) = true := by kernel_rfl
theorem CB : (Rows.cardItemsRow.named == Tryz.pinned.checked.prog.varsNamed 3) = true := by kernel_rfl
theorem zA : joinedFacts Tryz.pinned.checked.prog 3 Tryz.f3 Rows.cardItemsSpec Rows.cardItemsRow = true := by
 unfold joinedFacts
 rw [CA, Ge, Gg, CB]
 kernel_rfl
theorem cardItems_holds : Rows.CardItemsSaid :=
 OpenClaim.holds_of_wide 3 Tryz.f3 rfl rfl rfl rfl rfl rfl rfl ⟨rfl, rfl, rfl, rfl, rfl⟩ rfl rfl rfl rfl rfl (by kernel_rfl) Tryz.func3 zA
  (of_decide_eq_true (by kernel_rfl)) (by unfold Func.isWrapper; first | (rw [if_pos (by decide +kernel)]; kernel_rfl) | (rw [if_neg (by decide +kernel)]; exact ⟨rfl, rfl⟩))
  (fun os started H enc _ => cardItems_lifted os started H enc)
theorem cardItems_card : Rows.CardItemsCardSaid :=
 Claim7.holds_tied_plain_at .later [] [.data, .data, .data, .data, .handle, .sentinel, .sentinel, .listed, .data, .widerDeep, .pinned, .pinned] true Rows.cardItemsCard.stood.harness true
  cardItems_holds (fun _ h => by cases h) (by kernel_rfl) (fun _ h => by cases h) cardItems_row_tie rfl ⟨rfl, rfl⟩ (by kernel_rfl) rfl
  (fun f fn hf hfn => by
   obtain rfl : f = 3 := Option.some.inj ((show Tryz.prog.funcNamed "visitingcard/visitingcardlaw.CardItems" = some 3 by kernel_rfl).symm.trans hf) |>.symm
   obtain rfl : fn = Tryz.f3 := (Option.some.inj (Tryz.func3.symm.trans hfn)).symm
   exact ⟨by kernel_rfl, fun j t ht => by
    rw [Tryz.params3] at ht
    have hm : t ∈ [9, 3] := by simpa using Array.mem_of_getElem? ht
    have hall : ([9, 3].all fun u => !Tryz.prog.wantsStandIn u) = true := by kernel_rfl
    exact (show Tryz.prog.wantsStandIn t = false by simpa using List.all_eq_true.1 hall t hm)⟩)
  (by kernel_rfl)
#print axioms cardItems_card
end
end Go.Proofs.YtkelbglfhigmiaaGreatDoor
