/- The law WhenPrints: its row and its tied card. -/
import Derived.Test.YtlmihggafbmkaaaDoorWhi
import Derived.Test.YtlmihggafbmkaaaDoorEnd
import Derived.Test.YtlmihggafbmkaaaDoorTie
import Derived.Test.YtlmihggafbmkaaaDoorCards
import Derived.SevenTiedAt
import Derived.Carry
namespace Go.Proofs.YtlmihggafbmkaaaDoor
open Go.ChangeShapes Go.WideShapes Go.ChangeAt Go.RowKit Go.WideMaps Go.WideElems
open Go.ChangeMaps (setBlock shut_map_nil open_string shut_string keptBut_setBlock)
theorem Tryd.laidOut : laidOutB Tryd.prog = true := by kernel_rfl
set_option maxRecDepth 100000 in
theorem whenPrints_lifted (os : Os) (started : os.Started) (H : Type) (enc : TypeId × Value → H) :
    ReturnsInHanded {} Tryd.checked os 7 .any (fun w args => (Rows.whenPrintsSpec.pre enc Tryd.prog Tryd.f7 Rows.whenPrintsRow.domain false w args ∧ laidMetH Tryd.prog Rows.whenPrintsRow.laid w) ∧ sizedMet enc Tryd.prog Tryd.f7 (OpenSpec.ofChange Rows.whenPrintsSpec) false w args)
      (Rows.whenPrintsSpec.post enc Tryd.prog Tryd.f7 false true false false) := by
  refine returnsInHanded_shaped (C := Tryd.checked) (X := fun w _ => laidMetH Tryd.prog Rows.whenPrintsRow.laid w) (fun _ _ _ hh h => h.of_heap hh) Tryd.own started (by kernel_rfl) Tryd.func7
    (ChangeSpec.witness_shaped (enc := enc) (C := Tryd.checked) (os := os) (X := fun w _ => laidMetH Tryd.prog Rows.whenPrintsRow.laid w) false (handleLaid os Rows.whenPrintsRow.laid) #[.agg #[.int .i64 0, .int .i64 0, .int .i64 0, .int .i64 0, .int .i64 0, .int .i64 0, .bool false, .int .i64 0]] 8 (handleLaid_os _ _)
      (World.shaped_of_ZipB (by kernel_rfl) (by kernel_rfl)) (by kernel_rfl) (by kernel_rfl) (by kernel_rfl)
      (handleLaid_met _ (by kernel_rfl) (by kernel_rfl) (by kernel_rfl))) ?_
  intro W base args ds gs before hval0 hW hc hL hsh
  obtain ⟨m, hm⟩ := max_some hsh
  have hval : ∀ (j : Nat) t v, Tryd.f7.params[j]? = some t → args[j]? = some v → Value.okWide Tryd.prog W .any base t v := hval0
  have hW' := hW
  obtain ⟨p, q, hA0, hV, rfl, _, _⟩ := hW
  have hA : DataW.TrodAll enc Tryd.prog W 0 (fun _ => true) true Tryd.f7.params.toList args.toList ds p := hA0
  rw [Tryd.params7] at hA hval
  obtain ⟨v0, d0, rfl, rfl, h0⟩ := trodAll_one hA
  obtain ⟨rfl, rfl⟩ := trodVars_none hV
  simp only [List.append_nil] at hW'
  have h0k := h0
  obtain ⟨t, hr⟩ := rel_stamp (R := sealBelow W W.heap.size) h0
  have fin := law_below (W := W) (R := sealBelow W W.heap.size) (args := #[v0]) (law_WhenPrints (G := gloAnd (gloOf (errTy ++ maxTy m ++ shapesTy)) gloPow) (gloAll_l (gloAll_of fun x h => List.mem_append_left _ (List.mem_append_left _ h))) (gloAll_l (gloAll_of fun x h => List.mem_append_left _ (List.mem_append_right _ h))) (gloAll_l (gloAll_of fun x h => List.mem_append_right _ h)) (fun _ h => h.2) t) (Tryd.call7 _ _) (glo_when hm (.tail _ (.tail _ (.tail _ (.head _)))) (.tail _ (.tail _ (.head _))) (.tail _ (.tail _ (.tail _ (.tail _ (.head _))))) hL) (sealBelow_ok W _)
    ⟨_, _, rfl, hr, rfl⟩
  have hlt : ∀ x ∈ p, x.block < W.heap.size := fun x hx => by simpa using hW'.lt x hx
  refine fin.mono fun e W' ⟨he, hw, hb⟩ => ?_
  subst he
  refine ⟨_, rfl, _, _, _, [], p, [], hW', ?_, ?_, ?_, hw _, fun h => by cases h⟩
  · exact trodAll_mk1 (shut_bool Tryd.underlying4 true)
  · exact trodAll_mk1 (Below.trod Tryd.laidOut (by kernel_rfl) (of_decide_eq_true (by kernel_rfl)) h0k hb hlt)
  · rfl
theorem whenPrints_holds : Rows.WhenPrintsSaid :=
  OpenClaim.holds_of_wide 7 Tryd.f7 rfl rfl rfl rfl rfl rfl rfl ⟨rfl, rfl, rfl, rfl, rfl⟩ rfl rfl rfl rfl rfl (by kernel_rfl) Tryd.func7 (by kernel_rfl)
    (of_decide_eq_true (by kernel_rfl)) (by unfold Func.isWrapper; first | (rw [if_pos (by decide +kernel)]; kernel_rfl) | (rw [if_neg (by decide +kernel)]; exact ⟨rfl, rfl⟩))
    (fun os started H enc _ => whenPrints_lifted os started H enc)
theorem whenPrints_card : Rows.WhenPrintsCardSaid :=
  Claim7.holds_tied_plain_at .later [] [.data, .data, .data, .handle, .widerDeep] true Rows.whenPrintsCard.stood.harness true
    whenPrints_holds (fun _ h => by cases h) (by kernel_rfl) (fun _ h => by cases h) whenPrints_row_tie rfl ⟨rfl, rfl⟩ (by kernel_rfl) rfl
    (fun f fn hf hfn => by
      obtain rfl : f = 7 := Option.some.inj ((show Tryd.prog.funcNamed "visitingcard/visitingcardlaw.WhenPrints" = some 7 by kernel_rfl).symm.trans hf) |>.symm
      obtain rfl : fn = Tryd.f7 := (Option.some.inj (Tryd.func7.symm.trans hfn)).symm
      exact ⟨by kernel_rfl, fun j t ht => by
        rw [Tryd.params7] at ht
        have hm : t ∈ [53] := by simpa using Array.mem_of_getElem? ht
        have hall : ([53].all fun u => !Tryd.prog.wantsStandIn u) = true := by kernel_rfl
        exact (show Tryd.prog.wantsStandIn t = false by simpa using List.all_eq_true.1 hall t hm)⟩)
    (by kernel_rfl)
#print axioms whenPrints_card
end Go.Proofs.YtlmihggafbmkaaaDoor
