/- The law LangCanons: its row and its tied card. -/
import Derived.Test.YtlmihggafbmkaaaDoorLap
import Derived.Test.YtlmihggafbmkaaaDoorLz
import Derived.Test.YtlmihggafbmkaaaDoorEnd
import Derived.Test.YtlmihggafbmkaaaDoorTie
import Derived.Test.YtlmihggafbmkaaaDoorCards
import Derived.SevenTiedAt
namespace Go.Proofs.YtlmihggafbmkaaaDoor
open Go.ChangeShapes Go.WideShapes Go.ChangeAt Go.RowKit Go.WideMaps Go.WideElems
open Go.ChangeMaps (setBlock shut_map_nil open_string shut_string keptBut_setBlock)
set_option maxRecDepth 100000 in
theorem langCanons_lifted (os : Os) (started : os.Started) (H : Type) (enc : TypeId × Value → H) :
    ReturnsInHanded {} Tryd.checked os 9 .any (fun w args => (Rows.langCanonsSpec.pre enc Tryd.prog Tryd.f9 Rows.langCanonsRow.domain false w args ∧ laidMetH Tryd.prog Rows.langCanonsRow.laid w) ∧ sizedMet enc Tryd.prog Tryd.f9 (OpenSpec.ofChange Rows.langCanonsSpec) false w args)
      (Rows.langCanonsSpec.post enc Tryd.prog Tryd.f9 false true false false) := by
  refine returnsInHanded_shaped (C := Tryd.checked) (X := fun w _ => laidMetH Tryd.prog Rows.langCanonsRow.laid w) (fun _ _ _ hh h => h.of_heap hh) Tryd.own started (by kernel_rfl) Tryd.func9
    (ChangeSpec.witness_shaped (enc := enc) (C := Tryd.checked) (os := os) (X := fun w _ => laidMetH Tryd.prog Rows.langCanonsRow.laid w) false (handleLaid os Rows.langCanonsRow.laid) #[.string ⟨#[]⟩] 8 (handleLaid_os _ _)
      (World.shaped_of_ZipB (by kernel_rfl) (by kernel_rfl)) (by kernel_rfl) (by kernel_rfl) (by kernel_rfl)
      (handleLaid_met _ (by kernel_rfl) (by kernel_rfl) (by kernel_rfl))) ?_
  intro W base args ds gs before hval0 hW hc hL hsh
  obtain ⟨m, hm⟩ := max_some hsh
  have hval : ∀ (j : Nat) t v, Tryd.f9.params[j]? = some t → args[j]? = some v → Value.okWide Tryd.prog W .any base t v := hval0
  have hW' := hW
  obtain ⟨p, q, hA0, hV, rfl, _, _⟩ := hW
  have hA : DataW.TrodAll enc Tryd.prog W 0 (fun _ => true) true Tryd.f9.params.toList args.toList ds p := hA0
  rw [Tryd.params9] at hA hval
  obtain ⟨v0, d0, rfl, rfl, h0⟩ := trodAll_one hA
  obtain ⟨rfl, rfl⟩ := trodVars_none hV
  obtain ⟨x0, rfl, rfl, rfl, w0⟩ := open_string Tryd.underlying9 (hval 0 9 v0 rfl rfl) h0
  simp only [List.append_nil] at hW'
  have fin := law_end (W := W) (R := sealBelow W 64) (args := #[.string x0]) (law_LangCanons (G := gloOf (errTy ++ maxTy m)) (gloAll_of fun x h => List.mem_append_left _ h) (gloAll_of fun x h => List.mem_append_right _ h) x0.data.toList (len_of_size w0)) (Tryd.call9 _ _) (glo_em (k := 64) (by omega) hm (.tail _ (.head _)) hL) (sealBelow_ok W _)
    ⟨_, _, rfl, rel_str.2 (by rw [str_mk]), rfl⟩
  refine fin.mono fun e W' ⟨he, hw⟩ => ?_
  subst he
  refine ⟨_, rfl, _, _, _, [], [], [], hW', ?_, ?_, ?_, hw _, fun h => by cases h⟩
  · exact trodAll_mk1 (shut_bool Tryd.underlying4 true)
  · exact trodAll_mk1 (shut_string Tryd.underlying9 w0)
  · rfl
theorem langCanons_holds : Rows.LangCanonsSaid :=
  OpenClaim.holds_of_wide 9 Tryd.f9 rfl rfl rfl rfl rfl rfl rfl ⟨rfl, rfl, rfl, rfl, rfl⟩ rfl rfl rfl rfl rfl (by kernel_rfl) Tryd.func9 (by kernel_rfl)
    (of_decide_eq_true (by kernel_rfl)) (by unfold Func.isWrapper; first | (rw [if_pos (by decide +kernel)]; kernel_rfl) | (rw [if_neg (by decide +kernel)]; exact ⟨rfl, rfl⟩))
    (fun os started H enc _ => langCanons_lifted os started H enc)
theorem langCanons_card : Rows.LangCanonsCardSaid :=
  Claim7.holds_tied_plain_at .later [] [.data, .handle, .pinned, .pinned] true Rows.langCanonsCard.stood.harness true
    langCanons_holds (fun _ h => by cases h) (by kernel_rfl) (fun _ h => by cases h) langCanons_row_tie rfl ⟨rfl, rfl⟩ (by kernel_rfl) rfl
    (fun f fn hf hfn => by
      obtain rfl : f = 9 := Option.some.inj ((show Tryd.prog.funcNamed "visitingcard/visitingcardlaw.LangCanons" = some 9 by kernel_rfl).symm.trans hf) |>.symm
      obtain rfl : fn = Tryd.f9 := (Option.some.inj (Tryd.func9.symm.trans hfn)).symm
      exact ⟨by kernel_rfl, fun j t ht => by
        rw [Tryd.params9] at ht
        have hm : t ∈ [9] := by simpa using Array.mem_of_getElem? ht
        have hall : ([9].all fun u => !Tryd.prog.wantsStandIn u) = true := by kernel_rfl
        exact (show Tryd.prog.wantsStandIn t = false by simpa using List.all_eq_true.1 hall t hm)⟩)
    (by kernel_rfl)
#print axioms langCanons_card
end Go.Proofs.YtlmihggafbmkaaaDoor
