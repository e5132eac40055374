/- Proved here: jcardTells_card, the given statement of that law: for every input of the kind the row names the call returns true and leaves its argument as it read. Conditions: none beside the row's own. -/
import Derived.Test.YtdpbejofgemloaaGreatDoorTie
import Derived.Test.YtdpbejofgemloaaGreatDoorCards
import Derived.SevenTiedAt
import Derived.Deep.DeepHandedRow
import Derived.Carry
import Derived.Test.YtdpbejofgemloaaGreatDoorBaq
import Derived.Test.YtdpbejofgemloaaGreatDoorBal
set_option linter.unusedVariables false
set_option linter.unusedSimpArgs false
set_option linter.unusedSectionVars false
namespace Go.Proofs.YtdpbejofgemloaaGreatDoor
set_option maxRecDepth 20000
set_option maxHeartbeats 4000000
section
open Go.ChangeShapes Go.WideShapes Go.ChangeAt Go.RowKit Go.WideMaps Go.WideElems
open Go.ChangeMaps (open_string shut_string)
theorem Tryz.laidOut : laidOutB Tryz.prog = true := by kernel_rfl
def upW : Array Value := #[.agg #[.int .i64 0, .slice none 0 0]]
set_option maxRecDepth 100000 in
theorem jcardTells_lifted (os : Os) (started : os.Started) (H : Type) (enc : TypeId × Value → H) (F : Stop.Interp) :
  ReturnsInHanded {} Tryz.checked os 3 .any ((Rows.OpenSpec.upto Rows.jcardTellsSpec).preRow enc Tryz.prog Tryz.f3 Rows.jcardTellsUptoRow.domain false Rows.jcardTellsUptoRow.laid) (((Rows.OpenSpec.upto Rows.jcardTellsSpec).at F).post enc Tryz.prog Tryz.f3 false true false false) := by
 have hx : ∃ places, DataW.whole enc Tryz.prog ((cF os Rows.jcardTellsUptoRow.laid).forCall (fun _ _ => 0) ⟨#[], upW, []⟩).memory Tryz.f3.params.toList Rows.jcardTellsSpec.vars false upW.toList 8 = some ([.agg [.lit (.int .i64 0), .nil]], [], places) := ⟨[], by kernel_rfl⟩
 obtain ⟨places, hx⟩ := hx
 have hok : Input.okWideB Tryz.prog ((cF os Rows.jcardTellsUptoRow.laid).forCall (fun _ _ => 0) ⟨#[], upW, []⟩) 3 ⟨#[], upW, []⟩ = true := by kernel_rfl
 refine returnsInHanded_of_row (C := Tryz.checked) (s := Rows.OpenSpec.upto Rows.jcardTellsSpec) Tryz.own started (by kernel_rfl) Tryz.func3
  ⟨cF os Rows.jcardTellsUptoRow.laid, fun _ _ => 0, ⟨#[], upW, []⟩, pz _ _, World.shaped_of_ZipB (by kernel_rfl) (by kernel_rfl), (Input.okWide_of_okWideB (base := 0) hok).1, (Input.okWide_of_okWideB hok).2,
   OpenSpec.preRow_of_cond 8 hx (by kernel_rfl) (fun k hk => by cases hk; kernel_rfl) (by kernel_rfl) (oA _ (by kernel_rfl) (by kernel_rfl) (by kernel_rfl)), by
    simp only [Assume.holds]
    exact ⟨by simp, by simp, by simp, by simp, by simp⟩⟩ ?_
 intro W base args ds gs before hval0 hW _ hcond _ hL hsh _
 obtain ⟨m, hm⟩ := BU hsh
 have hW' := hW
 obtain ⟨p, q, hA0, hV, rfl, _, _⟩ := hW
 have hA : DataW.TrodAll enc Tryz.prog W 0 (fun _ => true) true Tryz.f3.params.toList args.toList ds p := hA0
 rw [Tryz.params3] at hA
 obtain ⟨v0, d0, rfl, rfl, h0⟩ := trodAll_one hA
 obtain ⟨rfl, rfl⟩ := trodVars_none hV
 simp only [List.append_nil] at hW'
 have hk := hcond _ rfl
 have hbulk : Rows.uptoBulkAll ([d0] ++ ([] : List (DataW H))) ≤ 1048576 := of_decide_eq_true hk
 simp only [List.append_nil, Rows.uptoBulkAll, Rows.uptoBulk, Nat.add_zero] at hbulk
 have h0k := h0
 obtain ⟨c, hr, hl, ho⟩ := Bq h0 (by omega)
 have fin := zR (W := W) (R := az W W.heap.size) (args := #[v0]) (oi Gp Gv Ew Gr Gu Gq G7 c ho hl) (Tryz.call3 _ _) (F8 hm (by repeat (first | exact List.Mem.head _ | apply List.Mem.tail)) (by repeat (first | exact List.Mem.head _ | apply List.Mem.tail)) (by repeat (first | exact List.Mem.head _ | apply List.Mem.tail)) (by repeat (first | exact List.Mem.head _ | apply List.Mem.tail)) (by repeat (first | exact List.Mem.head _ | apply List.Mem.tail)) (by repeat (first | exact List.Mem.head _ | apply List.Mem.tail)) (by repeat (first | exact List.Mem.head _ | apply List.Mem.tail)) (by repeat (first | exact List.Mem.head _ | apply List.Mem.tail)) hL) (qZ W _)
  ⟨_, _, rfl, hr, rfl⟩
 have hlt : ∀ x ∈ p, x.block < W.heap.size := fun x hx => by simpa using hW'.lt x (by simpa using hx)
 refine fin.mono fun e W' ⟨he, hw, hb⟩ => ?_
 subst he
 refine ⟨_, rfl, _, _, _, [], p, [], hW', ?_, ?_, ?_, hw _, fun h => by cases h⟩
 ·exact trodAll_mk1 (shut_bool Tryz.underlying4 true)
 ·exact trodAll_mk1 (Below.trod Tryz.laidOut (by kernel_rfl) (of_decide_eq_true (by kernel_rfl)) h0k hb hlt)
 ·rfl
theorem AN : (Rows.jcardTellsUptoRow.inPlace == Tryz.pinned.checked.prog.inPlace 3) = true := by kernel_rfl
theorem Fm : (Rows.jcardTellsUptoRow.unfollowed == Tryz.pinned.checked.prog.unfollowed 3) = true := by kernel_rfl
theorem Fp : (Rows.jcardTellsUptoRow.recurses == Tryz.pinned.checked.prog.recurses 3) = true := by kernel_rfl
theorem AO : (Rows.jcardTellsUptoRow.named == Tryz.pinned.checked.prog.varsNamed 3) = true := by kernel_rfl
theorem za : joinedFacts Tryz.pinned.checked.prog 3 Tryz.f3 (Rows.OpenSpec.upto Rows.jcardTellsSpec).bare Rows.jcardTellsUptoRow = true := by
 unfold joinedFacts
 rw [AN, Fm, Fp, AO]
 kernel_rfl
theorem mT : Rows.JcardTellsUptoSaid :=
 OpenClaim.holds_of_cond 3 Tryz.f3 rfl rfl rfl rfl rfl rfl rfl ⟨rfl, rfl, rfl, rfl, rfl⟩ rfl rfl rfl rfl rfl (by kernel_rfl) Tryz.func3 za
  (of_decide_eq_true (by kernel_rfl)) (by unfold Func.isWrapper; first | (rw [if_pos (by decide +kernel)]; kernel_rfl) | (rw [if_neg (by decide +kernel)]; exact ⟨rfl, rfl⟩))
  (fun os started H enc _ F => by rw [OpenClaim.pre_eq_preRow]; exact jcardTells_lifted os started H enc F)
theorem jcardTells_card : Rows.JcardTellsUptoCardSaid :=
 Claim7.holds_tied_plain_at .later [] _ _ _ _ mT (fun _ h => by cases h) (by kernel_rfl) (fun _ h => by cases h) jcardTellsUpto_row_tie rfl ⟨rfl, rfl⟩ (by kernel_rfl) rfl
  (fun f fn hf hfn => by
   obtain rfl : f = 3 := Option.some.inj ((show Tryz.prog.funcNamed "visitingcard/visitingcardlaw.JcardTells" = some 3 by kernel_rfl).symm.trans hf) |>.symm
   obtain rfl : fn = Tryz.f3 := (Option.some.inj (Tryz.func3.symm.trans hfn)).symm
   exact ⟨by kernel_rfl, fun j t ht => by
    rw [Tryz.params3] at ht
    have hm : t ∈ [24] := by simpa using Array.mem_of_getElem? ht
    have hall : ([24].all fun u => !Tryz.prog.wantsStandIn u) = true := by kernel_rfl
    exact (show Tryz.prog.wantsStandIn t = false by simpa using List.all_eq_true.1 hall t hm)⟩)
  (by kernel_rfl)
#print axioms jcardTells_card
end
end Go.Proofs.YtdpbejofgemloaaGreatDoor
