/- Proved here: prints_root, the given statement of that law: for every input of the kind the row names the call returns true and leaves its argument as it read. Conditions: none beside the row's own. -/
import Derived.Test.YtahebkecmlmlfaaGreatDoorTie
import Derived.Test.YtahebkecmlmlfaaGreatDoorCards
import Derived.SevenTiedAt
import Derived.Deep.DeepHandedRow
import Derived.Carry
import Derived.Test.YtahebkecmlmlfaaGreatDoorBar
import Derived.Test.YtahebkecmlmlfaaGreatDoorBan
set_option linter.unusedVariables false
set_option linter.unusedSimpArgs false
set_option linter.unusedSectionVars false
namespace Go.Proofs.YtahebkecmlmlfaaGreatDoor
set_option maxRecDepth 20000
set_option maxHeartbeats 4000000
section
open Go.ChangeShapes Go.WideShapes Go.ChangeAt Go.RowKit Go.WideMaps Go.WideElems
open Go.ChangeMaps (open_string shut_string)
theorem Tryz.laidOut : laidOutB Tryz.prog = true := by kernel_rfl
def upW : Array Value := #[.slice none 0 0, .int .i64 0]
set_option maxRecDepth 100000 in
theorem jy (os : Os) (started : os.Started) (H : Type) (enc : TypeId × Value → H) (F : Stop.Interp) :
  ReturnsInHanded {} Tryz.checked os 5 .any ((Rows.OpenSpec.upto Rows.streamPrintsSpec).preRow enc Tryz.prog Tryz.f5 Rows.streamPrintsUptoRow.domain false Rows.streamPrintsUptoRow.laid) (((Rows.OpenSpec.upto Rows.streamPrintsSpec).at F).post enc Tryz.prog Tryz.f5 false true false false) := by
 have hx : ∃ places, DataW.whole enc Tryz.prog ((bj os Rows.streamPrintsUptoRow.laid).forCall (fun _ _ => 0) ⟨#[], upW, []⟩).memory Tryz.f5.params.toList Rows.streamPrintsSpec.vars false upW.toList 8 = some ([.nil, .lit (.int .i64 0)], [], places) := ⟨[], by kernel_rfl⟩
 obtain ⟨places, hx⟩ := hx
 have hok : Input.okWideB Tryz.prog ((bj os Rows.streamPrintsUptoRow.laid).forCall (fun _ _ => 0) ⟨#[], upW, []⟩) 5 ⟨#[], upW, []⟩ = true := by kernel_rfl
 refine returnsInHanded_of_row (C := Tryz.checked) (s := Rows.OpenSpec.upto Rows.streamPrintsSpec) Tryz.own started (by kernel_rfl) Tryz.func5
  ⟨bj os Rows.streamPrintsUptoRow.laid, fun _ _ => 0, ⟨#[], upW, []⟩, fM _ _, World.shaped_of_ZipB (by kernel_rfl) (by kernel_rfl), (Input.okWide_of_okWideB (base := 0) hok).1, (Input.okWide_of_okWideB hok).2,
   OpenSpec.preRow_of_cond 8 hx (by kernel_rfl) (fun k hk => by cases hk; kernel_rfl) (by kernel_rfl) (eZ _ (by kernel_rfl) (by kernel_rfl) (by kernel_rfl)), by
    simp only [Assume.holds]
    exact ⟨by simp, by simp, by simp, by simp, by simp⟩⟩ ?_
 intro W base args ds gs before hval0 hW _ hcond _ hL hsh _
 obtain ⟨m, hm⟩ := oM hsh
 have hW' := hW
 obtain ⟨p, q, hA0, hV, rfl, _, _⟩ := hW
 have hA : DataW.TrodAll enc Tryz.prog W 0 (fun _ => true) true Tryz.f5.params.toList args.toList ds p := hA0
 rw [Tryz.params5] at hA
 obtain ⟨v0, v1, d0, d1, p0, p1, rfl, rfl, rfl, h0, h1⟩ := trodAll_two hA
 obtain ⟨rfl, rfl⟩ := trodVars_none hV
 have hval1 : ∀ (j : Nat) t v, Tryz.f5.params[j]? = some t → #[v0, v1][j]? = some v → Value.okWide Tryz.prog W .any base t v := hval0
 rw [Tryz.params5] at hval1
 obtain ⟨x1, rfl, rfl, rfl, w1⟩ := open_int Tryz.underlying3 (hval1 1 3 v1 rfl rfl) h1
 simp only [List.append_nil] at hW'
 have hk := hcond _ rfl
 have hbulk : Rows.uptoBulkAll ([d0, .lit (.int .i64 x1)] ++ ([] : List (DataW H))) ≤ 1048576 := of_decide_eq_true hk
 simp only [List.append_nil, Rows.uptoBulkAll, Rows.uptoBulk, Nat.add_zero] at hbulk
 have hval : ∀ (j : Nat) t v, Tryz.f5.params[j]? = some t → #[v0, .int .i64 x1][j]? = some v → Value.okWide Tryz.prog W .any base t v := hval0
 rw [Tryz.params5] at hval
 obtain ⟨sa, slen, scap, rfl⟩ := okWide_slice Tryz.underlying51 (hval 0 51 v0 rfl rfl)
 have h0k := h0
 obtain ⟨fu, hfu⟩ := h0
 obtain ⟨c, hr, hl, ho⟩ := Ae (x := (d0, p0)) (v := .slice sa slen scap) hfu (by show Rows.uptoBulk d0 ≤ _; omega)
 have fin := mh (W := W) (R := aw W W.heap.size) (args := #[.slice sa slen scap, .int .i64 x1]) (mi xY yb s7 x8 x9 xZ Dh c x1 hl ho) (Tryz.call5 _ _) (xB hm (by repeat (first | exact List.Mem.head _ | apply List.Mem.tail)) (by repeat (first | exact List.Mem.head _ | apply List.Mem.tail)) (by repeat (first | exact List.Mem.head _ | apply List.Mem.tail)) (by repeat (first | exact List.Mem.head _ | apply List.Mem.tail)) (by repeat (first | exact List.Mem.head _ | apply List.Mem.tail)) (by repeat (first | exact List.Mem.head _ | apply List.Mem.tail)) (by repeat (first | exact List.Mem.head _ | apply List.Mem.tail)) (by repeat (first | exact List.Mem.head _ | apply List.Mem.tail)) hL) (gB W _)
  ⟨_, _, rfl, hr, ⟨_, _, rfl, am.2 rfl, rfl⟩⟩
 have hlt : ∀ x ∈ p0, x.block < W.heap.size := fun x hx => by simpa using hW'.lt x (by simpa using hx)
 refine fin.mono fun e W' ⟨he, hw, hb⟩ => ?_
 subst he
 refine ⟨_, rfl, _, _, _, [], p0, [], hW', ?_, ?_, ?_, hw _, fun h => by cases h⟩
 ·exact trodAll_mk1 (shut_bool Tryz.underlying4 true)
 ·have := trodAll_mk2 (Below.trod Tryz.laidOut (by kernel_rfl) (of_decide_eq_true (by kernel_rfl)) h0k hb hlt) (shut_int (enc := enc) (P := Tryz.prog) (w := W') (base := 0) (spare := fun b => decide (b < W.heap.size)) (held := true) Tryz.underlying3 w1)
  simp only [List.append_nil] at this
  exact this
 ·rfl
theorem ik : (Rows.streamPrintsUptoRow.inPlace == Tryz.pinned.checked.prog.inPlace 5) = true := by kernel_rfl
theorem nT : (Rows.streamPrintsUptoRow.unfollowed == Tryz.pinned.checked.prog.unfollowed 5) = true := by kernel_rfl
theorem nU : (Rows.streamPrintsUptoRow.recurses == Tryz.pinned.checked.prog.recurses 5) = true := by kernel_rfl
theorem il : (Rows.streamPrintsUptoRow.named == Tryz.pinned.checked.prog.varsNamed 5) = true := by kernel_rfl
theorem fW : joinedFacts Tryz.pinned.checked.prog 5 Tryz.f5 (Rows.OpenSpec.upto Rows.streamPrintsSpec).bare Rows.streamPrintsUptoRow = true := by
 unfold joinedFacts
 rw [ik, nT, nU, il]
 kernel_rfl
theorem ku : Rows.StreamPrintsUptoSaid :=
 OpenClaim.holds_of_cond 5 Tryz.f5 rfl rfl rfl rfl rfl rfl rfl ⟨rfl, rfl, rfl, rfl, rfl⟩ rfl rfl rfl rfl rfl (by kernel_rfl) Tryz.func5 fW
  (of_decide_eq_true (by kernel_rfl)) (by unfold Func.isWrapper; first | (rw [if_pos (by decide +kernel)]; kernel_rfl) | (rw [if_neg (by decide +kernel)]; exact ⟨rfl, rfl⟩))
  (fun os started H enc _ F => by rw [OpenClaim.pre_eq_preRow]; exact jy os started H enc F)
theorem streamPrints_card : Rows.StreamPrintsUptoCardSaid :=
 Claim7.holds_tied_plain_at .later [] _ _ _ _ ku (fun _ h => by cases h) (by kernel_rfl) (fun _ h => by cases h) streamPrintsUpto_row_tie rfl ⟨rfl, rfl⟩ (by kernel_rfl) rfl
  (fun f fn hf hfn => by
   obtain rfl : f = 5 := Option.some.inj ((show Tryz.prog.funcNamed "visitingcard/visitingcardlaw.StreamPrints" = some 5 by kernel_rfl).symm.trans hf) |>.symm
   obtain rfl : fn = Tryz.f5 := (Option.some.inj (Tryz.func5.symm.trans hfn)).symm
   exact ⟨by kernel_rfl, fun j t ht => by
    rw [Tryz.params5] at ht
    have hm : t ∈ [51, 3] := by simpa using Array.mem_of_getElem? ht
    have hall : ([51, 3].all fun u => !Tryz.prog.wantsStandIn u) = true := by kernel_rfl
    exact (show Tryz.prog.wantsStandIn t = false by simpa using List.all_eq_true.1 hall t hm)⟩)
  (by kernel_rfl)
#print axioms streamPrints_card
end
end Go.Proofs.YtahebkecmlmlfaaGreatDoor
