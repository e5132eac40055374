/- Proved here: pickAlls_card, the given statement of that law: for every input of the kind the row names the call returns true and leaves its argument as it read. Conditions: none beside the row's own. -/
import Derived.Test.YtcoidjllehieeaaGreatDoorTie
import Derived.Test.YtcoidjllehieeaaGreatDoorCards
import Derived.SevenTiedAt
import Derived.Deep.DeepHandedRow
import Derived.Carry
import Derived.Test.YtcoidjllehieeaaGreatDoorBag
import Derived.Test.YtcoidjllehieeaaGreatDoorBah
set_option linter.unusedVariables false
set_option linter.unusedSimpArgs false
namespace Go.Proofs.YtcoidjllehieeaaGreatDoor
open Go.ChangeShapes Go.WideShapes Go.ChangeAt Go.RowKit Go.WideMaps Go.WideElems
open Go.ChangeMaps (open_string shut_string)
theorem Tryz.laidOut : laidOutB Tryz.prog = true := by kernel_rfl
/-- An error that is laid. -/
theorem trod_err {H : Type} {enc : TypeId × Value → H} {P : Program} {W : World} {base : Nat} {spare : Nat → Bool} {fuel : Nat} {t : TypeId} {ms : Array (String × TypeId)} {cs : List Value} {nm : String} {x : DataW H} {p : List MemPlace} (ht : P.underlying t = some (.interface ms)) (h : DataW.trod enc P W base spare false fuel t cs = some (.iface nm x, p)) : ∃ u v, cs = [.iface u v] := by
  cases fuel with
  | zero => simp [DataW.trod] at h
  | succ n =>
    rcases cs with _ | ⟨c, _ | ⟨c2, r⟩⟩
    · simp [DataW.trod, ht] at h
    · cases c with
      | iface u v => exact ⟨_, _, rfl⟩
      | _ => simp [DataW.trod, ht] at h
    · simp [DataW.trod, ht] at h
theorem err_laid {W : World} {laid : List (String × DataW Unit)} (hL : laidMetH Tryz.prog laid W) {n nm : String} {x : DataW Unit} (hm : (n, .iface nm x) ∈ laid) (hn : (DataW.iface nm x).handleName?.isNone = true) {g : Nat} (hg : Tryz.prog.globalNamed n = some g) (ht : (Tryz.prog.globals[g]?).map (·.type) = some 60) : ErrAt g (sealBelow W W.heap.size) := by
  obtain ⟨C, e, fz, fuel, p, hW, hd⟩ := laid_at hL hm hn hg ht
  obtain ⟨u, v, h⟩ := trod_err Tryz.underlying60 hd
  refine ⟨u, v, e, fz, ?_⟩
  unfold sealBelow
  rw [if_pos (block_lt hW), hW]
  obtain ⟨l⟩ := C
  obtain rfl := h
  rfl
def gloErrs : Glo := ⟨fun R => ErrAt 0 R ∧ ErrAt 1 R, fun _ _ hle ⟨⟨t, v, e, fz, h⟩, ⟨t2, v2, e2, fz2, h2⟩⟩ => ⟨⟨t, v, e, fz, hle _ _ h⟩, ⟨t2, v2, e2, fz2, hle _ _ h2⟩⟩⟩
/-- What the law leans on. -/
noncomputable def gloPk (m : Int) : Glo := gloAnd (gloOf (maxTy m)) (gloAnd gloPow gloErrs)
theorem glo_pk {W : World} {m : Int} (hm : W.cell? ⟨2, 0, none⟩ = some (.int .i64 m)) {laid : List (String × DataW Unit)} (h2 : ("internal/strconv.uint64pow10", Rows.laid_internal_strconv_uint64pow10) ∈ laid) (h3 : ("strconv.ErrSyntax", Rows.laid_strconv_ErrSyntax) ∈ laid) (h4 : ("strconv.ErrRange", Rows.laid_strconv_ErrRange) ∈ laid) (hL : laidMetH Tryz.prog laid W) : (gloPk m).p (sealBelow W W.heap.size) := by
  refine ⟨fun x hx => ?_, pow_laid (laid_lt hL h2 (by kernel_rfl) (g := 6) (t := 154) (by kernel_rfl) (by kernel_rfl)) hL h2, err_laid hL h3 (by kernel_rfl) (by kernel_rfl) (by kernel_rfl), err_laid hL h4 (by kernel_rfl) (by kernel_rfl) (by kernel_rfl)⟩
  simp only [List.mem_cons, List.not_mem_nil, or_false] at hx
  subst hx
  exact max_sealed (cell_lt hm) hm
def pkW : Array Value := #[.agg #[.int .i64 0, .slice none 0 0], .string ⟨#[]⟩, .string ⟨#[]⟩]
set_option maxRecDepth 100000 in
theorem pickAlls_lifted (os : Os) (started : os.Started) (H : Type) (enc : TypeId × Value → H) (F : Stop.Interp) :
    ReturnsInHanded {} Tryz.checked os 3 .any ((Rows.OpenSpec.upto Rows.pickAllsSpec).preRow enc Tryz.prog Tryz.f3 Rows.pickAllsUptoRow.domain false Rows.pickAllsUptoRow.laid) (((Rows.OpenSpec.upto Rows.pickAllsSpec).at F).post enc Tryz.prog Tryz.f3 false true false false) := by
  have hx : ∃ places, DataW.whole enc Tryz.prog ((World.laidAll Tryz.prog os Rows.pickAllsUptoRow.laid).forCall (fun _ _ => 0) ⟨#[], pkW, []⟩).memory Tryz.f3.params.toList Rows.pickAllsSpec.vars false pkW.toList 8 = some ([.agg [.lit (.int .i64 0), .nil], .lit (.string []), .lit (.string [])], [], places) := ⟨[], by kernel_rfl⟩
  obtain ⟨places, hx⟩ := hx
  have hok : Input.okWideB Tryz.prog ((World.laidAll Tryz.prog os Rows.pickAllsUptoRow.laid).forCall (fun _ _ => 0) ⟨#[], pkW, []⟩) 3 ⟨#[], pkW, []⟩ = true := by kernel_rfl
  refine returnsInHanded_of_row (C := Tryz.checked) (s := Rows.OpenSpec.upto Rows.pickAllsSpec) Tryz.own started (by kernel_rfl) Tryz.func3
    ⟨World.laidAll Tryz.prog os Rows.pickAllsUptoRow.laid, fun _ _ => 0, ⟨#[], pkW, []⟩, World.laidAll_os _ _ _, World.shaped_of_ZipB (by kernel_rfl) (by kernel_rfl), (Input.okWide_of_okWideB (base := 0) hok).1, (Input.okWide_of_okWideB hok).2,
      OpenSpec.preRow_of_cond 8 hx (by kernel_rfl) (fun k hk => by cases hk; kernel_rfl) (by kernel_rfl) (by rw [MakeChecks.laidMetH_plain _ _ _ (by kernel_rfl)]; exact laidMet_laidAll _ (by kernel_rfl) (by kernel_rfl)), by
        simp only [Assume.holds]
        exact ⟨by simp, by simp, by simp, by simp, by simp⟩⟩ ?_
  intro W base args ds gs before hval0 hW _ hcond _ hL hsh _
  obtain ⟨m, hm⟩ := max_some hsh
  have hW' := hW
  obtain ⟨p, q, hA0, hV, rfl, _, _⟩ := hW
  have hA : DataW.TrodAll enc Tryz.prog W 0 (fun _ => true) true Tryz.f3.params.toList args.toList ds p := hA0
  rw [Tryz.params3] at hA
  obtain ⟨v0, v1, v2, d0, d1, d2, p0, p1, p2, rfl, rfl, rfl, h0, h1, h2⟩ := trodAll_three hA
  obtain ⟨rfl, rfl⟩ := trodVars_none hV
  have hval : ∀ (j : Nat) t v, Tryz.f3.params[j]? = some t → #[v0, v1, v2][j]? = some v → Value.okWide Tryz.prog W .any base t v := hval0
  rw [Tryz.params3] at hval
  obtain ⟨x1, rfl, rfl, rfl, w1⟩ := open_string Tryz.underlying9 (hval 1 9 v1 rfl rfl) h1
  obtain ⟨x2, rfl, rfl, rfl, w2⟩ := open_string Tryz.underlying9 (hval 2 9 v2 rfl rfl) h2
  simp only [List.append_nil] at hW'
  have hk := hcond _ rfl
  have hbulk : Rows.uptoBulkAll ([d0, .lit (.string x1.data.toList), .lit (.string x2.data.toList)] ++ ([] : List (DataW H))) ≤ 1048576 := of_decide_eq_true hk
  simp only [List.append_nil, Rows.uptoBulkAll, Rows.uptoBulk, Nat.add_zero] at hbulk
  have h0k := h0
  obtain ⟨c, hr, hl, ho⟩ := rel_card h0 (by omega)
  have fin := law_below (W := W) (R := sealBelow W W.heap.size) (args := #[v0, .string x1, .string x2]) (law_PickAlls (G := gloPk m) (m := m) (fun _ h => h.2.2) (fun _ h => h.2.1) (gloAll_l (gloAll_of fun x h => h)) c x1.data.toList x2.data.toList (by omega) (by omega) ho hl) (Tryz.call3 _ _) (glo_pk hm (by repeat (first | exact List.Mem.head _ | apply List.Mem.tail)) (by repeat (first | exact List.Mem.head _ | apply List.Mem.tail)) (by repeat (first | exact List.Mem.head _ | apply List.Mem.tail)) hL) (sealBelow_ok W _)
    ⟨_, _, rfl, hr, ⟨_, _, rfl, rel_str.2 (by rw [str_mk]), ⟨_, _, rfl, rel_str.2 (by rw [str_mk]), rfl⟩⟩⟩
  have hlt : ∀ x ∈ p0, x.block < W.heap.size := fun x hx => by simpa using hW'.lt x hx
  refine fin.mono fun e W' ⟨he, hw, hb⟩ => ?_
  subst he
  refine ⟨_, rfl, _, _, _, [], p0, [], hW', ?_, ?_, ?_, hw _, fun h => by cases h⟩
  · exact trodAll_mk1 (shut_bool Tryz.underlying4 true)
  · have := trodAll_mk3 (Below.trod Tryz.laidOut (by kernel_rfl) (of_decide_eq_true (by kernel_rfl)) h0k hb hlt) (shut_string (enc := enc) (P := Tryz.prog) (w := W') (base := 0) (sp := fun b => decide (b < W.heap.size)) (held := true) Tryz.underlying9 w1) (shut_string Tryz.underlying9 w2)
    simp only [List.append_nil] at this
    exact this
  · rfl
theorem pickAlls_said : Rows.PickAllsUptoSaid :=
  OpenClaim.holds_of_cond 3 Tryz.f3 rfl rfl rfl rfl rfl rfl rfl ⟨rfl, rfl, rfl, rfl, rfl⟩ rfl rfl rfl rfl rfl (by kernel_rfl) Tryz.func3 (by kernel_rfl)
    (of_decide_eq_true (by kernel_rfl)) (by unfold Func.isWrapper; first | (rw [if_pos (by decide +kernel)]; kernel_rfl) | (rw [if_neg (by decide +kernel)]; exact ⟨rfl, rfl⟩))
    (fun os started H enc _ F => by rw [OpenClaim.pre_eq_preRow]; exact pickAlls_lifted os started H enc F)
theorem pickAlls_card : Rows.PickAllsUptoCardSaid :=
  Claim7.holds_tied_plain_at .later [] _ _ _ _ pickAlls_said (fun _ h => by cases h) (by kernel_rfl) (fun _ h => by cases h) pickAllsUpto_row_tie rfl ⟨rfl, rfl⟩ (by kernel_rfl) rfl
    (fun f fn hf hfn => by
      obtain rfl : f = 3 := Option.some.inj ((show Tryz.prog.funcNamed "visitingcard/visitingcardlaw.PickAlls" = some 3 by kernel_rfl).symm.trans hf) |>.symm
      obtain rfl : fn = Tryz.f3 := (Option.some.inj (Tryz.func3.symm.trans hfn)).symm
      exact ⟨by kernel_rfl, fun j t ht => by
        rw [Tryz.params3] at ht
        have hm : t ∈ [24, 9, 9] := by simpa using Array.mem_of_getElem? ht
        have hall : ([24, 9, 9].all fun u => !Tryz.prog.wantsStandIn u) = true := by kernel_rfl
        exact (show Tryz.prog.wantsStandIn t = false by simpa using List.all_eq_true.1 hall t hm)⟩)
    (by kernel_rfl)
#print axioms pickAlls_card
end Go.Proofs.YtcoidjllehieeaaGreatDoor
