/- From a contract to what a row asks: the tables as they are laid, the call's end. -/
import Derived.Test.YtiimlbccafemdaaDoorPlLay
import Derived.Test.YtiimlbccafemdaaDoorRows
import Derived.ProofKit
import Derived.LaidMore
import Derived.Lay
import Derived.Stop.Joined
namespace Go.Proofs.YtiimlbccafemdaaDoor
open Go
theorem Tryd.own : ownKnob Tryd.prog.godebug = none := by kernel_rfl
/-- All blocks below, sealed as they stand. -/
def sealBelow (W : World) (k : Nat) : Seal := fun b => if b < k then W.heap[b]? else none
theorem sealBelow_ok (W : World) (k : Nat) : Sealed (sealBelow W k) W := by
  intro b o h
  unfold sealBelow at h
  split at h
  · exact h
  · cases h
theorem ms_start (W : World) (R : Seal) (G : Glo) (hG : G.p R) (hs : Sealed R W) : MS ⟨W, R, blks [], G, hG⟩ R [] W :=
  ⟨hs, Seal.le_refl R, fun _ hb => .inl hb, ⟨fun _ h => absurd h List.not_mem_nil, List.nodup_nil, fun _ h => absurd h List.not_mem_nil⟩, fun _ h => absurd h List.not_mem_nil, Ext.refl W _⟩
theorem keptBut_of_ext {W W' : World} (h : Ext W [] W') (may : MemPlace → Prop) : W.keptBut W' may := by
  refine ⟨h.os, h.output, fun i hi => ?_⟩
  rw [h.block i hi (by simp)]
  generalize W.heap[i]? = o
  cases o with
  | none => rfl
  | some o =>
    cases o with
    | cells c t fr => exact ⟨rfl, rfl, rfl, fun _ _ => rfl⟩
    | map es clock => exact .inr ⟨rfl, rfl⟩
    | _ => rfl
theorem law_end {P : Program} {G : Glo} {f : FuncId} {avs : List AVal} {c : Bool} {args : Array Value} {W : World} {R : Seal} (hs : FnIs P G f avs (.bool c)) (hc : (callFunc f args).run P W = .ok (.enter f args) W)
    (hG : G.p R) (hR : Sealed R W) (ha : RelV R avs args.toList) : Calls P f args W fun e W' => e = .returned (.bool c) ∧ ∀ may, W.keptBut W' may := by
  rcases hs R W args hG (ms_start W R G hG hR) ha with ⟨_, h⟩ | ⟨v, w', h, _⟩
  · refine h.mono fun e W' ⟨res, H', R', ⟨hr, hH⟩, he, hm⟩ => ?_
    subst hr
    obtain ⟨x, rfl, hx⟩ := he
    refine ⟨by rw [rel_bool.1 hx], fun may => keptBut_of_ext hm.ext may⟩
  · rw [hc] at h
    cases h
/-- The two tables of package utf8. -/
def utfGlo : Glo := ⟨fun R => SealedAt R 0 0 firstTab ∧ SealedAt R 1 0 acceptTab, fun _ _ hle ⟨⟨C, e, fz, h1, h2⟩, ⟨C', e', fz', h1', h2'⟩⟩ =>
  ⟨⟨C, e, fz, hle _ _ h1, relL_mono hle _ _ h2⟩, ⟨C', e', fz', hle _ _ h1', relL_mono hle _ _ h2'⟩⟩⟩
theorem utfGlo_first : GloAt utfGlo 0 firstTab := fun _ h => h.1
theorem utfGlo_accept : GloAt utfGlo 1 acceptTab := fun _ h => h.2
def acceptZ : List (Nat × Nat) := [(128, 191), (160, 191), (128, 159), (144, 191), (128, 143), (0, 0), (0, 0), (0, 0), (0, 0), (0, 0), (0, 0), (0, 0), (0, 0), (0, 0), (0, 0), (0, 0)]
theorem first_sealed {cs : Array Value} {e : TypeId} {fz : Nat × Nat} {R : Seal} (hR : R 0 = some (.cells cs e fz)) (hc : cs.toList = Go.Pinned.utf8FirstZ.flatMap fun x : Nat => [Value.int .u8 (x : Int)]) : SealedAt R 0 0 firstTab := by
  refine ⟨cs, e, fz, hR, ?_⟩
  have e1 : firstTab = (Go.Pinned.utf8FirstZ.map fun x : Nat => (IntKind.u8, (x : Int))).map fun x => .int x.1 x.2 := by simp [firstTab]
  have e2 : (cs.toList.drop 0).take firstTab.length = (Go.Pinned.utf8FirstZ.map fun x : Nat => (IntKind.u8, (x : Int))).map fun x => .int x.1 x.2 := by
    have : cs.toList = Go.Pinned.utf8FirstZ.map fun x : Nat => Value.int .u8 (x : Int) := by
      rw [hc]; generalize Go.Pinned.utf8FirstZ = l; induction l <;> simp_all
    rw [this, List.drop_zero, List.take_of_length_le (by simp [firstTab])]
    simp
  rw [e2, e1]
  exact relL_ints _
theorem accept_sealed {cs : Array Value} {e : TypeId} {fz : Nat × Nat} {R : Seal} (hR : R 1 = some (.cells cs e fz)) (hc : cs.toList = acceptZ.flatMap fun x : Nat × Nat => [Value.int .u8 (x.1 : Int), Value.int .u8 (x.2 : Int)]) : SealedAt R 1 0 acceptTab := by
  refine ⟨cs, e, fz, hR, ?_⟩
  rw [hc]
  exact relL_ints ((acceptZ.flatMap fun x : Nat × Nat => [x.1, x.2]).map fun x : Nat => (IntKind.u8, (x : Int)))
/-- The condition of the rows that list these two. -/
theorem glo_of_laid {W : World} (h : laidMetH Tryd.prog [("unicode/utf8.acceptRanges", Rows.laid_unicode_utf8_acceptRanges), ("unicode/utf8.first", Rows.laid_unicode_utf8_first)] W) : utfGlo.p (sealBelow W 2) := by
  rw [MakeChecks.laidMetH_plain _ _ _ (by kernel_rfl)] at h
  obtain ⟨ps, ⟨g1, t1, cs1, f1, p1, q1, hg1, ht1, hv1, hd1, ⟨g2, t2, cs2, f2, p2, q2, hg2, ht2, hv2, hd2, _, _⟩, _⟩, _, _⟩ := h
  have n1 : Tryd.prog.globalNamed "unicode/utf8.acceptRanges" = some 1 := by kernel_rfl
  have n2 : Tryd.prog.globalNamed "unicode/utf8.first" = some 0 := by kernel_rfl
  obtain rfl := Option.some.inj (n1.symm.trans hg1)
  obtain rfl := Option.some.inj (n2.symm.trans hg2)
  obtain rfl := Option.some.inj ((show (Tryd.prog.globals[1]?).map (·.type) = some 129 by kernel_rfl).symm.trans ht1)
  obtain rfl := Option.some.inj ((show (Tryd.prog.globals[0]?).map (·.type) = some 126 by kernel_rfl).symm.trans ht2)
  obtain ⟨e1, z1, b1⟩ := var_heap n1 hv1
  obtain ⟨e2, z2, b2⟩ := var_heap n2 hv2
  refine ⟨first_sealed (cs := cs2) (e := e2) (fz := z2) (by simp only [sealBelow]; exact b2) ?_, accept_sealed (cs := cs1) (e := e1) (fz := z1) (by simp only [sealBelow]; exact b1) ?_⟩
  · exact trod_ints (n := 256) (zs := Go.Pinned.utf8FirstZ) Tryd.underlying126 Tryd.underlying5 (by kernel_rfl) (by kernel_rfl) hd2 (by kernel_rfl)
  · exact trod_pairs (n := 16) (zs := acceptZ) Tryd.underlying129 Tryd.underlying128 (by kernel_rfl) (by kernel_rfl) rfl rfl rfl rfl Tryd.underlying5 (by kernel_rfl) hd1 (by kernel_rfl)
end Go.Proofs.YtiimlbccafemdaaDoor
