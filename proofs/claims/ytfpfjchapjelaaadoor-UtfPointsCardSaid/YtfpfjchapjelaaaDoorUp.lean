/- Encodings of numbers, and code points of texts: both sides' answers. -/
import Derived.Test.YtfpfjchapjelaaaDoorRf
import Derived.Test.YtfpfjchapjelaaaDoorTelb
import Derived.Test.YtfpfjchapjelaaaDoorExh
namespace Go.Proofs.YtfpfjchapjelaaaDoor
open Go
set_option maxRecDepth 20000
set_option maxHeartbeats 4000000
set_option linter.unusedSimpArgs false
set_option linter.unusedVariables false
attribute [local irreducible] AWp AOps byteAt SrcOK OrOk GloAll FnSpec
attribute [local irreducible] nextS badI badS stepS cutS rngR ownB mayZ
/-- A text's code points, up to where it is bad. -/
def pts (s : List UInt8) : List Int :=
  if h : s.length = 0 ∨ (nextS s).2 = 0 then [] else ((nextS s).1 : Int) :: pts (s.drop (nextS s).2)
termination_by s.length
decreasing_by simp only [List.length_drop]; omega
theorem pts_nil {s : List UInt8} (h : s.length = 0) : pts s = [] := by rw [pts, dif_pos (.inl h)]
theorem pts_step {s : List UInt8} (h : s.length ≠ 0) (k : (nextS s).2 ≠ 0) : pts s = ((nextS s).1 : Int) :: pts (s.drop (nextS s).2) := by
  rw [pts, dif_neg (by omega)]
/-- How far the reading has come. -/
def Read (s : List UInt8) (i : Nat) (l : List Int) : Prop := i ≤ s.length ∧ l.length ≤ i ∧ badS s = (badS (s.drop i)).map (· + i) ∧ pts s = l ++ pts (s.drop i)
theorem read_0 {s : List UInt8} : Read s 0 [] := ⟨Nat.zero_le _, Nat.le_refl _, by simp, by simp⟩
theorem read_step {s : List UInt8} {i : Nat} {l : List Int} (h : Read s i l) (hi : i < s.length) (hn : (nextS (s.drop i)).2 ≠ 0) : Read s (i + (nextS (s.drop i)).2) (l ++ [((nextS (s.drop i)).1 : Int)]) := by
  obtain ⟨h1, h2, h3, h4⟩ := h
  have hle := nextS_le (s.drop i)
  rw [List.length_drop] at hle
  have hb := badS_step (s.drop i) (by rw [List.length_drop]; omega)
  rw [if_neg hn] at hb
  refine ⟨by omega, by simp only [List.length_append, List.length_cons, List.length_nil]; omega, ?_, ?_⟩
  · rw [h3, hb, List.drop_drop]
    cases badS (s.drop (i + (nextS (s.drop i)).2)) <;> simp <;> omega
  · rw [h4, pts_step (by rw [List.length_drop]; omega) hn, List.drop_drop]
    simp
theorem read_end {s : List UInt8} {i : Nat} {l : List Int} (h : Read s i l) (hi : s.length ≤ i) : badS s = none ∧ pts s = l := by
  obtain ⟨h1, h2, h3, h4⟩ := h
  rw [badS_nil (s.drop i) (by rw [List.length_drop]; omega)] at h3
  rw [pts_nil (s := s.drop i) (by rw [List.length_drop]; omega)] at h4
  exact ⟨h3, by simpa using h4⟩
theorem read_bad {s : List UInt8} {i : Nat} {l : List Int} (h : Read s i l) (hi : i < s.length) (hn : (nextS (s.drop i)).2 = 0) : badS s = some i := by
  have hb := badS_step (s.drop i) (by rw [List.length_drop]; omega)
  rw [if_pos hn] at hb
  rw [h.2.2.1, hb]
  simp
theorem utf_Points_run {G : Glo} (s : List UInt8) (hl : s.length ≤ 137438953000) (Qf : ARes → Heap → Prop)
    (h1 : badS s = none → ∀ i v, Qf (.ret (.tuple [.own i v, .raw .nilIface])) [.row v 1 (pts s).length (intsC (pts s))]) (h2 : ∀ i : Nat, badS s = some i → Qf (.ret (.tuple [.raw (.slice none 0 0), atA 3 i])) []) : FnSpec Tryd.prog G 20 [.str s] [] Qf := by
  have hGL : GloAll G [] := gloAll_nil
  refine fn_x Tryd.func20 Tryd.call20 rfl rfl rfl rfl hGL ?_
  intro C hC
  have hle := fun k => nextS_le (s.drop k)
  repeat' (first
    | (conv => whnf); first
      | (apply ch_l; apply sp_i; first | exact rfl | omega | exact ⟨rfl, rfl, by omega⟩ | exact ⟨rfl, by omega⟩ | exact ⟨rfl, by omega, by omega, by omega⟩ | decide | (simp only [List.length_drop, List.length_take, List.length_append, List.length_set, List.length_cons, List.length_nil, OrOk] at *; omega) | (simp; omega))
      | (apply sp_i; first | exact rfl | omega | exact ⟨rfl, rfl, by omega⟩ | exact ⟨rfl, by omega⟩ | exact ⟨rfl, by omega, by omega, by omega⟩ | decide | (simp only [List.length_drop, List.length_take, List.length_append, List.length_set, List.length_cons, List.length_nil, OrOk] at *; omega) | (simp; omega))
      | (apply sc_true) | (apply sc_false)
      | (first | apply sc_lt | apply sc_nlt | apply sc_eq | apply sc_neq | apply sc_nil | apply sc_nnil | apply sc_seq | apply sc_nseq); all_goals (intro hb; try (first | (exfalso; omega) | exact absurd rfl hb))
      | (apply sc_not) | (apply sc_or) | (apply sc_i; all_goals intro hb)
      | (first | apply ix_nat | apply ix_int); first | omega | (simp only [List.length_drop, List.length_take, List.length_append, List.length_set, List.length_cons, List.length_nil] at *; omega)
      | (apply bx_i; intro hbd)
      | (first | apply sd_nat | apply sd_int | apply sl_nat | apply sl_int); first | omega | (simp only [List.length_drop, List.length_take, List.length_append, List.length_set, List.length_cons, List.length_nil] at *; omega)
      | (apply cx_is; first | exact utf_Next _) | (apply cx_do (i := 0) rfl; first | exact utf_Next _)
      | (apply ab_i; intro bl) | (apply av_i; intro v) | (apply ac_i; intro bl cap hcap)
      | (apply bo_l) | (apply ch_r; apply sp_i; intro i hi; exact ⟨rfl, rfl, rfl⟩) | (apply nx_i; all_goals intro hnx)
      | (apply Ia.hit; assumption) | (apply Ia.miss; assumption)
      | (apply rt_is; exact rfl) | (apply rt_do; exact rfl; (repeat (first | exact List.nil_sublist _ | apply List.Sublist.cons_cons))) | (apply iv; assumption)
      | (apply dw_q mixed hC hGL (by kernel_rfl))
      | (apply cq; assumption; (first | exact utf_Next _); exact rfl))
  all_goals (try conv => whnf)
  refine lp_row 4 1 rfl ?_
  refine lp hC hGL (fun (x : Nat × List Int × Value) => [(0, .str s), (4, .own 0 x.2.2), (5, .int .i64 x.1)]) (fun x => [.row x.2.2 1 x.2.1.length (intsC x.2.1)]) (fun x => Read s x.1 x.2.1) (fun x => s.length - x.1) (0, [], .slice none 0 0) ?_ (by repeat (first | exact trivial | refine And.intro rfl ?_)) rfl ?_
  · exact read_0
  rintro ⟨i, l, v⟩ hI
  have hi := hI.1
  have hll := hI.2.1
  have hn := hle i
  rw [List.length_drop] at hn
  dsimp only at hi hll ⊢
  repeat' (first
    | (conv => whnf); first
      | (apply ch_l; apply sp_i; first | exact rfl | omega | exact ⟨rfl, rfl, by omega⟩ | exact ⟨rfl, by omega⟩ | exact ⟨rfl, by omega, by omega, by omega⟩ | decide | (simp only [List.length_drop, List.length_take, List.length_append, List.length_set, List.length_cons, List.length_nil, OrOk] at *; omega) | (simp; omega))
      | (apply sp_i; first | exact rfl | omega | exact ⟨rfl, rfl, by omega⟩ | exact ⟨rfl, by omega⟩ | exact ⟨rfl, by omega, by omega, by omega⟩ | decide | (simp only [List.length_drop, List.length_take, List.length_append, List.length_set, List.length_cons, List.length_nil, OrOk] at *; omega) | (simp; omega))
      | (apply sc_true) | (apply sc_false)
      | (first | apply sc_lt | apply sc_nlt | apply sc_eq | apply sc_neq | apply sc_nil | apply sc_nnil | apply sc_seq | apply sc_nseq); all_goals (intro hb; try (first | (exfalso; omega) | exact absurd rfl hb))
      | (apply sc_not) | (apply sc_or) | (apply sc_i; all_goals intro hb)
      | (first | apply ix_nat | apply ix_int); first | omega | (simp only [List.length_drop, List.length_take, List.length_append, List.length_set, List.length_cons, List.length_nil] at *; omega)
      | (apply bx_i; intro hbd)
      | (first | apply sd_nat | apply sd_int | apply sl_nat | apply sl_int); first | omega | (simp only [List.length_drop, List.length_take, List.length_append, List.length_set, List.length_cons, List.length_nil] at *; omega)
      | (apply cx_is; first | exact utf_Next _) | (apply cx_do (i := 0) rfl; first | exact utf_Next _)
      | (apply ab_i; intro bl) | (apply av_i; intro v) | (apply ac_i; intro bl cap hcap)
      | (apply bo_l) | (apply ch_r; apply sp_i; intro i hi; exact ⟨rfl, rfl, rfl⟩) | (apply nx_i; all_goals intro hnx)
      | (apply Ia.hit; assumption) | (apply Ia.miss; assumption)
      | (apply rt_is; exact rfl) | (apply rt_do; exact rfl; (repeat (first | exact List.nil_sublist _ | apply List.Sublist.cons_cons))) | (apply iv; assumption)
      | (apply dw_q mixed hC hGL (by kernel_rfl))
      | (apply cq; assumption; (first | exact utf_Next _); exact rfl))
  all_goals (try conv => whnf)
  · exact ⟨[], List.nil_sublist _, h2 i (read_bad hI (by omega) (by omega))⟩
  · refine nxt (i + (nextS (s.drop i)).2, l ++ [((nextS (s.drop i)).1 : Int)], v) (read_step hI (by omega) (by omega)) (by dsimp only; omega) ⟨rfl, rfl, ?_, trivial⟩ ?_
    · exact congrArg (fun z => some (AVal.int .i64 z)) (by dsimp only; omega)
    · dsimp only
      rw [← intsC_snoc, List.length_append]
      rfl
  · have h3 := read_end hI (by dsimp only; omega)
    dsimp only at h3
    refine ⟨_, List.Sublist.refl _, ?_⟩
    have h4 := h1 h3.1 0 v
    rw [h3.2] at h4
    exact h4
/-- What the program answers of a text: its code points and how it ends. -/
def ptsA (s : List UInt8) : AVal := match badS s with
  | none => .list 1 (pts s).length (intsF (pts s))
  | some _ => .raw (.slice none 0 0)
def ptsE (s : List UInt8) : Err := match badS s with
  | none => .none
  | some i => .at 3 i
theorem utf_Points {G : Glo} (s : List UInt8) (hl : s.length ≤ 137438953000) : FnIs Tryd.prog G 20 [.str s] (.tuple [ptsA s, (ptsE s).A]) := by
  cases hb : badS s with
  | none =>
    have : ptsA s = .list 1 (pts s).length (intsF (pts s)) := by unfold ptsA; rw [hb]
    rw [this, show ptsE s = .none by unfold ptsE; rw [hb]]
    refine fn_seal (fun a => .tuple [a, .raw .nilIface]) (mk_fst _) (intsF (pts s)) (intsF_ok _) (utf_Points_run s hl _ (fun _ i v => ⟨i, v, rfl, rfl⟩) (fun i h => ?_))
    rw [hb] at h; cases h
  | some i =>
    have : ptsA s = .raw (.slice none 0 0) := by unfold ptsA; rw [hb]
    rw [this, show ptsE s = .at 3 i by unfold ptsE; rw [hb]]
    refine utf_Points_run s hl _ (fun h => ?_) (fun j h => ?_)
    · rw [hb] at h; cases h
    · rw [hb] at h; cases h; exact ⟨rfl, rfl⟩
theorem badI_some {s : List UInt8} {i : Nat} (h : badS s = some i) : badI s = i := by unfold badI; rw [h]
theorem badI_none {s : List UInt8} (h : badS s = none) : badI s = -1 := by unfold badI; rw [h]
theorem ref_Good {G : Glo} : FnIs Tryd.prog G 50 [] (.agg [.int .i64 0, .int .i64 (-1)]) := by
  have hGL : GloAll G [] := gloAll_nil
  refine fn_x Tryd.func50 Tryd.call50 rfl rfl rfl rfl hGL ?_
  intro C hC
  repeat' (first
    | (conv => whnf); first
      | (apply ch_l; apply sp_i; first | exact rfl | omega | exact ⟨rfl, rfl, by omega⟩ | exact ⟨rfl, by omega⟩ | exact ⟨rfl, by omega, by omega, by omega⟩ | decide | (simp only [List.length_drop, List.length_take, List.length_append, List.length_set, List.length_cons, List.length_nil, OrOk] at *; omega) | (simp; omega))
      | (apply sp_i; first | exact rfl | omega | exact ⟨rfl, rfl, by omega⟩ | exact ⟨rfl, by omega⟩ | exact ⟨rfl, by omega, by omega, by omega⟩ | decide | (simp only [List.length_drop, List.length_take, List.length_append, List.length_set, List.length_cons, List.length_nil, OrOk] at *; omega) | (simp; omega))
      | (apply sc_true) | (apply sc_false)
      | (first | apply sc_lt | apply sc_nlt | apply sc_eq | apply sc_neq | apply sc_nil | apply sc_nnil | apply sc_seq | apply sc_nseq); all_goals (intro hb; try (first | (exfalso; omega) | exact absurd rfl hb))
      | (apply sc_not) | (apply sc_or) | (apply sc_i; all_goals intro hb)
      | (first | apply ix_nat | apply ix_int); first | omega | (simp only [List.length_drop, List.length_take, List.length_append, List.length_set, List.length_cons, List.length_nil] at *; omega)
      | (apply bx_i; intro hbd)
      | (first | apply sd_nat | apply sd_int | apply sl_nat | apply sl_int); first | omega | (simp only [List.length_drop, List.length_take, List.length_append, List.length_set, List.length_cons, List.length_nil] at *; omega)
      | (apply cx_is; first | fail) | (apply cx_do (i := 0) rfl; first | fail)
      | (apply ab_i; intro bl) | (apply av_i; intro v) | (apply ac_i; intro bl cap hcap)
      | (apply bo_l) | (apply ch_r; apply sp_i; intro i hi; exact ⟨rfl, rfl, rfl⟩) | (apply nx_i; all_goals intro hnx)
      | (apply Ia.hit; assumption) | (apply Ia.miss; assumption)
      | (apply rt_is; exact rfl) | (apply rt_do; exact rfl; (repeat (first | exact List.nil_sublist _ | apply List.Sublist.cons_cons))) | (apply iv; assumption)
      | (apply dw_q mixed hC hGL (by kernel_rfl))
      | (apply cq; assumption; (first | fail); exact rfl))
  all_goals (try conv => whnf)
theorem ref_Points_run {G : Glo} (hU : GloAll G utfTy) (s : List UInt8) (hl : s.length ≤ 137438953000) (Qf : ARes → Heap → Prop)
    (h1 : badS s = none → ∀ i v, Qf (.ret (.tuple [.own i v, .agg [.int .i64 0, .int .i64 (-1)]])) [.row v 1 (pts s).length (intsC (pts s))]) (h2 : ∀ i : Nat, badS s = some i → Qf (.ret (.tuple [.raw (.slice none 0 0), .agg [.int .i64 3, .int .i64 i]])) []) : FnSpec Tryd.prog G 19 [.str s] [] Qf := by
  have hGL : GloAll G [] := gloAll_nil
  refine fn_x Tryd.func19 Tryd.call19 rfl rfl rfl rfl hGL ?_
  intro C hC
  have hle := fun k => nextS_le (s.drop k)
  have hB := ref_Bad (G := G) hU s (by omega)
  repeat' (first
    | (conv => whnf); first
      | (apply ch_l; apply sp_i; first | exact rfl | omega | exact ⟨rfl, rfl, by omega⟩ | exact ⟨rfl, by omega⟩ | exact ⟨rfl, by omega, by omega, by omega⟩ | decide | (simp only [List.length_drop, List.length_take, List.length_append, List.length_set, List.length_cons, List.length_nil, OrOk] at *; omega) | (simp; omega))
      | (apply sp_i; first | exact rfl | omega | exact ⟨rfl, rfl, by omega⟩ | exact ⟨rfl, by omega⟩ | exact ⟨rfl, by omega, by omega, by omega⟩ | decide | (simp only [List.length_drop, List.length_take, List.length_append, List.length_set, List.length_cons, List.length_nil, OrOk] at *; omega) | (simp; omega))
      | (apply sc_true) | (apply sc_false)
      | (first | apply sc_lt | apply sc_nlt | apply sc_eq | apply sc_neq | apply sc_nil | apply sc_nnil | apply sc_seq | apply sc_nseq); all_goals (intro hb; try (first | (exfalso; omega) | exact absurd rfl hb))
      | (apply sc_not) | (apply sc_or) | (apply sc_i; all_goals intro hb)
      | (first | apply ix_nat | apply ix_int); first | omega | (simp only [List.length_drop, List.length_take, List.length_append, List.length_set, List.length_cons, List.length_nil] at *; omega)
      | (apply bx_i; intro hbd)
      | (first | apply sd_nat | apply sd_int | apply sl_nat | apply sl_int); first | omega | (simp only [List.length_drop, List.length_take, List.length_append, List.length_set, List.length_cons, List.length_nil] at *; omega)
      | (apply cx_is; first | exact hB | exact ref_Good) | (apply cx_do (i := 0) rfl; first | exact hB | exact ref_Good)
      | (apply ab_i; intro bl) | (apply av_i; intro v) | (apply ac_i; intro bl cap hcap)
      | (apply bo_l) | (apply ch_r; apply sp_i; intro i hi; exact ⟨rfl, rfl, rfl⟩) | (apply nx_i; all_goals intro hnx)
      | (apply Ia.hit; assumption) | (apply Ia.miss; assumption)
      | (apply rt_is; exact rfl) | (apply rt_do; exact rfl; (repeat (first | exact List.nil_sublist _ | apply List.Sublist.cons_cons))) | (apply iv; assumption)
      | (apply dw_q mixed hC hGL (by kernel_rfl))
      | (apply cq; assumption; (first | exact hB | exact ref_Good); exact rfl))
  all_goals (try conv => whnf)
  · cases hs : badS s with
    | none => have := badI_none hs; omega
    | some i =>
      refine ⟨[], List.nil_sublist _, ?_⟩
      rw [badI_some hs]
      exact h2 i hs
  have hs : badS s = none := by
    cases hs : badS s with
    | none => rfl
    | some i => have := badI_some hs; omega
  rename_i bt
  refine lp_row 5 1 rfl ?_
  refine lp hC hGL (fun (x : Nat × List Int × Value) => [(3, .own 0 (.pointer (some { block := bt, off := 0 }))), (15, .own 1 (.pointer (some { block := bl, off := 0 }))), (5, .own 2 x.2.2)]) (fun x => [.cells bt [.int .i64 0, .int .i64 0], .iter bl s x.1, .row x.2.2 1 x.2.1.length (intsC x.2.1)]) (fun x => Read s x.1 x.2.1) (fun x => s.length - x.1) (0, [], .slice none 0 0) ?_ (by repeat (first | exact trivial | refine And.intro rfl ?_)) rfl ?_
  · exact read_0
  rintro ⟨i, l, v⟩ hI
  have hi := hI.1
  have hll := hI.2.1
  have hn := hle i
  rw [List.length_drop] at hn
  dsimp only at hi hll ⊢
  have hr : rngR (s.drop i) ≤ 1114111 := by unfold rngR; split <;> omega
  have hz : i < s.length → rngR (s.drop i) = (nextS (s.drop i)).1 ∧ (nextS (s.drop i)).2 ≠ 0 ∧ stepS (s.drop i) = (nextS (s.drop i)).2 := by
    intro h
    have hne : (nextS (s.drop i)).2 ≠ 0 := by
      intro h0
      have := read_bad hI h h0
      rw [hs] at this; cases this
    refine ⟨?_, hne, ?_⟩
    · unfold rngR; rw [if_neg hne]
    · unfold stepS; rw [if_neg (by omega)]
  repeat' (first
    | (conv => whnf); first
      | (apply ch_l; apply sp_i; first | exact rfl | omega | exact ⟨rfl, rfl, by omega⟩ | exact ⟨rfl, by omega⟩ | exact ⟨rfl, by omega, by omega, by omega⟩ | decide | (simp only [List.length_drop, List.length_take, List.length_append, List.length_set, List.length_cons, List.length_nil, OrOk] at *; omega) | (simp; omega))
      | (apply sp_i; first | exact rfl | omega | exact ⟨rfl, rfl, by omega⟩ | exact ⟨rfl, by omega⟩ | exact ⟨rfl, by omega, by omega, by omega⟩ | decide | (simp only [List.length_drop, List.length_take, List.length_append, List.length_set, List.length_cons, List.length_nil, OrOk] at *; omega) | (simp; omega))
      | (apply sc_true) | (apply sc_false)
      | (first | apply sc_lt | apply sc_nlt | apply sc_eq | apply sc_neq | apply sc_nil | apply sc_nnil | apply sc_seq | apply sc_nseq); all_goals (intro hb; try (first | (exfalso; omega) | exact absurd rfl hb))
      | (apply sc_not) | (apply sc_or) | (apply sc_i; all_goals intro hb)
      | (first | apply ix_nat | apply ix_int); first | omega | (simp only [List.length_drop, List.length_take, List.length_append, List.length_set, List.length_cons, List.length_nil] at *; omega)
      | (apply bx_i; intro hbd)
      | (first | apply sd_nat | apply sd_int | apply sl_nat | apply sl_int); first | omega | (simp only [List.length_drop, List.length_take, List.length_append, List.length_set, List.length_cons, List.length_nil] at *; omega)
      | (apply cx_is; first | exact ref_Good) | (apply cx_do (i := 0) rfl; first | exact ref_Good)
      | (apply ab_i; intro bl) | (apply av_i; intro v) | (apply ac_i; intro bl cap hcap)
      | (apply bo_l) | (apply ch_r; apply sp_i; intro i hi; exact ⟨rfl, rfl, rfl⟩) | (apply nx_i; all_goals intro hnx)
      | (apply Ia.hit; assumption) | (apply Ia.miss; assumption)
      | (apply rt_is; exact rfl) | (apply rt_do; exact rfl; (repeat (first | exact List.nil_sublist _ | apply List.Sublist.cons_cons))) | (apply iv; assumption)
      | (apply dw_q mixed hC hGL (by kernel_rfl))
      | (apply cq; assumption; (first | exact ref_Good); exact rfl))
  all_goals (try conv => whnf)
  · obtain ⟨z1, z2, z3⟩ := hz hnx
    refine nxt (i + (nextS (s.drop i)).2, l ++ [((nextS (s.drop i)).1 : Int)], v) (read_step hI hnx z2) (by dsimp only; omega) ⟨rfl, rfl, rfl, trivial⟩ ?_
    dsimp only
    rw [← intsC_snoc, List.length_append, z3, z1]
    rfl
  · have h3 := read_end hI (by omega)
    dsimp only at h3
    refine ⟨_, .cons _ (.cons _ (List.Sublist.refl _)), ?_⟩
    have h4 := h1 h3.1 2 v
    rw [h3.2] at h4
    exact h4
def ptsF (s : List UInt8) : AVal := .agg [.int .i64 (ptsE s).e, .int .i64 (ptsE s).p]
theorem ref_Points {G : Glo} (hU : GloAll G utfTy) (s : List UInt8) (hl : s.length ≤ 137438953000) : FnIs Tryd.prog G 19 [.str s] (.tuple [ptsA s, ptsF s]) := by
  cases hb : badS s with
  | none =>
    have : ptsA s = .list 1 (pts s).length (intsF (pts s)) := by unfold ptsA; rw [hb]
    rw [this, show ptsF s = .agg [.int .i64 0, .int .i64 (-1)] by unfold ptsF ptsE; rw [hb]; rfl]
    refine fn_seal (fun a => .tuple [a, .agg [.int .i64 0, .int .i64 (-1)]]) (mk_fst _) (intsF (pts s)) (intsF_ok _) (ref_Points_run hU s hl _ (fun _ i v => ⟨i, v, rfl, rfl⟩) (fun i h => ?_))
    rw [hb] at h; cases h
  | some i =>
    have : ptsA s = .raw (.slice none 0 0) := by unfold ptsA; rw [hb]
    rw [this, show ptsF s = .agg [.int .i64 3, .int .i64 i] by unfold ptsF ptsE; rw [hb]; rfl]
    refine ref_Points_run hU s hl _ (fun h => ?_) (fun j h => ?_)
    · rw [hb] at h; cases h
    · rw [hb] at h; cases h; exact ⟨rfl, rfl⟩
end Go.Proofs.YtfpfjchapjelaaaDoor
