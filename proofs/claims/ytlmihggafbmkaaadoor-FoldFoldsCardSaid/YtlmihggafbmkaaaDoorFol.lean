/- A line folded: both sides' answers; the law FoldFolds. -/
import Derived.Test.YtlmihggafbmkaaaDoorBx
import Derived.Test.YtlmihggafbmkaaaDoorRf
import Derived.Test.YtlmihggafbmkaaaDoorShc
import Derived.Test.YtlmihggafbmkaaaDoorUri
namespace Go.Proofs.YtlmihggafbmkaaaDoor
open Go Go.RowKit
def crlfI (s : List UInt8) : Int := Lib.indexAny s [13, 10]
/-- What is wrong with a line that is to be folded. -/
def foldE (s : List UInt8) (w : Int) : Err := if ¬ (10 ≤ w ∧ w ≤ 75) then .errno 2 else if 0 ≤ badI s then .at 3 (badI s) else if 0 ≤ crlfI s then .at 3 (crlfI s) else if 1500 < s.length then .errno 4 else .none
def foldS (s : List UInt8) (w : Int) : List UInt8 := if (10 ≤ w ∧ w ≤ 75) ∧ badI s < 0 ∧ crlfI s < 0 ∧ s.length ≤ 1500 then foldB (piecesS s w (w - 1)) else []
theorem fold_ok {s : List UInt8} {w : Int} (h : (10 ≤ w ∧ w ≤ 75) ∧ badI s < 0 ∧ crlfI s < 0 ∧ s.length ≤ 1500) : foldE s w = .none ∧ foldS s w = foldB (piecesS s w (w - 1)) := by
  unfold foldE foldS
  rw [if_neg (by omega), if_neg (by omega), if_neg (by omega), if_neg (by omega), if_pos h]
  exact ⟨rfl, rfl⟩
theorem badI_none {s : List UInt8} (h : badI s < 0) : badS s = none := by
  unfold badI at h
  split at h <;> first | assumption | omega
theorem crlf_lo {s : List UInt8} (h : crlfI s < 0) : crlfI s = -1 := by
  have := Lib.indexAny_ge [13, 10] s
  unfold crlfI at *
  omega
set_option maxRecDepth 20000
set_option maxHeartbeats 4000000
set_option linter.unusedSimpArgs false
set_option linter.unusedVariables false
attribute [local irreducible] AWp AOps byteAt SrcOK OrOk GloAll FnSpec
attribute [local irreducible] nextS badI badS stepS cutS rngR ownB crlfI
theorem fold_Fold {G : Glo} (s : List UInt8) (w : Int) (hl : s.length ≤ 1600) : FnIs Tryd.prog G 31 [.str s, .int .i64 w] (.tuple [.str (foldS s w), (foldE s w).A]) := by
  have hI := indexAny_two (G := G) (a := 13) (b := 10) (by decide) (by decide) s (by omega)
  rw [show Lib.indexAny s [13, 10] = crlfI s by unfold crlfI; rfl] at hI
  by_cases h : (10 ≤ w ∧ w ≤ 75) ∧ badI s < 0 ∧ crlfI s < 0 ∧ s.length ≤ 1500
  · rw [crlf_lo h.2.2.1] at hI
    rw [(fold_ok h).1, (fold_ok h).2]
    exact fold_loop s w h.1 (by omega) (badI_none h.2.1) hI
  · have hB := utf_Bad (G := G) s (by omega)
    have eS : foldS s w = [] := by unfold foldS; rw [if_neg h]
    rw [eS]
    have hGL : GloAll G [] := gloAll_nil
    refine fn_x Tryd.func31 Tryd.call31 rfl rfl rfl rfl hGL ?_
    intro C hC
    repeat' (first
      | (conv => whnf); first
        | (apply ch_l; apply sp_i; first | exact rfl | omega | exact ⟨rfl, rfl, by omega⟩ | exact ⟨rfl, by omega⟩ | exact ⟨rfl, by omega, by omega, by omega⟩ | decide | (simp only [List.length_drop, List.length_take, List.length_append, List.length_set, List.length_cons, List.length_nil, OrOk] at *; omega) | (simp; omega))
        | (apply sp_i; first | exact rfl | omega | exact ⟨rfl, rfl, by omega⟩ | exact ⟨rfl, by omega⟩ | exact ⟨rfl, by omega, by omega, by omega⟩ | decide | (simp only [List.length_drop, List.length_take, List.length_append, List.length_set, List.length_cons, List.length_nil, OrOk] at *; omega) | (simp; omega))
        | (apply sc_true) | (apply sc_false)
        | (first | apply sc_lt | apply sc_nlt | apply sc_eq | apply sc_neq | apply sc_nil | apply sc_nnil | apply sc_seq | apply sc_nseq); all_goals (intro hb; try (first | (exfalso; omega) | exact absurd rfl hb | exact absurd hb (by decide) | exact absurd hb (by assumption) | exact absurd (by assumption) hb | (exfalso; simp only [List.length_cons, List.length_nil, List.length_append] at hb; omega)))
        | (apply sc_not) | (apply sc_or) | (apply sc_i; all_goals intro hb)
        | (first | apply ix_nat | apply ix_int); first | omega | (simp only [List.length_drop, List.length_take, List.length_append, List.length_set, List.length_cons, List.length_nil] at *; omega)
        | (apply bx_i; intro hbd)
        | (first | apply sd_nat | apply sd_int | apply sl_nat | apply sl_int); first | omega | (simp only [List.length_drop, List.length_take, List.length_append, List.length_set, List.length_cons, List.length_nil] at *; omega)
        | (apply cx_is; first | exact hB | exact hI) | (apply cx_do (i := 0) rfl; first | exact hB | exact hI)
        | (apply ab_i; intro bl) | (apply as_i; intro va vk vc) | (apply av_i; intro v) | (apply ac_i; intro bl cap hcap)
        | (apply bo_l) | (apply ch_r; apply sp_i; intro i hi; exact ⟨rfl, rfl, rfl⟩) | (apply nx_i; all_goals intro hnx)
        | (apply Ia.hit; assumption) | (apply Ia.miss; assumption)
        | (apply rt_is; exact rfl) | (apply rt_do; exact rfl; (repeat (first | exact List.nil_sublist _ | apply List.Sublist.cons_cons))) | (apply iv; assumption)
        | (apply dw_q mixed hC hGL (by kernel_rfl))
        | (apply cq; assumption; (first | exact hB | exact hI); exact rfl))
    all_goals (try conv => whnf)
    all_goals (
      apply rt_is
      unfold foldE
      first
        | (rw [if_pos (by omega)]; rfl)
        | (rw [if_neg (by omega), if_pos (by omega)]; rfl)
        | (rw [if_neg (by omega), if_neg (by omega), if_pos (by omega)]; rfl)
        | (rw [if_neg (by omega), if_neg (by omega), if_neg (by omega), if_pos (by omega)]; rfl))
theorem foldB_join : ∀ (ps : List (List UInt8)), ps ≠ [] → foldB ps = Lib.join ps [13, 10, 32] ++ [13, 10]
  | [], h => absurd rfl h
  | [p], _ => by rw [Lib.join_one]; rfl
  | p :: q :: r, _ => by
    have e : Lib.joinTail [13, 10, 32] (q :: r) = [13, 10, 32] ++ Lib.join (q :: r) [13, 10, 32] := by
      rw [Lib.join_cons]
      simp [Lib.joinTail]
    rw [foldB_cons p (by simp), foldB_join (q :: r) (by simp), Lib.join_cons p, e]
    simp
theorem pieces_len : ∀ (k : Nat) (s : List UInt8) (r q : Int), s.length ≤ k → 4 ≤ r → 4 ≤ q → (piecesS s r q).length ≤ s.length + 1 ∧ (Lib.join (piecesS s r q) [13, 10, 32]).length ≤ 4 * s.length := by
  intro k
  induction k with
  | zero =>
    intro s r q h _ _
    rw [pieces_last (by rw [List.length_drop]; omega), Lib.join_one]
    simp only [List.length_cons, List.length_nil, List.length_take]
    omega
  | succ k ih =>
    intro s r q h hr hq
    by_cases h0 : (s.drop (cutS s 0 r)).length = 0
    · rw [pieces_last h0, Lib.join_one]
      simp only [List.length_cons, List.length_nil, List.length_take]
      omega
    · have hs0 : s.length ≠ 0 := by rw [List.length_drop] at h0; omega
      have h1 := cutS_pos s r hs0 hr
      have h2 := (cutS_le s 0 r).2.1
      rw [List.length_drop] at h0
      have h3 := ih (s.drop (cutS s 0 r)) q q (by rw [List.length_drop]; omega) hq hq
      rw [pieces_more (by rw [List.length_drop]; omega) (by omega)]
      have hne := pieces_ne (s.drop (cutS s 0 r)) q q
      have e : (Lib.join (s.take (cutS s 0 r) :: piecesS (s.drop (cutS s 0 r)) q q) [13, 10, 32]).length = (s.take (cutS s 0 r)).length + 3 + (Lib.join (piecesS (s.drop (cutS s 0 r)) q q) [13, 10, 32]).length := by
        cases hp : piecesS (s.drop (cutS s 0 r)) q q with
        | nil => exact absurd hp hne
        | cons a t =>
          rw [Lib.join_length, Lib.join_length]
          simp [Lib.lens]
          omega
      rw [e]
      simp only [List.length_cons, List.length_drop, List.length_take] at *
      omega
theorem noAny_crlf {s : List UInt8} {i : Nat} (h : Lib.NoAny s [13, 10] i) (hi : i < s.length) (h1 : byteAt s i ≠ 10 ∧ byteAt s i ≠ 13) : Lib.NoAny s [13, 10] (i + 1) := by
  intro j x hj hx
  by_cases e : j = i
  · subst e
    have := get_of_byteAt hx
    exact two_not (by simp; omega)
  · exact h j x (by omega) hx
theorem crlf_at {s : List UInt8} {i : Nat} (h : Lib.NoAny s [13, 10] i) (hi : i < s.length) (h1 : byteAt s i = 10 ∨ byteAt s i = 13) : crlfI s = i := by
  have hx : s[i]? = some s[i] := List.getElem?_eq_getElem hi
  have h2 := get_of_byteAt hx
  unfold crlfI
  exact Lib.indexAny_hit h hx ((two_has _).2 (by simp; omega))
theorem crlf_end {s : List UInt8} (h : Lib.NoAny s [13, 10] s.length) : crlfI s = -1 := by
  unfold crlfI
  exact Lib.indexAny_none h
/-- What is left of the pieces. -/
def restS (s : List UInt8) (w : Int) (n : Nat) : List (List UInt8) := if n = 0 then piecesS s w (w - 1) else if s.length = 0 then [] else piecesS s (w - 1) (w - 1)
theorem restS_step {s : List UInt8} {w : Int} {n : Nat} {r : Int} (hw : 10 ≤ w) (h : n = 0 ∨ s.length ≠ 0) (hr : r = if n = 0 then w else w - 1) :
    restS s w n = s.take (cutS s 0 r) :: restS (s.drop (cutS s 0 r)) w (n + 1) ∧ (s.length ≠ 0 → 1 ≤ cutS s 0 r) := by
  have hpos : s.length ≠ 0 → 1 ≤ cutS s 0 r := fun h0 => cutS_pos s r h0 (by rw [hr]; split <;> omega)
  refine ⟨?_, hpos⟩
  have e : restS s w n = piecesS s r (w - 1) := by
    unfold restS
    by_cases hn : n = 0
    · rw [if_pos hn, hr, if_pos hn]
    · rw [if_neg hn, if_neg (by omega), hr, if_neg hn]
  rw [e]
  by_cases h0 : (s.drop (cutS s 0 r)).length = 0
  · rw [pieces_last h0]
    unfold restS
    rw [if_neg (by omega), if_pos h0]
  · have : s.length ≠ 0 := by rw [List.length_drop] at h0; omega
    rw [pieces_more h0 (by have := hpos this; omega)]
    unfold restS
    rw [if_neg (by omega), if_neg h0]
theorem ref_Fold {G : Glo} (hU : GloAll G utfTy) (s : List UInt8) (w : Int) (hl : s.length ≤ 1600) : FnIs Tryd.prog G 30 [.str s, .int .i64 w] (.tuple [.str (foldS s w), .agg [.int .i64 (foldE s w).e, .int .i64 (foldE s w).p]]) := by
  have hB := ref_Bad (G := G) hU s (by omega)
  have hW := ref_within (G := G) w 10 75
  have hb2 := ref_Bare (G := G)
  have hgd := ref_Good (G := G)
  have hGL : GloAll G [] := gloAll_nil
  refine fn_x Tryd.func30 Tryd.call30 rfl rfl rfl rfl hGL ?_
  intro C hC
  by_cases hw : 10 ≤ w ∧ w ≤ 75
  · rw [show (decide (10 ≤ w) && decide (w ≤ 75)) = true by simp [hw]] at hW
    repeat' (first
      | (conv => whnf); first
        | (apply ch_l; apply sp_i; first | exact rfl | omega | exact ⟨rfl, rfl, by omega⟩ | exact ⟨rfl, by omega⟩ | exact ⟨rfl, by omega, by omega, by omega⟩ | decide | (simp only [List.length_drop, List.length_take, List.length_append, List.length_set, List.length_cons, List.length_nil, OrOk] at *; omega) | (simp; omega))
        | (apply sp_i; first | exact rfl | omega | exact ⟨rfl, rfl, by omega⟩ | exact ⟨rfl, by omega⟩ | exact ⟨rfl, by omega, by omega, by omega⟩ | decide | (simp only [List.length_drop, List.length_take, List.length_append, List.length_set, List.length_cons, List.length_nil, OrOk] at *; omega) | (simp; omega))
        | (apply sc_true) | (apply sc_false)
        | (first | apply sc_lt | apply sc_nlt | apply sc_eq | apply sc_neq | apply sc_nil | apply sc_nnil | apply sc_seq | apply sc_nseq); all_goals (intro hb; try (first | (exfalso; omega) | exact absurd rfl hb | exact absurd hb (by decide) | exact absurd hb (by assumption) | exact absurd (by assumption) hb | (exfalso; simp only [List.length_cons, List.length_nil, List.length_append] at hb; omega)))
        | (apply sc_not) | (apply sc_or) | (apply sc_i; all_goals intro hb)
        | (first | apply ix_nat | apply ix_int); first | omega | (simp only [List.length_drop, List.length_take, List.length_append, List.length_set, List.length_cons, List.length_nil] at *; omega)
        | (apply bx_i; intro hbd)
        | (first | apply sd_nat | apply sd_int | apply sl_nat | apply sl_int); first | omega | (simp only [List.length_drop, List.length_take, List.length_append, List.length_set, List.length_cons, List.length_nil] at *; omega)
        | (apply cx_is; first | exact hB | exact hW | exact hb2 _ | exact hgd) | (apply cx_do (i := 0) rfl; first | exact hB | exact hW | exact hb2 _ | exact hgd)
        | (apply ab_i; intro bl) | (apply as_i; intro va vk vc) | (apply av_i; intro v) | (apply ac_i; intro bl cap hcap)
        | (apply bo_l) | (apply ch_r; apply sp_i; intro i hi; exact ⟨rfl, rfl, rfl⟩) | (apply nx_i; all_goals intro hnx)
        | (apply Ia.hit; assumption) | (apply Ia.miss; assumption)
        | (apply rt_is; exact rfl) | (apply rt_do; exact rfl; (repeat (first | exact List.nil_sublist _ | apply List.Sublist.cons_cons))) | (apply iv; assumption)
        | (apply dw_q mixed hC hGL (by kernel_rfl))
        | (apply cq; assumption; (first | exact hB | exact hW | exact hb2 _ | exact hgd); exact rfl))
    all_goals (try conv => whnf)
    · apply rt_is
      have h : ¬ ((10 ≤ w ∧ w ≤ 75) ∧ badI s < 0 ∧ crlfI s < 0 ∧ s.length ≤ 1500) := by omega
      unfold foldS foldE
      rw [if_neg h, if_neg (by omega), if_pos (by omega)]
      rfl
    rename_i bl0
    refine lp hC hGL (fun (i : Nat) => [(0, .str s), (1, .int .i64 w), (5, .own 0 (.pointer (some ⟨bl0, 0, none⟩))), (23, .own 1 (.slice (some ⟨bl, 0, none⟩) s.length cap)), (24, .int .i64 s.length), (25, .int .i64 i)]) (fun _ => [.cells bl0 (some 28) [.int .i64 0, .int .i64 0], .buf bl s cap]) (fun i => i ≤ s.length ∧ Lib.NoAny s [13, 10] i) (fun i => s.length - i) 0 ?_ (by repeat (first | exact trivial | refine And.intro rfl ?_)) rfl ?_
    · exact ⟨Nat.zero_le _, Lib.NoAny.zero _ _⟩
    rintro i ⟨hi, hno⟩
    repeat' (first
      | (conv => whnf); first
        | (apply ch_l; apply sp_i; first | exact rfl | omega | exact ⟨rfl, rfl, by omega⟩ | exact ⟨rfl, by omega⟩ | exact ⟨rfl, by omega, by omega, by omega⟩ | decide | (simp only [List.length_drop, List.length_take, List.length_append, List.length_set, List.length_cons, List.length_nil, OrOk] at *; omega) | (simp; omega))
        | (apply sp_i; first | exact rfl | omega | exact ⟨rfl, rfl, by omega⟩ | exact ⟨rfl, by omega⟩ | exact ⟨rfl, by omega, by omega, by omega⟩ | decide | (simp only [List.length_drop, List.length_take, List.length_append, List.length_set, List.length_cons, List.length_nil, OrOk] at *; omega) | (simp; omega))
        | (apply sc_true) | (apply sc_false)
        | (first | apply sc_lt | apply sc_nlt | apply sc_eq | apply sc_neq | apply sc_nil | apply sc_nnil | apply sc_seq | apply sc_nseq); all_goals (intro hb; try (first | (exfalso; omega) | exact absurd rfl hb | exact absurd hb (by decide) | exact absurd hb (by assumption) | exact absurd (by assumption) hb | (exfalso; simp only [List.length_cons, List.length_nil, List.length_append] at hb; omega)))
        | (apply sc_not) | (apply sc_or) | (apply sc_i; all_goals intro hb)
        | (first | apply ix_nat | apply ix_int); first | omega | (simp only [List.length_drop, List.length_take, List.length_append, List.length_set, List.length_cons, List.length_nil] at *; omega)
        | (apply bx_i; intro hbd)
        | (first | apply sd_nat | apply sd_int | apply sl_nat | apply sl_int); first | omega | (simp only [List.length_drop, List.length_take, List.length_append, List.length_set, List.length_cons, List.length_nil] at *; omega)
        | (apply cx_is; first | exact hb2 _ | exact hgd) | (apply cx_do (i := 0) rfl; first | exact hb2 _ | exact hgd)
        | (apply ab_i; intro bl) | (apply as_i; intro va vk vc) | (apply av_i; intro v) | (apply ac_i; intro bl cap hcap)
        | (apply bo_l) | (apply ch_r; apply sp_i; intro i hi; exact ⟨rfl, rfl, rfl⟩) | (apply nx_i; all_goals intro hnx)
        | (apply Ia.hit; assumption) | (apply Ia.miss; assumption)
        | (apply rt_is; exact rfl) | (apply rt_do; exact rfl; (repeat (first | exact List.nil_sublist _ | apply List.Sublist.cons_cons))) | (apply iv; assumption)
        | (apply dw_q mixed hC hGL (by kernel_rfl))
        | (apply cq; assumption; (first | exact hb2 _ | exact hgd); exact rfl))
    all_goals (try conv => whnf)
    iterate 2
      · apply rt_is
        have hc := crlf_at hno (by omega) (by omega)
        have h : ¬ ((10 ≤ w ∧ w ≤ 75) ∧ badI s < 0 ∧ crlfI s < 0 ∧ s.length ≤ 1500) := by omega
        unfold foldS foldE
        rw [if_neg h, if_neg (by omega), if_neg (by omega), if_pos (by omega), hc]
        rfl
    · refine nxt (i + 1) ?_ ?_ (by repeat (first | exact trivial | refine And.intro rfl ?_)) rfl
      · exact ⟨by omega, noAny_crlf hno (by omega) (by omega)⟩
      · omega
    · apply rt_is
      have hc := crlf_end (by rw [show s.length = i by omega]; exact hno)
      have h : ¬ ((10 ≤ w ∧ w ≤ 75) ∧ badI s < 0 ∧ crlfI s < 0 ∧ s.length ≤ 1500) := by omega
      unfold foldS foldE
      rw [if_neg h, if_neg (by omega), if_neg (by omega), if_neg (by omega), if_pos (by omega)]
      rfl
    have hc := crlf_end (by rw [show s.length = i by omega]; exact hno)
    rw [(fold_ok ⟨hw, by omega, by omega, by omega⟩).1, (fold_ok ⟨hw, by omega, by omega, by omega⟩).2]
    have hpl := pieces_len s.length s w (w - 1) (Nat.le_refl _) (by omega) (by omega)
    refine lp_row 9 1 rfl ?_
    refine lp hC hGL (fun (x : List UInt8 × List (List UInt8) × Value) => [(0, .str x.1), (1, .int .i64 w), (5, .own 0 (.pointer (some ⟨bl0, 0, none⟩))), (9, .own 2 x.2.2)]) (fun x => [.cells bl0 (some 28) [.int .i64 0, .int .i64 0], .buf bl s cap, .row x.2.2 none 1 x.2.1.length (strsC x.2.1)]) (fun x => x.2.1 ++ restS x.1 w x.2.1.length = piecesS s w (w - 1) ∧ x.1.length ≤ s.length) (fun x => x.1.length + (if x.2.1.length = 0 then 1 else 0)) (s, [], .slice none 0 0) ?_ (by repeat (first | exact trivial | refine And.intro rfl ?_)) rfl ?_
    · exact ⟨by unfold restS; rfl, Nat.le_refl _⟩
    rintro ⟨t, ps, v⟩ ⟨he, htl⟩
    dsimp only at he htl ⊢
    have hps : ps.length ≤ s.length + 1 := by have := congrArg List.length he; rw [List.length_append] at this; omega
    have hK := fun n => ref_Cut (G := G) hU t n (by omega)
    have hc1 := (cutS_le t 0 w).2.1
    have hc2 := (cutS_le t 0 (w - 1)).2.1
    repeat' (first
      | (conv => whnf); first
        | (apply ch_l; apply sp_i; first | exact rfl | omega | exact ⟨rfl, rfl, by omega⟩ | exact ⟨rfl, by omega⟩ | exact ⟨rfl, by omega, by omega, by omega⟩ | decide | (simp only [List.length_drop, List.length_take, List.length_append, List.length_set, List.length_cons, List.length_nil, OrOk] at *; omega) | (simp; omega))
        | (apply sp_i; first | exact rfl | omega | exact ⟨rfl, rfl, by omega⟩ | exact ⟨rfl, by omega⟩ | exact ⟨rfl, by omega, by omega, by omega⟩ | decide | (simp only [List.length_drop, List.length_take, List.length_append, List.length_set, List.length_cons, List.length_nil, OrOk] at *; omega) | (simp; omega))
        | (apply sc_true) | (apply sc_false)
        | (first | apply sc_lt | apply sc_nlt | apply sc_eq | apply sc_neq | apply sc_nil | apply sc_nnil | apply sc_seq | apply sc_nseq); all_goals (intro hb; try (first | (exfalso; omega) | exact absurd rfl hb | exact absurd hb (by decide) | exact absurd hb (by assumption) | exact absurd (by assumption) hb | (exfalso; simp only [List.length_cons, List.length_nil, List.length_append] at hb; omega)))
        | (apply sc_not) | (apply sc_or) | (apply sc_i; all_goals intro hb)
        | (first | apply ix_nat | apply ix_int); first | omega | (simp only [List.length_drop, List.length_take, List.length_append, List.length_set, List.length_cons, List.length_nil] at *; omega)
        | (apply bx_i; intro hbd)
        | (first | apply sd_nat | apply sd_int | apply sl_nat | apply sl_int); first | omega | (simp only [List.length_drop, List.length_take, List.length_append, List.length_set, List.length_cons, List.length_nil] at *; omega)
        | (apply cx_is; first | exact hb2 _ | exact hgd | exact hK _) | (apply cx_do (i := 0) rfl; first | exact hb2 _ | exact hgd | exact hK _)
        | (apply ab_i; intro bl) | (apply as_i; intro va vk vc) | (apply av_i; intro v) | (apply ac_i; intro bl cap hcap)
        | (apply bo_l) | (apply ch_r; apply sp_i; intro i hi; exact ⟨rfl, rfl, rfl⟩) | (apply nx_i; all_goals intro hnx)
        | (apply Ia.hit; assumption) | (apply Ia.miss; assumption)
        | (apply rt_is; exact rfl) | (apply rt_do; exact rfl; (repeat (first | exact List.nil_sublist _ | apply List.Sublist.cons_cons))) | (apply iv; assumption)
        | (apply dw_q mixed hC hGL (by kernel_rfl))
        | (apply cq; assumption; (first | exact hb2 _ | exact hgd | exact hK _); exact rfl))
    all_goals (try conv => whnf)
    · obtain ⟨q1, q2⟩ := restS_step (s := t) (w := w) (n := ps.length) (r := w) hw.1 (.inl (by omega)) (by rw [if_pos (by omega)])
      refine nxt (t.drop (cutS t 0 w), ps ++ [t.take (cutS t 0 w)], .slice va vk vc) ⟨?_, ?_⟩ ?_ ⟨rfl, rfl, rfl, rfl, trivial⟩ ?_
      · dsimp only
        rw [List.length_append, List.append_assoc]
        rw [q1] at he
        exact he
      · simp only [List.length_drop]; omega
      · simp only [List.length_drop, List.length_append, List.length_cons, List.length_nil]
        rw [if_neg (by omega), if_pos (by omega)]
        omega
      · dsimp only
        rw [← strsC_snoc, List.length_append]
        rfl
    · obtain ⟨q1, q2⟩ := restS_step (s := t) (w := w) (n := ps.length) (r := w - 1) hw.1 (.inr (by omega)) (by rw [if_neg (by omega)])
      have q2 := q2 (by omega)
      refine nxt (t.drop (cutS t 0 (w - 1)), ps ++ [t.take (cutS t 0 (w - 1))], .slice va vk vc) ⟨?_, ?_⟩ ?_ ⟨rfl, rfl, rfl, rfl, trivial⟩ ?_
      · dsimp only
        rw [List.length_append, List.append_assoc]
        rw [q1] at he
        exact he
      · simp only [List.length_drop]; omega
      · simp only [List.length_drop, List.length_append, List.length_cons, List.length_nil]
        rw [if_neg (by omega), if_neg (by omega)]
        omega
      · dsimp only
        rw [← strsC_snoc, List.length_append]
        rfl
    · have e : ps = piecesS s w (w - 1) := by
        unfold restS at he
        rw [if_neg (by omega), if_pos (by omega), List.append_nil] at he
        exact he
      apply cx_do (i := 2) rfl (strings_Join_row ps [13, 10, 32] v (by omega) (by rw [e]; omega))
      have hjl : (Lib.join ps [13, 10, 32]).length ≤ 6400 := by rw [e]; omega
      repeat' (first
        | (conv => whnf); first
          | (apply ch_l; apply sp_i; first | exact rfl | omega | exact ⟨rfl, rfl, by omega⟩ | exact ⟨rfl, by omega⟩ | exact ⟨rfl, by omega, by omega, by omega⟩ | decide | (simp only [List.length_drop, List.length_take, List.length_append, List.length_set, List.length_cons, List.length_nil, OrOk] at *; omega) | (simp; omega))
          | (apply sp_i; first | exact rfl | omega | exact ⟨rfl, rfl, by omega⟩ | exact ⟨rfl, by omega⟩ | exact ⟨rfl, by omega, by omega, by omega⟩ | decide | (simp only [List.length_drop, List.length_take, List.length_append, List.length_set, List.length_cons, List.length_nil, OrOk] at *; omega) | (simp; omega))
          | (apply sc_true) | (apply sc_false)
          | (first | apply sc_lt | apply sc_nlt | apply sc_eq | apply sc_neq | apply sc_nil | apply sc_nnil | apply sc_seq | apply sc_nseq); all_goals (intro hb; try (first | (exfalso; omega) | exact absurd rfl hb | exact absurd hb (by decide) | exact absurd hb (by assumption) | exact absurd (by assumption) hb | (exfalso; simp only [List.length_cons, List.length_nil, List.length_append] at hb; omega)))
          | (apply sc_not) | (apply sc_or) | (apply sc_i; all_goals intro hb)
          | (first | apply ix_nat | apply ix_int); first | omega | (simp only [List.length_drop, List.length_take, List.length_append, List.length_set, List.length_cons, List.length_nil] at *; omega)
          | (apply bx_i; intro hbd)
          | (first | apply sd_nat | apply sd_int | apply sl_nat | apply sl_int); first | omega | (simp only [List.length_drop, List.length_take, List.length_append, List.length_set, List.length_cons, List.length_nil] at *; omega)
          | (apply cx_is; first | exact hgd) | (apply cx_do (i := 0) rfl; first | exact hgd)
          | (apply ab_i; intro bl) | (apply as_i; intro va vk vc) | (apply av_i; intro v) | (apply ac_i; intro bl cap hcap)
          | (apply bo_l) | (apply ch_r; apply sp_i; intro i hi; exact ⟨rfl, rfl, rfl⟩) | (apply nx_i; all_goals intro hnx)
          | (apply Ia.hit; assumption) | (apply Ia.miss; assumption)
          | (apply rt_is; exact rfl) | (apply rt_do; exact rfl; (repeat (first | exact List.nil_sublist _ | apply List.Sublist.cons_cons))) | (apply iv; assumption)
          | (apply dw_q mixed hC hGL (by kernel_rfl))
          | (apply cq; assumption; (first | exact hgd); exact rfl))
      all_goals (try conv => whnf)
      apply rt_is
      rw [foldB_join _ (pieces_ne _ _ _), e]
      rfl
  · rw [show (decide (10 ≤ w) && decide (w ≤ 75)) = false by simp; omega] at hW
    repeat' (first
      | (conv => whnf); first
        | (apply ch_l; apply sp_i; first | exact rfl | omega | exact ⟨rfl, rfl, by omega⟩ | exact ⟨rfl, by omega⟩ | exact ⟨rfl, by omega, by omega, by omega⟩ | decide | (simp only [List.length_drop, List.length_take, List.length_append, List.length_set, List.length_cons, List.length_nil, OrOk] at *; omega) | (simp; omega))
        | (apply sp_i; first | exact rfl | omega | exact ⟨rfl, rfl, by omega⟩ | exact ⟨rfl, by omega⟩ | exact ⟨rfl, by omega, by omega, by omega⟩ | decide | (simp only [List.length_drop, List.length_take, List.length_append, List.length_set, List.length_cons, List.length_nil, OrOk] at *; omega) | (simp; omega))
        | (apply sc_true) | (apply sc_false)
        | (first | apply sc_lt | apply sc_nlt | apply sc_eq | apply sc_neq | apply sc_nil | apply sc_nnil | apply sc_seq | apply sc_nseq); all_goals (intro hb; try (first | (exfalso; omega) | exact absurd rfl hb | exact absurd hb (by decide) | exact absurd hb (by assumption) | exact absurd (by assumption) hb | (exfalso; simp only [List.length_cons, List.length_nil, List.length_append] at hb; omega)))
        | (apply sc_not) | (apply sc_or) | (apply sc_i; all_goals intro hb)
        | (first | apply ix_nat | apply ix_int); first | omega | (simp only [List.length_drop, List.length_take, List.length_append, List.length_set, List.length_cons, List.length_nil] at *; omega)
        | (apply bx_i; intro hbd)
        | (first | apply sd_nat | apply sd_int | apply sl_nat | apply sl_int); first | omega | (simp only [List.length_drop, List.length_take, List.length_append, List.length_set, List.length_cons, List.length_nil] at *; omega)
        | (apply cx_is; first | exact hW | exact hb2 _) | (apply cx_do (i := 0) rfl; first | exact hW | exact hb2 _)
        | (apply ab_i; intro bl) | (apply as_i; intro va vk vc) | (apply av_i; intro v) | (apply ac_i; intro bl cap hcap)
        | (apply bo_l) | (apply ch_r; apply sp_i; intro i hi; exact ⟨rfl, rfl, rfl⟩) | (apply nx_i; all_goals intro hnx)
        | (apply Ia.hit; assumption) | (apply Ia.miss; assumption)
        | (apply rt_is; exact rfl) | (apply rt_do; exact rfl; (repeat (first | exact List.nil_sublist _ | apply List.Sublist.cons_cons))) | (apply iv; assumption)
        | (apply dw_q mixed hC hGL (by kernel_rfl))
        | (apply cq; assumption; (first | exact hW | exact hb2 _); exact rfl))
    all_goals (try conv => whnf)
    apply rt_is
    have h : ¬ ((10 ≤ w ∧ w ≤ 75) ∧ badI s < 0 ∧ crlfI s < 0 ∧ s.length ≤ 1500) := by omega
    unfold foldS foldE
    rw [if_neg h, if_pos (by omega)]
    rfl
theorem law_FoldFolds {G : Glo} (hU1 : GloAll G utfTy) (hU2 : GloAll G errTy) (s : List UInt8) (w : Int) (hl : s.length ≤ 9223372036854775807) : FnIs Tryd.prog G 6 [.str s, .int .i64 w] (.bool true) := by
  have hGL : GloAll G [] := gloAll_nil
  refine fn_x Tryd.func6 Tryd.call6 rfl rfl rfl rfl hGL ?_
  intro C hC
  have e1 := fun h => ref_Fold (G := G) hU1 s w h
  have e2 := fun h => fold_Fold (G := G) s w h
  have e6 := law_placed hU2 (foldE s w) (foldE s w).e (foldE s w).p
  rw [← unown_uri] at e6
  repeat' (first
    | (conv => whnf); first
      | (apply ch_l; apply sp_i; first | exact rfl | omega | exact ⟨rfl, rfl, by omega⟩ | exact ⟨rfl, by omega⟩ | exact ⟨rfl, by omega, by omega, by omega⟩ | decide | (simp only [List.length_drop, List.length_take, List.length_append, List.length_set, List.length_cons, List.length_nil, OrOk] at *; omega) | (simp; omega))
      | (apply sp_i; first | exact rfl | omega | exact ⟨rfl, rfl, by omega⟩ | exact ⟨rfl, by omega⟩ | exact ⟨rfl, by omega, by omega, by omega⟩ | decide | (simp only [List.length_drop, List.length_take, List.length_append, List.length_set, List.length_cons, List.length_nil, OrOk] at *; omega) | (simp; omega))
      | (apply sc_true) | (apply sc_false)
      | (first | apply sc_lt | apply sc_nlt | apply sc_eq | apply sc_neq | apply sc_nil | apply sc_nnil | apply sc_seq | apply sc_nseq); all_goals (intro hb; try (first | (exfalso; omega) | exact absurd rfl hb | exact absurd hb (by decide) | exact absurd hb (by assumption) | exact absurd (by assumption) hb | (exfalso; simp only [List.length_cons, List.length_nil, List.length_append] at hb; omega)))
      | (apply sc_not) | (apply sc_or) | (apply sc_i; all_goals intro hb)
      | (first | apply ix_nat | apply ix_int); first | omega | (simp only [List.length_drop, List.length_take, List.length_append, List.length_set, List.length_cons, List.length_nil] at *; omega)
      | (apply bx_i; intro hbd)
      | (first | apply sd_nat | apply sd_int | apply sl_nat | apply sl_int); first | omega | (simp only [List.length_drop, List.length_take, List.length_append, List.length_set, List.length_cons, List.length_nil] at *; omega)
      | (apply cx_is; first | exact e1 (by omega) | exact e2 (by omega) | exact e6) | (apply cx_do (i := 0) rfl; first | exact e1 (by omega) | exact e2 (by omega) | exact e6)
      | (apply ab_i; intro bl) | (apply as_i; intro va vk vc) | (apply av_i; intro v) | (apply ac_i; intro bl cap hcap)
      | (apply bo_l) | (apply ch_r; apply sp_i; intro i hi; exact ⟨rfl, rfl, rfl⟩) | (apply nx_i; all_goals intro hnx)
      | (apply Ia.hit; assumption) | (apply Ia.miss; assumption)
      | (apply rt_is; exact rfl) | (apply rt_do; exact rfl; (repeat (first | exact List.nil_sublist _ | apply List.Sublist.cons_cons))) | (apply iv; assumption)
      | (apply dw_q mixed hC hGL (by kernel_rfl))
      | (apply cq; assumption; (first | exact e1 (by omega) | exact e2 (by omega) | exact e6); exact rfl))
  all_goals (try conv => whnf)
  · apply rt_is
    rw [seqB_t.2 rfl]
  · simp [show ∀ a, eqB a a = true from fun _ => eqB_t.2 rfl] at hb
end Go.Proofs.YtlmihggafbmkaaaDoor
