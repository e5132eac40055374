/- The reference's answers of 1.1, and the laws on them. -/
import Derived.Test.YtlmihggafbmkaaaDoorDc
namespace Go.Proofs.YtlmihggafbmkaaaDoor
open Go
set_option maxRecDepth 20000
set_option maxHeartbeats 4000000
set_option linter.unusedSimpArgs false
set_option linter.unusedVariables false
attribute [local irreducible] AWp AOps byteAt SrcOK OrOk GloAll FnSpec
attribute [local irreducible] nextS badI badS stepS cutS rngR ownB
attribute [local irreducible] firstTab runeS
theorem nextS_facts (s : List UInt8) : ((nextS s).2 = 0 → (nextS s).1 = 0) ∧ ((nextS s).2 = 1 → (nextS s).1 < 128) ∧ (s.length = 0 → (nextS s).2 = 0) := by
  refine ⟨?_, ?_, ?_⟩
  · unfold nextS; (repeat' split) <;> simp
  · unfold nextS; (repeat' split) <;> simp; omega
  · intro h; unfold nextS; simp [h]
theorem rune_next (s : List UInt8) : (((nextS s).2 : Int) = 0 → ((runeS s).2 : Int) = 0 ∧ s.length = 0 ∨ ((runeS s).1 : Int) = 65533 ∧ ((runeS s).2 : Int) = 1) ∧ (((nextS s).2 : Int) ≠ 0 → ((runeS s).1 : Int) = (nextS s).1 ∧ ((runeS s).2 : Int) = (nextS s).2) := by
  have hf := nextS_facts s
  unfold runeS
  by_cases h0 : s.length = 0
  · rw [if_pos h0]
    refine ⟨fun _ => .inl ⟨rfl, h0⟩, fun h => absurd (hf.2.2 h0) (by omega)⟩
  · rw [if_neg h0]
    by_cases h1 : (nextS s).2 = 0
    · rw [if_pos h1]
      exact ⟨fun _ => .inr ⟨rfl, rfl⟩, fun h => absurd h1 (by omega)⟩
    · rw [if_neg h1]
      exact ⟨fun h => absurd h (by omega), fun _ => ⟨rfl, rfl⟩⟩
theorem ref_Next {G : Glo} (hU : GloAll G utfTy) (s : List UInt8) :
    FnIs Tryd.prog G 117 [.str s] (.tuple [.int .i64 ((nextS s).1 : Int), .int .i64 ((nextS s).2 : Int)]) := by
  have hGL : GloAll G [] := gloAll_nil
  refine fn_x Tryd.func117 Tryd.call117 rfl rfl rfl rfl hGL ?_
  intro C hC
  have hd := dec_rune (G := G) hU s
  have hn := nextS_le s
  have hf := nextS_facts s
  have hr := rune_next s
  have hk : ((runeS s).1 : Int) ≤ 1114111 := by
    by_cases h : (nextS s).2 = 0
    · unfold runeS; rw [if_pos h]; split <;> decide
    · omega
  repeat' (first
    | (conv => whnf); first
      | (apply ch_l; apply sp_i; first | exact rfl | omega | exact ⟨rfl, rfl, by omega⟩ | exact ⟨rfl, by omega⟩ | exact ⟨rfl, by omega, by omega, by omega⟩ | decide | (simp only [List.length_drop, List.length_take, List.length_append, List.length_set, List.length_cons, List.length_nil, OrOk] at *; omega) | (simp; omega))
      | (apply sp_i; first | exact rfl | omega | exact ⟨rfl, rfl, by omega⟩ | exact ⟨rfl, by omega⟩ | exact ⟨rfl, by omega, by omega, by omega⟩ | decide | (simp only [List.length_drop, List.length_take, List.length_append, List.length_set, List.length_cons, List.length_nil, OrOk] at *; omega) | (simp; omega))
      | (apply sc_true) | (apply sc_false)
      | (first | apply sc_lt | apply sc_nlt | apply sc_eq | apply sc_neq | apply sc_nil | apply sc_nnil | apply sc_seq | apply sc_nseq); all_goals (intro hb; try (first | (exfalso; omega) | exact absurd rfl hb))
      | (apply sc_not) | (apply sc_or) | (apply sc_i; all_goals intro hb)
      | (first | apply ix_nat | apply ix_int); first | omega | (simp only [List.length_drop, List.length_take, List.length_append, List.length_set, List.length_cons, List.length_nil] at *; omega)
      | (apply bx_i; intro hbd)
      | (first | apply sd_nat | apply sd_int | apply sl_nat | apply sl_int); first | omega | (simp only [List.length_drop, List.length_take, List.length_append, List.length_set, List.length_cons, List.length_nil] at *; omega)
      | (apply cx_is; first | exact hd) | (apply cx_do (i := 0) rfl; first | exact hd)
      | (apply ab_i; intro bl) | (apply as_i; intro va vk vc) | (apply av_i; intro v) | (apply ac_i; intro bl cap hcap)
      | (apply bo_l) | (apply ch_r; apply sp_i; intro i hi; exact ⟨rfl, rfl, rfl⟩) | (apply nx_i; all_goals intro hnx)
      | (apply Ia.hit; assumption) | (apply Ia.miss; assumption)
      | (apply rt_is; exact rfl) | (apply rt_do; exact rfl; (repeat (first | exact List.nil_sublist _ | apply List.Sublist.cons_cons))) | (apply iv; assumption)
      | (apply dw_q mixed hC hGL (by kernel_rfl))
      | (apply cq; assumption; (first | exact hd); exact rfl))
  all_goals (try conv => whnf)
  all_goals (refine tup2 ?_; omega)
theorem ref_Bad {G : Glo} (hU : GloAll G utfTy) (s : List UInt8) (hl : s.length ≤ 9223372036854775807) : FnIs Tryd.prog G 77 [.str s] (.int .i64 (badI s)) := by
  have hGL : GloAll G [] := gloAll_nil
  refine fn_x Tryd.func77 Tryd.call77 rfl rfl rfl rfl hGL ?_
  intro C hC
  have hle := fun k => nextS_le (s.drop k)
  have hN := fun t => ref_Next (G := G) hU t
  repeat' (first
    | (conv => whnf); first
      | (apply ch_l; apply sp_i; first | exact rfl | omega | exact ⟨rfl, rfl, by omega⟩ | exact ⟨rfl, by omega⟩ | exact ⟨rfl, by omega, by omega, by omega⟩ | decide | (simp only [List.length_drop, List.length_take, List.length_append, List.length_set, List.length_cons, List.length_nil, OrOk] at *; omega) | (simp; omega))
      | (apply sp_i; first | exact rfl | omega | exact ⟨rfl, rfl, by omega⟩ | exact ⟨rfl, by omega⟩ | exact ⟨rfl, by omega, by omega, by omega⟩ | decide | (simp only [List.length_drop, List.length_take, List.length_append, List.length_set, List.length_cons, List.length_nil, OrOk] at *; omega) | (simp; omega))
      | (apply sc_true) | (apply sc_false)
      | (first | apply sc_lt | apply sc_nlt | apply sc_eq | apply sc_neq | apply sc_nil | apply sc_nnil | apply sc_seq | apply sc_nseq); all_goals (intro hb; try (first | (exfalso; omega) | exact absurd rfl hb))
      | (apply sc_not) | (apply sc_or) | (apply sc_i; all_goals intro hb)
      | (first | apply ix_nat | apply ix_int); first | omega | (simp only [List.length_drop, List.length_take, List.length_append, List.length_set, List.length_cons, List.length_nil] at *; omega)
      | (apply bx_i; intro hbd)
      | (first | apply sd_nat | apply sd_int | apply sl_nat | apply sl_int); first | omega | (simp only [List.length_drop, List.length_take, List.length_append, List.length_set, List.length_cons, List.length_nil] at *; omega)
      | (apply cx_is; first | exact hN _) | (apply cx_do (i := 0) rfl; first | exact hN _)
      | (apply ab_i; intro bl) | (apply as_i; intro va vk vc) | (apply av_i; intro v) | (apply ac_i; intro bl cap hcap)
      | (apply bo_l) | (apply ch_r; apply sp_i; intro i hi; exact ⟨rfl, rfl, rfl⟩) | (apply nx_i; all_goals intro hnx)
      | (apply Ia.hit; assumption) | (apply Ia.miss; assumption)
      | (apply rt_is; exact rfl) | (apply rt_do; exact rfl; (repeat (first | exact List.nil_sublist _ | apply List.Sublist.cons_cons))) | (apply iv; assumption)
      | (apply dw_q mixed hC hGL (by kernel_rfl))
      | (apply cq; assumption; (first | exact hN _); exact rfl))
  all_goals (try conv => whnf)
  refine lp hC hGL (fun (i : Nat) => [(0, .str s), (7, .own 0 (.pointer (some ⟨bl, 0, none⟩)))]) (fun i => [.iter bl s i]) (fun i => i ≤ s.length ∧ badS s = (badS (s.drop i)).map (· + i)) (fun i => s.length - i) 0 ?_ (by repeat (first | exact trivial | refine And.intro rfl ?_)) rfl ?_
  · exact ⟨Nat.zero_le _, by simp⟩
  rintro i ⟨hi, hb0⟩
  have hn := hle i
  rw [List.length_drop] at hn
  repeat' (first
    | (conv => whnf); first
      | (apply ch_l; apply sp_i; first | exact rfl | omega | exact ⟨rfl, rfl, by omega⟩ | exact ⟨rfl, by omega⟩ | exact ⟨rfl, by omega, by omega, by omega⟩ | decide | (simp only [List.length_drop, List.length_take, List.length_append, List.length_set, List.length_cons, List.length_nil, OrOk] at *; omega) | (simp; omega))
      | (apply sp_i; first | exact rfl | omega | exact ⟨rfl, rfl, by omega⟩ | exact ⟨rfl, by omega⟩ | exact ⟨rfl, by omega, by omega, by omega⟩ | decide | (simp only [List.length_drop, List.length_take, List.length_append, List.length_set, List.length_cons, List.length_nil, OrOk] at *; omega) | (simp; omega))
      | (apply sc_true) | (apply sc_false)
      | (first | apply sc_lt | apply sc_nlt | apply sc_eq | apply sc_neq | apply sc_nil | apply sc_nnil | apply sc_seq | apply sc_nseq); all_goals (intro hb; try (first | (exfalso; omega) | exact absurd rfl hb))
      | (apply sc_not) | (apply sc_or) | (apply sc_i; all_goals intro hb)
      | (first | apply ix_nat | apply ix_int); first | omega | (simp only [List.length_drop, List.length_take, List.length_append, List.length_set, List.length_cons, List.length_nil] at *; omega)
      | (apply bx_i; intro hbd)
      | (first | apply sd_nat | apply sd_int | apply sl_nat | apply sl_int); first | omega | (simp only [List.length_drop, List.length_take, List.length_append, List.length_set, List.length_cons, List.length_nil] at *; omega)
      | (apply cx_is; first | exact hN _) | (apply cx_do (i := 0) rfl; first | exact hN _)
      | (apply ab_i; intro bl) | (apply as_i; intro va vk vc) | (apply av_i; intro v) | (apply ac_i; intro bl cap hcap)
      | (apply bo_l) | (apply ch_r; apply sp_i; intro i hi; exact ⟨rfl, rfl, rfl⟩) | (apply nx_i; all_goals intro hnx)
      | (apply Ia.hit; assumption) | (apply Ia.miss; assumption)
      | (apply rt_is; exact rfl) | (apply rt_do; exact rfl; (repeat (first | exact List.nil_sublist _ | apply List.Sublist.cons_cons))) | (apply iv; assumption)
      | (apply dw_q mixed hC hGL (by kernel_rfl))
      | (apply cq; assumption; (first | exact hN _); exact rfl))
  all_goals (try conv => whnf)
  · apply rt_is
    refine congrArg (AVal.int .i64) ?_
    have h1 := badS_step (s.drop i) (by rw [List.length_drop]; omega)
    rw [if_pos (by omega)] at h1
    rw [h1] at hb0
    simp only [badI, hb0, Option.map_some, Nat.zero_add]
  · have h1 := badS_step (s.drop i) (by rw [List.length_drop]; omega)
    rw [if_neg (by omega)] at h1
    have h2 : stepS (s.drop i) = (nextS (s.drop i)).2 := by unfold stepS; rw [if_neg (by omega)]
    refine nxt (i + stepS (s.drop i)) ⟨by omega, ?_⟩ (by omega) ⟨rfl, rfl, trivial⟩ rfl
    rw [hb0, h1, List.drop_drop, h2]
    cases badS (s.drop (i + (nextS (s.drop i)).2)) <;> simp <;> omega
  · apply rt_is
    refine congrArg (AVal.int .i64) ?_
    rw [badS_nil (s.drop i) (by rw [List.length_drop]; omega)] at hb0
    simp only [badI, hb0, Option.map_none]
theorem ref_Cut {G : Glo} (hU : GloAll G utfTy) (s : List UInt8) (n : Int) (hl : s.length ≤ 9223372036854775807) : FnIs Tryd.prog G 78 [.str s, .int .i64 n] (.int .i64 (cutS s 0 n)) := by
  have hGL : GloAll G [] := gloAll_nil
  refine fn_x Tryd.func78 Tryd.call78 rfl rfl rfl rfl hGL ?_
  intro C hC
  have hle := fun k => nextS_le (s.drop k)
  have hN := fun t => ref_Next (G := G) hU t
  repeat' (first
    | (conv => whnf); first
      | (apply ch_l; apply sp_i; first | exact rfl | omega | exact ⟨rfl, rfl, by omega⟩ | exact ⟨rfl, by omega⟩ | exact ⟨rfl, by omega, by omega, by omega⟩ | decide | (simp only [List.length_drop, List.length_take, List.length_append, List.length_set, List.length_cons, List.length_nil, OrOk] at *; omega) | (simp; omega))
      | (apply sp_i; first | exact rfl | omega | exact ⟨rfl, rfl, by omega⟩ | exact ⟨rfl, by omega⟩ | exact ⟨rfl, by omega, by omega, by omega⟩ | decide | (simp only [List.length_drop, List.length_take, List.length_append, List.length_set, List.length_cons, List.length_nil, OrOk] at *; omega) | (simp; omega))
      | (apply sc_true) | (apply sc_false)
      | (first | apply sc_lt | apply sc_nlt | apply sc_eq | apply sc_neq | apply sc_nil | apply sc_nnil | apply sc_seq | apply sc_nseq); all_goals (intro hb; try (first | (exfalso; omega) | exact absurd rfl hb))
      | (apply sc_not) | (apply sc_or) | (apply sc_i; all_goals intro hb)
      | (first | apply ix_nat | apply ix_int); first | omega | (simp only [List.length_drop, List.length_take, List.length_append, List.length_set, List.length_cons, List.length_nil] at *; omega)
      | (apply bx_i; intro hbd)
      | (first | apply sd_nat | apply sd_int | apply sl_nat | apply sl_int); first | omega | (simp only [List.length_drop, List.length_take, List.length_append, List.length_set, List.length_cons, List.length_nil] at *; omega)
      | (apply cx_is; first | exact hN _) | (apply cx_do (i := 0) rfl; first | exact hN _)
      | (apply ab_i; intro bl) | (apply as_i; intro va vk vc) | (apply av_i; intro v) | (apply ac_i; intro bl cap hcap)
      | (apply bo_l) | (apply ch_r; apply sp_i; intro i hi; exact ⟨rfl, rfl, rfl⟩) | (apply nx_i; all_goals intro hnx)
      | (apply Ia.hit; assumption) | (apply Ia.miss; assumption)
      | (apply rt_is; exact rfl) | (apply rt_do; exact rfl; (repeat (first | exact List.nil_sublist _ | apply List.Sublist.cons_cons))) | (apply iv; assumption)
      | (apply dw_q mixed hC hGL (by kernel_rfl))
      | (apply cq; assumption; (first | exact hN _); exact rfl))
  all_goals (try conv => whnf)
  refine lp hC hGL (fun (x : Nat × Nat) => [(0, .str s), (1, .int .i64 n), (5, .int .i64 x.2), (6, .int .i64 x.1)]) (fun _ => []) (fun x => x.1 ≤ s.length ∧ ((x.1 = x.2 ∧ cutS s 0 n = cutS (s.drop x.1) x.1 n) ∨ (n < x.1 ∧ cutS s 0 n = x.2))) (fun x => s.length - x.1) (0, 0) ?_ (by repeat (first | exact trivial | refine And.intro rfl ?_)) rfl ?_
  · exact ⟨Nat.zero_le _, .inl ⟨rfl, by simp⟩⟩
  rintro ⟨i, j⟩ ⟨hi, hb0⟩
  dsimp only at hi hb0 ⊢
  have hn := hle i
  rw [List.length_drop] at hn
  have hst : (stepS (s.drop i) : Int) = if ((nextS (s.drop i)).2 : Int) = 0 then 1 else ((nextS (s.drop i)).2 : Int) := by unfold stepS; split <;> split <;> omega
  repeat' (first
    | (conv => whnf); first
      | (apply ch_l; apply sp_i; first | exact rfl | omega | exact ⟨rfl, rfl, by omega⟩ | exact ⟨rfl, by omega⟩ | exact ⟨rfl, by omega, by omega, by omega⟩ | decide | (simp only [List.length_drop, List.length_take, List.length_append, List.length_set, List.length_cons, List.length_nil, OrOk] at *; omega) | (simp; omega))
      | (apply sp_i; first | exact rfl | omega | exact ⟨rfl, rfl, by omega⟩ | exact ⟨rfl, by omega⟩ | exact ⟨rfl, by omega, by omega, by omega⟩ | decide | (simp only [List.length_drop, List.length_take, List.length_append, List.length_set, List.length_cons, List.length_nil, OrOk] at *; omega) | (simp; omega))
      | (apply sc_true) | (apply sc_false)
      | (first | apply sc_lt | apply sc_nlt | apply sc_eq | apply sc_neq | apply sc_nil | apply sc_nnil | apply sc_seq | apply sc_nseq); all_goals (intro hb; try (first | (exfalso; omega) | exact absurd rfl hb))
      | (apply sc_not) | (apply sc_or) | (apply sc_i; all_goals intro hb)
      | (first | apply ix_nat | apply ix_int); first | omega | (simp only [List.length_drop, List.length_take, List.length_append, List.length_set, List.length_cons, List.length_nil] at *; omega)
      | (apply bx_i; intro hbd)
      | (first | apply sd_nat | apply sd_int | apply sl_nat | apply sl_int); first | omega | (simp only [List.length_drop, List.length_take, List.length_append, List.length_set, List.length_cons, List.length_nil] at *; omega)
      | (apply cx_is; first | exact hN _) | (apply cx_do (i := 0) rfl; first | exact hN _)
      | (apply ab_i; intro bl) | (apply as_i; intro va vk vc) | (apply av_i; intro v) | (apply ac_i; intro bl cap hcap)
      | (apply bo_l) | (apply ch_r; apply sp_i; intro i hi; exact ⟨rfl, rfl, rfl⟩) | (apply nx_i; all_goals intro hnx)
      | (apply Ia.hit; assumption) | (apply Ia.miss; assumption)
      | (apply rt_is; exact rfl) | (apply rt_do; exact rfl; (repeat (first | exact List.nil_sublist _ | apply List.Sublist.cons_cons))) | (apply iv; assumption)
      | (apply dw_q mixed hC hGL (by kernel_rfl))
      | (apply cq; assumption; (first | exact hN _); exact rfl))
  all_goals (try conv => whnf)
  any_goals (
    refine nxt_id ?_
    have h1 := cutS_step (s.drop i) i n (by rw [List.length_drop]; omega)
    have h2 := stepS_le (s.drop i) (by rw [List.length_drop]; omega)
    rw [List.length_drop] at h2
    have h3 := stepS_pos (s.drop i)
    rw [List.drop_drop] at h1)
  any_goals (
    refine nxt (i + stepS (s.drop i), i + stepS (s.drop i)) ⟨by omega, .inl ⟨rfl, ?_⟩⟩ (by dsimp only; omega) ⟨rfl, rfl, congrArg (fun z => some (AVal.int .i64 z)) (by dsimp only; omega), congrArg (fun z => some (AVal.int .i64 z)) (by dsimp only; omega), trivial⟩ rfl
    dsimp only
    rw [if_neg (by omega)] at h1
    omega)
  any_goals (
    refine nxt (i + stepS (s.drop i), j) ⟨by omega, .inr ⟨by dsimp only; omega, ?_⟩⟩ (by dsimp only; omega) ⟨rfl, rfl, rfl, congrArg (fun z => some (AVal.int .i64 z)) (by dsimp only; omega), trivial⟩ rfl
    dsimp only
    by_cases hc : n < (i : Int) + (stepS (s.drop i) : Int)
    · rw [if_pos hc] at h1; omega
    · omega)
  all_goals (
    apply rt_is
    refine congrArg (AVal.int .i64) ?_
    rw [cutS_nil (s.drop i) _ _ (by rw [List.length_drop]; omega)] at hb0
    omega)
end Go.Proofs.YtlmihggafbmkaaaDoor
