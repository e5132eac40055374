/- Package utf: where a text is bad, where it may be cut. -/
import Derived.Test.YtlmihggafbmkaaaDoorUf
namespace Go.Proofs.YtlmihggafbmkaaaDoor
open Go
set_option maxRecDepth 20000
set_option maxHeartbeats 4000000
set_option linter.unusedSimpArgs false
set_option linter.unusedVariables false
attribute [local irreducible] AWp AOps byteAt SrcOK OrOk GloAll FnSpec
attribute [local irreducible] nextS badI badS stepS cutS rngR ownB
theorem utf_Bad {G : Glo} (s : List UInt8) (hl : s.length ≤ 9223372036854775807) : FnIs Tryd.prog G 80 [.str s] (.int .i64 (badI s)) := by
  have hGL : GloAll G [] := gloAll_nil
  refine fn_x Tryd.func80 Tryd.call80 rfl rfl rfl rfl hGL ?_
  intro C hC
  have hle := fun k => nextS_le (s.drop k)
  repeat' (first
    | (conv => whnf); first
      | (apply ch_l; apply sp_i; first | exact rfl | omega | exact ⟨rfl, rfl, by omega⟩ | exact ⟨rfl, by omega⟩ | exact ⟨rfl, by omega, by omega, by omega⟩ | exact ⟨⟨_, rfl⟩, by omega⟩ | exact ⟨⟨_, rfl⟩, by omega, by omega⟩ | decide | (simp only [List.length_drop, List.length_take, List.length_append, List.length_set, List.length_cons, List.length_nil, OrOk] at *; omega) | (simp; omega))
      | (apply sp_i; first | exact rfl | omega | exact ⟨rfl, rfl, by omega⟩ | exact ⟨rfl, by omega⟩ | exact ⟨rfl, by omega, by omega, by omega⟩ | exact ⟨⟨_, rfl⟩, by omega⟩ | exact ⟨⟨_, rfl⟩, by omega, by omega⟩ | decide | (simp only [List.length_drop, List.length_take, List.length_append, List.length_set, List.length_cons, List.length_nil, OrOk] at *; omega) | (simp; omega))
      | (apply sc_true) | (apply sc_false)
      | (first | apply sc_lt | apply sc_nlt | apply sc_eq | apply sc_neq | apply sc_nil | apply sc_nnil | apply sc_seq | apply sc_nseq); all_goals (intro hb; try (first | (exfalso; omega) | exact absurd rfl hb | exact absurd hb (by decide) | exact absurd hb (by assumption) | exact absurd (by assumption) hb | (exfalso; simp only [List.length_cons, List.length_nil, List.length_append] at hb; omega)))
      | (apply sc_not) | (apply sc_or) | (apply sc_i; all_goals intro hb)
      | (first | apply ix_nat | apply ix_int); first | omega | (simp only [List.length_drop, List.length_take, List.length_append, List.length_set, List.length_cons, List.length_nil] at *; omega)
      | (apply bx_i; intro hbd)
      | (first | apply sd_nat | apply sd_int | apply sl_nat | apply sl_int); first | omega | (simp only [List.length_drop, List.length_take, List.length_append, List.length_set, List.length_cons, List.length_nil] at *; omega)
      | (apply cx_is; first | exact utf_Next _) | (apply cx_do (i := 0) rfl; first | exact utf_Next _)
      | (apply ab_i; intro bl) | (apply as_i; intro va vk vc hva) | (apply av_i; intro v) | (apply ac_i; intro bl cap hcap)
      | (apply bo_l) | (apply ch_r; apply sp_i; intro i hi; exact ⟨rfl, rfl, rfl⟩) | (apply nx_i; all_goals intro hnx)
      | (apply Ia.hit; assumption) | (apply Ia.miss; assumption)
      | (apply rt_is; exact rfl) | (apply rt_do; exact rfl; (repeat (first | exact List.nil_sublist _ | apply List.Sublist.cons_cons))) | (apply iv; assumption)
      | (apply dw_q mixed hC hGL (by kernel_rfl))
      | (apply cq; assumption; (first | exact utf_Next _); exact rfl))
  all_goals (try conv => whnf)
  refine lp hC hGL (fun (i : Nat) => [(0, .str s), (3, .int .i64 i)]) (fun _ => []) (fun i => i ≤ s.length ∧ badS s = (badS (s.drop i)).map (· + i)) (fun i => s.length - i) 0 ?_ (by repeat (first | exact trivial | refine And.intro rfl ?_)) rfl ?_
  · exact ⟨Nat.zero_le _, by simp⟩
  rintro i ⟨hi, hb0⟩
  have hn := hle i
  rw [List.length_drop] at hn
  repeat' (first
    | (conv => whnf); first
      | (apply ch_l; apply sp_i; first | exact rfl | omega | exact ⟨rfl, rfl, by omega⟩ | exact ⟨rfl, by omega⟩ | exact ⟨rfl, by omega, by omega, by omega⟩ | exact ⟨⟨_, rfl⟩, by omega⟩ | exact ⟨⟨_, rfl⟩, by omega, by omega⟩ | decide | (simp only [List.length_drop, List.length_take, List.length_append, List.length_set, List.length_cons, List.length_nil, OrOk] at *; omega) | (simp; omega))
      | (apply sp_i; first | exact rfl | omega | exact ⟨rfl, rfl, by omega⟩ | exact ⟨rfl, by omega⟩ | exact ⟨rfl, by omega, by omega, by omega⟩ | exact ⟨⟨_, rfl⟩, by omega⟩ | exact ⟨⟨_, rfl⟩, by omega, by omega⟩ | decide | (simp only [List.length_drop, List.length_take, List.length_append, List.length_set, List.length_cons, List.length_nil, OrOk] at *; omega) | (simp; omega))
      | (apply sc_true) | (apply sc_false)
      | (first | apply sc_lt | apply sc_nlt | apply sc_eq | apply sc_neq | apply sc_nil | apply sc_nnil | apply sc_seq | apply sc_nseq); all_goals (intro hb; try (first | (exfalso; omega) | exact absurd rfl hb | exact absurd hb (by decide) | exact absurd hb (by assumption) | exact absurd (by assumption) hb | (exfalso; simp only [List.length_cons, List.length_nil, List.length_append] at hb; omega)))
      | (apply sc_not) | (apply sc_or) | (apply sc_i; all_goals intro hb)
      | (first | apply ix_nat | apply ix_int); first | omega | (simp only [List.length_drop, List.length_take, List.length_append, List.length_set, List.length_cons, List.length_nil] at *; omega)
      | (apply bx_i; intro hbd)
      | (first | apply sd_nat | apply sd_int | apply sl_nat | apply sl_int); first | omega | (simp only [List.length_drop, List.length_take, List.length_append, List.length_set, List.length_cons, List.length_nil] at *; omega)
      | (apply cx_is; first | exact utf_Next _) | (apply cx_do (i := 0) rfl; first | exact utf_Next _)
      | (apply ab_i; intro bl) | (apply as_i; intro va vk vc hva) | (apply av_i; intro v) | (apply ac_i; intro bl cap hcap)
      | (apply bo_l) | (apply ch_r; apply sp_i; intro i hi; exact ⟨rfl, rfl, rfl⟩) | (apply nx_i; all_goals intro hnx)
      | (apply Ia.hit; assumption) | (apply Ia.miss; assumption)
      | (apply rt_is; exact rfl) | (apply rt_do; exact rfl; (repeat (first | exact List.nil_sublist _ | apply List.Sublist.cons_cons))) | (apply iv; assumption)
      | (apply dw_q mixed hC hGL (by kernel_rfl))
      | (apply cq; assumption; (first | exact utf_Next _); exact rfl))
  all_goals (try conv => whnf)
  · apply rt_is
    refine congrArg (AVal.int .i64) ?_
    have h1 := badS_step (s.drop i) (by rw [List.length_drop]; omega)
    rw [if_pos (by omega)] at h1
    rw [h1] at hb0
    simp only [badI, hb0, Option.map_some, Nat.zero_add]
  · have h1 := badS_step (s.drop i) (by rw [List.length_drop]; omega)
    rw [if_neg (by omega)] at h1
    refine nxt (i + (nextS (s.drop i)).2) ?_ ?_ (by repeat (first | exact trivial | refine And.intro rfl ?_)) rfl
    · refine ⟨by omega, ?_⟩
      rw [hb0, h1, List.drop_drop]
      cases badS (s.drop (i + (nextS (s.drop i)).2)) <;> simp <;> omega
    · omega
  · apply rt_is
    refine congrArg (AVal.int .i64) ?_
    rw [badS_nil (s.drop i) (by rw [List.length_drop]; omega)] at hb0
    simp only [badI, hb0, Option.map_none]
theorem utf_Cut {G : Glo} (s : List UInt8) (n : Int) (hl : s.length ≤ 9223372036854775807) : FnIs Tryd.prog G 81 [.str s, .int .i64 n] (.int .i64 (cutS s 0 n)) := by
  have hGL : GloAll G [] := gloAll_nil
  refine fn_x Tryd.func81 Tryd.call81 rfl rfl rfl rfl hGL ?_
  intro C hC
  have hle := fun k => nextS_le (s.drop k)
  repeat' (first
    | (conv => whnf); first
      | (apply ch_l; apply sp_i; first | exact rfl | omega | exact ⟨rfl, rfl, by omega⟩ | exact ⟨rfl, by omega⟩ | exact ⟨rfl, by omega, by omega, by omega⟩ | exact ⟨⟨_, rfl⟩, by omega⟩ | exact ⟨⟨_, rfl⟩, by omega, by omega⟩ | decide | (simp only [List.length_drop, List.length_take, List.length_append, List.length_set, List.length_cons, List.length_nil, OrOk] at *; omega) | (simp; omega))
      | (apply sp_i; first | exact rfl | omega | exact ⟨rfl, rfl, by omega⟩ | exact ⟨rfl, by omega⟩ | exact ⟨rfl, by omega, by omega, by omega⟩ | exact ⟨⟨_, rfl⟩, by omega⟩ | exact ⟨⟨_, rfl⟩, by omega, by omega⟩ | decide | (simp only [List.length_drop, List.length_take, List.length_append, List.length_set, List.length_cons, List.length_nil, OrOk] at *; omega) | (simp; omega))
      | (apply sc_true) | (apply sc_false)
      | (first | apply sc_lt | apply sc_nlt | apply sc_eq | apply sc_neq | apply sc_nil | apply sc_nnil | apply sc_seq | apply sc_nseq); all_goals (intro hb; try (first | (exfalso; omega) | exact absurd rfl hb | exact absurd hb (by decide) | exact absurd hb (by assumption) | exact absurd (by assumption) hb | (exfalso; simp only [List.length_cons, List.length_nil, List.length_append] at hb; omega)))
      | (apply sc_not) | (apply sc_or) | (apply sc_i; all_goals intro hb)
      | (first | apply ix_nat | apply ix_int); first | omega | (simp only [List.length_drop, List.length_take, List.length_append, List.length_set, List.length_cons, List.length_nil] at *; omega)
      | (apply bx_i; intro hbd)
      | (first | apply sd_nat | apply sd_int | apply sl_nat | apply sl_int); first | omega | (simp only [List.length_drop, List.length_take, List.length_append, List.length_set, List.length_cons, List.length_nil] at *; omega)
      | (apply cx_is; first | exact utf_Next _) | (apply cx_do (i := 0) rfl; first | exact utf_Next _)
      | (apply ab_i; intro bl) | (apply as_i; intro va vk vc hva) | (apply av_i; intro v) | (apply ac_i; intro bl cap hcap)
      | (apply bo_l) | (apply ch_r; apply sp_i; intro i hi; exact ⟨rfl, rfl, rfl⟩) | (apply nx_i; all_goals intro hnx)
      | (apply Ia.hit; assumption) | (apply Ia.miss; assumption)
      | (apply rt_is; exact rfl) | (apply rt_do; exact rfl; (repeat (first | exact List.nil_sublist _ | apply List.Sublist.cons_cons))) | (apply iv; assumption)
      | (apply dw_q mixed hC hGL (by kernel_rfl))
      | (apply cq; assumption; (first | exact utf_Next _); exact rfl))
  all_goals (try conv => whnf)
  refine lp hC hGL (fun (i : Nat) => [(0, .str s), (1, .int .i64 n), (5, .int .i64 i)]) (fun _ => []) (fun i => i ≤ s.length ∧ cutS s 0 n = cutS (s.drop i) i n) (fun i => s.length - i) 0 ?_ (by repeat (first | exact trivial | refine And.intro rfl ?_)) rfl ?_
  · exact ⟨Nat.zero_le _, by simp⟩
  rintro i ⟨hi, hb0⟩
  have hn := hle i
  rw [List.length_drop] at hn
  have hst : (stepS (s.drop i) : Int) = max ((nextS (s.drop i)).2 : Int) 1 := by unfold stepS; split <;> omega
  repeat' (first
    | (conv => whnf); first
      | (apply ch_l; apply sp_i; first | exact rfl | omega | exact ⟨rfl, rfl, by omega⟩ | exact ⟨rfl, by omega⟩ | exact ⟨rfl, by omega, by omega, by omega⟩ | exact ⟨⟨_, rfl⟩, by omega⟩ | exact ⟨⟨_, rfl⟩, by omega, by omega⟩ | decide | (simp only [List.length_drop, List.length_take, List.length_append, List.length_set, List.length_cons, List.length_nil, OrOk] at *; omega) | (simp; omega))
      | (apply sp_i; first | exact rfl | omega | exact ⟨rfl, rfl, by omega⟩ | exact ⟨rfl, by omega⟩ | exact ⟨rfl, by omega, by omega, by omega⟩ | exact ⟨⟨_, rfl⟩, by omega⟩ | exact ⟨⟨_, rfl⟩, by omega, by omega⟩ | decide | (simp only [List.length_drop, List.length_take, List.length_append, List.length_set, List.length_cons, List.length_nil, OrOk] at *; omega) | (simp; omega))
      | (apply sc_true) | (apply sc_false)
      | (first | apply sc_lt | apply sc_nlt | apply sc_eq | apply sc_neq | apply sc_nil | apply sc_nnil | apply sc_seq | apply sc_nseq); all_goals (intro hb; try (first | (exfalso; omega) | exact absurd rfl hb | exact absurd hb (by decide) | exact absurd hb (by assumption) | exact absurd (by assumption) hb | (exfalso; simp only [List.length_cons, List.length_nil, List.length_append] at hb; omega)))
      | (apply sc_not) | (apply sc_or) | (apply sc_i; all_goals intro hb)
      | (first | apply ix_nat | apply ix_int); first | omega | (simp only [List.length_drop, List.length_take, List.length_append, List.length_set, List.length_cons, List.length_nil] at *; omega)
      | (apply bx_i; intro hbd)
      | (first | apply sd_nat | apply sd_int | apply sl_nat | apply sl_int); first | omega | (simp only [List.length_drop, List.length_take, List.length_append, List.length_set, List.length_cons, List.length_nil] at *; omega)
      | (apply cx_is; first | exact utf_Next _) | (apply cx_do (i := 0) rfl; first | exact utf_Next _)
      | (apply ab_i; intro bl) | (apply as_i; intro va vk vc hva) | (apply av_i; intro v) | (apply ac_i; intro bl cap hcap)
      | (apply bo_l) | (apply ch_r; apply sp_i; intro i hi; exact ⟨rfl, rfl, rfl⟩) | (apply nx_i; all_goals intro hnx)
      | (apply Ia.hit; assumption) | (apply Ia.miss; assumption)
      | (apply rt_is; exact rfl) | (apply rt_do; exact rfl; (repeat (first | exact List.nil_sublist _ | apply List.Sublist.cons_cons))) | (apply iv; assumption)
      | (apply dw_q mixed hC hGL (by kernel_rfl))
      | (apply cq; assumption; (first | exact utf_Next _); exact rfl))
  all_goals (try conv => whnf)
  · apply rt_is
    refine congrArg (AVal.int .i64) ?_
    have h1 := cutS_step (s.drop i) i n (by rw [List.length_drop]; omega)
    rw [if_pos (by omega)] at h1
    omega
  · have h1 := cutS_step (s.drop i) i n (by rw [List.length_drop]; omega)
    rw [if_neg (by omega)] at h1
    have h2 := stepS_le (s.drop i) (by rw [List.length_drop]; omega)
    rw [List.length_drop] at h2
    have h3 := stepS_pos (s.drop i)
    refine nxt (i + stepS (s.drop i)) ⟨by omega, ?_⟩ (by omega) ⟨rfl, rfl, congrArg (fun z => some (AVal.int .i64 z)) (by omega), trivial⟩ rfl
    rw [hb0, h1, List.drop_drop]
  · apply rt_is
    refine congrArg (AVal.int .i64) ?_
    rw [cutS_nil (s.drop i) _ _ (by rw [List.length_drop]; omega)] at hb0
    omega
end Go.Proofs.YtlmihggafbmkaaaDoor
