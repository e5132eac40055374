/- Lists of lists of texts as text (6.2). -/
import Derived.Test.YtlmihggafbmkaaaGreatDoorTjo
namespace Go.Proofs.YtlmihggafbmkaaaGreatDoor
open Go Go.RowKit
/-- Where the first list that is empty stands. -/
def nilAt (L : List (List (List UInt8))) : Nat := L.findIdx fun l => l.isEmpty
theorem nilAt_le (L : List (List (List UInt8))) : nilAt L ≤ L.length := List.findIdx_le_length
theorem nilAt_hit {L : List (List (List UInt8))} {k : Nat} (h : k < L.length) (hk : k ≤ nilAt L) (hn : L.getD k [] = []) : nilAt L = k := by
  rcases Nat.lt_or_ge k (nilAt L) with h1 | h1
  · have := List.not_of_lt_findIdx h1
    rw [List.getD_eq_getElem?_getD, List.getElem?_eq_getElem h] at hn
    simp only [Option.getD_some] at hn
    rw [hn] at this
    simp at this
  · omega
theorem nilAt_miss {L : List (List (List UInt8))} {k : Nat} (h : k < L.length) (hk : k ≤ nilAt L) (hn : L.getD k [] ≠ []) : k + 1 ≤ nilAt L := by
  rcases Nat.lt_or_ge k (nilAt L) with h1 | h1
  · exact h1
  · exfalso
    have e : nilAt L = k := by omega
    have h2 : L.findIdx (fun l => l.isEmpty) < L.length := by show nilAt L < _; omega
    have := List.findIdx_getElem (w := h2)
    rw [List.getD_eq_getElem?_getD, List.getElem?_eq_getElem h] at hn
    apply hn
    simp only [Option.getD_some]
    have e2 : L[L.findIdx fun l => l.isEmpty] = L[k] := by congr 1
    rw [e2] at this
    exact List.isEmpty_iff.1 this
def joinPT (L : List (List (List UInt8))) : List UInt8 := if nilAt L < L.length then [] else Lib.join (L.map joinT) [59]
def joinPE (L : List (List (List UInt8))) : Err := if L = [] then .errno 8 else if nilAt L < L.length then .at 8 (nilAt L : Nat) else .none
def partsF (L : List (List (List UInt8))) (i : Nat) : AVal := .list 1 (L.getD i []).length (strsF (L.getD i []))
/-- All is small enough. -/
structure Small (L : List (List (List UInt8))) : Prop where
  n : L.length ≤ 2000000
  k : ∀ k, (L.getD k []).length ≤ 2000000 ∧ Lib.lens (L.getD k []) ≤ 2000000
theorem lens_le {xs : List (List UInt8)} {M : Nat} (h : ∀ x, x ∈ xs → x.length ≤ M) : Lib.lens xs ≤ xs.length * M := by
  induction xs with
  | nil => simp [Lib.lens]
  | cons x r ih =>
    have e1 : Lib.lens (x :: r) = x.length + Lib.lens r := by simp [Lib.lens]
    have h1 := h x (by simp)
    have h2 := ih (fun y hy => h y (by simp [hy]))
    rw [List.length_cons, Nat.add_mul]
    omega
theorem join_small {xs : List (List UInt8)} {M : Nat} {c : UInt8} (h : ∀ x, x ∈ xs → x.length ≤ M) (hn : xs.length ≤ 2000000) (hM : M ≤ 6000000) : (Lib.join xs [c]).length ≤ 140737488355328 := by
  cases xs with
  | nil => simp [Lib.join_nil]
  | cons x r =>
    have h1 := lens_le h
    rw [Lib.join_length, List.length_singleton]
    have h2 : (x :: r).length * M ≤ 2000000 * 6000000 := Nat.mul_le_mul hn hM
    rw [List.length_cons] at hn
    omega
theorem small_join {L : List (List (List UInt8))} (h : Small L) : (Lib.join (L.map joinT) [59]).length ≤ 140737488355328 := by
  refine join_small (M := 6000000) (fun x hx => ?_) (by rw [List.length_map]; exact h.n) (Nat.le_refl _)
  obtain ⟨l, hl, rfl⟩ := List.mem_map.1 hx
  obtain ⟨k, hk, rfl⟩ := List.getElem_of_mem hl
  have h1 := h.k k
  rw [List.getD_eq_getElem?_getD, List.getElem?_eq_getElem hk] at h1
  simp only [Option.getD_some] at h1
  have := joinT_len L[k]
  omega
theorem take_mapL_succ {L : List (List (List UInt8))} {k : Nat} {f : List (List UInt8) → List UInt8} (h : k < L.length) : (L.map f).take (k + 1) = (L.map f).take k ++ [f (L.getD k [])] := by
  rw [List.take_succ_eq_append_getElem (by simpa using h), List.getElem_map, List.getD_eq_getElem?_getD, List.getElem?_eq_getElem h]
  rfl
set_option maxRecDepth 20000
set_option maxHeartbeats 4000000
set_option linter.unusedSimpArgs false
set_option linter.unusedVariables false
attribute [local irreducible] AWp AOps byteAt SrcOK OrOk GloAll FnSpec
attribute [local irreducible] escF escS joinT joinE
theorem joinE_nil : joinE [] = .errno 8 := by unfold joinE; rw [if_pos rfl]
theorem joinE_cons {l : List (List UInt8)} (h : l ≠ []) : joinE l = .none := by unfold joinE; rw [if_neg h]
theorem text_JoinParts {G : Glo} (L : List (List (List UInt8))) (hs : Small L) : FnIs Tryz.prog G 6 [.list 1 L.length (partsF L)] (.tuple [.str (joinPT L), (joinPE L).A]) := by
  have hJ := fun k => text_Join (G := G) (L.getD k []) (hs.k k).1 (hs.k k).2
  have hn := hs.n
  by_cases h0 : L = []
  · subst h0
    have hGL : GloAll G [] := gloAll_nil
    refine fn_x Tryz.func6 Tryz.call6 rfl rfl rfl rfl hGL ?_
    intro C hC
    repeat' (first
      | (conv => whnf); first
        | (apply ch_l; apply sp_i; first | exact rfl | omega | exact ⟨rfl, rfl, by omega⟩ | exact ⟨rfl, by omega⟩ | exact ⟨rfl, by omega, by omega, by omega⟩ | exact ⟨⟨_, rfl⟩, by omega⟩ | exact ⟨⟨_, rfl⟩, by omega, by omega⟩ | assumption | decide | (simp only [List.length_drop, List.length_take, List.length_append, List.length_set, List.length_cons, List.length_nil, OrOk] at *; omega) | (simp; omega))
        | (apply sp_i; first | exact rfl | omega | exact ⟨rfl, rfl, by omega⟩ | exact ⟨rfl, by omega⟩ | exact ⟨rfl, by omega, by omega, by omega⟩ | exact ⟨⟨_, rfl⟩, by omega⟩ | exact ⟨⟨_, rfl⟩, by omega, by omega⟩ | assumption | decide | (simp only [List.length_drop, List.length_take, List.length_append, List.length_set, List.length_cons, List.length_nil, OrOk] at *; omega) | (simp; omega))
        | (apply sc_true) | (apply sc_false)
        | (first | apply sc_lt | apply sc_nlt | apply sc_eq | apply sc_neq | apply sc_nil | apply sc_nnil | apply sc_seq | apply sc_nseq); all_goals (intro hb; try (first | (exfalso; omega) | exact absurd rfl hb | exact absurd hb (by decide) | exact absurd hb (by assumption) | exact absurd (by assumption) hb | (exfalso; simp only [List.length_cons, List.length_nil, List.length_append] at hb; omega)))
        | (apply sc_not) | (apply sc_or) | (apply sc_i; all_goals intro hb)
        | (first | apply ix_nat | apply ix_int); first | omega | (simp only [List.length_drop, List.length_take, List.length_append, List.length_set, List.length_cons, List.length_nil] at *; omega)
        | (apply bx_i; intro hbd) | (apply gt_i; assumption; exact rfl)
        | (first | apply sd_nat | apply sd_int | apply sl_nat | apply sl_int); first | omega | (simp only [List.length_drop, List.length_take, List.length_append, List.length_set, List.length_cons, List.length_nil] at *; omega)
        | (apply cx_is; first | fail) | (apply cx_do (i := 0) rfl; first | fail)
        | (apply ab_i; intro bl) | (apply as_i; intro va vk vc hva) | (apply av_i; intro v) | (apply ac_i; intro bl cap hcap)
        | (apply bo_l) | (apply ch_r; apply sp_i; assumption) | (apply ch_r; apply sp_i; intro i hi; exact ⟨rfl, rfl, rfl⟩) | (apply nx_i; all_goals intro hnx)
        | (apply Ia.hit; assumption) | (apply Ia.miss; assumption)
        | (apply rt_is; exact rfl) | (apply rt_do; exact rfl; (repeat (first | exact List.nil_sublist _ | apply List.Sublist.cons_cons))) | (apply iv; assumption)
        | (apply dw_q mixed hC hGL (by kernel_rfl))
        | (apply cq; assumption; (first | fail); exact rfl))
    all_goals (try conv => whnf)
  · have h00 : L.length ≠ 0 := fun h => h0 (List.eq_nil_of_length_eq_zero h)
    have hGL : GloAll G [] := gloAll_nil
    refine fn_x Tryz.func6 Tryz.call6 rfl rfl rfl rfl hGL ?_
    intro C hC
    repeat' (first
      | (conv => whnf); first
        | (apply ch_l; apply sp_i; first | exact rfl | omega | exact ⟨rfl, rfl, by omega⟩ | exact ⟨rfl, by omega⟩ | exact ⟨rfl, by omega, by omega, by omega⟩ | exact ⟨⟨_, rfl⟩, by omega⟩ | exact ⟨⟨_, rfl⟩, by omega, by omega⟩ | assumption | decide | (simp only [List.length_drop, List.length_take, List.length_append, List.length_set, List.length_cons, List.length_nil, OrOk] at *; omega) | (simp; omega))
        | (apply sp_i; first | exact rfl | omega | exact ⟨rfl, rfl, by omega⟩ | exact ⟨rfl, by omega⟩ | exact ⟨rfl, by omega, by omega, by omega⟩ | exact ⟨⟨_, rfl⟩, by omega⟩ | exact ⟨⟨_, rfl⟩, by omega, by omega⟩ | assumption | decide | (simp only [List.length_drop, List.length_take, List.length_append, List.length_set, List.length_cons, List.length_nil, OrOk] at *; omega) | (simp; omega))
        | (apply sc_true) | (apply sc_false)
        | (first | apply sc_lt | apply sc_nlt | apply sc_eq | apply sc_neq | apply sc_nil | apply sc_nnil | apply sc_seq | apply sc_nseq); all_goals (intro hb; try (first | (exfalso; omega) | exact absurd rfl hb | exact absurd hb (by decide) | exact absurd hb (by assumption) | exact absurd (by assumption) hb | (exfalso; simp only [List.length_cons, List.length_nil, List.length_append] at hb; omega)))
        | (apply sc_not) | (apply sc_or) | (apply sc_i; all_goals intro hb)
        | (first | apply ix_nat | apply ix_int); first | omega | (simp only [List.length_drop, List.length_take, List.length_append, List.length_set, List.length_cons, List.length_nil] at *; omega)
        | (apply bx_i; intro hbd) | (apply gt_i; assumption; exact rfl)
        | (first | apply sd_nat | apply sd_int | apply sl_nat | apply sl_int); first | omega | (simp only [List.length_drop, List.length_take, List.length_append, List.length_set, List.length_cons, List.length_nil] at *; omega)
        | (apply cx_is; first | fail) | (apply cx_do (i := 0) rfl; first | fail)
        | (apply ab_i; intro bl) | (apply as_i; intro va vk vc hva) | (apply av_i; intro v) | (apply ac_i; intro bl cap hcap)
        | (apply bo_l) | (apply ch_r; apply sp_i; assumption) | (apply ch_r; apply sp_i; intro i hi; exact ⟨rfl, rfl, rfl⟩) | (apply nx_i; all_goals intro hnx)
        | (apply Ia.hit; assumption) | (apply Ia.miss; assumption)
        | (apply rt_is; exact rfl) | (apply rt_do; exact rfl; (repeat (first | exact List.nil_sublist _ | apply List.Sublist.cons_cons))) | (apply iv; assumption)
        | (apply dw_q mixed hC hGL (by kernel_rfl))
        | (apply cq; assumption; (first | fail); exact rfl))
    all_goals (try conv => whnf)
    refine lp_row 4 1 rfl ?_
    refine lp hC hGL (fun (y : List (List UInt8) × Value) => [(4, .own 0 y.2), (13, .list 1 L.length (partsF L)), (14, .int .i64 (L.length : Nat)), (15, .int .i64 (y.1.length : Nat))]) (fun y => [.row y.2 none 1 y.1.length (strsC y.1)]) (fun y => y.1.length ≤ nilAt L ∧ y.1 = (L.map joinT).take y.1.length) (fun y => L.length - y.1.length) ([], .slice none 0 0) ?_ (by repeat (first | exact trivial | refine And.intro rfl ?_)) rfl ?_
    · exact ⟨Nat.zero_le _, rfl⟩
    · rintro ⟨ps, v⟩ ⟨h1, h2⟩
      have h1 : ps.length ≤ nilAt L := h1
      have h2 : ps = (L.map joinT).take ps.length := h2
      have h3 := nilAt_le L
      by_cases hlt : ps.length < L.length
      · have hJ1 := hJ ps.length
        by_cases hnil : L.getD ps.length [] = []
        · have hk := nilAt_hit hlt h1 hnil
          rw [show joinE (L.getD ps.length []) = .errno 8 by rw [hnil]; exact joinE_nil] at hJ1
          repeat' (first
            | (conv => whnf); first
              | (apply ch_l; apply sp_i; first | exact rfl | omega | exact ⟨rfl, rfl, by omega⟩ | exact ⟨rfl, by omega⟩ | exact ⟨rfl, by omega, by omega, by omega⟩ | exact ⟨⟨_, rfl⟩, by omega⟩ | exact ⟨⟨_, rfl⟩, by omega, by omega⟩ | assumption | decide | (simp only [List.length_drop, List.length_take, List.length_append, List.length_set, List.length_cons, List.length_nil, OrOk] at *; omega) | (simp; omega))
              | (apply sp_i; first | exact rfl | omega | exact ⟨rfl, rfl, by omega⟩ | exact ⟨rfl, by omega⟩ | exact ⟨rfl, by omega, by omega, by omega⟩ | exact ⟨⟨_, rfl⟩, by omega⟩ | exact ⟨⟨_, rfl⟩, by omega, by omega⟩ | assumption | decide | (simp only [List.length_drop, List.length_take, List.length_append, List.length_set, List.length_cons, List.length_nil, OrOk] at *; omega) | (simp; omega))
              | (apply sc_true) | (apply sc_false)
              | (first | apply sc_lt | apply sc_nlt | apply sc_eq | apply sc_neq | apply sc_nil | apply sc_nnil | apply sc_seq | apply sc_nseq); all_goals (intro hb; try (first | (exfalso; omega) | exact absurd rfl hb | exact absurd hb (by decide) | exact absurd hb (by assumption) | exact absurd (by assumption) hb | (exfalso; simp only [List.length_cons, List.length_nil, List.length_append] at hb; omega)))
              | (apply sc_not) | (apply sc_or) | (apply sc_i; all_goals intro hb)
              | (first | apply ix_nat | apply ix_int); first | omega | (simp only [List.length_drop, List.length_take, List.length_append, List.length_set, List.length_cons, List.length_nil] at *; omega)
              | (apply bx_i; intro hbd) | (apply gt_i; assumption; exact rfl)
              | (first | apply sd_nat | apply sd_int | apply sl_nat | apply sl_int); first | omega | (simp only [List.length_drop, List.length_take, List.length_append, List.length_set, List.length_cons, List.length_nil] at *; omega)
              | (apply cx_is; first | exact hJ1) | (apply cx_do (i := 0) rfl; first | exact hJ1)
              | (apply ab_i; intro bl) | (apply as_i; intro va vk vc hva) | (apply av_i; intro v) | (apply ac_i; intro bl cap hcap)
              | (apply bo_l) | (apply ch_r; apply sp_i; assumption) | (apply ch_r; apply sp_i; intro i hi; exact ⟨rfl, rfl, rfl⟩) | (apply nx_i; all_goals intro hnx)
              | (apply Ia.hit; assumption) | (apply Ia.miss; assumption)
              | (apply rt_is; exact rfl) | (apply rt_do; exact rfl; (repeat (first | exact List.nil_sublist _ | apply List.Sublist.cons_cons))) | (apply iv; assumption)
              | (apply dw_q mixed hC hGL (by kernel_rfl))
              | (apply cq; assumption; (first | exact hJ1); exact rfl))
          all_goals (try conv => whnf)
          apply rt_is
          unfold joinPT joinPE
          rw [if_pos (by omega), if_neg h0, if_pos (by omega), hk]
          rfl
        · rw [joinE_cons hnil] at hJ1
          repeat' (first
            | (conv => whnf); first
              | (apply ch_l; apply sp_i; first | exact rfl | omega | exact ⟨rfl, rfl, by omega⟩ | exact ⟨rfl, by omega⟩ | exact ⟨rfl, by omega, by omega, by omega⟩ | exact ⟨⟨_, rfl⟩, by omega⟩ | exact ⟨⟨_, rfl⟩, by omega, by omega⟩ | assumption | decide | (simp only [List.length_drop, List.length_take, List.length_append, List.length_set, List.length_cons, List.length_nil, OrOk] at *; omega) | (simp; omega))
              | (apply sp_i; first | exact rfl | omega | exact ⟨rfl, rfl, by omega⟩ | exact ⟨rfl, by omega⟩ | exact ⟨rfl, by omega, by omega, by omega⟩ | exact ⟨⟨_, rfl⟩, by omega⟩ | exact ⟨⟨_, rfl⟩, by omega, by omega⟩ | assumption | decide | (simp only [List.length_drop, List.length_take, List.length_append, List.length_set, List.length_cons, List.length_nil, OrOk] at *; omega) | (simp; omega))
              | (apply sc_true) | (apply sc_false)
              | (first | apply sc_lt | apply sc_nlt | apply sc_eq | apply sc_neq | apply sc_nil | apply sc_nnil | apply sc_seq | apply sc_nseq); all_goals (intro hb; try (first | (exfalso; omega) | exact absurd rfl hb | exact absurd hb (by decide) | exact absurd hb (by assumption) | exact absurd (by assumption) hb | (exfalso; simp only [List.length_cons, List.length_nil, List.length_append] at hb; omega)))
              | (apply sc_not) | (apply sc_or) | (apply sc_i; all_goals intro hb)
              | (first | apply ix_nat | apply ix_int); first | omega | (simp only [List.length_drop, List.length_take, List.length_append, List.length_set, List.length_cons, List.length_nil] at *; omega)
              | (apply bx_i; intro hbd) | (apply gt_i; assumption; exact rfl)
              | (first | apply sd_nat | apply sd_int | apply sl_nat | apply sl_int); first | omega | (simp only [List.length_drop, List.length_take, List.length_append, List.length_set, List.length_cons, List.length_nil] at *; omega)
              | (apply cx_is; first | exact hJ1) | (apply cx_do (i := 0) rfl; first | exact hJ1)
              | (apply ab_i; intro bl) | (apply as_i; intro va vk vc hva) | (apply av_i; intro v) | (apply ac_i; intro bl cap hcap)
              | (apply bo_l) | (apply ch_r; apply sp_i; assumption) | (apply ch_r; apply sp_i; intro i hi; exact ⟨rfl, rfl, rfl⟩) | (apply nx_i; all_goals intro hnx)
              | (apply Ia.hit; assumption) | (apply Ia.miss; assumption)
              | (apply rt_is; exact rfl) | (apply rt_do; exact rfl; (repeat (first | exact List.nil_sublist _ | apply List.Sublist.cons_cons))) | (apply iv; assumption)
              | (apply dw_q mixed hC hGL (by kernel_rfl))
              | (apply cq; assumption; (first | exact hJ1); exact rfl))
          all_goals (try conv => whnf)
          have hm := nilAt_miss hlt h1 hnil
          refine nxt (ps ++ [joinT (L.getD ps.length [])], .slice va vk vc) ?_ ?_ ⟨rfl, rfl, rfl, ?_, trivial⟩ ?_
          · refine ⟨?_, ?_⟩
            · show (ps ++ [joinT (L.getD ps.length [])]).length ≤ nilAt L
              rw [List.length_append, List.length_singleton]; exact hm
            · show ps ++ [joinT (L.getD ps.length [])] = (L.map joinT).take (ps ++ [joinT (L.getD ps.length [])]).length
              rw [List.length_append, List.length_singleton, take_mapL_succ hlt, ← h2]
          · show L.length - (ps ++ [joinT (L.getD ps.length [])]).length < L.length - ps.length
            rw [List.length_append, List.length_singleton]; omega
          · show some (AVal.int .i64 (((ps.length : Nat) : Int) + 1)) = some (AVal.int .i64 ((ps ++ [joinT (L.getD ps.length [])]).length : Nat))
            rw [List.length_append]; rfl
          · dsimp only
            rw [← strsC_snoc, List.length_append]
            rfl
      · repeat' (first
          | (conv => whnf); first
            | (apply ch_l; apply sp_i; first | exact rfl | omega | exact ⟨rfl, rfl, by omega⟩ | exact ⟨rfl, by omega⟩ | exact ⟨rfl, by omega, by omega, by omega⟩ | exact ⟨⟨_, rfl⟩, by omega⟩ | exact ⟨⟨_, rfl⟩, by omega, by omega⟩ | assumption | decide | (simp only [List.length_drop, List.length_take, List.length_append, List.length_set, List.length_cons, List.length_nil, OrOk] at *; omega) | (simp; omega))
            | (apply sp_i; first | exact rfl | omega | exact ⟨rfl, rfl, by omega⟩ | exact ⟨rfl, by omega⟩ | exact ⟨rfl, by omega, by omega, by omega⟩ | exact ⟨⟨_, rfl⟩, by omega⟩ | exact ⟨⟨_, rfl⟩, by omega, by omega⟩ | assumption | decide | (simp only [List.length_drop, List.length_take, List.length_append, List.length_set, List.length_cons, List.length_nil, OrOk] at *; omega) | (simp; omega))
            | (apply sc_true) | (apply sc_false)
            | (first | apply sc_lt | apply sc_nlt | apply sc_eq | apply sc_neq | apply sc_nil | apply sc_nnil | apply sc_seq | apply sc_nseq); all_goals (intro hb; try (first | (exfalso; omega) | exact absurd rfl hb | exact absurd hb (by decide) | exact absurd hb (by assumption) | exact absurd (by assumption) hb | (exfalso; simp only [List.length_cons, List.length_nil, List.length_append] at hb; omega)))
            | (apply sc_not) | (apply sc_or) | (apply sc_i; all_goals intro hb)
            | (first | apply ix_nat | apply ix_int); first | omega | (simp only [List.length_drop, List.length_take, List.length_append, List.length_set, List.length_cons, List.length_nil] at *; omega)
            | (apply bx_i; intro hbd) | (apply gt_i; assumption; exact rfl)
            | (first | apply sd_nat | apply sd_int | apply sl_nat | apply sl_int); first | omega | (simp only [List.length_drop, List.length_take, List.length_append, List.length_set, List.length_cons, List.length_nil] at *; omega)
            | (apply cx_is; first | fail) | (apply cx_do (i := 0) rfl; first | fail)
            | (apply ab_i; intro bl) | (apply as_i; intro va vk vc hva) | (apply av_i; intro v) | (apply ac_i; intro bl cap hcap)
            | (apply bo_l) | (apply ch_r; apply sp_i; assumption) | (apply ch_r; apply sp_i; intro i hi; exact ⟨rfl, rfl, rfl⟩) | (apply nx_i; all_goals intro hnx)
            | (apply Ia.hit; assumption) | (apply Ia.miss; assumption)
            | (apply rt_is; exact rfl) | (apply rt_do; exact rfl; (repeat (first | exact List.nil_sublist _ | apply List.Sublist.cons_cons))) | (apply iv; assumption)
            | (apply dw_q mixed hC hGL (by kernel_rfl))
            | (apply cq; assumption; (first | fail); exact rfl))
        all_goals (try conv => whnf)
        have h5 : nilAt L = L.length := by omega
        have h4 : ps = L.map joinT := by rw [h2, List.take_of_length_le (by rw [List.length_map]; omega)]
        subst h4
        refine cx_do (i := 0) rfl (strings_Join_row (L.map joinT) [59] v (by omega) (small_join hs)) ?_
        repeat' (first
          | (conv => whnf); first
            | (apply ch_l; apply sp_i; first | exact rfl | omega | exact ⟨rfl, rfl, by omega⟩ | exact ⟨rfl, by omega⟩ | exact ⟨rfl, by omega, by omega, by omega⟩ | exact ⟨⟨_, rfl⟩, by omega⟩ | exact ⟨⟨_, rfl⟩, by omega, by omega⟩ | assumption | decide | (simp only [List.length_drop, List.length_take, List.length_append, List.length_set, List.length_cons, List.length_nil, OrOk] at *; omega) | (simp; omega))
            | (apply sp_i; first | exact rfl | omega | exact ⟨rfl, rfl, by omega⟩ | exact ⟨rfl, by omega⟩ | exact ⟨rfl, by omega, by omega, by omega⟩ | exact ⟨⟨_, rfl⟩, by omega⟩ | exact ⟨⟨_, rfl⟩, by omega, by omega⟩ | assumption | decide | (simp only [List.length_drop, List.length_take, List.length_append, List.length_set, List.length_cons, List.length_nil, OrOk] at *; omega) | (simp; omega))
            | (apply sc_true) | (apply sc_false)
            | (first | apply sc_lt | apply sc_nlt | apply sc_eq | apply sc_neq | apply sc_nil | apply sc_nnil | apply sc_seq | apply sc_nseq); all_goals (intro hb; try (first | (exfalso; omega) | exact absurd rfl hb | exact absurd hb (by decide) | exact absurd hb (by assumption) | exact absurd (by assumption) hb | (exfalso; simp only [List.length_cons, List.length_nil, List.length_append] at hb; omega)))
            | (apply sc_not) | (apply sc_or) | (apply sc_i; all_goals intro hb)
            | (first | apply ix_nat | apply ix_int); first | omega | (simp only [List.length_drop, List.length_take, List.length_append, List.length_set, List.length_cons, List.length_nil] at *; omega)
            | (apply bx_i; intro hbd) | (apply gt_i; assumption; exact rfl)
            | (first | apply sd_nat | apply sd_int | apply sl_nat | apply sl_int); first | omega | (simp only [List.length_drop, List.length_take, List.length_append, List.length_set, List.length_cons, List.length_nil] at *; omega)
            | (apply cx_is; first | fail) | (apply cx_do (i := 0) rfl; first | fail)
            | (apply ab_i; intro bl) | (apply as_i; intro va vk vc hva) | (apply av_i; intro v) | (apply ac_i; intro bl cap hcap)
            | (apply bo_l) | (apply ch_r; apply sp_i; assumption) | (apply ch_r; apply sp_i; intro i hi; exact ⟨rfl, rfl, rfl⟩) | (apply nx_i; all_goals intro hnx)
            | (apply Ia.hit; assumption) | (apply Ia.miss; assumption)
            | (apply rt_is; exact rfl) | (apply rt_do; exact rfl; (repeat (first | exact List.nil_sublist _ | apply List.Sublist.cons_cons))) | (apply iv; assumption)
            | (apply dw_q mixed hC hGL (by kernel_rfl))
            | (apply cq; assumption; (first | fail); exact rfl))
        all_goals (try conv => whnf)
        apply rt_is
        unfold joinPT joinPE
        rw [if_neg (by omega), if_neg h0, if_neg (by omega)]
        rfl
theorem ref_JoinParts {G : Glo} (L : List (List (List UInt8))) (hs : Small L) : FnIs Tryz.prog G 5 [.list 1 L.length (partsF L)] (.tuple [.str (joinPT L), .agg [.int .i64 (joinPE L).e, .int .i64 (joinPE L).p]]) := by
  have hJ := fun k => ref_Join (G := G) (L.getD k []) (hs.k k).1 (hs.k k).2
  have hn := hs.n
  have hb8 := ref_Bare (G := G) 8
  have hg := ref_Good (G := G)
  by_cases h0 : L = []
  · subst h0
    have hGL : GloAll G [] := gloAll_nil
    refine fn_x Tryz.func5 Tryz.call5 rfl rfl rfl rfl hGL ?_
    intro C hC
    repeat' (first
      | (conv => whnf); first
        | (apply ch_l; apply sp_i; first | exact rfl | omega | exact ⟨rfl, rfl, by omega⟩ | exact ⟨rfl, by omega⟩ | exact ⟨rfl, by omega, by omega, by omega⟩ | exact ⟨⟨_, rfl⟩, by omega⟩ | exact ⟨⟨_, rfl⟩, by omega, by omega⟩ | assumption | decide | (simp only [List.length_drop, List.length_take, List.length_append, List.length_set, List.length_cons, List.length_nil, OrOk] at *; omega) | (simp; omega))
        | (apply sp_i; first | exact rfl | omega | exact ⟨rfl, rfl, by omega⟩ | exact ⟨rfl, by omega⟩ | exact ⟨rfl, by omega, by omega, by omega⟩ | exact ⟨⟨_, rfl⟩, by omega⟩ | exact ⟨⟨_, rfl⟩, by omega, by omega⟩ | assumption | decide | (simp only [List.length_drop, List.length_take, List.length_append, List.length_set, List.length_cons, List.length_nil, OrOk] at *; omega) | (simp; omega))
        | (apply sc_true) | (apply sc_false)
        | (first | apply sc_lt | apply sc_nlt | apply sc_eq | apply sc_neq | apply sc_nil | apply sc_nnil | apply sc_seq | apply sc_nseq); all_goals (intro hb; try (first | (exfalso; omega) | exact absurd rfl hb | exact absurd hb (by decide) | exact absurd hb (by assumption) | exact absurd (by assumption) hb | (exfalso; simp only [List.length_cons, List.length_nil, List.length_append] at hb; omega)))
        | (apply sc_not) | (apply sc_or) | (apply sc_i; all_goals intro hb)
        | (first | apply ix_nat | apply ix_int); first | omega | (simp only [List.length_drop, List.length_take, List.length_append, List.length_set, List.length_cons, List.length_nil] at *; omega)
        | (apply bx_i; intro hbd) | (apply gt_i; assumption; exact rfl)
        | (first | apply sd_nat | apply sd_int | apply sl_nat | apply sl_int); first | omega | (simp only [List.length_drop, List.length_take, List.length_append, List.length_set, List.length_cons, List.length_nil] at *; omega)
        | (apply cx_is; first | exact hb8) | (apply cx_do (i := 0) rfl; first | exact hb8)
        | (apply ab_i; intro bl) | (apply as_i; intro va vk vc hva) | (apply av_i; intro v) | (apply ac_i; intro bl cap hcap)
        | (apply bo_l) | (apply ch_r; apply sp_i; assumption) | (apply ch_r; apply sp_i; intro i hi; exact ⟨rfl, rfl, rfl⟩) | (apply nx_i; all_goals intro hnx)
        | (apply Ia.hit; assumption) | (apply Ia.miss; assumption)
        | (apply rt_is; exact rfl) | (apply rt_do; exact rfl; (repeat (first | exact List.nil_sublist _ | apply List.Sublist.cons_cons))) | (apply iv; assumption)
        | (apply dw_q mixed hC hGL (by kernel_rfl))
        | (apply cq; assumption; (first | exact hb8); exact rfl))
    all_goals (try conv => whnf)
  · have h00 : L.length ≠ 0 := fun h => h0 (List.eq_nil_of_length_eq_zero h)
    have hGL : GloAll G [] := gloAll_nil
    refine fn_x Tryz.func5 Tryz.call5 rfl rfl rfl rfl hGL ?_
    intro C hC
    repeat' (first
      | (conv => whnf); first
        | (apply ch_l; apply sp_i; first | exact rfl | omega | exact ⟨rfl, rfl, by omega⟩ | exact ⟨rfl, by omega⟩ | exact ⟨rfl, by omega, by omega, by omega⟩ | exact ⟨⟨_, rfl⟩, by omega⟩ | exact ⟨⟨_, rfl⟩, by omega, by omega⟩ | assumption | decide | (simp only [List.length_drop, List.length_take, List.length_append, List.length_set, List.length_cons, List.length_nil, OrOk] at *; omega) | (simp; omega))
        | (apply sp_i; first | exact rfl | omega | exact ⟨rfl, rfl, by omega⟩ | exact ⟨rfl, by omega⟩ | exact ⟨rfl, by omega, by omega, by omega⟩ | exact ⟨⟨_, rfl⟩, by omega⟩ | exact ⟨⟨_, rfl⟩, by omega, by omega⟩ | assumption | decide | (simp only [List.length_drop, List.length_take, List.length_append, List.length_set, List.length_cons, List.length_nil, OrOk] at *; omega) | (simp; omega))
        | (apply sc_true) | (apply sc_false)
        | (first | apply sc_lt | apply sc_nlt | apply sc_eq | apply sc_neq | apply sc_nil | apply sc_nnil | apply sc_seq | apply sc_nseq); all_goals (intro hb; try (first | (exfalso; omega) | exact absurd rfl hb | exact absurd hb (by decide) | exact absurd hb (by assumption) | exact absurd (by assumption) hb | (exfalso; simp only [List.length_cons, List.length_nil, List.length_append] at hb; omega)))
        | (apply sc_not) | (apply sc_or) | (apply sc_i; all_goals intro hb)
        | (first | apply ix_nat | apply ix_int); first | omega | (simp only [List.length_drop, List.length_take, List.length_append, List.length_set, List.length_cons, List.length_nil] at *; omega)
        | (apply bx_i; intro hbd) | (apply gt_i; assumption; exact rfl)
        | (first | apply sd_nat | apply sd_int | apply sl_nat | apply sl_int); first | omega | (simp only [List.length_drop, List.length_take, List.length_append, List.length_set, List.length_cons, List.length_nil] at *; omega)
        | (apply cx_is; first | fail) | (apply cx_do (i := 0) rfl; first | fail)
        | (apply ab_i; intro bl) | (apply as_i; intro va vk vc hva) | (apply av_i; intro v) | (apply ac_i; intro bl cap hcap)
        | (apply bo_l) | (apply ch_r; apply sp_i; assumption) | (apply ch_r; apply sp_i; intro i hi; exact ⟨rfl, rfl, rfl⟩) | (apply nx_i; all_goals intro hnx)
        | (apply Ia.hit; assumption) | (apply Ia.miss; assumption)
        | (apply rt_is; exact rfl) | (apply rt_do; exact rfl; (repeat (first | exact List.nil_sublist _ | apply List.Sublist.cons_cons))) | (apply iv; assumption)
        | (apply dw_q mixed hC hGL (by kernel_rfl))
        | (apply cq; assumption; (first | fail); exact rfl))
    all_goals (try conv => whnf)
    refine lp_row 4 1 rfl ?_
    refine lp hC hGL (fun (y : List (List UInt8) × Value) => [(0, .list 1 L.length (partsF L)), (3, .own 0 (pv bl 0)), (4, .own 1 y.2), (13, .int .i64 (L.length : Nat)), (14, .int .i64 (y.1.length : Nat))]) (fun y => [.cells bl (some 26) [.int .i64 0, .int .i64 0], .row y.2 none 1 y.1.length (strsC y.1)]) (fun y => y.1.length ≤ nilAt L ∧ y.1 = (L.map joinT).take y.1.length) (fun y => L.length - y.1.length) ([], .slice none 0 0) ?_ (by repeat (first | exact trivial | refine And.intro rfl ?_)) rfl ?_
    · exact ⟨Nat.zero_le _, rfl⟩
    · rintro ⟨ps, v⟩ ⟨h1, h2⟩
      have h1 : ps.length ≤ nilAt L := h1
      have h2 : ps = (L.map joinT).take ps.length := h2
      have h3 := nilAt_le L
      by_cases hlt : ps.length < L.length
      · have hJ1 := hJ ps.length
        by_cases hnil : L.getD ps.length [] = []
        · have hk := nilAt_hit hlt h1 hnil
          rw [show joinE (L.getD ps.length []) = .errno 8 by rw [hnil]; exact joinE_nil] at hJ1
          have hJ1 : FnIs Tryz.prog G 8 [.list 1 (L.getD ps.length []).length (strsF (L.getD ps.length []))] (.tuple [.str (joinT (L.getD ps.length [])), .int .i64 8]) := hJ1
          repeat' (first
            | (conv => whnf); first
              | (apply ch_l; apply sp_i; first | exact rfl | omega | exact ⟨rfl, rfl, by omega⟩ | exact ⟨rfl, by omega⟩ | exact ⟨rfl, by omega, by omega, by omega⟩ | exact ⟨⟨_, rfl⟩, by omega⟩ | exact ⟨⟨_, rfl⟩, by omega, by omega⟩ | assumption | decide | (simp only [List.length_drop, List.length_take, List.length_append, List.length_set, List.length_cons, List.length_nil, OrOk] at *; omega) | (simp; omega))
              | (apply sp_i; first | exact rfl | omega | exact ⟨rfl, rfl, by omega⟩ | exact ⟨rfl, by omega⟩ | exact ⟨rfl, by omega, by omega, by omega⟩ | exact ⟨⟨_, rfl⟩, by omega⟩ | exact ⟨⟨_, rfl⟩, by omega, by omega⟩ | assumption | decide | (simp only [List.length_drop, List.length_take, List.length_append, List.length_set, List.length_cons, List.length_nil, OrOk] at *; omega) | (simp; omega))
              | (apply sc_true) | (apply sc_false)
              | (first | apply sc_lt | apply sc_nlt | apply sc_eq | apply sc_neq | apply sc_nil | apply sc_nnil | apply sc_seq | apply sc_nseq); all_goals (intro hb; try (first | (exfalso; omega) | exact absurd rfl hb | exact absurd hb (by decide) | exact absurd hb (by assumption) | exact absurd (by assumption) hb | (exfalso; simp only [List.length_cons, List.length_nil, List.length_append] at hb; omega)))
              | (apply sc_not) | (apply sc_or) | (apply sc_i; all_goals intro hb)
              | (first | apply ix_nat | apply ix_int); first | omega | (simp only [List.length_drop, List.length_take, List.length_append, List.length_set, List.length_cons, List.length_nil] at *; omega)
              | (apply bx_i; intro hbd) | (apply gt_i; assumption; exact rfl)
              | (first | apply sd_nat | apply sd_int | apply sl_nat | apply sl_int); first | omega | (simp only [List.length_drop, List.length_take, List.length_append, List.length_set, List.length_cons, List.length_nil] at *; omega)
              | (apply cx_is; first | exact hJ1) | (apply cx_do (i := 0) rfl; first | exact hJ1)
              | (apply ab_i; intro bl) | (apply as_i; intro va vk vc hva) | (apply av_i; intro v) | (apply ac_i; intro bl cap hcap)
              | (apply bo_l) | (apply ch_r; apply sp_i; assumption) | (apply ch_r; apply sp_i; intro i hi; exact ⟨rfl, rfl, rfl⟩) | (apply nx_i; all_goals intro hnx)
              | (apply Ia.hit; assumption) | (apply Ia.miss; assumption)
              | (apply rt_is; exact rfl) | (apply rt_do; exact rfl; (repeat (first | exact List.nil_sublist _ | apply List.Sublist.cons_cons))) | (apply iv; assumption)
              | (apply dw_q mixed hC hGL (by kernel_rfl))
              | (apply cq; assumption; (first | exact hJ1); exact rfl))
          all_goals (try conv => whnf)
          apply rt_is
          unfold joinPT joinPE
          rw [if_pos (by omega), if_neg h0, if_pos (by omega), hk]
          rfl
        · rw [joinE_cons hnil] at hJ1
          have hJ1 : FnIs Tryz.prog G 8 [.list 1 (L.getD ps.length []).length (strsF (L.getD ps.length []))] (.tuple [.str (joinT (L.getD ps.length [])), .int .i64 0]) := hJ1
          repeat' (first
            | (conv => whnf); first
              | (apply ch_l; apply sp_i; first | exact rfl | omega | exact ⟨rfl, rfl, by omega⟩ | exact ⟨rfl, by omega⟩ | exact ⟨rfl, by omega, by omega, by omega⟩ | exact ⟨⟨_, rfl⟩, by omega⟩ | exact ⟨⟨_, rfl⟩, by omega, by omega⟩ | assumption | decide | (simp only [List.length_drop, List.length_take, List.length_append, List.length_set, List.length_cons, List.length_nil, OrOk] at *; omega) | (simp; omega))
              | (apply sp_i; first | exact rfl | omega | exact ⟨rfl, rfl, by omega⟩ | exact ⟨rfl, by omega⟩ | exact ⟨rfl, by omega, by omega, by omega⟩ | exact ⟨⟨_, rfl⟩, by omega⟩ | exact ⟨⟨_, rfl⟩, by omega, by omega⟩ | assumption | decide | (simp only [List.length_drop, List.length_take, List.length_append, List.length_set, List.length_cons, List.length_nil, OrOk] at *; omega) | (simp; omega))
              | (apply sc_true) | (apply sc_false)
              | (first | apply sc_lt | apply sc_nlt | apply sc_eq | apply sc_neq | apply sc_nil | apply sc_nnil | apply sc_seq | apply sc_nseq); all_goals (intro hb; try (first | (exfalso; omega) | exact absurd rfl hb | exact absurd hb (by decide) | exact absurd hb (by assumption) | exact absurd (by assumption) hb | (exfalso; simp only [List.length_cons, List.length_nil, List.length_append] at hb; omega)))
              | (apply sc_not) | (apply sc_or) | (apply sc_i; all_goals intro hb)
              | (first | apply ix_nat | apply ix_int); first | omega | (simp only [List.length_drop, List.length_take, List.length_append, List.length_set, List.length_cons, List.length_nil] at *; omega)
              | (apply bx_i; intro hbd) | (apply gt_i; assumption; exact rfl)
              | (first | apply sd_nat | apply sd_int | apply sl_nat | apply sl_int); first | omega | (simp only [List.length_drop, List.length_take, List.length_append, List.length_set, List.length_cons, List.length_nil] at *; omega)
              | (apply cx_is; first | exact hJ1) | (apply cx_do (i := 0) rfl; first | exact hJ1)
              | (apply ab_i; intro bl) | (apply as_i; intro va vk vc hva) | (apply av_i; intro v) | (apply ac_i; intro bl cap hcap)
              | (apply bo_l) | (apply ch_r; apply sp_i; assumption) | (apply ch_r; apply sp_i; intro i hi; exact ⟨rfl, rfl, rfl⟩) | (apply nx_i; all_goals intro hnx)
              | (apply Ia.hit; assumption) | (apply Ia.miss; assumption)
              | (apply rt_is; exact rfl) | (apply rt_do; exact rfl; (repeat (first | exact List.nil_sublist _ | apply List.Sublist.cons_cons))) | (apply iv; assumption)
              | (apply dw_q mixed hC hGL (by kernel_rfl))
              | (apply cq; assumption; (first | exact hJ1); exact rfl))
          all_goals (try conv => whnf)
          have hm := nilAt_miss hlt h1 hnil
          refine nxt (ps ++ [joinT (L.getD ps.length [])], .slice va vk vc) ?_ ?_ ⟨rfl, rfl, rfl, rfl, ?_, trivial⟩ ?_
          · refine ⟨?_, ?_⟩
            · show (ps ++ [joinT (L.getD ps.length [])]).length ≤ nilAt L
              rw [List.length_append, List.length_singleton]; exact hm
            · show ps ++ [joinT (L.getD ps.length [])] = (L.map joinT).take (ps ++ [joinT (L.getD ps.length [])]).length
              rw [List.length_append, List.length_singleton, take_mapL_succ hlt, ← h2]
          · show L.length - (ps ++ [joinT (L.getD ps.length [])]).length < L.length - ps.length
            rw [List.length_append, List.length_singleton]; omega
          · show some (AVal.int .i64 (((ps.length : Nat) : Int) + 1)) = some (AVal.int .i64 ((ps ++ [joinT (L.getD ps.length [])]).length : Nat))
            rw [List.length_append]; rfl
          · dsimp only
            rw [← strsC_snoc, List.length_append]
            rfl
      · repeat' (first
          | (conv => whnf); first
            | (apply ch_l; apply sp_i; first | exact rfl | omega | exact ⟨rfl, rfl, by omega⟩ | exact ⟨rfl, by omega⟩ | exact ⟨rfl, by omega, by omega, by omega⟩ | exact ⟨⟨_, rfl⟩, by omega⟩ | exact ⟨⟨_, rfl⟩, by omega, by omega⟩ | assumption | decide | (simp only [List.length_drop, List.length_take, List.length_append, List.length_set, List.length_cons, List.length_nil, OrOk] at *; omega) | (simp; omega))
            | (apply sp_i; first | exact rfl | omega | exact ⟨rfl, rfl, by omega⟩ | exact ⟨rfl, by omega⟩ | exact ⟨rfl, by omega, by omega, by omega⟩ | exact ⟨⟨_, rfl⟩, by omega⟩ | exact ⟨⟨_, rfl⟩, by omega, by omega⟩ | assumption | decide | (simp only [List.length_drop, List.length_take, List.length_append, List.length_set, List.length_cons, List.length_nil, OrOk] at *; omega) | (simp; omega))
            | (apply sc_true) | (apply sc_false)
            | (first | apply sc_lt | apply sc_nlt | apply sc_eq | apply sc_neq | apply sc_nil | apply sc_nnil | apply sc_seq | apply sc_nseq); all_goals (intro hb; try (first | (exfalso; omega) | exact absurd rfl hb | exact absurd hb (by decide) | exact absurd hb (by assumption) | exact absurd (by assumption) hb | (exfalso; simp only [List.length_cons, List.length_nil, List.length_append] at hb; omega)))
            | (apply sc_not) | (apply sc_or) | (apply sc_i; all_goals intro hb)
            | (first | apply ix_nat | apply ix_int); first | omega | (simp only [List.length_drop, List.length_take, List.length_append, List.length_set, List.length_cons, List.length_nil] at *; omega)
            | (apply bx_i; intro hbd) | (apply gt_i; assumption; exact rfl)
            | (first | apply sd_nat | apply sd_int | apply sl_nat | apply sl_int); first | omega | (simp only [List.length_drop, List.length_take, List.length_append, List.length_set, List.length_cons, List.length_nil] at *; omega)
            | (apply cx_is; first | fail) | (apply cx_do (i := 0) rfl; first | fail)
            | (apply ab_i; intro bl) | (apply as_i; intro va vk vc hva) | (apply av_i; intro v) | (apply ac_i; intro bl cap hcap)
            | (apply bo_l) | (apply ch_r; apply sp_i; assumption) | (apply ch_r; apply sp_i; intro i hi; exact ⟨rfl, rfl, rfl⟩) | (apply nx_i; all_goals intro hnx)
            | (apply Ia.hit; assumption) | (apply Ia.miss; assumption)
            | (apply rt_is; exact rfl) | (apply rt_do; exact rfl; (repeat (first | exact List.nil_sublist _ | apply List.Sublist.cons_cons))) | (apply iv; assumption)
            | (apply dw_q mixed hC hGL (by kernel_rfl))
            | (apply cq; assumption; (first | fail); exact rfl))
        all_goals (try conv => whnf)
        have h5 : nilAt L = L.length := by omega
        have h4 : ps = L.map joinT := by rw [h2, List.take_of_length_le (by rw [List.length_map]; omega)]
        subst h4
        refine cx_do (i := 1) rfl (strings_Join_row (L.map joinT) [59] v (by omega) (small_join hs)) ?_
        repeat' (first
          | (conv => whnf); first
            | (apply ch_l; apply sp_i; first | exact rfl | omega | exact ⟨rfl, rfl, by omega⟩ | exact ⟨rfl, by omega⟩ | exact ⟨rfl, by omega, by omega, by omega⟩ | exact ⟨⟨_, rfl⟩, by omega⟩ | exact ⟨⟨_, rfl⟩, by omega, by omega⟩ | assumption | decide | (simp only [List.length_drop, List.length_take, List.length_append, List.length_set, List.length_cons, List.length_nil, OrOk] at *; omega) | (simp; omega))
            | (apply sp_i; first | exact rfl | omega | exact ⟨rfl, rfl, by omega⟩ | exact ⟨rfl, by omega⟩ | exact ⟨rfl, by omega, by omega, by omega⟩ | exact ⟨⟨_, rfl⟩, by omega⟩ | exact ⟨⟨_, rfl⟩, by omega, by omega⟩ | assumption | decide | (simp only [List.length_drop, List.length_take, List.length_append, List.length_set, List.length_cons, List.length_nil, OrOk] at *; omega) | (simp; omega))
            | (apply sc_true) | (apply sc_false)
            | (first | apply sc_lt | apply sc_nlt | apply sc_eq | apply sc_neq | apply sc_nil | apply sc_nnil | apply sc_seq | apply sc_nseq); all_goals (intro hb; try (first | (exfalso; omega) | exact absurd rfl hb | exact absurd hb (by decide) | exact absurd hb (by assumption) | exact absurd (by assumption) hb | (exfalso; simp only [List.length_cons, List.length_nil, List.length_append] at hb; omega)))
            | (apply sc_not) | (apply sc_or) | (apply sc_i; all_goals intro hb)
            | (first | apply ix_nat | apply ix_int); first | omega | (simp only [List.length_drop, List.length_take, List.length_append, List.length_set, List.length_cons, List.length_nil] at *; omega)
            | (apply bx_i; intro hbd) | (apply gt_i; assumption; exact rfl)
            | (first | apply sd_nat | apply sd_int | apply sl_nat | apply sl_int); first | omega | (simp only [List.length_drop, List.length_take, List.length_append, List.length_set, List.length_cons, List.length_nil] at *; omega)
            | (apply cx_is; first | exact hg) | (apply cx_do (i := 0) rfl; first | exact hg)
            | (apply ab_i; intro bl) | (apply as_i; intro va vk vc hva) | (apply av_i; intro v) | (apply ac_i; intro bl cap hcap)
            | (apply bo_l) | (apply ch_r; apply sp_i; assumption) | (apply ch_r; apply sp_i; intro i hi; exact ⟨rfl, rfl, rfl⟩) | (apply nx_i; all_goals intro hnx)
            | (apply Ia.hit; assumption) | (apply Ia.miss; assumption)
            | (apply rt_is; exact rfl) | (apply rt_do; exact rfl; (repeat (first | exact List.nil_sublist _ | apply List.Sublist.cons_cons))) | (apply iv; assumption)
            | (apply dw_q mixed hC hGL (by kernel_rfl))
            | (apply cq; assumption; (first | exact hg); exact rfl))
        all_goals (try conv => whnf)
        apply rt_is
        unfold joinPT joinPE
        rw [if_neg (by omega), if_neg h0, if_neg (by omega)]
        rfl
end Go.Proofs.YtlmihggafbmkaaaGreatDoor
