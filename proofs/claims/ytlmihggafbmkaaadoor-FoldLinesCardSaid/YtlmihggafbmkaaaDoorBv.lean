/- Builders at a loop's head; package fold: a line folded. -/
import Derived.Test.YtlmihggafbmkaaaDoorBu
import Derived.Test.YtlmihggafbmkaaaDoorUg
namespace Go.Proofs.YtlmihggafbmkaaaDoor
open Go
set_option maxRecDepth 20000
set_option maxHeartbeats 4000000
set_option linter.unusedSimpArgs false
set_option linter.unusedVariables false
attribute [local irreducible] AWp AOps byteAt SrcOK OrOk GloAll FnSpec
attribute [local irreducible] nextS badI badS stepS cutS rngR ownB
/-- A fresh builder, told as one. -/
theorem lp_bld {P : Program} [Tab P] {C : Ctx} {n : Nat} {env : Env} {H : Heap} {Q : AExit → Env → Heap → Prop} {c : Code} (i : Nat) {b : Nat} (hi : H[i]? = some (.cells b (some 114) [.raw (.pointer none), .raw (.slice none 0 0)]))
    (h : Lp P C n c env (H.set i (bldC b (.pointer none) H.length (.slice none 0 0)) ++ [bldR (.slice none 0 0) []]) Q) : Lp P C n c env H Q := by
  refine ⟨aw_ghost_row (eT := some 5) 1 ?_⟩
  have h := h.h
  unfold AWp at h ⊢
  intro R a w hm hf
  obtain ⟨Cs, e, fz, hb, hl, hr⟩ := hm.heap.holds (.cells b (some 114) [.raw (.pointer none), .raw (.slice none 0 0)]) (List.mem_cons_of_mem _ (List.mem_of_getElem? hi))
  obtain ⟨v1, t1, e1, r1, v2, t2, e2, r2, e3⟩ := hl
  have r2' : RelC R (.own H.length (.slice none 0 0)) [v2] := by
    have : v2 = .slice none 0 0 := by simpa [RelC, Value.cells] using r2
    subst this
    simp [RelC, vAgg]
  have h1 := hm.swap (i := i + 1) (x := .cells b (some 114) [.raw (.pointer none), .raw (.slice none 0 0)]) (y := bldC b (.pointer none) H.length (.slice none 0 0)) (by rw [List.getElem?_cons_succ]; exact hi) rfl
    ⟨Cs, e, fz, hb, ⟨v1, t1, e1, r1, v2, t2, e2, r2', e3⟩, hr⟩
  rw [List.set_cons_succ] at h1
  exact h R a w (h1.perm (List.perm_append_singleton _ _).symm) hf
/-! ## A line in pieces -/
theorem cutS_le (s : List UInt8) (a : Nat) (n : Int) : a ≤ cutS s a n ∧ cutS s a n ≤ a + s.length ∧ ((cutS s a n : Int) ≤ n ∨ cutS s a n = a) := by
  have key : ∀ k (s : List UInt8) (a : Nat), s.length ≤ k → a ≤ cutS s a n ∧ cutS s a n ≤ a + s.length ∧ ((cutS s a n : Int) ≤ n ∨ cutS s a n = a) := by
    intro k
    induction k with
    | zero => intro s a h; rw [cutS_nil s a n (by omega)]; omega
    | succ k ih =>
      intro s a h
      by_cases h0 : s.length = 0
      · rw [cutS_nil s a n h0]; omega
      · rw [cutS_step s a n h0]
        have h1 := stepS_pos s
        have h2 := stepS_le s h0
        split
        · omega
        · have := ih (s.drop (stepS s)) (a + stepS s) (by rw [List.length_drop]; omega)
          rw [List.length_drop] at this
          omega
  exact key _ s a (Nat.le_refl _)
theorem cutS_pos (s : List UInt8) (n : Int) (h0 : s.length ≠ 0) (hn : 4 ≤ n) : 1 ≤ cutS s 0 n := by
  rw [cutS_step s 0 n h0]
  have h1 := stepS_pos s
  have h2 : stepS s ≤ 4 := by have := nextS_le s; unfold stepS; split <;> omega
  rw [if_neg (by omega)]
  have := (cutS_le (s.drop (stepS s)) (0 + stepS s) n).1
  omega
/-- The pieces of a text: the first of at most r bytes, the others of at most q. -/
def piecesS (s : List UInt8) (r q : Int) : List (List UInt8) :=
  s.take (cutS s 0 r) :: (if h : (s.drop (cutS s 0 r)).length = 0 ∨ cutS s 0 r = 0 then [] else piecesS (s.drop (cutS s 0 r)) q q)
termination_by s.length
decreasing_by simp only [List.length_drop] at *; omega
theorem pieces_last {s : List UInt8} {r q : Int} (h : (s.drop (cutS s 0 r)).length = 0) : piecesS s r q = [s.take (cutS s 0 r)] := by
  rw [piecesS, dif_pos (.inl h)]
theorem pieces_more {s : List UInt8} {r q : Int} (h : (s.drop (cutS s 0 r)).length ≠ 0) (hn : cutS s 0 r ≠ 0) : piecesS s r q = s.take (cutS s 0 r) :: piecesS (s.drop (cutS s 0 r)) q q := by
  rw [piecesS, dif_neg (by omega)]
theorem pieces_ne (s : List UInt8) (r q : Int) : piecesS s r q ≠ [] := by rw [piecesS]; simp
/-- Folded. -/
def foldB : List (List UInt8) → List UInt8
  | [] => []
  | [p] => p ++ [13, 10]
  | p :: ps => p ++ [13, 10] ++ [32] ++ foldB ps
theorem foldB_cons (p : List UInt8) {ps : List (List UInt8)} (h : ps ≠ []) : foldB (p :: ps) = p ++ [13, 10] ++ [32] ++ foldB ps := by
  cases ps with
  | nil => exact absurd rfl h
  | cons a b => rfl
theorem fold_loop {G : Glo} (s0 : List UInt8) (w : Int) (hw : 10 ≤ w ∧ w ≤ 75) (hl : s0.length ≤ 1500) (hb : badS s0 = none) (hI : FnIs Tryd.prog G 67 [.str s0, .str [13, 10]] (.int .i64 (-1))) :
    FnIs Tryd.prog G 31 [.str s0, .int .i64 w] (.tuple [.str (foldB (piecesS s0 w (w - 1))), .raw .nilIface]) := by
  have hB := utf_Bad (G := G) s0 (by omega)
  have hbI : badI s0 = -1 := by unfold badI; rw [hb]
  rw [hbI] at hB
  have hGL : GloAll G [] := gloAll_nil
  refine fn_x Tryd.func31 Tryd.call31 rfl rfl rfl rfl hGL ?_
  intro C hC
  repeat' (first
    | (conv => whnf); first
      | (apply ch_l; apply sp_i; first | exact rfl | omega | exact ⟨rfl, rfl, by omega⟩ | exact ⟨rfl, by omega⟩ | exact ⟨rfl, by omega, by omega, by omega⟩ | exact ⟨⟨_, rfl⟩, by omega⟩ | exact ⟨⟨_, rfl⟩, by omega, by omega⟩ | decide | (simp only [List.length_drop, List.length_take, List.length_append, List.length_set, List.length_cons, List.length_nil, OrOk] at *; omega) | (simp; omega))
      | (apply sp_i; first | exact rfl | omega | exact ⟨rfl, rfl, by omega⟩ | exact ⟨rfl, by omega⟩ | exact ⟨rfl, by omega, by omega, by omega⟩ | exact ⟨⟨_, rfl⟩, by omega⟩ | exact ⟨⟨_, rfl⟩, by omega, by omega⟩ | decide | (simp only [List.length_drop, List.length_take, List.length_append, List.length_set, List.length_cons, List.length_nil, OrOk] at *; omega) | (simp; omega))
      | (apply sc_true) | (apply sc_false)
      | (first | apply sc_lt | apply sc_nlt | apply sc_eq | apply sc_neq | apply sc_nil | apply sc_nnil | apply sc_seq | apply sc_nseq); all_goals (intro hb; try (first | (exfalso; omega) | exact absurd rfl hb | exact absurd hb (by decide) | exact absurd hb (by assumption) | exact absurd (by assumption) hb | (exfalso; simp only [List.length_cons, List.length_nil, List.length_append] at hb; omega)))
      | (apply sc_not) | (apply sc_or) | (apply sc_i; all_goals intro hb)
      | (first | apply ix_nat | apply ix_int); first | omega | (simp only [List.length_drop, List.length_take, List.length_append, List.length_set, List.length_cons, List.length_nil] at *; omega)
      | (apply bx_i; intro hbd)
      | (first | apply sd_nat | apply sd_int | apply sl_nat | apply sl_int); first | omega | (simp only [List.length_drop, List.length_take, List.length_append, List.length_set, List.length_cons, List.length_nil] at *; omega)
      | (apply cx_is; first | exact hB | exact hI | exact utf_Cut _ _ (by omega)) | (apply cx_do (i := 0) rfl; first | exact hB | exact hI | exact utf_Cut _ _ (by omega))
      | (apply ab_i; intro bl) | (apply as_i; intro va vk vc hva) | (apply av_i; intro v) | (apply ac_i; intro bl cap hcap)
      | (apply bo_l) | (apply ch_r; apply sp_i; intro i hi; exact ⟨rfl, rfl, rfl⟩) | (apply nx_i; all_goals intro hnx)
      | (apply Ia.hit; assumption) | (apply Ia.miss; assumption)
      | (apply rt_is; exact rfl) | (apply rt_do; exact rfl; (repeat (first | exact List.nil_sublist _ | apply List.Sublist.cons_cons))) | (apply iv; assumption)
      | (apply dw_q mixed hC hGL (by kernel_rfl))
      | (apply cq; assumption; (first | exact hB | exact hI | exact utf_Cut _ _ (by omega)); exact rfl))
  all_goals (try conv => whnf)
  refine lp_bld 0 rfl ?_
  refine lp hC hGL (fun (x : List UInt8 × Int × List UInt8 × Value × Value) => [(0, .str x.1), (1, .int .i64 w), (8, .own 0 (ptrA bl)), (9, .int .i64 x.2.1)]) (fun x => [bldC bl x.2.2.2.1 1 x.2.2.2.2, bldR x.2.2.2.2 x.2.2.1]) (fun x => AddrOK bl x.2.2.2.1 ∧ (x.2.1 = w ∨ x.2.1 = w - 1) ∧ x.2.2.1 ++ foldB (piecesS x.1 x.2.1 (w - 1)) = foldB (piecesS s0 w (w - 1)) ∧ x.2.2.1.length + 4 * x.1.length ≤ 4 * s0.length + 4) (fun x => x.1.length) (s0, w, [], .pointer none, .slice none 0 0) ?_ (by repeat (first | exact trivial | refine And.intro rfl ?_)) rfl ?_
  · exact ⟨.inl rfl, .inl rfl, rfl, by simp⟩
  rintro ⟨s, r, out, p, v⟩ ⟨hp, hr, he, hlen⟩
  dsimp only at hp hr he hlen ⊢
  have hc := cutS_le s 0 r
  rw [Nat.zero_add] at hc
  repeat' (first
    | (conv => whnf); first
      | (apply ch_l; apply sp_i; first | exact rfl | omega | exact ⟨rfl, rfl, by omega⟩ | exact ⟨rfl, by omega⟩ | exact ⟨rfl, by omega, by omega, by omega⟩ | exact ⟨⟨_, rfl⟩, by omega⟩ | exact ⟨⟨_, rfl⟩, by omega, by omega⟩ | decide | (simp only [List.length_drop, List.length_take, List.length_append, List.length_set, List.length_cons, List.length_nil, OrOk] at *; omega) | (simp; omega))
      | (apply sp_i; first | exact rfl | omega | exact ⟨rfl, rfl, by omega⟩ | exact ⟨rfl, by omega⟩ | exact ⟨rfl, by omega, by omega, by omega⟩ | exact ⟨⟨_, rfl⟩, by omega⟩ | exact ⟨⟨_, rfl⟩, by omega, by omega⟩ | decide | (simp only [List.length_drop, List.length_take, List.length_append, List.length_set, List.length_cons, List.length_nil, OrOk] at *; omega) | (simp; omega))
      | (apply sc_true) | (apply sc_false)
      | (first | apply sc_lt | apply sc_nlt | apply sc_eq | apply sc_neq | apply sc_nil | apply sc_nnil | apply sc_seq | apply sc_nseq); all_goals (intro hb; try (first | (exfalso; omega) | exact absurd rfl hb | exact absurd hb (by decide) | exact absurd hb (by assumption) | exact absurd (by assumption) hb | (exfalso; simp only [List.length_cons, List.length_nil, List.length_append] at hb; omega)))
      | (apply sc_not) | (apply sc_or) | (apply sc_i; all_goals intro hb)
      | (first | apply ix_nat | apply ix_int); first | omega | (simp only [List.length_drop, List.length_take, List.length_append, List.length_set, List.length_cons, List.length_nil] at *; omega)
      | (apply bx_i; intro hbd)
      | (first | apply sd_nat | apply sd_int | apply sl_nat | apply sl_int); first | omega | (simp only [List.length_drop, List.length_take, List.length_append, List.length_set, List.length_cons, List.length_nil] at *; omega)
      | (apply cx_is; first | exact utf_Cut _ _ (by omega)) | (apply cx_do (i := 0) rfl; first | exact utf_Cut _ _ (by omega))
      | (apply ab_i; intro bl) | (apply as_i; intro va vk vc hva) | (apply av_i; intro v) | (apply ac_i; intro bl cap hcap)
      | (apply bo_l) | (apply ch_r; apply sp_i; intro i hi; exact ⟨rfl, rfl, rfl⟩) | (apply nx_i; all_goals intro hnx)
      | (apply Ia.hit; assumption) | (apply Ia.miss; assumption)
      | (apply rt_is; exact rfl) | (apply rt_do; exact rfl; (repeat (first | exact List.nil_sublist _ | apply List.Sublist.cons_cons))) | (apply iv; assumption)
      | (apply dw_q mixed hC hGL (by kernel_rfl))
      | (apply cq; assumption; (first | exact utf_Cut _ _ (by omega)); exact rfl))
  all_goals (try conv => whnf)
  apply cx_bld (i := 0) (j := 1) rfl rfl (by decide) (write_string1 hp v out (s.take (cutS s 0 r) ++ [13, 10]) (by simp only [List.length_append, List.length_take, List.length_cons, List.length_nil]; omega))
  intro va vk vc
  repeat' (first
    | (conv => whnf); first
      | (apply ch_l; apply sp_i; first | exact rfl | omega | exact ⟨rfl, rfl, by omega⟩ | exact ⟨rfl, by omega⟩ | exact ⟨rfl, by omega, by omega, by omega⟩ | exact ⟨⟨_, rfl⟩, by omega⟩ | exact ⟨⟨_, rfl⟩, by omega, by omega⟩ | decide | (simp only [List.length_drop, List.length_take, List.length_append, List.length_set, List.length_cons, List.length_nil, OrOk] at *; omega) | (simp; omega))
      | (apply sp_i; first | exact rfl | omega | exact ⟨rfl, rfl, by omega⟩ | exact ⟨rfl, by omega⟩ | exact ⟨rfl, by omega, by omega, by omega⟩ | exact ⟨⟨_, rfl⟩, by omega⟩ | exact ⟨⟨_, rfl⟩, by omega, by omega⟩ | decide | (simp only [List.length_drop, List.length_take, List.length_append, List.length_set, List.length_cons, List.length_nil, OrOk] at *; omega) | (simp; omega))
      | (apply sc_true) | (apply sc_false)
      | (first | apply sc_lt | apply sc_nlt | apply sc_eq | apply sc_neq | apply sc_nil | apply sc_nnil | apply sc_seq | apply sc_nseq); all_goals (intro hb; try (first | (exfalso; omega) | exact absurd rfl hb | exact absurd hb (by decide) | exact absurd hb (by assumption) | exact absurd (by assumption) hb | (exfalso; simp only [List.length_cons, List.length_nil, List.length_append] at hb; omega)))
      | (apply sc_not) | (apply sc_or) | (apply sc_i; all_goals intro hb)
      | (first | apply ix_nat | apply ix_int); first | omega | (simp only [List.length_drop, List.length_take, List.length_append, List.length_set, List.length_cons, List.length_nil] at *; omega)
      | (apply bx_i; intro hbd)
      | (first | apply sd_nat | apply sd_int | apply sl_nat | apply sl_int); first | omega | (simp only [List.length_drop, List.length_take, List.length_append, List.length_set, List.length_cons, List.length_nil] at *; omega)
      | (apply cx_is; first | exact utf_Cut _ _ (by omega)) | (apply cx_do (i := 0) rfl; first | exact utf_Cut _ _ (by omega))
      | (apply ab_i; intro bl) | (apply as_i; intro va vk vc hva) | (apply av_i; intro v) | (apply ac_i; intro bl cap hcap)
      | (apply bo_l) | (apply ch_r; apply sp_i; intro i hi; exact ⟨rfl, rfl, rfl⟩) | (apply nx_i; all_goals intro hnx)
      | (apply Ia.hit; assumption) | (apply Ia.miss; assumption)
      | (apply rt_is; exact rfl) | (apply rt_do; exact rfl; (repeat (first | exact List.nil_sublist _ | apply List.Sublist.cons_cons))) | (apply iv; assumption)
      | (apply dw_q mixed hC hGL (by kernel_rfl))
      | (apply cq; assumption; (first | exact utf_Cut _ _ (by omega)); exact rfl))
  all_goals (try conv => whnf)
  · apply cx_ble (i := 0) (j := 1) rfl rfl (by decide) (builder_string (out ++ (s.take (cutS s 0 r) ++ [13, 10])) (by simp only [List.length_append, List.length_take, List.length_cons, List.length_nil]; omega))
    repeat' (first
      | (conv => whnf); first
        | (apply ch_l; apply sp_i; first | exact rfl | omega | exact ⟨rfl, rfl, by omega⟩ | exact ⟨rfl, by omega⟩ | exact ⟨rfl, by omega, by omega, by omega⟩ | exact ⟨⟨_, rfl⟩, by omega⟩ | exact ⟨⟨_, rfl⟩, by omega, by omega⟩ | decide | (simp only [List.length_drop, List.length_take, List.length_append, List.length_set, List.length_cons, List.length_nil, OrOk] at *; omega) | (simp; omega))
        | (apply sp_i; first | exact rfl | omega | exact ⟨rfl, rfl, by omega⟩ | exact ⟨rfl, by omega⟩ | exact ⟨rfl, by omega, by omega, by omega⟩ | exact ⟨⟨_, rfl⟩, by omega⟩ | exact ⟨⟨_, rfl⟩, by omega, by omega⟩ | decide | (simp only [List.length_drop, List.length_take, List.length_append, List.length_set, List.length_cons, List.length_nil, OrOk] at *; omega) | (simp; omega))
        | (apply sc_true) | (apply sc_false)
        | (first | apply sc_lt | apply sc_nlt | apply sc_eq | apply sc_neq | apply sc_nil | apply sc_nnil | apply sc_seq | apply sc_nseq); all_goals (intro hb; try (first | (exfalso; omega) | exact absurd rfl hb | exact absurd hb (by decide) | exact absurd hb (by assumption) | exact absurd (by assumption) hb | (exfalso; simp only [List.length_cons, List.length_nil, List.length_append] at hb; omega)))
        | (apply sc_not) | (apply sc_or) | (apply sc_i; all_goals intro hb)
        | (first | apply ix_nat | apply ix_int); first | omega | (simp only [List.length_drop, List.length_take, List.length_append, List.length_set, List.length_cons, List.length_nil] at *; omega)
        | (apply bx_i; intro hbd)
        | (first | apply sd_nat | apply sd_int | apply sl_nat | apply sl_int); first | omega | (simp only [List.length_drop, List.length_take, List.length_append, List.length_set, List.length_cons, List.length_nil] at *; omega)
        | (apply cx_is; first | fail) | (apply cx_do (i := 0) rfl; first | fail)
        | (apply ab_i; intro bl) | (apply as_i; intro va vk vc hva) | (apply av_i; intro v) | (apply ac_i; intro bl cap hcap)
        | (apply bo_l) | (apply ch_r; apply sp_i; intro i hi; exact ⟨rfl, rfl, rfl⟩) | (apply nx_i; all_goals intro hnx)
        | (apply Ia.hit; assumption) | (apply Ia.miss; assumption)
        | (apply rt_is; exact rfl) | (apply rt_do; exact rfl; (repeat (first | exact List.nil_sublist _ | apply List.Sublist.cons_cons))) | (apply iv; assumption)
        | (apply dw_q mixed hC hGL (by kernel_rfl))
        | (apply cq; assumption; (first | fail); exact rfl))
    all_goals (try conv => whnf)
    refine ⟨[], List.nil_sublist _, ?_, rfl⟩
    have e2 := pieces_last (q := w - 1) hb
    rw [e2] at he
    rw [← he]
    rfl
  · apply cx_bld (i := 0) (j := 1) rfl rfl (by decide) (write_string1 (.inr rfl) (.slice va vk vc) (out ++ (s.take (cutS s 0 r) ++ [13, 10])) [32] (by simp only [List.length_append, List.length_take, List.length_cons, List.length_nil]; omega))
    intro wa wk wc
    repeat' (first
      | (conv => whnf); first
        | (apply ch_l; apply sp_i; first | exact rfl | omega | exact ⟨rfl, rfl, by omega⟩ | exact ⟨rfl, by omega⟩ | exact ⟨rfl, by omega, by omega, by omega⟩ | exact ⟨⟨_, rfl⟩, by omega⟩ | exact ⟨⟨_, rfl⟩, by omega, by omega⟩ | decide | (simp only [List.length_drop, List.length_take, List.length_append, List.length_set, List.length_cons, List.length_nil, OrOk] at *; omega) | (simp; omega))
        | (apply sp_i; first | exact rfl | omega | exact ⟨rfl, rfl, by omega⟩ | exact ⟨rfl, by omega⟩ | exact ⟨rfl, by omega, by omega, by omega⟩ | exact ⟨⟨_, rfl⟩, by omega⟩ | exact ⟨⟨_, rfl⟩, by omega, by omega⟩ | decide | (simp only [List.length_drop, List.length_take, List.length_append, List.length_set, List.length_cons, List.length_nil, OrOk] at *; omega) | (simp; omega))
        | (apply sc_true) | (apply sc_false)
        | (first | apply sc_lt | apply sc_nlt | apply sc_eq | apply sc_neq | apply sc_nil | apply sc_nnil | apply sc_seq | apply sc_nseq); all_goals (intro hb; try (first | (exfalso; omega) | exact absurd rfl hb | exact absurd hb (by decide) | exact absurd hb (by assumption) | exact absurd (by assumption) hb | (exfalso; simp only [List.length_cons, List.length_nil, List.length_append] at hb; omega)))
        | (apply sc_not) | (apply sc_or) | (apply sc_i; all_goals intro hb)
        | (first | apply ix_nat | apply ix_int); first | omega | (simp only [List.length_drop, List.length_take, List.length_append, List.length_set, List.length_cons, List.length_nil] at *; omega)
        | (apply bx_i; intro hbd)
        | (first | apply sd_nat | apply sd_int | apply sl_nat | apply sl_int); first | omega | (simp only [List.length_drop, List.length_take, List.length_append, List.length_set, List.length_cons, List.length_nil] at *; omega)
        | (apply cx_is; first | fail) | (apply cx_do (i := 0) rfl; first | fail)
        | (apply ab_i; intro bl) | (apply as_i; intro va vk vc hva) | (apply av_i; intro v) | (apply ac_i; intro bl cap hcap)
        | (apply bo_l) | (apply ch_r; apply sp_i; intro i hi; exact ⟨rfl, rfl, rfl⟩) | (apply nx_i; all_goals intro hnx)
        | (apply Ia.hit; assumption) | (apply Ia.miss; assumption)
        | (apply rt_is; exact rfl) | (apply rt_do; exact rfl; (repeat (first | exact List.nil_sublist _ | apply List.Sublist.cons_cons))) | (apply iv; assumption)
        | (apply dw_q mixed hC hGL (by kernel_rfl))
        | (apply cq; assumption; (first | fail); exact rfl))
    all_goals (try conv => whnf)
    have hs0 : s.length ≠ 0 := by rw [List.length_drop] at hb; omega
    have hn := cutS_pos s r hs0 (by omega)
    refine nxt (s.drop (cutS s 0 r), w - 1, out ++ (s.take (cutS s 0 r) ++ [13, 10]) ++ [32], ptrA bl, .slice wa wk wc) ⟨.inr rfl, .inr rfl, ?_, ?_⟩ ?_ ⟨rfl, rfl, rfl, rfl, trivial⟩ rfl
    · dsimp only
      rw [pieces_more hb (by omega), foldB_cons _ (pieces_ne _ _ _)] at he
      rw [← he]
      simp only [List.append_assoc]
    · simp only [List.length_append, List.length_take, List.length_drop, List.length_cons, List.length_nil]
      omega
    · simp only [List.length_drop]
      omega
end Go.Proofs.YtlmihggafbmkaaaDoor
