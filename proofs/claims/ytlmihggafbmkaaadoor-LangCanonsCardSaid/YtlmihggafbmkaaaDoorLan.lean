/- Languages: what is wrong with one, on both sides (11.1). -/
import Derived.Test.YtlmihggafbmkaaaDoorGeo
namespace Go.Proofs.YtlmihggafbmkaaaDoor
open Go Go.RowKit
/-- A byte that may stand in a piece. -/
def lgB (first : Bool) (c : Int) : Bool := letterB c && !(first && decide (c ≤ 57))
/-- What is wrong with a piece that begins at a byte. -/
def pieceX (first : Bool) (a : Nat) (x : List UInt8) : Err :=
  if 0 ≤ fstB (fun c => !lgB first c) x then .at 3 (a + fstB (fun c => !lgB first c) x) else if x.length = 0 then .at 7 a else if 8 < x.length then .at 4 a else .none
def Err.isNone : Err → Bool
  | .none => true
  | _ => false
def langE : Bool → Nat → List (List UInt8) → Err
  | _, _, [] => .none
  | first, a, x :: xs => if (pieceX first a x).isNone then langE false (a + x.length + 1) xs else pieceX first a x
def langX (s : List UInt8) : Err := langE true 0 (splS 45 s)
theorem splS_mem {c : UInt8} : ∀ {s p : List UInt8}, p ∈ splS c s → c ∉ p
  | [], p, h => by simp [splS] at h; subst h; simp
  | x :: t, p, h => by
    by_cases hx : x = c
    · rw [splS, if_pos hx] at h
      rcases List.mem_cons.1 h with rfl | h
      · simp
      · exact splS_mem h
    · rw [splS, if_neg hx] at h
      cases h1 : splS c t with
      | nil => exact absurd h1 (splS_ne c t)
      | cons q qs =>
        rw [h1] at h
        rcases List.mem_cons.1 h with rfl | h
        · have := splS_mem (s := t) (p := q) (c := c) (by rw [h1]; simp)
          simp [this, Ne.symm hx]
        · exact splS_mem (s := t) (by rw [h1]; simp [h])
theorem splS_at {c : UInt8} {u v : List UInt8} {x : UInt8} (hu : c ∉ u) (hx : x ≠ c) : ∃ q qs, splS c (u ++ x :: v) = (u ++ x :: q) :: qs := by
  obtain ⟨p, ps, h1, h2⟩ := splS_app (v := x :: v) hu
  rw [splS, if_neg hx] at h1
  cases h3 : splS c v with
  | nil => exact absurd h3 (splS_ne c v)
  | cons q qs =>
    rw [h3] at h1
    cases h1
    exact ⟨_, _, h2⟩
theorem byteAt_app1 {u v : List UInt8} {j : Nat} (h : j < u.length) : byteAt (u ++ v) j = byteAt u j := by
  unfold byteAt; simp [List.getD, List.getElem?_append, h]
theorem byteAt_app2 {u v : List UInt8} {j : Nat} (h : u.length ≤ j) : byteAt (u ++ v) j = byteAt v (j - u.length) := by
  unfold byteAt; simp [List.getD, List.getElem?_append, show ¬ j < u.length by omega]
theorem fst_bad {f : Int → Bool} {u q : List UInt8} {x : UInt8} (hu : ∀ j, j < u.length → f (byteAt u j : Int) = false) (hx : f (x.toNat : Int) = true) : fstB f (u ++ x :: q) = u.length := by
  refine fstB_at (by simp) ?_ (fun j hj => by rw [byteAt_app1 hj]; exact hu j hj)
  rw [byteAt_app2 (Nat.le_refl _), Nat.sub_self]
  exact hx
theorem drop_split (s : List UInt8) (k i : Nat) (h1 : k ≤ i) (h2 : i ≤ s.length) : s.drop k = (s.drop k).take (i - k) ++ s.drop i := by
  have e := (List.take_append_drop (i - k) (s.drop k)).symm
  rw [List.drop_drop, show k + (i - k) = i by omega] at e
  exact e
theorem lang_bad {s : List UInt8} {k i : Nat} (h1 : k ≤ i) (h2 : i < s.length) (hg : ∀ j, k ≤ j → j < i → byteAt s j ≠ 45 ∧ lgB (decide (k = 0)) (byteAt s j : Int) = true) (hc : byteAt s i ≠ 45) (hb : lgB (decide (k = 0)) (byteAt s i : Int) = false) (b : Bool) (hbk : b = decide (k = 0)) :
    langE b k (splS 45 (s.drop k)) = .at 3 i := by
  subst hbk
  have e := drop_split s k i h1 (by omega)
  rw [List.drop_eq_getElem_cons h2] at e
  have hl : ((s.drop k).take (i - k)).length = i - k := by rw [List.length_take, List.length_drop]; omega
  have hba : ∀ j, j < i - k → byteAt ((s.drop k).take (i - k)) j = byteAt s (k + j) := fun j hj => by rw [byteAt_take hj, drop_byteAt]
  have hu : (45 : UInt8) ∉ (s.drop k).take (i - k) := by
    intro hm
    obtain ⟨j, hj, ej⟩ := List.getElem_of_mem hm
    rw [hl] at hj
    have h3 := (hg (k + j) (by omega) (by omega)).1
    rw [← hba j hj, byteAt_getElem (by omega), ej] at h3
    exact h3 rfl
  have hx : s[i] ≠ 45 := fun h => hc (by rw [byteAt_getElem h2, h]; rfl)
  obtain ⟨q, qs, hs⟩ := splS_at (v := s.drop (i + 1)) hu hx
  rw [← e] at hs
  rw [hs, langE]
  have hf : fstB (fun c => !lgB (decide (k = 0)) c) ((s.drop k).take (i - k) ++ s[i] :: q) = ((i - k : Nat) : Int) := by
    rw [fst_bad (f := fun c => !lgB (decide (k = 0)) c), hl]
    · intro j hj
      rw [hl] at hj
      rw [hba j hj, (hg (k + j) (by omega) (by omega)).2]
      rfl
    · rw [← byteAt_getElem h2, hb]; rfl
  have hp : pieceX (decide (k = 0)) k ((s.drop k).take (i - k) ++ s[i] :: q) = .at 3 i := by
    unfold pieceX
    rw [hf, if_pos (by omega), show ((k : Nat) : Int) + ((i - k : Nat) : Int) = i by omega]
  rw [hp]
  rfl
/-- A piece's end. -/
theorem lang_end {s : List UInt8} {k i : Nat} (h1 : k ≤ i) (h2 : i ≤ s.length) (hg : ∀ j, k ≤ j → j < i → byteAt s j ≠ 45 ∧ lgB (decide (k = 0)) (byteAt s j : Int) = true) (hc : i = s.length ∨ byteAt s i = 45) (b : Bool) (hbk : b = decide (k = 0)) :
    langE b k (splS 45 (s.drop k)) = if i = k then .at 7 k else if 8 < i - k then .at 4 k else if i = s.length then .none else langE false (i + 1) (splS 45 (s.drop (i + 1))) := by
  subst hbk
  have e := drop_split s k i h1 (by omega)
  have hl : ((s.drop k).take (i - k)).length = i - k := by rw [List.length_take, List.length_drop]; omega
  have hba : ∀ j, j < i - k → byteAt ((s.drop k).take (i - k)) j = byteAt s (k + j) := fun j hj => by rw [byteAt_take hj, drop_byteAt]
  have hu : (45 : UInt8) ∉ (s.drop k).take (i - k) := by
    intro hm
    obtain ⟨j, hj, ej⟩ := List.getElem_of_mem hm
    rw [hl] at hj
    have h3 := (hg (k + j) (by omega) (by omega)).1
    rw [← hba j hj, byteAt_getElem (by omega), ej] at h3
    exact h3 rfl
  have hs : splS 45 (s.drop k) = (s.drop k).take (i - k) :: (if i = s.length then [] else splS 45 (s.drop (i + 1))) := by
    by_cases hi : i = s.length
    · rw [if_pos hi]
      rw [List.drop_eq_nil_of_le (show s.length ≤ i by omega), List.append_nil] at e
      have hu' : (45 : UInt8) ∉ s.drop k := by rw [e]; exact hu
      rw [splS_none hu']
      exact congrArg (fun z => [z]) e
    · rw [if_neg hi]
      have hc := hc.resolve_left hi
      have h2 : i < s.length := by omega
      rw [List.drop_eq_getElem_cons h2] at e
      have hx : s[i] = 45 := UInt8.toNat_inj.1 (by rw [← byteAt_getElem h2, hc]; rfl)
      rw [hx] at e
      generalize hw : (s.drop k).take (i - k) = w at *
      rw [e, splS_cut hu]
  have hf : fstB (fun c => !lgB (decide (k = 0)) c) ((s.drop k).take (i - k)) = -1 := fstB_none fun j hj => by
    rw [hl] at hj
    rw [hba j hj, (hg (k + j) (by omega) (by omega)).2]
    rfl
  rw [hs, langE]
  have hp : pieceX (decide (k = 0)) k ((s.drop k).take (i - k)) = if i = k then .at 7 k else if 8 < i - k then .at 4 k else .none := by
    unfold pieceX
    rw [hf, if_neg (by omega), hl]
    by_cases h3 : i = k
    · rw [if_pos (by omega), if_pos h3]
    · rw [if_neg (by omega), if_neg h3]
  rw [hp, hl]
  by_cases h3 : i = k
  · rw [if_pos h3, if_pos h3]; rfl
  · rw [if_neg h3, if_neg h3]
    by_cases h4 : 8 < i - k
    · rw [if_pos h4, if_pos h4]; rfl
    · rw [if_neg h4, if_neg h4, if_pos (show Err.none.isNone = true from rfl), show k + (i - k) + 1 = i + 1 by omega]
      by_cases h5 : i = s.length
      · rw [if_pos h5, if_pos h5]; rfl
      · rw [if_neg h5, if_neg h5]
theorem isS_one {s : List UInt8} {i : Nat} (h : i < s.length) : isS ((s.take (i + 1)).drop i) = letterB (byteAt s i) := by
  have hl : ((s.take (i + 1)).drop i).length = 1 := by rw [List.length_drop, List.length_take]; omega
  have hb : byteAt ((s.take (i + 1)).drop i) 0 = byteAt s i := by rw [drop_byteAt, byteAt_take (by omega), Nat.add_zero]
  rw [Bool.eq_iff_iff, isS, hl]
  simp only [Bool.and_eq_true, allB_t, hl, decide_eq_true_eq]
  constructor
  · intro h; rw [← hb]; exact h.1 0 (by omega)
  · intro h; exact ⟨fun j hj => by rw [show j = 0 by omega, hb]; exact h, by omega, by omega⟩
theorem lgB_t {b : Bool} {c : Int} : lgB b c = true ↔ letterB c = true ∧ (b = true → 57 < c) := by
  unfold lgB
  cases b <;> simp
theorem lgB_f {b : Bool} {c : Int} : lgB b c = false ↔ (letterB c = false ∨ (b = true ∧ c ≤ 57)) := by
  unfold lgB
  cases b <;> cases letterB c <;> simp
set_option maxRecDepth 20000
set_option maxHeartbeats 4000000
set_option linter.unusedSimpArgs false
set_option linter.unusedVariables false
attribute [local irreducible] AWp AOps byteAt SrcOK OrOk GloAll FnSpec
attribute [local irreducible] splS langE lgB isS letterB
theorem lang_Right {G : Glo} (s : List UInt8) (hl : s.length ≤ 9223372036854775000) : FnIs Tryd.prog G 45 [.str s] (langX s).A := by
  have hGL : GloAll G [] := gloAll_nil
  refine fn_x Tryd.func45 Tryd.call45 rfl rfl rfl rfl hGL ?_
  intro C hC
  have hN := fun i (h : i < s.length) => name_Is (G := G) ((s.take (i + 1)).drop i) (by rw [List.length_drop, List.length_take]; omega)
  repeat' (first
    | (conv => whnf); first
      | (apply ch_l; apply sp_i; first | exact rfl | omega | exact ⟨rfl, rfl, by omega⟩ | exact ⟨rfl, by omega⟩ | exact ⟨rfl, by omega, by omega, by omega⟩ | exact ⟨⟨_, rfl⟩, by omega⟩ | exact ⟨⟨_, rfl⟩, by omega, by omega⟩ | decide | (simp only [List.length_drop, List.length_take, List.length_append, List.length_set, List.length_cons, List.length_nil, OrOk] at *; omega) | (simp; omega))
      | (apply sp_i; first | exact rfl | omega | exact ⟨rfl, rfl, by omega⟩ | exact ⟨rfl, by omega⟩ | exact ⟨rfl, by omega, by omega, by omega⟩ | exact ⟨⟨_, rfl⟩, by omega⟩ | exact ⟨⟨_, rfl⟩, by omega, by omega⟩ | decide | (simp only [List.length_drop, List.length_take, List.length_append, List.length_set, List.length_cons, List.length_nil, OrOk] at *; omega) | (simp; omega))
      | (apply sc_true) | (apply sc_false)
      | (first | apply sc_lt | apply sc_nlt | apply sc_eq | apply sc_neq | apply sc_nil | apply sc_nnil | apply sc_seq | apply sc_nseq); all_goals (intro hb; try (first | (exfalso; omega) | exact absurd rfl hb | exact absurd hb (by decide) | exact absurd hb (by assumption) | exact absurd (by assumption) hb | (exfalso; simp only [List.length_cons, List.length_nil, List.length_append] at hb; omega)))
      | (apply sc_not) | (apply sc_or) | (apply sc_i; all_goals intro hb)
      | (first | apply ix_nat | apply ix_int); first | omega | (simp only [List.length_drop, List.length_take, List.length_append, List.length_set, List.length_cons, List.length_nil] at *; omega)
      | (apply bx_i; intro hbd)
      | (first | apply sd_nat | apply sd_int | apply sl_nat | apply sl_int); first | omega | (simp only [List.length_drop, List.length_take, List.length_append, List.length_set, List.length_cons, List.length_nil] at *; omega)
      | (apply cx_is; first | fail) | (apply cx_do (i := 0) rfl; first | fail)
      | (apply ab_i; intro bl) | (apply as_i; intro va vk vc) | (apply av_i; intro v) | (apply ac_i; intro bl cap hcap)
      | (apply bo_l) | (apply ch_r; apply sp_i; intro i hi; exact ⟨rfl, rfl, rfl⟩) | (apply nx_i; all_goals intro hnx)
      | (apply Ia.hit; assumption) | (apply Ia.miss; assumption)
      | (apply rt_is; exact rfl) | (apply rt_do; exact rfl; (repeat (first | exact List.nil_sublist _ | apply List.Sublist.cons_cons))) | (apply iv; assumption)
      | (apply dw_q mixed hC hGL (by kernel_rfl))
      | (apply cq; assumption; (first | fail); exact rfl))
  all_goals (try conv => whnf)
  refine lp hC hGL (fun (x : Nat × Nat) => [(0, .str s), (3, .int .i64 x.2), (4, .int .i64 x.1)]) (fun _ => []) (fun x => x.2 ≤ x.1 ∧ x.1 ≤ s.length + 1 ∧ (x.1 = s.length + 1 → x.2 = s.length + 1) ∧ (∀ j, x.2 ≤ j → j < x.1 → byteAt s j ≠ 45 ∧ lgB (decide (x.2 = 0)) (byteAt s j : Int) = true) ∧ langX s = if x.2 = s.length + 1 then .none else langE (decide (x.2 = 0)) x.2 (splS 45 (s.drop x.2))) (fun x => s.length + 1 - x.1) (0, 0) ?_ (by repeat (first | exact trivial | refine And.intro rfl ?_)) rfl ?_
  · exact ⟨Nat.le_refl _, Nat.zero_le _, fun h => by omega, fun j _ h => absurd h (Nat.not_lt_zero _), by rw [if_neg (by omega)]; rfl⟩
  rintro ⟨i, k⟩ ⟨h1, h2, h3, h4, h5⟩
  dsimp only at h1 h2 h3 h4 h5 ⊢
  by_cases hi : i < s.length
  · have hN := hN i hi
    rw [isS_one hi] at hN
    have hE := fun h => lang_end h1 (by omega) h4 (.inr h) _ rfl
    have hB := fun hc hb => lang_bad h1 hi h4 hc hb _ rfl
    rw [if_neg (by omega)] at h5
    repeat' (first
      | (conv => whnf); first
        | (apply ch_l; apply sp_i; first | exact rfl | omega | exact ⟨rfl, rfl, by omega⟩ | exact ⟨rfl, by omega⟩ | exact ⟨rfl, by omega, by omega, by omega⟩ | exact ⟨⟨_, rfl⟩, by omega⟩ | exact ⟨⟨_, rfl⟩, by omega, by omega⟩ | decide | (simp only [List.length_drop, List.length_take, List.length_append, List.length_set, List.length_cons, List.length_nil, OrOk] at *; omega) | (simp; omega))
        | (apply sp_i; first | exact rfl | omega | exact ⟨rfl, rfl, by omega⟩ | exact ⟨rfl, by omega⟩ | exact ⟨rfl, by omega, by omega, by omega⟩ | exact ⟨⟨_, rfl⟩, by omega⟩ | exact ⟨⟨_, rfl⟩, by omega, by omega⟩ | decide | (simp only [List.length_drop, List.length_take, List.length_append, List.length_set, List.length_cons, List.length_nil, OrOk] at *; omega) | (simp; omega))
        | (apply sc_true) | (apply sc_false)
        | (first | apply sc_lt | apply sc_nlt | apply sc_eq | apply sc_neq | apply sc_nil | apply sc_nnil | apply sc_seq | apply sc_nseq); all_goals (intro hb; try (first | (exfalso; omega) | exact absurd rfl hb | exact absurd hb (by decide) | exact absurd hb (by assumption) | exact absurd (by assumption) hb | (exfalso; simp only [List.length_cons, List.length_nil, List.length_append] at hb; omega)))
        | (apply sc_not) | (apply sc_or) | (apply sc_i; all_goals intro hb)
        | (first | apply ix_nat | apply ix_int); first | omega | (simp only [List.length_drop, List.length_take, List.length_append, List.length_set, List.length_cons, List.length_nil] at *; omega)
        | (apply bx_i; intro hbd)
        | (first | apply sd_nat | apply sd_int | apply sl_nat | apply sl_int); first | omega | (simp only [List.length_drop, List.length_take, List.length_append, List.length_set, List.length_cons, List.length_nil] at *; omega)
        | (apply cx_is; first | exact hN) | (apply cx_do (i := 0) rfl; first | exact hN)
        | (apply ab_i; intro bl) | (apply as_i; intro va vk vc) | (apply av_i; intro v) | (apply ac_i; intro bl cap hcap)
        | (apply bo_l) | (apply ch_r; apply sp_i; intro i hi; exact ⟨rfl, rfl, rfl⟩) | (apply nx_i; all_goals intro hnx)
        | (apply Ia.hit; assumption) | (apply Ia.miss; assumption)
        | (apply rt_is; exact rfl) | (apply rt_do; exact rfl; (repeat (first | exact List.nil_sublist _ | apply List.Sublist.cons_cons))) | (apply iv; assumption)
        | (apply dw_q mixed hC hGL (by kernel_rfl))
        | (apply cq; assumption; (first | exact hN); exact rfl))
    all_goals (try conv => whnf)
    · apply rt_is
      rw [h5, hB (by omega) (lgB_f.2 (.inr ⟨by simp; omega, by omega⟩))]
      rfl
    · refine nxt (i + 1, k) ?_ ?_ (by repeat (first | exact trivial | refine And.intro rfl ?_)) rfl
      · refine ⟨by omega, by omega, fun h => by omega, fun j g1 g2 => ?_, by rw [if_neg (by omega)]; exact h5⟩
        by_cases g : j = i
        · subst g; exact ⟨by omega, lgB_t.2 ⟨by assumption, fun _ => by omega⟩⟩
        · exact h4 j g1 (by omega)
      · dsimp only; omega
    · refine nxt (i + 1, k) ?_ ?_ (by repeat (first | exact trivial | refine And.intro rfl ?_)) rfl
      · refine ⟨by omega, by omega, fun h => by omega, fun j g1 g2 => ?_, by rw [if_neg (by omega)]; exact h5⟩
        by_cases g : j = i
        · subst g; exact ⟨by omega, lgB_t.2 ⟨by assumption, fun h => by simp at h; omega⟩⟩
        · exact h4 j g1 (by omega)
      · dsimp only; omega
    · apply rt_is
      rw [h5, hB (by omega) (lgB_f.2 (.inl hb))]
      rfl
    · apply rt_is
      have hE := hE (by omega)
      obtain rfl : i = k := by omega
      rw [h5, hE, if_pos rfl]
      rfl
    · apply rt_is
      have hE := hE (by omega)
      rw [h5, hE, if_neg (by omega), if_pos (by omega)]
      rfl
    · have hE := hE (by omega)
      rw [if_neg (by omega), if_neg (by omega)] at hE
      refine nxt (i + 1, i + 1) ?_ ?_ (by repeat (first | exact trivial | refine And.intro rfl ?_)) rfl
      · refine ⟨Nat.le_refl _, by omega, fun _ => by omega, fun j g1 g2 => by omega, ?_⟩
        rw [h5, hE]
        dsimp only
        by_cases g : i = s.length
        · rw [if_pos g, if_pos (by omega)]
        · rw [if_neg g, if_neg (by omega)]
          simp
      · dsimp only; omega
  · have hE := fun h => lang_end h1 h h4 (.inl (by omega)) _ rfl
    repeat' (first
      | (conv => whnf); first
        | (apply ch_l; apply sp_i; first | exact rfl | omega | exact ⟨rfl, rfl, by omega⟩ | exact ⟨rfl, by omega⟩ | exact ⟨rfl, by omega, by omega, by omega⟩ | exact ⟨⟨_, rfl⟩, by omega⟩ | exact ⟨⟨_, rfl⟩, by omega, by omega⟩ | decide | (simp only [List.length_drop, List.length_take, List.length_append, List.length_set, List.length_cons, List.length_nil, OrOk] at *; omega) | (simp; omega))
        | (apply sp_i; first | exact rfl | omega | exact ⟨rfl, rfl, by omega⟩ | exact ⟨rfl, by omega⟩ | exact ⟨rfl, by omega, by omega, by omega⟩ | exact ⟨⟨_, rfl⟩, by omega⟩ | exact ⟨⟨_, rfl⟩, by omega, by omega⟩ | decide | (simp only [List.length_drop, List.length_take, List.length_append, List.length_set, List.length_cons, List.length_nil, OrOk] at *; omega) | (simp; omega))
        | (apply sc_true) | (apply sc_false)
        | (first | apply sc_lt | apply sc_nlt | apply sc_eq | apply sc_neq | apply sc_nil | apply sc_nnil | apply sc_seq | apply sc_nseq); all_goals (intro hb; try (first | (exfalso; omega) | exact absurd rfl hb | exact absurd hb (by decide) | exact absurd hb (by assumption) | exact absurd (by assumption) hb | (exfalso; simp only [List.length_cons, List.length_nil, List.length_append] at hb; omega)))
        | (apply sc_not) | (apply sc_or) | (apply sc_i; all_goals intro hb)
        | (first | apply ix_nat | apply ix_int); first | omega | (simp only [List.length_drop, List.length_take, List.length_append, List.length_set, List.length_cons, List.length_nil] at *; omega)
        | (apply bx_i; intro hbd)
        | (first | apply sd_nat | apply sd_int | apply sl_nat | apply sl_int); first | omega | (simp only [List.length_drop, List.length_take, List.length_append, List.length_set, List.length_cons, List.length_nil] at *; omega)
        | (apply cx_is; first | fail) | (apply cx_do (i := 0) rfl; first | fail)
        | (apply ab_i; intro bl) | (apply as_i; intro va vk vc) | (apply av_i; intro v) | (apply ac_i; intro bl cap hcap)
        | (apply bo_l) | (apply ch_r; apply sp_i; intro i hi; exact ⟨rfl, rfl, rfl⟩) | (apply nx_i; all_goals intro hnx)
        | (apply Ia.hit; assumption) | (apply Ia.miss; assumption)
        | (apply rt_is; exact rfl) | (apply rt_do; exact rfl; (repeat (first | exact List.nil_sublist _ | apply List.Sublist.cons_cons))) | (apply iv; assumption)
        | (apply dw_q mixed hC hGL (by kernel_rfl))
        | (apply cq; assumption; (first | fail); exact rfl))
    all_goals (try conv => whnf)
    · apply rt_is
      have hE := hE (by omega)
      rw [if_neg (by omega)] at h5
      obtain rfl : i = k := by omega
      rw [h5, hE, if_pos rfl]
      rfl
    · apply rt_is
      have hE := hE (by omega)
      rw [if_neg (by omega)] at h5
      rw [h5, hE, if_neg (by omega), if_pos (by omega)]
      rfl
    · have hE := hE (by omega)
      rw [if_neg (by omega)] at h5
      rw [if_neg (by omega), if_neg (by omega)] at hE
      refine nxt (i + 1, i + 1) ?_ ?_ (by repeat (first | exact trivial | refine And.intro rfl ?_)) rfl
      · refine ⟨Nat.le_refl _, by omega, fun _ => by omega, fun j g1 g2 => by omega, ?_⟩
        rw [h5, hE]
        dsimp only
        by_cases g : i = s.length
        · rw [if_pos g, if_pos (by omega)]
        · rw [if_neg g, if_neg (by omega)]
          simp
      · dsimp only; omega
    · apply rt_is
      rw [h5, if_pos (h3 (by omega))]
      rfl
end Go.Proofs.YtlmihggafbmkaaaDoor
