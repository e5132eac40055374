/- strings.IndexAny at two bytes below 128, in any text. -/
import Derived.Test.YtlmihggafbmkaaaDoorBw
import Derived.Test.YtlmihggafbmkaaaDoorShelf
import Derived.Lib.IndexAny
namespace Go.Proofs.YtlmihggafbmkaaaDoor
open Go Go.RowKit
/-- The bytes of a first rune. -/
theorem nextS_bytes (t : List UInt8) (h : (nextS t).2 ≠ 0) : ((nextS t).1 < 128 → (nextS t).2 = 1 ∧ byteAt t 0 = (nextS t).1) ∧ (128 ≤ (nextS t).1 → ∀ j, j < (nextS t).2 → 128 ≤ byteAt t j) ∧ mayZ (nextS t).1 = true := by
  have hb := byteAt_lt t 0
  rw [mayZ_t]
  revert h
  unfold nextS
  repeat' split
  all_goals (intro h; try (exact absurd rfl h))
  all_goals (simp only [contAt, mayN, Bool.and_eq_true, Bool.or_eq_true, decide_eq_true_eq, beq_iff_eq] at *)
  · refine ⟨fun _ => by simp, fun h => by omega, by omega⟩
  · refine ⟨fun h => by omega, fun _ j hj => ?_, by omega⟩
    obtain rfl | rfl : j = 0 ∨ j = 1 := by omega
    all_goals omega
  · refine ⟨fun h => by omega, fun _ j hj => ?_, by omega⟩
    obtain rfl | rfl | rfl : j = 0 ∨ j = 1 ∨ j = 2 := by omega
    all_goals omega
  · refine ⟨fun h => by omega, fun _ j hj => ?_, by omega⟩
    obtain rfl | rfl | rfl | rfl : j = 0 ∨ j = 1 ∨ j = 2 ∨ j = 3 := by omega
    all_goals omega
/-- The byte at which no rune begins. -/
theorem nextS_none (t : List UInt8) (h : (nextS t).2 = 0) (h0 : t.length ≠ 0) : 128 ≤ byteAt t 0 := by
  rcases Nat.lt_or_ge (byteAt t 0) 128 with h1 | h1
  · exfalso
    revert h
    unfold nextS
    rw [if_neg h0, if_pos h1]
    simp
  · exact h1
theorem two_has {a b : UInt8} (x : UInt8) : ([a, b] : List UInt8).contains x = true ↔ (x.toNat = a.toNat ∨ x.toNat = b.toNat) := by
  simp only [List.contains_cons, List.contains_nil, Bool.or_false, Bool.or_eq_true, beq_iff_eq]
  exact ⟨fun h => h.imp (fun h => by rw [h]) (fun h => by rw [h]), fun h => h.imp UInt8.toNat_inj.1 UInt8.toNat_inj.1⟩
theorem two_not {a b : UInt8} {x : UInt8} (h : x.toNat ≠ a.toNat ∧ x.toNat ≠ b.toNat) : ([a, b] : List UInt8).contains x = false := by
  cases hc : ([a, b] : List UInt8).contains x with
  | false => rfl
  | true => rcases (two_has x).1 hc with h1 | h1; exact absurd h1 h.1; exact absurd h1 h.2
theorem get_of_byteAt {s : List UInt8} {i : Nat} {x : UInt8} (h : s[i]? = some x) : x.toNat = byteAt s i := by simp [byteAt, List.getD, h]
set_option maxRecDepth 20000
set_option maxHeartbeats 4000000
set_option linter.unusedSimpArgs false
set_option linter.unusedVariables false
attribute [local irreducible] AWp AOps byteAt SrcOK OrOk GloAll FnSpec
attribute [local irreducible] nextS badI badS stepS cutS rngR ownB mayZ
theorem should_set {G : Glo} (n : Int) : FnIs Tryd.prog G 112 [.int .i64 n] (.bool (ltB 8 n)) := by
  have hGL : GloAll G [] := gloAll_nil
  refine fn_x Tryd.func112 Tryd.call112 rfl rfl rfl rfl hGL ?_
  intro C hC
  repeat' (first
    | (conv => whnf); first
      | (apply ch_l; apply sp_i; first | exact rfl | omega | exact ⟨rfl, rfl, by omega⟩ | exact ⟨rfl, by omega⟩ | exact ⟨rfl, by omega, by omega, by omega⟩ | exact ⟨⟨_, rfl⟩, by omega⟩ | exact ⟨⟨_, rfl⟩, by omega, by omega⟩ | decide | (simp only [List.length_drop, List.length_take, List.length_append, List.length_set, List.length_cons, List.length_nil, OrOk] at *; omega) | (simp; omega))
      | (apply sp_i; first | exact rfl | omega | exact ⟨rfl, rfl, by omega⟩ | exact ⟨rfl, by omega⟩ | exact ⟨rfl, by omega, by omega, by omega⟩ | exact ⟨⟨_, rfl⟩, by omega⟩ | exact ⟨⟨_, rfl⟩, by omega, by omega⟩ | decide | (simp only [List.length_drop, List.length_take, List.length_append, List.length_set, List.length_cons, List.length_nil, OrOk] at *; omega) | (simp; omega))
      | (apply sc_true) | (apply sc_false)
      | (first | apply sc_lt | apply sc_nlt | apply sc_eq | apply sc_neq | apply sc_nil | apply sc_nnil | apply sc_seq | apply sc_nseq); all_goals (intro hb; try (first | (exfalso; omega) | exact absurd rfl hb | exact absurd hb (by decide) | exact absurd hb (by assumption) | exact absurd (by assumption) hb | (exfalso; simp only [List.length_cons, List.length_nil, List.length_append] at hb; omega)))
      | (apply sc_not) | (apply sc_or) | (apply sc_i; all_goals intro hb)
      | (first | apply ix_nat | apply ix_int); first | omega | (simp only [List.length_drop, List.length_take, List.length_append, List.length_set, List.length_cons, List.length_nil] at *; omega)
      | (apply bx_i; intro hbd)
      | (first | apply sd_nat | apply sd_int | apply sl_nat | apply sl_int); first | omega | (simp only [List.length_drop, List.length_take, List.length_append, List.length_set, List.length_cons, List.length_nil] at *; omega)
      | (apply cx_is; first | fail) | (apply cx_do (i := 0) rfl; first | fail)
      | (apply ab_i; intro bl) | (apply as_i; intro va vk vc hva) | (apply av_i; intro v) | (apply ac_i; intro bl cap hcap)
      | (apply bo_l) | (apply ch_r; apply sp_i; intro i hi; exact ⟨rfl, rfl, rfl⟩) | (apply nx_i; all_goals intro hnx)
      | (apply Ia.hit; assumption) | (apply Ia.miss; assumption)
      | (apply rt_is; exact rfl) | (apply rt_do; exact rfl; (repeat (first | exact List.nil_sublist _ | apply List.Sublist.cons_cons))) | (apply iv; assumption)
      | (apply dw_q mixed hC hGL (by kernel_rfl))
      | (apply cq; assumption; (first | fail); exact rfl))
  all_goals (try conv => whnf)
theorem idx_two {a b : UInt8} (r : Int) : (0 ≤ idxB [a, b] r ↔ r = a.toNat ∨ r = b.toNat) := by
  unfold idxB
  simp only [idxF]
  split
  · omega
  · split <;> omega
theorem indexRune_any {G : Glo} {a b : UInt8} (ha : a.toNat < 128) (hb' : b.toNat < 128) (r : Int) (hv : mayZ r = true) : ∃ z : Int, FnIs Tryd.prog G 111 [.str [a, b], .int .i32 r] (.int .i64 z) ∧ (0 ≤ z ↔ r = a.toNat ∨ r = b.toNat) := by
  have hm := hv
  rw [mayZ_t] at hm
  by_cases h1 : r < 128
  · exact ⟨_, indexRune_lo r hm.1 h1, idx_two r⟩
  · by_cases h2 : r = 65533
    · subst h2; exact ⟨-1, indexRune_rep ha hb', by omega⟩
    · exact ⟨-1, indexRune_hi ha hb' r (by omega) hv h2, by omega⟩
/-- What a round over a text takes. -/
theorem rng_round (t : List UInt8) (h0 : t.length ≠ 0) : mayZ (rngR t : Int) = true ∧ 0 < stepS t ∧ stepS t ≤ t.length ∧ ((rngR t : Int) < 128 → stepS t = 1 ∧ (byteAt t 0 : Int) = rngR t) ∧ (128 ≤ (rngR t : Int) → ∀ j, j < stepS t → 128 ≤ byteAt t j) := by
  have hle := nextS_le t
  by_cases hn : (nextS t).2 = 0
  · have h1 := nextS_none t hn h0
    unfold rngR stepS
    rw [if_pos hn, if_pos hn]
    refine ⟨by rw [mayZ_t]; omega, by omega, by omega, fun h => by omega, fun _ j hj => by rw [show j = 0 by omega]; exact h1⟩
  · have h1 := nextS_bytes t hn
    unfold rngR stepS
    rw [if_neg hn, if_neg hn]
    refine ⟨h1.2.2, by omega, hle.1, fun h => ?_, fun h => h1.2.1 (by omega)⟩
    have := h1.1 (by omega)
    omega
theorem indexAny_short {G : Glo} {a b : UInt8} (ha : a.toNat < 128) (hb' : b.toNat < 128) (s : List UInt8) (hl : s.length ≤ 8) : FnIs Tryd.prog G 67 [.str s, .str [a, b]] (.int .i64 (Lib.indexAny s [a, b])) := by
  have hGL : GloAll G [] := gloAll_nil
  refine fn_x Tryd.func67 Tryd.call67 rfl rfl rfl rfl hGL ?_
  intro C hC
  have hS := should_set (G := G) s.length
  have hlen2 : ([a, b] : List UInt8).length = 2 := rfl
  repeat' (first
    | (conv => whnf); first
      | (apply ch_l; apply sp_i; first | exact rfl | omega | exact ⟨rfl, rfl, by omega⟩ | exact ⟨rfl, by omega⟩ | exact ⟨rfl, by omega, by omega, by omega⟩ | exact ⟨⟨_, rfl⟩, by omega⟩ | exact ⟨⟨_, rfl⟩, by omega, by omega⟩ | decide | (simp only [List.length_drop, List.length_take, List.length_append, List.length_set, List.length_cons, List.length_nil, OrOk] at *; omega) | (simp; omega))
      | (apply sp_i; first | exact rfl | omega | exact ⟨rfl, rfl, by omega⟩ | exact ⟨rfl, by omega⟩ | exact ⟨rfl, by omega, by omega, by omega⟩ | exact ⟨⟨_, rfl⟩, by omega⟩ | exact ⟨⟨_, rfl⟩, by omega, by omega⟩ | decide | (simp only [List.length_drop, List.length_take, List.length_append, List.length_set, List.length_cons, List.length_nil, OrOk] at *; omega) | (simp; omega))
      | (apply sc_true) | (apply sc_false)
      | (first | apply sc_lt | apply sc_nlt | apply sc_eq | apply sc_neq | apply sc_nil | apply sc_nnil | apply sc_seq | apply sc_nseq); all_goals (intro hb; try (first | (exfalso; omega) | exact absurd rfl hb | exact absurd hb (by decide) | exact absurd hb (by assumption) | exact absurd (by assumption) hb | (exfalso; simp only [List.length_cons, List.length_nil, List.length_append] at hb; omega)))
      | (apply sc_not) | (apply sc_or) | (apply sc_i; all_goals intro hb)
      | (first | apply ix_nat | apply ix_int); first | omega | (simp only [List.length_drop, List.length_take, List.length_append, List.length_set, List.length_cons, List.length_nil] at *; omega)
      | (apply bx_i; intro hbd)
      | (first | apply sd_nat | apply sd_int | apply sl_nat | apply sl_int); first | omega | (simp only [List.length_drop, List.length_take, List.length_append, List.length_set, List.length_cons, List.length_nil] at *; omega)
      | (apply cx_is; first | exact hS) | (apply cx_do (i := 0) rfl; first | exact hS)
      | (apply ab_i; intro bl) | (apply as_i; intro va vk vc hva) | (apply av_i; intro v) | (apply ac_i; intro bl cap hcap)
      | (apply bo_l) | (apply ch_r; apply sp_i; intro i hi; exact ⟨rfl, rfl, rfl⟩) | (apply nx_i; all_goals intro hnx)
      | (apply Ia.hit; assumption) | (apply Ia.miss; assumption)
      | (apply rt_is; exact rfl) | (apply rt_do; exact rfl; (repeat (first | exact List.nil_sublist _ | apply List.Sublist.cons_cons))) | (apply iv; assumption)
      | (apply dw_q mixed hC hGL (by kernel_rfl))
      | (apply cq; assumption; (first | exact hS); exact rfl))
  all_goals (try conv => whnf)
  refine lp hC hGL (fun (i : Nat) => [(1, .str [a, b]), (45, .own 0 (.pointer (some ⟨bl, 0, none⟩)))]) (fun i => [.iter bl s i]) (fun i => i ≤ s.length ∧ Lib.NoAny s [a, b] i) (fun i => s.length - i) 0 ?_ (by repeat (first | exact trivial | refine And.intro rfl ?_)) rfl ?_
  · exact ⟨Nat.zero_le _, Lib.NoAny.zero _ _⟩
  rintro i ⟨hi, hno⟩
  have hz := fun (h : i < s.length) => rng_round (s.drop i) (by rw [List.length_drop]; omega)
  have hR : ∃ z : Int, i < s.length → FnIs Tryd.prog G 111 [.str [a, b], .int .i32 (rngR (s.drop i))] (.int .i64 z) ∧ (0 ≤ z ↔ (rngR (s.drop i) : Int) = a.toNat ∨ (rngR (s.drop i) : Int) = b.toNat) := by
    by_cases h : i < s.length
    · obtain ⟨z, h1, h2⟩ := indexRune_any (G := G) ha hb' (rngR (s.drop i)) (hz h).1
      exact ⟨z, fun _ => ⟨h1, h2⟩⟩
    · exact ⟨0, fun h' => absurd h' h⟩
  obtain ⟨z, hR⟩ := hR
  repeat' (first
    | (conv => whnf); first
      | (apply ch_l; apply sp_i; first | exact rfl | omega | exact ⟨rfl, rfl, by omega⟩ | exact ⟨rfl, by omega⟩ | exact ⟨rfl, by omega, by omega, by omega⟩ | exact ⟨⟨_, rfl⟩, by omega⟩ | exact ⟨⟨_, rfl⟩, by omega, by omega⟩ | decide | (simp only [List.length_drop, List.length_take, List.length_append, List.length_set, List.length_cons, List.length_nil, OrOk] at *; omega) | (simp; omega))
      | (apply sp_i; first | exact rfl | omega | exact ⟨rfl, rfl, by omega⟩ | exact ⟨rfl, by omega⟩ | exact ⟨rfl, by omega, by omega, by omega⟩ | exact ⟨⟨_, rfl⟩, by omega⟩ | exact ⟨⟨_, rfl⟩, by omega, by omega⟩ | decide | (simp only [List.length_drop, List.length_take, List.length_append, List.length_set, List.length_cons, List.length_nil, OrOk] at *; omega) | (simp; omega))
      | (apply sc_true) | (apply sc_false)
      | (first | apply sc_lt | apply sc_nlt | apply sc_eq | apply sc_neq | apply sc_nil | apply sc_nnil | apply sc_seq | apply sc_nseq); all_goals (intro hb; try (first | (exfalso; omega) | exact absurd rfl hb | exact absurd hb (by decide) | exact absurd hb (by assumption) | exact absurd (by assumption) hb | (exfalso; simp only [List.length_cons, List.length_nil, List.length_append] at hb; omega)))
      | (apply sc_not) | (apply sc_or) | (apply sc_i; all_goals intro hb)
      | (first | apply ix_nat | apply ix_int); first | omega | (simp only [List.length_drop, List.length_take, List.length_append, List.length_set, List.length_cons, List.length_nil] at *; omega)
      | (apply bx_i; intro hbd)
      | (first | apply sd_nat | apply sd_int | apply sl_nat | apply sl_int); first | omega | (simp only [List.length_drop, List.length_take, List.length_append, List.length_set, List.length_cons, List.length_nil] at *; omega)
      | (apply cx_is; first | exact (hR (by omega)).1) | (apply cx_do (i := 0) rfl; first | exact (hR (by omega)).1)
      | (apply ab_i; intro bl) | (apply as_i; intro va vk vc hva) | (apply av_i; intro v) | (apply ac_i; intro bl cap hcap)
      | (apply bo_l) | (apply ch_r; apply sp_i; intro i hi; exact ⟨rfl, rfl, rfl⟩) | (apply nx_i; all_goals intro hnx)
      | (apply Ia.hit; assumption) | (apply Ia.miss; assumption)
      | (apply rt_is; exact rfl) | (apply rt_do; exact rfl; (repeat (first | exact List.nil_sublist _ | apply List.Sublist.cons_cons))) | (apply iv; assumption)
      | (apply dw_q mixed hC hGL (by kernel_rfl))
      | (apply cq; assumption; (first | exact (hR (by omega)).1); exact rfl))
  all_goals (try conv => whnf)
  · obtain ⟨z1, z2, z3, z4, z5⟩ := hz hnx
    have hr := (hR hnx).2.1 hb
    have h1 := z4 (by omega)
    have hx : s[i]? = some s[i] := List.getElem?_eq_getElem hnx
    have h2 := get_of_byteAt hx
    rw [drop_byteAt, Nat.add_zero] at h1
    refine rt_is ?_
    rw [Lib.indexAny_hit hno hx ((two_has _).2 (by omega))]
  · obtain ⟨z1, z2, z3, z4, z5⟩ := hz hnx
    rw [List.length_drop] at z3
    have hr : ¬ ((rngR (s.drop i) : Int) = a.toNat ∨ (rngR (s.drop i) : Int) = b.toNat) := fun h => by have := (hR hnx).2.2 h; omega
    refine nxt (i + stepS (s.drop i)) ⟨by omega, ?_⟩ (by omega) ⟨rfl, rfl, trivial⟩ rfl
    intro j x hj hx
    by_cases h : j < i
    · exact hno j x h hx
    · have h2 := get_of_byteAt hx
      apply two_not
      by_cases h128 : (rngR (s.drop i) : Int) < 128
      · have h3 := z4 h128
        rw [drop_byteAt, Nat.add_zero] at h3
        have : j = i := by omega
        subst this
        omega
      · have h3 := z5 (by omega) (j - i) (by omega)
        rw [drop_byteAt, show i + (j - i) = j by omega] at h3
        omega
  · have : i = s.length := by omega
    subst this
    refine rt_is ?_
    rw [Lib.indexAny_none hno]
    rfl
theorem indexAny_long {G : Glo} {a b : UInt8} (ha : a.toNat < 128) (hb' : b.toNat < 128) (s : List UInt8) (h8 : 8 < s.length) (hl : s.length < 100000) : FnIs Tryd.prog G 67 [.str s, .str [a, b]] (.int .i64 (Lib.indexAny s [a, b])) := by
  refine fnis_of_calls rfl Tryd.call67 ?_
  rintro R args ⟨x, t, e, hx, y, t', e', hy, rfl⟩ w _ _
  obtain rfl := rel_str.1 hx
  obtain rfl := rel_str.1 hy
  subst e'
  obtain rfl := arr_of e
  refine (Tryd.strings_IndexAny_long (fun w => by kernel_rfl) ⟨s.toArray⟩ ⟨#[a, b]⟩ w (by show 2 ≤ 2; omega) (by rw [str_size]; exact h8) (by rw [str_size]; omega) (by show 2 < 4294967281; omega) ?_).mono ?_
  · intro j x hx
    match j with
    | 0 => cases hx; exact ha
    | 1 => cases hx; exact hb'
    | j + 2 => simp at hx
  · rintro e w' ⟨rfl, rfl⟩
    exact ⟨rfl, ((Below.refl w.heap.size w).alloc (Nat.le_refl _) _).alloc (by show w.heap.size ≤ (w.heap.push _).size; simp) _⟩
theorem indexAny_two {G : Glo} {a b : UInt8} (ha : a.toNat < 128) (hb' : b.toNat < 128) (s : List UInt8) (hl : s.length < 100000) : FnIs Tryd.prog G 67 [.str s, .str [a, b]] (.int .i64 (Lib.indexAny s [a, b])) := by
  by_cases h : s.length ≤ 8
  · exact indexAny_short ha hb' s h
  · exact indexAny_long ha hb' s (by omega) hl
end Go.Proofs.YtlmihggafbmkaaaDoor
