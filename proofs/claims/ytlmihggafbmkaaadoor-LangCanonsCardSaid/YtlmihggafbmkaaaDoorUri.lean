/- Package uri's schemes, and the reference's answers of 10.1. -/
import Derived.Test.YtlmihggafbmkaaaDoorNamr
import Derived.Test.YtlmihggafbmkaaaDoorTelb
namespace Go.Proofs.YtlmihggafbmkaaaDoor
open Go
theorem idxF_spec {c : Int} : ∀ (t : List UInt8) (k : Nat), (idxF c t k = -1 ∧ ∀ j, j < t.length → (byteAt t j : Int) ≠ c) ∨ ∃ m, m < t.length ∧ idxF c t k = ((k + m : Nat) : Int) ∧ (byteAt t m : Int) = c ∧ ∀ j, j < m → (byteAt t j : Int) ≠ c
  | [], _ => .inl ⟨rfl, fun j h => absurd h (Nat.not_lt_zero _)⟩
  | x :: t, k => by
    by_cases e : (x.toNat : Int) = c
    · refine .inr ⟨0, by simp, by simp [idxF, e], by simpa [byteAt] using e, fun j h => absurd h (Nat.not_lt_zero _)⟩
    · have e1 : idxF c (x :: t) k = idxF c t (k + 1) := by simp [idxF, e]
      have h0 : ∀ {p : Prop}, (∀ j, j < t.length → (byteAt t j : Int) ≠ c) → ∀ j, j < (x :: t).length → (byteAt (x :: t) j : Int) ≠ c := by
        intro _ h j hj
        cases j with
        | zero => simpa [byteAt] using e
        | succ j => simpa [byteAt] using h j (by simpa using hj)
      rcases idxF_spec (c := c) t (k + 1) with ⟨h1, h2⟩ | ⟨m, h1, h2, h3, h4⟩
      · exact .inl ⟨by rw [e1, h1], h0 (p := True) h2⟩
      · refine .inr ⟨m + 1, by simpa using h1, by rw [e1, h2]; omega, by simpa [byteAt] using h3, fun j hj => ?_⟩
        cases j with
        | zero => simpa [byteAt] using e
        | succ j => simpa [byteAt] using h4 j (by omega)
/-- Where a byte stands first, told by what stands there. -/
theorem idxB_at {s : List UInt8} {c : Int} {i : Nat} (hi : i < s.length) (h : (byteAt s i : Int) = c) (h0 : ∀ j, j < i → (byteAt s j : Int) ≠ c) : idxB s c = i := by
  rcases idxF_spec (c := c) s 0 with ⟨h1, h2⟩ | ⟨m, h1, h2, h3, h4⟩
  · exact absurd h (h2 i hi)
  · unfold idxB
    rw [h2]
    have : m = i := by
      rcases Nat.lt_trichotomy m i with h5 | h5 | h5
      · exact absurd h3 (h0 m h5)
      · exact h5
      · exact absurd h (h4 i h5)
    omega
theorem idxB_none {s : List UInt8} {c : Int} (h0 : ∀ j, j < s.length → (byteAt s j : Int) ≠ c) : idxB s c = -1 := by
  rcases idxF_spec (c := c) s 0 with ⟨h1, h2⟩ | ⟨m, h1, h2, h3, h4⟩
  · exact h1
  · exact absurd h3 (h0 m h1)
theorem idxB_cases (s : List UInt8) (c : Int) : (idxB s c = -1 ∧ ∀ j, j < s.length → (byteAt s j : Int) ≠ c) ∨ ∃ m, m < s.length ∧ idxB s c = (m : Int) ∧ (byteAt s m : Int) = c ∧ ∀ j, j < m → (byteAt s j : Int) ≠ c := by
  rcases idxF_spec (c := c) s 0 with h | ⟨m, h1, h2, h3⟩
  · exact .inl h
  · exact .inr ⟨m, h1, by unfold idxB; rw [h2]; omega, h3⟩
/-- A byte that may stand in a scheme, at a place. -/
def schB (i : Nat) (c : Int) : Bool := decide ((97 ≤ c ∧ c ≤ 122) ∨ (65 ≤ c ∧ c ≤ 90) ∨ (0 < i ∧ ((48 ≤ c ∧ c ≤ 57) ∨ c = 43 ∨ c = 45 ∨ c = 46)))
theorem schB_t {i : Nat} {c : Int} : schB i c = true ↔ ((97 ≤ c ∧ c ≤ 122) ∨ (65 ≤ c ∧ c ≤ 90) ∨ (0 < i ∧ ((48 ≤ c ∧ c ≤ 57) ∨ c = 43 ∨ c = 45 ∨ c = 46))) := by simp [schB]
theorem schB_f {i : Nat} {c : Int} : schB i c = false ↔ ¬ ((97 ≤ c ∧ c ≤ 122) ∨ (65 ≤ c ∧ c ≤ 90) ∨ (0 < i ∧ ((48 ≤ c ∧ c ≤ 57) ∨ c = 43 ∨ c = 45 ∨ c = 46))) := by simp [schB]
/-- How many bytes the scheme has. -/
def begN (s : List UInt8) : Nat := if idxB s 58 < 1 then 0 else if ∀ j, j < (idxB s 58).toNat → schB j (byteAt s j) = true then (idxB s 58).toNat else 0
theorem begN_at {s : List UInt8} {i : Nat} (hi : i < s.length) (h : (byteAt s i : Int) = 58) (h0 : ∀ j, j < i → (byteAt s j : Int) ≠ 58 ∧ schB j (byteAt s j) = true) : begN s = i := by
  have e := idxB_at hi h fun j hj => (h0 j hj).1
  unfold begN
  rw [e]
  by_cases h1 : (i : Int) < 1
  · rw [if_pos h1]; omega
  · rw [if_neg h1, if_pos (fun j hj => (h0 j (by omega)).2)]
    omega
theorem begN_bad {s : List UInt8} {i : Nat} (hi : i < s.length) (h : (byteAt s i : Int) ≠ 58) (hb : schB i (byteAt s i) = false) (h0 : ∀ j, j < i → (byteAt s j : Int) ≠ 58 ∧ schB j (byteAt s j) = true) : begN s = 0 := by
  rcases idxB_cases s 58 with ⟨h1, _⟩ | ⟨m, h1, h2, h3, h4⟩
  · unfold begN; rw [h1]; rfl
  · have : i < m := by
      rcases Nat.lt_trichotomy m i with h5 | h5 | h5
      · exact absurd h3 (h0 m h5).1
      · subst h5; exact absurd h3 h
      · exact h5
    unfold begN
    rw [h2]
    split
    · rfl
    · rw [if_neg]
      intro hh
      have := hh i (by omega)
      rw [hb] at this
      cases this
theorem begN_none {s : List UInt8} (h0 : ∀ j, j < s.length → (byteAt s j : Int) ≠ 58) : begN s = 0 := by
  unfold begN; rw [idxB_none h0]; rfl
theorem begN_lt {s : List UInt8} (h : begN s ≠ 0) : begN s < s.length ∧ byteAt s (begN s) = 58 ∧ idxB s 58 = begN s := by
  rcases idxB_cases s 58 with ⟨h1, _⟩ | ⟨m, h1, h2, h3, h4⟩
  · unfold begN at h; rw [h1] at h; exact absurd rfl h
  · have e : begN s = m := by
      unfold begN at *
      generalize idxB s 58 = z at *
      subst h2
      by_cases e1 : (m : Int) < 1
      · rw [if_pos e1] at h; exact absurd rfl h
      · rw [if_neg e1] at h ⊢
        by_cases e2 : ∀ j, j < (m : Int).toNat → schB j (byteAt s j) = true
        · rw [if_pos e2]; omega
        · rw [if_neg e2] at h; exact absurd rfl h
    rw [e]
    exact ⟨h1, by omega, h2⟩
set_option maxRecDepth 20000
set_option maxHeartbeats 4000000
set_option linter.unusedSimpArgs false
set_option linter.unusedVariables false
attribute [local irreducible] AWp AOps byteAt SrcOK OrOk GloAll FnSpec
attribute [local irreducible] idxB begN schB
theorem uri_begins {G : Glo} (s : List UInt8) (hl : s.length ≤ 9223372036854775807) : FnIs Tryd.prog G 73 [.str s] (.int .i64 (begN s)) := by
  have hGL : GloAll G [] := gloAll_nil
  refine fn_x Tryd.func73 Tryd.call73 rfl rfl rfl rfl hGL ?_
  intro C hC
  repeat' (first
    | (conv => whnf); first
      | (apply ch_l; apply sp_i; first | exact rfl | omega | exact ⟨rfl, rfl, by omega⟩ | exact ⟨rfl, by omega⟩ | exact ⟨rfl, by omega, by omega, by omega⟩ | decide | (simp only [List.length_drop, List.length_take, List.length_append, List.length_set, List.length_cons, List.length_nil, OrOk] at *; omega) | (simp; omega))
      | (apply sp_i; first | exact rfl | omega | exact ⟨rfl, rfl, by omega⟩ | exact ⟨rfl, by omega⟩ | exact ⟨rfl, by omega, by omega, by omega⟩ | decide | (simp only [List.length_drop, List.length_take, List.length_append, List.length_set, List.length_cons, List.length_nil, OrOk] at *; omega) | (simp; omega))
      | (apply sc_true) | (apply sc_false)
      | (first | apply sc_lt | apply sc_nlt | apply sc_eq | apply sc_neq | apply sc_nil | apply sc_nnil | apply sc_seq | apply sc_nseq); all_goals (intro hb; try (first | (exfalso; omega) | exact absurd rfl hb | exact absurd hb (by decide) | exact absurd hb (by assumption) | exact absurd (by assumption) hb | (exfalso; simp only [List.length_cons, List.length_nil, List.length_append] at hb; omega)))
      | (apply sc_not) | (apply sc_or) | (apply sc_i; all_goals intro hb)
      | (first | apply ix_nat | apply ix_int); first | omega | (simp only [List.length_drop, List.length_take, List.length_append, List.length_set, List.length_cons, List.length_nil] at *; omega)
      | (apply bx_i; intro hbd)
      | (first | apply sd_nat | apply sd_int | apply sl_nat | apply sl_int); first | omega | (simp only [List.length_drop, List.length_take, List.length_append, List.length_set, List.length_cons, List.length_nil] at *; omega)
      | (apply cx_is; first | fail) | (apply cx_do (i := 0) rfl; first | fail)
      | (apply ab_i; intro bl) | (apply as_i; intro va vk vc) | (apply av_i; intro v) | (apply ac_i; intro bl cap hcap)
      | (apply bo_l) | (apply ch_r; apply sp_i; intro i hi; exact ⟨rfl, rfl, rfl⟩) | (apply nx_i; all_goals intro hnx)
      | (apply Ia.hit; assumption) | (apply Ia.miss; assumption)
      | (apply rt_is; exact rfl) | (apply rt_do; exact rfl; (repeat (first | exact List.nil_sublist _ | apply List.Sublist.cons_cons))) | (apply iv; assumption)
      | (apply dw_q mixed hC hGL (by kernel_rfl))
      | (apply cq; assumption; (first | fail); exact rfl))
  all_goals (try conv => whnf)
  refine lp hC hGL (fun (i : Nat) => [(0, .str s), (6, .int .i64 s.length), (7, .int .i64 i)]) (fun _ => []) (fun i => i ≤ s.length ∧ ∀ j, j < i → (byteAt s j : Int) ≠ 58 ∧ schB j (byteAt s j) = true) (fun i => s.length - i) 0 ?_ (by repeat (first | exact trivial | refine And.intro rfl ?_)) rfl ?_
  · exact ⟨Nat.zero_le _, by intro j hj; omega⟩
  rintro i ⟨hi, hb0⟩
  repeat' (first
    | (conv => whnf); first
      | (apply ch_l; apply sp_i; first | exact rfl | omega | exact ⟨rfl, rfl, by omega⟩ | exact ⟨rfl, by omega⟩ | exact ⟨rfl, by omega, by omega, by omega⟩ | decide | (simp only [List.length_drop, List.length_take, List.length_append, List.length_set, List.length_cons, List.length_nil, OrOk] at *; omega) | (simp; omega))
      | (apply sp_i; first | exact rfl | omega | exact ⟨rfl, rfl, by omega⟩ | exact ⟨rfl, by omega⟩ | exact ⟨rfl, by omega, by omega, by omega⟩ | decide | (simp only [List.length_drop, List.length_take, List.length_append, List.length_set, List.length_cons, List.length_nil, OrOk] at *; omega) | (simp; omega))
      | (apply sc_true) | (apply sc_false)
      | (first | apply sc_lt | apply sc_nlt | apply sc_eq | apply sc_neq | apply sc_nil | apply sc_nnil | apply sc_seq | apply sc_nseq); all_goals (intro hb; try (first | (exfalso; omega) | exact absurd rfl hb | exact absurd hb (by decide) | exact absurd hb (by assumption) | exact absurd (by assumption) hb | (exfalso; simp only [List.length_cons, List.length_nil, List.length_append] at hb; omega)))
      | (apply sc_not) | (apply sc_or) | (apply sc_i; all_goals intro hb)
      | (first | apply ix_nat | apply ix_int); first | omega | (simp only [List.length_drop, List.length_take, List.length_append, List.length_set, List.length_cons, List.length_nil] at *; omega)
      | (apply bx_i; intro hbd)
      | (first | apply sd_nat | apply sd_int | apply sl_nat | apply sl_int); first | omega | (simp only [List.length_drop, List.length_take, List.length_append, List.length_set, List.length_cons, List.length_nil] at *; omega)
      | (apply cx_is; first | fail) | (apply cx_do (i := 0) rfl; first | fail)
      | (apply ab_i; intro bl) | (apply as_i; intro va vk vc) | (apply av_i; intro v) | (apply ac_i; intro bl cap hcap)
      | (apply bo_l) | (apply ch_r; apply sp_i; intro i hi; exact ⟨rfl, rfl, rfl⟩) | (apply nx_i; all_goals intro hnx)
      | (apply Ia.hit; assumption) | (apply Ia.miss; assumption)
      | (apply rt_is; exact rfl) | (apply rt_do; exact rfl; (repeat (first | exact List.nil_sublist _ | apply List.Sublist.cons_cons))) | (apply iv; assumption)
      | (apply dw_q mixed hC hGL (by kernel_rfl))
      | (apply cq; assumption; (first | fail); exact rfl))
  all_goals (try conv => whnf)
  all_goals first
    | (apply rt_is; refine congrArg (AVal.int .i64) ?_; rw [begN_at (i := i) (by omega) (by omega) hb0]; first | done | rfl)
    | (apply rt_is; refine congrArg (AVal.int .i64) ?_; rw [begN_bad (i := i) (by omega) (by omega) (schB_f.2 (by omega)) hb0]; first | done | rfl)
    | (apply rt_is; refine congrArg (AVal.int .i64) ?_; rw [begN_none (fun j hj => (hb0 j (by omega)).1)]; first | done | rfl)
    | (refine nxt (i + 1) ?_ ?_ (by repeat (first | exact trivial | refine And.intro rfl ?_)) rfl
       · exact ⟨by omega, below_succ hb0 ⟨by omega, schB_t.2 (by omega)⟩⟩
       · omega)
def schE (s : List UInt8) : Int := if begN s = 0 then 8 else 0
theorem uri_Scheme {G : Glo} (s : List UInt8) (hl : s.length ≤ 9223372036854775807) : FnIs Tryd.prog G 26 [.str s] (.tuple [.str (s.take (begN s)), if begN s = 0 then errA 8 else .raw .nilIface]) := by
  have hGL : GloAll G [] := gloAll_nil
  refine fn_x Tryd.func26 Tryd.call26 rfl rfl rfl rfl hGL ?_
  intro C hC
  have hb0 := uri_begins (G := G) s hl
  have hlt : begN s ≤ s.length := by
    by_cases e : begN s = 0
    · omega
    · have := (begN_lt e).1; omega
  repeat' (first
    | (conv => whnf); first
      | (apply ch_l; apply sp_i; first | exact rfl | omega | exact ⟨rfl, rfl, by omega⟩ | exact ⟨rfl, by omega⟩ | exact ⟨rfl, by omega, by omega, by omega⟩ | decide | (simp only [List.length_drop, List.length_take, List.length_append, List.length_set, List.length_cons, List.length_nil, OrOk] at *; omega) | (simp; omega))
      | (apply sp_i; first | exact rfl | omega | exact ⟨rfl, rfl, by omega⟩ | exact ⟨rfl, by omega⟩ | exact ⟨rfl, by omega, by omega, by omega⟩ | decide | (simp only [List.length_drop, List.length_take, List.length_append, List.length_set, List.length_cons, List.length_nil, OrOk] at *; omega) | (simp; omega))
      | (apply sc_true) | (apply sc_false)
      | (first | apply sc_lt | apply sc_nlt | apply sc_eq | apply sc_neq | apply sc_nil | apply sc_nnil | apply sc_seq | apply sc_nseq); all_goals (intro hb; try (first | (exfalso; omega) | exact absurd rfl hb | exact absurd hb (by decide) | exact absurd hb (by assumption) | exact absurd (by assumption) hb | (exfalso; simp only [List.length_cons, List.length_nil, List.length_append] at hb; omega)))
      | (apply sc_not) | (apply sc_or) | (apply sc_i; all_goals intro hb)
      | (first | apply ix_nat | apply ix_int); first | omega | (simp only [List.length_drop, List.length_take, List.length_append, List.length_set, List.length_cons, List.length_nil] at *; omega)
      | (apply bx_i; intro hbd)
      | (first | apply sd_nat | apply sd_int | apply sl_nat | apply sl_int); first | omega | (simp only [List.length_drop, List.length_take, List.length_append, List.length_set, List.length_cons, List.length_nil] at *; omega)
      | (apply cx_is; first | exact hb0) | (apply cx_do (i := 0) rfl; first | exact hb0)
      | (apply ab_i; intro bl) | (apply as_i; intro va vk vc) | (apply av_i; intro v) | (apply ac_i; intro bl cap hcap)
      | (apply bo_l) | (apply ch_r; apply sp_i; intro i hi; exact ⟨rfl, rfl, rfl⟩) | (apply nx_i; all_goals intro hnx)
      | (apply Ia.hit; assumption) | (apply Ia.miss; assumption)
      | (apply rt_is; exact rfl) | (apply rt_do; exact rfl; (repeat (first | exact List.nil_sublist _ | apply List.Sublist.cons_cons))) | (apply iv; assumption)
      | (apply dw_q mixed hC hGL (by kernel_rfl))
      | (apply cq; assumption; (first | exact hb0); exact rfl))
  all_goals (try conv => whnf)
  · apply rt_is
    rw [show begN s = 0 by omega]
    rfl
  · apply rt_is
    rw [if_neg (by omega)]
    rfl
/-- No byte that may not be seen, from a place on. -/
def graphB (c : Int) : Bool := decide (33 ≤ c ∧ c ≤ 126)
theorem graphB_t {c : Int} : graphB c = true ↔ (33 ≤ c ∧ c ≤ 126) := by simp [graphB]
theorem graphB_f {c : Int} : graphB c = false ↔ ¬ (33 ≤ c ∧ c ≤ 126) := by simp [graphB]
/-- The first byte of which something holds. -/
def fstG (f : Int → Bool) : List UInt8 → Nat → Int
  | [], _ => -1
  | x :: t, k => if f (x.toNat : Int) then k else fstG f t (k + 1)
def fstB (f : Int → Bool) (s : List UInt8) : Int := fstG f s 0
theorem fstG_spec {f : Int → Bool} : ∀ (t : List UInt8) (k : Nat), (fstG f t k = -1 ∧ ∀ j, j < t.length → f (byteAt t j : Int) = false) ∨ ∃ m, m < t.length ∧ fstG f t k = ((k + m : Nat) : Int) ∧ f (byteAt t m : Int) = true ∧ ∀ j, j < m → f (byteAt t j : Int) = false
  | [], _ => .inl ⟨rfl, fun j h => absurd h (Nat.not_lt_zero _)⟩
  | x :: t, k => by
    by_cases e : f (x.toNat : Int) = true
    · refine .inr ⟨0, by simp, by simp [fstG, e], by simpa [byteAt] using e, fun j h => absurd h (Nat.not_lt_zero _)⟩
    · have e1 : fstG f (x :: t) k = fstG f t (k + 1) := by simp [fstG, e]
      rcases fstG_spec (f := f) t (k + 1) with ⟨h1, h2⟩ | ⟨m, h1, h2, h3, h4⟩
      · refine .inl ⟨by rw [e1, h1], fun j hj => ?_⟩
        cases j with
        | zero => simpa [byteAt] using e
        | succ j => simpa [byteAt] using h2 j (by simpa using hj)
      · refine .inr ⟨m + 1, by simpa using h1, by rw [e1, h2]; omega, by simpa [byteAt] using h3, fun j hj => ?_⟩
        cases j with
        | zero => simpa [byteAt] using e
        | succ j => simpa [byteAt] using h4 j (by omega)
theorem fstB_at {f : Int → Bool} {s : List UInt8} {i : Nat} (hi : i < s.length) (h : f (byteAt s i : Int) = true) (h0 : ∀ j, j < i → f (byteAt s j : Int) = false) : fstB f s = i := by
  rcases fstG_spec (f := f) s 0 with ⟨h1, h2⟩ | ⟨m, h1, h2, h3, h4⟩
  · rw [h2 i hi] at h; cases h
  · unfold fstB
    rw [h2]
    have : m = i := by
      rcases Nat.lt_trichotomy m i with h5 | h5 | h5
      · rw [h0 m h5] at h3; cases h3
      · exact h5
      · rw [h4 i h5] at h; cases h
    omega
theorem fstB_none {f : Int → Bool} {s : List UInt8} (h0 : ∀ j, j < s.length → f (byteAt s j : Int) = false) : fstB f s = -1 := by
  rcases fstG_spec (f := f) s 0 with ⟨h1, h2⟩ | ⟨m, h1, h2, h3, h4⟩
  · exact h1
  · rw [h0 m h1] at h3; cases h3
theorem fstB_cases (f : Int → Bool) (s : List UInt8) : (fstB f s = -1 ∧ ∀ j, j < s.length → f (byteAt s j : Int) = false) ∨ ∃ m, m < s.length ∧ fstB f s = (m : Int) ∧ f (byteAt s m : Int) = true ∧ ∀ j, j < m → f (byteAt s j : Int) = false := by
  rcases fstG_spec (f := f) s 0 with h | ⟨m, h1, h2, h3⟩
  · exact .inl h
  · exact .inr ⟨m, h1, by unfold fstB; rw [h2]; omega, h3⟩
attribute [local irreducible] graphB fstB
theorem ref_firstOf {G : Glo} (s : List UInt8) (f : Nat) (p : Int → Bool) (hl : s.length ≤ 9223372036854775807) (hp : ∀ c : Nat, c < 256 → FnIs Tryd.prog G f [.int .u8 (c : Int)] (.bool (p c))) : FnIs Tryd.prog G 74 [.str s, .func (.func f) [] []] (.int .i64 (fstB p s)) := by
  have hGL : GloAll G [] := gloAll_nil
  refine fn_x Tryd.func74 Tryd.call74 rfl rfl rfl rfl hGL ?_
  intro C hC
  repeat' (first
    | (conv => whnf); first
      | (apply ch_l; apply sp_i; first | exact rfl | omega | exact ⟨rfl, rfl, by omega⟩ | exact ⟨rfl, by omega⟩ | exact ⟨rfl, by omega, by omega, by omega⟩ | decide | (simp only [List.length_drop, List.length_take, List.length_append, List.length_set, List.length_cons, List.length_nil, OrOk] at *; omega) | (simp; omega))
      | (apply sp_i; first | exact rfl | omega | exact ⟨rfl, rfl, by omega⟩ | exact ⟨rfl, by omega⟩ | exact ⟨rfl, by omega, by omega, by omega⟩ | decide | (simp only [List.length_drop, List.length_take, List.length_append, List.length_set, List.length_cons, List.length_nil, OrOk] at *; omega) | (simp; omega))
      | (apply sc_true) | (apply sc_false)
      | (first | apply sc_lt | apply sc_nlt | apply sc_eq | apply sc_neq | apply sc_nil | apply sc_nnil | apply sc_seq | apply sc_nseq); all_goals (intro hb; try (first | (exfalso; omega) | exact absurd rfl hb | exact absurd hb (by decide) | exact absurd hb (by assumption) | exact absurd (by assumption) hb | (exfalso; simp only [List.length_cons, List.length_nil, List.length_append] at hb; omega)))
      | (apply sc_not) | (apply sc_or) | (apply sc_i; all_goals intro hb)
      | (first | apply ix_nat | apply ix_int); first | omega | (simp only [List.length_drop, List.length_take, List.length_append, List.length_set, List.length_cons, List.length_nil] at *; omega)
      | (apply bx_i; intro hbd)
      | (first | apply sd_nat | apply sd_int | apply sl_nat | apply sl_int); first | omega | (simp only [List.length_drop, List.length_take, List.length_append, List.length_set, List.length_cons, List.length_nil] at *; omega)
      | (apply cx_is; first | fail) | (apply cx_do (i := 0) rfl; first | fail)
      | (apply ab_i; intro bl) | (apply as_i; intro va vk vc) | (apply av_i; intro v) | (apply ac_i; intro bl cap hcap)
      | (apply bo_l) | (apply ch_r; apply sp_i; intro i hi; exact ⟨rfl, rfl, rfl⟩) | (apply nx_i; all_goals intro hnx)
      | (apply Ia.hit; assumption) | (apply Ia.miss; assumption)
      | (apply rt_is; exact rfl) | (apply rt_do; exact rfl; (repeat (first | exact List.nil_sublist _ | apply List.Sublist.cons_cons))) | (apply iv; assumption)
      | (apply dw_q mixed hC hGL (by kernel_rfl))
      | (apply cq; assumption; (first | fail); exact rfl))
  all_goals (try conv => whnf)
  refine lp hC hGL (fun (i : Nat) => [(1, .func (.func f) [] []), (8, .own 0 (.slice (some ⟨bl, 0, none⟩) s.length cap)), (9, .int .i64 s.length), (10, .int .i64 i)]) (fun _ => [.buf bl s cap]) (fun i => i ≤ s.length ∧ ∀ j, j < i → p (byteAt s j : Int) = false) (fun i => s.length - i) 0 ?_ (by repeat (first | exact trivial | refine And.intro rfl ?_)) rfl ?_
  · exact ⟨Nat.zero_le _, by intro j hj; omega⟩
  rintro i ⟨hi, hb0⟩
  repeat' (first
    | (conv => whnf); first
      | (apply ch_l; apply sp_i; first | exact rfl | omega | exact ⟨rfl, rfl, by omega⟩ | exact ⟨rfl, by omega⟩ | exact ⟨rfl, by omega, by omega, by omega⟩ | decide | (simp only [List.length_drop, List.length_take, List.length_append, List.length_set, List.length_cons, List.length_nil, OrOk] at *; omega) | (simp; omega))
      | (apply sp_i; first | exact rfl | omega | exact ⟨rfl, rfl, by omega⟩ | exact ⟨rfl, by omega⟩ | exact ⟨rfl, by omega, by omega, by omega⟩ | decide | (simp only [List.length_drop, List.length_take, List.length_append, List.length_set, List.length_cons, List.length_nil, OrOk] at *; omega) | (simp; omega))
      | (apply sc_true) | (apply sc_false)
      | (first | apply sc_lt | apply sc_nlt | apply sc_eq | apply sc_neq | apply sc_nil | apply sc_nnil | apply sc_seq | apply sc_nseq); all_goals (intro hb; try (first | (exfalso; omega) | exact absurd rfl hb | exact absurd hb (by decide) | exact absurd hb (by assumption) | exact absurd (by assumption) hb | (exfalso; simp only [List.length_cons, List.length_nil, List.length_append] at hb; omega)))
      | (apply sc_not) | (apply sc_or) | (apply sc_i; all_goals intro hb)
      | (first | apply ix_nat | apply ix_int); first | omega | (simp only [List.length_drop, List.length_take, List.length_append, List.length_set, List.length_cons, List.length_nil] at *; omega)
      | (apply bx_i; intro hbd)
      | (first | apply sd_nat | apply sd_int | apply sl_nat | apply sl_int); first | omega | (simp only [List.length_drop, List.length_take, List.length_append, List.length_set, List.length_cons, List.length_nil] at *; omega)
      | (apply cx_is; first | exact hp _ (by omega)) | (apply cx_do (i := 0) rfl; first | exact hp _ (by omega))
      | (apply ab_i; intro bl) | (apply as_i; intro va vk vc) | (apply av_i; intro v) | (apply ac_i; intro bl cap hcap)
      | (apply bo_l) | (apply ch_r; apply sp_i; intro i hi; exact ⟨rfl, rfl, rfl⟩) | (apply nx_i; all_goals intro hnx)
      | (apply Ia.hit; assumption) | (apply Ia.miss; assumption)
      | (apply rt_is; exact rfl) | (apply rt_do; exact rfl; (repeat (first | exact List.nil_sublist _ | apply List.Sublist.cons_cons))) | (apply iv; assumption)
      | (apply dw_q mixed hC hGL (by kernel_rfl))
      | (apply cq; assumption; (first | exact hp _ (by omega)); exact rfl))
  all_goals (try conv => whnf)
  · apply rt_is
    rw [fstB_at (i := i) (by omega) hb hb0]
  · refine nxt (i + 1) ?_ ?_ (by repeat (first | exact trivial | refine And.intro rfl ?_)) rfl
    · exact ⟨by omega, below_succ hb0 hb⟩
    · omega
  · apply rt_is
    rw [fstB_none (fun j hj => hb0 j (by omega))]
    rfl
theorem idx_sch0 {c : Int} (h0 : 0 ≤ c) (h1 : c ≤ 255) : decide (idxB ((abcU ++ abcL) ++ []) c < 0) = !schB 0 c := by
  have := all_bytes (p := fun c => decide (idxB ((abcU ++ abcL) ++ []) c < 0) == !schB 0 c) (by decide +kernel) h0 h1
  simpa using this
def schD : List UInt8 := [48, 49, 50, 51, 52, 53, 54, 55, 56, 57, 43, 45, 46]
theorem idx_sch1 {c : Int} (h0 : 0 ≤ c) (h1 : c ≤ 255) : decide (idxB ((abcU ++ abcL) ++ schD) c < 0) = !schB 1 c := by
  have := all_bytes (p := fun c => decide (idxB ((abcU ++ abcL) ++ schD) c < 0) == !schB 1 c) (by decide +kernel) h0 h1
  simpa using this
theorem schB_zero {i : Nat} {c : Int} (h : i = 0) : schB i c = schB 0 c := by rw [h]
theorem schB_succ {i : Nat} {c : Int} (h : 0 < i) : schB i c = schB 1 c := by
  rw [Bool.eq_iff_iff, schB_t, schB_t]; omega
theorem idx_sch {i : Nat} {c : Int} (h0 : 0 ≤ c) (h1 : c ≤ 255) : decide (idxB ((abcU ++ abcL) ++ (if i = 0 then [] else schD)) c < 0) = !schB i c := by
  by_cases e : i = 0
  · subst e; rw [if_pos rfl]; exact idx_sch0 h0 h1
  · rw [if_neg e, schB_succ (by omega)]; exact idx_sch1 h0 h1
theorem byteAt_getElem {s : List UInt8} {j : Nat} (h : j < s.length) : byteAt s j = s[j].toNat := by
  simp [byteAt, List.getD, h]
theorem byteAt_take {s : List UInt8} {n j : Nat} (h : j < n) : byteAt (s.take n) j = byteAt s j := by
  unfold byteAt
  simp [List.getD, List.getElem?_take, h]
theorem begN_all {s : List UInt8} {m : Nat} (hm : idxB s 58 = m) (h1 : 0 < m) (h : ∀ j, j < m → schB j (byteAt s j) = true) : begN s = m := by
  unfold begN
  rw [hm, if_neg (by omega), if_pos (fun j hj => h j (by omega))]
  omega
theorem begN_not {s : List UInt8} {m : Nat} (hm : idxB s 58 = m) {i : Nat} (hi : i < m) (h : schB i (byteAt s i) = false) : begN s = 0 := by
  unfold begN
  rw [hm]
  split
  · rfl
  · rw [if_neg]
    intro hh
    have := hh i (by omega)
    rw [h] at this
    cases this
theorem ref_Scheme {G : Glo} (s : List UInt8) (hl : s.length ≤ 9223372036854775807) : FnIs Tryd.prog G 25 [.str s] (.tuple [.str (s.take (begN s)), .int .i64 (schE s)]) := by
  have hGL : GloAll G [] := gloAll_nil
  refine fn_x Tryd.func25 Tryd.call25 rfl rfl rfl rfl hGL ?_
  intro C hC
  have hI := strings_IndexByte (G := G) s 58 (by decide) (by decide)
  have hT := toLower_abc (G := G)
  have hJ0 := fun c h0 h1 => strings_IndexByte (G := G) ((abcU ++ abcL) ++ []) c h0 h1
  have hJ1 := fun c h0 h1 => strings_IndexByte (G := G) ((abcU ++ abcL) ++ schD) c h0 h1
  have hle : idxB s 58 < s.length := by
    rcases idxB_cases s 58 with ⟨h1, _⟩ | ⟨m, h1, h2, _⟩ <;> omega
  repeat' (first
    | (conv => whnf); first
      | (apply ch_l; apply sp_i; first | exact rfl | omega | exact ⟨rfl, rfl, by omega⟩ | exact ⟨rfl, by omega⟩ | exact ⟨rfl, by omega, by omega, by omega⟩ | decide | (simp only [List.length_drop, List.length_take, List.length_append, List.length_set, List.length_cons, List.length_nil, OrOk] at *; omega) | (simp; omega))
      | (apply sp_i; first | exact rfl | omega | exact ⟨rfl, rfl, by omega⟩ | exact ⟨rfl, by omega⟩ | exact ⟨rfl, by omega, by omega, by omega⟩ | decide | (simp only [List.length_drop, List.length_take, List.length_append, List.length_set, List.length_cons, List.length_nil, OrOk] at *; omega) | (simp; omega))
      | (apply sc_true) | (apply sc_false)
      | (first | apply sc_lt | apply sc_nlt | apply sc_eq | apply sc_neq | apply sc_nil | apply sc_nnil | apply sc_seq | apply sc_nseq); all_goals (intro hb; try (first | (exfalso; omega) | exact absurd rfl hb | exact absurd hb (by decide) | exact absurd hb (by assumption) | exact absurd (by assumption) hb | (exfalso; simp only [List.length_cons, List.length_nil, List.length_append] at hb; omega)))
      | (apply sc_not) | (apply sc_or) | (apply sc_i; all_goals intro hb)
      | (first | apply ix_nat | apply ix_int); first | omega | (simp only [List.length_drop, List.length_take, List.length_append, List.length_set, List.length_cons, List.length_nil] at *; omega)
      | (apply bx_i; intro hbd)
      | (first | apply sd_nat | apply sd_int | apply sl_nat | apply sl_int); first | omega | (simp only [List.length_drop, List.length_take, List.length_append, List.length_set, List.length_cons, List.length_nil] at *; omega)
      | (apply cx_is; first | exact hI) | (apply cx_do (i := 0) rfl; first | exact hI)
      | (apply ab_i; intro bl) | (apply as_i; intro va vk vc) | (apply av_i; intro v) | (apply ac_i; intro bl cap hcap)
      | (apply bo_l) | (apply ch_r; apply sp_i; intro i hi; exact ⟨rfl, rfl, rfl⟩) | (apply nx_i; all_goals intro hnx)
      | (apply Ia.hit; assumption) | (apply Ia.miss; assumption)
      | (apply rt_is; exact rfl) | (apply rt_do; exact rfl; (repeat (first | exact List.nil_sublist _ | apply List.Sublist.cons_cons))) | (apply iv; assumption)
      | (apply dw_q mixed hC hGL (by kernel_rfl))
      | (apply cq; assumption; (first | exact hI); exact rfl))
  all_goals (try conv => whnf)
  · apply rt_is
    have e : begN s = 0 := by unfold begN; rw [if_pos (by omega)]
    rw [schE, if_pos e, e]
    rfl
  have hm0 : ∃ m : Nat, idxB s 58 = m ∧ 0 < m ∧ m < s.length := ⟨(idxB s 58).toNat, by omega, by omega, by omega⟩
  obtain ⟨m, hm, hm1, hm2⟩ := hm0
  have hA := begN_all hm hm1
  have hN := fun i hi h => begN_not (i := i) hm hi h
  have hbt := fun j (hj : j < m) => byteAt_take (s := s) hj
  rw [hm] at *
  rw [show (m : Int).toNat = m from rfl] at *
  have ht : (s.take m).length = m := by rw [List.length_take]; omega
  rw [ht] at *
  refine lp hC hGL (fun (i : Nat) => [(0, .str s), (4, .int .i64 m), (15, .own 0 (.slice (some ⟨bl, 0, none⟩) m cap)), (16, .int .i64 m), (17, .int .i64 i)]) (fun _ => [.buf bl (s.take m) cap]) (fun i => i ≤ m ∧ ∀ j, j < i → schB j (byteAt s j) = true) (fun i => m - i) 0 ?_ (by repeat (first | exact trivial | refine And.intro rfl ?_)) rfl ?_
  · exact ⟨Nat.zero_le _, by intro j hj; omega⟩
  rintro i ⟨hi, hb0⟩
  repeat' (first
    | (conv => whnf); first
      | (apply ch_l; apply sp_i; first | exact rfl | omega | exact ⟨rfl, rfl, by omega⟩ | exact ⟨rfl, by omega⟩ | exact ⟨rfl, by omega, by omega, by omega⟩ | decide | (simp only [List.length_drop, List.length_take, List.length_append, List.length_set, List.length_cons, List.length_nil, OrOk] at *; omega) | (simp; omega))
      | (apply sp_i; first | exact rfl | omega | exact ⟨rfl, rfl, by omega⟩ | exact ⟨rfl, by omega⟩ | exact ⟨rfl, by omega, by omega, by omega⟩ | decide | (simp only [List.length_drop, List.length_take, List.length_append, List.length_set, List.length_cons, List.length_nil, OrOk] at *; omega) | (simp; omega))
      | (apply sc_true) | (apply sc_false)
      | (first | apply sc_lt | apply sc_nlt | apply sc_eq | apply sc_neq | apply sc_nil | apply sc_nnil | apply sc_seq | apply sc_nseq); all_goals (intro hb; try (first | (exfalso; omega) | exact absurd rfl hb | exact absurd hb (by decide) | exact absurd hb (by assumption) | exact absurd (by assumption) hb | (exfalso; simp only [List.length_cons, List.length_nil, List.length_append] at hb; omega)))
      | (apply sc_not) | (apply sc_or) | (apply sc_i; all_goals intro hb)
      | (first | apply ix_nat | apply ix_int); first | omega | (simp only [List.length_drop, List.length_take, List.length_append, List.length_set, List.length_cons, List.length_nil] at *; omega)
      | (apply bx_i; intro hbd)
      | (first | apply sd_nat | apply sd_int | apply sl_nat | apply sl_int); first | omega | (simp only [List.length_drop, List.length_take, List.length_append, List.length_set, List.length_cons, List.length_nil] at *; omega)
      | (apply cx_is; first | exact hT | (exact hJ0 _ (by omega) (by omega)) | (exact hJ1 _ (by omega) (by omega))) | (apply cx_do (i := 0) rfl; first | exact hT | (exact hJ0 _ (by omega) (by omega)) | (exact hJ1 _ (by omega) (by omega)))
      | (apply ab_i; intro bl) | (apply as_i; intro va vk vc) | (apply av_i; intro v) | (apply ac_i; intro bl cap hcap)
      | (apply bo_l) | (apply ch_r; apply sp_i; intro i hi; exact ⟨rfl, rfl, rfl⟩) | (apply nx_i; all_goals intro hnx)
      | (apply Ia.hit; assumption) | (apply Ia.miss; assumption)
      | (apply rt_is; exact rfl) | (apply rt_do; exact rfl; (repeat (first | exact List.nil_sublist _ | apply List.Sublist.cons_cons))) | (apply iv; assumption)
      | (apply dw_q mixed hC hGL (by kernel_rfl))
      | (apply cq; assumption; (first | exact hT | (exact hJ0 _ (by omega) (by omega)) | (exact hJ1 _ (by omega) (by omega))); exact rfl))
  all_goals (try conv => whnf)
  · apply rt_is
    have hx := idx_sch0 (c := (byteAt (s.take m) i : Int)) (by omega) (by omega)
    rw [decide_eq_true hb, hbt i (by omega)] at hx
    have e := hN i (by omega) (by rw [schB_zero (by omega)]; simpa using hx.symm)
    rw [schE, if_pos e, e]
    rfl
  · have hx := idx_sch0 (c := (byteAt (s.take m) i : Int)) (by omega) (by omega)
    rw [decide_eq_false (by omega), hbt i (by omega)] at hx
    refine nxt (i + 1) ?_ ?_ (by repeat (first | exact trivial | refine And.intro rfl ?_)) rfl
    · exact ⟨by omega, below_succ hb0 (by rw [schB_zero (by omega)]; simpa using hx.symm)⟩
    · omega
  · apply rt_is
    have hx := idx_sch1 (c := (byteAt (s.take m) i : Int)) (by omega) (by omega)
    rw [decide_eq_true hb, hbt i (by omega)] at hx
    have e := hN i (by omega) (by rw [schB_succ (by omega)]; simpa using hx.symm)
    rw [schE, if_pos e, e]
    rfl
  · have hx := idx_sch1 (c := (byteAt (s.take m) i : Int)) (by omega) (by omega)
    rw [decide_eq_false (by omega), hbt i (by omega)] at hx
    refine nxt (i + 1) ?_ ?_ (by repeat (first | exact trivial | refine And.intro rfl ?_)) rfl
    · exact ⟨by omega, below_succ hb0 (by rw [schB_succ (by omega)]; simpa using hx.symm)⟩
    · omega
  · apply rt_is
    have e := hA (fun j hj => hb0 j (by omega))
    rw [schE, if_neg (by omega), e]
    rfl
def nographB (c : Int) : Bool := !graphB c
theorem nographB_t {c : Int} : nographB c = true ↔ ¬ (33 ≤ c ∧ c ≤ 126) := by simp [nographB, graphB_t, graphB_f]
theorem nographB_f {c : Int} : nographB c = false ↔ (33 ≤ c ∧ c ≤ 126) := by simp [nographB, graphB_t]
/-- What is wrong with a text as a URI. -/
def uriE (s : List UInt8) : Err := if begN s = 0 then .errno 8 else if 0 ≤ fstB nographB s then .at 3 (fstB nographB s) else if begN s + 1 = s.length then .at 7 s.length else .none
attribute [local irreducible] nographB
theorem uri_Right {G : Glo} (s : List UInt8) (hl : s.length ≤ 9223372036854775807) : FnIs Tryd.prog G 28 [.str s] (uriE s).A := by
  have hGL : GloAll G [] := gloAll_nil
  refine fn_x Tryd.func28 Tryd.call28 rfl rfl rfl rfl hGL ?_
  intro C hC
  have hb0 := uri_begins (G := G) s hl
  have hlt : begN s ≠ 0 → begN s < s.length := fun h => (begN_lt h).1
  repeat' (first
    | (conv => whnf); first
      | (apply ch_l; apply sp_i; first | exact rfl | omega | exact ⟨rfl, rfl, by omega⟩ | exact ⟨rfl, by omega⟩ | exact ⟨rfl, by omega, by omega, by omega⟩ | decide | (simp only [List.length_drop, List.length_take, List.length_append, List.length_set, List.length_cons, List.length_nil, OrOk] at *; omega) | (simp; omega))
      | (apply sp_i; first | exact rfl | omega | exact ⟨rfl, rfl, by omega⟩ | exact ⟨rfl, by omega⟩ | exact ⟨rfl, by omega, by omega, by omega⟩ | decide | (simp only [List.length_drop, List.length_take, List.length_append, List.length_set, List.length_cons, List.length_nil, OrOk] at *; omega) | (simp; omega))
      | (apply sc_true) | (apply sc_false)
      | (first | apply sc_lt | apply sc_nlt | apply sc_eq | apply sc_neq | apply sc_nil | apply sc_nnil | apply sc_seq | apply sc_nseq); all_goals (intro hb; try (first | (exfalso; omega) | exact absurd rfl hb | exact absurd hb (by decide) | exact absurd hb (by assumption) | exact absurd (by assumption) hb | (exfalso; simp only [List.length_cons, List.length_nil, List.length_append] at hb; omega)))
      | (apply sc_not) | (apply sc_or) | (apply sc_i; all_goals intro hb)
      | (first | apply ix_nat | apply ix_int); first | omega | (simp only [List.length_drop, List.length_take, List.length_append, List.length_set, List.length_cons, List.length_nil] at *; omega)
      | (apply bx_i; intro hbd)
      | (first | apply sd_nat | apply sd_int | apply sl_nat | apply sl_int); first | omega | (simp only [List.length_drop, List.length_take, List.length_append, List.length_set, List.length_cons, List.length_nil] at *; omega)
      | (apply cx_is; first | exact hb0) | (apply cx_do (i := 0) rfl; first | exact hb0)
      | (apply ab_i; intro bl) | (apply as_i; intro va vk vc) | (apply av_i; intro v) | (apply ac_i; intro bl cap hcap)
      | (apply bo_l) | (apply ch_r; apply sp_i; intro i hi; exact ⟨rfl, rfl, rfl⟩) | (apply nx_i; all_goals intro hnx)
      | (apply Ia.hit; assumption) | (apply Ia.miss; assumption)
      | (apply rt_is; exact rfl) | (apply rt_do; exact rfl; (repeat (first | exact List.nil_sublist _ | apply List.Sublist.cons_cons))) | (apply iv; assumption)
      | (apply dw_q mixed hC hGL (by kernel_rfl))
      | (apply cq; assumption; (first | exact hb0); exact rfl))
  all_goals (try conv => whnf)
  · apply rt_is
    rw [uriE, if_pos (by omega)]
    rfl
  refine lp hC hGL (fun (i : Nat) => [(0, .str s), (3, .int .i64 (begN s)), (11, .int .i64 s.length), (12, .int .i64 i)]) (fun _ => []) (fun i => i ≤ s.length ∧ ∀ j, j < i → nographB (byteAt s j) = false) (fun i => s.length - i) 0 ?_ (by repeat (first | exact trivial | refine And.intro rfl ?_)) rfl ?_
  · exact ⟨Nat.zero_le _, by intro j hj; omega⟩
  rintro i ⟨hi, hg0⟩
  repeat' (first
    | (conv => whnf); first
      | (apply ch_l; apply sp_i; first | exact rfl | omega | exact ⟨rfl, rfl, by omega⟩ | exact ⟨rfl, by omega⟩ | exact ⟨rfl, by omega, by omega, by omega⟩ | decide | (simp only [List.length_drop, List.length_take, List.length_append, List.length_set, List.length_cons, List.length_nil, OrOk] at *; omega) | (simp; omega))
      | (apply sp_i; first | exact rfl | omega | exact ⟨rfl, rfl, by omega⟩ | exact ⟨rfl, by omega⟩ | exact ⟨rfl, by omega, by omega, by omega⟩ | decide | (simp only [List.length_drop, List.length_take, List.length_append, List.length_set, List.length_cons, List.length_nil, OrOk] at *; omega) | (simp; omega))
      | (apply sc_true) | (apply sc_false)
      | (first | apply sc_lt | apply sc_nlt | apply sc_eq | apply sc_neq | apply sc_nil | apply sc_nnil | apply sc_seq | apply sc_nseq); all_goals (intro hb; try (first | (exfalso; omega) | exact absurd rfl hb | exact absurd hb (by decide) | exact absurd hb (by assumption) | exact absurd (by assumption) hb | (exfalso; simp only [List.length_cons, List.length_nil, List.length_append] at hb; omega)))
      | (apply sc_not) | (apply sc_or) | (apply sc_i; all_goals intro hb)
      | (first | apply ix_nat | apply ix_int); first | omega | (simp only [List.length_drop, List.length_take, List.length_append, List.length_set, List.length_cons, List.length_nil] at *; omega)
      | (apply bx_i; intro hbd)
      | (first | apply sd_nat | apply sd_int | apply sl_nat | apply sl_int); first | omega | (simp only [List.length_drop, List.length_take, List.length_append, List.length_set, List.length_cons, List.length_nil] at *; omega)
      | (apply cx_is; first | fail) | (apply cx_do (i := 0) rfl; first | fail)
      | (apply ab_i; intro bl) | (apply as_i; intro va vk vc) | (apply av_i; intro v) | (apply ac_i; intro bl cap hcap)
      | (apply bo_l) | (apply ch_r; apply sp_i; intro i hi; exact ⟨rfl, rfl, rfl⟩) | (apply nx_i; all_goals intro hnx)
      | (apply Ia.hit; assumption) | (apply Ia.miss; assumption)
      | (apply rt_is; exact rfl) | (apply rt_do; exact rfl; (repeat (first | exact List.nil_sublist _ | apply List.Sublist.cons_cons))) | (apply iv; assumption)
      | (apply dw_q mixed hC hGL (by kernel_rfl))
      | (apply cq; assumption; (first | fail); exact rfl))
  all_goals (try conv => whnf)
  · apply rt_is
    rw [uriE, if_neg (by omega), fstB_at (i := i) (by omega) (nographB_t.2 (by omega)) hg0, if_pos (by omega)]
    rfl
  · apply rt_is
    rw [uriE, if_neg (by omega), fstB_at (i := i) (by omega) (nographB_t.2 (by omega)) hg0, if_pos (by omega)]
    rfl
  · refine nxt (i + 1) ?_ ?_ (by repeat (first | exact trivial | refine And.intro rfl ?_)) rfl
    · exact ⟨by omega, below_succ hg0 (nographB_f.2 (by omega))⟩
    · omega
  · apply rt_is
    rw [uriE, if_neg (by omega), fstB_none (fun j hj => hg0 j (by omega)), if_neg (by omega), if_pos (by omega)]
    rfl
  · apply rt_is
    rw [uriE, if_neg (by omega), fstB_none (fun j hj => hg0 j (by omega)), if_neg (by omega), if_neg (by omega)]
    rfl
theorem ref_graph {G : Glo} (c : Int) (h0 : 0 ≤ c) (h1 : c ≤ 255) : FnIs Tryd.prog G 76 [.int .u8 c] (.bool (graphB c)) := by
  have hGL : GloAll G [] := gloAll_nil
  refine fn_x Tryd.func76 Tryd.call76 rfl rfl rfl rfl hGL ?_
  intro C hC
  have hw := ref_within (G := G) c 33 126
  repeat' (first
    | (conv => whnf); first
      | (apply ch_l; apply sp_i; first | exact rfl | omega | exact ⟨rfl, rfl, by omega⟩ | exact ⟨rfl, by omega⟩ | exact ⟨rfl, by omega, by omega, by omega⟩ | decide | (simp only [List.length_drop, List.length_take, List.length_append, List.length_set, List.length_cons, List.length_nil, OrOk] at *; omega) | (simp; omega))
      | (apply sp_i; first | exact rfl | omega | exact ⟨rfl, rfl, by omega⟩ | exact ⟨rfl, by omega⟩ | exact ⟨rfl, by omega, by omega, by omega⟩ | decide | (simp only [List.length_drop, List.length_take, List.length_append, List.length_set, List.length_cons, List.length_nil, OrOk] at *; omega) | (simp; omega))
      | (apply sc_true) | (apply sc_false)
      | (first | apply sc_lt | apply sc_nlt | apply sc_eq | apply sc_neq | apply sc_nil | apply sc_nnil | apply sc_seq | apply sc_nseq); all_goals (intro hb; try (first | (exfalso; omega) | exact absurd rfl hb | exact absurd hb (by decide) | exact absurd hb (by assumption) | exact absurd (by assumption) hb | (exfalso; simp only [List.length_cons, List.length_nil, List.length_append] at hb; omega)))
      | (apply sc_not) | (apply sc_or) | (apply sc_i; all_goals intro hb)
      | (first | apply ix_nat | apply ix_int); first | omega | (simp only [List.length_drop, List.length_take, List.length_append, List.length_set, List.length_cons, List.length_nil] at *; omega)
      | (apply bx_i; intro hbd)
      | (first | apply sd_nat | apply sd_int | apply sl_nat | apply sl_int); first | omega | (simp only [List.length_drop, List.length_take, List.length_append, List.length_set, List.length_cons, List.length_nil] at *; omega)
      | (apply cx_is; first | exact hw) | (apply cx_do (i := 0) rfl; first | exact hw)
      | (apply ab_i; intro bl) | (apply as_i; intro va vk vc) | (apply av_i; intro v) | (apply ac_i; intro bl cap hcap)
      | (apply bo_l) | (apply ch_r; apply sp_i; intro i hi; exact ⟨rfl, rfl, rfl⟩) | (apply nx_i; all_goals intro hnx)
      | (apply Ia.hit; assumption) | (apply Ia.miss; assumption)
      | (apply rt_is; exact rfl) | (apply rt_do; exact rfl; (repeat (first | exact List.nil_sublist _ | apply List.Sublist.cons_cons))) | (apply iv; assumption)
      | (apply dw_q mixed hC hGL (by kernel_rfl))
      | (apply cq; assumption; (first | exact hw); exact rfl))
  all_goals (try conv => whnf)
  apply rt_is
  refine congrArg AVal.bool ?_
  rw [Bool.eq_iff_iff, graphB_t]
  simp
theorem ref_notgraph {G : Glo} (c : Int) (h0 : 0 ≤ c) (h1 : c ≤ 255) : FnIs Tryd.prog G 75 [.int .u8 c] (.bool (nographB c)) := by
  have hGL : GloAll G [] := gloAll_nil
  refine fn_x Tryd.func75 Tryd.call75 rfl rfl rfl rfl hGL ?_
  intro C hC
  have hw := ref_graph (G := G) c h0 h1
  repeat' (first
    | (conv => whnf); first
      | (apply ch_l; apply sp_i; first | exact rfl | omega | exact ⟨rfl, rfl, by omega⟩ | exact ⟨rfl, by omega⟩ | exact ⟨rfl, by omega, by omega, by omega⟩ | decide | (simp only [List.length_drop, List.length_take, List.length_append, List.length_set, List.length_cons, List.length_nil, OrOk] at *; omega) | (simp; omega))
      | (apply sp_i; first | exact rfl | omega | exact ⟨rfl, rfl, by omega⟩ | exact ⟨rfl, by omega⟩ | exact ⟨rfl, by omega, by omega, by omega⟩ | decide | (simp only [List.length_drop, List.length_take, List.length_append, List.length_set, List.length_cons, List.length_nil, OrOk] at *; omega) | (simp; omega))
      | (apply sc_true) | (apply sc_false)
      | (first | apply sc_lt | apply sc_nlt | apply sc_eq | apply sc_neq | apply sc_nil | apply sc_nnil | apply sc_seq | apply sc_nseq); all_goals (intro hb; try (first | (exfalso; omega) | exact absurd rfl hb | exact absurd hb (by decide) | exact absurd hb (by assumption) | exact absurd (by assumption) hb | (exfalso; simp only [List.length_cons, List.length_nil, List.length_append] at hb; omega)))
      | (apply sc_not) | (apply sc_or) | (apply sc_i; all_goals intro hb)
      | (first | apply ix_nat | apply ix_int); first | omega | (simp only [List.length_drop, List.length_take, List.length_append, List.length_set, List.length_cons, List.length_nil] at *; omega)
      | (apply bx_i; intro hbd)
      | (first | apply sd_nat | apply sd_int | apply sl_nat | apply sl_int); first | omega | (simp only [List.length_drop, List.length_take, List.length_append, List.length_set, List.length_cons, List.length_nil] at *; omega)
      | (apply cx_is; first | exact hw) | (apply cx_do (i := 0) rfl; first | exact hw)
      | (apply ab_i; intro bl) | (apply as_i; intro va vk vc) | (apply av_i; intro v) | (apply ac_i; intro bl cap hcap)
      | (apply bo_l) | (apply ch_r; apply sp_i; intro i hi; exact ⟨rfl, rfl, rfl⟩) | (apply nx_i; all_goals intro hnx)
      | (apply Ia.hit; assumption) | (apply Ia.miss; assumption)
      | (apply rt_is; exact rfl) | (apply rt_do; exact rfl; (repeat (first | exact List.nil_sublist _ | apply List.Sublist.cons_cons))) | (apply iv; assumption)
      | (apply dw_q mixed hC hGL (by kernel_rfl))
      | (apply cq; assumption; (first | exact hw); exact rfl))
  all_goals (try conv => whnf)
  apply rt_is
  unfold nographB
  rfl
theorem ref_Bare {G : Glo} (e : Int) : FnIs Tryd.prog G 61 [.int .i64 e] (.agg [.int .i64 e, .int .i64 (-1)]) := by
  have hGL : GloAll G [] := gloAll_nil
  refine fn_x Tryd.func61 Tryd.call61 rfl rfl rfl rfl hGL ?_
  intro C hC
  repeat' (first
    | (conv => whnf); first
      | (apply ch_l; apply sp_i; first | exact rfl | omega | exact ⟨rfl, rfl, by omega⟩ | exact ⟨rfl, by omega⟩ | exact ⟨rfl, by omega, by omega, by omega⟩ | decide | (simp only [List.length_drop, List.length_take, List.length_append, List.length_set, List.length_cons, List.length_nil, OrOk] at *; omega) | (simp; omega))
      | (apply sp_i; first | exact rfl | omega | exact ⟨rfl, rfl, by omega⟩ | exact ⟨rfl, by omega⟩ | exact ⟨rfl, by omega, by omega, by omega⟩ | decide | (simp only [List.length_drop, List.length_take, List.length_append, List.length_set, List.length_cons, List.length_nil, OrOk] at *; omega) | (simp; omega))
      | (apply sc_true) | (apply sc_false)
      | (first | apply sc_lt | apply sc_nlt | apply sc_eq | apply sc_neq | apply sc_nil | apply sc_nnil | apply sc_seq | apply sc_nseq); all_goals (intro hb; try (first | (exfalso; omega) | exact absurd rfl hb | exact absurd hb (by decide) | exact absurd hb (by assumption) | exact absurd (by assumption) hb | (exfalso; simp only [List.length_cons, List.length_nil, List.length_append] at hb; omega)))
      | (apply sc_not) | (apply sc_or) | (apply sc_i; all_goals intro hb)
      | (first | apply ix_nat | apply ix_int); first | omega | (simp only [List.length_drop, List.length_take, List.length_append, List.length_set, List.length_cons, List.length_nil] at *; omega)
      | (apply bx_i; intro hbd)
      | (first | apply sd_nat | apply sd_int | apply sl_nat | apply sl_int); first | omega | (simp only [List.length_drop, List.length_take, List.length_append, List.length_set, List.length_cons, List.length_nil] at *; omega)
      | (apply cx_is; first | fail) | (apply cx_do (i := 0) rfl; first | fail)
      | (apply ab_i; intro bl) | (apply as_i; intro va vk vc) | (apply av_i; intro v) | (apply ac_i; intro bl cap hcap)
      | (apply bo_l) | (apply ch_r; apply sp_i; intro i hi; exact ⟨rfl, rfl, rfl⟩) | (apply nx_i; all_goals intro hnx)
      | (apply Ia.hit; assumption) | (apply Ia.miss; assumption)
      | (apply rt_is; exact rfl) | (apply rt_do; exact rfl; (repeat (first | exact List.nil_sublist _ | apply List.Sublist.cons_cons))) | (apply iv; assumption)
      | (apply dw_q mixed hC hGL (by kernel_rfl))
      | (apply cq; assumption; (first | fail); exact rfl))
  all_goals (try conv => whnf)
theorem ref_Good {G : Glo} : FnIs Tryd.prog G 62 [] (.agg [.int .i64 0, .int .i64 (-1)]) := by
  have hGL : GloAll G [] := gloAll_nil
  refine fn_x Tryd.func62 Tryd.call62 rfl rfl rfl rfl hGL ?_
  intro C hC
  repeat' (first
    | (conv => whnf); first
      | (apply ch_l; apply sp_i; first | exact rfl | omega | exact ⟨rfl, rfl, by omega⟩ | exact ⟨rfl, by omega⟩ | exact ⟨rfl, by omega, by omega, by omega⟩ | decide | (simp only [List.length_drop, List.length_take, List.length_append, List.length_set, List.length_cons, List.length_nil, OrOk] at *; omega) | (simp; omega))
      | (apply sp_i; first | exact rfl | omega | exact ⟨rfl, rfl, by omega⟩ | exact ⟨rfl, by omega⟩ | exact ⟨rfl, by omega, by omega, by omega⟩ | decide | (simp only [List.length_drop, List.length_take, List.length_append, List.length_set, List.length_cons, List.length_nil, OrOk] at *; omega) | (simp; omega))
      | (apply sc_true) | (apply sc_false)
      | (first | apply sc_lt | apply sc_nlt | apply sc_eq | apply sc_neq | apply sc_nil | apply sc_nnil | apply sc_seq | apply sc_nseq); all_goals (intro hb; try (first | (exfalso; omega) | exact absurd rfl hb | exact absurd hb (by decide) | exact absurd hb (by assumption) | exact absurd (by assumption) hb | (exfalso; simp only [List.length_cons, List.length_nil, List.length_append] at hb; omega)))
      | (apply sc_not) | (apply sc_or) | (apply sc_i; all_goals intro hb)
      | (first | apply ix_nat | apply ix_int); first | omega | (simp only [List.length_drop, List.length_take, List.length_append, List.length_set, List.length_cons, List.length_nil] at *; omega)
      | (apply bx_i; intro hbd)
      | (first | apply sd_nat | apply sd_int | apply sl_nat | apply sl_int); first | omega | (simp only [List.length_drop, List.length_take, List.length_append, List.length_set, List.length_cons, List.length_nil] at *; omega)
      | (apply cx_is; first | fail) | (apply cx_do (i := 0) rfl; first | fail)
      | (apply ab_i; intro bl) | (apply as_i; intro va vk vc) | (apply av_i; intro v) | (apply ac_i; intro bl cap hcap)
      | (apply bo_l) | (apply ch_r; apply sp_i; intro i hi; exact ⟨rfl, rfl, rfl⟩) | (apply nx_i; all_goals intro hnx)
      | (apply Ia.hit; assumption) | (apply Ia.miss; assumption)
      | (apply rt_is; exact rfl) | (apply rt_do; exact rfl; (repeat (first | exact List.nil_sublist _ | apply List.Sublist.cons_cons))) | (apply iv; assumption)
      | (apply dw_q mixed hC hGL (by kernel_rfl))
      | (apply cq; assumption; (first | fail); exact rfl))
  all_goals (try conv => whnf)
theorem ref_UriRight {G : Glo} (s : List UInt8) (hl : s.length ≤ 9223372036854775807) : FnIs Tryd.prog G 29 [.str s] (.agg [.int .i64 (uriE s).e, .int .i64 (uriE s).p]) := by
  have hGL : GloAll G [] := gloAll_nil
  refine fn_x Tryd.func29 Tryd.call29 rfl rfl rfl rfl hGL ?_
  intro C hC
  have h1 := ref_Scheme (G := G) s hl
  have h2 := ref_firstOf (G := G) s 75 nographB hl (fun c hc => ref_notgraph (G := G) c (by omega) (by omega))
  have h3 := ref_Bare (G := G)
  have h4 := ref_Good (G := G)
  have hn : schE s = 0 → begN s < s.length ∧ begN s ≠ 0 := fun h => by
    unfold schE at h
    split at h
    · cases h
    · exact ⟨(begN_lt (by assumption)).1, by assumption⟩
  have hln : schE s = 0 → (s.take (begN s)).length = begN s := fun h => by
    have := (hn h).1
    rw [List.length_take]; omega
  have hs58 : schE s = 0 → (s = s.take (begN s) ++ [58] ↔ begN s + 1 = s.length) := fun h => by
    have h1 := hn h
    have h2 := hln h
    have h3 := (begN_lt h1.2).2.1
    constructor
    · intro e
      have := congrArg List.length e
      rw [List.length_append, h2] at this
      simpa using this.symm
    · intro e
      refine List.ext_getElem (by rw [List.length_append, h2]; simpa using e.symm) (fun j j1 j2 => ?_)
      by_cases hj : j < begN s
      · rw [List.getElem_append_left (by omega), List.getElem_take]
      · rw [List.getElem_append_right (by omega)]
        have ej : j = begN s := by omega
        subst ej
        rw [byteAt_getElem (by omega)] at h3
        have : s[begN s] = 58 := UInt8.toNat_inj.1 (by simpa using h3)
        simp [h2, this]
  repeat' (first
    | (conv => whnf); first
      | (apply ch_l; apply sp_i; first | exact rfl | omega | exact ⟨rfl, rfl, by omega⟩ | exact ⟨rfl, by omega⟩ | exact ⟨rfl, by omega, by omega, by omega⟩ | decide | (simp only [List.length_drop, List.length_take, List.length_append, List.length_set, List.length_cons, List.length_nil, OrOk] at *; omega) | (simp; omega))
      | (apply sp_i; first | exact rfl | omega | exact ⟨rfl, rfl, by omega⟩ | exact ⟨rfl, by omega⟩ | exact ⟨rfl, by omega, by omega, by omega⟩ | decide | (simp only [List.length_drop, List.length_take, List.length_append, List.length_set, List.length_cons, List.length_nil, OrOk] at *; omega) | (simp; omega))
      | (apply sc_true) | (apply sc_false)
      | (first | apply sc_lt | apply sc_nlt | apply sc_eq | apply sc_neq | apply sc_nil | apply sc_nnil | apply sc_seq | apply sc_nseq); all_goals (intro hb; try (first | (exfalso; omega) | exact absurd rfl hb | exact absurd hb (by decide) | exact absurd hb (by assumption) | exact absurd (by assumption) hb | (exfalso; simp only [List.length_cons, List.length_nil, List.length_append] at hb; omega)))
      | (apply sc_not) | (apply sc_or) | (apply sc_i; all_goals intro hb)
      | (first | apply ix_nat | apply ix_int); first | omega | (simp only [List.length_drop, List.length_take, List.length_append, List.length_set, List.length_cons, List.length_nil] at *; omega)
      | (apply bx_i; intro hbd)
      | (first | apply sd_nat | apply sd_int | apply sl_nat | apply sl_int); first | omega | (simp only [List.length_drop, List.length_take, List.length_append, List.length_set, List.length_cons, List.length_nil] at *; omega)
      | (apply cx_is; first | exact h1 | exact h2 | exact h3 _ | exact h4) | (apply cx_do (i := 0) rfl; first | exact h1 | exact h2 | exact h3 _ | exact h4)
      | (apply ab_i; intro bl) | (apply as_i; intro va vk vc) | (apply av_i; intro v) | (apply ac_i; intro bl cap hcap)
      | (apply bo_l) | (apply ch_r; apply sp_i; intro i hi; exact ⟨rfl, rfl, rfl⟩) | (apply nx_i; all_goals intro hnx)
      | (apply Ia.hit; assumption) | (apply Ia.miss; assumption)
      | (apply rt_is; exact rfl) | (apply rt_do; exact rfl; (repeat (first | exact List.nil_sublist _ | apply List.Sublist.cons_cons))) | (apply iv; assumption)
      | (apply dw_q mixed hC hGL (by kernel_rfl))
      | (apply cq; assumption; (first | exact h1 | exact h2 | exact h3 _ | exact h4); exact rfl))
  all_goals (try conv => whnf)
  · apply rt_is
    have e : begN s = 0 := by unfold schE at hb; split at hb; assumption; exact absurd rfl hb
    rw [uriE, schE, if_pos e, if_pos e]
    rfl
  · apply rt_is
    rw [uriE, if_neg (hn (by assumption)).2, if_pos (by omega)]
    rfl
  · apply rt_is
    rw [uriE, if_neg (hn (by assumption)).2, if_neg (by omega), if_pos ((hs58 (by assumption)).1 hb)]
    rfl
  · apply rt_is
    rw [uriE, if_neg (hn (by assumption)).2, if_neg (by omega), if_neg (fun h => hb ((hs58 (by assumption)).2 h))]
    rfl
def schX (s : List UInt8) : Err := if begN s = 0 then .errno 8 else .none
theorem schX_A (s : List UInt8) : (if begN s = 0 then errA 8 else .raw .nilIface) = (schX s).A := by unfold schX; split <;> rfl
theorem schX_e (s : List UInt8) : schE s = (schX s).e := by unfold schX schE; split <;> rfl
theorem schX_p (s : List UInt8) : (schX s).p = -1 := by unfold schX; split <;> rfl
theorem unown_uri (x : Err) : unown x.A = x.A := by cases x <;> rfl
theorem bare_ok {G : Glo} (hU2 : GloAll G errTy) (x : Err) (h : x.p = -1) : FnIs Tryd.prog G 27 [x.A, .int .i64 x.e] (.bool true) := by
  have := law_bare hU2 x x.e
  rwa [h, eqB_t.2 rfl, eqB_t.2 rfl] at this
theorem placed_ok {G : Glo} (hU2 : GloAll G errTy) (x : Err) : FnIs Tryd.prog G 21 [x.A, .agg [.int .i64 x.e, .int .i64 x.p]] (.bool true) := by
  have := law_placed hU2 x x.e x.p
  rwa [eqB_t.2 rfl, eqB_t.2 rfl] at this
theorem law_UriRights {G : Glo} (hU2 : GloAll G errTy) (s : List UInt8) (hl : s.length ≤ 9223372036854775807) : FnIs Tryd.prog G 5 [.str s] (.bool true) := by
  have hGL : GloAll G [] := gloAll_nil
  refine fn_x Tryd.func5 Tryd.call5 rfl rfl rfl rfl hGL ?_
  intro C hC
  have e1 := ref_Scheme (G := G) s hl
  have e2 := uri_Scheme (G := G) s hl
  have e3 := uri_Right (G := G) s hl
  have e4 := ref_UriRight (G := G) s hl
  rw [schX_A] at e2
  rw [schX_e] at e1
  have e5 := law_bare hU2 (schX s) (schX s).e
  rw [← unown_uri] at e5
  have e6 := law_placed hU2 (uriE s) (uriE s).e (uriE s).p
  rw [← unown_uri] at e6
  repeat' (first
    | (conv => whnf); first
      | (apply ch_l; apply sp_i; first | exact rfl | omega | exact ⟨rfl, rfl, by omega⟩ | exact ⟨rfl, by omega⟩ | exact ⟨rfl, by omega, by omega, by omega⟩ | decide | (simp only [List.length_drop, List.length_take, List.length_append, List.length_set, List.length_cons, List.length_nil, OrOk] at *; omega) | (simp; omega))
      | (apply sp_i; first | exact rfl | omega | exact ⟨rfl, rfl, by omega⟩ | exact ⟨rfl, by omega⟩ | exact ⟨rfl, by omega, by omega, by omega⟩ | decide | (simp only [List.length_drop, List.length_take, List.length_append, List.length_set, List.length_cons, List.length_nil, OrOk] at *; omega) | (simp; omega))
      | (apply sc_true) | (apply sc_false)
      | (first | apply sc_lt | apply sc_nlt | apply sc_eq | apply sc_neq | apply sc_nil | apply sc_nnil | apply sc_seq | apply sc_nseq); all_goals (intro hb; try (first | (exfalso; omega) | exact absurd rfl hb | exact absurd hb (by decide) | exact absurd hb (by assumption) | exact absurd (by assumption) hb | (exfalso; simp only [List.length_cons, List.length_nil, List.length_append] at hb; omega)))
      | (apply sc_not) | (apply sc_or) | (apply sc_i; all_goals intro hb)
      | (first | apply ix_nat | apply ix_int); first | omega | (simp only [List.length_drop, List.length_take, List.length_append, List.length_set, List.length_cons, List.length_nil] at *; omega)
      | (apply bx_i; intro hbd)
      | (first | apply sd_nat | apply sd_int | apply sl_nat | apply sl_int); first | omega | (simp only [List.length_drop, List.length_take, List.length_append, List.length_set, List.length_cons, List.length_nil] at *; omega)
      | (apply cx_is; first | exact e1 | exact e2 | exact e3 | exact e4 | exact e5 | exact e6) | (apply cx_do (i := 0) rfl; first | exact e1 | exact e2 | exact e3 | exact e4 | exact e5 | exact e6)
      | (apply ab_i; intro bl) | (apply as_i; intro va vk vc) | (apply av_i; intro v) | (apply ac_i; intro bl cap hcap)
      | (apply bo_l) | (apply ch_r; apply sp_i; intro i hi; exact ⟨rfl, rfl, rfl⟩) | (apply nx_i; all_goals intro hnx)
      | (apply Ia.hit; assumption) | (apply Ia.miss; assumption)
      | (apply rt_is; exact rfl) | (apply rt_do; exact rfl; (repeat (first | exact List.nil_sublist _ | apply List.Sublist.cons_cons))) | (apply iv; assumption)
      | (apply dw_q mixed hC hGL (by kernel_rfl))
      | (apply cq; assumption; (first | exact e1 | exact e2 | exact e3 | exact e4 | exact e5 | exact e6); exact rfl))
  all_goals (try conv => whnf)
  · apply rt_is
    simp only [show ∀ a, eqB a a = true from fun _ => eqB_t.2 rfl, Bool.and_self]
  · rw [eqB_t.2 rfl, schX_p, eqB_t.2 rfl] at hb
    simp at hb
end Go.Proofs.YtlmihggafbmkaaaDoor
