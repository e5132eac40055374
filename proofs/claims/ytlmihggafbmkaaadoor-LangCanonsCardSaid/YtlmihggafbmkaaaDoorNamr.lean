/- The reference's answers of 4.1, and the law NameTurns. -/
import Derived.Test.YtlmihggafbmkaaaDoorNm
import Derived.Test.YtlmihggafbmkaaaDoorExt
import Derived.Test.YtlmihggafbmkaaaDoorShelf
namespace Go.Proofs.YtlmihggafbmkaaaDoor
open Go Go.RowKit
set_option maxRecDepth 20000
set_option maxHeartbeats 4000000
set_option linter.unusedSimpArgs false
set_option linter.unusedVariables false
attribute [local irreducible] AWp AOps byteAt SrcOK OrOk GloAll FnSpec
attribute [local irreducible] idxB
theorem strings_ToLower {G : Glo} (s : List UInt8) (hs : s.length ≤ 140737488355328) (ha : ∀ j, j < s.length → byteAt s j < 128) : FnIs Tryd.prog G 58 [.str s] (.str (Lib.toLowerA s)) := by
  refine fnis_of_calls rfl Tryd.call58 ?_
  intro R args hr w _ _
  obtain ⟨x, t, e, hx, rfl⟩ := hr
  have hx := rel_str.1 hx
  subst hx
  obtain rfl : args = #[.string ⟨s.toArray⟩] := by cases args; simp_all
  have := Tryd.strings_ToLower_ascii ⟨s.toArray⟩ w (by rw [str_size]; exact hs) (fun j b hb => by
    have hb' : s[j]? = some b := by simpa using hb
    have hj := (List.getElem?_eq_some_iff.1 hb').1
    have h2 := ha j hj
    unfold byteAt at h2
    simpa [List.getD, hb'] using h2)
  simp only [AVal.conc]
  simpa using this
def abcU : List UInt8 := [65, 66, 67, 68, 69, 70, 71, 72, 73, 74, 75, 76, 77, 78, 79, 80, 81, 82, 83, 84, 85, 86, 87, 88, 89, 90]
def abcL : List UInt8 := [97, 98, 99, 100, 101, 102, 103, 104, 105, 106, 107, 108, 109, 110, 111, 112, 113, 114, 115, 116, 117, 118, 119, 120, 121, 122]
def digsD : List UInt8 := [48, 49, 50, 51, 52, 53, 54, 55, 56, 57, 45]
theorem toLower_abc {G : Glo} : FnIs Tryd.prog G 58 [.str abcU] (.str abcL) := by
  have h := strings_ToLower (G := G) abcU (by decide) (by decide +kernel)
  have e : Lib.toLowerA abcU = abcL := by decide
  rwa [e] at h
/-- A fact of all bytes, looked through one by one. -/
theorem all_bytes {p : Int → Bool} (h : ∀ c : Fin 256, p (c.1 : Int) = true) {c : Int} (h0 : 0 ≤ c) (h1 : c ≤ 255) : p c = true := by
  have := h ⟨c.toNat, by omega⟩
  simpa only [Int.toNat_of_nonneg h0] using this
theorem idx_letter {c : Int} (h0 : 0 ≤ c) (h1 : c ≤ 255) : decide (idxB ((abcU ++ abcL) ++ digsD) c < 0) = !letterB c := by
  have := all_bytes (p := fun c => decide (idxB ((abcU ++ abcL) ++ digsD) c < 0) == !letterB c) (by decide +kernel) h0 h1
  simpa using this
theorem ref_Is {G : Glo} (s : List UInt8) (hl : s.length ≤ 9223372036854775807) : FnIs Tryd.prog G 13 [.str s] (.bool (isS s)) := by
  have hGL : GloAll G [] := gloAll_nil
  refine fn_x Tryd.func13 Tryd.call13 rfl rfl rfl rfl hGL ?_
  intro C hC
  have hT := toLower_abc (G := G)
  have hI := fun c h0 h1 => strings_IndexByte (G := G) ((abcU ++ abcL) ++ digsD) c h0 h1
  have hW := ref_within (G := G) (s.length : Int) 1 40
  repeat' (first
    | (conv => whnf); first
      | (apply ch_l; apply sp_i; first | exact rfl | omega | exact ⟨rfl, rfl, by omega⟩ | exact ⟨rfl, by omega⟩ | exact ⟨rfl, by omega, by omega, by omega⟩ | decide | (simp only [List.length_drop, List.length_take, List.length_append, List.length_set, List.length_cons, List.length_nil, OrOk] at *; omega) | (simp; omega))
      | (apply sp_i; first | exact rfl | omega | exact ⟨rfl, rfl, by omega⟩ | exact ⟨rfl, by omega⟩ | exact ⟨rfl, by omega, by omega, by omega⟩ | decide | (simp only [List.length_drop, List.length_take, List.length_append, List.length_set, List.length_cons, List.length_nil, OrOk] at *; omega) | (simp; omega))
      | (apply sc_true) | (apply sc_false)
      | (first | apply sc_lt | apply sc_nlt | apply sc_eq | apply sc_neq | apply sc_nil | apply sc_nnil | apply sc_seq | apply sc_nseq); all_goals (intro hb; try (first | (exfalso; omega) | exact absurd rfl hb))
      | (apply sc_not) | (apply sc_or) | (apply sc_i; all_goals intro hb)
      | (first | apply ix_nat | apply ix_int); first | omega | (simp only [List.length_drop, List.length_take, List.length_append, List.length_set, List.length_cons, List.length_nil] at *; omega)
      | (apply bx_i; intro hbd)
      | (first | apply sd_nat | apply sd_int | apply sl_nat | apply sl_int); first | omega | (simp only [List.length_drop, List.length_take, List.length_append, List.length_set, List.length_cons, List.length_nil] at *; omega)
      | (apply cx_is; first | fail) | (apply cx_do (i := 0) rfl; first | fail)
      | (apply ab_i; intro bl) | (apply as_i; intro va vk vc) | (apply av_i; intro v) | (apply ac_i; intro bl cap hcap)
      | (apply bo_l) | (apply ch_r; apply sp_i; intro i hi; exact ⟨rfl, rfl, rfl⟩) | (apply nx_i; all_goals intro hnx)
      | (apply Ia.hit; assumption) | (apply Ia.miss; assumption)
      | (apply rt_is; exact rfl) | (apply rt_do; exact rfl; (repeat (first | exact List.nil_sublist _ | apply List.Sublist.cons_cons))) | (apply iv; assumption)
      | (apply dw_q mixed hC hGL (by kernel_rfl))
      | (apply cq; assumption; (first | fail); exact rfl))
  all_goals (try conv => whnf)
  refine lp hC hGL (fun (i : Nat) => [(0, .str s), (6, .own 0 (.slice (some ⟨bl, 0, none⟩) s.length cap)), (7, .int .i64 s.length), (8, .int .i64 i)]) (fun _ => [.buf bl s cap]) (fun i => i ≤ s.length ∧ ∀ j, j < i → letterB (byteAt s j) = true) (fun i => s.length - i) 0 ?_ (by repeat (first | exact trivial | refine And.intro rfl ?_)) rfl ?_
  · exact ⟨Nat.zero_le _, by intro j hj; omega⟩
  rintro i ⟨hi, hb0⟩
  repeat' (first
    | (conv => whnf); first
      | (apply ch_l; apply sp_i; first | exact rfl | omega | exact ⟨rfl, rfl, by omega⟩ | exact ⟨rfl, by omega⟩ | exact ⟨rfl, by omega, by omega, by omega⟩ | decide | (simp only [List.length_drop, List.length_take, List.length_append, List.length_set, List.length_cons, List.length_nil, OrOk] at *; omega) | (simp; omega))
      | (apply sp_i; first | exact rfl | omega | exact ⟨rfl, rfl, by omega⟩ | exact ⟨rfl, by omega⟩ | exact ⟨rfl, by omega, by omega, by omega⟩ | decide | (simp only [List.length_drop, List.length_take, List.length_append, List.length_set, List.length_cons, List.length_nil, OrOk] at *; omega) | (simp; omega))
      | (apply sc_true) | (apply sc_false)
      | (first | apply sc_lt | apply sc_nlt | apply sc_eq | apply sc_neq | apply sc_nil | apply sc_nnil | apply sc_seq | apply sc_nseq); all_goals (intro hb; try (first | (exfalso; omega) | exact absurd rfl hb))
      | (apply sc_not) | (apply sc_or) | (apply sc_i; all_goals intro hb)
      | (first | apply ix_nat | apply ix_int); first | omega | (simp only [List.length_drop, List.length_take, List.length_append, List.length_set, List.length_cons, List.length_nil] at *; omega)
      | (apply bx_i; intro hbd)
      | (first | apply sd_nat | apply sd_int | apply sl_nat | apply sl_int); first | omega | (simp only [List.length_drop, List.length_take, List.length_append, List.length_set, List.length_cons, List.length_nil] at *; omega)
      | (apply cx_is; first | exact hT | exact hW | (exact hI _ (by omega) (by omega))) | (apply cx_do (i := 0) rfl; first | exact hT | exact hW | (exact hI _ (by omega) (by omega)))
      | (apply ab_i; intro bl) | (apply as_i; intro va vk vc) | (apply av_i; intro v) | (apply ac_i; intro bl cap hcap)
      | (apply bo_l) | (apply ch_r; apply sp_i; intro i hi; exact ⟨rfl, rfl, rfl⟩) | (apply nx_i; all_goals intro hnx)
      | (apply Ia.hit; assumption) | (apply Ia.miss; assumption)
      | (apply rt_is; exact rfl) | (apply rt_do; exact rfl; (repeat (first | exact List.nil_sublist _ | apply List.Sublist.cons_cons))) | (apply iv; assumption)
      | (apply dw_q mixed hC hGL (by kernel_rfl))
      | (apply cq; assumption; (first | exact hT | exact hW | (exact hI _ (by omega) (by omega))); exact rfl))
  all_goals (try conv => whnf)
  · apply rt_is
    have hx := idx_letter (c := (byteAt s i : Int)) (by omega) (by omega)
    rw [decide_eq_true hb] at hx
    rw [isS, allB_f (j := i) (by omega) (by simpa using hx.symm)]
    rfl
  · have hx := idx_letter (c := (byteAt s i : Int)) (by omega) (by omega)
    rw [decide_eq_false (by omega)] at hx
    refine nxt (i + 1) ?_ ?_ (by repeat (first | exact trivial | refine And.intro rfl ?_)) rfl
    · exact ⟨by omega, below_succ hb0 (by simpa using hx.symm)⟩
    · omega
  · apply rt_is
    refine congrArg AVal.bool ?_
    have ha : allB letterB s = true := allB_t.2 fun j hj => hb0 j (by omega)
    simp only [isS, ha, Bool.true_and]
    rw [Bool.eq_iff_iff]
    simp only [Bool.and_eq_true, decide_eq_true_eq]
    omega
theorem idx_up {c : Int} (h0 : 0 ≤ c) (h1 : c ≤ 255) : (if 0 ≤ idxB abcL c then idxB abcL c < 26 ∧ (byteAt abcU (idxB abcL c).toNat : Int) = turnN 97 122 (-32) c.toNat else turnN 97 122 (-32) c.toNat = c) := by
  have := all_bytes (p := fun c => decide (if 0 ≤ idxB abcL c then idxB abcL c < 26 ∧ (byteAt abcU (idxB abcL c).toNat : Int) = turnN 97 122 (-32) c.toNat else turnN 97 122 (-32) c.toNat = c)) (by decide +kernel) h0 h1
  simpa using this
theorem idx_low {c : Int} (h0 : 0 ≤ c) (h1 : c ≤ 255) : (if 0 ≤ idxB abcU c then idxB abcU c < 26 ∧ (byteAt abcL (idxB abcU c).toNat : Int) = turnN 65 90 32 c.toNat else turnN 65 90 32 c.toNat = c) := by
  have := all_bytes (p := fun c => decide (if 0 ≤ idxB abcU c then idxB abcU c < 26 ∧ (byteAt abcL (idxB abcU c).toNat : Int) = turnN 65 90 32 c.toNat else turnN 65 90 32 c.toNat = c)) (by decide +kernel) h0 h1
  simpa using this
theorem ref_Upper {G : Glo} (s : List UInt8) (hl : s.length ≤ 9223372036854775807) : FnIs Tryd.prog G 15 [.str s] (.str (turnS 97 122 (-32) s)) := by
  have hGL : GloAll G [] := gloAll_nil
  refine fn_x Tryd.func15 Tryd.call15 rfl rfl rfl rfl hGL ?_
  intro C hC
  have hT := toLower_abc (G := G)
  have hcT := Tryd.call58
  have hcI := Tryd.call57
  have hI := fun c h0 h1 => strings_IndexByte (G := G) abcL c h0 h1
  have eU : abcU.length = 26 := rfl
  repeat' (first
    | (conv => whnf); first
      | (apply ch_l; apply sp_i; first | exact rfl | omega | exact ⟨rfl, rfl, by omega⟩ | exact ⟨rfl, by omega⟩ | exact ⟨rfl, by omega, by omega, by omega⟩ | decide | (simp only [List.length_drop, List.length_take, List.length_append, List.length_set, List.length_cons, List.length_nil, OrOk] at *; omega) | (simp; omega))
      | (apply sp_i; first | exact rfl | omega | exact ⟨rfl, rfl, by omega⟩ | exact ⟨rfl, by omega⟩ | exact ⟨rfl, by omega, by omega, by omega⟩ | decide | (simp only [List.length_drop, List.length_take, List.length_append, List.length_set, List.length_cons, List.length_nil, OrOk] at *; omega) | (simp; omega))
      | (apply sc_true) | (apply sc_false)
      | (first | apply sc_lt | apply sc_nlt | apply sc_eq | apply sc_neq | apply sc_nil | apply sc_nnil | apply sc_seq | apply sc_nseq); all_goals (intro hb; try (first | (exfalso; omega) | exact absurd rfl hb))
      | (apply sc_not) | (apply sc_or) | (apply sc_i; all_goals intro hb)
      | (first | apply ix_nat | apply ix_int); first | omega | (simp only [List.length_drop, List.length_take, List.length_append, List.length_set, List.length_cons, List.length_nil] at *; omega)
      | (apply bx_i; intro hbd)
      | (first | apply sd_nat | apply sd_int | apply sl_nat | apply sl_int); first | omega | (simp only [List.length_drop, List.length_take, List.length_append, List.length_set, List.length_cons, List.length_nil] at *; omega)
      | (apply cx_is; first | fail) | (apply cx_do (i := 0) rfl; first | fail)
      | (apply ab_i; intro bl) | (apply as_i; intro va vk vc) | (apply av_i; intro v) | (apply ac_i; intro bl cap hcap)
      | (apply bo_l) | (apply ch_r; apply sp_i; intro i hi; exact ⟨rfl, rfl, rfl⟩) | (apply nx_i; all_goals intro hnx)
      | (apply Ia.hit; assumption) | (apply Ia.miss; assumption)
      | (apply rt_is; exact rfl) | (apply rt_do; exact rfl; (repeat (first | exact List.nil_sublist _ | apply List.Sublist.cons_cons))) | (apply iv; assumption)
      | (apply dw_q mixed hC hGL (by kernel_rfl))
      | (apply cq; assumption; (first | fail); exact rfl))
  all_goals (try conv => whnf)
  refine lp hC hGL (fun (x : Nat × List UInt8) => [(3, .own 0 (.slice (some ⟨bl, 0, none⟩) s.length cap)), (9, .int .i64 s.length), (10, .int .i64 x.1)]) (fun x => [.buf bl x.2 cap]) (Turned 97 122 (-32) s) (fun x => s.length - x.1) (0, s) ?_ (by repeat (first | exact trivial | refine And.intro rfl ?_)) rfl ?_
  · exact turned_0
  rintro ⟨i, t⟩ hI0
  have hi := hI0.1
  have ht := hI0.2.1
  dsimp only at hi ht ⊢
  repeat' (first
    | (conv => whnf); first
      | (apply ch_l; apply sp_i; first | exact rfl | omega | exact ⟨rfl, rfl, by omega⟩ | exact ⟨rfl, by omega⟩ | exact ⟨rfl, by omega, by omega, by omega⟩ | decide | (simp only [List.length_drop, List.length_take, List.length_append, List.length_set, List.length_cons, List.length_nil, OrOk] at *; omega) | (simp; omega))
      | (apply sp_i; first | exact rfl | omega | exact ⟨rfl, rfl, by omega⟩ | exact ⟨rfl, by omega⟩ | exact ⟨rfl, by omega, by omega, by omega⟩ | decide | (simp only [List.length_drop, List.length_take, List.length_append, List.length_set, List.length_cons, List.length_nil, OrOk] at *; omega) | (simp; omega))
      | (apply sc_true) | (apply sc_false)
      | (first | apply sc_lt | apply sc_nlt | apply sc_eq | apply sc_neq | apply sc_nil | apply sc_nnil | apply sc_seq | apply sc_nseq); all_goals (intro hb; try (first | (exfalso; omega) | exact absurd rfl hb))
      | (apply sc_not) | (apply sc_or) | (apply sc_i; all_goals intro hb)
      | (first | apply ix_nat | apply ix_int); first | omega | (simp only [List.length_drop, List.length_take, List.length_append, List.length_set, List.length_cons, List.length_nil] at *; omega)
      | (apply bx_i; intro hbd)
      | (first | apply sd_nat | apply sd_int | apply sl_nat | apply sl_int); first | omega | (simp only [List.length_drop, List.length_take, List.length_append, List.length_set, List.length_cons, List.length_nil] at *; omega)
      | (apply cx_is; first | exact hT | (exact hI _ (by omega) (by omega))) | (apply cx_do (i := 0) rfl; first | exact hT | (exact hI _ (by omega) (by omega)))
      | (apply ab_i; intro bl) | (apply as_i; intro va vk vc) | (apply av_i; intro v) | (apply ac_i; intro bl cap hcap)
      | (apply bo_l) | (apply ch_r; apply sp_i; intro i hi; exact ⟨rfl, rfl, rfl⟩) | (apply nx_i; all_goals intro hnx)
      | (apply Ia.hit; assumption) | (apply Ia.miss; assumption)
      | (apply rt_is; exact rfl) | (apply rt_do; exact rfl; (repeat (first | exact List.nil_sublist _ | apply List.Sublist.cons_cons))) | (apply iv; assumption)
      | (apply dw_q mixed hC hGL (by kernel_rfl))
      | (apply cq; assumption; (first | exact hT | (exact hI _ (by omega) (by omega))); exact rfl))
  all_goals (try conv => whnf)
  · have e := turned_at hI0 (by omega)
    have hx := idx_up (c := (byteAt s i : Int)) (by omega) (by omega)
    rw [if_pos (by rw [← e]; exact hb), ← e] at hx
    repeat' (first
      | (conv => whnf); first
        | (apply ch_l; apply sp_i; first | exact rfl | omega | exact ⟨rfl, rfl, by omega⟩ | exact ⟨rfl, by omega⟩ | exact ⟨rfl, by omega, by omega, by omega⟩ | decide | (simp only [List.length_drop, List.length_take, List.length_append, List.length_set, List.length_cons, List.length_nil, OrOk] at *; omega) | (simp; omega))
        | (apply sp_i; first | exact rfl | omega | exact ⟨rfl, rfl, by omega⟩ | exact ⟨rfl, by omega⟩ | exact ⟨rfl, by omega, by omega, by omega⟩ | decide | (simp only [List.length_drop, List.length_take, List.length_append, List.length_set, List.length_cons, List.length_nil, OrOk] at *; omega) | (simp; omega))
        | (apply sc_true) | (apply sc_false)
        | (first | apply sc_lt | apply sc_nlt | apply sc_eq | apply sc_neq | apply sc_nil | apply sc_nnil | apply sc_seq | apply sc_nseq); all_goals (intro hb; try (first | (exfalso; omega) | exact absurd rfl hb))
        | (apply sc_not) | (apply sc_or) | (apply sc_i; all_goals intro hb)
        | (first | apply ix_nat | apply ix_int); first | omega | (simp only [List.length_drop, List.length_take, List.length_append, List.length_set, List.length_cons, List.length_nil] at *; omega)
        | (apply bx_i; intro hbd)
        | (first | apply sd_nat | apply sd_int | apply sl_nat | apply sl_int); first | omega | (simp only [List.length_drop, List.length_take, List.length_append, List.length_set, List.length_cons, List.length_nil] at *; omega)
        | (apply cx_is; first | fail) | (apply cx_do (i := 0) rfl; first | fail)
        | (apply ab_i; intro bl) | (apply as_i; intro va vk vc) | (apply av_i; intro v) | (apply ac_i; intro bl cap hcap)
        | (apply bo_l) | (apply ch_r; apply sp_i; intro i hi; exact ⟨rfl, rfl, rfl⟩) | (apply nx_i; all_goals intro hnx)
        | (apply Ia.hit; assumption) | (apply Ia.miss; assumption)
        | (apply rt_is; exact rfl) | (apply rt_do; exact rfl; (repeat (first | exact List.nil_sublist _ | apply List.Sublist.cons_cons))) | (apply iv; assumption)
        | (apply dw_q mixed hC hGL (by kernel_rfl))
        | (apply cq; assumption; (first | fail); exact rfl))
    all_goals (try conv => whnf)
    refine nxt (i + 1, t.set i (UInt8.ofNat ((byteAt abcU (idxB abcL (byteAt t i)).toNat : Nat) : Int).toNat)) ?_ ?_ (by repeat (first | exact trivial | refine And.intro rfl ?_)) rfl
    · refine turned_hit hI0 (by omega) ?_ (by omega) (by have := byteAt_lt abcU (idxB abcL (byteAt t i)).toNat; omega)
      rw [hx.2, e]
      simp only [Int.toNat_natCast]
    · dsimp only; omega
  · have e := turned_at hI0 (by omega)
    have hx := idx_up (c := (byteAt s i : Int)) (by omega) (by omega)
    rw [if_neg (by rw [← e]; omega)] at hx
    refine nxt (i + 1, t) ?_ ?_ (by repeat (first | exact trivial | refine And.intro rfl ?_)) rfl
    · exact turned_miss hI0 (by omega) (by simpa using hx)
    · dsimp only; omega
  · apply rt_is
    rw [turned_end (by decide) (by decide) hI0 (by omega)]
theorem ref_Lower {G : Glo} (s : List UInt8) (hl : s.length ≤ 9223372036854775807) : FnIs Tryd.prog G 17 [.str s] (.str (turnS 65 90 32 s)) := by
  have hGL : GloAll G [] := gloAll_nil
  refine fn_x Tryd.func17 Tryd.call17 rfl rfl rfl rfl hGL ?_
  intro C hC
  have hT := toLower_abc (G := G)
  have hI := fun c h0 h1 => strings_IndexByte (G := G) abcU c h0 h1
  have eL : abcL.length = 26 := rfl
  repeat' (first
    | (conv => whnf); first
      | (apply ch_l; apply sp_i; first | exact rfl | omega | exact ⟨rfl, rfl, by omega⟩ | exact ⟨rfl, by omega⟩ | exact ⟨rfl, by omega, by omega, by omega⟩ | decide | (simp only [List.length_drop, List.length_take, List.length_append, List.length_set, List.length_cons, List.length_nil, OrOk] at *; omega) | (simp; omega))
      | (apply sp_i; first | exact rfl | omega | exact ⟨rfl, rfl, by omega⟩ | exact ⟨rfl, by omega⟩ | exact ⟨rfl, by omega, by omega, by omega⟩ | decide | (simp only [List.length_drop, List.length_take, List.length_append, List.length_set, List.length_cons, List.length_nil, OrOk] at *; omega) | (simp; omega))
      | (apply sc_true) | (apply sc_false)
      | (first | apply sc_lt | apply sc_nlt | apply sc_eq | apply sc_neq | apply sc_nil | apply sc_nnil | apply sc_seq | apply sc_nseq); all_goals (intro hb; try (first | (exfalso; omega) | exact absurd rfl hb))
      | (apply sc_not) | (apply sc_or) | (apply sc_i; all_goals intro hb)
      | (first | apply ix_nat | apply ix_int); first | omega | (simp only [List.length_drop, List.length_take, List.length_append, List.length_set, List.length_cons, List.length_nil] at *; omega)
      | (apply bx_i; intro hbd)
      | (first | apply sd_nat | apply sd_int | apply sl_nat | apply sl_int); first | omega | (simp only [List.length_drop, List.length_take, List.length_append, List.length_set, List.length_cons, List.length_nil] at *; omega)
      | (apply cx_is; first | fail) | (apply cx_do (i := 0) rfl; first | fail)
      | (apply ab_i; intro bl) | (apply as_i; intro va vk vc) | (apply av_i; intro v) | (apply ac_i; intro bl cap hcap)
      | (apply bo_l) | (apply ch_r; apply sp_i; intro i hi; exact ⟨rfl, rfl, rfl⟩) | (apply nx_i; all_goals intro hnx)
      | (apply Ia.hit; assumption) | (apply Ia.miss; assumption)
      | (apply rt_is; exact rfl) | (apply rt_do; exact rfl; (repeat (first | exact List.nil_sublist _ | apply List.Sublist.cons_cons))) | (apply iv; assumption)
      | (apply dw_q mixed hC hGL (by kernel_rfl))
      | (apply cq; assumption; (first | fail); exact rfl))
  all_goals (try conv => whnf)
  refine lp hC hGL (fun (x : Nat × List UInt8) => [(3, .own 0 (.slice (some ⟨bl, 0, none⟩) s.length cap)), (9, .int .i64 s.length), (10, .int .i64 x.1)]) (fun x => [.buf bl x.2 cap]) (Turned 65 90 32 s) (fun x => s.length - x.1) (0, s) ?_ (by repeat (first | exact trivial | refine And.intro rfl ?_)) rfl ?_
  · exact turned_0
  rintro ⟨i, t⟩ hI0
  have hi := hI0.1
  have ht := hI0.2.1
  dsimp only at hi ht ⊢
  repeat' (first
    | (conv => whnf); first
      | (apply ch_l; apply sp_i; first | exact rfl | omega | exact ⟨rfl, rfl, by omega⟩ | exact ⟨rfl, by omega⟩ | exact ⟨rfl, by omega, by omega, by omega⟩ | decide | (simp only [List.length_drop, List.length_take, List.length_append, List.length_set, List.length_cons, List.length_nil, OrOk] at *; omega) | (simp; omega))
      | (apply sp_i; first | exact rfl | omega | exact ⟨rfl, rfl, by omega⟩ | exact ⟨rfl, by omega⟩ | exact ⟨rfl, by omega, by omega, by omega⟩ | decide | (simp only [List.length_drop, List.length_take, List.length_append, List.length_set, List.length_cons, List.length_nil, OrOk] at *; omega) | (simp; omega))
      | (apply sc_true) | (apply sc_false)
      | (first | apply sc_lt | apply sc_nlt | apply sc_eq | apply sc_neq | apply sc_nil | apply sc_nnil | apply sc_seq | apply sc_nseq); all_goals (intro hb; try (first | (exfalso; omega) | exact absurd rfl hb))
      | (apply sc_not) | (apply sc_or) | (apply sc_i; all_goals intro hb)
      | (first | apply ix_nat | apply ix_int); first | omega | (simp only [List.length_drop, List.length_take, List.length_append, List.length_set, List.length_cons, List.length_nil] at *; omega)
      | (apply bx_i; intro hbd)
      | (first | apply sd_nat | apply sd_int | apply sl_nat | apply sl_int); first | omega | (simp only [List.length_drop, List.length_take, List.length_append, List.length_set, List.length_cons, List.length_nil] at *; omega)
      | (apply cx_is; first | exact hT | (exact hI _ (by omega) (by omega))) | (apply cx_do (i := 0) rfl; first | exact hT | (exact hI _ (by omega) (by omega)))
      | (apply ab_i; intro bl) | (apply as_i; intro va vk vc) | (apply av_i; intro v) | (apply ac_i; intro bl cap hcap)
      | (apply bo_l) | (apply ch_r; apply sp_i; intro i hi; exact ⟨rfl, rfl, rfl⟩) | (apply nx_i; all_goals intro hnx)
      | (apply Ia.hit; assumption) | (apply Ia.miss; assumption)
      | (apply rt_is; exact rfl) | (apply rt_do; exact rfl; (repeat (first | exact List.nil_sublist _ | apply List.Sublist.cons_cons))) | (apply iv; assumption)
      | (apply dw_q mixed hC hGL (by kernel_rfl))
      | (apply cq; assumption; (first | exact hT | (exact hI _ (by omega) (by omega))); exact rfl))
  all_goals (try conv => whnf)
  · have e := turned_at hI0 (by omega)
    have hx := idx_low (c := (byteAt s i : Int)) (by omega) (by omega)
    rw [if_pos (by rw [← e]; exact hb), ← e] at hx
    repeat' (first
      | (conv => whnf); first
        | (apply ch_l; apply sp_i; first | exact rfl | omega | exact ⟨rfl, rfl, by omega⟩ | exact ⟨rfl, by omega⟩ | exact ⟨rfl, by omega, by omega, by omega⟩ | decide | (simp only [List.length_drop, List.length_take, List.length_append, List.length_set, List.length_cons, List.length_nil, OrOk] at *; omega) | (simp; omega))
        | (apply sp_i; first | exact rfl | omega | exact ⟨rfl, rfl, by omega⟩ | exact ⟨rfl, by omega⟩ | exact ⟨rfl, by omega, by omega, by omega⟩ | decide | (simp only [List.length_drop, List.length_take, List.length_append, List.length_set, List.length_cons, List.length_nil, OrOk] at *; omega) | (simp; omega))
        | (apply sc_true) | (apply sc_false)
        | (first | apply sc_lt | apply sc_nlt | apply sc_eq | apply sc_neq | apply sc_nil | apply sc_nnil | apply sc_seq | apply sc_nseq); all_goals (intro hb; try (first | (exfalso; omega) | exact absurd rfl hb))
        | (apply sc_not) | (apply sc_or) | (apply sc_i; all_goals intro hb)
        | (first | apply ix_nat | apply ix_int); first | omega | (simp only [List.length_drop, List.length_take, List.length_append, List.length_set, List.length_cons, List.length_nil] at *; omega)
        | (apply bx_i; intro hbd)
        | (first | apply sd_nat | apply sd_int | apply sl_nat | apply sl_int); first | omega | (simp only [List.length_drop, List.length_take, List.length_append, List.length_set, List.length_cons, List.length_nil] at *; omega)
        | (apply cx_is; first | exact hT) | (apply cx_do (i := 0) rfl; first | exact hT)
        | (apply ab_i; intro bl) | (apply as_i; intro va vk vc) | (apply av_i; intro v) | (apply ac_i; intro bl cap hcap)
        | (apply bo_l) | (apply ch_r; apply sp_i; intro i hi; exact ⟨rfl, rfl, rfl⟩) | (apply nx_i; all_goals intro hnx)
        | (apply Ia.hit; assumption) | (apply Ia.miss; assumption)
        | (apply rt_is; exact rfl) | (apply rt_do; exact rfl; (repeat (first | exact List.nil_sublist _ | apply List.Sublist.cons_cons))) | (apply iv; assumption)
        | (apply dw_q mixed hC hGL (by kernel_rfl))
        | (apply cq; assumption; (first | exact hT); exact rfl))
    all_goals (try conv => whnf)
    refine nxt (i + 1, t.set i (UInt8.ofNat ((byteAt abcL (idxB abcU (byteAt t i)).toNat : Nat) : Int).toNat)) ?_ ?_ (by repeat (first | exact trivial | refine And.intro rfl ?_)) rfl
    · refine turned_hit hI0 (by omega) ?_ (by omega) (by have := byteAt_lt abcL (idxB abcU (byteAt t i)).toNat; omega)
      rw [hx.2, e]
      simp only [Int.toNat_natCast]
    · dsimp only; omega
  · have e := turned_at hI0 (by omega)
    have hx := idx_low (c := (byteAt s i : Int)) (by omega) (by omega)
    rw [if_neg (by rw [← e]; omega)] at hx
    refine nxt (i + 1, t) ?_ ?_ (by repeat (first | exact trivial | refine And.intro rfl ?_)) rfl
    · exact turned_miss hI0 (by omega) (by simpa using hx)
    · dsimp only; omega
  · apply rt_is
    rw [turned_end (by decide) (by decide) hI0 (by omega)]
/-- Letters made small are the same where, made great, they are. -/
theorem up_low {a b : List UInt8} : seqB (turnS 97 122 (-32) a) (turnS 97 122 (-32) b) = seqB (turnS 65 90 32 a) (turnS 65 90 32 b) := by
  have key : ∀ x y : Nat, x < 256 → y < 256 → (turnN 97 122 (-32) x = turnN 97 122 (-32) y ↔ turnN 65 90 32 x = turnN 65 90 32 y) := by
    intro x y hx hy
    unfold turnN
    split <;> split <;> split <;> split <;> omega
  rw [Bool.eq_iff_iff, seqB_t, seqB_t]
  have go : ∀ (lo hi d lo' hi' d' : Int), 0 ≤ lo + d → hi + d ≤ 255 → 0 ≤ lo' + d' → hi' + d' ≤ 255 → (∀ x y : Nat, x < 256 → y < 256 → (turnN lo hi d x = turnN lo hi d y → turnN lo' hi' d' x = turnN lo' hi' d' y)) → turnS lo hi d a = turnS lo hi d b → turnS lo' hi' d' a = turnS lo' hi' d' b := by
    intro lo hi d lo' hi' d' h1 h2 h3 h4 hk h
    have hl : a.length = b.length := by have := congrArg List.length h; simpa [turnS] using this
    refine ext_byteAt (by simp [turnS, hl]) (fun j hj => ?_)
    have hj : j < b.length := by simpa [turnS] using hj
    have e1 := byteAt_turn h1 h2 (s := a) (j := j) (by omega)
    have e2 := byteAt_turn h1 h2 (s := b) (j := j) hj
    have e3 := byteAt_turn h3 h4 (s := a) (j := j) (by omega)
    have e4 := byteAt_turn h3 h4 (s := b) (j := j) hj
    rw [h] at e1
    have := hk _ _ (byteAt_lt a j) (byteAt_lt b j) (by rw [← e1, ← e2])
    omega
  exact ⟨go _ _ _ _ _ _ (by decide) (by decide) (by decide) (by decide) (fun x y hx hy h => (key x y hx hy).1 h), go _ _ _ _ _ _ (by decide) (by decide) (by decide) (by decide) (fun x y hx hy h => (key x y hx hy).2 h)⟩
theorem law_NameTurns {G : Glo} (a b : List UInt8) (ha : a.length ≤ 9223372036854775807) (hb : b.length ≤ 9223372036854775807) : FnIs Tryd.prog G 3 [.str a, .str b] (.bool true) := by
  have hGL : GloAll G [] := gloAll_nil
  refine fn_x Tryd.func3 Tryd.call3 rfl rfl rfl rfl hGL ?_
  intro C hC
  have e1 := name_Is (G := G) a ha
  have e2 := ref_Is (G := G) a ha
  have e3 := name_Upper (G := G) a ha
  have e4 := ref_Upper (G := G) a ha
  have e5 := name_Lower (G := G) a ha
  have e6 := ref_Lower (G := G) a ha
  have e7 := name_Same (G := G) a b ha hb
  have e8 := ref_Lower (G := G) b hb
  repeat' (first
    | (conv => whnf); first
      | (apply ch_l; apply sp_i; first | exact rfl | omega | exact ⟨rfl, rfl, by omega⟩ | exact ⟨rfl, by omega⟩ | exact ⟨rfl, by omega, by omega, by omega⟩ | decide | (simp only [List.length_drop, List.length_take, List.length_append, List.length_set, List.length_cons, List.length_nil, OrOk] at *; omega) | (simp; omega))
      | (apply sp_i; first | exact rfl | omega | exact ⟨rfl, rfl, by omega⟩ | exact ⟨rfl, by omega⟩ | exact ⟨rfl, by omega, by omega, by omega⟩ | decide | (simp only [List.length_drop, List.length_take, List.length_append, List.length_set, List.length_cons, List.length_nil, OrOk] at *; omega) | (simp; omega))
      | (apply sc_true) | (apply sc_false)
      | (first | apply sc_lt | apply sc_nlt | apply sc_eq | apply sc_neq | apply sc_nil | apply sc_nnil | apply sc_seq | apply sc_nseq); all_goals (intro hb; try (first | (exfalso; omega) | exact absurd rfl hb))
      | (apply sc_not) | (apply sc_or) | (apply sc_i; all_goals intro hb)
      | (first | apply ix_nat | apply ix_int); first | omega | (simp only [List.length_drop, List.length_take, List.length_append, List.length_set, List.length_cons, List.length_nil] at *; omega)
      | (apply bx_i; intro hbd)
      | (first | apply sd_nat | apply sd_int | apply sl_nat | apply sl_int); first | omega | (simp only [List.length_drop, List.length_take, List.length_append, List.length_set, List.length_cons, List.length_nil] at *; omega)
      | (apply cx_is; first | exact e1 | exact e2 | exact e3 | exact e4 | exact e5 | exact e6 | exact e7 | exact e8) | (apply cx_do (i := 0) rfl; first | exact e1 | exact e2 | exact e3 | exact e4 | exact e5 | exact e6 | exact e7 | exact e8)
      | (apply ab_i; intro bl) | (apply as_i; intro va vk vc) | (apply av_i; intro v) | (apply ac_i; intro bl cap hcap)
      | (apply bo_l) | (apply ch_r; apply sp_i; intro i hi; exact ⟨rfl, rfl, rfl⟩) | (apply nx_i; all_goals intro hnx)
      | (apply Ia.hit; assumption) | (apply Ia.miss; assumption)
      | (apply rt_is; exact rfl) | (apply rt_do; exact rfl; (repeat (first | exact List.nil_sublist _ | apply List.Sublist.cons_cons))) | (apply iv; assumption)
      | (apply dw_q mixed hC hGL (by kernel_rfl))
      | (apply cq; assumption; (first | exact e1 | exact e2 | exact e3 | exact e4 | exact e5 | exact e6 | exact e7 | exact e8); exact rfl))
  all_goals (try conv => whnf)
  apply ch_r
  repeat' (first
    | (conv => whnf); first
      | (apply ch_l; apply sp_i; first | exact rfl | omega | exact ⟨rfl, rfl, by omega⟩ | exact ⟨rfl, by omega⟩ | exact ⟨rfl, by omega, by omega, by omega⟩ | decide | (simp only [List.length_drop, List.length_take, List.length_append, List.length_set, List.length_cons, List.length_nil, OrOk] at *; omega) | (simp; omega))
      | (apply sp_i; first | exact rfl | omega | exact ⟨rfl, rfl, by omega⟩ | exact ⟨rfl, by omega⟩ | exact ⟨rfl, by omega, by omega, by omega⟩ | decide | (simp only [List.length_drop, List.length_take, List.length_append, List.length_set, List.length_cons, List.length_nil, OrOk] at *; omega) | (simp; omega))
      | (apply sc_true) | (apply sc_false)
      | (first | apply sc_lt | apply sc_nlt | apply sc_eq | apply sc_neq | apply sc_nil | apply sc_nnil | apply sc_seq | apply sc_nseq); all_goals (intro hb; try (first | (exfalso; omega) | exact absurd rfl hb))
      | (apply sc_not) | (apply sc_or) | (apply sc_i; all_goals intro hb)
      | (first | apply ix_nat | apply ix_int); first | omega | (simp only [List.length_drop, List.length_take, List.length_append, List.length_set, List.length_cons, List.length_nil] at *; omega)
      | (apply bx_i; intro hbd)
      | (first | apply sd_nat | apply sd_int | apply sl_nat | apply sl_int); first | omega | (simp only [List.length_drop, List.length_take, List.length_append, List.length_set, List.length_cons, List.length_nil] at *; omega)
      | (apply cx_is; first | exact e1 | exact e2 | exact e3 | exact e4 | exact e5 | exact e6 | exact e7 | exact e8) | (apply cx_do (i := 0) rfl; first | exact e1 | exact e2 | exact e3 | exact e4 | exact e5 | exact e6 | exact e7 | exact e8)
      | (apply ab_i; intro bl) | (apply as_i; intro va vk vc) | (apply av_i; intro v) | (apply ac_i; intro bl cap hcap)
      | (apply bo_l) | (apply ch_r; apply sp_i; intro i hi; exact ⟨rfl, rfl, rfl⟩) | (apply nx_i; all_goals intro hnx)
      | (apply Ia.hit; assumption) | (apply Ia.miss; assumption)
      | (apply rt_is; exact rfl) | (apply rt_do; exact rfl; (repeat (first | exact List.nil_sublist _ | apply List.Sublist.cons_cons))) | (apply iv; assumption)
      | (apply dw_q mixed hC hGL (by kernel_rfl))
      | (apply cq; assumption; (first | exact e1 | exact e2 | exact e3 | exact e4 | exact e5 | exact e6 | exact e7 | exact e8); exact rfl))
  all_goals (try conv => whnf)
  · apply rt_is
    rw [up_low]
    simp only [beq_self_eq_true]
  · simp at hb
end Go.Proofs.YtlmihggafbmkaaaDoor
