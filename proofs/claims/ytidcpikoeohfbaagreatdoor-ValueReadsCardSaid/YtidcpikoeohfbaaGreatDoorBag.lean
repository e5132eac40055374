/- Parts of the proof of valueReads_card: Lan, Esn, Tja, Hda, Vla, Mak, Wha, Mxc, Whb, Wk, Whc, Whd, Zop, Scu, Wpa. -/
import Derived.Lib.Join
import Derived.Laws.MakeOwn
import Derived.Laws.IdiomCopy
import Derived.Lib.AtoiAll
import Derived.Test.YtidcpikoeohfbaaGreatDoorBae
import Derived.Test.YtidcpikoeohfbaaGreatDoorBaf
import Derived.Test.YtidcpikoeohfbaaGreatDoorBad
import Derived.Test.YtidcpikoeohfbaaGreatDoorBaa
set_option linter.unusedVariables false
set_option linter.unusedSimpArgs false
namespace Go.Proofs.YtidcpikoeohfbaaGreatDoor
open Go Go.RowKit
/-- A byte that may stand in a piece. -/
def lgB (first : Bool) (c : Int) : Bool := letterB c && !(first && decide (c ≤ 57))
/-- What is wrong with a piece that begins at a byte. -/
def pieceX (first : Bool) (a : Nat) (x : List UInt8) : Err :=
  if 0 ≤ fstB (fun c => !lgB first c) x then .at 3 (a + fstB (fun c => !lgB first c) x) else if x.length = 0 then .at 7 a else if 8 < x.length then .at 4 a else .none
def Err.isNone : Err → Bool
  | .none => true
  | _ => false
def langE : Bool → Nat → List (List UInt8) → Err
  | _, _, [] => .none
  | first, a, x :: xs => if (pieceX first a x).isNone then langE false (a + x.length + 1) xs else pieceX first a x
def langX (s : List UInt8) : Err := langE true 0 (splS 45 s)
theorem splS_mem {c : UInt8} : ∀ {s p : List UInt8}, p ∈ splS c s → c ∉ p
  | [], p, h => by simp [splS] at h; subst h; simp
  | x :: t, p, h => by
    by_cases hx : x = c
    · rw [splS, if_pos hx] at h
      rcases List.mem_cons.1 h with rfl | h
      · simp
      · exact splS_mem h
    · rw [splS, if_neg hx] at h
      cases h1 : splS c t with
      | nil => exact absurd h1 (splS_ne c t)
      | cons q qs =>
        rw [h1] at h
        rcases List.mem_cons.1 h with rfl | h
        · have := splS_mem (s := t) (p := q) (c := c) (by rw [h1]; simp)
          simp [this, Ne.symm hx]
        · exact splS_mem (s := t) (by rw [h1]; simp [h])
theorem splS_at {c : UInt8} {u v : List UInt8} {x : UInt8} (hu : c ∉ u) (hx : x ≠ c) : ∃ q qs, splS c (u ++ x :: v) = (u ++ x :: q) :: qs := by
  obtain ⟨p, ps, h1, h2⟩ := splS_app (v := x :: v) hu
  rw [splS, if_neg hx] at h1
  cases h3 : splS c v with
  | nil => exact absurd h3 (splS_ne c v)
  | cons q qs =>
    rw [h3] at h1
    cases h1
    exact ⟨_, _, h2⟩
theorem byteAt_app1 {u v : List UInt8} {j : Nat} (h : j < u.length) : byteAt (u ++ v) j = byteAt u j := by
  unfold byteAt; simp [List.getD, List.getElem?_append, h]
theorem byteAt_app2 {u v : List UInt8} {j : Nat} (h : u.length ≤ j) : byteAt (u ++ v) j = byteAt v (j - u.length) := by
  unfold byteAt; simp [List.getD, List.getElem?_append, show ¬ j < u.length by omega]
theorem fst_bad {f : Int → Bool} {u q : List UInt8} {x : UInt8} (hu : ∀ j, j < u.length → f (byteAt u j : Int) = false) (hx : f (x.toNat : Int) = true) : fstB f (u ++ x :: q) = u.length := by
  refine fstB_at (by simp) ?_ (fun j hj => by rw [byteAt_app1 hj]; exact hu j hj)
  rw [byteAt_app2 (Nat.le_refl _), Nat.sub_self]
  exact hx
theorem drop_split (s : List UInt8) (k i : Nat) (h1 : k ≤ i) (h2 : i ≤ s.length) : s.drop k = (s.drop k).take (i - k) ++ s.drop i := by
  have e := (List.take_append_drop (i - k) (s.drop k)).symm
  rw [List.drop_drop, show k + (i - k) = i by omega] at e
  exact e
theorem lang_bad {s : List UInt8} {k i : Nat} (h1 : k ≤ i) (h2 : i < s.length) (hg : ∀ j, k ≤ j → j < i → byteAt s j ≠ 45 ∧ lgB (decide (k = 0)) (byteAt s j : Int) = true) (hc : byteAt s i ≠ 45) (hb : lgB (decide (k = 0)) (byteAt s i : Int) = false) (b : Bool) (hbk : b = decide (k = 0)) :
    langE b k (splS 45 (s.drop k)) = .at 3 i := by
  subst hbk
  have e := drop_split s k i h1 (by omega)
  rw [List.drop_eq_getElem_cons h2] at e
  have hl : ((s.drop k).take (i - k)).length = i - k := by rw [List.length_take, List.length_drop]; omega
  have hba : ∀ j, j < i - k → byteAt ((s.drop k).take (i - k)) j = byteAt s (k + j) := fun j hj => by rw [byteAt_take hj, drop_byteAt]
  have hu : (45 : UInt8) ∉ (s.drop k).take (i - k) := by
    intro hm
    obtain ⟨j, hj, ej⟩ := List.getElem_of_mem hm
    rw [hl] at hj
    have h3 := (hg (k + j) (by omega) (by omega)).1
    rw [← hba j hj, byteAt_getElem (by omega), ej] at h3
    exact h3 rfl
  have hx : s[i] ≠ 45 := fun h => hc (by rw [byteAt_getElem h2, h]; rfl)
  obtain ⟨q, qs, hs⟩ := splS_at (v := s.drop (i + 1)) hu hx
  rw [← e] at hs
  rw [hs, langE]
  have hf : fstB (fun c => !lgB (decide (k = 0)) c) ((s.drop k).take (i - k) ++ s[i] :: q) = ((i - k : Nat) : Int) := by
    rw [fst_bad (f := fun c => !lgB (decide (k = 0)) c), hl]
    · intro j hj
      rw [hl] at hj
      rw [hba j hj, (hg (k + j) (by omega) (by omega)).2]
      rfl
    · rw [← byteAt_getElem h2, hb]; rfl
  have hp : pieceX (decide (k = 0)) k ((s.drop k).take (i - k) ++ s[i] :: q) = .at 3 i := by
    unfold pieceX
    rw [hf, if_pos (by omega), show ((k : Nat) : Int) + ((i - k : Nat) : Int) = i by omega]
  rw [hp]
  rfl
/-- A piece's end. -/
theorem lang_end {s : List UInt8} {k i : Nat} (h1 : k ≤ i) (h2 : i ≤ s.length) (hg : ∀ j, k ≤ j → j < i → byteAt s j ≠ 45 ∧ lgB (decide (k = 0)) (byteAt s j : Int) = true) (hc : i = s.length ∨ byteAt s i = 45) (b : Bool) (hbk : b = decide (k = 0)) :
    langE b k (splS 45 (s.drop k)) = if i = k then .at 7 k else if 8 < i - k then .at 4 k else if i = s.length then .none else langE false (i + 1) (splS 45 (s.drop (i + 1))) := by
  subst hbk
  have e := drop_split s k i h1 (by omega)
  have hl : ((s.drop k).take (i - k)).length = i - k := by rw [List.length_take, List.length_drop]; omega
  have hba : ∀ j, j < i - k → byteAt ((s.drop k).take (i - k)) j = byteAt s (k + j) := fun j hj => by rw [byteAt_take hj, drop_byteAt]
  have hu : (45 : UInt8) ∉ (s.drop k).take (i - k) := by
    intro hm
    obtain ⟨j, hj, ej⟩ := List.getElem_of_mem hm
    rw [hl] at hj
    have h3 := (hg (k + j) (by omega) (by omega)).1
    rw [← hba j hj, byteAt_getElem (by omega), ej] at h3
    exact h3 rfl
  have hs : splS 45 (s.drop k) = (s.drop k).take (i - k) :: (if i = s.length then [] else splS 45 (s.drop (i + 1))) := by
    by_cases hi : i = s.length
    · rw [if_pos hi]
      rw [List.drop_eq_nil_of_le (show s.length ≤ i by omega), List.append_nil] at e
      have hu' : (45 : UInt8) ∉ s.drop k := by rw [e]; exact hu
      rw [splS_none hu']
      exact congrArg (fun z => [z]) e
    · rw [if_neg hi]
      have hc := hc.resolve_left hi
      have h2 : i < s.length := by omega
      rw [List.drop_eq_getElem_cons h2] at e
      have hx : s[i] = 45 := UInt8.toNat_inj.1 (by rw [← byteAt_getElem h2, hc]; rfl)
      rw [hx] at e
      generalize hw : (s.drop k).take (i - k) = w at *
      rw [e, splS_cut hu]
  have hf : fstB (fun c => !lgB (decide (k = 0)) c) ((s.drop k).take (i - k)) = -1 := fstB_none fun j hj => by
    rw [hl] at hj
    rw [hba j hj, (hg (k + j) (by omega) (by omega)).2]
    rfl
  rw [hs, langE]
  have hp : pieceX (decide (k = 0)) k ((s.drop k).take (i - k)) = if i = k then .at 7 k else if 8 < i - k then .at 4 k else .none := by
    unfold pieceX
    rw [hf, if_neg (by omega), hl]
    by_cases h3 : i = k
    · rw [if_pos (by omega), if_pos h3]
    · rw [if_neg (by omega), if_neg h3]
  rw [hp, hl]
  by_cases h3 : i = k
  · rw [if_pos h3, if_pos h3]; rfl
  · rw [if_neg h3, if_neg h3]
    by_cases h4 : 8 < i - k
    · rw [if_pos h4, if_pos h4]; rfl
    · rw [if_neg h4, if_neg h4, if_pos (show Err.none.isNone = true from rfl), show k + (i - k) + 1 = i + 1 by omega]
      by_cases h5 : i = s.length
      · rw [if_pos h5, if_pos h5]; rfl
      · rw [if_neg h5, if_neg h5]
theorem isS_one {s : List UInt8} {i : Nat} (h : i < s.length) : isS ((s.take (i + 1)).drop i) = letterB (byteAt s i) := by
  have hl : ((s.take (i + 1)).drop i).length = 1 := by rw [List.length_drop, List.length_take]; omega
  have hb : byteAt ((s.take (i + 1)).drop i) 0 = byteAt s i := by rw [drop_byteAt, byteAt_take (by omega), Nat.add_zero]
  rw [Bool.eq_iff_iff, isS, hl]
  simp only [Bool.and_eq_true, allB_t, hl, decide_eq_true_eq]
  constructor
  · intro h; rw [← hb]; exact h.1 0 (by omega)
  · intro h; exact ⟨fun j hj => by rw [show j = 0 by omega, hb]; exact h, by omega, by omega⟩
theorem lgB_t {b : Bool} {c : Int} : lgB b c = true ↔ letterB c = true ∧ (b = true → 57 < c) := by
  unfold lgB
  cases b <;> simp
theorem lgB_f {b : Bool} {c : Int} : lgB b c = false ↔ (letterB c = false ∨ (b = true ∧ c ≤ 57)) := by
  unfold lgB
  cases b <;> cases letterB c <;> simp
set_option maxRecDepth 20000
set_option maxHeartbeats 4000000
set_option linter.unusedSimpArgs false
set_option linter.unusedVariables false
attribute [local irreducible] AWp AOps byteAt SrcOK OrOk GloAll FnSpec
attribute [local irreducible] splS langE lgB isS letterB
theorem lang_Right {G : Glo} (s : List UInt8) (hl : s.length ≤ 9223372036854775000) : FnIs Tryz.prog G 27 [.str s] (langX s).A := by
  have hGL : GloAll G [] := gloAll_nil
  refine fn_x Tryz.func27 Tryz.call27 rfl rfl rfl rfl hGL ?_
  intro C hC
  have hN := fun i (h : i < s.length) => name_Is (G := G) ((s.take (i + 1)).drop i) (by rw [List.length_drop, List.length_take]; omega)
  repeat' (first
    | (conv => whnf); first
      | refine .w ?_ | refine .v ?_ | apply sc_true | apply sc_false
      | (first | apply sc_lt | apply sc_nlt | apply sc_eq | apply sc_neq | apply sc_nil | apply sc_nnil | apply sc_seq | apply sc_nseq) <;> (intro hb; try exact dd hb)
      | apply sc_not | apply sc_or | (apply sc_i <;> intro hb)
      | (apply bx_i; intro hbd) | (apply gt_i; assumption; exact rfl)
      | (apply cx_is; first | fail) | (apply cx_do (i := 0) rfl; first | fail)
      | (apply ab_i; intro bl) | (apply as_i; intro va vk vc hva) | (apply av_i; intro v) | (apply ac_i; intro bl cap hcap)
      | apply bo_l | (apply nx_i <;> intro hnx) | (apply Ia.hit; assumption) | (apply Ia.miss; assumption)
      | (apply rt_is; exact rfl) | exact rt_w | (apply iv; assumption)
      | apply dw_q mixed hC hGL (by kernel_rfl) | (apply cq; assumption; (first | fail); exact rfl))
  all_goals (try conv => whnf)
  refine lp hC hGL (fun (x : Nat × Nat) => [(0, .str s), (3, .int .i64 x.2), (4, .int .i64 x.1)]) (fun _ => []) (fun x => x.2 ≤ x.1 ∧ x.1 ≤ s.length + 1 ∧ (x.1 = s.length + 1 → x.2 = s.length + 1) ∧ (∀ j, x.2 ≤ j → j < x.1 → byteAt s j ≠ 45 ∧ lgB (decide (x.2 = 0)) (byteAt s j : Int) = true) ∧ langX s = if x.2 = s.length + 1 then .none else langE (decide (x.2 = 0)) x.2 (splS 45 (s.drop x.2))) (fun x => s.length + 1 - x.1) (0, 0) ?_ env_w rfl ?_
  · exact ⟨Nat.le_refl _, Nat.zero_le _, fun h => by omega, fun j _ h => absurd h (Nat.not_lt_zero _), by rw [if_neg (by omega)]; rfl⟩
  rintro ⟨i, k⟩ ⟨h1, h2, h3, h4, h5⟩
  dsimp only at h1 h2 h3 h4 h5 ⊢
  by_cases hi : i < s.length
  · have hN := hN i hi
    rw [isS_one hi] at hN
    have hE := fun h => lang_end h1 (by omega) h4 (.inr h) _ rfl
    have hB := fun hc hb => lang_bad h1 hi h4 hc hb _ rfl
    rw [if_neg (by omega)] at h5
    repeat' (first
      | (conv => whnf); first
        | refine .w ?_ | refine .v ?_ | apply sc_true | apply sc_false
        | (first | apply sc_lt | apply sc_nlt | apply sc_eq | apply sc_neq | apply sc_nil | apply sc_nnil | apply sc_seq | apply sc_nseq) <;> (intro hb; try exact dd hb)
        | apply sc_not | apply sc_or | (apply sc_i <;> intro hb)
        | (apply bx_i; intro hbd) | (apply gt_i; assumption; exact rfl)
        | (apply cx_is; first | exact hN) | (apply cx_do (i := 0) rfl; first | exact hN)
        | (apply ab_i; intro bl) | (apply as_i; intro va vk vc hva) | (apply av_i; intro v) | (apply ac_i; intro bl cap hcap)
        | apply bo_l | (apply nx_i <;> intro hnx) | (apply Ia.hit; assumption) | (apply Ia.miss; assumption)
        | (apply rt_is; exact rfl) | exact rt_w | (apply iv; assumption)
        | apply dw_q mixed hC hGL (by kernel_rfl) | (apply cq; assumption; (first | exact hN); exact rfl))
    all_goals (try conv => whnf)
    · apply rt_is
      rw [h5, hB (by omega) (lgB_f.2 (.inr ⟨by simp; omega, by omega⟩))]
      rfl
    · refine nxt (i + 1, k) ?_ ?_ env_w rfl
      · refine ⟨by omega, by omega, fun h => by omega, fun j g1 g2 => ?_, by rw [if_neg (by omega)]; exact h5⟩
        by_cases g : j = i
        · subst g; exact ⟨by omega, lgB_t.2 ⟨by assumption, fun _ => by omega⟩⟩
        · exact h4 j g1 (by omega)
      · dsimp only; omega
    · refine nxt (i + 1, k) ?_ ?_ env_w rfl
      · refine ⟨by omega, by omega, fun h => by omega, fun j g1 g2 => ?_, by rw [if_neg (by omega)]; exact h5⟩
        by_cases g : j = i
        · subst g; exact ⟨by omega, lgB_t.2 ⟨by assumption, fun h => by simp at h; omega⟩⟩
        · exact h4 j g1 (by omega)
      · dsimp only; omega
    · apply rt_is
      rw [h5, hB (by omega) (lgB_f.2 (.inl hb))]
      rfl
    · apply rt_is
      have hE := hE (by omega)
      obtain rfl : i = k := by omega
      rw [h5, hE, if_pos rfl]
      rfl
    · apply rt_is
      have hE := hE (by omega)
      rw [h5, hE, if_neg (by omega), if_pos (by omega)]
      rfl
    · have hE := hE (by omega)
      rw [if_neg (by omega), if_neg (by omega)] at hE
      refine nxt (i + 1, i + 1) ?_ ?_ env_w rfl
      · refine ⟨Nat.le_refl _, by omega, fun _ => by omega, fun j g1 g2 => by omega, ?_⟩
        rw [h5, hE]
        dsimp only
        by_cases g : i = s.length
        · rw [if_pos g, if_pos (by omega)]
        · rw [if_neg g, if_neg (by omega)]
          simp
      · dsimp only; omega
  · have hE := fun h => lang_end h1 h h4 (.inl (by omega)) _ rfl
    repeat' (first
      | (conv => whnf); first
        | refine .w ?_ | refine .v ?_ | apply sc_true | apply sc_false
        | (first | apply sc_lt | apply sc_nlt | apply sc_eq | apply sc_neq | apply sc_nil | apply sc_nnil | apply sc_seq | apply sc_nseq) <;> (intro hb; try exact dd hb)
        | apply sc_not | apply sc_or | (apply sc_i <;> intro hb)
        | (apply bx_i; intro hbd) | (apply gt_i; assumption; exact rfl)
        | (apply cx_is; first | fail) | (apply cx_do (i := 0) rfl; first | fail)
        | (apply ab_i; intro bl) | (apply as_i; intro va vk vc hva) | (apply av_i; intro v) | (apply ac_i; intro bl cap hcap)
        | apply bo_l | (apply nx_i <;> intro hnx) | (apply Ia.hit; assumption) | (apply Ia.miss; assumption)
        | (apply rt_is; exact rfl) | exact rt_w | (apply iv; assumption)
        | apply dw_q mixed hC hGL (by kernel_rfl) | (apply cq; assumption; (first | fail); exact rfl))
    all_goals (try conv => whnf)
    · apply rt_is
      have hE := hE (by omega)
      rw [if_neg (by omega)] at h5
      obtain rfl : i = k := by omega
      rw [h5, hE, if_pos rfl]
      rfl
    · apply rt_is
      have hE := hE (by omega)
      rw [if_neg (by omega)] at h5
      rw [h5, hE, if_neg (by omega), if_pos (by omega)]
      rfl
    · have hE := hE (by omega)
      rw [if_neg (by omega)] at h5
      rw [if_neg (by omega), if_neg (by omega)] at hE
      refine nxt (i + 1, i + 1) ?_ ?_ env_w rfl
      · refine ⟨Nat.le_refl _, by omega, fun _ => by omega, fun j g1 g2 => by omega, ?_⟩
        rw [h5, hE]
        dsimp only
        by_cases g : i = s.length
        · rw [if_pos g, if_pos (by omega)]
        · rw [if_neg g, if_neg (by omega)]
          simp
      · dsimp only; omega
    · apply rt_is
      rw [h5, if_pos (h3 (by omega))]
      rfl
end Go.Proofs.YtidcpikoeohfbaaGreatDoor
namespace Go.Proofs.YtidcpikoeohfbaaGreatDoor
open Go Go.RowKit
/-- What a byte is written as. -/
def escF (c : UInt8) : List UInt8 := if c = 92 then [92, 92] else if c = 44 then [92, 44] else if c = 59 then [92, 59] else if c = 10 then [92, 110] else [c]
def escS (s : List UInt8) : List UInt8 := s.flatMap escF
end Go.Proofs.YtidcpikoeohfbaaGreatDoor
namespace Go.Proofs.YtidcpikoeohfbaaGreatDoor
open Go Go.RowKit
def joinT (l : List (List UInt8)) : List UInt8 := Lib.join (l.map escS) [44]
/-- Where the first list that is empty stands. -/
def nilAt (L : List (List (List UInt8))) : Nat := L.findIdx fun l => l.isEmpty
def joinPT (L : List (List (List UInt8))) : List UInt8 := if nilAt L < L.length then [] else Lib.join (L.map joinT) [59]
def partsF (L : List (List (List UInt8))) (i : Nat) : AVal := .list 1 (L.getD i []).length (strsF (L.getD i []))
end Go.Proofs.YtidcpikoeohfbaaGreatDoor
namespace Go.Proofs.YtidcpikoeohfbaaGreatDoor
open Go Go.RowKit
/-- A byte that a value may not hold. -/
def hdC (lines : Bool) (c : Int) : Bool := decide ((c < 32 ∧ c ≠ 9 ∧ (c ≠ 10 ∨ lines = false)) ∨ c = 127)
def hdB (lines : Bool) (s : List UInt8) : Bool := decide (badI s < 0 ∧ fstB (hdC lines) s < 0)
end Go.Proofs.YtidcpikoeohfbaaGreatDoor
namespace Go.Proofs.YtidcpikoeohfbaaGreatDoor
open Go Go.RowKit
/-- An error without its place. -/
def Err.b : Err → Err
  | .none => .none
  | .errno e => .errno e
  | .at e _ => .errno e
/-- A value. -/
structure Vl where
  t : Int
  s : List UInt8
  L : List (List (List UInt8))
  st : Stm
  n : Int
def Vl.A (v : Vl) : AVal := .agg [.int .i64 v.t, .str v.s, .list 1 v.L.length (partsF v.L), .int .i64 v.st.y, .int .i64 v.st.m, .int .i64 v.st.d, .int .i64 v.st.h, .int .i64 v.st.i, .int .i64 v.st.s, .bool v.st.z, .int .i64 v.st.o, .int .i64 v.n]
def zeroB (t : Stm) : Bool := decide (t.y = 0 ∧ t.m = 0 ∧ t.d = 0 ∧ t.h = 0 ∧ t.i = 0 ∧ t.s = 0 ∧ t.z = false ∧ t.o = 0)
/-- It has what its type has, and nothing else. -/
def Vl.only (v : Vl) : Bool := decide ((v.s.length = 0 ∨ v.t = 1 ∨ v.t = 4 ∨ v.t = 7 ∨ v.t = 8) ∧ (v.L.length = 0 ∨ v.t = 2 ∨ v.t = 3) ∧ (zeroB v.st = true ∨ v.t = 5) ∧ (v.n = 0 ∨ v.t = 6))
/-- All texts of lists may be. -/
def hdL (L : List (List (List UInt8))) : Bool := L.all fun l => l.all (hdB true)
def ptsE (t : Int) (L : List (List (List UInt8))) : Err := if L.length = 0 ∨ (t = 2 ∧ L.length ≠ 1) then .errno 8 else if nilAt L < L.length then .errno 8 else if hdL L then .none else .errno 3
def Vl.E (v : Vl) : Err := if v.t < 1 ∨ 9 ≤ v.t ∨ v.only = false then .errno 1
  else if v.t = 2 ∨ v.t = 3 then ptsE v.t v.L
  else if v.t = 4 then (uriE v.s).b
  else if v.t = 5 then v.st.E
  else if v.t = 6 then zprE v.n
  else if v.t = 7 then (langX v.s).b
  else if hdB (decide (v.t = 1)) v.s then .none else .errno 3
def Vl.T (v : Vl) : List UInt8 := match v.E with
  | .none => if v.t = 1 then escS v.s else if v.t = 2 ∨ v.t = 3 then joinPT v.L else if v.t = 5 then v.st.T else if v.t = 6 then zprS v.n else v.s
  | _ => []
end Go.Proofs.YtidcpikoeohfbaaGreatDoor
namespace Go.Proofs.YtidcpikoeohfbaaGreatDoor
open Go Go.RowKit
set_option linter.unusedSectionVars false
theorem made_one (v : Value) (n : Nat) : (madeCells #[v] n).toList = List.replicate n v := by
  unfold madeCells
  refine List.ext_getElem (by simp) (fun i h1 h2 => ?_)
  simp [Nat.mod_one]
section
variable {P : Program} [Tab P] {C : Ctx} {n : Nat} {env : Env} {H : Heap} {Q : AExit → Env → Heap → Prop} {ops : Array Oper} {rest : List Oper} {G : Glo} {GL : List (Nat × List AVal)}
variable {d : Nat} {t : TypeId} {p : String} {af : Array Edge} {g : Option (Nat × Bool)} {b : Bool}
variable {x y : Operand} {T e : TypeId} {xT xe : TI}
theorem run_make_op {ρ : Operand → Value} {w w' : World} {a c u : Value} (ha : ρ x = a) (hc : ρ y = c) (hr : (Instr.makeSlice T a c).run P w = .ok u w') :
    (execOp ρ { dst := some d, op := .makeSlice T x y, type := t, pos := p, after := af, guard := g }).run P w = .ok (.value u) w' := by
  simp only [execOp, ha, hc, Sem.run_bind, hr, Result.andThen_ok, Sem.run_pure]
/-- A byte slice is made. -/
theorem op1_makeB {k1 k2 : IntKind} {m : Nat} (hC : C.G = G) (hGL : GloAll G GL) (hx : evalA env x = some (.int k1 (m : Int))) (hy : evalA env y = some (.int k2 (m : Int))) (hm0 : m ≤ 1000000000000) (ht : tab P T = some xT) (hd : xT.desc = .slice e) (he : tab P e = some xe) (hz : xe.zero = some (.int .u8 0)) (hs : xe.size = 1) (hb : xe.bytes = 1)
    (hg : guardA ops env g = some (b, b)) (hdn : Nat.ble (d + 1) n = true)
    (k : ∀ bl, opsX P C n G GL ops Q rest ((d, .own H.length (.slice (some ⟨bl, 0, none⟩) m m)) :: env) (H ++ [.buf bl (List.replicate m 0) m])) :
    Op1 P C n ops ({ dst := some d, op := .makeSlice T x y, type := t, pos := p, after := af, guard := g } :: rest) env H Q := by
  refine ⟨ao_valX (X := Nat) (av := fun bl => .raw (.slice (some ⟨bl, 0, none⟩) m m)) (H' := fun bl => .buf bl (List.replicate m 0) m :: H) hg rfl hdn (fun R ρ w hm hf => ?_)
    (fun bl => ao_end (ao_dst_own (i := H.length) rfl (opsX_ok hC hGL _ _ _ (k bl))))⟩
  obtain ⟨i, hi, his, hib, hiz, _⟩ := tab_info he
  have hr := run_make (P := P) w T e i (.int .u8 0) (by rw [tab_und ht, hd]) hi (by rw [hiz, hz]) k1 k2 (m : Int) (m : Int) (by omega) (by omega) (by rw [hib, hb]; omega) (by omega)
  simp only [Int.toNat_natCast] at hr
  have hrun := run_make_op (d := d) (t := t) (p := p) (af := af) (g := g) (rel_int.1 (hf _ _ hx)) (rel_int.1 (hf _ _ hy)) hr
  refine ⟨w.heap.size, _, _, R, hrun, Seal.le_refl R, rel_raw.2 rfl, ?_⟩
  · rw [grow_alloc]
    refine hm.alloc _ _ rfl ⟨by simp, _, _, _, grow_at w _, ?_, .inl (Nat.le_refl _)⟩
    rw [his, hs, Nat.mul_one, show (Value.int .u8 0).cells = #[.int .u8 0] from rfl, made_one]
    have : ownB (List.replicate m 0) m = List.replicate m (.int .u8 0) := by simp [ownB, byteA]
    rw [this]
    exact relL_replicate (show RelC R (.int .u8 0) [.int .u8 0] from rfl) _
end
end Go.Proofs.YtidcpikoeohfbaaGreatDoor
namespace Go.Proofs.YtidcpikoeohfbaaGreatDoor
open Go Go.RowKit
set_option maxRecDepth 20000
set_option maxHeartbeats 4000000
set_option linter.unusedSimpArgs false
set_option linter.unusedVariables false
attribute [local irreducible] AWp AOps SrcOK OrOk GloAll FnSpec byteAt
abbrev threeL (a b c : Int) : AVal := .list 1 3 (partElem [(0, .int .i64 a), (1, .int .i64 b), (2, .int .i64 c)])
theorem when_form {G : Glo} (a b c : Int) : FnIs Tryz.prog G 83 [threeL a b c] (.str (fmS (tlB a) (tlB b) (tlB c))) := by
  by_cases h1 : a = -1
  all_goals by_cases h2 : b = -1
  all_goals by_cases h3 : c = -1
  all_goals
    have hGL : GloAll G [] := gloAll_nil
    refine fn_x Tryz.func83 Tryz.call83 rfl rfl rfl rfl hGL ?_
    intro C hC
    repeat' (first
      | (conv => whnf); first
        | refine .w ?_ | refine .v ?_ | apply sc_true | apply sc_false
        | (first | apply sc_lt | apply sc_nlt | apply sc_eq | apply sc_neq | apply sc_nil | apply sc_nnil | apply sc_seq | apply sc_nseq) <;> (intro hb; try exact dd hb)
        | apply sc_not | apply sc_or | (apply sc_i <;> intro hb)
        | (apply bx_i; intro hbd) | (apply gt_i; assumption; exact rfl)
        | (apply cx_is; first | fail) | (apply cx_do (i := 0) rfl; first | fail)
        | (apply ab_i; intro bl) | (apply as_i; intro va vk vc hva) | (apply av_i; intro v) | (apply ac_i; intro bl cap hcap)
        | apply bo_l | (apply nx_i <;> intro hnx) | (apply Ia.hit; assumption) | (apply Ia.miss; assumption)
        | (apply rt_is; exact rfl) | exact rt_w | (apply iv; assumption)
        | apply dw_q mixed hC hGL (by kernel_rfl) | (apply cq; assumption; (first | fail); exact rfl))
    all_goals (try conv => whnf)
    refine op1_makeB (m := 3) hC hGL rfl rfl (by omega) rfl rfl rfl rfl rfl rfl rfl rfl (fun bo => ?_)
    repeat' (first
      | (conv => whnf); first
        | refine .w ?_ | refine .v ?_ | apply sc_true | apply sc_false
        | (first | apply sc_lt | apply sc_nlt | apply sc_eq | apply sc_neq | apply sc_nil | apply sc_nnil | apply sc_seq | apply sc_nseq) <;> (intro hb; try exact dd hb)
        | apply sc_not | apply sc_or | (apply sc_i <;> intro hb)
        | (apply bx_i; intro hbd) | (apply gt_i; assumption; exact rfl)
        | (apply cx_is; first | fail) | (apply cx_do (i := 0) rfl; first | fail)
        | (apply ab_i; intro bl) | (apply as_i; intro va vk vc hva) | (apply av_i; intro v) | (apply ac_i; intro bl cap hcap)
        | apply bo_l | (apply nx_i <;> intro hnx) | (apply Ia.hit; assumption) | (apply Ia.miss; assumption)
        | (apply rt_is; exact rfl) | exact rt_w | (apply iv; assumption)
        | apply dw_q mixed hC hGL (by kernel_rfl) | (apply cq; assumption; (first | fail); exact rfl))
    all_goals (try conv => whnf)
    refine rds hC hGL 4 ?_
    repeat' (first
      | (conv => whnf); first
        | refine .w ?_ | refine .v ?_ | apply sc_true | apply sc_false
        | (first | apply sc_lt | apply sc_nlt | apply sc_eq | apply sc_neq | apply sc_nil | apply sc_nnil | apply sc_seq | apply sc_nseq) <;> (intro hb; try exact dd hb)
        | apply sc_not | apply sc_or | (apply sc_i <;> intro hb)
        | (apply bx_i; intro hbd) | (apply gt_i; assumption; exact rfl)
        | (apply cx_is; first | fail) | (apply cx_do (i := 0) rfl; first | fail)
        | (apply ab_i; intro bl) | (apply as_i; intro va vk vc hva) | (apply av_i; intro v) | (apply ac_i; intro bl cap hcap)
        | apply bo_l | (apply nx_i <;> intro hnx) | (apply Ia.hit; assumption) | (apply Ia.miss; assumption)
        | (apply rt_is; exact rfl) | exact rt_w | (apply iv; assumption)
        | apply dw_q mixed hC hGL (by kernel_rfl) | (apply cq; assumption; (first | fail); exact rfl))
    all_goals (try conv => whnf)
    refine sp_i ⟨rfl, rfl⟩ ?_
    apply rt_is
    simp only [tlB, h1, h2, h3, ne_eq, not_true_eq_false, not_false_eq_true, decide_true, decide_false]
    rfl
theorem when_within {G : Glo} (n lo hi : Int) : FnIs Tryz.prog G 85 [.int .i64 n, .int .i64 lo, .int .i64 hi] (.bool (witB n lo hi)) := by
  have hGL : GloAll G [] := gloAll_nil
  refine fn_x Tryz.func85 Tryz.call85 rfl rfl rfl rfl hGL ?_
  intro C hC
  repeat' (first
    | (conv => whnf); first
      | refine .w ?_ | refine .v ?_ | apply sc_true | apply sc_false
      | (first | apply sc_lt | apply sc_nlt | apply sc_eq | apply sc_neq | apply sc_nil | apply sc_nnil | apply sc_seq | apply sc_nseq) <;> (intro hb; try exact dd hb)
      | apply sc_not | apply sc_or | (apply sc_i <;> intro hb)
      | (apply bx_i; intro hbd) | (apply gt_i; assumption; exact rfl)
      | (apply cx_is; first | fail) | (apply cx_do (i := 0) rfl; first | fail)
      | (apply ab_i; intro bl) | (apply as_i; intro va vk vc hva) | (apply av_i; intro v) | (apply ac_i; intro bl cap hcap)
      | apply bo_l | (apply nx_i <;> intro hnx) | (apply Ia.hit; assumption) | (apply Ia.miss; assumption)
      | (apply rt_is; exact rfl) | exact rt_w | (apply iv; assumption)
      | apply dw_q mixed hC hGL (by kernel_rfl) | (apply cq; assumption; (first | fail); exact rfl))
  all_goals (try conv => whnf)
  all_goals (apply rt_is; refine congrArg AVal.bool ?_; rw [Bool.eq_iff_iff]; simp only [witB_t, reduceCtorEq, false_iff, true_iff, Bool.not_eq_true', ltB_f]; omega)
theorem when_Days {G : Glo} (y m : Int) : FnIs Tryz.prog G 84 [.int .i64 y, .int .i64 m] (.int .i64 (dayN y m)) := by
  have hGL : GloAll G [] := gloAll_nil
  refine fn_x Tryz.func84 Tryz.call84 rfl rfl rfl rfl hGL ?_
  intro C hC
  repeat' (first
    | (conv => whnf); first
      | refine .w ?_ | refine .v ?_ | apply sc_true | apply sc_false
      | (first | apply sc_lt | apply sc_nlt | apply sc_eq | apply sc_neq | apply sc_nil | apply sc_nnil | apply sc_seq | apply sc_nseq) <;> (intro hb; try exact dd hb)
      | apply sc_not | apply sc_or | (apply sc_i <;> intro hb)
      | (apply bx_i; intro hbd) | (apply gt_i; assumption; exact rfl)
      | (apply cx_is; first | fail) | (apply cx_do (i := 0) rfl; first | fail)
      | (apply ab_i; intro bl) | (apply as_i; intro va vk vc hva) | (apply av_i; intro v) | (apply ac_i; intro bl cap hcap)
      | apply bo_l | (apply nx_i <;> intro hnx) | (apply Ia.hit; assumption) | (apply Ia.miss; assumption)
      | (apply rt_is; exact rfl) | exact rt_w | (apply iv; assumption)
      | apply dw_q mixed hC hGL (by kernel_rfl) | (apply cq; assumption; (first | fail); exact rfl))
  all_goals (try conv => whnf)
  all_goals (apply rt_is; refine congrArg (AVal.int .i64) ?_; unfold dayN; (repeat' split) <;> omega)
theorem ref_Days {G : Glo} (y m : Int) : FnIs Tryz.prog G 93 [.int .i64 y, .int .i64 m] (.int .i64 (dayN y m)) := by
  have hw := ref_within (G := G) m 1 12
  have h4 : y.tmod 400 = 0 → y.tmod 4 = 0 ∧ y.tmod 100 = 0 := fun h => by
    have hd := Int.dvd_of_tmod_eq_zero h
    exact ⟨Int.tmod_eq_zero_of_dvd (Int.dvd_trans (by decide) hd), Int.tmod_eq_zero_of_dvd (Int.dvd_trans (by decide) hd)⟩
  by_cases hm : 1 ≤ m ∧ m ≤ 12
  · rw [show (decide (1 ≤ m) && decide (m ≤ 12)) = true by simp [hm]] at hw
    rcases (show m = 1 ∨ m = 2 ∨ m = 3 ∨ m = 4 ∨ m = 5 ∨ m = 6 ∨ m = 7 ∨ m = 8 ∨ m = 9 ∨ m = 10 ∨ m = 11 ∨ m = 12 by omega) with rfl | rfl | rfl | rfl | rfl | rfl | rfl | rfl | rfl | rfl | rfl | rfl
    all_goals
      have hGL : GloAll G [] := gloAll_nil
      refine fn_x Tryz.func93 Tryz.call93 rfl rfl rfl rfl hGL ?_
      intro C hC
      repeat' (first
        | (conv => whnf); first
          | refine .w ?_ | refine .v ?_ | apply sc_true | apply sc_false
          | (first | apply sc_lt | apply sc_nlt | apply sc_eq | apply sc_neq | apply sc_nil | apply sc_nnil | apply sc_seq | apply sc_nseq) <;> (intro hb; try exact dd hb)
          | apply sc_not | apply sc_or | (apply sc_i <;> intro hb)
          | (apply bx_i; intro hbd) | (apply gt_i; assumption; exact rfl)
          | (apply cx_is; first | exact hw) | (apply cx_do (i := 0) rfl; first | exact hw)
          | (apply ab_i; intro bl) | (apply as_i; intro va vk vc hva) | (apply av_i; intro v) | (apply ac_i; intro bl cap hcap)
          | apply bo_l | (apply nx_i <;> intro hnx) | (apply Ia.hit; assumption) | (apply Ia.miss; assumption)
          | (apply rt_is; exact rfl) | exact rt_w | (apply iv; assumption)
          | apply dw_q mixed hC hGL (by kernel_rfl) | (apply cq; assumption; (first | exact hw); exact rfl))
      all_goals (try conv => whnf)
      all_goals (apply rt_is; refine congrArg (AVal.int .i64) ?_; unfold dayN; (repeat' split) <;> first | rfl | omega)
  · rw [show (decide (1 ≤ m) && decide (m ≤ 12)) = false by simp; omega] at hw
    have hGL : GloAll G [] := gloAll_nil
    refine fn_x Tryz.func93 Tryz.call93 rfl rfl rfl rfl hGL ?_
    intro C hC
    repeat' (first
      | (conv => whnf); first
        | refine .w ?_ | refine .v ?_ | apply sc_true | apply sc_false
        | (first | apply sc_lt | apply sc_nlt | apply sc_eq | apply sc_neq | apply sc_nil | apply sc_nnil | apply sc_seq | apply sc_nseq) <;> (intro hb; try exact dd hb)
        | apply sc_not | apply sc_or | (apply sc_i <;> intro hb)
        | (apply bx_i; intro hbd) | (apply gt_i; assumption; exact rfl)
        | (apply cx_is; first | exact hw) | (apply cx_do (i := 0) rfl; first | exact hw)
        | (apply ab_i; intro bl) | (apply as_i; intro va vk vc hva) | (apply av_i; intro v) | (apply ac_i; intro bl cap hcap)
        | apply bo_l | (apply nx_i <;> intro hnx) | (apply Ia.hit; assumption) | (apply Ia.miss; assumption)
        | (apply rt_is; exact rfl) | exact rt_w | (apply iv; assumption)
        | apply dw_q mixed hC hGL (by kernel_rfl) | (apply cq; assumption; (first | exact hw); exact rfl))
    all_goals (try conv => whnf)
    apply rt_is
    refine congrArg (AVal.int .i64) ?_
    unfold dayN
    rw [if_pos (by omega)]
end Go.Proofs.YtidcpikoeohfbaaGreatDoor
namespace Go.Proofs.YtidcpikoeohfbaaGreatDoor
open Go Go.RowKit
theorem strings_contains {G : Glo} {m : Int} (hU : GloAll G (maxTy m)) (s t : List UInt8) (hl : s.length < 100000) : FnIs Tryz.prog G 63 [.str s, .str t] (.bool (Lib.contains s t)) := by
  refine fnis_of_calls rfl Tryz.call63 ?_
  rintro R args ⟨x, u, e, hx, y, u', e', hy, rfl⟩ w hG hs
  obtain rfl := rel_str.1 hx
  obtain rfl := rel_str.1 hy
  subst e'
  obtain rfl := arr_of e
  refine (Tryz.strings_Contains ⟨s.toArray⟩ ⟨t.toArray⟩ m w (by show s.toArray.size < _; simp; omega) (max_cell hU hG hs)).mono ?_
  rintro e w' ⟨rfl, rfl⟩
  exact ⟨by simp [AVal.conc], Below.refl _ _⟩
end Go.Proofs.YtidcpikoeohfbaaGreatDoor
namespace Go.Proofs.YtidcpikoeohfbaaGreatDoor
open Go Go.RowKit
def datA : List UInt8 := [32, 45, 45, 45, 32, 57, 45, 45, 32, 57, 57, 45, 32, 57, 57, 57, 32, 45, 57, 45, 32, 45, 57, 57, 32, 45, 45, 57, 32]
def datB : List UInt8 := [32, 57, 57, 57, 32, 45, 57, 57, 32, 45, 45, 57, 32]
def timB : List UInt8 := [32, 57, 45, 45, 32, 57, 57, 45, 32, 57, 57, 57, 32]
def cnB (l : List UInt8) (a b c : Bool) : Bool := Lib.contains l (([32] ++ fmS a b c) ++ [32])
theorem cnA : ∀ a b c : Bool, cnB datA a b c = decide (0 ≤ whN a b c) := by decide
theorem cnD : ∀ a b c : Bool, cnB datB a b c = decide (whN a b c = 3 ∨ whN a b c = 5 ∨ whN a b c = 6) := by decide
theorem cnT : ∀ a b c : Bool, cnB timB a b c = decide (1 ≤ whN a b c ∧ whN a b c ≤ 3) := by decide
theorem fm_nil : ∀ a b c : Bool, fmS a b c = [45, 45, 45] ↔ whN a b c = 0 := by decide
theorem fm_eq : ∀ a b c d e f : Bool, fmS a b c = fmS d e f ↔ whN a b c = whN d e f := by decide
theorem wh_le : ∀ a b c : Bool, -1 ≤ whN a b c ∧ whN a b c ≤ 6 := by decide
/-- Forms that go together, in numbers. -/
def FrmP (d t : Int) (z : Bool) (h o : Int) : Prop := (0 ≤ d ∧ 0 ≤ t ∧ ¬ (d = 0 ∧ t = 0) ∧ (0 < d ∧ 0 < t → (d = 3 ∨ d = 5 ∨ d = 6) ∧ t ≤ 3)) ∧ (if z then h ≠ -1 else o = 0)
theorem frm_iff (t : Stm) : t.frm = true ↔ FrmP t.dn t.tn t.z t.h t.o := by
  unfold Stm.frm FrmP okN
  rw [Bool.and_eq_true, decide_eq_true_eq]
  refine and_congr Iff.rfl ?_
  cases t.z <;> simp [tlB_t]
theorem cont_fm {G : Glo} {m : Int} (hU : GloAll G (maxTy m)) (l : List UInt8) (hl : l.length < 100000) (a b c : Bool) : FnIs Tryz.prog G 63 [.str l, .str (([32] ++ fmS a b c) ++ [32])] (.bool (cnB l a b c)) := strings_contains hU l _ hl
theorem E_3 {t : Stm} (h : ¬ FrmP t.dn t.tn t.z t.h t.o) : t.E = .errno 3 := by
  unfold Stm.E
  rw [if_neg (fun k => h ((frm_iff t).1 k))]
theorem E_2 {t : Stm} (h : FrmP t.dn t.tn t.z t.h t.o) (k : t.rng = false) : t.E = .errno 2 := by
  unfold Stm.E
  rw [if_pos ((frm_iff t).2 h), k]
  rfl
theorem E_0 {t : Stm} (h : FrmP t.dn t.tn t.z t.h t.o) (k : t.rng = true) : t.E = .none := by
  unfold Stm.E
  rw [if_pos ((frm_iff t).2 h), k]
  rfl
set_option maxRecDepth 20000
set_option maxHeartbeats 4000000
set_option linter.unusedSimpArgs false
set_option linter.unusedVariables false
attribute [local irreducible] AWp AOps SrcOK OrOk GloAll FnSpec byteAt
attribute [local irreducible] fmS cnB witB tlB dayN zrB
theorem when_Right {G : Glo} {m : Int} (hU : GloAll G (maxTy m)) (t : Stm) : FnIs Tryz.prog G 54 [t.A] t.E.A := by
  have h1 := when_form (G := G) t.y t.m t.d
  have h2 := when_form (G := G) t.h t.i t.s
  have h3a := cont_fm (G := G) hU datA (by decide) (tlB t.y) (tlB t.m) (tlB t.d)
  have h3b := cont_fm (G := G) hU datB (by decide) (tlB t.y) (tlB t.m) (tlB t.d)
  have h4a := cont_fm (G := G) hU datA (by decide) (tlB t.h) (tlB t.i) (tlB t.s)
  have h4b := cont_fm (G := G) hU timB (by decide) (tlB t.h) (tlB t.i) (tlB t.s)
  rw [cnA] at h3a h4a
  rw [cnD] at h3b
  rw [cnT] at h4b
  have k1 := fm_nil (tlB t.y) (tlB t.m) (tlB t.d)
  have k2 := fm_nil (tlB t.h) (tlB t.i) (tlB t.s)
  have k3 := fm_eq (tlB t.y) (tlB t.m) (tlB t.d) (tlB t.h) (tlB t.i) (tlB t.s)
  have k4 := wh_le (tlB t.y) (tlB t.m) (tlB t.d)
  have k5 := wh_le (tlB t.h) (tlB t.i) (tlB t.s)
  have h5 := when_Days (G := G) t.y t.m
  have h6 := fun n lo hi => when_within (G := G) n lo hi
  have h7 := zone_Right (G := G) t.o
  have l1 : (fmS (tlB t.y) (tlB t.m) (tlB t.d)).length = 3 := by unfold fmS; rfl
  have l2 : (fmS (tlB t.h) (tlB t.i) (tlB t.s)).length = 3 := by unfold fmS; rfl
  have hGL : GloAll G [] := gloAll_nil
  refine fn_x Tryz.func54 Tryz.call54 rfl rfl rfl rfl hGL ?_
  intro C hC
  repeat' (first
    | (conv => whnf); first
      | refine .w ?_ | refine .v ?_ | apply sc_true | apply sc_false
      | (first | apply sc_lt | apply sc_nlt | apply sc_eq | apply sc_neq | apply sc_nil | apply sc_nnil | apply sc_seq | apply sc_nseq) <;> (intro hb; try exact dd hb)
      | apply sc_not | apply sc_or | (apply sc_i <;> intro hb)
      | (apply bx_i; intro hbd) | (apply gt_i; assumption; exact rfl)
      | (apply cx_is; first | fail) | (apply cx_do (i := 0) rfl; first | fail)
      | (apply ab_i; intro bl) | (apply as_i; intro va vk vc hva) | (apply av_i; intro v) | (apply ac_i; intro bl cap hcap)
      | apply bo_l | (apply nx_i <;> intro hnx) | (apply Ia.hit; assumption) | (apply Ia.miss; assumption)
      | (apply rt_is; exact rfl) | exact rt_w | (apply iv; assumption)
      | exact True.intro | (apply bc_i; intro C hC) | apply bt_i | apply og_n | (apply og_a; exact rfl))
  all_goals (try conv => whnf)
  refine dw_p mixed hC hGL false (fun (_ : Unit) => [(1, .rop [.int .i64 t.y, .int .i64 t.m, .int .i64 t.d, .int .i64 t.h, .int .i64 t.i, .int .i64 t.s, .bool t.z, .int .i64 t.o] 0), (2, .raw .nilIface), (3, .str (fmS (tlB t.y) (tlB t.m) (tlB t.d))), (4, .str (fmS (tlB t.h) (tlB t.i) (tlB t.s)))]) (fun _ => []) (.take 0 (.take 1 (.take 2 (.take 3 (.take 4 (.take 5 (.take 8 (.take 9 (.take 10 (.take 11 (.take 12 (.take 13 (.br 6 (.br 7 (.br 14 (.br 15 (.take 16 (.take 17 (.done))) (.nil)) (.nil)) (.br 14 (.br 7 (.br 15 (.take 16 (.take 17 (.done))) (.nil)) (.nil)) (.nil))) (.br 14 (.br 6 (.br 7 (.br 15 (.take 16 (.take 17 (.done))) (.nil)) (.nil)) (.nil)) (.nil))))))))))))))) (by kernel_rfl) ?_ ?_
  · repeat' (first
      | (conv => whnf); first
        | refine .w ?_ | refine .v ?_ | apply sc_true | apply sc_false
        | (first | apply sc_lt | apply sc_nlt | apply sc_eq | apply sc_neq | apply sc_nil | apply sc_nnil | apply sc_seq | apply sc_nseq) <;> (intro hb; try exact dd hb)
        | apply sc_not | apply sc_or | (apply sc_i <;> intro hb)
        | (apply bx_i; intro hbd) | (apply gt_i; assumption; exact rfl)
        | (apply cx_is; first | exact h1 | exact h2) | (apply cx_do (i := 0) rfl; first | exact h1 | exact h2)
        | (apply ab_i; intro bl) | (apply as_i; intro va vk vc hva) | (apply av_i; intro v) | (apply ac_i; intro bl cap hcap)
        | apply bo_l | (apply nx_i <;> intro hnx) | (apply Ia.hit; assumption) | (apply Ia.miss; assumption)
        | (apply rt_is; exact rfl) | exact rt_w | (apply iv; assumption)
        | exact True.intro | (apply bc_i; intro C hC) | apply bt_i | apply og_n | (apply og_a; exact rfl))
    all_goals (try conv => whnf)
    all_goals exact ⟨(), ⟨rfl, rfl, rfl, rfl, trivial⟩, rfl⟩
  intro _
  clear h1 h2
  have hE3 := fun h => E_3 (t := t) h
  have hE2 := fun h k => E_2 (t := t) h k
  have hE0 := fun h k => E_0 (t := t) h k
  unfold FrmP Stm.dn Stm.tn at hE3 hE2 hE0
  unfold Stm.rng Stm.day at hE2 hE0
  cases hz : t.z
  all_goals
    rw [hz] at hE3 hE2 hE0
    simp only [Bool.false_eq_true, if_false, if_true] at hE3 hE2 hE0
    repeat' (first
      | (conv => whnf); first
        | refine .w ?_ | refine .v ?_ | apply sc_true | apply sc_false
        | (first | apply sc_lt | apply sc_nlt | apply sc_eq | apply sc_neq | apply sc_nil | apply sc_nnil | apply sc_seq | apply sc_nseq) <;> (intro hb; try exact dd hb)
        | apply sc_not | apply sc_or | (apply sc_i <;> intro hb)
        | (apply bx_i; intro hbd) | (apply gt_i; assumption; exact rfl)
        | (apply cx_is; first | exact h3a | exact h3b | exact h4a | exact h4b | exact h5 | exact h6 _ _ _ | exact h7) | (apply cx_do (i := 0) rfl; first | exact h3a | exact h3b | exact h4a | exact h4b | exact h5 | exact h6 _ _ _ | exact h7)
        | (apply ab_i; intro bl) | (apply as_i; intro va vk vc hva) | (apply av_i; intro v) | (apply ac_i; intro bl cap hcap)
        | apply bo_l | (apply nx_i <;> intro hnx) | (apply Ia.hit; assumption) | (apply Ia.miss; assumption)
        | (apply rt_is; exact rfl) | exact rt_w | (apply iv; assumption)
        | exact True.intro | (apply bc_i; intro C hC) | apply bt_i | apply og_n | (apply og_a; exact rfl))
    all_goals (try conv => whnf)
    all_goals
      clear h3a h3b h4a h4b h5 h6 h7
      simp only [ne_eq, fm_nil, fm_eq, decide_eq_true_eq, decide_eq_false_iff_not] at *
      apply rt_is
      generalize whN (tlB t.y) (tlB t.m) (tlB t.d) = dn at *
      generalize whN (tlB t.h) (tlB t.i) (tlB t.s) = tn at *
      generalize zrB t.o = zr at *
      first | rw [if_neg (by assumption)] at hE2 hE0 | rw [if_pos (by assumption)] at hE2 hE0 | skip
      generalize witB t.m 1 12 = w1 at *
      generalize witB t.d 1 (dayN t.y t.m) = w2 at *
      generalize witB t.d 1 31 = w8 at *
      generalize witB t.h 0 23 = w3 at *
      generalize witB t.i 0 59 = w4 at *
      generalize witB t.s 0 59 = w5 at *
      generalize witB t.y 0 9999 = w6 at *
      first
        | (rw [hE3 (by omega)]; rfl)
        | (rw [hE2 (by omega) (by simp [*])]; rfl)
        | (rw [hE0 (by omega) (by simp [*])]; rfl)
end Go.Proofs.YtidcpikoeohfbaaGreatDoor
namespace Go.Proofs.YtidcpikoeohfbaaGreatDoor
open Go
set_option linter.unusedVariables false
structure Lf (Q : Prop) : Prop where
  h : Q
structure Lc (a b : Prop) : Prop where
  l : a
  r : b
inductive Le : Prop
  | n
inductive Lz : Prop → Prop
  | n : Lz Le
  | c {a b : Prop} : Lz b → Lz (Lc a b)
theorem Lf.l {a b : Prop} (q : Lf (Lc a b)) : a := q.h.l
theorem Lf.r {a b : Prop} (q : Lf (Lc a b)) : Lf b := ⟨q.h.r⟩
/-- A statement's end: what is known, what the slots hold, what is owned. -/
structure Ct (I : Env) (J : Heap) (p : Prop) (e : Env) (h : Heap) : Prop where
  p : p
  s : Env.sub e I
  j : h = J
theorem Ct.w {I : Env} {J : Heap} {p : Prop} {e : Env} {h : Heap} (hp : p := by first | exact True.intro | assumption | omega) (hs : Env.sub e I := by repeat (first | exact trivial | refine And.intro rfl ?_)) (hj : h = J := by rfl) : Ct I J p e h := ⟨hp, hs, hj⟩
structure Cy {X : Type} (I : X → Env) (J : X → Heap) (Inv : X → Prop) (e : Env) (h : Heap) : Prop where
  h : ∃ x, Inv x ∧ Env.sub e (I x) ∧ h = J x
theorem cy {X : Type} {I : X → Env} {J : X → Heap} {Inv : X → Prop} {e : Env} {h : Heap} (x : X) (hp : Inv x) (hs : Env.sub e (I x) := by repeat (first | exact trivial | refine And.intro rfl ?_)) (hj : h = J x := by rfl) : Cy I J Inv e h := ⟨⟨x, hp, hs, hj⟩⟩
section
variable {P : Program} [Tab P] {C : Ctx} {n : Nat} {G : Glo} {GL : List (Nat × List AVal)} {env : Env} {H : Heap} {Q : AExit → Env → Heap → Prop}
/-- Into a function whose statements are gone through one by one. -/
theorem fn_a {f : FuncId} {fn : Func} {c : Code} {avs : List AVal} {Qf : ARes → Heap → Prop} {rs : List ResultVar} (hf : P.funcs[f]? = some fn)
    (hc : ∀ args w, (callFunc f args).run P w = .ok (.enter f args) w) (hb : fn.body = some c) (hn : fn.ntmps = n) (hrs : fn.results = rs.toArray) (hlen : Nat.ble avs.length n = true)
    (h : ∀ C : Ctx, C.G = G → AWp P C n c (argEnv 0 avs) H (RetX P rs Qf)) : FnSpec P G f avs H Qf :=
  fn_spec hf hb hc hn hrs hlen fun w0 R0 hG => (h ⟨w0, R0, blks H, G, hG, []⟩ rfl).mono fun _ _ _ q => RetX_ok q
theorem aw_code {c : Code} (hC : C.G = G) (hGL : GloAll G GL) (h : codeX P C n G GL c env H Q) : AWp P C n c env H Q := codeX_ok hC hGL _ _ _ _ h
theorem cuty {a b : Code} {X : Type} (hC : C.G = G) (hGL : GloAll G GL) (I : X → Env) (J : X → Heap) (Inv : X → Prop) (h1 : codeX P C n G GL a env H (thenQ (fun e h => Cy I J Inv e h) Q)) (h2 : ∀ x, Inv x → AWp P C n b (I x) (J x) Q) : AWp P C n (.seq a b) env H Q :=
  aw_seq ((codeX_ok hC hGL _ _ _ _ h1).mono fun x e h q => by
    cases x with
    | normal =>
      obtain ⟨y, hy, hs, rfl⟩ := q.h
      exact aw_sub hs (h2 y hy)
    | exit i => exact q
    | goto i => exact q
    | ret => exact q
    | panic v => exact q)
theorem cut {a b : Code} (hC : C.G = G) (hGL : GloAll G GL) (I : Env) (J : Heap) (p : Prop) (h1 : codeX P C n G GL a env H (thenQ (fun e h => Ct I J p e h) Q)) (h2 : p → AWp P C n b I J Q) : AWp P C n (.seq a b) env H Q :=
  aw_seq ((codeX_ok hC hGL _ _ _ _ h1).mono fun x e h q => by
    cases x with
    | normal =>
      obtain ⟨hp, hs, rfl⟩ := q
      exact aw_sub hs (h2 hp)
    | exit i => exact q
    | goto i => exact q
    | ret => exact q
    | panic v => exact q)
end
theorem xw0 {P : Prop} (h : P := by
    repeat' (first
      | (conv => whnf); first
        | refine .w ?_ | refine .v ?_ | apply sc_true | apply sc_false
        | (first | apply sc_lt | apply sc_nlt | apply sc_eq | apply sc_neq | apply sc_nil | apply sc_nnil | apply sc_seq | apply sc_nseq) <;> (intro wb; try exact dd wb)
        | apply sc_not | apply sc_or | (apply sc_i <;> intro wb)
        | (apply bx_i; intro wb) | (apply gt_i; assumption; exact rfl)
        | (apply cx_is; first | assumption | (apply k1 <;> omega) | (apply k2 <;> omega) | (apply k3 <;> omega)) | (apply cx_do (i := 0) rfl; assumption) | (apply cx_do (i := 1) rfl; assumption) | (apply cx_do (i := 2) rfl; assumption)
        | (apply ab_i; intro wl) | (apply as_i; intro wa wk wc wh) | (apply av_i; intro wv) | (apply ac_i; intro wl wq wb)
        | apply bo_l | (apply nx_i <;> intro wb) | (apply Ia.hit; assumption) | (apply Ia.miss; assumption)
        | (apply rt_is; exact rfl) | exact rt_w | exact Ct.w | (apply iv; assumption)
        | exact True.intro | (apply bc_i; intro wC whC) | apply bt_i | apply og_n | (apply og_a; exact rfl) | apply dw_q mixed whC hGL (by kernel_rfl) | apply dw_q mixed hC hGL (by kernel_rfl) | (apply cq; assumption; (first | assumption | (apply k1 <;> omega) | (apply k2 <;> omega)); exact rfl))
    all_goals (try conv => whnf)) : P := h
theorem xw1 {P Q : Prop} (hQ : Q) (h : Lf Q → P := by
    intro ww
    repeat' (first
      | (conv => whnf); first
        | refine .w ?_ | refine .v ?_ | apply sc_true | apply sc_false
        | (first | apply sc_lt | apply sc_nlt | apply sc_eq | apply sc_neq | apply sc_nil | apply sc_nnil | apply sc_seq | apply sc_nseq) <;> (intro wb; try exact dd wb)
        | apply sc_not | apply sc_or | (apply sc_i <;> intro wb)
        | (apply bx_i; intro wb) | (apply gt_i; assumption; exact rfl)
        | (apply cx_is; first | assumption | (apply k1 <;> omega) | (apply k2 <;> omega) | (apply k3 <;> omega)) | (apply cx_do (i := 0) rfl; assumption) | (apply cx_do (i := 1) rfl; assumption) | (apply cx_do (i := 2) rfl; assumption)
        | (apply ab_i; intro wl) | (apply as_i; intro wa wk wc wh) | (apply av_i; intro wv) | (apply ac_i; intro wl wq wb)
        | apply bo_l | (apply nx_i <;> intro wb) | (apply Ia.hit; assumption) | (apply Ia.miss; assumption)
        | (apply rt_is; exact rfl) | exact rt_w | exact Ct.w | (apply iv; assumption)
        | exact True.intro | (apply bc_i; intro wC whC) | apply bt_i | apply og_n | (apply og_a; exact rfl) | apply dw_q mixed whC hGL (by kernel_rfl) | apply dw_q mixed hC hGL (by kernel_rfl) | (apply cq; assumption; (first | assumption | (apply k1 <;> omega) | (apply k2 <;> omega)); exact rfl))
    all_goals (try conv => whnf)
    all_goals (repeat (first | revert wb | revert wh | revert wc | revert wk | revert wa | revert wq | revert wl | revert wv | revert whC | revert wC))
    all_goals (apply Lf.h; apply ww)) : P := h ⟨hQ⟩
theorem xw {P Q : Prop} (hQ : Q) (h : Lf Q → P := by
    intro ww
    repeat' (first
      | (conv => whnf); first
        | refine .w ?_ | refine .v ?_ | apply sc_true | apply sc_false
        | (first | apply sc_lt | apply sc_nlt | apply sc_eq | apply sc_neq | apply sc_nil | apply sc_nnil | apply sc_seq | apply sc_nseq) <;> (intro wb; try exact dd wb)
        | apply sc_not | apply sc_or | (apply sc_i <;> intro wb)
        | (apply bx_i; intro wb) | (apply gt_i; assumption; exact rfl)
        | (apply cx_is; first | assumption | (apply k1 <;> omega) | (apply k2 <;> omega) | (apply k3 <;> omega)) | (apply cx_do (i := 0) rfl; assumption) | (apply cx_do (i := 1) rfl; assumption) | (apply cx_do (i := 2) rfl; assumption)
        | (apply ab_i; intro wl) | (apply as_i; intro wa wk wc wh) | (apply av_i; intro wv) | (apply ac_i; intro wl wq wb)
        | apply bo_l | (apply nx_i <;> intro wb) | (apply Ia.hit; assumption) | (apply Ia.miss; assumption)
        | (apply rt_is; exact rfl) | exact rt_w | exact Ct.w | (apply iv; assumption)
        | exact True.intro | (apply bc_i; intro wC whC) | apply bt_i | apply og_n | (apply og_a; exact rfl) | apply dw_q mixed whC hGL (by kernel_rfl) | apply dw_q mixed hC hGL (by kernel_rfl) | (apply cq; assumption; (first | assumption | (apply k1 <;> omega) | (apply k2 <;> omega)); exact rfl))
    all_goals (try conv => whnf)
    all_goals (repeat (first | revert wb | revert wh | revert wc | revert wk | revert wa | revert wq | revert wl | revert wv | revert whC | revert wC))
    all_goals (apply Lf.l; with_reducible (repeat (first | apply ww | apply Lf.r)))) (e : Lz Q := by repeat (first | exact Lz.n | apply Lz.c)) : P := h ⟨hQ⟩
theorem xn0 {P : Prop} (h : P := by
    repeat' (first
      | (conv => whnf); first
        | refine .w ?_ | refine .v ?_ | apply sc_true | apply sc_false
        | (first | apply sc_lt | apply sc_nlt | apply sc_eq | apply sc_neq | apply sc_nil | apply sc_nnil | apply sc_seq | apply sc_nseq) <;> (intro wb; try exact dd wb)
        | apply sc_not | apply sc_or | (apply sc_i <;> intro wb)
        | (apply bx_i; intro wb) | (apply gt_i; assumption; exact rfl)
        | (apply cx_is; first | assumption | (apply k1 <;> omega) | (apply k2 <;> omega) | (apply k3 <;> omega)) | (apply cx_do (i := 0) rfl; assumption) | (apply cx_do (i := 1) rfl; assumption) | (apply cx_do (i := 2) rfl; assumption)
        | (apply ab_i; intro wl) | (apply as_i; intro wa wk wc wh) | (apply av_i; intro wv) | (apply ac_i; intro wl wq wb)
        | apply bo_l | (apply nx_i <;> intro wb) | (apply Ia.hit; assumption) | (apply Ia.miss; assumption)
        | (apply rt_is; exact rfl) | exact rt_w | exact Ct.w | (apply iv; assumption)
        | exact True.intro | (apply bc_i; intro wC whC) | apply bt_i | apply og_n | (apply og_a; exact rfl))
    all_goals (try conv => whnf)) : P := h
theorem xn1 {P Q : Prop} (hQ : Q) (h : Lf Q → P := by
    intro ww
    repeat' (first
      | (conv => whnf); first
        | refine .w ?_ | refine .v ?_ | apply sc_true | apply sc_false
        | (first | apply sc_lt | apply sc_nlt | apply sc_eq | apply sc_neq | apply sc_nil | apply sc_nnil | apply sc_seq | apply sc_nseq) <;> (intro wb; try exact dd wb)
        | apply sc_not | apply sc_or | (apply sc_i <;> intro wb)
        | (apply bx_i; intro wb) | (apply gt_i; assumption; exact rfl)
        | (apply cx_is; first | assumption | (apply k1 <;> omega) | (apply k2 <;> omega) | (apply k3 <;> omega)) | (apply cx_do (i := 0) rfl; assumption) | (apply cx_do (i := 1) rfl; assumption) | (apply cx_do (i := 2) rfl; assumption)
        | (apply ab_i; intro wl) | (apply as_i; intro wa wk wc wh) | (apply av_i; intro wv) | (apply ac_i; intro wl wq wb)
        | apply bo_l | (apply nx_i <;> intro wb) | (apply Ia.hit; assumption) | (apply Ia.miss; assumption)
        | (apply rt_is; exact rfl) | exact rt_w | exact Ct.w | (apply iv; assumption)
        | exact True.intro | (apply bc_i; intro wC whC) | apply bt_i | apply og_n | (apply og_a; exact rfl))
    all_goals (try conv => whnf)
    all_goals (repeat (first | revert wb | revert wh | revert wc | revert wk | revert wa | revert wq | revert wl | revert wv | revert whC | revert wC))
    all_goals (apply Lf.h; apply ww)) : P := h ⟨hQ⟩
theorem xn {P Q : Prop} (hQ : Q) (h : Lf Q → P := by
    intro ww
    repeat' (first
      | (conv => whnf); first
        | refine .w ?_ | refine .v ?_ | apply sc_true | apply sc_false
        | (first | apply sc_lt | apply sc_nlt | apply sc_eq | apply sc_neq | apply sc_nil | apply sc_nnil | apply sc_seq | apply sc_nseq) <;> (intro wb; try exact dd wb)
        | apply sc_not | apply sc_or | (apply sc_i <;> intro wb)
        | (apply bx_i; intro wb) | (apply gt_i; assumption; exact rfl)
        | (apply cx_is; first | assumption | (apply k1 <;> omega) | (apply k2 <;> omega) | (apply k3 <;> omega)) | (apply cx_do (i := 0) rfl; assumption) | (apply cx_do (i := 1) rfl; assumption) | (apply cx_do (i := 2) rfl; assumption)
        | (apply ab_i; intro wl) | (apply as_i; intro wa wk wc wh) | (apply av_i; intro wv) | (apply ac_i; intro wl wq wb)
        | apply bo_l | (apply nx_i <;> intro wb) | (apply Ia.hit; assumption) | (apply Ia.miss; assumption)
        | (apply rt_is; exact rfl) | exact rt_w | exact Ct.w | (apply iv; assumption)
        | exact True.intro | (apply bc_i; intro wC whC) | apply bt_i | apply og_n | (apply og_a; exact rfl))
    all_goals (try conv => whnf)
    all_goals (repeat (first | revert wb | revert wh | revert wc | revert wk | revert wa | revert wq | revert wl | revert wv | revert whC | revert wC))
    all_goals (apply Lf.l; with_reducible (repeat (first | apply ww | apply Lf.r)))) (e : Lz Q := by repeat (first | exact Lz.n | apply Lz.c)) : P := h ⟨hQ⟩
theorem xb1 {P Q : Prop} (hQ : Q) (h : Lf Q → P := by
    intro ww
    repeat' (first
      | (conv => whnf); first
        | refine .w ?_ | refine .v ?_ | apply sc_true | apply sc_false
        | (first | apply sc_lt | apply sc_nlt | apply sc_eq | apply sc_neq | apply sc_nil | apply sc_nnil | apply sc_seq | apply sc_nseq) <;> (intro wb; try exact dd wb)
        | apply sc_not | apply sc_or | (apply sc_i <;> intro wb)
        | (apply bx_i; intro wb) | (apply gt_i; assumption; exact rfl)
        | (apply cx_is; first | assumption | (apply k1 <;> omega) | (apply k2 <;> omega) | (apply k3 <;> omega)) | (apply cx_do (i := 0) rfl; assumption) | (apply cx_do (i := 1) rfl; assumption) | (apply cx_do (i := 2) rfl; assumption)
        | (apply ab_i; intro wl) | (apply as_i; intro wa wk wc wh) | (apply av_i; intro wv) | (apply ac_i; intro wl wq wb)
        | apply bo_r | (apply nx_i <;> intro wb) | (apply Ia.hit; assumption) | (apply Ia.miss; assumption)
        | (apply rt_is; exact rfl) | exact rt_w | exact Ct.w | (apply iv; assumption)
        | exact True.intro | (apply bc_i; intro wC whC) | apply bt_i | apply og_n | (apply og_a; exact rfl))
    all_goals (try conv => whnf)
    all_goals (repeat (first | revert wb | revert wh | revert wc | revert wk | revert wa | revert wq | revert wl | revert wv | revert whC | revert wC))
    all_goals (apply Lf.h; apply ww)) : P := h ⟨hQ⟩
theorem xb {P Q : Prop} (hQ : Q) (h : Lf Q → P := by
    intro ww
    repeat' (first
      | (conv => whnf); first
        | refine .w ?_ | refine .v ?_ | apply sc_true | apply sc_false
        | (first | apply sc_lt | apply sc_nlt | apply sc_eq | apply sc_neq | apply sc_nil | apply sc_nnil | apply sc_seq | apply sc_nseq) <;> (intro wb; try exact dd wb)
        | apply sc_not | apply sc_or | (apply sc_i <;> intro wb)
        | (apply bx_i; intro wb) | (apply gt_i; assumption; exact rfl)
        | (apply cx_is; first | assumption | (apply k1 <;> omega) | (apply k2 <;> omega) | (apply k3 <;> omega)) | (apply cx_do (i := 0) rfl; assumption) | (apply cx_do (i := 1) rfl; assumption) | (apply cx_do (i := 2) rfl; assumption)
        | (apply ab_i; intro wl) | (apply as_i; intro wa wk wc wh) | (apply av_i; intro wv) | (apply ac_i; intro wl wq wb)
        | apply bo_r | (apply nx_i <;> intro wb) | (apply Ia.hit; assumption) | (apply Ia.miss; assumption)
        | (apply rt_is; exact rfl) | exact rt_w | exact Ct.w | (apply iv; assumption)
        | exact True.intro | (apply bc_i; intro wC whC) | apply bt_i | apply og_n | (apply og_a; exact rfl))
    all_goals (try conv => whnf)
    all_goals (repeat (first | revert wb | revert wh | revert wc | revert wk | revert wa | revert wq | revert wl | revert wv | revert whC | revert wC))
    all_goals (apply Lf.l; with_reducible (repeat (first | apply ww | apply Lf.r)))) (e : Lz Q := by repeat (first | exact Lz.n | apply Lz.c)) : P := h ⟨hQ⟩
end Go.Proofs.YtidcpikoeohfbaaGreatDoor
namespace Go.Proofs.YtidcpikoeohfbaaGreatDoor
open Go Go.RowKit
set_option maxRecDepth 20000
set_option maxHeartbeats 8000000
set_option linter.unusedSimpArgs false
set_option linter.unusedVariables false
attribute [local irreducible] AWp AOps SrcOK OrOk GloAll FnSpec
/-- A stamp in its memory. -/
def Stm.R (t : Stm) : List AVal := [.int .i64 t.y, .int .i64 t.m, .int .i64 t.d, .int .i64 t.h, .int .i64 t.i, .int .i64 t.s, .bool t.z, .int .i64 t.o]
attribute [local irreducible] fourS twoS zprS
end Go.Proofs.YtidcpikoeohfbaaGreatDoor
namespace Go.Proofs.YtidcpikoeohfbaaGreatDoor
open Go Go.RowKit
def toldF (i : Nat) : List UInt8 := [[], [97], [97, 98], [97, 98, 99], [98], [98, 99], [99]].getD i []
def dateF (i : Nat) : List UInt8 := [[], [57, 57, 57, 57], [57, 57, 57, 57, 45, 57, 57], [57, 57, 57, 57, 57, 57, 57, 57], [45, 45, 57, 57], [45, 45, 57, 57, 57, 57], [45, 45, 45, 57, 57]].getD i []
def clkF (i : Nat) : List UInt8 := [[], [57, 57], [57, 57, 57, 57], [57, 57, 57, 57, 57, 57], [45, 57, 57], [45, 57, 57, 57, 57], [45, 45, 57, 57]].getD i []
def shapesF (i : Nat) : AVal := .agg [.str (toldF i), .str (dateF i), .str (clkF i)]
/-- The table of the reference. -/
def shapesTy : List (Nat × List AVal) := [(0, [.list 3 7 shapesF])]
set_option maxRecDepth 20000
set_option maxHeartbeats 8000000
set_option linter.unusedSimpArgs false
set_option linter.unusedVariables false
attribute [local irreducible] AWp AOps SrcOK OrOk GloAll FnSpec
theorem ref_which {G : Glo} (hGL : GloAll G shapesTy) (a b c : Int) : FnIs Tryz.prog G 92 [threeL a b c] (.int .i64 (whN (tlB a) (tlB b) (tlB c))) := by
  by_cases h1 : a = -1
  all_goals by_cases h2 : b = -1
  all_goals by_cases h3 : c = -1
  all_goals
    refine fn_x Tryz.func92 Tryz.call92 rfl rfl rfl rfl hGL ?_
    intro C hC
    repeat' (first
      | (conv => whnf); first
        | refine .w ?_ | refine .v ?_ | apply sc_true | apply sc_false
        | (first | apply sc_lt | apply sc_nlt | apply sc_eq | apply sc_neq | apply sc_nil | apply sc_nnil | apply sc_seq | apply sc_nseq) <;> (intro hb; try exact dd hb)
        | apply sc_not | apply sc_or | (apply sc_i <;> intro hb)
        | (apply bx_i; intro hbd) | (apply gt_i; assumption; exact rfl)
        | (apply cx_is; first | fail) | (apply cx_do (i := 0) rfl; first | fail)
        | (apply ab_i; intro bl) | (apply as_i; intro va vk vc hva) | (apply av_i; intro v) | (apply ac_i; intro bl cap hcap)
        | apply bo_l | (apply nx_i <;> intro hnx) | (apply Ia.hit; assumption) | (apply Ia.miss; assumption)
        | (apply rt_is; exact rfl) | exact rt_w | (apply iv; assumption)
        | apply dw_q mixed hC hGL (by kernel_rfl) | (apply cq; assumption; (first | fail); exact rfl))
    all_goals (try conv => whnf)
    refine rds hC hGL 4 ?_
    repeat' (first
      | (conv => whnf); first
        | refine .w ?_ | refine .v ?_ | apply sc_true | apply sc_false
        | (first | apply sc_lt | apply sc_nlt | apply sc_eq | apply sc_neq | apply sc_nil | apply sc_nnil | apply sc_seq | apply sc_nseq) <;> (intro hb; try exact dd hb)
        | apply sc_not | apply sc_or | (apply sc_i <;> intro hb)
        | (apply bx_i; intro hbd) | (apply gt_i; assumption; exact rfl)
        | (apply cx_is; first | fail) | (apply cx_do (i := 0) rfl; first | fail)
        | (apply ab_i; intro bl) | (apply as_i; intro va vk vc hva) | (apply av_i; intro v) | (apply ac_i; intro bl cap hcap)
        | apply bo_l | (apply nx_i <;> intro hnx) | (apply Ia.hit; assumption) | (apply Ia.miss; assumption)
        | (apply rt_is; exact rfl) | exact rt_w | (apply iv; assumption)
        | apply dw_q mixed hC hGL (by kernel_rfl) | (apply cq; assumption; (first | fail); exact rfl))
    all_goals (try conv => whnf)
    refine rds hC hGL 8 ?_
    repeat' (first
      | (conv => whnf); first
        | refine .w ?_ | refine .v ?_ | apply sc_true | apply sc_false
        | (first | apply sc_lt | apply sc_nlt | apply sc_eq | apply sc_neq | apply sc_nil | apply sc_nnil | apply sc_seq | apply sc_nseq) <;> (intro hb; try exact dd hb)
        | apply sc_not | apply sc_or | (apply sc_i <;> intro hb)
        | (apply bx_i; intro hbd) | (apply gt_i; assumption; exact rfl)
        | (apply cx_is; first | fail) | (apply cx_do (i := 0) rfl; first | fail)
        | (apply ab_i; intro bl) | (apply as_i; intro va vk vc hva) | (apply av_i; intro v) | (apply ac_i; intro bl cap hcap)
        | apply bo_l | (apply nx_i <;> intro hnx) | (apply Ia.hit; assumption) | (apply Ia.miss; assumption)
        | (apply rt_is; exact rfl) | exact rt_w | (apply iv; assumption)
        | apply dw_q mixed hC hGL (by kernel_rfl) | (apply cq; assumption; (first | fail); exact rfl))
    all_goals (try conv => whnf)
    all_goals (apply rt_is; simp only [tlB, h1, h2, h3, ne_eq, not_true_eq_false, not_false_eq_true, decide_true, decide_false]; rfl)
end Go.Proofs.YtidcpikoeohfbaaGreatDoor
namespace Go.Proofs.YtidcpikoeohfbaaGreatDoor
open Go Go.RowKit
/-- A map of bytes, done up to a place. -/
def mapB (f : Nat → Nat) (s : List UInt8) : List UInt8 := s.map fun c => UInt8.ofNat (f c.toNat)
theorem mapB_len (f : Nat → Nat) (s : List UInt8) : (mapB f s).length = s.length := by simp [mapB]
theorem byteAt_mapB {f : Nat → Nat} (hf : ∀ c, c < 256 → f c < 256) {s : List UInt8} {j : Nat} (h : j < s.length) : byteAt (mapB f s) j = f (byteAt s j) := by
  have e1 : byteAt (mapB f s) j = (UInt8.ofNat (f s[j].toNat)).toNat := by simp [byteAt, mapB, List.getD, h]
  rw [e1, byteAt_getElem h, UInt8.toNat_ofNat']
  have := hf _ (UInt8.toNat_lt s[j])
  omega
def Mapd (f : Nat → Nat) (s : List UInt8) (x : Nat × List UInt8) : Prop :=
  x.1 ≤ s.length ∧ x.2.length = s.length ∧ ∀ j, j < s.length → byteAt x.2 j = if j < x.1 then f (byteAt s j) else byteAt s j
theorem mapd_0 {f : Nat → Nat} {s : List UInt8} : Mapd f s (0, s) := ⟨Nat.zero_le _, rfl, fun j _ => by rw [if_neg (by simp)]⟩
theorem mapd_at {f : Nat → Nat} {s : List UInt8} {i : Nat} {t : List UInt8} (h : Mapd f s (i, t)) (hi : i < s.length) : byteAt t i = byteAt s i := by
  have := h.2.2 i hi
  rwa [if_neg (by simp)] at this
theorem mapd_hit {f : Nat → Nat} {s : List UInt8} {i : Nat} {t : List UInt8} (h : Mapd f s (i, t)) (hi : i < s.length) {m : Nat} (hm : m = f (byteAt s i)) (h1 : m < 256) : Mapd f s (i + 1, t.set i (UInt8.ofNat m)) := by
  obtain ⟨h2, h3, h4⟩ := h
  refine ⟨hi, by simp only [List.length_set]; exact h3, fun j hj => ?_⟩
  dsimp only at *
  have hb : byteAt (t.set i (UInt8.ofNat m)) j = if j = i then m else byteAt t j := by
    unfold byteAt
    by_cases e : j = i
    · subst e
      rw [if_pos rfl]
      simp only [List.getD, List.getElem?_set_self (show j < t.length by omega), Option.getD_some]
      rw [UInt8.toNat_ofNat']; omega
    · rw [if_neg e]
      simp only [List.getD, List.getElem?_set_ne (Ne.symm e)]
  rw [hb]
  by_cases e : j = i
  · subst e; rw [if_pos rfl, if_pos (by omega), hm]
  · rw [if_neg e, h4 j hj]
    by_cases e2 : j < i
    · rw [if_pos e2, if_pos (by omega)]
    · rw [if_neg e2, if_neg (by omega)]
theorem mapd_miss {f : Nat → Nat} {s : List UInt8} {i : Nat} {t : List UInt8} (h : Mapd f s (i, t)) (hi : i < s.length) (hm : f (byteAt s i) = byteAt s i) : Mapd f s (i + 1, t) := by
  refine ⟨hi, h.2.1, fun j hj => ?_⟩
  have := h.2.2 j hj
  dsimp only at *
  rw [this]
  by_cases e : j = i
  · subst e; rw [if_neg (by omega), if_pos (by omega), hm]
  · by_cases e2 : j < i
    · rw [if_pos e2, if_pos (by omega)]
    · rw [if_neg e2, if_neg (by omega)]
theorem mapd_end {f : Nat → Nat} (hf : ∀ c, c < 256 → f c < 256) {s : List UInt8} {i : Nat} {t : List UInt8} (h : Mapd f s (i, t)) (hi : s.length ≤ i) : t = mapB f s := by
  refine ext_byteAt (by rw [mapB_len]; exact h.2.1) (fun j hj => ?_)
  rw [mapB_len] at hj
  rw [byteAt_mapB hf hj, h.2.2 j hj, if_pos (show j < i by omega)]
/-- A 9 for each digit. -/
def nineN (c : Nat) : Nat := if 48 ≤ c ∧ c ≤ 57 then 57 else c
theorem nineN_lt : ∀ c, c < 256 → nineN c < 256 := by intro c h; unfold nineN; split <;> omega
def shpS (s : List UInt8) : List UInt8 := mapB nineN s
/-- A digit. -/
def digB (c : Nat) : Bool := decide (48 ≤ c ∧ c ≤ 57)
theorem digB_t {c : Nat} : digB c = true ↔ (48 ≤ c ∧ c ≤ 57) := by simp [digB]
theorem nine_57 {c : Nat} : nineN c = 57 ↔ (48 ≤ c ∧ c ≤ 57) := by unfold nineN; split <;> omega
theorem nine_id {c k : Nat} (h : ¬ (48 ≤ k ∧ k ≤ 57)) : nineN c = k ↔ c = k := by unfold nineN; split <;> omega
theorem shp_at {s : List UInt8} {j : Nat} (h : j < s.length) : byteAt (shpS s) j = nineN (byteAt s j) := byteAt_mapB nineN_lt h
theorem shp_one {s : List UInt8} : shpS s = [90] ↔ s = [90] := by
  constructor
  · intro h
    have hl : s.length = 1 := by rw [← mapB_len nineN s]; exact congrArg List.length h
    have h0 := shp_at (s := s) (j := 0) (by omega)
    rw [h] at h0
    have h1 : byteAt s 0 = 90 := (nine_id (by omega)).1 h0.symm
    exact ext_byteAt (by rw [hl]; rfl) (fun j hj => by
      have : j = 0 := by simp at hj; omega
      subst this; rw [h1]; rfl)
  · rintro rfl; rfl
theorem shp_three {s : List UInt8} {k : Nat} (hk : ¬ (48 ≤ k ∧ k ≤ 57)) (hk2 : k < 256) : shpS s = [UInt8.ofNat k, 57, 57] ↔ s.length = 3 ∧ byteAt s 0 = k ∧ (48 ≤ byteAt s 1 ∧ byteAt s 1 ≤ 57) ∧ (48 ≤ byteAt s 2 ∧ byteAt s 2 ≤ 57) := by
  have hk3 : byteAt [UInt8.ofNat k, 57, 57] 0 = k := by unfold byteAt; simp; omega
  constructor
  · intro h
    have hl : s.length = 3 := by rw [← mapB_len nineN s]; exact congrArg List.length h
    have h0 := shp_at (s := s) (j := 0) (by omega)
    have h1 := shp_at (s := s) (j := 1) (by omega)
    have h2 := shp_at (s := s) (j := 2) (by omega)
    rw [h] at h0 h1 h2
    rw [hk3] at h0
    exact ⟨hl, (nine_id hk).1 h0.symm, nine_57.1 h1.symm, nine_57.1 h2.symm⟩
  · rintro ⟨hl, h0, h1, h2⟩
    refine ext_byteAt (by rw [show (shpS s).length = _ from mapB_len _ _, hl]; rfl) (fun j hj => ?_)
    have hj : j < 3 := hj
    rw [shp_at (by omega)]
    match j, hj with
    | 0, _ => rw [hk3, h0, nine_id hk]
    | 1, _ => exact nine_57.2 h1
    | 2, _ => exact nine_57.2 h2
theorem shp_five {s : List UInt8} {k : Nat} (hk : ¬ (48 ≤ k ∧ k ≤ 57)) (hk2 : k < 256) : shpS s = [UInt8.ofNat k, 57, 57, 57, 57] ↔ s.length = 5 ∧ byteAt s 0 = k ∧ (48 ≤ byteAt s 1 ∧ byteAt s 1 ≤ 57) ∧ (48 ≤ byteAt s 2 ∧ byteAt s 2 ≤ 57) ∧ (48 ≤ byteAt s 3 ∧ byteAt s 3 ≤ 57) ∧ (48 ≤ byteAt s 4 ∧ byteAt s 4 ≤ 57) := by
  have hk3 : byteAt [UInt8.ofNat k, 57, 57, 57, 57] 0 = k := by unfold byteAt; simp; omega
  constructor
  · intro h
    have hl : s.length = 5 := by rw [← mapB_len nineN s]; exact congrArg List.length h
    have h0 := shp_at (s := s) (j := 0) (by omega)
    have h1 := shp_at (s := s) (j := 1) (by omega)
    have h2 := shp_at (s := s) (j := 2) (by omega)
    have h3 := shp_at (s := s) (j := 3) (by omega)
    have h4 := shp_at (s := s) (j := 4) (by omega)
    rw [h] at h0 h1 h2 h3 h4
    rw [hk3] at h0
    exact ⟨hl, (nine_id hk).1 h0.symm, nine_57.1 h1.symm, nine_57.1 h2.symm, nine_57.1 h3.symm, nine_57.1 h4.symm⟩
  · rintro ⟨hl, h0, h1, h2, h3, h4⟩
    refine ext_byteAt (by rw [show (shpS s).length = _ from mapB_len _ _, hl]; rfl) (fun j hj => ?_)
    have hj : j < 5 := hj
    rw [shp_at (by omega)]
    match j, hj with
    | 0, _ => rw [hk3, h0, nine_id hk]
    | 1, _ => exact nine_57.2 h1
    | 2, _ => exact nine_57.2 h2
    | 3, _ => exact nine_57.2 h3
    | 4, _ => exact nine_57.2 h4
/-- Minutes of hours and minutes, and what is wrong with them. -/
def hmV (neg : Bool) (h m : Int) : Int × Int := if 5 < m / 10 ∨ 840 < 60 * h + m then (0, 2) else (if neg then 0 - (60 * h + m) else 60 * h + m, 0)
def digN (s : List UInt8) (j : Nat) : Int := (byteAt s j : Int) - 48
/-- The minutes that a text is, and what is wrong with it. -/
def zoneV (s : List UInt8) : Int × Int :=
  if s = [90] then (0, 0)
  else if s.length = 3 ∧ (byteAt s 0 = 43 ∨ byteAt s 0 = 45) ∧ (digB (byteAt s 1) ∧ digB (byteAt s 2)) then hmV (decide (byteAt s 0 = 45)) (10 * digN s 1 + digN s 2) 0
  else if s.length = 5 ∧ (byteAt s 0 = 43 ∨ byteAt s 0 = 45) ∧ (digB (byteAt s 1) ∧ digB (byteAt s 2) ∧ digB (byteAt s 3) ∧ digB (byteAt s 4)) then hmV (decide (byteAt s 0 = 45)) (10 * digN s 1 + digN s 2) (10 * digN s 3 + digN s 4)
  else (0, 3)
def zoneX (s : List UInt8) : Err := if (zoneV s).2 = 0 then .none else .errno (zoneV s).2
set_option maxRecDepth 20000
set_option maxHeartbeats 4000000
set_option linter.unusedSimpArgs false
set_option linter.unusedVariables false
attribute [local irreducible] AWp AOps byteAt SrcOK OrOk GloAll FnSpec
theorem ref_shape {G : Glo} (s : List UInt8) (hl : s.length ≤ 9223372036854775807) : FnIs Tryz.prog G 36 [.str s] (.str (shpS s)) := by
  have hGL : GloAll G [] := gloAll_nil
  refine fn_x Tryz.func36 Tryz.call36 rfl rfl rfl rfl hGL ?_
  intro C hC
  have hw := fun c => ref_within (G := G) c 48 57
  repeat' (first
    | (conv => whnf); first
      | refine .w ?_ | refine .v ?_ | apply sc_true | apply sc_false
      | (first | apply sc_lt | apply sc_nlt | apply sc_eq | apply sc_neq | apply sc_nil | apply sc_nnil | apply sc_seq | apply sc_nseq) <;> (intro hb; try exact dd hb)
      | apply sc_not | apply sc_or | (apply sc_i <;> intro hb)
      | (apply bx_i; intro hbd) | (apply gt_i; assumption; exact rfl)
      | (apply cx_is; first | fail) | (apply cx_do (i := 0) rfl; first | fail)
      | (apply ab_i; intro bl) | (apply as_i; intro va vk vc hva) | (apply av_i; intro v) | (apply ac_i; intro bl cap hcap)
      | apply bo_l | (apply nx_i <;> intro hnx) | (apply Ia.hit; assumption) | (apply Ia.miss; assumption)
      | (apply rt_is; exact rfl) | exact rt_w | (apply iv; assumption)
      | apply dw_q mixed hC hGL (by kernel_rfl) | (apply cq; assumption; (first | fail); exact rfl))
  all_goals (try conv => whnf)
  refine lp hC hGL (fun (x : Nat × List UInt8) => [(3, .own 0 (.slice (some ⟨bl, 0, none⟩) s.length cap)), (8, .int .i64 s.length), (9, .int .i64 x.1)]) (fun x => [.buf bl x.2 cap]) (Mapd nineN s) (fun x => s.length - x.1) (0, s) ?_ env_w rfl ?_
  · exact mapd_0
  rintro ⟨i, t⟩ hI
  have hi := hI.1
  have ht := hI.2.1
  dsimp only at hi ht ⊢
  repeat' (first
    | (conv => whnf); first
      | refine .w ?_ | refine .v ?_ | apply sc_true | apply sc_false
      | (first | apply sc_lt | apply sc_nlt | apply sc_eq | apply sc_neq | apply sc_nil | apply sc_nnil | apply sc_seq | apply sc_nseq) <;> (intro hb; try exact dd hb)
      | apply sc_not | apply sc_or | (apply sc_i <;> intro hb)
      | (apply bx_i; intro hbd) | (apply gt_i; assumption; exact rfl)
      | (apply cx_is; first | exact hw _) | (apply cx_do (i := 0) rfl; first | exact hw _)
      | (apply ab_i; intro bl) | (apply as_i; intro va vk vc hva) | (apply av_i; intro v) | (apply ac_i; intro bl cap hcap)
      | apply bo_l | (apply nx_i <;> intro hnx) | (apply Ia.hit; assumption) | (apply Ia.miss; assumption)
      | (apply rt_is; exact rfl) | exact rt_w | (apply iv; assumption)
      | apply dw_q mixed hC hGL (by kernel_rfl) | (apply cq; assumption; (first | exact hw _); exact rfl))
  all_goals (try conv => whnf)
  · have e := mapd_at hI (by omega)
    rw [e, Bool.and_eq_true, decide_eq_true_eq, decide_eq_true_eq] at hb
    refine nxt (i + 1, t.set i (UInt8.ofNat 57)) ?_ ?_ env_w rfl
    · exact mapd_hit hI (by omega) (by unfold nineN; rw [if_pos (by omega)]) (by omega)
    · dsimp only; omega
  · have e := mapd_at hI (by omega)
    rw [e, Bool.and_eq_false_iff, decide_eq_false_iff_not, decide_eq_false_iff_not] at hb
    refine nxt (i + 1, t) ?_ ?_ env_w rfl
    · exact mapd_miss hI (by omega) (by unfold nineN; rw [if_neg (by omega)])
    · dsimp only; omega
  · apply rt_is
    rw [mapd_end nineN_lt hI (by omega)]
    rfl
attribute [local irreducible] digB shpS
theorem z_ok {s : List UInt8} {v : Int} {H' : Heap} (h : zoneV s = (v, 0)) : Rt (fun (x : ARes) (H : Heap) => x = .ret (.tuple [.int .i64 (zoneV s).1, (zoneX s).A]) ∧ H = []) (.tuple [.int .i64 v, .raw .nilIface]) H' := by
  apply rt_is
  unfold zoneX
  rw [h, if_pos rfl]
  rfl
theorem z_err {s : List UInt8} {e : Int} {H' : Heap} (h : zoneV s = (0, e)) (he : e ≠ 0) : Rt (fun (x : ARes) (H : Heap) => x = .ret (.tuple [.int .i64 (zoneV s).1, (zoneX s).A]) ∧ H = []) (.tuple [.int .i64 0, .iface 27 (.int .i64 e)]) H' := by
  apply rt_is
  unfold zoneX
  rw [h, if_neg he]
  rfl
theorem zone_Parse {G : Glo} (s : List UInt8) (hl : s.length ≤ 9223372036854775807) : FnIs Tryz.prog G 25 [.str s] (.tuple [.int .i64 (zoneV s).1, (zoneX s).A]) := by
  have hGL : GloAll G [] := gloAll_nil
  refine fn_x Tryz.func25 Tryz.call25 rfl rfl rfl rfl hGL ?_
  intro C hC
  repeat' (first
    | (conv => whnf); first
      | refine .w ?_ | refine .v ?_ | apply sc_true | apply sc_false
      | (first | apply sc_lt | apply sc_nlt | apply sc_eq | apply sc_neq | apply sc_nil | apply sc_nnil | apply sc_seq | apply sc_nseq) <;> (intro hb; try exact dd hb)
      | apply sc_not | apply sc_or | (apply sc_i <;> intro hb)
      | (apply bx_i; intro hbd) | (apply gt_i; assumption; exact rfl)
      | (apply cx_is; first | fail) | (apply cx_do (i := 0) rfl; first | fail)
      | (apply ab_i; intro bl) | (apply as_i; intro va vk vc hva) | (apply av_i; intro v) | (apply ac_i; intro bl cap hcap)
      | apply bo_l | (apply nx_i <;> intro hnx) | (apply Ia.hit; assumption) | (apply Ia.miss; assumption)
      | (apply rt_is; exact rfl) | exact rt_w | (apply iv; assumption)
      | apply dw_q mixed hC hGL (by kernel_rfl) | (apply cq; assumption; (first | fail); exact rfl))
  all_goals (try conv => whnf)
  any_goals (refine rds hC hGL 5 ?_)
  repeat' (first
    | (conv => whnf); first
      | refine .w ?_ | refine .v ?_ | apply sc_true | apply sc_false
      | (first | apply sc_lt | apply sc_nlt | apply sc_eq | apply sc_neq | apply sc_nil | apply sc_nnil | apply sc_seq | apply sc_nseq) <;> (intro hb; try exact dd hb)
      | apply sc_not | apply sc_or | (apply sc_i <;> intro hb)
      | (apply bx_i; intro hbd) | (apply gt_i; assumption; exact rfl)
      | (apply cx_is; first | fail) | (apply cx_do (i := 0) rfl; first | fail)
      | (apply ab_i; intro bl) | (apply as_i; intro va vk vc hva) | (apply av_i; intro v) | (apply ac_i; intro bl cap hcap)
      | apply bo_l | (apply nx_i <;> intro hnx) | (apply Ia.hit; assumption) | (apply Ia.miss; assumption)
      | (apply rt_is; exact rfl) | exact rt_w | (apply iv; assumption)
      | apply dw_q mixed hC hGL (by kernel_rfl) | (apply cq; assumption; (first | fail); exact rfl))
  all_goals (try conv => whnf)
  all_goals first
    | (refine z_err ?_ (by decide)
       try simp only [Nat.zero_add, Nat.reduceAdd] at *
       unfold zoneV hmV digN
       rw [if_neg (by assumption)]
       simp only [digB_t, decide_eq_true_eq]
       (repeat' split) <;> simp only [Prod.mk.injEq, and_true, true_and] <;> omega)
    | (refine z_ok ?_; unfold zoneV; rw [if_pos (by assumption)]; done)
    | skip
  all_goals (
    refine z_ok ?_
    try simp only [Nat.zero_add, Nat.reduceAdd] at *
    unfold zoneV hmV digN
    rw [if_neg (by assumption)]
    simp only [digB_t, decide_eq_true_eq]
    (repeat' split) <;> simp only [Prod.mk.injEq, and_true, true_and] <;> omega)
theorem dd_atoi : ∀ a b : Fin 10, Lib.atoiAll [UInt8.ofNat (48 + a.1), UInt8.ofNat (48 + b.1)] = .ok ((10 * a.1 + b.1 : Nat) : Int) := by decide
theorem atoi_two {G : Glo} (s : List UInt8) (hl : s.length = 2) (h0 : 48 ≤ byteAt s 0 ∧ byteAt s 0 ≤ 57) (h1 : 48 ≤ byteAt s 1 ∧ byteAt s 1 ≤ 57) : FnIs Tryz.prog G 40 [.str s] (.tuple [.int .i64 (10 * digN s 0 + digN s 1), .raw .nilIface]) := by
  have e : s = [UInt8.ofNat (48 + (byteAt s 0 - 48)), UInt8.ofNat (48 + (byteAt s 1 - 48))] := by
    refine List.ext_getElem (by rw [hl]; rfl) (fun j j1 j2 => ?_)
    have hj : j < 2 := by simpa using j2
    match j, hj with
    | 0, _ =>
      simp only [List.getElem_cons_zero]
      rw [show 48 + (byteAt s 0 - 48) = byteAt s 0 by omega, byteAt_getElem (by omega)]
      simp
    | 1, _ =>
      simp only [List.getElem_cons_succ, List.getElem_cons_zero]
      rw [show 48 + (byteAt s 1 - 48) = byteAt s 1 by omega, byteAt_getElem (by omega)]
      simp
  have ha := dd_atoi ⟨byteAt s 0 - 48, by omega⟩ ⟨byteAt s 1 - 48, by omega⟩
  simp only at ha
  rw [← e] at ha
  have ev : ((10 * (byteAt s 0 - 48) + (byteAt s 1 - 48) : Nat) : Int) = 10 * digN s 0 + digN s 1 := by unfold digN; omega
  rw [ev] at ha
  refine fnis_of_calls_v (.tuple #[.int .i64 (10 * digN s 0 + digN s 1), .nilIface]) (fun R => rel_tup2 (rel_int.2 rfl) (rel_raw.2 rfl)) Tryz.call40 ?_
  intro R args hr w _ _
  obtain ⟨x, t, e', hx, rfl⟩ := hr
  obtain rfl := rel_str.1 hx
  obtain rfl := arr_of e'
  refine (Tryz.strconv_Atoi_ok ⟨s.toArray⟩ (by rw [str_size]; omega) _ (by simpa using ha) w).mono ?_
  rintro e w' ⟨rfl, hw⟩
  refine ⟨rfl, ?_⟩
  rcases hw with rfl | ⟨t, rfl⟩
  · exact Below.refl _ _
  · exact ⟨rfl, rfl, rfl, by rw [Lib.bytesWorld_size]; omega, fun k hk => Lib.bytesWorld_at_old _ _ _ _ hk⟩
theorem byteAt_drop {s : List UInt8} {k j : Nat} : byteAt (s.drop k) j = byteAt s (k + j) := by
  unfold byteAt
  simp [List.getD, List.getElem?_drop]
theorem hm_rt {neg : Bool} {h m a b : Int} {H' : Heap} (e : hmV neg h m = (a, b)) : Rt (fun (x : ARes) (H : Heap) => x = .ret (.tuple [.int .i64 (hmV neg h m).1, .int .i64 (hmV neg h m).2]) ∧ H = []) (.tuple [.int .i64 a, .int .i64 b]) H' := by
  apply rt_is
  rw [e]
theorem ref_ZoneParse_five {G : Glo} (s : List UInt8) (hl : s.length = 5) (hs : byteAt s 0 = 43 ∨ byteAt s 0 = 45) (h1 : 48 ≤ byteAt s 1 ∧ byteAt s 1 ≤ 57) (h2 : 48 ≤ byteAt s 2 ∧ byteAt s 2 ≤ 57) (h3 : 48 ≤ byteAt s 3 ∧ byteAt s 3 ≤ 57) (h4 : 48 ≤ byteAt s 4 ∧ byteAt s 4 ≤ 57) :
    FnIs Tryz.prog G 16 [.str s] (.tuple [.int .i64 (hmV (decide (byteAt s 0 = 45)) (10 * digN s 1 + digN s 2) (10 * digN s 3 + digN s 4)).1, .int .i64 (hmV (decide (byteAt s 0 = 45)) (10 * digN s 1 + digN s 2) (10 * digN s 3 + digN s 4)).2]) := by
  have hGL : GloAll G [] := gloAll_nil
  refine fn_x Tryz.func16 Tryz.call16 rfl rfl rfl rfl hGL ?_
  intro C hC
  have hsh := ref_shape (G := G) s (by omega)
  have e1 : (s.take 3).drop 1 = (s.drop 1).take 2 := by rw [List.take_drop]
  have a1 := atoi_two (G := G) ((s.take 3).drop 1) (by rw [List.length_drop, List.length_take]; omega) (by rw [byteAt_drop, byteAt_take (by omega)]; exact h1) (by rw [byteAt_drop, byteAt_take (by omega)]; exact h2)
  have a2 := atoi_two (G := G) (s.drop 3) (by rw [List.length_drop]; omega) (by rw [byteAt_drop]; exact h3) (by rw [byteAt_drop]; exact h4)
  have d1 : digN ((s.take 3).drop 1) 0 = digN s 1 := by unfold digN; rw [byteAt_drop, byteAt_take (by omega)]
  have d2 : digN ((s.take 3).drop 1) 1 = digN s 2 := by unfold digN; rw [byteAt_drop, byteAt_take (by omega)]
  have d3 : digN (s.drop 3) 0 = digN s 3 := by unfold digN; rw [byteAt_drop]
  have d4 : digN (s.drop 3) 1 = digN s 4 := by unfold digN; rw [byteAt_drop]
  rw [d1, d2] at a1
  rw [d3, d4] at a2
  have g1 : 0 ≤ digN s 1 ∧ digN s 1 ≤ 9 := by unfold digN; omega
  have g2 : 0 ≤ digN s 2 ∧ digN s 2 ≤ 9 := by unfold digN; omega
  have g3 : 0 ≤ digN s 3 ∧ digN s 3 ≤ 9 := by unfold digN; omega
  have g4 : 0 ≤ digN s 4 ∧ digN s 4 ≤ 9 := by unfold digN; omega
  have hz := fun n => ref_ZoneRight (G := G) n
  rcases hs with hs | hs
  · have hsp : shpS s = [43, 57, 57, 57, 57] := (shp_five (k := 43) (by omega) (by omega)).2 ⟨hl, hs, h1, h2, h3, h4⟩
    rw [hsp] at hsh
    repeat' (first
      | (conv => whnf); first
        | refine .w ?_ | refine .v ?_ | apply sc_true | apply sc_false
        | (first | apply sc_lt | apply sc_nlt | apply sc_eq | apply sc_neq | apply sc_nil | apply sc_nnil | apply sc_seq | apply sc_nseq) <;> (intro hb; try exact dd hb)
        | apply sc_not | apply sc_or | (apply sc_i <;> intro hb)
        | (apply bx_i; intro hbd) | (apply gt_i; assumption; exact rfl)
        | (apply cx_is; first | exact hsh | exact a1 | exact a2 | exact hz _) | (apply cx_do (i := 0) rfl; first | exact hsh | exact a1 | exact a2 | exact hz _)
        | (apply ab_i; intro bl) | (apply as_i; intro va vk vc hva) | (apply av_i; intro v) | (apply ac_i; intro bl cap hcap)
        | apply bo_l | (apply nx_i <;> intro hnx) | (apply Ia.hit; assumption) | (apply Ia.miss; assumption)
        | (apply rt_is; exact rfl) | exact rt_w | (apply iv; assumption)
        | apply dw_q mixed hC hGL (by kernel_rfl) | (apply cq; assumption; (first | exact hsh | exact a1 | exact a2 | exact hz _); exact rfl))
    all_goals (try conv => whnf)
    all_goals (
      refine hm_rt ?_
      try simp only [zrB_t, zrB_f] at *
      unfold hmV
      simp only [decide_eq_true_eq]
      (repeat' split) <;> first | (exfalso; omega) | exact rfl)
  · have hsp : shpS s = [45, 57, 57, 57, 57] := (shp_five (k := 45) (by omega) (by omega)).2 ⟨hl, hs, h1, h2, h3, h4⟩
    rw [hsp] at hsh
    repeat' (first
      | (conv => whnf); first
        | refine .w ?_ | refine .v ?_ | apply sc_true | apply sc_false
        | (first | apply sc_lt | apply sc_nlt | apply sc_eq | apply sc_neq | apply sc_nil | apply sc_nnil | apply sc_seq | apply sc_nseq) <;> (intro hb; try exact dd hb)
        | apply sc_not | apply sc_or | (apply sc_i <;> intro hb)
        | (apply bx_i; intro hbd) | (apply gt_i; assumption; exact rfl)
        | (apply cx_is; first | exact hsh | exact a1 | exact a2 | exact hz _) | (apply cx_do (i := 0) rfl; first | exact hsh | exact a1 | exact a2 | exact hz _)
        | (apply ab_i; intro bl) | (apply as_i; intro va vk vc hva) | (apply av_i; intro v) | (apply ac_i; intro bl cap hcap)
        | apply bo_l | (apply nx_i <;> intro hnx) | (apply Ia.hit; assumption) | (apply Ia.miss; assumption)
        | (apply rt_is; exact rfl) | exact rt_w | (apply iv; assumption)
        | apply dw_q mixed hC hGL (by kernel_rfl) | (apply cq; assumption; (first | exact hsh | exact a1 | exact a2 | exact hz _); exact rfl))
    all_goals (try conv => whnf)
    all_goals (
      refine hm_rt ?_
      try simp only [zrB_t, zrB_f] at *
      unfold hmV
      simp only [decide_eq_true_eq]
      (repeat' split) <;> first | (exfalso; omega) | exact rfl)
theorem ref_ZoneParse {G : Glo} (s : List UInt8) (hl : s.length ≤ 9223372036854775000) : FnIs Tryz.prog G 16 [.str s] (.tuple [.int .i64 (zoneV s).1, .int .i64 (zoneV s).2]) := by
  by_cases h5 : s.length = 5 ∧ (byteAt s 0 = 43 ∨ byteAt s 0 = 45) ∧ (digB (byteAt s 1) ∧ digB (byteAt s 2) ∧ digB (byteAt s 3) ∧ digB (byteAt s 4))
  · obtain ⟨hl5, hs, h1, h2, h3, h4⟩ := h5
    have e : zoneV s = hmV (decide (byteAt s 0 = 45)) (10 * digN s 1 + digN s 2) (10 * digN s 3 + digN s 4) := by
      unfold zoneV
      rw [if_neg (by rintro rfl; simp at hl5), if_neg (by omega), if_pos ⟨hl5, hs, h1, h2, h3, h4⟩]
    rw [e]
    exact ref_ZoneParse_five s hl5 hs (digB_t.1 h1) (digB_t.1 h2) (digB_t.1 h3) (digB_t.1 h4)
  have n43 : shpS s ≠ [43, 57, 57, 57, 57] := fun h => by
    have h := (shp_five (k := 43) (by omega) (by omega)).1 h
    exact h5 ⟨h.1, .inl h.2.1, digB_t.2 h.2.2.1, digB_t.2 h.2.2.2.1, digB_t.2 h.2.2.2.2.1, digB_t.2 h.2.2.2.2.2⟩
  have n45 : shpS s ≠ [45, 57, 57, 57, 57] := fun h => by
    have h := (shp_five (k := 45) (by omega) (by omega)).1 h
    exact h5 ⟨h.1, .inr h.2.1, digB_t.2 h.2.2.1, digB_t.2 h.2.2.2.1, digB_t.2 h.2.2.2.2.1, digB_t.2 h.2.2.2.2.2⟩
  have hGL : GloAll G [] := gloAll_nil
  refine fn_x Tryz.func16 Tryz.call16 rfl rfl rfl rfl hGL ?_
  intro C hC
  have hsh := ref_shape (G := G) s (by omega)
  by_cases h3 : s.length = 3 ∧ (byteAt s 0 = 43 ∨ byteAt s 0 = 45) ∧ (digB (byteAt s 1) ∧ digB (byteAt s 2))
  · obtain ⟨hl3, hs, h1, h2⟩ := h3
    have g : ∀ j, j < 3 → byteAt (s ++ [48, 48]) j = byteAt s j := fun j hj => by unfold byteAt; simp [List.getD, List.getElem?_append, show j < s.length by omega]
    have g3 : byteAt (s ++ [48, 48]) 3 = 48 := by unfold byteAt; simp [List.getD, List.getElem?_append, hl3]
    have g4 : byteAt (s ++ [48, 48]) 4 = 48 := by unfold byteAt; simp [List.getD, List.getElem?_append, hl3]
    have hr := ref_ZoneParse_five (G := G) (s ++ [48, 48]) (by rw [List.length_append, hl3]; rfl) (by rw [g 0 (by omega)]; exact hs) (by rw [g 1 (by omega)]; exact digB_t.1 h1) (by rw [g 2 (by omega)]; exact digB_t.1 h2) (by rw [g3]; omega) (by rw [g4]; omega)
    have d1 : digN (s ++ [48, 48]) 1 = digN s 1 := by unfold digN; rw [g 1 (by omega)]
    have d2 : digN (s ++ [48, 48]) 2 = digN s 2 := by unfold digN; rw [g 2 (by omega)]
    have d3 : digN (s ++ [48, 48]) 3 = 0 := by unfold digN; rw [g3]; rfl
    have d4 : digN (s ++ [48, 48]) 4 = 0 := by unfold digN; rw [g4]; rfl
    have e : zoneV s = hmV (decide (byteAt s 0 = 45)) (10 * digN s 1 + digN s 2) 0 := by
      unfold zoneV
      rw [if_neg (by rintro rfl; simp at hl3), if_pos ⟨hl3, hs, h1, h2⟩]
    rw [d1, d2, d3, d4, g 0 (by omega), show (10 * 0 + 0 : Int) = 0 from rfl, ← e] at hr
    have hsh' : shpS s = [43, 57, 57] ∨ shpS s = [45, 57, 57] := by
      rcases hs with hs | hs
      · exact .inl ((shp_three (k := 43) (by omega) (by omega)).2 ⟨hl3, hs, digB_t.1 h1, digB_t.1 h2⟩)
      · exact .inr ((shp_three (k := 45) (by omega) (by omega)).2 ⟨hl3, hs, digB_t.1 h1, digB_t.1 h2⟩)
    rcases hsh' with hsh' | hsh'
    all_goals (
      rw [hsh'] at hsh
      repeat' (first
        | (conv => whnf); first
          | refine .w ?_ | refine .v ?_ | apply sc_true | apply sc_false
          | (first | apply sc_lt | apply sc_nlt | apply sc_eq | apply sc_neq | apply sc_nil | apply sc_nnil | apply sc_seq | apply sc_nseq) <;> (intro hb; try exact dd hb)
          | apply sc_not | apply sc_or | (apply sc_i <;> intro hb)
          | (apply bx_i; intro hbd) | (apply gt_i; assumption; exact rfl)
          | (apply cx_is; first | exact hsh | exact hr) | (apply cx_do (i := 0) rfl; first | exact hsh | exact hr)
          | (apply ab_i; intro bl) | (apply as_i; intro va vk vc hva) | (apply av_i; intro v) | (apply ac_i; intro bl cap hcap)
          | apply bo_l | (apply nx_i <;> intro hnx) | (apply Ia.hit; assumption) | (apply Ia.miss; assumption)
          | (apply rt_is; exact rfl) | exact rt_w | (apply iv; assumption)
          | apply dw_q mixed hC hGL (by kernel_rfl) | (apply cq; assumption; (first | exact hsh | exact hr); exact rfl))
      all_goals (try conv => whnf))
  have m43 : shpS s ≠ [43, 57, 57] := fun h => by
    have h := (shp_three (k := 43) (by omega) (by omega)).1 h
    exact h3 ⟨h.1, .inl h.2.1, digB_t.2 h.2.2.1, digB_t.2 h.2.2.2⟩
  have m45 : shpS s ≠ [45, 57, 57] := fun h => by
    have h := (shp_three (k := 45) (by omega) (by omega)).1 h
    exact h3 ⟨h.1, .inr h.2.1, digB_t.2 h.2.2.1, digB_t.2 h.2.2.2⟩
  have e : zoneV s = if s = [90] then (0, 0) else (0, 3) := by
    unfold zoneV
    rw [if_neg h3, if_neg h5]
  rw [e]
  repeat' (first
    | (conv => whnf); first
      | refine .w ?_ | refine .v ?_ | apply sc_true | apply sc_false
      | (first | apply sc_lt | apply sc_nlt | apply sc_eq | apply sc_neq | apply sc_nil | apply sc_nnil | apply sc_seq | apply sc_nseq) <;> (intro hb; try exact dd hb)
      | apply sc_not | apply sc_or | (apply sc_i <;> intro hb)
      | (apply bx_i; intro hbd) | (apply gt_i; assumption; exact rfl)
      | (apply cx_is; first | exact hsh) | (apply cx_do (i := 0) rfl; first | exact hsh)
      | (apply ab_i; intro bl) | (apply as_i; intro va vk vc hva) | (apply av_i; intro v) | (apply ac_i; intro bl cap hcap)
      | apply bo_l | (apply nx_i <;> intro hnx) | (apply Ia.hit; assumption) | (apply Ia.miss; assumption)
      | (apply rt_is; exact rfl) | exact rt_w | (apply iv; assumption)
      | apply dw_q mixed hC hGL (by kernel_rfl) | (apply cq; assumption; (first | exact hsh); exact rfl))
  all_goals (try conv => whnf)
  · apply rt_is
    rw [if_pos (shp_one.1 hb)]
    rfl
  · apply rt_is
    rw [if_neg (fun h => absurd (shp_one.2 h) (by assumption))]
    rfl
end Go.Proofs.YtidcpikoeohfbaaGreatDoor
namespace Go.Proofs.YtidcpikoeohfbaaGreatDoor
open Go Go.RowKit
/-- What stands ahead of a byte, and behind it, and whether it is there. -/
def cutB (s : List UInt8) (c : Int) : List UInt8 × List UInt8 × Bool := if idxB s c < 0 then (s, [], false) else (s.take (idxB s c).toNat, s.drop ((idxB s c).toNat + 1), true)
/-- The last place of a byte among the first so many. -/
def lastI (s : List UInt8) (c : Int) : Nat → Int
  | 0 => -1
  | n + 1 => if (byteAt s n : Int) = c then n else lastI s c n
theorem lastI_cases (s : List UInt8) (c : Int) : ∀ n, (lastI s c n = -1 ∧ ∀ j, j < n → (byteAt s j : Int) ≠ c) ∨ ∃ m, m < n ∧ lastI s c n = (m : Int) ∧ (byteAt s m : Int) = c ∧ ∀ j, m < j → j < n → (byteAt s j : Int) ≠ c
  | 0 => .inl ⟨rfl, fun j h => absurd h (Nat.not_lt_zero _)⟩
  | n + 1 => by
    by_cases h : (byteAt s n : Int) = c
    · exact .inr ⟨n, Nat.lt_succ_self _, by simp only [lastI]; rw [if_pos h], h, fun j h1 h2 => by omega⟩
    · have e : lastI s c (n + 1) = lastI s c n := by simp only [lastI]; rw [if_neg h]
      rw [e]
      rcases lastI_cases s c n with ⟨h1, h2⟩ | ⟨m, h1, h2, h3, h4⟩
      · exact .inl ⟨h1, fun j hj => by
          rcases Nat.lt_or_ge j n with g | g
          · exact h2 j g
          · rw [show j = n by omega]; exact h⟩
      · exact .inr ⟨m, by omega, h2, h3, fun j g1 g2 => by
          rcases Nat.lt_or_ge j n with g | g
          · exact h4 j g1 g
          · rw [show j = n by omega]; exact h⟩
theorem idx_self {c : UInt8} : idxB [c] (c.toNat : Int) = 0 := idxB_at (i := 0) (Nat.lt_succ_self 0) rfl (fun j h => absurd h (Nat.not_lt_zero _))
theorem byte_one {c : UInt8} : (byteAt [c] 0 : Int) = (c.toNat : Int) := rfl
set_option maxRecDepth 20000
set_option maxHeartbeats 4000000
set_option linter.unusedSimpArgs false
set_option linter.unusedVariables false
attribute [local irreducible] AWp AOps byteAt SrcOK OrOk GloAll FnSpec
theorem sl_Index_one {G : Glo} (s : List UInt8) (c : UInt8) : FnIs Tryz.prog G 107 [.str s, .str [c]] (.int .i64 (idxB s (c.toNat : Int))) := by
  have hc := c.toNat_lt
  have hb := byte_one (c := c)
  have k1 := stringslite_IndexByte (G := G) s (byteAt [c] 0 : Int) (by omega) (by omega)
  by_cases hs : [c] = s
  · have e := idx_self (c := c)
    rw [hs] at e
    rw [e]
    have hGL : GloAll G [] := gloAll_nil
    refine fn_x Tryz.func107 Tryz.call107 rfl rfl rfl rfl hGL ?_
    intro C hC
    exact xw0
  · rw [← hb]
    have hGL : GloAll G [] := gloAll_nil
    refine fn_x Tryz.func107 Tryz.call107 rfl rfl rfl rfl hGL ?_
    intro C hC
    exact xw0
theorem sl_Cut_one {G : Glo} (s : List UInt8) (c : UInt8) (hl : s.length ≤ 1000000) : FnIs Tryz.prog G 75 [.str s, .str [c]] (.tuple [.str (cutB s (c.toNat : Int)).1, .str (cutB s (c.toNat : Int)).2.1, .bool (cutB s (c.toNat : Int)).2.2]) := by
  have k1 := sl_Index_one (G := G) s c
  rcases idxB_cases s (c.toNat : Int) with ⟨h1, h2⟩ | ⟨m, h1, h2, h3, h4⟩
  · have e : cutB s (c.toNat : Int) = (s, [], false) := by unfold cutB; rw [h1, if_pos (by decide)]
    rw [h1] at k1
    rw [e]
    have hGL : GloAll G [] := gloAll_nil
    refine fn_x Tryz.func75 Tryz.call75 rfl rfl rfl rfl hGL ?_
    intro C hC
    exact xw0
  · have e : cutB s (c.toNat : Int) = (s.take m, s.drop (m + 1), true) := by unfold cutB; rw [h2, if_neg (by omega), Int.toNat_natCast]
    rw [h2] at k1
    rw [e]
    have hGL : GloAll G [] := gloAll_nil
    refine fn_x Tryz.func75 Tryz.call75 rfl rfl rfl rfl hGL ?_
    intro C hC
    exact xw0
theorem strings_Cut_one {G : Glo} (s : List UInt8) (c : UInt8) (hl : s.length ≤ 1000000) : FnIs Tryz.prog G 49 [.str s, .str [c]] (.tuple [.str (cutB s (c.toNat : Int)).1, .str (cutB s (c.toNat : Int)).2.1, .bool (cutB s (c.toNat : Int)).2.2]) := by
  have k1 := sl_Cut_one (G := G) s c hl
  have hGL : GloAll G [] := gloAll_nil
  refine fn_x Tryz.func49 Tryz.call49 rfl rfl rfl rfl hGL ?_
  intro C hC
  exact xw0
theorem bytealg_LastIndexByteString {G : Glo} (s : List UInt8) (c : Int) (h0 : 0 ≤ c) (h1 : c ≤ 255) (hl : s.length ≤ 1000000) : FnIs Tryz.prog G 82 [.str s, .int .u8 c] (.int .i64 (lastI s c s.length)) := by
  have hGL : GloAll G [] := gloAll_nil
  refine fn_x Tryz.func82 Tryz.call82 rfl rfl rfl rfl hGL ?_
  intro C hC
  refine xw1 ?_
  refine lp hC hGL (fun n : Nat => [(0, .str s), (1, .int .u8 c), (5, .int .i64 ((n : Int) - 1))]) (fun _ => []) (fun n => n ≤ s.length ∧ lastI s c n = lastI s c s.length) (fun n => n) s.length ⟨Nat.le_refl _, rfl⟩ env_w rfl ?_
  rintro n ⟨h2, h3⟩
  cases n with
  | zero =>
    rw [← h3]
    exact xw0
  | succ n =>
    by_cases h : (byteAt s n : Int) = c
    · have e : lastI s c (n + 1) = n := by simp only [lastI]; rw [if_pos h]
      rw [← h3, e]
      have e9 : ((n + 1 : Nat) : Int) - 1 = (n : Int) := by omega
      rw [e9]
      exact xw0
    · have e : lastI s c (n + 1) = lastI s c n := by simp only [lastI]; rw [if_neg h]
      rw [e] at h3
      have e9 : ((n + 1 : Nat) : Int) - 1 = (n : Int) := by omega
      rw [e9]
      refine xw1 ?_
      intros
      exact nxt n ⟨by omega, h3⟩ (by omega) env_w rfl
theorem strings_LastIndexByte {G : Glo} (s : List UInt8) (c : Int) (h0 : 0 ≤ c) (h1 : c ≤ 255) (hl : s.length ≤ 1000000) : FnIs Tryz.prog G 52 [.str s, .int .u8 c] (.int .i64 (lastI s c s.length)) := by
  have k1 := bytealg_LastIndexByteString (G := G) s c h0 h1 hl
  have hGL : GloAll G [] := gloAll_nil
  refine fn_x Tryz.func52 Tryz.call52 rfl rfl rfl rfl hGL ?_
  intro C hC
  exact xw0
end Go.Proofs.YtidcpikoeohfbaaGreatDoor
namespace Go.Proofs.YtidcpikoeohfbaaGreatDoor
open Go Go.RowKit
theorem shp_len (s : List UInt8) : (shpS s).length = s.length := mapB_len _ _
theorem shp_pt {s u : List UInt8} (h : shpS s = u) : s.length = u.length ∧ ∀ i, i < u.length → nineN (byteAt s i) = byteAt u i := by
  subst h
  refine ⟨(shp_len s).symm, fun i hi => ?_⟩
  rw [shp_len] at hi
  exact (shp_at hi).symm
theorem take_at {s : List UInt8} {n i : Nat} (h : i < n) : byteAt (s.take n) i = byteAt s i := by
  unfold byteAt
  simp [List.getD, List.getElem?_take_of_lt h]
theorem drop_at {s : List UInt8} {n i : Nat} : byteAt (s.drop n) i = byteAt s (n + i) := by
  unfold byteAt
  simp [List.getD]
theorem clk_len {j : Nat} (h1 : 1 ≤ j) (h6 : j ≤ 6) : 2 ≤ (clkF j).length ∧ (clkF j).length ≤ 6 := by
  rcases (show j = 1 ∨ j = 2 ∨ j = 3 ∨ j = 4 ∨ j = 5 ∨ j = 6 by omega) with rfl | rfl | rfl | rfl | rfl | rfl <;> decide
theorem clk_hi {j : Nat} (h1 : 1 ≤ j) (h6 : j ≤ 6) : ∀ i, i < (clkF j).length → byteAt (clkF j) i = 57 ∨ (byteAt (clkF j) i = 45 ∧ i < 2) := by
  rcases (show j = 1 ∨ j = 2 ∨ j = 3 ∨ j = 4 ∨ j = 5 ∨ j = 6 by omega) with rfl | rfl | rfl | rfl | rfl | rfl <;> decide
theorem clk_inj {j k : Nat} (h1 : 1 ≤ j) (h6 : j ≤ 6) (g1 : 1 ≤ k) (g6 : k ≤ 6) (h : clkF j = clkF k) : j = k := by
  rcases (show j = 1 ∨ j = 2 ∨ j = 3 ∨ j = 4 ∨ j = 5 ∨ j = 6 by omega) with rfl | rfl | rfl | rfl | rfl | rfl <;>
    rcases (show k = 1 ∨ k = 2 ∨ k = 3 ∨ k = 4 ∨ k = 5 ∨ k = 6 by omega) with rfl | rfl | rfl | rfl | rfl | rfl <;> first | rfl | (revert h; decide)
/-- A time's text split: its form's number, and where its zone begins. -/
structure IsSp (t : List UInt8) (j n : Nat) : Prop where
  j1 : 1 ≤ j
  j6 : j ≤ 6
  hn : n ≤ t.length
  hs : shpS (t.take n) = clkF j
  hz : n = t.length ∨ byteAt t n = 90 ∨ byteAt t n = 43 ∨ byteAt t n = 45
theorem IsSp.len {t : List UInt8} {j n : Nat} (h : IsSp t j n) : n = (clkF j).length := by
  have := (shp_pt h.hs).1
  rw [List.length_take] at this
  have := h.hn
  omega
theorem IsSp.at {t : List UInt8} {j n : Nat} (h : IsSp t j n) : ∀ i, i < n → (48 ≤ byteAt t i ∧ byteAt t i ≤ 57) ∨ (byteAt t i = 45 ∧ i < 2) := by
  intro i hi
  have h1 := (shp_pt h.hs).2 i (by rw [← h.len]; exact hi)
  rw [take_at hi] at h1
  rcases clk_hi h.j1 h.j6 i (by rw [← h.len]; exact hi) with k | ⟨k, k2⟩
  · rw [k] at h1
    exact .inl (nine_57.1 h1)
  · rw [k] at h1
    exact .inr ⟨(nine_id (by omega)).1 h1, k2⟩
theorem IsSp.uniq {t : List UInt8} {j n j' n' : Nat} (h : IsSp t j n) (g : IsSp t j' n') : j = j' ∧ n = n' := by
  have key : ∀ {j n j' n' : Nat}, IsSp t j n → IsSp t j' n' → ¬ n < n' := by
    intro j n j' n' h g hlt
    have h2 := (clk_len h.j1 h.j6).1
    rw [← h.len] at h2
    have h3 := g.at n hlt
    have h4 := g.hn
    have h5 := h.hz
    omega
  have e : n = n' := by
    have h1 := key h g
    have h2 := key g h
    omega
  subst e
  exact ⟨clk_inj h.j1 h.j6 g.j1 g.j6 (h.hs.symm.trans g.hs), rfl⟩
/-- Where the program takes the zone to begin. -/
def KAt (t : List UInt8) (k : Nat) : Prop :=
  (k < t.length ∧ (byteAt t k = 90 ∨ byteAt t k = 43) ∧ ∀ j, j < k → byteAt t j ≠ 90 ∧ byteAt t j ≠ 43) ∨
  ((∀ j, j < t.length → byteAt t j ≠ 90 ∧ byteAt t j ≠ 43) ∧ ((k < t.length ∧ 2 ≤ k ∧ byteAt t k = 45 ∧ ∀ j, k < j → j < t.length → byteAt t j ≠ 45) ∨ (k = t.length ∧ ∀ j, 2 ≤ j → j < t.length → byteAt t j ≠ 45)))
theorem kAt_le {t : List UInt8} {k : Nat} (h : KAt t k) : k ≤ t.length := by
  unfold KAt at h
  omega
theorem zone_bad {z : List UInt8} {m : Nat} (h0 : byteAt z 0 = 45) (hm : 0 < m) (hl : m < z.length) (h : byteAt z m = 90 ∨ byteAt z m = 43 ∨ byteAt z m = 45) : zoneV z = (0, 3) := by
  unfold zoneV
  rw [if_neg (by rintro rfl; exact absurd h0 (by decide)), if_neg, if_neg]
  · rintro ⟨h1, -, h2, h3, h4, h5⟩
    rw [digB_t] at h2 h3 h4 h5
    rcases (show m = 1 ∨ m = 2 ∨ m = 3 ∨ m = 4 by omega) with rfl | rfl | rfl | rfl <;> omega
  · rintro ⟨h1, -, h2, h3⟩
    rw [digB_t] at h2 h3
    rcases (show m = 1 ∨ m = 2 by omega) with rfl | rfl <;> omega
theorem sp_k {t : List UInt8} {j n k : Nat} (h : IsSp t j n) (hk : KAt t k) : k = n ∨ (n < t.length ∧ zoneV (t.drop n) = (0, 3) ∧ ∀ j', 1 ≤ j' → j' ≤ 6 → shpS (t.take k) ≠ clkF j') := by
  have hat := h.at
  have hn := h.hn
  have hz := h.hz
  have h2 := (clk_len h.j1 h.j6).1
  rw [← h.len] at h2
  have hkl := kAt_le hk
  have nok : n < k → n < t.length → byteAt t n = 45 → ∀ j', 1 ≤ j' → j' ≤ 6 → shpS (t.take k) ≠ clkF j' := by
    intro hlt hnl h45 j' g1 g6 e
    have e1 := shp_pt e
    rw [List.length_take] at e1
    have e2 := e1.2 n (by omega)
    rw [take_at hlt, h45] at e2
    have e3 := clk_hi g1 g6 n (by omega)
    unfold nineN at e2
    rw [if_neg (by omega)] at e2
    omega
  rcases hk with ⟨k1, k2, k3⟩ | ⟨k0, ⟨k1, k2, k3, k4⟩ | ⟨k1, k2⟩⟩
  · have hnk : n ≤ k := by
      rcases Nat.lt_or_ge k n with g | g
      · have := hat k g
        omega
      · exact g
    rcases Nat.lt_or_ge n k with g | g
    · have hb := k3 n g
      have h45 : byteAt t n = 45 := by omega
      refine .inr ⟨by omega, zone_bad (m := k - n) (by rw [drop_at, Nat.add_zero]; exact h45) (by omega) (by rw [List.length_drop]; omega) (by rw [drop_at, show n + (k - n) = k by omega]; omega), nok g (by omega) h45⟩
    · exact .inl (by omega)
  · have hnk : n ≤ k := by
      rcases Nat.lt_or_ge k n with g | g
      · have := hat k g
        omega
      · exact g
    rcases Nat.lt_or_ge n k with g | g
    · have hb := k0 n (by omega)
      have h45 : byteAt t n = 45 := by omega
      refine .inr ⟨by omega, zone_bad (m := k - n) (by rw [drop_at, Nat.add_zero]; exact h45) (by omega) (by rw [List.length_drop]; omega) (by rw [drop_at, show n + (k - n) = k by omega]; omega), nok g (by omega) h45⟩
    · exact .inl (by omega)
  · refine .inl ?_
    rcases Nat.lt_or_ge n t.length with g | g
    · have hb := k0 n g
      have hc := k2 n h2 g
      omega
    · omega
theorem k_sp {t : List UInt8} {j k : Nat} (hk : KAt t k) (h1 : 1 ≤ j) (h6 : j ≤ 6) (h : shpS (t.take k) = clkF j) : IsSp t j k := by
  refine ⟨h1, h6, kAt_le hk, h, ?_⟩
  unfold KAt at hk
  omega
instance (t : List UInt8) (j n : Nat) : Decidable (IsSp t j n) :=
  if h : 1 ≤ j ∧ j ≤ 6 ∧ n ≤ t.length ∧ shpS (t.take n) = clkF j ∧ (n = t.length ∨ byteAt t n = 90 ∨ byteAt t n = 43 ∨ byteAt t n = 45) then isTrue ⟨h.1, h.2.1, h.2.2.1, h.2.2.2.1, h.2.2.2.2⟩ else isFalse fun k => h ⟨k.1, k.2, k.3, k.4, k.5⟩
/-- The form of a time's text, 0: none. -/
def splJ (t : List UInt8) : Nat := if IsSp t 1 2 then 1 else if IsSp t 2 4 then 2 else if IsSp t 3 6 then 3 else if IsSp t 4 3 then 4 else if IsSp t 5 5 then 5 else if IsSp t 6 4 then 6 else 0
def splN (t : List UInt8) : Nat := (clkF (splJ t)).length
theorem splJ_of {t : List UInt8} {j n : Nat} (h : IsSp t j n) : splJ t = j ∧ splN t = n := by
  have hl := h.len
  have key : splJ t = j := by
    have u := fun {j' n' : Nat} (g : IsSp t j' n') => (h.uniq g).1
    unfold splJ
    (repeat' split)
    all_goals first
      | exact (u (by assumption)).symm
      | (exfalso
         have g1 := h.j1
         have g6 := h.j6
         rcases (show j = 1 ∨ j = 2 ∨ j = 3 ∨ j = 4 ∨ j = 5 ∨ j = 6 by omega) with rfl | rfl | rfl | rfl | rfl | rfl
         all_goals (simp only [clkF, List.getD_cons_zero, List.getD_cons_succ, List.length_cons, List.length_nil] at hl; subst hl; contradiction))
  exact ⟨key, by unfold splN; rw [key]; exact hl.symm⟩
theorem splJ_sp {t : List UInt8} (h : splJ t ≠ 0) : IsSp t (splJ t) (splN t) := by
  have key : ∀ {j n : Nat}, IsSp t j n → IsSp t (splJ t) (splN t) := fun g => by
    obtain ⟨e1, e2⟩ := splJ_of g
    rw [e1, e2]
    exact g
  unfold splJ at h
  (repeat' split at h)
  all_goals first | exact key (by assumption) | exact absurd rfl h
theorem spl_none {t : List UInt8} {k : Nat} (hk : KAt t k) (h : ∀ j, 1 ≤ j → j ≤ 6 → shpS (t.take k) ≠ clkF j) : splJ t = 0 ∨ (splJ t ≠ 0 ∧ splN t < t.length ∧ zoneV (t.drop (splN t)) = (0, 3)) := by
  by_cases h0 : splJ t = 0
  · exact .inl h0
  · have g := splJ_sp h0
    rcases sp_k g hk with e | e
    · exact absurd (by rw [e]; exact g.hs) (h _ g.j1 g.j6)
    · exact .inr ⟨h0, e.1, e.2.1⟩
theorem spl_some {t : List UInt8} {j k : Nat} (hk : KAt t k) (h1 : 1 ≤ j) (h6 : j ≤ 6) (h : shpS (t.take k) = clkF j) : splJ t = j ∧ splN t = k := splJ_of (k_sp hk h1 h6 h)
/-- Two digits, four digits. -/
def two2 (s : List UInt8) (j : Nat) : Int := 10 * digN s j + digN s (j + 1)
def four4 (s : List UInt8) (j : Nat) : Int := 10 * (10 * (10 * digN s j + digN s (j + 1)) + digN s (j + 2)) + digN s (j + 3)
/-- The form of a date, 7: none. -/
def dIx (d : List UInt8) : Nat := if shpS d = dateF 0 then 0 else if shpS d = dateF 1 then 1 else if shpS d = dateF 2 then 2 else if shpS d = dateF 3 then 3 else if shpS d = dateF 4 then 4 else if shpS d = dateF 5 then 5 else if shpS d = dateF 6 then 6 else 7
theorem date_inj {j k : Nat} (h6 : j ≤ 6) (g6 : k ≤ 6) (h : dateF j = dateF k) : j = k := by
  rcases (show j = 0 ∨ j = 1 ∨ j = 2 ∨ j = 3 ∨ j = 4 ∨ j = 5 ∨ j = 6 by omega) with rfl | rfl | rfl | rfl | rfl | rfl | rfl <;>
    rcases (show k = 0 ∨ k = 1 ∨ k = 2 ∨ k = 3 ∨ k = 4 ∨ k = 5 ∨ k = 6 by omega) with rfl | rfl | rfl | rfl | rfl | rfl | rfl <;> first | rfl | (revert h; decide)
theorem dIx_of {d : List UInt8} {k : Nat} (hk : k ≤ 6) (h : shpS d = dateF k) : dIx d = k := by
  unfold dIx
  (repeat' split)
  all_goals first
    | (rename_i e; exact (date_inj hk (by decide) (h.symm.trans e)).symm)
    | (exfalso
       rcases (show k = 0 ∨ k = 1 ∨ k = 2 ∨ k = 3 ∨ k = 4 ∨ k = 5 ∨ k = 6 by omega) with rfl | rfl | rfl | rfl | rfl | rfl | rfl <;> contradiction)
theorem dIx_no {d : List UInt8} (h : ∀ k, k ≤ 6 → shpS d ≠ dateF k) : dIx d = 7 := by
  unfold dIx
  rw [if_neg (h 0 (by decide)), if_neg (h 1 (by decide)), if_neg (h 2 (by decide)), if_neg (h 3 (by decide)), if_neg (h 4 (by decide)), if_neg (h 5 (by decide)), if_neg (h 6 (by decide))]
def dY (k : Nat) (d : List UInt8) : Int := if k = 1 ∨ k = 2 ∨ k = 3 then four4 d 0 else -1
def dM (k : Nat) (d : List UInt8) : Int := if k = 2 then two2 d 5 else if k = 3 then two2 d 4 else if k = 4 ∨ k = 5 then two2 d 2 else -1
def dD (k : Nat) (d : List UInt8) : Int := if k = 3 then two2 d 6 else if k = 5 then two2 d 4 else if k = 6 then two2 d 3 else -1
def cH (k : Nat) (c : List UInt8) : Int := if k = 1 ∨ k = 2 ∨ k = 3 then two2 c 0 else -1
def cI (k : Nat) (c : List UInt8) : Int := if k = 2 ∨ k = 3 then two2 c 2 else if k = 4 ∨ k = 5 then two2 c 1 else -1
def cS (k : Nat) (c : List UInt8) : Int := if k = 3 then two2 c 4 else if k = 5 then two2 c 3 else if k = 6 then two2 c 2 else -1
/-- The stamp of a date's text, and a time's, and a zone's. -/
def whS (i : Nat) (d : List UInt8) (j : Nat) (c z : List UInt8) : Stm := ⟨dY i d, dM i d, dD i d, cH j c, cI j c, cS j c, decide (z ≠ []), if z = [] then 0 else (zoneV z).1⟩
def Stm.no : Stm := ⟨0, 0, 0, 0, 0, 0, false, 0⟩
def finP (t : Stm) : Stm × Err := if t.e = 0 then (t, .none) else (Stm.no, .errno t.e)
/-- The stamp that a text is, and what is wrong with it: of the date, of what is behind the T (if there is one). -/
def whR (d : List UInt8) (timed : Bool) (t : List UInt8) : Stm × Err :=
  if dIx d = 7 then (Stm.no, .errno 3)
  else if timed = false then finP (whS (dIx d) d 0 [] [])
  else if splJ t = 0 then (Stm.no, .errno 3)
  else if t.drop (splN t) ≠ [] ∧ (zoneV (t.drop (splN t))).2 ≠ 0 then (Stm.no, .errno (zoneV (t.drop (splN t))).2)
  else finP (whS (dIx d) d (splJ t) (t.take (splN t)) (t.drop (splN t)))
def whP (s : List UInt8) : Stm × Err := whR (cutB s 84).1 (cutB s 84).2.2 (cutB s 84).2.1
end Go.Proofs.YtidcpikoeohfbaaGreatDoor
