/- Parts of the proof of rulesKnow_card: Namr, Plc, Uri, Scu, Rub, Deh, Dfx, Shc, Ruc, Spl, Rud, Rue, Ruf, Rug, Eqa, Ruh, End, Han, Lai, Rui. -/
import Derived.Lib.Join
import Derived.Lib.ItoaNum
import Derived.Lib.Split
import Derived.Lib.LaidTab
import Derived.Laws.StructEq
import Derived.Test.YtjccffnjhdhgfaaGreatDoorRows
import Derived.ProofKit
import Derived.LaidMore
import Derived.Lay
import Derived.Stop.Joined
import Derived.LaidSub
import Derived.LaidHandle
import Derived.OpenShut
import Derived.Deep.Strs
import Derived.Shelf.Vars
import Derived.SizedLaws
import Derived.Test.YtjccffnjhdhgfaaGreatDoorBae
import Derived.Test.YtjccffnjhdhgfaaGreatDoorBad
set_option linter.unusedVariables false
set_option linter.unusedSimpArgs false
namespace Go.Proofs.YtjccffnjhdhgfaaGreatDoor
open Go Go.RowKit
set_option maxRecDepth 20000
set_option maxHeartbeats 4000000
set_option linter.unusedSimpArgs false
set_option linter.unusedVariables false
attribute [local irreducible] AWp AOps byteAt SrcOK OrOk GloAll FnSpec
attribute [local irreducible] idxB
theorem strings_ToLower {G : Glo} (s : List UInt8) (hs : s.length ≤ 140737488355328) (ha : ∀ j, j < s.length → byteAt s j < 128) : FnIs Tryz.prog G 40 [.str s] (.str (Lib.toLowerA s)) := by
  refine fnis_of_calls rfl Tryz.call40 ?_
  intro R args hr w _ _
  obtain ⟨x, t, e, hx, rfl⟩ := hr
  have hx := rel_str.1 hx
  subst hx
  obtain rfl : args = #[.string ⟨s.toArray⟩] := by cases args; simp_all
  have := Tryz.strings_ToLower_ascii ⟨s.toArray⟩ w (by rw [str_size]; exact hs) (fun j b hb => by
    have hb' : s[j]? = some b := by simpa using hb
    have hj := (List.getElem?_eq_some_iff.1 hb').1
    have h2 := ha j hj
    unfold byteAt at h2
    simpa [List.getD, hb'] using h2)
  simp only [AVal.conc]
  simpa using this
def abcU : List UInt8 := [65, 66, 67, 68, 69, 70, 71, 72, 73, 74, 75, 76, 77, 78, 79, 80, 81, 82, 83, 84, 85, 86, 87, 88, 89, 90]
def abcL : List UInt8 := [97, 98, 99, 100, 101, 102, 103, 104, 105, 106, 107, 108, 109, 110, 111, 112, 113, 114, 115, 116, 117, 118, 119, 120, 121, 122]
theorem toLower_abc {G : Glo} : FnIs Tryz.prog G 40 [.str abcU] (.str abcL) := by
  have h := strings_ToLower (G := G) abcU (by decide) (by decide +kernel)
  have e : Lib.toLowerA abcU = abcL := by decide
  rwa [e] at h
/-- A fact of all bytes, looked through one by one. -/
theorem all_bytes {p : Int → Bool} (h : ∀ c : Fin 256, p (c.1 : Int) = true) {c : Int} (h0 : 0 ≤ c) (h1 : c ≤ 255) : p c = true := by
  have := h ⟨c.toNat, by omega⟩
  simpa only [Int.toNat_of_nonneg h0] using this
theorem idx_low {c : Int} (h0 : 0 ≤ c) (h1 : c ≤ 255) : (if 0 ≤ idxB abcU c then idxB abcU c < 26 ∧ (byteAt abcL (idxB abcU c).toNat : Int) = turnN 65 90 32 c.toNat else turnN 65 90 32 c.toNat = c) := by
  have := all_bytes (p := fun c => decide (if 0 ≤ idxB abcU c then idxB abcU c < 26 ∧ (byteAt abcL (idxB abcU c).toNat : Int) = turnN 65 90 32 c.toNat else turnN 65 90 32 c.toNat = c)) (by decide +kernel) h0 h1
  simpa using this
theorem ref_Lower {G : Glo} (s : List UInt8) (hl : s.length ≤ 9223372036854775807) : FnIs Tryz.prog G 27 [.str s] (.str (turnS 65 90 32 s)) := by
  have hGL : GloAll G [] := gloAll_nil
  refine fn_x Tryz.func27 Tryz.call27 rfl rfl rfl rfl hGL ?_
  intro C hC
  have hT := toLower_abc (G := G)
  have hI := fun c h0 h1 => strings_IndexByte (G := G) abcU c h0 h1
  have eL : abcL.length = 26 := rfl
  repeat' (first
    | (conv => whnf); first
      | refine .w ?_ | refine .v ?_ | apply sc_true | apply sc_false
      | (first | apply sc_lt | apply sc_nlt | apply sc_eq | apply sc_neq | apply sc_nil | apply sc_nnil | apply sc_seq | apply sc_nseq) <;> (intro hb; try exact dd hb)
      | apply sc_not | apply sc_or | (apply sc_i <;> intro hb)
      | (apply bx_i; intro hbd) | (apply gt_i; assumption; exact rfl)
      | (apply cx_is; first | fail) | (apply cx_do (i := 0) rfl; first | fail)
      | (apply ab_i; intro bl) | (apply as_i; intro va vk vc hva) | (apply av_i; intro v) | (apply ac_i; intro bl cap hcap)
      | apply bo_l | (apply nx_i <;> intro hnx) | (apply Ia.hit; assumption) | (apply Ia.miss; assumption)
      | (apply rt_is; exact rfl) | exact rt_w | (apply iv; assumption)
      | apply dw_q mixed hC hGL (by kernel_rfl) | (apply cq; assumption; (first | fail); exact rfl))
  all_goals (try conv => whnf)
  refine lp hC hGL (fun (x : Nat × List UInt8) => [(3, .own 0 (.slice (some ⟨bl, 0, none⟩) s.length cap)), (9, .int .i64 s.length), (10, .int .i64 x.1)]) (fun x => [.buf bl x.2 cap]) (Turned 65 90 32 s) (fun x => s.length - x.1) (0, s) ?_ env_w rfl ?_
  · exact turned_0
  rintro ⟨i, t⟩ hI0
  have hi := hI0.1
  have ht := hI0.2.1
  dsimp only at hi ht ⊢
  repeat' (first
    | (conv => whnf); first
      | refine .w ?_ | refine .v ?_ | apply sc_true | apply sc_false
      | (first | apply sc_lt | apply sc_nlt | apply sc_eq | apply sc_neq | apply sc_nil | apply sc_nnil | apply sc_seq | apply sc_nseq) <;> (intro hb; try exact dd hb)
      | apply sc_not | apply sc_or | (apply sc_i <;> intro hb)
      | (apply bx_i; intro hbd) | (apply gt_i; assumption; exact rfl)
      | (apply cx_is; first | exact hT | (exact hI _ (by omega) (by omega))) | (apply cx_do (i := 0) rfl; first | exact hT | (exact hI _ (by omega) (by omega)))
      | (apply ab_i; intro bl) | (apply as_i; intro va vk vc hva) | (apply av_i; intro v) | (apply ac_i; intro bl cap hcap)
      | apply bo_l | (apply nx_i <;> intro hnx) | (apply Ia.hit; assumption) | (apply Ia.miss; assumption)
      | (apply rt_is; exact rfl) | exact rt_w | (apply iv; assumption)
      | apply dw_q mixed hC hGL (by kernel_rfl) | (apply cq; assumption; (first | exact hT | (exact hI _ (by omega) (by omega))); exact rfl))
  all_goals (try conv => whnf)
  · have e := turned_at hI0 (by omega)
    have hx := idx_low (c := (byteAt s i : Int)) (by omega) (by omega)
    rw [if_pos (by rw [← e]; exact hb), ← e] at hx
    repeat' (first
      | (conv => whnf); first
        | refine .w ?_ | refine .v ?_ | apply sc_true | apply sc_false
        | (first | apply sc_lt | apply sc_nlt | apply sc_eq | apply sc_neq | apply sc_nil | apply sc_nnil | apply sc_seq | apply sc_nseq) <;> (intro hb; try exact dd hb)
        | apply sc_not | apply sc_or | (apply sc_i <;> intro hb)
        | (apply bx_i; intro hbd) | (apply gt_i; assumption; exact rfl)
        | (apply cx_is; first | exact hT) | (apply cx_do (i := 0) rfl; first | exact hT)
        | (apply ab_i; intro bl) | (apply as_i; intro va vk vc hva) | (apply av_i; intro v) | (apply ac_i; intro bl cap hcap)
        | apply bo_l | (apply nx_i <;> intro hnx) | (apply Ia.hit; assumption) | (apply Ia.miss; assumption)
        | (apply rt_is; exact rfl) | exact rt_w | (apply iv; assumption)
        | apply dw_q mixed hC hGL (by kernel_rfl) | (apply cq; assumption; (first | exact hT); exact rfl))
    all_goals (try conv => whnf)
    refine nxt (i + 1, t.set i (UInt8.ofNat ((byteAt abcL (idxB abcU (byteAt t i)).toNat : Nat) : Int).toNat)) ?_ ?_ env_w rfl
    · refine turned_hit hI0 (by omega) ?_ (by omega) (by have := byteAt_lt abcL (idxB abcU (byteAt t i)).toNat; omega)
      rw [hx.2, e]
      simp only [Int.toNat_natCast]
    · dsimp only; omega
  · have e := turned_at hI0 (by omega)
    have hx := idx_low (c := (byteAt s i : Int)) (by omega) (by omega)
    rw [if_neg (by rw [← e]; omega)] at hx
    refine nxt (i + 1, t) ?_ ?_ env_w rfl
    · exact turned_miss hI0 (by omega) (by simpa using hx)
    · dsimp only; omega
  · apply rt_is
    rw [turned_end (by decide) (by decide) hI0 (by omega)]
end Go.Proofs.YtjccffnjhdhgfaaGreatDoor
namespace Go.Proofs.YtjccffnjhdhgfaaGreatDoor
open Go
set_option maxRecDepth 20000
set_option maxHeartbeats 4000000
set_option linter.unusedSimpArgs false
set_option linter.unusedVariables false
attribute [local irreducible] AWp AOps byteAt SrcOK OrOk GloAll FnSpec
theorem bare_ok {G : Glo} (hU2 : GloAll G errTy) (x : Err) (h : x.p = -1) : FnIs Tryz.prog G 9 [x.A, .int .i64 x.e] (.bool true) := by
  have := law_bare hU2 x x.e
  rwa [h, eqB_t.2 rfl, eqB_t.2 rfl] at this
end Go.Proofs.YtjccffnjhdhgfaaGreatDoor
namespace Go.Proofs.YtjccffnjhdhgfaaGreatDoor
open Go
theorem idxF_spec {c : Int} : ∀ (t : List UInt8) (k : Nat), (idxF c t k = -1 ∧ ∀ j, j < t.length → (byteAt t j : Int) ≠ c) ∨ ∃ m, m < t.length ∧ idxF c t k = ((k + m : Nat) : Int) ∧ (byteAt t m : Int) = c ∧ ∀ j, j < m → (byteAt t j : Int) ≠ c
  | [], _ => .inl ⟨rfl, fun j h => absurd h (Nat.not_lt_zero _)⟩
  | x :: t, k => by
    by_cases e : (x.toNat : Int) = c
    · refine .inr ⟨0, by simp, by simp [idxF, e], by simpa [byteAt] using e, fun j h => absurd h (Nat.not_lt_zero _)⟩
    · have e1 : idxF c (x :: t) k = idxF c t (k + 1) := by simp [idxF, e]
      have h0 : ∀ {p : Prop}, (∀ j, j < t.length → (byteAt t j : Int) ≠ c) → ∀ j, j < (x :: t).length → (byteAt (x :: t) j : Int) ≠ c := by
        intro _ h j hj
        cases j with
        | zero => simpa [byteAt] using e
        | succ j => simpa [byteAt] using h j (by simpa using hj)
      rcases idxF_spec (c := c) t (k + 1) with ⟨h1, h2⟩ | ⟨m, h1, h2, h3, h4⟩
      · exact .inl ⟨by rw [e1, h1], h0 (p := True) h2⟩
      · refine .inr ⟨m + 1, by simpa using h1, by rw [e1, h2]; omega, by simpa [byteAt] using h3, fun j hj => ?_⟩
        cases j with
        | zero => simpa [byteAt] using e
        | succ j => simpa [byteAt] using h4 j (by omega)
/-- Where a byte stands first, told by what stands there. -/
theorem idxB_at {s : List UInt8} {c : Int} {i : Nat} (hi : i < s.length) (h : (byteAt s i : Int) = c) (h0 : ∀ j, j < i → (byteAt s j : Int) ≠ c) : idxB s c = i := by
  rcases idxF_spec (c := c) s 0 with ⟨h1, h2⟩ | ⟨m, h1, h2, h3, h4⟩
  · exact absurd h (h2 i hi)
  · unfold idxB
    rw [h2]
    have : m = i := by
      rcases Nat.lt_trichotomy m i with h5 | h5 | h5
      · exact absurd h3 (h0 m h5)
      · exact h5
      · exact absurd h (h4 i h5)
    omega
theorem idxB_none {s : List UInt8} {c : Int} (h0 : ∀ j, j < s.length → (byteAt s j : Int) ≠ c) : idxB s c = -1 := by
  rcases idxF_spec (c := c) s 0 with ⟨h1, h2⟩ | ⟨m, h1, h2, h3, h4⟩
  · exact h1
  · exact absurd h3 (h0 m h1)
theorem idxB_cases (s : List UInt8) (c : Int) : (idxB s c = -1 ∧ ∀ j, j < s.length → (byteAt s j : Int) ≠ c) ∨ ∃ m, m < s.length ∧ idxB s c = (m : Int) ∧ (byteAt s m : Int) = c ∧ ∀ j, j < m → (byteAt s j : Int) ≠ c := by
  rcases idxF_spec (c := c) s 0 with h | ⟨m, h1, h2, h3⟩
  · exact .inl h
  · exact .inr ⟨m, h1, by unfold idxB; rw [h2]; omega, h3⟩
set_option maxRecDepth 20000
set_option maxHeartbeats 4000000
set_option linter.unusedSimpArgs false
set_option linter.unusedVariables false
attribute [local irreducible] AWp AOps byteAt SrcOK OrOk GloAll FnSpec
attribute [local irreducible] idxB
end Go.Proofs.YtjccffnjhdhgfaaGreatDoor
namespace Go.Proofs.YtjccffnjhdhgfaaGreatDoor
open Go Go.RowKit
/-- What stands ahead of a byte, and behind it, and whether it is there. -/
def cutB (s : List UInt8) (c : Int) : List UInt8 × List UInt8 × Bool := if idxB s c < 0 then (s, [], false) else (s.take (idxB s c).toNat, s.drop ((idxB s c).toNat + 1), true)
theorem idx_self {c : UInt8} : idxB [c] (c.toNat : Int) = 0 := idxB_at (i := 0) (Nat.lt_succ_self 0) rfl (fun j h => absurd h (Nat.not_lt_zero _))
theorem byte_one {c : UInt8} : (byteAt [c] 0 : Int) = (c.toNat : Int) := rfl
set_option maxRecDepth 20000
set_option maxHeartbeats 4000000
set_option linter.unusedSimpArgs false
set_option linter.unusedVariables false
attribute [local irreducible] AWp AOps byteAt SrcOK OrOk GloAll FnSpec
theorem sl_Index_one {G : Glo} (s : List UInt8) (c : UInt8) : FnIs Tryz.prog G 50 [.str s, .str [c]] (.int .i64 (idxB s (c.toNat : Int))) := by
  have hc := c.toNat_lt
  have hb := byte_one (c := c)
  have k1 := stringslite_IndexByte (G := G) s (byteAt [c] 0 : Int) (by omega) (by omega)
  by_cases hs : [c] = s
  · have e := idx_self (c := c)
    rw [hs] at e
    rw [e]
    have hGL : GloAll G [] := gloAll_nil
    refine fn_x Tryz.func50 Tryz.call50 rfl rfl rfl rfl hGL ?_
    intro C hC
    exact xw0
  · rw [← hb]
    have hGL : GloAll G [] := gloAll_nil
    refine fn_x Tryz.func50 Tryz.call50 rfl rfl rfl rfl hGL ?_
    intro C hC
    exact xw0
theorem sl_Cut_one {G : Glo} (s : List UInt8) (c : UInt8) (hl : s.length ≤ 1000000) : FnIs Tryz.prog G 37 [.str s, .str [c]] (.tuple [.str (cutB s (c.toNat : Int)).1, .str (cutB s (c.toNat : Int)).2.1, .bool (cutB s (c.toNat : Int)).2.2]) := by
  have k1 := sl_Index_one (G := G) s c
  rcases idxB_cases s (c.toNat : Int) with ⟨h1, h2⟩ | ⟨m, h1, h2, h3, h4⟩
  · have e : cutB s (c.toNat : Int) = (s, [], false) := by unfold cutB; rw [h1, if_pos (by decide)]
    rw [h1] at k1
    rw [e]
    have hGL : GloAll G [] := gloAll_nil
    refine fn_x Tryz.func37 Tryz.call37 rfl rfl rfl rfl hGL ?_
    intro C hC
    exact xw0
  · have e : cutB s (c.toNat : Int) = (s.take m, s.drop (m + 1), true) := by unfold cutB; rw [h2, if_neg (by omega), Int.toNat_natCast]
    rw [h2] at k1
    rw [e]
    have hGL : GloAll G [] := gloAll_nil
    refine fn_x Tryz.func37 Tryz.call37 rfl rfl rfl rfl hGL ?_
    intro C hC
    exact xw0
theorem strings_Cut_one {G : Glo} (s : List UInt8) (c : UInt8) (hl : s.length ≤ 1000000) : FnIs Tryz.prog G 25 [.str s, .str [c]] (.tuple [.str (cutB s (c.toNat : Int)).1, .str (cutB s (c.toNat : Int)).2.1, .bool (cutB s (c.toNat : Int)).2.2]) := by
  have k1 := sl_Cut_one (G := G) s c hl
  have hGL : GloAll G [] := gloAll_nil
  refine fn_x Tryz.func25 Tryz.call25 rfl rfl rfl rfl hGL ?_
  intro C hC
  exact xw0
end Go.Proofs.YtjccffnjhdhgfaaGreatDoor
namespace Go.Proofs.YtjccffnjhdhgfaaGreatDoor
open Go Go.RowKit
theorem byte_mem {s : List UInt8} {j : Nat} {c : UInt8} (hj : j < s.length) (h : c ∉ s) : (byteAt s j : Int) ≠ (c.toNat : Int) := by
  intro e
  apply h
  have e1 : byteAt s j = (s[j]).toNat := by simp [byteAt, List.getD, hj]
  have e2 : (s[j]).toNat = c.toNat := by rw [← e1]; omega
  rw [← UInt8.toNat_inj.1 e2]
  exact List.getElem_mem hj
theorem idxB_app {r t : List UInt8} {c : UInt8} (h : c ∉ r) : idxB (r ++ c :: t) (c.toNat : Int) = (r.length : Nat) := by
  refine idxB_at (by simp) ?_ fun j hj => ?_
  · simp [byteAt, List.getD]
  · have := byte_mem hj h
    rwa [show byteAt (r ++ c :: t) j = byteAt r j by simp [byteAt, List.getD, List.getElem?_append_left hj]]
theorem idxB_no {r : List UInt8} {c : UInt8} (h : c ∉ r) : idxB r (c.toNat : Int) = -1 := idxB_none fun j hj => byte_mem hj h
/-! ## Yields in another order of what is owned -/
theorem y_mono {P : Program} {G : Glo} {L : Nat} {avs : List AVal} {H : Heap} {Q Q' : Bool → Heap → Prop} (h : YSpec P G L avs H Q) (hq : ∀ b H', Q b H' → ∃ H2, H'.Perm H2 ∧ Q' b H2) : YSpec P G L avs H Q' := by
  intro R w args hG hm ha
  obtain ⟨fn, tm, ag, bd, hy, hr⟩ := h R w args hG hm ha
  exact ⟨fn, tm, ag, bd, hy, hr.mono fun e w' ⟨b, H', R', q, er, hm'⟩ => let ⟨H2, hp, q'⟩ := hq _ _ q; ⟨b, H2, R', q', er, hm'.perm hp⟩⟩
theorem y_perm {P : Program} [Tab P] {G : Glo} {L : Nat} {avs : List AVal} {H1 H2 : Heap} {Q : Bool → Heap → Prop} (hp : H1.Perm H2) (h : YSpec P G L avs H1 Q) : YSpec P G L avs H2 Q := by
  have hb : ∀ k, k ∈ blks H2 ↔ k ∈ blks H1 := fun k => by
    have := (hp.filterMap HEnt.blk).mem_iff (a := k)
    exact this.symm
  intro R w args hG hm ha
  obtain ⟨fn, tm, ag, bd, hy, hr⟩ := h R w args hG ((hm.perm hp.symm).blks_iff hb) ha
  exact ⟨fn, tm, ag, bd, hy, hr.mono fun e w' ⟨b, H', R', q, er, hm'⟩ => ⟨b, H', R', q, er, hm'.blks_iff fun k => (hb k).symm⟩⟩
/-- A call that leaves entries of its own. -/
theorem fn_new {P : Program} [Tab P] {G : Glo} {f : FuncId} {avs : List AVal} (H : Heap) {X : Type} {N : X → Heap} {v v' : X → AVal} (hs : FnSpec P G f avs [] (fun r H' => ∃ x, r = .ret (v x) ∧ H' = N x)) (hv : ∀ x R u, Rel R (v x) u → Rel R (v' x) u) :
    FnSpec P G f avs H (fun r H' => ∃ x, r = .ret (v' x) ∧ H' = H ++ N x) := by
  intro R w args hG hm ha
  rcases fn_frame H hs R w args hG hm ha with ⟨h1, h2⟩ | ⟨u, w', h1, res, H', R', ⟨H1, ⟨x, rfl, rfl⟩, rfl⟩, er, hm'⟩
  · refine .inl ⟨h1, h2.mono ?_⟩
    rintro e w' ⟨res, H', R', ⟨H1, ⟨x, rfl, rfl⟩, rfl⟩, ⟨y, e1, hr⟩, hm'⟩
    exact ⟨.ret (v' x), _, R', ⟨x, rfl, rfl⟩, ⟨y, e1, hv x R' y hr⟩, hm'.perm List.perm_append_comm⟩
  · obtain ⟨y, e1, hr⟩ := er
    exact .inr ⟨u, w', h1, .ret (v' x), _, R', ⟨x, rfl, rfl⟩, ⟨y, e1, hv x R' y hr⟩, hm'.perm List.perm_append_comm⟩
theorem cx_new {P : Program} [Tab P] {G : Glo} {f : FuncId} {avs : List AVal} {H : Heap} {K Kp : AVal → Heap → Prop} {X : Type} {N : X → Heap} {v : X → AVal} (v' : X → AVal) (hs : FnSpec P G f avs [] (fun r H' => ∃ x, r = .ret (v x) ∧ H' = N x)) (hv : ∀ x R u, Rel R (v x) u → Rel R (v' x) u) (k : ∀ x, K (v' x) (H ++ N x)) : Cx P G f avs H K Kp := by
  refine .mk _ (fn_new H hs hv) ?_ ?_
  · rintro u H' ⟨x, e, rfl⟩; cases e; exact k x
  · rintro u H' ⟨x, e, rfl⟩; cases e
abbrev sqS (b : Nat) (s : List UInt8) : HEnt := .cells b (some 9) [.str s]
abbrev sqI (b : Nat) (m : Int) : HEnt := .cells b (some 3) [.int .i64 m]
abbrev sqP (b : Nat) : Value := .pointer (some ⟨b, 0, none⟩)
set_option maxRecDepth 20000
set_option maxHeartbeats 4000000
set_option linter.unusedSimpArgs false
set_option linter.unusedVariables false
attribute [local irreducible] AWp AOps byteAt SrcOK OrOk GloAll FnSpec
attribute [local irreducible] AWpR YSpec
theorem strings_Index_b {G : Glo} (s : List UInt8) (c : UInt8) : FnIs Tryz.prog G 43 [.str s, .str [c]] (.int .i64 (idxB s (c.toNat : Int))) := by
  have k1 := sl_Index_one (G := G) s c
  have hGL : GloAll G [] := gloAll_nil
  refine fn_x Tryz.func43 Tryz.call43 rfl rfl rfl rfl hGL ?_
  intro C hC
  exact xw0
theorem strings_splitSeq {G : Glo} (s : List UInt8) (c : UInt8) : FnSpec Tryz.prog G 31 [.str s, .str [c], .int .i64 0] []
    (fun r H => ∃ x : Nat × Nat × Nat, r = .ret (.func (.func 41) [] [.own 1 (sqP x.2.1), .own 0 (sqP x.1), .own 2 (sqP x.2.2)]) ∧ H = [sqS x.1 s, sqS x.2.1 [c], sqI x.2.2 0]) := by
  have hGL : GloAll G [] := gloAll_nil
  refine fn_x Tryz.func31 Tryz.call31 rfl rfl rfl rfl hGL ?_
  intro C hC
  refine xb1 ?_
  intro b0 b1 b2
  intros
  exact ⟨_, List.Sublist.refl _, (b0, b1, b2), rfl, rfl⟩
theorem strings_SplitSeq {G : Glo} (s : List UInt8) (c : UInt8) : FnSpec Tryz.prog G 20 [.str s, .str [c]] []
    (fun r H => ∃ x : Nat × Nat × Nat, r = .ret (.func (.func 41) [] [.own 1 (sqP x.2.1), .own 0 (sqP x.1), .own 2 (sqP x.2.2)]) ∧ H = [sqS x.1 s, sqS x.2.1 [c], sqI x.2.2 0]) := by
  have h1 := strings_splitSeq (G := G) s c
  have hGL : GloAll G [] := gloAll_nil
  refine fn_x Tryz.func20 Tryz.call20 rfl rfl rfl rfl hGL ?_
  intro C hC
  refine xn1 ?_
  refine cx_new (fun x : Nat × Nat × Nat => .func (.func 41) [] [.own 1 (sqP x.2.1), .own 0 (sqP x.1), .own 2 (sqP x.2.2)]) h1 (fun _ _ _ h => h) ?_
  rintro ⟨b0, b1, b2⟩
  refine xn1 ?_
  exact ⟨_, List.Sublist.refl _, (b0, b1, b2), rfl, rfl⟩
theorem split_seq_run {G : Glo} (L b0 b1 b2 : Nat) (c : UInt8) (rows : List (List UInt8)) (hne : 0 < rows.length) (hno : ∀ k, c ∉ rows.getD k []) (hlen : ∀ k, (joinB c (rows.drop k)).length ≤ 1000000) {Y Z : Type} (J : Y → Heap) (E : Z → Heap) (Inv : Nat → Y → Prop) (y0 : Y) (h0 : Inv 0 y0)
    (hy : ∀ (k : Nat) (s' : List UInt8) (y : Y), k < rows.length → Inv k y → YSpec Tryz.prog G L [.str (rows.getD k [])] (sqS b0 s' :: sqS b1 [c] :: sqI b2 0 :: J y) (fun b H' => (b = true ∧ ∃ y', Inv (k + 1) y' ∧ H' = sqS b0 s' :: sqS b1 [c] :: sqI b2 0 :: J y') ∨ (b = false ∧ ∃ z, H' = sqS b0 s' :: sqS b1 [c] :: sqI b2 0 :: E z))) :
    FnSpec Tryz.prog G 41 [.func (.yield L) [] [], .own 1 (sqP b1), .own 0 (sqP b0), .own 2 (sqP b2)] (sqS b0 (joinB c rows) :: sqS b1 [c] :: sqI b2 0 :: J y0)
      (fun r H' => r = .ret (.tuple []) ∧ ∃ s', (∃ y, Inv rows.length y ∧ H' = sqS b0 s' :: sqS b1 [c] :: sqI b2 0 :: J y) ∨ ∃ z, H' = sqS b0 s' :: sqS b1 [c] :: sqI b2 0 :: E z) := by
  have k1 := fun s => strings_Index_b (G := G) s c
  have hGL : GloAll G [] := gloAll_nil
  refine fn_a Tryz.func41 Tryz.call41 rfl rfl rfl rfl ?_
  intro C hC
  refine cut hC hGL [(0, .func (.yield L) [] []), (1, .own 1 (sqP b1)), (2, .own 0 (sqP b0)), (3, .own 2 (sqP b2))] (sqS b0 (joinB c rows) :: sqS b1 [c] :: sqI b2 0 :: J y0) True xn0 fun _ => ?_
  refine aw_seq (aw_block (aw_loopS (X := Nat × Y) (fun x => [(0, .func (.yield L) [] []), (1, .own 1 (sqP b1)), (2, .own 0 (sqP b0)), (3, .own 2 (sqP b2))]) (fun x => sqS b0 (joinB c (rows.drop x.1)) :: sqS b1 [c] :: sqI b2 0 :: J x.2) (fun x => x.1 < rows.length ∧ Inv x.1 x.2) (fun x => rows.length - x.1) (0, y0) ⟨hne, h0⟩ env_w (List.Sublist.refl _) ?_))
  rintro ⟨k, y⟩ ⟨hk, hI⟩
  dsimp only at hk hI ⊢
  refine aw_block ?_
  by_cases hl : k + 1 < rows.length
  · have e1 := joinB_drop (c := c) hl
    have hi := idxB_app (r := rows.getD k []) (t := joinB c (rows.drop (k + 1))) (hno k)
    have hln := hlen k
    rw [← e1] at hi
    have k2 := k1 (joinB c (rows.drop k))
    rw [hi] at k2
    have hy1 := hy k (joinB c (rows.drop k)) y hk hI
    have e3 : (joinB c (rows.drop k)).take (rows.getD k []).length = rows.getD k [] := by rw [e1, List.take_left]
    have e4 : (joinB c (rows.drop k)).drop ((rows.getD k []).length + 1) = joinB c (rows.drop (k + 1)) := by
      rw [e1, ← List.drop_drop, List.drop_left]; rfl
    have e5 : (rows.getD k []).length + 1 ≤ (joinB c (rows.drop k)).length := by rw [e1]; simp
    generalize hsr : joinB c (rows.drop k) = s at *
    generalize hr : rows.getD k [] = r at *
    refine cut hC hGL [(0, .func (.yield L) [] []), (1, .own 1 (sqP b1)), (2, .own 0 (sqP b0)), (3, .own 2 (sqP b2)), (7, .int .i64 (r.length : Nat))] (sqS b0 s :: sqS b1 [c] :: sqI b2 0 :: J y) True xn0 fun _ => ?_
    refine cut hC hGL [(0, .func (.yield L) [] []), (1, .own 1 (sqP b1)), (2, .own 0 (sqP b0)), (3, .own 2 (sqP b2)), (7, .int .i64 (r.length : Nat))] (sqS b0 s :: sqS b1 [c] :: sqI b2 0 :: J y) True xn0 fun _ => ?_
    refine cut hC hGL [(0, .func (.yield L) [] []), (1, .own 1 (sqP b1)), (2, .own 0 (sqP b0)), (3, .own 2 (sqP b2)), (7, .int .i64 (r.length : Nat)), (8, .str (s.take r.length))] (sqS b0 s :: sqS b1 [c] :: sqI b2 0 :: J y) True xn0 fun _ => ?_
    rw [e3]
    refine aw_seq (aw_seq (aw_yield 2 hC hGL rfl rfl (by kernel_rfl) ?_))
    refine xn1 ?_
    refine ⟨L, _, rfl, rfl, y_mono hy1 ?_⟩
    rintro b H' (⟨rfl, y', hy', rfl⟩ | ⟨rfl, z, rfl⟩)
    · refine ⟨_, List.Perm.refl _, ?_⟩
      refine xn1 ?_
      refine aw_code hC hGL (xn1 ?_)
      refine aw_code hC hGL (xn1 ?_)
      rw [forceH_eq]
      refine ⟨(k + 1, y'), ⟨hl, hy'⟩, by show rows.length - (k + 1) < rows.length - k; omega, env_w, ?_⟩
      show List.Sublist (sqS b0 (joinB c (rows.drop (k + 1))) :: sqS b1 [c] :: sqI b2 0 :: J y') _
      rw [← e4]
      exact List.Sublist.refl _
    · refine ⟨_, List.Perm.refl _, ?_⟩
      refine xn1 ?_
      refine aw_code hC hGL (xn1 ?_)
      exact ⟨_, List.Sublist.refl _, rfl, s, .inr ⟨z, rfl⟩⟩
  · have e1 := joinB_last (c := c) (l := rows) (k := k) (by omega)
    have hi := idxB_no (hno k)
    rw [← e1] at hi
    have k2 := k1 (joinB c (rows.drop k))
    rw [hi] at k2
    have hy1 := hy k (joinB c (rows.drop k)) y hk hI
    rw [← e1] at hy1
    have hkl : k + 1 = rows.length := by omega
    generalize joinB c (rows.drop k) = s at *
    refine cut hC hGL [(0, .func (.yield L) [] []), (1, .own 1 (sqP b1)), (2, .own 0 (sqP b0)), (3, .own 2 (sqP b2)), (7, .int .i64 (-1))] (sqS b0 s :: sqS b1 [c] :: sqI b2 0 :: J y) True xn0 fun _ => ?_
    refine aw_code hC hGL (xn1 ?_)
    intro _
    refine ⟨fun h => absurd h (by decide), fun _ => ⟨fun _ => ?_, fun h => absurd rfl h⟩⟩
    refine aw_yield 2 hC hGL rfl rfl (by kernel_rfl) ?_
    refine xn1 ?_
    refine ⟨L, _, rfl, rfl, y_mono hy1 ?_⟩
    rintro b H' (⟨rfl, y', hy', rfl⟩ | ⟨rfl, z, rfl⟩)
    · refine ⟨_, List.Perm.refl _, ?_⟩
      refine xn1 ?_
      rw [hkl] at hy'
      exact ⟨_, List.Sublist.refl _, rfl, s, .inl ⟨y', hy', rfl⟩⟩
    · refine ⟨_, List.Perm.refl _, ?_⟩
      refine xn1 ?_
      exact ⟨_, List.Sublist.refl _, rfl, s, .inr ⟨z, rfl⟩⟩
end Go.Proofs.YtjccffnjhdhgfaaGreatDoor
namespace Go.Proofs.YtjccffnjhdhgfaaGreatDoor
open Go Go.RowKit
theorem filterMap_set {α β : Type} {f : α → Option β} {x y : α} (hf : f y = f x) : ∀ {h : List α} {i : Nat}, h[i]? = some x → (h.set i y).filterMap f = h.filterMap f
  | [], i, e => by simp at e
  | z :: h, 0, e => by
    simp only [List.getElem?_cons_zero, Option.some.injEq] at e
    subst e
    simp [List.filterMap_cons, hf]
  | z :: h, i + 1, e => by
    simp only [List.getElem?_cons_succ] at e
    simp only [List.set_cons_succ, List.filterMap_cons, filterMap_set hf e]
theorem MS.setEnt {C : Ctx} {R : Seal} {H : Heap} {w : World} {i : Nat} {x y : HEnt} (h : MS C R H w) (hi : H[i]? = some x) (hb : y.blk = x.blk) (hy : y.holds R w) : MS C R (H.set i y) w := by
  have hx : x ∈ H := List.mem_of_getElem? hi
  have hm : ∀ z, z ∈ H.set i y → z ∈ H ∨ z = y := fun z hz => List.mem_or_eq_of_mem_set hz
  refine ⟨h.sealed, h.ge, h.fresh, ⟨fun z hz => ?_, ?_, fun z hz b hzb => ?_⟩, fun z hz b hzb => ?_, h.ext⟩
  · rcases hm z hz with h1 | rfl
    · exact h.heap.holds z h1
    · exact hy
  · rw [filterMap_set hb hi]; exact h.heap.nodup
  · rcases hm z hz with h1 | rfl
    · exact h.heap.apart z h1 b hzb
    · exact h.heap.apart x hx b (by rw [← hb]; exact hzb)
  · rcases hm z hz with h1 | rfl
    · exact h.own z h1 b hzb
    · exact h.own x hx b (by rw [← hb]; exact hzb)
theorem relL_set {R : Seal} {a a' : AVal} (ht : ∀ v, RelC R a [v] → RelC R a' [v]) : ∀ {cs : List AVal} {vs : List Value} {p : Nat}, RelL R cs vs → cs[p]? = some a → RelL R (cs.set p a') vs
  | [], _, _, _, e => by simp at e
  | c :: cs, _, 0, ⟨v, t, rfl, h1, h2⟩, e => by
    simp only [List.getElem?_cons_zero, Option.some.injEq] at e
    subst e
    exact ⟨v, t, rfl, ht v h1, h2⟩
  | c :: cs, _, p + 1, ⟨v, t, rfl, h1, h2⟩, e => by
    simp only [List.getElem?_cons_succ] at e
    exact ⟨v, t, rfl, h1, relL_set ht h2 e⟩
/-- An entry whose cell is told otherwise. -/
inductive CellTo (R : Seal) (p : Nat) (a' : AVal) : HEnt → HEnt → Prop
  | cells {b eT cs a} (hp : cs[p]? = some a) (ht : ∀ v, RelC R a [v] → RelC R a' [v]) : CellTo R p a' (.cells b eT cs) (.cells b eT (cs.set p a'))
  | row {v eT sz n cs a} (hp : cs[p]? = some a) (ht : ∀ v, RelC R a [v] → RelC R a' [v]) : CellTo R p a' (.row v eT sz n cs) (.row v eT sz n (cs.set p a'))
theorem CellTo.holds {R : Seal} {p : Nat} {a' : AVal} {x y : HEnt} {w : World} (h : CellTo R p a' x y) (hx : x.holds R w) : y.holds R w ∧ y.blk = x.blk := by
  cases h with
  | cells hp ht =>
    obtain ⟨C, e, fz, hb, hl, hf⟩ := hx
    exact ⟨⟨C, e, fz, hb, relL_set ht hl hp, hf⟩, rfl⟩
  | row hp ht =>
    rename_i v eT sz n cs a
    obtain ⟨hlen, y⟩ := hx
    refine ⟨⟨by rw [List.length_set]; exact hlen, ?_⟩, by cases v with | slice a l c => cases a <;> rfl | _ => rfl⟩
    rcases y with ⟨h1, h2⟩ | ⟨b, cap, C, e, fz, rfl, hb, hs, hn, hl, hf⟩
    · exact .inl ⟨h1, h2⟩
    · exact .inr ⟨b, cap, C, e, fz, rfl, hb, hs, hn, relL_set ht hl hp, hf⟩
def To (C : Ctx) (n : Nat) (e : Env) (h : Heap) (e' : Env) (h' : Heap) : Prop :=
  ∀ R a w, MS C R h w → FS C.D n R e a → ∃ R', R.le R' ∧ MS C R' h' w ∧ FS C.D n R' e' a
section
variable {C : Ctx} {n : Nat} {e e' e'' : Env} {h h' h'' : Heap}
theorem to_trans (a : To C n e h e' h') (b : To C n e' h' e'' h'') : To C n e h e'' h'' := fun R x w hm hf =>
  let ⟨R1, l1, m1, f1⟩ := a R x w hm hf
  let ⟨R2, l2, m2, f2⟩ := b R1 x w m1 f1
  ⟨R2, Seal.le_trans l1 l2, m2, f2⟩
theorem to_own {k i : Nat} {v : Value} (hv : vAgg v = false) (hk : Env.get e k = some (.raw v)) : To C n e h ((k, .own i v) :: e) h := fun R _ _ hm hf => ⟨R, Seal.le_refl R, hm, fs_own hv hk hf⟩
theorem to_ghost (sz : Nat) : To C n e h e (h ++ [.row (.slice none 0 0) none sz 0 []]) := fun R a w hm hf => by
  refine ⟨R, Seal.le_refl R, MS.perm (H := .row (.slice none 0 0) none sz 0 [] :: h) ?_ (List.perm_append_singleton _ h).symm, hf⟩
  refine ⟨hm.sealed, hm.ge, hm.fresh, ⟨fun z hz => ?_, hm.heap.nodup, fun z hz b hb => ?_⟩, fun z hz b hb => ?_, hm.ext⟩
  · rcases List.mem_cons.1 hz with rfl | hz
    · exact ⟨by simp, .inl ⟨rfl, rfl⟩⟩
    · exact hm.heap.holds z hz
  · rcases List.mem_cons.1 hz with rfl | hz
    · cases hb
    · exact hm.heap.apart z hz b hb
  · rcases List.mem_cons.1 hz with rfl | hz
    · cases hb
    · exact hm.own z hz b hb
theorem to_cell {i p : Nat} {a' : AVal} {x y : HEnt} (hi : h[i]? = some x) (hc : ∀ R, CellTo R p a' x y) : To C n e h e (h.set i y) := fun R a w hm hf => by
  obtain ⟨h1, h2⟩ := (hc R).holds (hm.heap.holds x (List.mem_of_getElem? hi))
  exact ⟨R, Seal.le_refl R, hm.setEnt hi h2 h1, hf⟩
theorem nil_own {R : Seal} {j : Nat} {u : Value} : RelC R (.raw (.slice none 0 0)) [u] → RelC R (.own j (.slice none 0 0)) [u] := by
  intro e
  have e : [u] = [.slice none 0 0] := e
  exact ⟨e, rfl⟩
end
section
variable {P : Program} [Tab P] {C : Ctx} {n : Nat} {env : Env} {H : Heap} {Q : AExit → Env → Heap → Prop} {G : Glo} {GL : List (Nat × List AVal)}
omit [Tab P] in
omit [Tab P] in
/-- What is handed back may be told otherwise. -/
def ResTo (res : ARes) (H : Heap) (v : AVal) : Prop := ∀ (C : Ctx) (R : Seal) (w : World) (e : Ending), MS C R H w → EndRel R res e → ∃ R', MS C R' [] w ∧ EndRel R' (.ret v) e
omit [Tab P] in
theorem fn_told {f : FuncId} {avs : List AVal} {H : Heap} {Qf : ARes → Heap → Prop} {v : AVal} (h : FnSpec P G f avs H Qf) (hq : ∀ r H', Qf r H' → ResTo r H' v) : FnSpec P G f avs H (fun r H' => r = .ret v ∧ H' = []) := by
  intro R w args hG hm ha
  rcases h R w args hG hm ha with ⟨h1, h2⟩ | ⟨x, w', h1, res, H', R', q, er, hm'⟩
  · exact .inl ⟨h1, h2.mono fun e w' ⟨res, H', R', q, er, hm'⟩ => let ⟨R2, m2, e2⟩ := hq _ _ q _ _ _ _ hm' er; ⟨.ret v, [], R2, ⟨rfl, rfl⟩, e2, m2⟩⟩
  · obtain ⟨R2, m2, e2⟩ := hq _ _ q _ _ _ _ hm' er
    exact .inr ⟨x, w', h1, .ret v, [], R2, ⟨rfl, rfl⟩, e2, m2⟩
end
end Go.Proofs.YtjccffnjhdhgfaaGreatDoor
namespace Go.Proofs.YtjccffnjhdhgfaaGreatDoor
open Go Go.RowKit
theorem tuple_one {R R' : Seal} {a a' b : AVal} {x : Value} (hle : R.le R') (h : Rel R (.tuple [a, b]) x) (ht : ∀ v, Rel R a v → Rel R' a' v) : Rel R' (.tuple [a', b]) x := by
  obtain ⟨⟨ws, e, u, t, e1, hu, u2, t2, e2, hu2, rfl⟩, h2⟩ := h
  have k := ht u ⟨hu.1, hu.2⟩
  have k2 := rel_mono hle (show Rel R b u2 from ⟨hu2.1, hu2.2⟩)
  exact ⟨⟨ws, e, _, _, e1, ⟨k.1, k.2⟩, _, _, e2, ⟨k2.1, k2.2⟩, rfl⟩, h2⟩
section
variable {P : Program} [Tab P] {C : Ctx} {n : Nat} {env : Env} {H : Heap} {Q : List Deferred → AExit → Env → Heap → Prop} {G : Glo} {GL : List (Nat × List AVal)}
theorem awd_cuty {a b : Code} {X : Type} (hC : C.G = G) (hGL : GloAll G GL) (I : X → Env) (J : X → Heap) (Inv : X → Prop) (h1 : codeX P C n G GL a env H (thenQ (fun e h => Cy I J Inv e h) (Q C.D))) (h2 : ∀ x, Inv x → AWpD P C n b (I x) (J x) Q) : AWpD P C n (.seq a b) env H Q := by
  refine awd_seq (awd_of ((codeX_ok hC hGL _ _ _ _ h1).mono fun x e h q => ?_))
  cases x with
  | normal =>
    obtain ⟨y, hy, hs, rfl⟩ := q.h
    exact fun R a w hm hf => h2 y hy R a w hm (hf.sub hs)
  | exit i => exact q
  | goto i => exact q
  | ret => exact q
  | panic v => exact q
end
end Go.Proofs.YtjccffnjhdhgfaaGreatDoor
namespace Go.Proofs.YtjccffnjhdhgfaaGreatDoor
open Go Go.RowKit
theorem MS.below {C : Ctx} {R : Seal} {H : Heap} {w w' : World} (h : MS C R H w) (hb : Below w.heap.size w w') : MS C R H w' := by
  have hlt : ∀ {b : Nat} {o : Obj}, w.heap[b]? = some o → b < w.heap.size := fun {b o} h1 => by
    rcases Nat.lt_or_ge b w.heap.size with h | h
    · exact h
    · rw [Array.getElem?_eq_none h] at h1; cases h1
  refine ⟨fun b o ho => ?_, h.ge, h.fresh, ⟨fun x hx => ?_, h.heap.nodup, h.heap.apart⟩, h.own, ?_⟩
  · have h1 := h.sealed b o ho
    rw [hb.block b (hlt h1), h1]
  · exact HEnt.holds_mono (h.heap.holds x hx) (Seal.le_refl R) (fun b hbk => hb.block b (HEnt.blk_lt (h.heap.holds x hx) hbk))
  · exact ⟨hb.os.trans h.ext.os, hb.tape.trans h.ext.tape, hb.output.trans h.ext.output, Nat.le_trans h.ext.size hb.size, fun b hlt hn => by
      rw [hb.block b (Nat.lt_of_lt_of_le hlt h.ext.size)]; exact h.ext.block b hlt hn⟩
/-- Texts in a row. -/
def strsC (l : List (List UInt8)) : List AVal := l.map .str
def strsF (l : List (List UInt8)) (i : Nat) : AVal := .str (l.getD i [])
theorem strsF_ok (l : List (List UInt8)) : ∀ i, i < l.length → (strsF l i).cells = ((strsC l).drop (i * 1)).take 1 ∧ (strsF l i).plain = true := by
  intro i hi
  refine ⟨?_, rfl⟩
  have : i < (strsC l).length := by simpa [strsC] using hi
  rw [Nat.mul_one, List.drop_eq_getElem_cons this]
  simp [strsF, AVal.cells, strsC, List.getD, hi]
theorem strsC_snoc (l : List (List UInt8)) (s : List UInt8) : strsC l ++ [.str s] = strsC (l ++ [s]) := by simp [strsC]
theorem strsC_len (l : List (List UInt8)) : (strsC l).length = l.length := by simp [strsC]
end Go.Proofs.YtjccffnjhdhgfaaGreatDoor
namespace Go.Proofs.YtjccffnjhdhgfaaGreatDoor
open Go Go.RowKit
theorem awd_to {P : Program} {C : Ctx} {n : Nat} {c : Code} {env env' : Env} {H H' : Heap} {Q : List Deferred → AExit → Env → Heap → Prop} (hto : To C n env H env' H') (h : AWpD P C n c env' H' Q) : AWpD P C n c env H Q := fun R a w hm hf => by
  obtain ⟨R', hle, hm', hf'⟩ := hto R a w hm hf
  exact h R' a w hm' hf'
/-- What stands for the arguments may be told otherwise. -/
theorem fn_args {P : Program} {G : Glo} {f : FuncId} {avs avs' : List AVal} {H : Heap} {Qf : ARes → Heap → Prop} (h : FnSpec P G f avs H Qf) (ha : ∀ R vs, RelV R avs' vs → RelV R avs vs) : FnSpec P G f avs' H Qf :=
  fun R w args hG hm h2 => h R w args hG hm (ha R _ h2)
/-- All rows of the table are as they should be. -/
def rowOK (x : List UInt8 × Rl) : Bool := !(txtR x).contains 124 && decide ((cutB (txtR x) 32).1 = x.1) && (txtR x).all (fun c => decide (c.toNat < 128)) && decide ((txtR x).length ≤ 60) &&
  decide (Lib.fields (txtR x) = [x.1, [digC x.2.t], [digC x.2.a], [digC x.2.b], [digC x.2.p]]) && decide (0 ≤ x.2.t ∧ x.2.t < 10 ∧ 0 ≤ x.2.a ∧ x.2.a < 10 ∧ 0 ≤ x.2.b ∧ x.2.b < 10 ∧ 0 ≤ x.2.p ∧ x.2.p < 10)
theorem rows_ok {v : Int} (hv : v = 3 ∨ v = 4) : (rowV v).all rowOK = true ∧ (rowV v).length ≤ 36 ∧ 0 < (rowV v).length := by
  rcases hv with rfl | rfl
  · exact ⟨by decide +kernel, by decide +kernel, by decide +kernel⟩
  · exact ⟨by decide +kernel, by decide +kernel, by decide +kernel⟩
theorem row_at {v : Int} (hv : v = 3 ∨ v = 4) {k : Nat} (hk : k < (rowV v).length) : rowOK (rowV v)[k] = true := List.all_eq_true.1 (rows_ok hv).1 _ (List.getElem_mem hk)
theorem tab_get {v : Int} {k : Nat} (hk : k < (rowV v).length) : (tabR v).getD k [] = txtR (rowV v)[k] := by
  unfold tabR
  rw [List.getD_eq_getElem?_getD, List.getElem?_map, List.getElem?_eq_getElem hk]
  rfl
theorem joinB_len (c : UInt8) {m : Nat} : ∀ l : List (List UInt8), (∀ x ∈ l, x.length ≤ m) → (joinB c l).length ≤ l.length * (m + 1)
  | [], _ => Nat.zero_le _
  | [x], h => by
    have := h x (List.mem_singleton.2 rfl)
    simp only [joinB, List.length_cons, List.length_nil]
    omega
  | x :: y :: t, h => by
    have h1 := h x (List.mem_cons_self ..)
    have ih := joinB_len c (m := m) (y :: t) fun z hz => h z (List.mem_cons_of_mem _ hz)
    simp only [joinB, List.length_append, List.length_cons] at ih ⊢
    rw [Nat.succ_mul]
    generalize (t.length + 1) * (m + 1) = z at *
    omega
theorem tab_len {v : Int} (hv : v = 3 ∨ v = 4) (k : Nat) : (joinB 124 ((tabR v).drop k)).length ≤ 1000000 := by
  have h1 := joinB_len 124 (m := 60) ((tabR v).drop k) fun x hx => by
    obtain ⟨y, hy, rfl⟩ := List.mem_map.1 (List.mem_of_mem_drop hx)
    have := List.all_eq_true.1 (rows_ok hv).1 _ hy
    simp only [rowOK, Bool.and_eq_true, decide_eq_true_eq] at this
    exact this.1.1.2
  have h2 : ((tabR v).drop k).length ≤ 36 := by
    have := (rows_ok hv).2.1
    unfold tabR
    rw [List.length_drop, List.length_map]
    omega
  have := Nat.mul_le_mul_right (60 + 1) h2
  omega
theorem tab_no {v : Int} (hv : v = 3 ∨ v = 4) (k : Nat) : (124 : UInt8) ∉ (tabR v).getD k [] := by
  by_cases hk : k < (rowV v).length
  · rw [tab_get hk]
    have := row_at hv hk
    simp only [rowOK, Bool.and_eq_true, Bool.not_eq_true', List.contains_eq_mem, decide_eq_false_iff_not] at this
    exact this.1.1.1.1.1
  · rw [List.getD_eq_getElem?_getD, List.getElem?_eq_none (by unfold tabR; rw [List.length_map]; omega)]
    simp
def nmV (v : Int) : List (List UInt8) := (rowV v).map (·.1)
theorem nm_take {v : Int} {k : Nat} (hk : k < (rowV v).length) : (nmV v).take (k + 1) = (nmV v).take k ++ [(rowV v)[k].1] := by
  unfold nmV
  rw [List.take_add_one, List.getElem?_map, List.getElem?_eq_getElem hk]
  rfl
abbrev nmB (b : Nat) (i : Nat) (v : Value) : HEnt := .cells b (some 31) [.own i v]
set_option maxRecDepth 20000
set_option maxHeartbeats 4000000
set_option linter.unusedSimpArgs false
set_option linter.unusedVariables false
attribute [local irreducible] AWp AOps byteAt SrcOK OrOk GloAll FnSpec
attribute [local irreducible] AWpR YSpec AWpD LvM To tabR rowV nmV cutB
theorem rules_table {G : Glo} {v : Int} (hv : v = 3 ∨ v = 4) : FnIs Tryz.prog G 21 [.int .i64 v] (.str (tabS v)) := by
  rcases hv with rfl | rfl
  · have hGL : GloAll G [] := gloAll_nil
    refine fn_x Tryz.func21 Tryz.call21 rfl rfl rfl rfl hGL ?_
    intro C hC
    refine xw ?_
    repeat' (first | exact Le.n | refine Lc.mk ?_ ?_)
    all_goals intros
    all_goals first
      | exact absurd rfl (by assumption)
      | (apply rt_is; refine congrArg AVal.str ?_; decide +kernel)
  · have hGL : GloAll G [] := gloAll_nil
    refine fn_x Tryz.func21 Tryz.call21 rfl rfl rfl rfl hGL ?_
    intro C hC
    refine xw ?_
    repeat' (first | exact Le.n | refine Lc.mk ?_ ?_)
    all_goals intros
    all_goals first
      | (apply rt_is; refine congrArg AVal.str ?_; decide +kernel)
theorem rules_Names0 {G : Glo} {v : Int} (hv : v = 3 ∨ v = 4) : FnSpec Tryz.prog G 8 [.int .i64 v] [] (fun r H => ∃ va, r = .ret (.tuple [.own 4 va, .raw .nilIface]) ∧ H = [.row va none 1 (nmV v).length (strsC (nmV v))]) := by
  have hGL : GloAll G [] := gloAll_nil
  have hT := rules_table (G := G) hv
  have hS := strings_SplitSeq (G := G) (tabS v) 124
  have hlen : (nmV v).length = (tabR v).length := by unfold nmV tabR; rw [List.length_map, List.length_map]
  have hlr : (tabR v).length = (rowV v).length := by unfold tabR; rw [List.length_map]
  have h36 := (rows_ok hv).2
  refine fn_m (rs := [.tmp 2, .tmp 3]) Tryz.func8 Tryz.call8 rfl rfl rfl rfl ?_
  intro C hC hD
  refine awd_cuty hC hGL (fun _ : Unit => [(0, .int .i64 v)]) (fun _ => []) (fun _ => True) ?_ fun _ _ => ?_
  · refine xn1 ?_
    exact cy () trivial
  refine awd_cuty hC hGL (fun _ : Unit => [(0, .int .i64 v)]) (fun _ => []) (fun _ => True) ?_ fun _ _ => ?_
  · refine xn ?_
    repeat' (first | exact Le.n | refine Lc.mk ?_ ?_)
    all_goals intros
    all_goals first
      | exact cy () trivial
      | (exfalso; omega)
  refine awd_cuty hC hGL (fun bo : Nat => [(0, .int .i64 v), (4, .own 0 (sqP bo))]) (fun bo => [.cells bo (some 31) [.raw (.slice none 0 0)]]) (fun _ => True) ?_ fun bo _ => ?_
  · refine xn1 ?_
    intro bo
    intros
    exact cy bo trivial
  refine awd_seq (awd_cuty hC hGL (fun x : Nat × Nat × Nat => [(0, .int .i64 v), (4, .own 0 (sqP bo)), (18, .func (.func 41) [] [.own 2 (sqP x.2.1), .own 1 (sqP x.1), .own 3 (sqP x.2.2)])]) (fun x => [.cells bo (some 31) [.raw (.slice none 0 0)], sqS x.1 (tabS v), sqS x.2.1 [124], sqI x.2.2 0]) (fun _ => True) ?_ ?_)
  · refine xn1 ?_
    refine cx_new (fun x : Nat × Nat × Nat => .func (.func 41) [] [.own 2 (sqP x.2.1), .own 1 (sqP x.1), .own 3 (sqP x.2.2)]) hS (fun _ _ _ h => h) ?_
    rintro ⟨b0, b1, b2⟩
    refine xn1 ?_
    exact cy (b0, b1, b2) trivial
  rintro ⟨b0, b1, b2⟩ -
  dsimp only
  refine awd_block (awd_to (to_trans (to_ghost 1) (to_cell (i := 0) (p := 0) (a' := .own 4 (.slice none 0 0)) rfl (fun R => .cells rfl fun _ => nil_own))) ?_)
  refine awd_range rfl Tryz.call41 [(0, .int .i64 v), (4, .own 0 (sqP bo))] env_w rfl ?_
  intro L D r hp ha hb hfs
  rw [hC]
  have hy : ∀ (k : Nat) (s' : List UInt8) (y : List (List UInt8) × Value), k < (tabR v).length → y.1 = (nmV v).take k → YSpec Tryz.prog G L [.str ((tabR v).getD k [])] (sqS b0 s' :: sqS b1 [124] :: sqI b2 0 :: [nmB bo 4 y.2, .row y.2 none 1 y.1.length (strsC y.1), objD D, objL L r .ready none])
      (fun b H' => (b = true ∧ ∃ y' : List (List UInt8) × Value, y'.1 = (nmV v).take (k + 1) ∧ H' = sqS b0 s' :: sqS b1 [124] :: sqI b2 0 :: [nmB bo 4 y'.2, .row y'.2 none 1 y'.1.length (strsC y'.1), objD D, objL L r .ready none]) ∨ (b = false ∧ ∃ z : Empty, H' = sqS b0 s' :: sqS b1 [124] :: sqI b2 0 :: [])) := by
    rintro k s' ⟨ns, w⟩ hk hI
    dsimp only at hI ⊢
    have hk' : k < (rowV v).length := by omega
    have hro := row_at hv hk'
    simp only [rowOK, Bool.and_eq_true, decide_eq_true_eq] at hro
    have hcut := strings_Cut_one (G := G) ((tabR v).getD k []) 32 (by rw [tab_get hk']; omega)
    have e1 : (cutB ((tabR v).getD k []) 32).1 = (rowV v)[k].1 := by rw [tab_get hk']; exact hro.1.1.1.1.2
    have hcut : FnIs Tryz.prog G 25 [.str ((tabR v).getD k []), .str [32]] (.tuple [.str (rowV v)[k].1, .str (cutB ((tabR v).getD k []) 32).2.1, .bool (cutB ((tabR v).getD k []) 32).2.2]) := by rw [← e1]; exact hcut
    have hns : ns.length ≤ 36 := by rw [hI, List.length_take]; omega
    have e2 := nm_take hk'
    refine y_mono (y_perm (H1 := [nmB bo 4 w, sqS b0 s', sqS b1 [124], sqI b2 0, .row w none 1 ns.length (strsC ns), objD D, objL L r .ready none]) (List.perm_middle (l₁ := [sqS b0 s', sqS b1 [124], sqI b2 0]) (a := nmB bo 4 w)).symm
      (y_spec (i := 6) (p := 19) (Qf := fun b H' => b = true ∧ ∃ w', H' = [nmB bo 4 w', sqS b0 s', sqS b1 [124], sqI b2 0, .row w' none 1 (ns ++ [(rowV v)[k].1]).length (strsC (ns ++ [(rowV v)[k].1])), objD D, objL L r .ready none]) rfl hp (by kernel_rfl) hfs ?_)) ?_
    · intro C2 hC2 hD2
      rw [ha]
      refine awr_code hC2 hGL (xn1 ?_)
      refine ⟨rfl, 6, rfl, ?_⟩
      rw [hb]
      generalize (rowV v)[k].1 = nm at *
      refine awr_code hC2 hGL (xn1 ?_)
      intro wa wk wc _
      refine ⟨6, rfl, rfl, .slice wa wk wc, ?_⟩
      rw [← strsC_snoc, List.length_append]
      rfl
    · rintro b H' ⟨rfl, w', rfl⟩
      refine ⟨_, (List.perm_middle (l₁ := [sqS b0 s', sqS b1 [124], sqI b2 0]) (a := nmB bo 4 w')).symm, .inl ⟨rfl, (ns ++ [(rowV v)[k].1], w'), ?_, rfl⟩⟩
      rw [e2, hI]
  have run := split_seq_run (G := G) L b0 b1 b2 124 (tabR v) (by omega) (tab_no hv) (tab_len hv) (Y := List (List UInt8) × Value) (Z := Empty) (fun y => [nmB bo 4 y.2, .row y.2 none 1 y.1.length (strsC y.1), objD D, objL L r .ready none]) (fun _ => []) (fun k y => y.1 = (nmV v).take k) ([], .slice none 0 0) rfl hy
  refine fn_heap (fn_perm (List.perm_middle (l₁ := [sqS b0 (tabS v), sqS b1 [124], sqI b2 0]) (a := nmB bo 4 (.slice none 0 0))) (fn_args run fun _ _ h => h)) ?_
  rintro res H' ⟨rfl, s', ⟨⟨ns, w⟩, hI, rfl⟩ | ⟨z, _⟩⟩
  · refine ⟨_, List.perm_middle (l₁ := [sqS b0 s', sqS b1 [124], sqI b2 0]) (a := nmB bo 4 w), .tuple [], 6, .ready, none, rfl, rfl, (fun h => by cases h), ?_⟩
    dsimp only at hI ⊢
    rw [← hlen, List.take_length] at hI
    subst hI
    show AWpD Tryz.prog _ _ _ _ _ _
    refine awd_code (C := withD C (colD D :: C.D)) hC hGL (xn1 ?_)
    rw [show (withD C (colD D :: C.D)).D = [colD D] from (by show colD D :: C.D = _; rw [hD])]
    refine lvm_col (i := 5) rfl (lvm_ret ?_)
    refine xn1 ?_
    exact ⟨_, .cons _ (.cons _ (.cons _ (.cons _ (.cons_cons _ (List.nil_sublist _))))), w, rfl, rfl⟩
  · exact z.elim
theorem rules_Names {G : Glo} (v : Int) : FnIs Tryz.prog G 8 [.int .i64 v] (.tuple [.list 1 (namesV v).length (strsF (namesV v)), (verE v).A]) := by
  by_cases hv : v = 3 ∨ v = 4
  · have e1 : namesV v = nmV v := by unfold namesV nmV; rw [if_pos hv]
    have e2 : verE v = .none := by unfold verE; rw [if_pos hv]
    rw [e1, e2]
    exact fn_seal (fun a => .tuple [a, Err.none.A]) (mk_fst _) (strsF (nmV v)) (strsF_ok _) (cs := strsC (nmV v)) (eT := none) ((rules_Names0 hv).mono fun r H ⟨va, h1, h2⟩ => ⟨_, va, h1, h2⟩)
  · have e1 : namesV v = [] := by unfold namesV; rw [if_neg hv]
    have e2 : verE v = .errno 1 := by unfold verE; rw [if_neg hv]
    rw [e1, e2]
    refine fn_told (H := []) (Qf := fun r H => r = .ret (.tuple [.raw (.slice none 0 0), (Err.errno 1).A]) ∧ H = []) ?_ (fun r H h => by
      obtain ⟨rfl, rfl⟩ := h
      rintro C R w e hm ⟨x, rfl, hx⟩
      exact ⟨R, hm, x, rfl, tuple_one (Seal.le_refl R) hx fun u hu => by
        obtain rfl := rel_raw.1 (show Rel R (.raw (.slice none 0 0)) u from hu)
        exact ⟨⟨none, 0, rfl, Nat.le_refl _, .inl rfl⟩, rfl⟩⟩)
    have hGL : GloAll G [] := gloAll_nil
    refine fn_x Tryz.func8 Tryz.call8 rfl rfl rfl rfl hGL ?_
    intro C hC
    refine xw ?_
    repeat' (first | exact Le.n | refine Lc.mk ?_ ?_)
    all_goals intros
    all_goals first
      | (exfalso; omega)
      | (apply rt_is; rfl)
end Go.Proofs.YtjccffnjhdhgfaaGreatDoor
namespace Go.Proofs.YtjccffnjhdhgfaaGreatDoor
open Go Go.RowKit
/-- A fresh row that a call hands back. -/
theorem fnspec_new_row {P : Program} {G : Glo} {f : FuncId} {avs : List AVal} {H : Heap} {sz m : Nat} {cs : List AVal} {T : TypeId} (hc : ∀ args w, (callFunc f args).run P w = .ok (.enter f args) w)
    (hlen : cs.length = m * sz)
    (h : ∀ C R args, RelV R avs args.toList → ∀ w, G.p R → MS C R H w → Calls P f args w fun e w' => ∃ (w1 : World) (Cs : Array Value), Below w.heap.size w w1 ∧ e = .returned (.slice (some ⟨w1.heap.size, 0, none⟩) m m) ∧ w' = w1.alloc (.cells Cs T) ∧ Cs.size = m * sz ∧ ∀ R, RelL R cs Cs.toList) :
    FnSpec P G f avs H (fun r H' => ∃ b, r = .ret (.own H.length (.slice (some ⟨b, 0, none⟩) m m)) ∧ H' = H ++ [.row (.slice (some ⟨b, 0, none⟩) m m) (some T) sz m cs]) := by
  intro R w args hG hm ha
  refine .inl ⟨hc args w, (h _ R args ha w hG hm).mono ?_⟩
  rintro e w' ⟨w1, Cs, hb, rfl, rfl, hsz, hr⟩
  have hm1 := hm.below hb
  have hm2 := hm1.alloc (.cells Cs T) (.row (.slice (some ⟨w1.heap.size, 0, none⟩) m m) (some T) sz m cs) rfl ?_
  · exact ⟨_, _, R, ⟨w1.heap.size, rfl, rfl⟩, ⟨_, rfl, rel_own.2 ⟨rfl, rfl⟩⟩, hm2.perm (List.perm_append_singleton _ _).symm⟩
  · refine ⟨hlen, .inr ⟨w1.heap.size, m, Cs, T, (0, 0), rfl, grow_at _ _, hsz, Nat.le_refl _, ?_, .inl (Nat.le_refl _), fun t ht => Option.some.inj ht⟩⟩
    have := hr R
    have hl := relL_length this
    rwa [List.take_of_length_le (by omega)]
theorem relL_strs (R : Seal) : ∀ l : List (List UInt8), RelL R (strsC l) (l.map fun s => Value.string ⟨s.toArray⟩)
  | [] => rfl
  | _ :: l => ⟨_, _, rfl, rfl, relL_strs R l⟩
end Go.Proofs.YtjccffnjhdhgfaaGreatDoor
namespace Go.Proofs.YtjccffnjhdhgfaaGreatDoor
open Go Go.RowKit
/-- What the table of spaces holds. -/
def SpIs (G : Glo) : Prop := ∀ R, G.p R → ∃ e fz, R 0 = some (.cells (Lib.asciiSpaceTab.map fun z => Value.int .u8 z).toArray e fz)
theorem sp_tab {G : Glo} (hS : SpIs G) {R : Seal} {w : World} (hG : G.p R) (hs : Sealed R w) : Lib.TabIs Tryz.prog w "strings.asciiSpace" .u8 Lib.asciiSpaceTab := by
  obtain ⟨e, fz, h⟩ := hS R hG
  have hb := hs _ _ h
  unfold Lib.TabIs World.var?
  rw [show Tryz.prog.globalNamed "strings.asciiSpace" = some 0 by kernel_rfl]
  simp [hb]
theorem atoi_dig : ∀ d : Fin 10, Lib.atoiAll [UInt8.ofNat (48 + d.val)] = .ok (d.val : Int) := by decide
set_option maxRecDepth 20000
set_option maxHeartbeats 4000000
set_option linter.unusedSimpArgs false
set_option linter.unusedVariables false
attribute [local irreducible] AWp AOps byteAt SrcOK OrOk GloAll FnSpec
theorem atoi_one {G : Glo} (d : Int) (h0 : 0 ≤ d) (h1 : d < 10) : FnIs Tryz.prog G 24 [.str [digC d]] (.tuple [.int .i64 d, .raw .nilIface]) := by
  have ha := atoi_dig ⟨d.toNat, by omega⟩
  have ed : ((d.toNat : Nat) : Int) = d := by omega
  simp only [ed] at ha
  refine fnis_of_calls_v (.tuple #[.int .i64 d, .nilIface]) (fun R => rel_tup2 (rel_int.2 rfl) (rel_raw.2 rfl)) Tryz.call24 ?_
  intro R args hr w _ _
  obtain ⟨x, t, e', hx, rfl⟩ := hr
  obtain rfl := rel_str.1 hx
  obtain rfl := arr_of e'
  refine (Tryz.strconv_Atoi_ok ⟨[digC d].toArray⟩ (by rw [str_size]; show 1 ≤ 9223372036854775806; omega) _ (by unfold digC; simpa using ha) w).mono ?_
  rintro e w' ⟨rfl, hw⟩
  refine ⟨rfl, ?_⟩
  rcases hw with rfl | ⟨t, rfl⟩
  · exact Below.refl _ _
  · exact ⟨rfl, rfl, rfl, by rw [Lib.bytesWorld_size]; omega, fun k hk => Lib.bytesWorld_at_old _ _ _ _ hk⟩
theorem fields_row {G : Glo} (hS : SpIs G) (H : Heap) (s : List UInt8) (hl : s.length < 100000) (ha : ∀ (j : Nat) (b : UInt8), s[j]? = some b → b.toNat < 128) :
    FnSpec Tryz.prog G 22 [.str s] H (fun r H' => ∃ b, r = .ret (.own H.length (.slice (some ⟨b, 0, none⟩) (Lib.fields s).length (Lib.fields s).length)) ∧ H' = H ++ [.row (.slice (some ⟨b, 0, none⟩) (Lib.fields s).length (Lib.fields s).length) (some 9) 1 (Lib.fields s).length (strsC (Lib.fields s))]) := by
  refine fnspec_new_row Tryz.call22 (by rw [strsC_len, Nat.mul_one]) ?_
  rintro C R args ⟨x, t, e, hx, rfl⟩ w hG hm
  obtain rfl := rel_str.1 hx
  obtain rfl := arr_of e
  refine (Tryz.strings_Fields ⟨s.toArray⟩ w (by rw [str_size]; omega) (fun j b hb => ha j b (by simpa using hb)) (sp_tab hS hG hm.sealed)).mono ?_
  rintro e w' ⟨rfl, rfl⟩
  refine ⟨w, _, Below.refl _ _, rfl, rfl, ?_, fun R => ?_⟩
  · simp
  · have := relL_strs R (Lib.fields s)
    simpa using this
theorem fields_list {G : Glo} (hS : SpIs G) (s : List UInt8) (hl : s.length < 100000) (ha : ∀ (j : Nat) (b : UInt8), s[j]? = some b → b.toNat < 128) : FnIs Tryz.prog G 22 [.str s] (.list 1 (Lib.fields s).length (strsF (Lib.fields s))) :=
  fn_seal (fun a => a) mk_id (strsF (Lib.fields s)) (strsF_ok _) ((fields_row hS [] s hl ha).mono fun _ _ ⟨_, h1, h2⟩ => ⟨_, _, h1, h2⟩)
end Go.Proofs.YtjccffnjhdhgfaaGreatDoor
namespace Go.Proofs.YtjccffnjhdhgfaaGreatDoor
open Go Go.RowKit
abbrev rlC (b : Nat) (r : Rl) : HEnt := .cells b (some 23) [.int .i64 r.t, .int .i64 r.a, .int .i64 r.b, .int .i64 r.p]
abbrev arC (b : Nat) (t a u p : Int) : HEnt := .cells b (some 61) [.int .i64 t, .int .i64 a, .int .i64 u, .int .i64 p]
abbrev erC (b : Nat) : HEnt := .cells b (some 28) [.raw .nilIface]
theorem row_ascii {s : List UInt8} (h : (s.all fun c => decide (c.toNat < 128)) = true) : ∀ (j : Nat) (b : UInt8), s[j]? = some b → b.toNat < 128 := fun j b hb => by
  have := List.all_eq_true.1 h b (List.mem_of_getElem? hb)
  simpa using this
theorem findV_hit {s : List UInt8} : ∀ {l : List (List UInt8 × Rl)} {k : Nat} (hk : k < l.length), (∀ j (hj : j < l.length), j < k → l[j].1 ≠ s) → l[k].1 = s → findV s l = l[k].2
  | x :: t, 0, hk, _, h => by
    have h : x.1 = s := h
    simp only [findV, if_pos h]
    rfl
  | x :: t, k + 1, hk, h0, h => by
    have h1 := h0 0 (by simp) (Nat.succ_pos k)
    have h1 : x.1 ≠ s := h1
    have ih := findV_hit (s := s) (l := t) (k := k) (by simpa using hk) (fun j hj hjk => by
      have := h0 (j + 1) (by simpa using hj) (by omega)
      simpa using this) (by simpa using h)
    simp only [findV, if_neg h1, ih]
    rfl
theorem findV_no {s : List UInt8} : ∀ {l : List (List UInt8 × Rl)}, (∀ j (hj : j < l.length), l[j].1 ≠ s) → findV s l = ⟨8, 0, 0, 0⟩
  | [], _ => rfl
  | x :: t, h0 => by
    have h1 : x.1 ≠ s := h0 0 (by simp)
    have ih := findV_no (s := s) (l := t) (fun j hj => by
      have := h0 (j + 1) (by simpa using hj)
      simpa using this)
    simp only [findV, if_neg h1, ih]
set_option maxRecDepth 20000
set_option maxHeartbeats 4000000
set_option linter.unusedSimpArgs false
set_option linter.unusedVariables false
attribute [local irreducible] AWp AOps byteAt SrcOK OrOk GloAll FnSpec
attribute [local irreducible] AWpR YSpec AWpD LvM To tabR rowV nmV turnS
theorem rules_Of0 {G : Glo} (hS : SpIs G) {v : Int} (hv : v = 3 ∨ v = 4) (s : List UInt8) (hl : s.length ≤ 1000000) : FnIs Tryz.prog G 6 [.str s, .int .i64 v] (.tuple [(findV (turnS 97 122 (-32) s) (rowV v)).A, .raw .nilIface]) := by
  have hGL : GloAll G [] := gloAll_nil
  have hT := rules_table (G := G) hv
  have hSq := strings_SplitSeq (G := G) (tabS v) 124
  have hU := name_Upper (G := G) s (by omega)
  have hcu := Tryz.call23
  have hlr : (tabR v).length = (rowV v).length := by unfold tabR; rw [List.length_map]
  have h36 := (rows_ok hv).2
  generalize hup : turnS 97 122 (-32) s = up at *
  refine fn_m (rs := [.cell 4 23, .cell 5 28]) Tryz.func6 Tryz.call6 rfl rfl rfl rfl ?_
  intro C hC hD
  refine awd_cuty hC hGL (fun x : Nat × Nat × Nat => [(1, .int .i64 v), (2, .own 0 (sqP x.1)), (4, .own 1 (sqP x.2.1)), (5, .own 2 (sqP x.2.2))]) (fun x => [sqS x.1 s, rlC x.2.1 Rl.z, erC x.2.2]) (fun _ => True) ?_ ?_
  · refine xb1 ?_
    intro b2 b4 b5
    intros
    exact cy (b2, b4, b5) trivial
  rintro ⟨b2, b4, b5⟩ -
  dsimp only
  refine awd_cuty hC hGL (fun _ : Unit => [(1, .int .i64 v), (2, .own 0 (sqP b2)), (4, .own 1 (sqP b4)), (5, .own 2 (sqP b5))]) (fun _ => [sqS b2 s, rlC b4 Rl.z, erC b5]) (fun _ => True) ?_ fun _ _ => ?_
  · refine xn ?_
    repeat' (first | exact Le.n | refine Lc.mk ?_ ?_)
    all_goals intros
    all_goals first
      | exact cy () trivial
      | (exfalso; omega)
  refine awd_seq (awd_cuty hC hGL (fun x : Nat × Nat × Nat => [(1, .int .i64 v), (2, .own 0 (sqP b2)), (4, .own 1 (sqP b4)), (5, .own 2 (sqP b5)), (20, .func (.func 41) [] [.own 4 (sqP x.2.1), .own 3 (sqP x.1), .own 5 (sqP x.2.2)])]) (fun x => [sqS b2 s, rlC b4 Rl.z, erC b5, sqS x.1 (tabS v), sqS x.2.1 [124], sqI x.2.2 0]) (fun _ => True) ?_ ?_)
  · refine xn1 ?_
    refine cx_new (fun x : Nat × Nat × Nat => .func (.func 41) [] [.own 4 (sqP x.2.1), .own 3 (sqP x.1), .own 5 (sqP x.2.2)]) hSq (fun _ _ _ h => h) ?_
    rintro ⟨b0, b1, b3⟩
    refine xn1 ?_
    exact cy (b0, b1, b3) trivial
  rintro ⟨b0, b1, b3⟩ -
  dsimp only
  refine awd_block ?_
  refine awd_range rfl Tryz.call41 [(1, .int .i64 v), (2, .own 0 (sqP b2)), (4, .own 1 (sqP b4)), (5, .own 2 (sqP b5))] env_w rfl ?_
  intro L D r hp ha hb hfs
  rw [hC]
  have hy : ∀ (k : Nat) (s' : List UInt8) (y : Unit), k < (tabR v).length → (∀ j (hj : j < (rowV v).length), j < k → (rowV v)[j].1 ≠ up) → YSpec Tryz.prog G L [.str ((tabR v).getD k [])] (sqS b0 s' :: sqS b1 [124] :: sqI b3 0 :: [sqS b2 s, rlC b4 Rl.z, erC b5, objD D, objL L r .ready none])
      (fun b H' => (b = true ∧ ∃ _ : Unit, (∀ j (hj : j < (rowV v).length), j < k + 1 → (rowV v)[j].1 ≠ up) ∧ H' = sqS b0 s' :: sqS b1 [124] :: sqI b3 0 :: [sqS b2 s, rlC b4 Rl.z, erC b5, objD D, objL L r .ready none]) ∨
        (b = false ∧ ∃ T : Heap, H' = sqS b0 s' :: sqS b1 [124] :: sqI b3 0 :: (sqS b2 s :: rlC b4 (findV up (rowV v)) :: erC b5 :: objD D :: objL L r .done (some .ret) :: T))) := by
    intro k s' y hk hI
    have hk' : k < (rowV v).length := by omega
    have hro := row_at hv hk'
    simp only [rowOK, Bool.and_eq_true, decide_eq_true_eq] at hro
    have hF := fields_list hS ((tabR v).getD k []) (by rw [tab_get hk']; omega) (by rw [tab_get hk']; exact row_ascii hro.1.1.1.2)
    rw [tab_get hk', hro.1.2] at hF
    have hdg := hro.2
    have a1 := atoi_one (G := G) (rowV v)[k].2.t hdg.1 hdg.2.1
    have a2 := atoi_one (G := G) (rowV v)[k].2.a hdg.2.2.1 hdg.2.2.2.1
    have a3 := atoi_one (G := G) (rowV v)[k].2.b hdg.2.2.2.2.1 hdg.2.2.2.2.2.1
    have a4 := atoi_one (G := G) (rowV v)[k].2.p hdg.2.2.2.2.2.2.1 hdg.2.2.2.2.2.2.2
    have hfind : (rowV v)[k].1 = up → findV up (rowV v) = (rowV v)[k].2 := fun h => findV_hit hk' hI h
    have hnext : (rowV v)[k].1 ≠ up → ∀ j (hj : j < (rowV v).length), j < k + 1 → (rowV v)[j].1 ≠ up := fun h j hj hjk => by
      by_cases e : j = k
      · subst e; exact h
      · exact hI j hj (by omega)
    rw [tab_get hk']
    generalize (rowV v)[k] = row at *
    obtain ⟨nm, t, a, b, p⟩ := row
    dsimp only at *
    have hperm : ∀ (x : HEnt) (rr : Rl) (T : Heap), (sqS b2 s :: rlC b4 rr :: erC b5 :: sqS b0 s' :: sqS b1 [124] :: sqI b3 0 :: T).Perm (sqS b0 s' :: sqS b1 [124] :: sqI b3 0 :: sqS b2 s :: rlC b4 rr :: erC b5 :: T) := fun _ rr T =>
      (List.perm_append_comm (l₁ := [sqS b2 s, rlC b4 rr, erC b5]) (l₂ := [sqS b0 s', sqS b1 [124], sqI b3 0])).append_right T
    refine y_mono (y_perm (H1 := [sqS b2 s, rlC b4 Rl.z, erC b5, sqS b0 s', sqS b1 [124], sqI b3 0, objD D, objL L r .ready none]) (hperm (objD D) _ _)
      (y_spec (i := 7) (p := 21) (Qf := fun bb H' => (bb = true ∧ nm ≠ up ∧ H' = [sqS b2 s, rlC b4 Rl.z, erC b5, sqS b0 s', sqS b1 [124], sqI b3 0, objD D, objL L r .ready none]) ∨ (bb = false ∧ nm = up ∧ ∃ T, H' = [sqS b2 s, rlC b4 ⟨t, a, b, p⟩, erC b5, sqS b0 s', sqS b1 [124], sqI b3 0, objD D, objL L r .done (some .ret)] ++ T)) rfl hp (by kernel_rfl) hfs ?_)) ?_
    · intro C2 hC2 hD2
      rw [ha]
      refine awr_code hC2 hGL (xn1 ?_)
      refine ⟨rfl, 7, rfl, ?_⟩
      rw [hb]
      refine awr_block (awr_cut hC2 hGL (fun _ : Unit => [(1, .int .i64 v), (2, .own 0 (sqP b2)), (4, .own 1 (sqP b4)), (5, .own 2 (sqP b5)), (7, .list 1 5 (strsF [nm, [digC t], [digC a], [digC b], [digC p]]))]) (fun _ => [sqS b2 s, rlC b4 Rl.z, erC b5, sqS b0 s', sqS b1 [124], sqI b3 0, objD D, objL L r .busy none]) (fun _ => True) ?_ fun _ _ => ?_)
      · refine xn1 ?_
        intros
        exact cy () trivial
      refine awr_seq (awr_dwq mixed hC2 hGL (by kernel_rfl) ?_)
      refine xn1 ?_
      refine cq hcu hU rfl ?_
      refine xn1 ?_
      refine awr_cond rfl (fun h => ?_) (fun h => ?_)
      · have hnu : nm = up := seqB_t.1 h
        refine awr_cut hC2 hGL (fun b8 : Nat => [(4, .own 1 (sqP b4)), (5, .own 2 (sqP b5)), (7, .list 1 5 (strsF [nm, [digC t], [digC a], [digC b], [digC p]])), (8, .own 8 (sqP b8))]) (fun b8 => [sqS b2 s, rlC b4 Rl.z, erC b5, sqS b0 s', sqS b1 [124], sqI b3 0, objD D, objL L r .busy none, arC b8 0 0 0 0]) (fun _ => True) ?_ fun b8 _ => ?_
        · refine xn1 ?_
          intro b8
          intros
          exact cy b8 trivial
        refine awr_seq (awr_cut hC2 hGL (fun _ : Unit => [(4, .own 1 (sqP b4)), (5, .own 2 (sqP b5)), (7, .list 1 5 (strsF [nm, [digC t], [digC a], [digC b], [digC p]])), (8, .own 8 (sqP b8)), (30, .int .i64 0)]) (fun _ => [sqS b2 s, rlC b4 Rl.z, erC b5, sqS b0 s', sqS b1 [124], sqI b3 0, objD D, objL L r .busy none, arC b8 0 0 0 0]) (fun _ => True) ?_ fun _ _ => ?_)
        · refine xn1 ?_
          exact cy () trivial
        refine awr_block (awr_rounds 5 (rdsR (awr_code hC2 hGL (xn1 ?_))))
        intro _
        refine awr_code hC2 hGL (xn1 ?_)
        intro _
        refine awr_code hC2 hGL (xn1 ?_)
        intro _
        refine awr_code hC2 hGL (xn1 ?_)
        intro _
        refine awr_code hC2 hGL (xn1 ?_)
        intro _
        refine ⟨fun _ => ?_, fun h => absurd rfl h⟩
        refine awr_code hC2 hGL (xn1 ?_)
        exact ⟨7, rfl, .inr ⟨rfl, hnu, [arC b8 t a b p], rfl⟩⟩
      · refine awr_code hC2 hGL (xn1 ?_)
        refine ⟨7, rfl, .inl ⟨rfl, fun e => ?_, rfl⟩⟩
        have h : seqB nm up = false := h
        rw [seqB_t.2 e] at h
        cases h
    · rintro b' H' (⟨rfl, hne, rfl⟩ | ⟨rfl, hnu, T, rfl⟩)
      · exact ⟨_, hperm (objD D) _ _, .inl ⟨rfl, (), hnext hne, rfl⟩⟩
      · rw [hfind hnu]
        exact ⟨_, hperm (objD D) _ _, .inr ⟨rfl, T, rfl⟩⟩
  have run := split_seq_run (G := G) L b0 b1 b3 124 (tabR v) (by omega) (tab_no hv) (tab_len hv) (Y := Unit) (Z := Heap) (fun _ => [sqS b2 s, rlC b4 Rl.z, erC b5, objD D, objL L r .ready none]) (fun T => sqS b2 s :: rlC b4 (findV up (rowV v)) :: erC b5 :: objD D :: objL L r .done (some .ret) :: T) (fun k _ => ∀ j (hj : j < (rowV v).length), j < k → (rowV v)[j].1 ≠ up) () (fun j hj h => absurd h (Nat.not_lt_zero _)) hy
  have hperm : ∀ (s' : List UInt8) (rr : Rl) (T : Heap), (sqS b0 s' :: sqS b1 [124] :: sqI b3 0 :: sqS b2 s :: rlC b4 rr :: erC b5 :: T).Perm (sqS b2 s :: rlC b4 rr :: erC b5 :: sqS b0 s' :: sqS b1 [124] :: sqI b3 0 :: T) := fun s' rr T =>
    (List.perm_append_comm (l₁ := [sqS b0 s', sqS b1 [124], sqI b3 0]) (l₂ := [sqS b2 s, rlC b4 rr, erC b5])).append_right T
  refine fn_heap (fn_perm (hperm _ _ _) (fn_args run fun _ _ h => h)) ?_
  rintro res H' ⟨rfl, s', ⟨y, hI, rfl⟩ | ⟨T, rfl⟩⟩
  · refine ⟨_, hperm _ _ _, .tuple [], 7, .ready, none, rfl, rfl, (fun h => by cases h), ?_⟩
    rw [findV_no fun j hj => hI j hj (by omega)]
    show AWpD Tryz.prog _ _ _ _ _ _
    refine awd_code (C := withD C (colD D :: C.D)) hC hGL (xn1 ?_)
    rw [show (withD C (colD D :: C.D)).D = [colD D] from (by show colD D :: C.D = _; rw [hD])]
    refine lvm_col (i := 6) rfl (lvm_ret ?_)
    exact xn0
  · refine ⟨_, hperm _ _ _, .tuple [], 7, .done, some .ret, rfl, rfl, (fun h => by cases h), ?_⟩
    show LvM _ _ _ _ _ (colD D :: C.D) _ _ _
    rw [hD]
    refine lvm_col (i := 6) rfl (lvm_ret ?_)
    exact xn0
theorem rules_Of {G : Glo} (hS : SpIs G) (v : Int) (s : List UInt8) (hl : s.length ≤ 1000000) : FnIs Tryz.prog G 6 [.str s, .int .i64 v] (.tuple [(ruleV v s).A, (verE v).A]) := by
  by_cases hv : v = 3 ∨ v = 4
  · have e1 : ruleV v s = findV (turnS 97 122 (-32) s) (rowV v) := by unfold ruleV; rw [if_pos hv]
    have e2 : verE v = .none := by unfold verE; rw [if_pos hv]
    rw [e1, e2]
    exact rules_Of0 hS hv s hl
  · have e1 : ruleV v s = Rl.z := by unfold ruleV; rw [if_neg hv]
    have e2 : verE v = .errno 1 := by unfold verE; rw [if_neg hv]
    rw [e1, e2]
    have hGL : GloAll G [] := gloAll_nil
    refine fn_x Tryz.func6 Tryz.call6 rfl rfl rfl rfl hGL ?_
    intro C hC
    refine xb ?_
    repeat' (first | exact Le.n | refine Lc.mk ?_ ?_)
    all_goals intros
    all_goals intros
    all_goals first
      | (exfalso; omega)
      | (apply rt_is; rfl)
end Go.Proofs.YtjccffnjhdhgfaaGreatDoor
namespace Go.Proofs.YtjccffnjhdhgfaaGreatDoor
open Go Go.RowKit
theorem aw_too {P : Program} {C : Ctx} {n : Nat} {c : Code} {env env' : Env} {H H' : Heap} {Q : AExit → Env → Heap → Prop} (hto : To C n env H env' H') (h : AWp P C n c env' H' Q) : AWp P C n c env H Q := fun R a w hm hf => by
  obtain ⟨R', hle, hm', hf'⟩ := hto R a w hm hf
  exact h R' a w hm' hf'
def rlL (r : Rl) : AVal := .list 1 4 (partElem [(0, .int .i64 r.t), (1, .int .i64 r.a), (2, .int .i64 r.b), (3, .int .i64 r.p)])
def optA : Option Rl → AVal
  | none => .raw (.slice none 0 0)
  | some r => rlL r
def knAt (i : Nat) : Kn := knR.getD i ⟨[], none, none⟩
def knF (i : Nat) : AVal := .agg [.str (knAt i).n, optA (knAt i).o, optA (knAt i).w]
def knPs : List (Nat × AVal) := (List.range 36).map fun i => (i, knF i)
theorem knP_at {i : Nat} (h : i < 36) : partElem knPs i = knF i := by
  unfold partElem knPs
  rw [List.getElem?_map, List.getElem?_range h]
  rfl
theorem list_retold {R : Seal} {sz n : Nat} {f g : Nat → AVal} {u : Value} (h : ∀ i, i < n → f i = g i) : Rel R (.list sz n f) u → Rel R (.list sz n g) u := by
  rintro ⟨⟨a, cap, e, hle, y⟩, h2⟩
  refine ⟨⟨a, cap, e, hle, ?_⟩, h2⟩
  rcases y with y | ⟨b, o, C, el, fz, ha, hR, hi⟩
  · exact .inl y
  · exact .inr ⟨b, o, C, el, fz, ha, hR, fun i hn => by rw [← h i hn]; exact hi i hn⟩
/-! Names whatever their letters. -/
def upB (c : UInt8) : Bool := decide ((65 ≤ c.toNat ∧ c.toNat ≤ 90) ∨ c.toNat = 45)
theorem knR_up : (knR.all fun k => k.n.all upB) = true := by decide +kernel
theorem fold_byte {c d : UInt8} (hc : upB c = true) : UInt8.ofNat (turnN 65 90 32 c.toNat).toNat = UInt8.ofNat (turnN 65 90 32 d.toNat).toNat ↔ c = UInt8.ofNat (turnN 97 122 (-32) d.toNat).toNat := by
  have hc : (65 ≤ c.toNat ∧ c.toNat ≤ 90) ∨ c.toNat = 45 := by simpa [upB] using hc
  have h1 := c.toNat_lt
  have h2 := d.toNat_lt
  rw [← UInt8.toNat_inj, ← UInt8.toNat_inj, UInt8.toNat_ofNat', UInt8.toNat_ofNat', UInt8.toNat_ofNat']
  unfold turnN
  (repeat' split) <;> omega
theorem fold_name : ∀ {n s : List UInt8}, n.all upB = true → (turnS 65 90 32 n = turnS 65 90 32 s ↔ n = turnS 97 122 (-32) s)
  | [], [], _ => by simp [turnS]
  | [], d :: s, _ => by simp [turnS]
  | c :: n, [], _ => by simp [turnS]
  | c :: n, d :: s, h => by
    rw [List.all_cons, Bool.and_eq_true] at h
    have ih := fold_name (n := n) (s := s) h.2
    have hb := fold_byte (d := d) h.1
    unfold turnS at ih ⊢
    simp only [List.map_cons, List.cons.injEq]
    rw [ih, hb]
theorem knAt_up (i : Nat) : (knAt i).n.all upB = true := by
  unfold knAt
  by_cases h : i < knR.length
  · rw [List.getD_eq_getElem?_getD, List.getElem?_eq_getElem h]
    exact List.all_eq_true.1 knR_up _ (List.getElem_mem h)
  · rw [List.getD_eq_getElem?_getD, List.getElem?_eq_none (by omega)]
    rfl
/-! What is found. -/
theorem findK_hit {v : Int} {up : List UInt8} {r : Rl} : ∀ {l : List Kn} {k : Nat} (hk : k < l.length), (∀ j (hj : j < l.length), j < k → (l[j].of v = none ∨ l[j].n ≠ up)) → l[k].of v = some r → l[k].n = up → findV up (l.filterMap fun k => (k.of v).map fun r => (k.n, r)) = r
  | x :: t, 0, hk, _, h1, h2 => by
    have h1 : x.of v = some r := h1
    have h2 : x.n = up := h2
    simp only [List.filterMap_cons, h1, Option.map_some, findV, if_pos h2]
  | x :: t, k + 1, hk, h0, h1, h2 => by
    have ih := findK_hit (l := t) (k := k) (by simpa using hk) (fun j hj hjk => by
      have := h0 (j + 1) (by simpa using hj) (by omega)
      simpa using this) (by simpa using h1) (by simpa using h2)
    have h3 : x.of v = none ∨ x.n ≠ up := h0 0 (by simp) (Nat.succ_pos k)
    cases hx : x.of v with
    | none => simp only [List.filterMap_cons, hx, Option.map_none, ih]
    | some r' =>
      rw [hx] at h3
      have h3 : x.n ≠ up := by rcases h3 with h | h; cases h; exact h
      simp only [List.filterMap_cons, hx, Option.map_some, findV, if_neg h3, ih]
theorem findK_no {v : Int} {up : List UInt8} : ∀ {l : List Kn}, (∀ j (hj : j < l.length), (l[j].of v = none ∨ l[j].n ≠ up)) → findV up (l.filterMap fun k => (k.of v).map fun r => (k.n, r)) = ⟨8, 0, 0, 0⟩
  | [], _ => rfl
  | x :: t, h0 => by
    have ih := findK_no (v := v) (up := up) (l := t) (fun j hj => by
      have := h0 (j + 1) (by simpa using hj)
      simpa using this)
    have h3 : x.of v = none ∨ x.n ≠ up := h0 0 (by simp)
    cases hx : x.of v with
    | none => simp only [List.filterMap_cons, hx, Option.map_none, ih]
    | some r' =>
      rw [hx] at h3
      have h3 : x.n ≠ up := by rcases h3 with h | h; cases h; exact h
      simp only [List.filterMap_cons, hx, Option.map_some, findV, if_neg h3, ih]
theorem knAt_get {i : Nat} (h : i < knR.length) : knAt i = knR[i] := by
  unfold knAt
  rw [List.getD_eq_getElem?_getD, List.getElem?_eq_getElem h]
  rfl
theorem knR_len : knR.length = 36 := rfl
set_option maxRecDepth 20000
set_option maxHeartbeats 4000000
set_option linter.unusedSimpArgs false
set_option linter.unusedVariables false
attribute [local irreducible] AWp AOps byteAt SrcOK OrOk GloAll FnSpec
theorem ref_known0 {G : Glo} : FnIs Tryz.prog G 18 [] (.list 3 36 (partElem knPs)) := by
  have hGL : GloAll G [] := gloAll_nil
  refine fn_x Tryz.func18 Tryz.call18 rfl rfl rfl rfl hGL ?_
  intro C hC
  exact xw0
theorem ref_known {G : Glo} : FnIs Tryz.prog G 18 [] (.list 3 36 knF) :=
  fn_told ref_known0 fun r H h => by
    obtain ⟨rfl, rfl⟩ := h
    rintro C R w e hm ⟨x, rfl, hx⟩
    exact ⟨R, hm, x, rfl, list_retold (fun i h => knP_at h) hx⟩
theorem ref_same {G : Glo} (s t : List UInt8) (hl : s.length ≤ 9223372036854775807) (hm : t.length ≤ 9223372036854775807) : FnIs Tryz.prog G 19 [.str s, .str t] (.bool (seqB (turnS 65 90 32 s) (turnS 65 90 32 t))) := by
  have h1 := ref_Lower (G := G) s hl
  have h2 := ref_Lower (G := G) t hm
  have hGL : GloAll G [] := gloAll_nil
  refine fn_x Tryz.func19 Tryz.call19 rfl rfl rfl rfl hGL ?_
  intro C hC
  exact xw0
end Go.Proofs.YtjccffnjhdhgfaaGreatDoor
namespace Go.Proofs.YtjccffnjhdhgfaaGreatDoor
open Go Go.RowKit
abbrev kRl (b : Nat) (r : Rl) : HEnt := .cells b (some 23) [.int .i64 r.t, .int .i64 r.a, .int .i64 r.b, .int .i64 r.p]
abbrev kPt (b : Nat) : Value := .pointer (some ⟨b, 0, none⟩)
section
variable {P : Program} [Tab P] {C : Ctx} {H : Heap} {env : Env}
/-- A list that holds something is not nil. -/
theorem rv_ne_list {sz m : Nat} {f : Nat → AVal} {x : Operand} {T ty e : TypeId} {xT : TI} (hx : evalA env x = some (.list sz (m + 1) f)) (h1 : tab P T = some xT) (h2 : xT.desc = .slice e) : RunV P C H env (.binOp .neq T x (.const (.slice none 0 0)) ty) (.bool true) := by
  intro R ρ w hm hf dst t p af g
  refine ⟨_, ?_, rel_bool.2 rfl⟩
  obtain ⟨a, cap, e1, _, y⟩ := rel_one (hf _ _ hx) rfl
  have e1 : ρ x = .slice a (m + 1) cap := (List.cons.inj e1).1
  obtain ⟨b, o, C0, el, fz, rfl, _⟩ := y.resolve_left (Nat.succ_ne_zero m)
  have hc : ρ (.const (.slice none 0 0)) = .slice none 0 0 := rel_raw.1 (hf (.const (.slice none 0 0)) _ (evalA_const env (.slice none 0 0)))
  obtain ⟨h3, h4, h5⟩ := equal_nil (R := R) (x := x) (w := w) (av := .raw (ρ x)) (c := false) (z := .slice none 0 0) (rel_raw.2 rfl) h1 (by rw [h2, e1]; rfl) (by rw [h2]; rfl)
  have h6 := h5 .neq (.inr rfl)
  rw [if_neg (by decide)] at h6
  simp only [execOp, hc, Sem.run_bind, h4, Result.andThen_ok, h6, h3, Sem.run_pure, Bool.not_false]
end
set_option maxRecDepth 20000
set_option maxHeartbeats 4000000
set_option linter.unusedSimpArgs false
set_option linter.unusedVariables false
attribute [local irreducible] AWp AOps byteAt SrcOK OrOk GloAll FnSpec
attribute [local irreducible] turnS knAt knR rowV To
theorem ref_Rule0 {G : Glo} {v : Int} (hv : v = 3 ∨ v = 4) (s : List UInt8) (hl : s.length ≤ 1000000) : FnIs Tryz.prog G 5 [.str s, .int .i64 v] (.tuple [(findV (turnS 97 122 (-32) s) (rowV v)).A, .int .i64 0]) := by
  have hGL : GloAll G [] := gloAll_nil
  have hK := ref_known (G := G)
  generalize hup : turnS 97 122 (-32) s = up at *
  have hsame : ∀ k, k < 36 → FnIs Tryz.prog G 19 [.str (knAt k).n, .str s] (.bool (seqB (knAt k).n up)) := fun k hk => by
    have h := ref_same (G := G) (knAt k).n s (by
      have : ∀ j, j < 36 → (knAt j).n.length ≤ 100 := by decide +kernel
      have := this k hk
      omega) (by omega)
    have e : seqB (turnS 65 90 32 (knAt k).n) (turnS 65 90 32 s) = seqB (knAt k).n up := by
      rw [Bool.eq_iff_iff, seqB_t, seqB_t, fold_name (knAt_up k), hup]
    rwa [e] at h
  refine fn_a Tryz.func5 Tryz.call5 rfl rfl rfl rfl ?_
  intro C hC
  refine cuty hC hGL (fun b4 : Nat => [(0, .str s), (1, .int .i64 v), (4, .own 0 (kPt b4))]) (fun b4 => [kRl b4 Rl.z]) (fun _ => True) ?_ fun b4 _ => ?_
  · refine xb1 ?_
    intro b4
    intros
    exact cy b4 trivial
  refine cut hC hGL [(0, .str s), (1, .int .i64 v), (4, .own 0 (kPt b4))] [kRl b4 Rl.z] True ?_ fun _ => ?_
  · refine xn ?_
    repeat' (first | exact Le.n | refine Lc.mk ?_ ?_)
    all_goals intros
    all_goals first
      | exact Ct.w
      | (exfalso; omega)
  refine aw_seq (cut hC hGL [(0, .str s), (1, .int .i64 v), (4, .own 0 (kPt b4)), (16, .list 3 36 knF), (17, .int .i64 (36 : Nat)), (18, .int .i64 (0 : Nat))] [kRl b4 Rl.z] True xn0 fun _ => ?_)
  refine aw_block (aw_loopS (X := Nat) (fun k => [(0, .str s), (1, .int .i64 v), (4, .own 0 (kPt b4)), (16, .list 3 36 knF), (17, .int .i64 (36 : Nat)), (18, .int .i64 (k : Nat))]) (fun _ => [kRl b4 Rl.z]) (fun k => k ≤ 36 ∧ ∀ j, j < k → ((knAt j).of v = none ∨ (knAt j).n ≠ up)) (fun k => 36 - k) 0 ⟨Nat.zero_le _, fun j h => absurd h (Nat.not_lt_zero _)⟩ env_w (List.Sublist.refl _) ?_)
  rintro k ⟨hk, hI⟩
  have hk : k ≤ 36 := hk
  by_cases hlt : k < 36
  · have hs1 := hsame k hlt
    refine cut hC hGL [(0, .str s), (1, .int .i64 v), (4, .own 0 (kPt b4)), (16, .list 3 36 knF), (17, .int .i64 (36 : Nat)), (18, .int .i64 (k : Nat)), (19, .bool (ltB (k : Int) (36 : Nat)))] [kRl b4 Rl.z] True xn0 fun _ => ?_
    refine cut hC hGL [(0, .str s), (1, .int .i64 v), (4, .own 0 (kPt b4)), (16, .list 3 36 knF), (17, .int .i64 (36 : Nat)), (18, .int .i64 (k : Nat))] [kRl b4 Rl.z] True ?_ fun _ => ?_
    · refine xn ?_
      repeat' (first | exact Le.n | refine Lc.mk ?_ ?_)
      all_goals intros
      all_goals first
        | (intros; exact Ct.w)
        | (intros; exfalso; omega)
    rcases hkn : knAt k with ⟨n, o, w⟩
    have hkF : knF k = .agg [.str n, optA o, optA w] := by unfold knF; rw [hkn]
    rw [hkn] at hs1
    dsimp only at hs1
    have hnx : ((knAt k).of v = none ∨ n ≠ up) → ∀ j, j < k + 1 → ((knAt j).of v = none ∨ (knAt j).n ≠ up) := fun h j hj => by
      by_cases e : j = k
      · subst e; rw [hkn] at h ⊢; exact h
      · exact hI j (by omega)
    rw [hkn] at hnx
    have hfound : ∀ r, (⟨n, o, w⟩ : Kn).of v = some r → n = up → findV up (rowV v) = r := fun r h1 h2 => by
      have e := knAt_get (i := k) (by rw [knR_len]; exact hlt)
      rw [hkn] at e
      unfold rowV
      exact findK_hit (k := k) (by rw [knR_len]; exact hlt) (fun j hj hjk => by have := hI j hjk; rwa [knAt_get hj] at this) (by rw [← e]; exact h1) (by rw [← e]; exact h2)
    rcases hv with rfl | rfl
    · rcases o with _ | o <;> rcases w with _ | w
      all_goals
        refine aw_code hC hGL ?_
        (conv => whnf)
        refine Ix.w ?_
        rw [hkF]
        refine xn ?_
        repeat' (first | exact Le.n | refine Lc.mk ?_ ?_)
        all_goals intros
        all_goals intros
        all_goals try exact ⟨k + 1, ⟨by show k + 1 ≤ 36; omega, hnx (.inl rfl)⟩, by show 36 - (k + 1) < 36 - k; omega, env_w, sub_w⟩
        all_goals try exact ⟨k + 1, ⟨by show k + 1 ≤ 36; omega, hnx (.inr (by assumption))⟩, by show 36 - (k + 1) < 36 - k; omega, env_w, sub_w⟩
      all_goals
        have hfd := hfound o rfl (by assumption)
        refine op1_run hC hGL (rv_ne_list (m := 3) rfl rfl rfl) rfl rfl ?_
        refine xn1 ?_
        refine dw_p mixed hC hGL false (fun (_ : HEnt) => [(4, .own 0 (kPt b4)), (5, .int .i64 0)]) (fun y => [kRl b4 o, y]) (.take 0 (.take 1 (.take 2 (.take 3 (.take 4 (.take 5 (.take 6 (.take 7 (.take 8 (.take 9 (.take 10 (.take 11 (.br 12 (.br 13 (.take 14 (.done)) (.nil)) (.nil)))))))))))))) (by kernel_rfl) ?_ ?_
        · refine xn ?_
          repeat' (first | exact Le.n | refine Lc.mk ?_ ?_)
          all_goals intros
          all_goals exact ⟨_, env_w, rfl⟩
        intro y
        refine xn1 ?_
        rw [hfd]
        exact rt_is rfl
    · rcases o with _ | o <;> rcases w with _ | w
      all_goals
        refine aw_code hC hGL ?_
        (conv => whnf)
        refine Ix.w ?_
        rw [hkF]
        refine xn ?_
        repeat' (first | exact Le.n | refine Lc.mk ?_ ?_)
        all_goals intros
        all_goals intros
        all_goals try exact ⟨k + 1, ⟨by show k + 1 ≤ 36; omega, hnx (.inl rfl)⟩, by show 36 - (k + 1) < 36 - k; omega, env_w, sub_w⟩
        all_goals try exact ⟨k + 1, ⟨by show k + 1 ≤ 36; omega, hnx (.inr (by assumption))⟩, by show 36 - (k + 1) < 36 - k; omega, env_w, sub_w⟩
      all_goals
        have hfd := hfound w rfl (by assumption)
        refine op1_run hC hGL (rv_ne_list (m := 3) rfl rfl rfl) rfl rfl ?_
        refine xn1 ?_
        refine dw_p mixed hC hGL false (fun (_ : HEnt) => [(4, .own 0 (kPt b4)), (5, .int .i64 0)]) (fun y => [kRl b4 w, y]) (.take 0 (.take 1 (.take 2 (.take 3 (.take 4 (.take 5 (.take 6 (.take 7 (.take 8 (.take 9 (.take 10 (.take 11 (.br 12 (.br 13 (.take 14 (.done)) (.nil)) (.nil)))))))))))))) (by kernel_rfl) ?_ ?_
        · refine xn ?_
          repeat' (first | exact Le.n | refine Lc.mk ?_ ?_)
          all_goals intros
          all_goals exact ⟨_, env_w, rfl⟩
        intro y
        refine xn1 ?_
        rw [hfd]
        exact rt_is rfl
  · obtain rfl : k = 36 := by omega
    have hno : findV up (rowV v) = ⟨8, 0, 0, 0⟩ := by
      unfold rowV
      exact findK_no fun j hj => by have := hI j (by rw [knR_len] at hj; exact hj); rwa [knAt_get hj] at this
    refine aw_code hC hGL (xn1 ?_)
    intro _
    refine ⟨fun _ => ?_, fun h => absurd rfl h⟩
    refine aw_code hC hGL (xn1 ?_)
    rw [hno]
    exact rt_is rfl
theorem ref_Rule {G : Glo} (v : Int) (s : List UInt8) (hl : s.length ≤ 1000000) : FnIs Tryz.prog G 5 [.str s, .int .i64 v] (.tuple [(ruleV v s).A, .int .i64 (verE v).e]) := by
  by_cases hv : v = 3 ∨ v = 4
  · have e1 : ruleV v s = findV (turnS 97 122 (-32) s) (rowV v) := by unfold ruleV; rw [if_pos hv]
    have e2 : verE v = .none := by unfold verE; rw [if_pos hv]
    rw [e1, e2]
    exact ref_Rule0 hv s hl
  · have e1 : ruleV v s = Rl.z := by unfold ruleV; rw [if_neg hv]
    have e2 : verE v = .errno 1 := by unfold verE; rw [if_neg hv]
    rw [e1, e2]
    have hGL : GloAll G [] := gloAll_nil
    refine fn_x Tryz.func5 Tryz.call5 rfl rfl rfl rfl hGL ?_
    intro C hC
    refine xb ?_
    repeat' (first | exact Le.n | refine Lc.mk ?_ ?_)
    all_goals intros
    all_goals intros
    all_goals first
      | (exfalso; omega)
      | (apply rt_is; rfl)
def nmK (v : Int) (k : Nat) : List (List UInt8) := (knR.take k).filterMap fun k => (k.of v).map fun _ => k.n
theorem nmK_succ {v : Int} {k : Nat} (h : k < 36) : nmK v (k + 1) = nmK v k ++ (((knAt k).of v).map fun _ => (knAt k).n).toList := by
  unfold nmK
  rw [List.take_add_one, List.filterMap_append, knAt_get (by rw [knR_len]; exact h), List.getElem?_eq_getElem (by rw [knR_len]; exact h)]
  refine congrArg _ ?_
  simp only [Option.toList_some, List.filterMap_cons, List.filterMap_nil]
  cases hx : (knR[k]'(by rw [knR_len]; exact h)).of v <;> simp
theorem nmK_len (v : Int) (k : Nat) : (nmK v k).length ≤ 36 := by
  unfold nmK
  refine Nat.le_trans (List.length_filterMap_le _ _) ?_
  rw [List.length_take, knR_len]
  omega
theorem nmK_end {v : Int} (hv : v = 3 ∨ v = 4) : nmK v 36 = namesV v := by
  have e : ∀ l : List Kn, (l.filterMap fun k => (k.of v).map fun _ => k.n) = (l.filterMap fun k => (k.of v).map fun r => (k.n, r)).map (·.1) := fun l => by
    induction l with
    | nil => rfl
    | cons x t ih => cases hx : x.of v <;> simp [List.filterMap_cons, hx, ih]
  unfold nmK namesV rowV
  rw [if_pos hv, List.take_of_length_le (by rw [knR_len]; omega), e]
attribute [local irreducible] nmK
theorem ref_Names0 {G : Glo} {v : Int} (hv : v = 3 ∨ v = 4) : FnSpec Tryz.prog G 7 [.int .i64 v] [] (fun r H => ∃ va, r = .ret (.tuple [.own 0 va, .int .i64 0]) ∧ H = [.row va none 1 (namesV v).length (strsC (namesV v))]) := by
  have hGL : GloAll G [] := gloAll_nil
  have hK := ref_known (G := G)
  refine fn_a Tryz.func7 Tryz.call7 rfl rfl rfl rfl ?_
  intro C hC
  refine cut hC hGL [(0, .int .i64 v)] [] True xn0 fun _ => ?_
  refine cut hC hGL [(0, .int .i64 v)] [] True ?_ fun _ => ?_
  · refine xn ?_
    repeat' (first | exact Le.n | refine Lc.mk ?_ ?_)
    all_goals intros
    all_goals first
      | exact Ct.w
      | (exfalso; omega)
  refine cut hC hGL [(0, .int .i64 v), (4, .raw (.slice none 0 0))] [] True xn0 fun _ => ?_
  refine aw_seq (cut hC hGL [(0, .int .i64 v), (4, .raw (.slice none 0 0)), (13, .list 3 36 knF), (14, .int .i64 (36 : Nat)), (15, .int .i64 (0 : Nat))] [] True xn0 fun _ => ?_)
  refine aw_too (to_trans (to_ghost 1) (to_own (k := 4) (i := 0) rfl rfl)) ?_
  have e0 : nmK v 0 = [] := by unfold nmK; rfl
  refine aw_block (aw_loopS (X := Nat × Value) (fun x => [(0, .int .i64 v), (4, .own 0 x.2), (13, .list 3 36 knF), (14, .int .i64 (36 : Nat)), (15, .int .i64 (x.1 : Nat))]) (fun x => [.row x.2 none 1 (nmK v x.1).length (strsC (nmK v x.1))]) (fun x => x.1 ≤ 36) (fun x => 36 - x.1) (0, .slice none 0 0) (Nat.zero_le _) env_w (by rw [e0]; exact List.Sublist.refl _) ?_)
  rintro ⟨k, y⟩ hk
  have hk : k ≤ 36 := hk
  dsimp only
  by_cases hlt : k < 36
  · have hln := nmK_len v k
    have hsc := nmK_succ (v := v) hlt
    rcases hkn : knAt k with ⟨n, o, w⟩
    have hkF : knF k = .agg [.str n, optA o, optA w] := by unfold knF; rw [hkn]
    rw [hkn] at hsc
    refine cut hC hGL [(0, .int .i64 v), (4, .own 0 y), (13, .list 3 36 knF), (14, .int .i64 (36 : Nat)), (15, .int .i64 (k : Nat)), (16, .bool (ltB (k : Int) (36 : Nat)))] [.row y none 1 (nmK v k).length (strsC (nmK v k))] True xn0 fun _ => ?_
    refine cut hC hGL [(0, .int .i64 v), (4, .own 0 y), (13, .list 3 36 knF), (14, .int .i64 (36 : Nat)), (15, .int .i64 (k : Nat))] [.row y none 1 (nmK v k).length (strsC (nmK v k))] True ?_ fun _ => ?_
    · refine xn ?_
      repeat' (first | exact Le.n | refine Lc.mk ?_ ?_)
      all_goals intros
      all_goals first
        | (intros; exact Ct.w)
        | (intros; exfalso; omega)
    generalize hnm : nmK v k = nm at *
    rcases hv with rfl | rfl
    · rcases o with _ | o <;> rcases w with _ | w
      all_goals
        simp only [Kn.of, if_true, if_false, Int.reduceEq, Option.map_none, Option.map_some, Option.toList_none, Option.toList_some, List.append_nil, reduceIte] at hsc
        refine aw_code hC hGL ?_
        (conv => whnf)
        refine Ix.w ?_
        rw [hkF]
        refine xn1 ?_
        intros
        first
          | exact ⟨(k + 1, y), by show k + 1 ≤ 36; omega, by show 36 - (k + 1) < 36 - k; omega, env_w, by show List.Sublist [HEnt.row y none 1 (nmK 3 (k + 1)).length (strsC (nmK 3 (k + 1)))] _; rw [hsc]; exact sub_w⟩
          | (refine op1_run hC hGL (rv_ne_list (m := 3) rfl rfl rfl) rfl rfl ?_
             refine xn1 ?_
             intro wa wk wc _
             exact ⟨(k + 1, .slice wa wk wc), by show k + 1 ≤ 36; omega, by show 36 - (k + 1) < 36 - k; omega, env_w, by show List.Sublist [HEnt.row (.slice wa wk wc) none 1 (nmK 3 (k + 1)).length (strsC (nmK 3 (k + 1)))] _; rw [hsc, ← strsC_snoc, List.length_append]; exact sub_w⟩)
    · rcases o with _ | o <;> rcases w with _ | w
      all_goals
        simp only [Kn.of, if_true, if_false, Int.reduceEq, Option.map_none, Option.map_some, Option.toList_none, Option.toList_some, List.append_nil, reduceIte] at hsc
        refine aw_code hC hGL ?_
        (conv => whnf)
        refine Ix.w ?_
        rw [hkF]
        refine xn1 ?_
        intros
        first
          | exact ⟨(k + 1, y), by show k + 1 ≤ 36; omega, by show 36 - (k + 1) < 36 - k; omega, env_w, by show List.Sublist [HEnt.row y none 1 (nmK 4 (k + 1)).length (strsC (nmK 4 (k + 1)))] _; rw [hsc]; exact sub_w⟩
          | (refine op1_run hC hGL (rv_ne_list (m := 3) rfl rfl rfl) rfl rfl ?_
             refine xn1 ?_
             intro wa wk wc _
             exact ⟨(k + 1, .slice wa wk wc), by show k + 1 ≤ 36; omega, by show 36 - (k + 1) < 36 - k; omega, env_w, by show List.Sublist [HEnt.row (.slice wa wk wc) none 1 (nmK 4 (k + 1)).length (strsC (nmK 4 (k + 1)))] _; rw [hsc, ← strsC_snoc, List.length_append]; exact sub_w⟩)
  · obtain rfl : k = 36 := by omega
    refine aw_code hC hGL (xn1 ?_)
    intro _
    refine ⟨fun _ => ?_, fun h => absurd rfl h⟩
    refine aw_code hC hGL (xn1 ?_)
    rw [nmK_end hv]
    exact ⟨_, List.Sublist.refl _, y, rfl, rfl⟩
theorem ref_RuleNames {G : Glo} (v : Int) : FnIs Tryz.prog G 7 [.int .i64 v] (.tuple [.list 1 (namesV v).length (strsF (namesV v)), .int .i64 (verE v).e]) := by
  by_cases hv : v = 3 ∨ v = 4
  · have e2 : verE v = .none := by unfold verE; rw [if_pos hv]
    rw [e2]
    exact fn_seal (fun a => .tuple [a, .int .i64 0]) (mk_fst _) (strsF (namesV v)) (strsF_ok _) (cs := strsC (namesV v)) (eT := none) ((ref_Names0 hv).mono fun r H ⟨va, h1, h2⟩ => ⟨_, va, h1, h2⟩)
  · have e1 : namesV v = [] := by unfold namesV; rw [if_neg hv]
    have e2 : verE v = .errno 1 := by unfold verE; rw [if_neg hv]
    rw [e1, e2]
    refine fn_told (H := []) (Qf := fun r H => r = .ret (.tuple [.raw (.slice none 0 0), .int .i64 1]) ∧ H = []) ?_ (fun r H h => by
      obtain ⟨rfl, rfl⟩ := h
      rintro C R w e hm ⟨x, rfl, hx⟩
      exact ⟨R, hm, x, rfl, tuple_one (Seal.le_refl R) hx fun u hu => by
        obtain rfl := rel_raw.1 (show Rel R (.raw (.slice none 0 0)) u from hu)
        exact ⟨⟨none, 0, rfl, Nat.le_refl _, .inl rfl⟩, rfl⟩⟩)
    have hGL : GloAll G [] := gloAll_nil
    refine fn_x Tryz.func7 Tryz.call7 rfl rfl rfl rfl hGL ?_
    intro C hC
    refine xw ?_
    repeat' (first | exact Le.n | refine Lc.mk ?_ ?_)
    all_goals intros
    all_goals first
      | (exfalso; omega)
      | (apply rt_is; rfl)
end Go.Proofs.YtjccffnjhdhgfaaGreatDoor
namespace Go.Proofs.YtjccffnjhdhgfaaGreatDoor
open Go
set_option linter.unusedSimpArgs false
def andL : List Bool → Bool
  | [] => true
  | b :: l => b && andL l
def fldEq (P : Program) [Tab P] (cs ds : List AVal) : List Field → Option (List Bool)
  | [] => some []
  | f :: fs => match tab P f.type, cs[f.offset]?, ds[f.offset]?, fldEq P cs ds fs with
    | some x, some a, some b, some l => match x.desc, a, b with
      | .int _, .int k m, .int j q => match Nat.beq (kix k) (kix j) with
        | true => some (eqB m q :: l)
        | false => none
      | .string, .str s, .str t => some (seqB s t :: l)
      | .bool, .bool s, .bool t => some ((s == t) :: l)
      | _, _, _ => none
    | _, _, _, _ => none
theorem part_one {P : Program} [Tab P] {xs : Array Value} {v : Value} {t : TypeId} {x : TI} {o : Nat} (ht : tab P t = some x) (hd : descAgg x.desc = false) (hv : xs[o]? = some v) (w : World) : (part t xs o).run P w = .ok v w := by
  simp only [part, Sem.run_bind, tab_run_agg ht, hd, Result.andThen_ok, Bool.false_eq_true, if_false, hv, Sem.run_pure]
theorem eqFields_run {P : Program} [Tab P] {R : Seal} {cs ds : List AVal} {xs ys : Array Value} (ha : RelL R cs xs.toList) (hb : RelL R ds ys.toList) (d : Nat) (w : World) :
    ∀ (fs : List Field) (l : List Bool), (fs.all fun f => f.name != "_") = true → fldEq P cs ds fs = some l → (Op.eqFields (d + 1) xs ys fs).run P w = .ok (andL l) w
  | [], l, _, h => by
    simp only [fldEq, Option.some.injEq] at h
    subst h
    rfl
  | f :: fs, l, hn, h => by
    simp only [List.all_cons, Bool.and_eq_true, bne_iff_ne, ne_eq] at hn
    simp only [fldEq] at h
    split at h
    · rename_i x a b l' ht h1 h2 h3
      have ih := eqFields_run ha hb d w fs l' hn.2 h3
      obtain ⟨va, e1, r1⟩ := relL_get ha h1
      obtain ⟨vb, e2, r2⟩ := relL_get hb h2
      have e1 : xs[f.offset]? = some va := by simpa using e1
      have e2 : ys[f.offset]? = some vb := by simpa using e2
      have fin : ∀ r : Bool, descAgg x.desc = false → (Op.equalIn (d + 1) f.type va vb).run P w = .ok r w → (Op.eqFields (d + 1) xs ys (f :: fs)).run P w = .ok (andL (r :: l')) w := by
        intro r hd hr
        simp only [Op.eqFields, ne_eq, hn.1, not_false_eq_true, if_true, Sem.run_bind, part_one ht hd e1, part_one ht hd e2, Result.andThen_ok, hr]
        cases r
        · rfl
        · exact ih
      split at h
      · rename_i q1 k m j q hd
        split at h
        · rename_i hk
          cases h
          obtain rfl := kix_eq hk
          obtain rfl := rel_int.1 (relC_rel r1 rfl)
          obtain rfl := rel_int.1 (relC_rel r2 rfl)
          refine fin _ (by rw [hd]; rfl) ?_
          rw [run_equalIn_int w d f.type _ _ _ _ (by rw [tab_und ht, hd])]
          unfold eqB
          rfl
        · cases h
      · rename_i s t hd
        cases h
        obtain rfl := rel_str.1 (relC_rel r1 rfl)
        obtain rfl := rel_str.1 (relC_rel r2 rfl)
        refine fin _ (by rw [hd]; rfl) ?_
        rw [run_equalIn_string w d f.type _ _ (by rw [tab_und ht, hd])]
        rw [ByteArray.toList_eq, ByteArray.toList_eq]
        unfold seqB
        simp
      · rename_i s t hd
        cases h
        obtain rfl := rel_bool.1 (relC_rel r1 rfl)
        obtain rfl := rel_bool.1 (relC_rel r2 rfl)
        exact fin _ (by rw [hd]; rfl) (run_equalIn_bool' w d f.type _ _ (by rw [tab_und ht, hd]))
      · cases h
    · cases h
section
variable {P : Program} [Tab P] {C : Ctx} {env : Env} {H : Heap} {x y : Operand} {T ty : TypeId}
theorem agg_of {R : Seal} {cs : List AVal} {v : Value} (h : Rel R (.agg cs) v) : ∃ vs, v = .agg vs ∧ RelL R cs vs.toList := by
  obtain ⟨h1, h2⟩ := h
  cases v <;> first | exact ⟨_, rfl, h1⟩ | (simp [AVal.isAgg, vAgg] at h2)
theorem rv_eqagg {cs ds : List AVal} {fs : Array Field} {l : List Bool} {xT : TI} (b : Bool) (hx : evalA env x = some (.agg cs)) (hy : evalA env y = some (.agg ds)) (h1 : tab P T = some xT) (h2 : xT.desc = .struct fs)
    (h3 : P.stoodInHeld T = false) (h4 : P.eqGuardType P.depth T = false) (h5 : (fs.toList.all fun f => f.name != "_") = true) (h6 : fldEq P cs ds fs.toList = some l) (hb : andL l = b) : RunV P C H env (.binOp .eql T x y ty) (.bool b) := by
  intro R ρ w hm hf dst t p af g
  refine ⟨_, ?_, rel_bool.2 rfl⟩
  obtain ⟨xs, ex, rx⟩ := agg_of (hf _ _ hx)
  obtain ⟨ys, ey, ry⟩ := agg_of (hf _ _ hy)
  have hu : P.underlying T = some (.struct fs) := by rw [tab_und h1, h2]
  have hfo : P.fieldsOf T = fs := by unfold Program.fieldsOf; rw [hu]
  have e1 : (Op.equalIn 10000 T (.agg xs) (.agg ys)).run P w = .ok b w := by
    rw [show (10000 : Nat) = 9999 + 1 from rfl, run_equalIn_agg w 9999 T xs ys (by rw [hfo]; exact hu) h3, hfo]
    subst hb
    exact eqFields_run rx ry 9998 w _ _ h5 h6
  simp only [execOp, ex, ey, Sem.run_bind, run_eql_struct, e1, run_eqGuard_agg w .eql T x y xs ys h4, Result.andThen_ok, Sem.run_pure]
end
end Go.Proofs.YtjccffnjhdhgfaaGreatDoor
namespace Go.Proofs.YtjccffnjhdhgfaaGreatDoor
open Go Go.RowKit
theorem verE_p (v : Int) : (verE v).p = -1 := by unfold verE; split <;> rfl
theorem rl_same (r : Rl) : andL [eqB r.t r.t, eqB r.a r.a, eqB r.b r.b, eqB r.p r.p] = true := by
  have e : ∀ x : Int, eqB x x = true := fun x => eqB_t.2 rfl
  simp only [andL, e, Bool.and_self]
theorem namesV_len (v : Int) : (namesV v).length ≤ 36 := by
  unfold namesV
  split
  · rename_i h
    have := (rows_ok h).2.1
    rwa [List.length_map]
  · exact Nat.zero_le _
set_option maxRecDepth 20000
set_option maxHeartbeats 4000000
set_option linter.unusedSimpArgs false
set_option linter.unusedVariables false
attribute [local irreducible] AWp AOps byteAt SrcOK OrOk GloAll FnSpec
attribute [local irreducible] ruleV namesV verE
theorem names_Equal {G : Glo} (l : List (List UInt8)) (hn : l.length ≤ 20000) : FnIs Tryz.prog G 10 [.list 1 l.length (strsF l), .list 1 l.length (strsF l)] (.bool true) := by
  have hGL : GloAll G [] := gloAll_nil
  refine fn_x Tryz.func10 Tryz.call10 rfl rfl rfl rfl hGL ?_
  intro C hC
  refine xw1 ?_
  intros
  refine lp hC hGL (fun (k : Nat) => [(0, .list 1 l.length (strsF l)), (1, .list 1 l.length (strsF l)), (12, .int .i64 (l.length : Nat)), (13, .int .i64 (k : Nat))]) (fun _ => []) (fun k => k ≤ l.length) (fun k => l.length - k) 0 (Nat.zero_le _) env_w rfl ?_
  intro k hk
  have hk : k ≤ l.length := hk
  by_cases hk2 : k < l.length
  · refine xw1 ?_
    intros
    exact nxt (k + 1) (show k + 1 ≤ l.length by omega) (by omega) env_w rfl
  · exact xw0
theorem law_RulesKnow {G : Glo} (hE : GloAll G errTy) (hS : SpIs G) (s : List UInt8) (v : Int) (hl : s.length ≤ 9223372036854775807) : FnIs Tryz.prog G 3 [.str s, .int .i64 v] (.bool true) := by
  have h6 := bare_ok (G := G) hE (verE v) (verE_p v)
  have hc1 := Tryz.call9
  have hc2 := Tryz.call10
  by_cases hs : s.length ≤ 100
  · have h1 := ref_Rule (G := G) v s (by omega)
    have h2 := rules_Of (G := G) hS v s (by omega)
    have h3 := ref_RuleNames (G := G) v
    have h4 := rules_Names (G := G) v
    have h5 := names_Equal (G := G) (namesV v) (by have := namesV_len v; omega)
    have hz := rl_same (ruleV v s)
    generalize ruleV v s = r at *
    generalize namesV v = ns at *
    rcases hq : verE v with _ | e | ⟨e, p⟩
    all_goals
      rw [hq] at h6 h1 h2 h3 h4
      simp only [Err.A, Err.e, Err.p, errA] at h6 h1 h2 h3 h4
      have hGL : GloAll G [] := gloAll_nil
      refine fn_x Tryz.func3 Tryz.call3 rfl rfl rfl rfl hGL ?_
      intro C hC
      refine xw ?_
      repeat' (first | exact Le.n | refine Lc.mk ?_ ?_)
      all_goals intros
      all_goals try (refine op1_run hC hGL (rv_eqagg true rfl rfl rfl rfl (by kernel_rfl) (by kernel_rfl) (by kernel_rfl) rfl hz) rfl rfl ?_; refine xw ?_)
      repeat' (first | exact Le.n | refine Lc.mk ?_ ?_)
      all_goals intros
      all_goals first
        | exact absurd rfl (by assumption)
        | (apply rt_is; rfl)
  · have hGL : GloAll G [] := gloAll_nil
    refine fn_x Tryz.func3 Tryz.call3 rfl rfl rfl rfl hGL ?_
    intro C hC
    exact xw0
end Go.Proofs.YtjccffnjhdhgfaaGreatDoor
namespace Go.Proofs.YtjccffnjhdhgfaaGreatDoor
open Go
theorem Tryz.own : ownKnob Tryz.prog.godebug = none := by kernel_rfl
/-- All blocks below, sealed as they stand. -/
def sealBelow (W : World) (k : Nat) : Seal := fun b => if b < k then W.heap[b]? else none
theorem sealBelow_ok (W : World) (k : Nat) : Sealed (sealBelow W k) W := by
  intro b o h
  unfold sealBelow at h
  split at h
  · exact h
  · cases h
theorem ms_start (W : World) (R : Seal) (G : Glo) (hG : G.p R) (hs : Sealed R W) : MS ⟨W, R, blks [], G, hG, []⟩ R [] W :=
  ⟨hs, Seal.le_refl R, fun _ hb => .inl hb, ⟨fun _ h => absurd h List.not_mem_nil, List.nodup_nil, fun _ h => absurd h List.not_mem_nil⟩, fun _ h => absurd h List.not_mem_nil, Ext.refl W _⟩
theorem keptBut_of_ext {W W' : World} (h : Ext W [] W') (may : MemPlace → Prop) : W.keptBut W' may := by
  refine ⟨h.os, h.output, fun i hi => ?_⟩
  rw [h.block i hi (by simp)]
  generalize W.heap[i]? = o
  cases o with
  | none => rfl
  | some o =>
    cases o with
    | cells c t fr => exact ⟨rfl, rfl, rfl, fun _ _ => rfl⟩
    | map es clock => exact .inr ⟨rfl, rfl⟩
    | _ => rfl
theorem law_end {P : Program} {G : Glo} {f : FuncId} {avs : List AVal} {c : Bool} {args : Array Value} {W : World} {R : Seal} (hs : FnIs P G f avs (.bool c)) (hc : (callFunc f args).run P W = .ok (.enter f args) W)
    (hG : G.p R) (hR : Sealed R W) (ha : RelV R avs args.toList) : Calls P f args W fun e W' => e = .returned (.bool c) ∧ ∀ may, W.keptBut W' may := by
  rcases hs R W args hG (ms_start W R G hG hR) ha with ⟨_, h⟩ | ⟨v, w', h, _⟩
  · refine h.mono fun e W' ⟨res, H', R', ⟨hr, hH⟩, he, hm⟩ => ?_
    subst hr
    obtain ⟨x, rfl, hx⟩ := he
    refine ⟨by rw [rel_bool.1 hx], fun may => keptBut_of_ext hm.ext may⟩
  · rw [hc] at h
    cases h
theorem len_of_size {x : ByteArray} (h : x.size ≤ maxLen) : x.data.toList.length ≤ 9223372036854775807 := by
  have : x.data.toList.length = x.size := by cases x; rfl
  rw [this]
  exact h
end Go.Proofs.YtjccffnjhdhgfaaGreatDoor
namespace Go.Proofs.YtjccffnjhdhgfaaGreatDoor
open Go
theorem var_heap {P : Program} {w : World} {n : String} {g : Nat} {cs : Array Value} (hg : P.globalNamed n = some g) (hv : w.var? P n = some cs) : ∃ e fz, w.heap[g]? = some (.cells cs e fz) := by
  simp only [World.var?, hg, Option.bind_some] at hv
  split at hv
  · rename_i c e fz hh
    cases hv
    exact ⟨_, _, hh⟩
  · cases hv
/-- A list of package-level variables that are known. -/
def gloOf (L : List (Nat × List AVal)) : Glo := ⟨fun R => ∀ x, x ∈ L → SealedAt R x.1 0 x.2, fun _ _ hle h x hx => by
  obtain ⟨C, e, fz, h1, h2⟩ := h x hx
  exact ⟨C, e, fz, hle _ _ h1, relL_mono hle _ _ h2⟩⟩
theorem gloGet_mem : ∀ (L : List (Nat × List AVal)) {g : Nat} {cs : List AVal}, gloGet L g = some cs → (g, cs) ∈ L
  | [], _, _, h => by simp [gloGet] at h
  | (k, c) :: r, g, cs, h => by
    unfold gloGet at h
    split at h
    · rename_i e
      obtain rfl := Nat.eq_of_beq_eq_true e
      cases h
      exact List.mem_cons_self
    · exact List.mem_cons_of_mem _ (gloGet_mem r h)
theorem gloAll_of {L L' : List (Nat × List AVal)} (h : ∀ x, x ∈ L' → x ∈ L) : GloAll (gloOf L) L' := fun g cs hg R hR => hR (g, cs) (h _ (gloGet_mem L' hg))
theorem sealed_below {W : World} {k g : Nat} {C : Array Value} {e : TypeId} {fz : Nat × Nat} {cs : List AVal} (hk : g < k) (hW : W.heap[g]? = some (.cells C e fz)) (h : RelL (sealBelow W k) cs (C.toList.take cs.length)) : SealedAt (sealBelow W k) g 0 cs :=
  ⟨C, e, fz, by unfold sealBelow; rw [if_pos hk]; exact hW, by rw [List.drop_zero]; exact h⟩
theorem rowNamed_error : ∀ ty, ty < Tryz.prog.types.size → Tryz.prog.rowNamed ty [101, 114, 114, 111, 114] = true → ty = 28 := by
  have h : ((List.range Tryz.prog.types.size).all fun ty => !Tryz.prog.rowNamed ty [101, 114, 114, 111, 114] || Nat.beq ty 28) = true := by kernel_rfl
  intro ty h1 h2
  have := List.all_eq_true.1 h ty (List.mem_range.2 h1)
  rw [h2] at this
  exact Nat.eq_of_beq_eq_true (by simpa using this)
theorem error_laid {W : World} {k : Nat} (hk : 5 < k) {laid : List (String × DataW Unit)} (hL : laidMetH Tryz.prog laid W) (hm : ("errors.errorType", Rows.laid_errors_errorType) ∈ laid) : SealedAt (sealBelow W k) 5 0 [rty 28] := by
  have h := (laidMetH_iff.1 hL).2 _ (List.mem_filter.2 ⟨hm, by kernel_rfl⟩)
  have h : ∃ name u ty, (Rows.laid_errors_errorType (H := Unit)).handleName? = some name ∧ (Tryz.prog.cutTypes.find? (·.1 == "internal/reflectlite.rtype")).map (·.2) = some u ∧ ty < Tryz.prog.types.size ∧ Tryz.prog.rowNamed ty name = true ∧
      W.var? Tryz.prog "errors.errorType" = some #[.iface u (.agg #[typeHandle Tryz.prog ty])] := h
  obtain ⟨name, u, ty, h1, h2, h3, h4, h5⟩ := h
  obtain rfl : [101, 114, 114, 111, 114] = name := Option.some.inj ((show (Rows.laid_errors_errorType (H := Unit)).handleName? = some [101, 114, 114, 111, 114] by kernel_rfl).symm.trans h1)
  obtain rfl : 164 = u := Option.some.inj ((show (Tryz.prog.cutTypes.find? (·.1 == "internal/reflectlite.rtype")).map (·.2) = some 164 by kernel_rfl).symm.trans h2)
  obtain rfl := rowNamed_error ty h3 h4
  obtain ⟨e, fz, hh⟩ := var_heap (show Tryz.prog.globalNamed "errors.errorType" = some 5 by kernel_rfl) h5
  exact sealed_below hk hh ⟨_, _, rfl, (rel_rty _).1, rfl⟩
/-- The witness world of a row that lists a type's handle: the handle in its cell, the rest laid. -/
noncomputable def handleWorld (os : Os) : World :=
  let w0 := World.holding Tryz.prog os ⟨#[], #[], []⟩
  { w0 with heap := w0.heap.modify 5 fun
      | .cells _ t frozen => .cells #[.iface 164 (.agg #[hdl 28])] t frozen
      | o => o }
def plainOf (laid : List (String × DataW Unit)) : List (String × DataW Unit) := laid.filter fun x => x.2.handleName?.isNone
noncomputable def handleLaid (os : Os) (laid : List (String × DataW Unit)) : World := (handleWorld os).layVars Tryz.prog (plainOf laid)
theorem handleLaid_os (os : Os) (laid : List (String × DataW Unit)) : (handleLaid os laid).os = os := World.layVars_os _ _ _
theorem handleLaid_met {os : Os} {laid : List (String × DataW Unit)} (args : Array Value) (hf : (handleWorld os).layFits Tryz.prog (plainOf laid) [] = true) (hi : (handleWorld os).layIfaces Tryz.prog (plainOf laid) (handleLaid os laid) = true)
    (hh : ((laid.filter fun x => x.2.handleName?.isSome).all (handleAtB Tryz.prog ((handleLaid os laid).forCall (fun _ _ => 0) ⟨#[], args, []⟩).memory)) = true) :
    laidMetH Tryz.prog laid ((handleLaid os laid).forCall (fun _ _ => 0) ⟨#[], args, []⟩).memory := by
  refine laidMetH_of_parts ?_ hh
  have e1 : ((plainOf laid).filter fun x => ((plainOf laid).map (·.1)).contains x.1) = plainOf laid := List.filter_eq_self.2 fun x hx => List.contains_iff_mem.2 (List.mem_map.2 ⟨x, hx, rfl⟩)
  have e2 : ((plainOf laid).filter fun x => !((plainOf laid).map (·.1)).contains x.1) = [] := List.filter_eq_nil_iff.2 fun x hx => by rw [List.contains_iff_mem.2 (List.mem_map.2 ⟨x, hx, rfl⟩)]; simp
  have h : laidMet Tryz.prog (plainOf laid) (handleLaid os laid) := laidMet_layVars (w0 := handleWorld os) ((plainOf laid).map (·.1)) [] (by rw [e1]; rfl) (by rw [e1]; exact hf) (by rw [e1]; exact hi) (by rw [e2]; exact LaidIn.none)
  exact h.of_heap (by simp [World.memory, World.forCall, Input.heap])
theorem err_lt {W : World} {laid : List (String × DataW Unit)} (hL : laidMetH Tryz.prog laid W) (hm : ("errors.errorType", Rows.laid_errors_errorType) ∈ laid) : 5 < W.heap.size := by
  have h := (laidMetH_iff.1 hL).2 _ (List.mem_filter.2 ⟨hm, by kernel_rfl⟩)
  obtain ⟨name, u, ty, h1, h2, h3, h4, h5⟩ := h
  obtain ⟨e, fz, hh⟩ := var_heap (show Tryz.prog.globalNamed "errors.errorType" = some 5 by kernel_rfl) h5
  exact (Array.getElem?_eq_some_iff.1 hh).1
end Go.Proofs.YtjccffnjhdhgfaaGreatDoor
namespace Go.Proofs.YtjccffnjhdhgfaaGreatDoor
open Go
theorem chunks {α β : Type} (k : Nat) (E : α → List β) (hE : ∀ z, (E z).length = k) : ∀ (zs : List α) (cs : List β), cs.length = zs.length * k →
    (∀ i z, zs[i]? = some z → (cs.drop (i * k)).take k = E z) → cs = zs.flatMap E
  | [], cs, hl, _ => by
    simp only [List.length_nil, Nat.zero_mul] at hl
    simp [List.eq_nil_of_length_eq_zero hl]
  | z :: zs, cs, hl, h => by
    have h0 := h 0 z rfl
    simp only [Nat.zero_mul, List.drop_zero] at h0
    have hr := chunks k E hE zs (cs.drop k) (by rw [List.length_drop, hl, List.length_cons, Nat.succ_mul]; omega) (fun i y hy => by
      have := h (i + 1) y hy
      rw [List.drop_drop]
      rw [Nat.succ_mul, Nat.add_comm] at this
      exact this)
    rw [List.flatMap_cons, ← h0, ← hr, List.take_append_drop]
section
variable {P : Program} {H : Type} {enc : TypeId × Value → H} {w : World} {base : Nat} {spare : Nat → Bool} {held : Bool}
theorem trod_ints {t e n fuel : Nat} {k : IntKind} {cs : List Value} {ps : List MemPlace} {zs : List Nat} (ht : P.underlying t = some (.array n e)) (he : P.underlying e = some (.int k)) (hc : P.cellsOf e = 1) (hct : P.cellsOf t = n)
    (h : DataW.trod enc P w base spare held fuel t cs = some (.agg (zs.map fun x : Nat => .lit (.int k (x : Int))), ps)) (hz : zs.length = n) : cs = zs.flatMap fun x : Nat => [Value.int k (x : Int)] := by
  obtain ⟨xs, m, _, ex, hl, hxl, hel⟩ := DataW.trod_array ht h
  have e3 : (xs.map (·.1)) = zs.map fun x : Nat => .lit (.int k x) := (DataW.agg.inj (Prod.mk.inj ex).1).symm
  refine chunks 1 _ (fun _ => rfl) zs cs (by omega) (fun i z hi => ?_)
  have hin : i < zs.length := (List.getElem?_eq_some_iff.1 hi).1
  have hE := hel i (by omega)
  rw [hc, List.getElem?_eq_getElem (by omega)] at hE
  obtain ⟨y, e1, e2, _⟩ := DataW.trod_int he hE
  have e4 : (xs.map (·.1))[i]? = (zs.map fun x : Nat => (DataW.lit (.int k x) : DataW H))[i]? := by rw [e3]
  rw [List.getElem?_map, List.getElem?_map, List.getElem?_eq_getElem (by omega : i < xs.length), hi, e2] at e4
  simp only [Option.map_some, Option.some.injEq, DataW.lit.injEq, Lit.int.injEq, true_and] at e4
  rw [e1, e4]
end
/-- One laid variable. -/
theorem laid_at {P : Program} {W : World} {laid : List (String × DataW Unit)} (hL : laidMetH P laid W) {n : String} {d : DataW Unit} (hm : (n, d) ∈ laid) (hn : d.handleName?.isNone = true) {g : Nat} {t : TypeId} (hg : P.globalNamed n = some g) (ht : (P.globals[g]?).map (·.type) = some t) :
    ∃ cs e fz fuel p, W.heap[g]? = some (.cells cs e fz) ∧ DataW.trod (fun _ => ()) P W 0 (fun _ => true) false fuel t cs.toList = some (d, p) := by
  have h1 := (laidMetH_iff.1 hL).1
  obtain ⟨ps, h, _⟩ := h1
  have key : ∀ (l : List (String × DataW Unit)) (ps : List MemPlace), DataW.LaidVars P W l ps → (n, d) ∈ l → ∃ cs e fz fuel p, W.heap[g]? = some (.cells cs e fz) ∧ DataW.trod (fun _ => ()) P W 0 (fun _ => true) false fuel t cs.toList = some (d, p) := by
    intro l
    induction l with
    | nil => intro ps _ hm; cases hm
    | cons a r ih =>
      obtain ⟨m, b⟩ := a
      rintro ps ⟨g', t', cs, fuel, p, q, e1, e2, e3, e4, e5, _⟩ hm
      rcases List.mem_cons.1 hm with hm | hm
      · cases hm
        obtain rfl := Option.some.inj (hg.symm.trans e1)
        obtain rfl := Option.some.inj (ht.symm.trans e2)
        obtain ⟨e, fz, hh⟩ := var_heap hg e3
        exact ⟨cs, e, fz, fuel, p, hh, e4⟩
      · exact ih q e5 hm
  exact key _ ps h (List.mem_filter.2 ⟨hm, hn⟩)
/-- The wrap of a row with a listed table, the world's shape kept. -/
theorem returnsInHanded_shaped {H : Type} {enc : TypeId × Value → H} {a : Assume} {C : Checked} {os : Os} {f : FuncId} {fn : Func} {s : ChangeSpec} {conds : List PathCond} {apart fresh handsOn again : Bool} {X : World → Array Value → Prop}
    (hX : ∀ (w w' : World) (args : Array Value), w.heap = w'.heap → X w args → X w' args)
    (own : ownKnob C.prog.godebug = none) (started : os.Started) (noInit : C.prog.inits.idxOf? f = none) (hfn : C.prog.funcs[f]? = some fn)
    (witness : ∃ (w : World) (tape : Tape) (i : Input), w.os = os ∧ (w.forCall tape i).Shaped C.prog ∧ i.vars = [] ∧ Input.okWide C.prog (w.forCall tape i) .any w.heap.size f i ∧
      ((s.pre enc C.prog fn conds apart (w.forCall tape i).memory i.args ∧ X (w.forCall tape i).memory i.args) ∧ sizedMet enc C.prog fn (OpenSpec.ofChange s) apart (w.forCall tape i).memory i.args) ∧ a.holds C.prog (lone (Frame.enter C.prog f i.args .normal) [] (w.forCall tape i)))
    (contract : ∀ (W : World) (base : Nat) (args : Array Value) (ds gs : List (DataW H)) (before : List MemPlace),
      (∀ (j : Nat) t v, fn.params[j]? = some t → args[j]? = some v → Value.okWide C.prog W .any base t v) →
      DataW.Whole enc C.prog fn.params.toList s.vars apart W args.toList ds gs before →
      conds.all (PathCond.test C.prog ⟨fn.params.toList, ds, s.plain.varTypes C.prog, gs⟩) = true →
      X W args → W.ShapedOpen C.prog →
      Calls C.prog f args W fun e W' => ∃ v, e = .returned v ∧ s.post enc C.prog fn apart fresh handsOn again W args v W') :
    ReturnsInHanded a C os f .any (fun w args => (s.pre enc C.prog fn conds apart w args ∧ X w args) ∧ sizedMet enc C.prog fn (OpenSpec.ofChange s) apart w args) (s.post enc C.prog fn apart fresh handsOn again) := by
  refine returnsInHanded_of_calls own started noInit witness ?_
  intro w tape i _ hsh _ hok hpre _
  obtain ⟨_, _, _, fn', hfn', _, _, _, _, hval⟩ := hok
  have e : fn' = fn := Option.some.inj (hfn'.symm.trans hfn)
  subst e
  obtain ⟨⟨⟨ds, gs, before, hw, hc⟩, hx⟩, _⟩ := hpre
  have hw' := DataW.Whole.of_heap (w' := w.forCall tape i) (by rfl) hw
  refine (contract (w.forCall tape i) w.heap.size i.args ds gs before hval hw' hc (hX _ _ _ (by rfl) hx) hsh).mono fun e W' ⟨v, he, hp⟩ => ?_
  subst he
  exact ChangeSpec.post_blind hp
def gloAnd (A B : Glo) : Glo := ⟨fun R => A.p R ∧ B.p R, fun R R' h k => ⟨A.mono R R' h k.1, B.mono R R' h k.2⟩⟩
theorem gloAll_l {A B : Glo} {L : List (Nat × List AVal)} (h : GloAll A L) : GloAll (gloAnd A B) L := fun g cs hg R hR => h g cs hg R hR.1
theorem block_lt {W : World} {g : Nat} {o : Obj} (h : W.heap[g]? = some o) : g < W.heap.size := (Array.getElem?_eq_some_iff.1 h).1
theorem laid_lt {W : World} {laid : List (String × DataW Unit)} (hL : laidMetH Tryz.prog laid W) {n : String} {d : DataW Unit} (hm : (n, d) ∈ laid) (hn : d.handleName?.isNone = true) {g : Nat} {t : TypeId} (hg : Tryz.prog.globalNamed n = some g) (ht : (Tryz.prog.globals[g]?).map (·.type) = some t) : g < W.heap.size := by
  obtain ⟨_, _, _, _, _, hW, _⟩ := laid_at hL hm hn hg ht
  exact block_lt hW
end Go.Proofs.YtjccffnjhdhgfaaGreatDoor
namespace Go.Proofs.YtjccffnjhdhgfaaGreatDoor
open Go Go.ChangeShapes Go.WideShapes
def gloSp : Glo := ⟨fun R => ∃ e fz, R 0 = some (.cells (Lib.asciiSpaceTab.map fun z => Value.int .u8 z).toArray e fz), fun _ _ hle ⟨e, fz, h⟩ => ⟨e, fz, hle _ _ h⟩⟩
theorem sp_laid {W : World} {k : Nat} (hk : 0 < k) {laid : List (String × DataW Unit)} (hL : laidMetH Tryz.prog laid W) (hm : ("strings.asciiSpace", Rows.laid_strings_asciiSpace) ∈ laid) : gloSp.p (sealBelow W k) := by
  obtain ⟨C, e, fz, fuel, p, hW, hd⟩ := laid_at hL hm (by kernel_rfl) (g := 0) (t := 74) (by kernel_rfl) (by kernel_rfl)
  have e0 : (Rows.laid_strings_asciiSpace : DataW Unit) = .agg (((List.range 256).map fun i => if Lib.isSp (UInt8.ofNat i) then 1 else 0).map fun x : Nat => .lit (.int .u8 (x : Int))) := by kernel_rfl
  rw [e0] at hd
  have hc := trod_ints (n := 256) Tryz.underlying74 Tryz.underlying5 (by kernel_rfl) (by kernel_rfl) hd (by rw [List.length_map, List.length_range])
  have e1 : C = (Lib.asciiSpaceTab.map fun z => Value.int .u8 z).toArray := by
    apply Array.ext'
    rw [hc]
    kernel_rfl
  refine ⟨e, fz, ?_⟩
  unfold sealBelow
  rw [if_pos hk, hW, e1]
theorem glo_rules {W : World} {laid : List (String × DataW Unit)} (h1 : ("errors.errorType", Rows.laid_errors_errorType) ∈ laid) (h2 : ("strings.asciiSpace", Rows.laid_strings_asciiSpace) ∈ laid) (hL : laidMetH Tryz.prog laid W) : (gloAnd (gloOf errTy) gloSp).p (sealBelow W W.heap.size) := by
  refine ⟨fun x hx => ?_, sp_laid (laid_lt hL h2 (by kernel_rfl) (g := 0) (t := 74) (by kernel_rfl) (by kernel_rfl)) hL h2⟩
  obtain rfl := List.mem_singleton.1 (show x ∈ [_] from hx)
  exact error_laid (err_lt hL h1) hL h1
end Go.Proofs.YtjccffnjhdhgfaaGreatDoor
