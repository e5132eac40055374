/- Parts of the proof of jsonReads_card: Jrc, Crl, Plc, Jrd, Jrh, Buk, Jri, Jrj, Jre, Jrf. -/
import Derived.Lib.IndexAny
import Derived.Laws.IdiomRangeMap
import Derived.Test.YtmgkpbgfkjedeaaGreatDoorBaf
import Derived.Test.YtmgkpbgfkjedeaaGreatDoorBad
import Derived.Test.YtmgkpbgfkjedeaaGreatDoorBae
import Derived.Test.YtmgkpbgfkjedeaaGreatDoorBac
set_option linter.unusedVariables false
set_option linter.unusedSimpArgs false
namespace Go.Proofs.YtmgkpbgfkjedeaaGreatDoor
open Go Go.RowKit
def lowN (c : Nat) : Nat := if c ≤ 70 then c + 32 else c
/-- What so many digits say. -/
def hxV (w : List UInt8) (k : Nat) : Nat := match k with | 0 => 0 | k + 1 => hxV w k * 16 + hxN (byteAt w k)
def Hex4 (w : List UInt8) : Prop := w.length = 4 ∧ ∀ i, i < 4 → isHx (byteAt w i)
theorem hxV_lt {w : List UInt8} (h : Hex4 w) : ∀ k, k ≤ 4 → hxV w k < 16 ^ k
  | 0, _ => Nat.one_pos
  | k + 1, hk => by
    have h1 := hxV_lt h k (by omega)
    have h2 := hxN_lt (h.2 k (by omega))
    rw [hxV, Nat.pow_succ]
    omega
abbrev hexT : List UInt8 := [48, 49, 50, 51, 52, 53, 54, 55, 56, 57, 97, 98, 99, 100, 101, 102, 65, 66, 67, 68, 69, 70]
theorem hexT_has {c : Nat} (h : c < 256) : 0 ≤ idxB hexT (c : Int) ↔ isHx c := by
  have : ∀ c : Nat, c < 256 → decide (0 ≤ idxB hexT (c : Int)) = decide (isHx c) := by decide +kernel
  have := this c h
  rwa [decide_eq_decide] at this
def hxA (s : List UInt8) (a : Nat) : Nat → Nat | 0 => 0 | k + 1 => hxA s a k * 16 + hxN (byteAt s (a + k))
def GoodH (s : List UInt8) (a k : Nat) : Prop := ∀ i, i < k → a + i < s.length ∧ isHx (byteAt s (a + i))
theorem cdK_good {s : List UInt8} {a : Nat} : ∀ k j, GoodH s a k → cdK s (k + j) a 0 = cdK s j (a + k) (hxA s a k)
  | 0, j, _ => by rw [Nat.zero_add, Nat.add_zero]; rfl
  | k + 1, j, h => by
    have h1 := h k (by omega)
    rw [show k + 1 + j = k + (j + 1) by omega, cdK_good k (j + 1) fun i hi => h i (by omega), cdK, if_neg (by omega), if_pos h1.2]
    rfl
theorem cdK_fail {s : List UInt8} {a k : Nat} (hk : k < 4) (h : GoodH s a k) (h1 : s.length ≤ a + k ∨ ¬ isHx (byteAt s (a + k))) : cdK s 4 a 0 = .bad (lkE s (a + k)) (a + k) := by
  rw [show 4 = k + ((3 - k) + 1) by omega, cdK_good _ _ h, cdK]
  unfold lkE
  by_cases h2 : s.length ≤ a + k
  · rw [if_pos h2, if_pos h2]
  · rw [if_neg h2, if_neg h2, if_neg (h1.resolve_left h2)]
theorem cut_byte {s : List UInt8} {a n i : Nat} (h : i < n) : byteAt ((s.drop a).take n) i = byteAt s (a + i) := by
  unfold byteAt
  congr 1
  simp [List.getD, h, List.getElem?_drop]
theorem cut_hex {s : List UInt8} {a : Nat} (h : GoodH s a 4) : Hex4 ((s.drop a).take 4) := by
  have h3 := (h 3 (by omega)).1
  refine ⟨by simp; omega, fun i hi => ?_⟩
  rw [cut_byte hi]
  exact (h i hi).2
theorem cut_val {s : List UInt8} {a : Nat} : ∀ k, k ≤ 4 → hxV ((s.drop a).take 4) k = hxA s a k
  | 0, _ => rfl
  | k + 1, h => by rw [hxV, hxA, cut_val k (by omega), cut_byte (by omega)]
theorem genI_some {op : BinOp} {k : IntKind} {m q : Int} {F : Prop} {K : AVal → Prop} {av : AVal} (h : intBin op k m q = some av) (hk : K av) : genI op k m q F K := by
  unfold genI
  rw [h]
  exact hk
theorem byteAt_D (w : List UInt8) (k : Nat) : (w.getD k 0).toNat = byteAt w k := rfl
set_option maxRecDepth 20000
set_option maxHeartbeats 4000000
set_option linter.unusedSimpArgs false
set_option linter.unusedVariables false
attribute [local irreducible] AWp AOps byteAt SrcOK OrOk GloAll FnSpec
theorem rv_shlC {P : Program} [Tab P] {C : Ctx} {H : Heap} {env : Env} {x y : Operand} {tx ty : TypeId} {k j : IntKind} {m : Int} (s : Nat) (v : Int) (hv : k.wrap (m * 2 ^ s) = v) (hx : evalA env x = some (.int k m)) (hy : evalA env y = some (.int j (s : Int))) (hs : Nat.ble s k.bits = true) : RunV P C H env (.binOp .shl tx x y ty) (.int k v) := by
  subst hv
  intro R ρ w hm hf dst t p af g
  refine ⟨_, ?_, rel_int.2 rfl⟩
  have hs := Nat.le_of_ble_eq_true hs
  simp only [execOp, rel_int.1 (hf _ _ hx), rel_int.1 (hf _ _ hy), Go.binOp, eqGuard, Op.shift]
  rw [if_neg (show ¬ ((s : Int) < 0) by omega)]
  simp only [Int.toNat_natCast, Nat.min_eq_left hs]
  rfl
theorem low_hx {G : Glo} (c : Nat) (h : 65 ≤ c ∧ c ≤ 70 ∨ 97 ≤ c ∧ c ≤ 102) : FnIs Tryz.prog G 77 [.int .u8 (c : Nat)] (.int .u8 (lowN c : Nat)) := by
  rcases (show c = 65 ∨ c = 66 ∨ c = 67 ∨ c = 68 ∨ c = 69 ∨ c = 70 ∨ c = 97 ∨ c = 98 ∨ c = 99 ∨ c = 100 ∨ c = 101 ∨ c = 102 by omega) with rfl | rfl | rfl | rfl | rfl | rfl | rfl | rfl | rfl | rfl | rfl | rfl
  all_goals
    have hGL : GloAll G [] := gloAll_nil
    refine fn_x Tryz.func77 Tryz.call77 rfl rfl rfl rfl hGL ?_
    intro C hC
    refine xw1 ?_
    refine .inr (genI_some (by rfl) ?_)
    exact rt_is rfl
theorem parse_uint {G : Glo} (w : List UInt8) (h : Hex4 w) : FnIs Tryz.prog G 72 [.str w, .int .i64 16, .int .i64 32] (.tuple [.int .u64 (hxV w 4 : Nat), .raw .nilIface]) := by
  have hl := h.1
  have hL := fun c h => low_hx (G := G) c h
  have hV := hxV_lt h
  have hGL : GloAll G [] := gloAll_nil
  refine fn_x Tryz.func72 Tryz.call72 rfl rfl rfl rfl hGL ?_
  intro C hC
  refine xw1 ?_
  intros
  refine op1_run hC hGL (rv_shlC (m := 1) 32 4294967296 (by decide) rfl rfl rfl) rfl rfl ?_
  refine xw1 ?_
  intro bl cap hcap
  refine lp hC hGL (fun k : Nat => [(1, .int .i64 16), (8, .bool (eqB 16 0)), (9, .str w), (10, .int .u64 1152921504606846976), (11, .int .u64 4294967295), (12, .bool false), (13, .int .u64 (hxV w k : Nat)), (99, .own 0 (.slice (some ⟨bl, 0, none⟩) w.length cap)), (100, .int .i64 (w.length : Nat)), (101, .int .i64 (k : Nat))]) (fun _ => [.buf bl w cap]) (fun k => k ≤ 4) (fun k => 4 - k) 0 (by decide) env_w rfl ?_
  rintro k hk
  have hbA := byteAt_D w k
  by_cases h4 : k = 4
  · subst h4
    exact xw0
  have hx : isHx (byteAt w k) := h.2 k (by omega)
  have hv := hV k (by omega)
  have hp : 16 ^ k ≤ 4096 := Nat.pow_le_pow_right (by decide) (by omega : k ≤ 3)
  have hn : hxV w (k + 1) = hxV w k * 16 + hxN (byteAt w k) := rfl
  unfold isHx at hx
  unfold hxN at hn
  rcases hx with h1 | h1 | h1
  · rw [if_pos h1.2] at hn
    refine xw1 ?_
    intros
    have e : ((hxV w k : Nat) : Int) * 16 + (((byteAt w k : Nat) : Int) - 48) = (hxV w (k + 1) : Nat) := by omega
    rw [e]
    exact nxs (k + 1) (by omega) (by omega) env_w sub_w
  · rw [if_neg (by omega), if_neg (by omega)] at hn
    have hq := hL (byteAt w k) (by omega)
    rw [show lowN (byteAt w k) = byteAt w k from if_neg (by omega)] at hq
    repeat' (first | (conv => whnf); first | refine .w ?_ | refine .v ?_ | refine sc_c ?_ ?_ <;> (intro hb; try exact dd hb) | apply sc_not | apply sc_or | (apply sc_i <;> intro hb) | (apply bx_i; intro hbd) | (apply cx_is; first | exact hq) | (apply cx_do (i := 0) rfl; first | exact hq) | (apply ab_i; intro bl) | (apply as_i; intro va vk vc hva) | (apply av_i; intro v) | (apply ac_i; intro bl cap hcap) | apply bo_l | (apply nx_i <;> intro hnx) | apply dw_q mixed hC hGL (by kernel_rfl) | (apply cq; assumption; (first | exact hq); exact rfl) | (show Rt _ _ _; exact rt_w) | fail)
    all_goals try conv => whnf
    intros
    have e : ((hxV w k : Nat) : Int) * 16 + (((byteAt w k : Nat) : Int) - 97 + 10) = (hxV w (k + 1) : Nat) := by omega
    rw [e]
    exact nxs (k + 1) (by omega) (by omega) env_w sub_w
  · rw [if_neg (by omega), if_pos (by omega)] at hn
    have hq := hL (byteAt w k) (by omega)
    rw [show lowN (byteAt w k) = byteAt w k + 32 from if_pos (by omega)] at hq
    repeat' (first | (conv => whnf); first | refine .w ?_ | refine .v ?_ | refine sc_c ?_ ?_ <;> (intro hb; try exact dd hb) | apply sc_not | apply sc_or | (apply sc_i <;> intro hb) | (apply bx_i; intro hbd) | (apply cx_is; first | exact hq) | (apply cx_do (i := 0) rfl; first | exact hq) | (apply ab_i; intro bl) | (apply as_i; intro va vk vc hva) | (apply av_i; intro v) | (apply ac_i; intro bl cap hcap) | apply bo_l | (apply nx_i <;> intro hnx) | apply dw_q mixed hC hGL (by kernel_rfl) | (apply cq; assumption; (first | exact hq); exact rfl) | (show Rt _ _ _; exact rt_w) | fail)
    all_goals try conv => whnf
    intros
    have e : ((hxV w k : Nat) : Int) * 16 + ((((byteAt w k + 32 : Nat)) : Int) - 97 + 10) = (hxV w (k + 1) : Nat) := by omega
    rw [e]
    exact nxs (k + 1) (by omega) (by omega) env_w sub_w
theorem parse_in {G : Glo} (w : List UInt8) (h : Hex4 w) : FnIs Tryz.prog G 66 [.str w, .int .i64 16, .int .i64 32] (.tuple [.int .i64 (hxV w 4 : Nat), .raw .nilIface]) := by
  have hl := h.1
  have hL := parse_uint (G := G) w h
  have hV := hxV_lt h 4 (by omega)
  have hx : isHx (byteAt w 0) := h.2 0 (by omega)
  have n1 : (byteAt w 0 : Int) ≠ 43 ∧ (byteAt w 0 : Int) ≠ 45 := by unfold isHx at hx; omega
  have hGL : GloAll G [] := gloAll_nil
  refine fn_x Tryz.func66 Tryz.call66 rfl rfl rfl rfl hGL ?_
  intro C hC
  refine xw1 ?_
  intros
  refine op1_run hC hGL (rv_shlC (m := 1) 31 2147483648 (by decide) rfl rfl rfl) rfl rfl ?_
  exact xw0
theorem parse_hex {G : Glo} (w : List UInt8) (h : Hex4 w) : FnIs Tryz.prog G 53 [.str w, .int .i64 16, .int .i64 32] (.tuple [.int .i64 (hxV w 4 : Nat), .raw .nilIface]) := by
  have hL := parse_in (G := G) w h
  have hGL : GloAll G [] := gloAll_nil
  refine fn_x Tryz.func53 Tryz.call53 rfl rfl rfl rfl hGL ?_
  intro C hC
  exact xw0
theorem ref_code {G : Glo} (s : List UInt8) (a : Nat) (hl : s.length ≤ 1000000) (ha : a ≤ s.length) : FnSpec Tryz.prog G 40 [.str s, .int .i64 (a : Nat)] [] (RjQ (cdK s 4 a 0) fun m _ => .int .i64 (m : Nat)) := by
  have hX := fun l c h0 h1 => strings_IndexByte (G := G) l c h0 h1
  have hT := fun p => ref_lacks (G := G) s p (by omega)
  have hGL : GloAll G [] := gloAll_nil
  refine fn_x Tryz.func40 Tryz.call40 rfl rfl rfl rfl hGL ?_
  intro C hC
  refine xw1 ?_
  refine lp hC hGL (fun k : Nat => [(0, .str s), (1, .int .i64 (a : Nat)), (5, .int .i64 ((a + k : Nat)))]) (fun _ => []) (fun k => k ≤ 4 ∧ GoodH s a k) (fun k => 4 - k) 0 ⟨by decide, fun i h => absurd h (Nat.not_lt_zero _)⟩ env_w rfl ?_
  rintro k ⟨hk, hG⟩
  by_cases h4 : k = 4
  · subst h4
    have h3 := (hG 3 (by omega)).1
    have hP := parse_hex (G := G) _ (cut_hex hG)
    have e := cdK_good 4 0 hG
    rw [cut_val 4 (by omega), show (s.drop a).take 4 = (s.take (a + 4)).drop a by rw [List.drop_take, Nat.add_sub_cancel_left]] at hP
    repeat' (first | (conv => whnf); first | refine .w ?_ | refine .v ?_ | refine sc_c ?_ ?_ <;> (intro hb; try exact dd hb) | apply sc_not | apply sc_or | (apply sc_i <;> intro hb) | (apply bx_i; intro hbd) | (apply cx_is; first | exact hP) | (apply cx_do (i := 0) rfl; first | exact hP) | (apply ab_i; intro bl) | (apply as_i; intro va vk vc hva) | (apply av_i; intro v) | (apply ac_i; intro bl cap hcap) | apply bo_l | (apply nx_i <;> intro hnx) | apply dw_q mixed hC hGL (by kernel_rfl) | (apply cq; assumption; (first | exact hP); exact rfl) | (show Rt _ _ _; exact rt_w) | fail)
    all_goals try conv => whnf
    exact rj_ok e rfl
  by_cases hi : a + k < s.length
  · have hb := byteAt_lt s (a + k)
    have hh : 0 ≤ idxB [48, 49, 50, 51, 52, 53, 54, 55, 56, 57, 97, 98, 99, 100, 101, 102, 65, 66, 67, 68, 69, 70] (byteAt s (a + k) : Int) ↔ isHx (byteAt s (a + k)) := hexT_has hb
    by_cases hx : isHx (byteAt s (a + k))
    · have hq := hh.2 hx
      repeat' (first | (conv => whnf); first | refine .w ?_ | refine .v ?_ | refine sc_c ?_ ?_ <;> (intro hb; try exact dd hb) | apply sc_not | apply sc_or | (apply sc_i <;> intro hb) | (apply bx_i; intro hbd) | (apply cx_is; first | exact hX _ _ (by omega) (by omega)) | (apply cx_do (i := 0) rfl; first | exact hX _ _ (by omega) (by omega)) | (apply ab_i; intro bl) | (apply as_i; intro va vk vc hva) | (apply av_i; intro v) | (apply ac_i; intro bl cap hcap) | apply bo_l | (apply nx_i <;> intro hnx) | apply dw_q mixed hC hGL (by kernel_rfl) | (apply cq; assumption; (first | exact hX _ _ (by omega) (by omega)); exact rfl) | (show Rt _ _ _; exact rt_w) | fail)
      all_goals try conv => whnf
      · intros
        exact nxs (k + 1) ⟨by omega, fun i h => (show i < k ∨ i = k by omega).elim (hG i) fun h => h ▸ ⟨hi, hx⟩⟩ (by omega) env_w sub_w
    · have hq := fun h => hx (hh.1 h)
      have e := cdK_fail (by omega) hG (.inr hx)
      repeat' (first | (conv => whnf); first | refine .w ?_ | refine .v ?_ | refine sc_c ?_ ?_ <;> (intro hb; try exact dd hb) | apply sc_not | apply sc_or | (apply sc_i <;> intro hb) | (apply bx_i; intro hbd) | (apply cx_is; first | exact hX _ _ (by omega) (by omega)) | (apply cx_do (i := 0) rfl; first | exact hX _ _ (by omega) (by omega)) | (apply ab_i; intro bl) | (apply as_i; intro va vk vc hva) | (apply av_i; intro v) | (apply ac_i; intro bl cap hcap) | apply bo_l | (apply nx_i <;> intro hnx) | apply dw_q mixed hC hGL (by kernel_rfl) | (apply cq; assumption; (first | exact hX _ _ (by omega) (by omega)); exact rfl) | (show Rt _ _ _; exact rt_w) | fail)
      all_goals try conv => whnf
      · exact cx_panic (hT _) (rj_bad e rfl)
  · have e := cdK_fail (by omega) hG (.inl (by omega))
    repeat' (first | (conv => whnf); first | refine .w ?_ | refine .v ?_ | refine sc_c ?_ ?_ <;> (intro hb; try exact dd hb) | apply sc_not | apply sc_or | (apply sc_i <;> intro hb) | (apply bx_i; intro hbd) | (apply cx_is; first | exact hX _ _ (by omega) (by omega)) | (apply cx_do (i := 0) rfl; first | exact hX _ _ (by omega) (by omega)) | (apply ab_i; intro bl) | (apply as_i; intro va vk vc hva) | (apply av_i; intro v) | (apply ac_i; intro bl cap hcap) | apply bo_l | (apply nx_i <;> intro hnx) | apply dw_q mixed hC hGL (by kernel_rfl) | (apply cq; assumption; (first | exact hX _ _ (by omega) (by omega)); exact rfl) | (show Rt _ _ _; exact rt_w) | fail)
    all_goals try conv => whnf
    exact cx_panic (hT _) (rj_bad e rfl)
end Go.Proofs.YtmgkpbgfkjedeaaGreatDoor
namespace Go.Proofs.YtmgkpbgfkjedeaaGreatDoor
open Go Go.RowKit
set_option maxRecDepth 20000
set_option maxHeartbeats 4000000
set_option linter.unusedSimpArgs false
set_option linter.unusedVariables false
attribute [local irreducible] AWp AOps byteAt SrcOK OrOk GloAll FnSpec
theorem has_prefix {G : Glo} (s p : List UInt8) : FnIs Tryz.prog G 24 [.str s, .str p] (.bool (p.isPrefixOf s)) := by
  refine fnis_of_calls rfl Tryz.call24 ?_
  rintro R args ⟨x, t, e, hx, y, t', e', hy, rfl⟩ w hG hs
  obtain rfl := rel_str.1 hx
  obtain rfl := rel_str.1 hy
  subst e'
  obtain rfl := arr_of e
  refine (Tryz.strings_HasPrefix ⟨s.toArray⟩ ⟨p.toArray⟩ w).mono ?_
  rintro e w' ⟨rfl, rfl⟩
  exact ⟨by simp [Lib.hasPrefix, AVal.conc], Below.refl _ _⟩
end Go.Proofs.YtmgkpbgfkjedeaaGreatDoor
namespace Go.Proofs.YtmgkpbgfkjedeaaGreatDoor
open Go
theorem byteAt_getElem {s : List UInt8} {j : Nat} (h : j < s.length) : byteAt s j = s[j].toNat := by
  simp [byteAt, List.getD, h]
set_option maxRecDepth 20000
set_option maxHeartbeats 4000000
set_option linter.unusedSimpArgs false
set_option linter.unusedVariables false
attribute [local irreducible] AWp AOps byteAt SrcOK OrOk GloAll FnSpec
theorem ref_Bare {G : Glo} (e : Int) : FnIs Tryz.prog G 8 [.int .i64 e] (.agg [.int .i64 e, .int .i64 (-1)]) := by
  have hGL : GloAll G [] := gloAll_nil
  refine fn_x Tryz.func8 Tryz.call8 rfl rfl rfl rfl hGL ?_
  intro C hC
  repeat' (first | (conv => whnf); first | refine .w ?_ | refine .v ?_ | refine sc_c ?_ ?_ <;> (intro hb; try exact dd hb) | apply sc_not | apply sc_or | (apply sc_i <;> intro hb) | (apply bx_i; intro hbd) | (apply cx_is; first | fail) | (apply cx_do (i := 0) rfl; first | fail) | (apply ab_i; intro bl) | (apply as_i; intro va vk vc hva) | (apply av_i; intro v) | (apply ac_i; intro bl cap hcap) | apply bo_l | (apply nx_i <;> intro hnx) | apply dw_q mixed hC hGL (by kernel_rfl) | (apply cq; assumption; (first | fail); exact rfl) | (show Rt _ _ _; exact rt_w) | fail)
  all_goals try conv => whnf
theorem placed_ok {G : Glo} (hU2 : GloAll G errTy) (x : Err) : FnIs Tryz.prog G 6 [x.A, .agg [.int .i64 x.e, .int .i64 x.p]] (.bool true) := by
  have := law_placed hU2 x x.e x.p
  rwa [eqB_t.2 rfl, eqB_t.2 rfl] at this
end Go.Proofs.YtmgkpbgfkjedeaaGreatDoor
namespace Go.Proofs.YtmgkpbgfkjedeaaGreatDoor
open Go Go.RowKit
theorem esc_has {c : Nat} (h : c < 256) : (idxB [34, 92, 47, 98, 102, 110, 114, 116] (c : Int) < 0 ∧ unB c = 0) ∨ (unB c ≠ 0 ∧ ∃ m : Nat, m < 8 ∧ idxB [34, 92, 47, 98, 102, 110, 114, 116] (c : Int) = (m : Int) ∧ List.drop m (List.take (m + 1) [34, 92, 47, 8, 12, 10, 13, 9]) = [UInt8.ofNat (unB c)]) := by
  have : ∀ c : Nat, c < 256 → (idxB [34, 92, 47, 98, 102, 110, 114, 116] (c : Int) < 0 ∧ unB c = 0) ∨ (unB c ≠ 0 ∧ ∃ m : Nat, m < 8 ∧ idxB [34, 92, 47, 98, 102, 110, 114, 116] (c : Int) = (m : Int) ∧ List.drop m (List.take (m + 1) [34, 92, 47, 8, 12, 10, 13, 9]) = [UInt8.ofNat (unB c)]) := by decide +kernel
  exact this c h
theorem chP_unB {s : List UInt8} {i : Nat} (h1 : i < s.length) (h2 : byteAt s i = 92) (h3 : i + 1 < s.length) (h4 : unB (byteAt s (i + 1)) ≠ 0) : chP s i = .ok [UInt8.ofNat (unB (byteAt s (i + 1)))] (i + 2) := by
  unfold chP
  rw [if_neg (by omega), if_neg (by omega), if_neg (by omega), if_neg (by omega), if_pos h4]
theorem chP_noB {s : List UInt8} {i : Nat} (h1 : i < s.length) (h2 : byteAt s i = 92) (h3 : i + 1 < s.length) (h4 : unB (byteAt s (i + 1)) = 0) (h5 : byteAt s (i + 1) ≠ 117) : chP s i = .bad 3 (i + 1) := by
  unfold chP
  rw [if_neg (by omega), if_neg (by omega), if_neg (by omega), if_neg (by omega), if_neg (by omega), if_pos h5]
theorem chP_uni {s : List UInt8} {i : Nat} (h1 : i < s.length) (h2 : byteAt s i = 92) (h3 : i + 1 < s.length) (h5 : byteAt s (i + 1) = 117) : chP s i = uniP s i := by
  unfold chP
  rw [if_neg (by omega), if_neg (by omega), if_neg (by omega), if_neg (by omega), if_neg (by rw [h5]; decide), if_neg (by omega)]
theorem chP_end {s : List UInt8} {i : Nat} (h1 : i < s.length) (h2 : byteAt s i = 92) (h3 : s.length ≤ i + 1) : chP s i = .bad 7 (i + 1) := by
  unfold chP
  rw [if_neg (by omega), if_neg (by omega), if_neg (by omega), if_pos h3]
theorem chP_low {s : List UInt8} {i : Nat} (h1 : i < s.length) (h2 : byteAt s i < 32) : chP s i = .bad 3 i := by
  unfold chP
  rw [if_neg (by omega), if_pos h2]
theorem chP_one {s : List UInt8} {i : Nat} (h1 : i < s.length) (h2 : 32 ≤ byteAt s i) (h3 : byteAt s i ≠ 92) : chP s i = .ok [UInt8.ofNat (byteAt s i)] (i + 1) := by
  unfold chP
  rw [if_neg (by omega), if_neg (by omega), if_pos h3]
theorem chP_out {s : List UInt8} {i : Nat} (h1 : s.length ≤ i) : chP s i = .bad 7 i := by
  unfold chP
  rw [if_pos h1]
theorem stP_end {s : List UInt8} {k i : Nat} {acc : List UInt8} (h : i < s.length) (h1 : byteAt s i = 34) : stP s (k + 1) i acc = .ok acc (i + 1) := by rw [stP, if_pos ⟨h, h1⟩]
theorem stP_bad {s : List UInt8} {k i : Nat} {acc : List UInt8} {e : Int} {p : Nat} (h : ¬ (i < s.length ∧ byteAt s i = 34)) (h1 : chP s i = .bad e p) : stP s (k + 1) i acc = .bad e p := by rw [stP, if_neg h, h1]
theorem stP_step {s : List UInt8} {k i : Nat} {acc t : List UInt8} {b : Nat} (h : ¬ (i < s.length ∧ byteAt s i = 34)) (h1 : chP s i = .ok t b) : stP s (k + 1) i acc = stP s k b (acc ++ t) := by rw [stP, if_neg h, h1]
theorem one_byte {s : List UInt8} {i : Nat} (h : i < s.length) : (s.take (i + 1)).drop i = [UInt8.ofNat (byteAt s i)] := by
  rw [byteAt_getElem h, List.drop_take, Nat.add_sub_cancel_left, List.drop_eq_getElem_cons h, List.take_succ_cons, List.take_zero, UInt8.ofNat_toNat]
theorem uniQ_bad {s : List UInt8} {i : Nat} {e : Int} {p : Nat} (h : cdK s 4 (i + 2) 0 = .bad e p) : uniQ s i = .bad e p := by unfold uniQ; rw [h]
theorem uniQ_one {s : List UInt8} {i n b : Nat} (h : cdK s 4 (i + 2) 0 = .ok n b) (h1 : ¬ ((55296 ≤ n ∧ n ≤ 56319) ∧ [92, 117].isPrefixOf (s.drop (i + 6)) = true)) : uniQ s i = .ok n (i + 6) := by
  unfold uniQ
  rw [h]
  exact if_neg h1
theorem uniQ_bad2 {s : List UInt8} {i n b : Nat} {e : Int} {p : Nat} (h : cdK s 4 (i + 2) 0 = .ok n b) (h1 : (55296 ≤ n ∧ n ≤ 56319) ∧ [92, 117].isPrefixOf (s.drop (i + 6)) = true) (h2 : cdK s 4 (i + 8) 0 = .bad e p) : uniQ s i = .bad e p := by
  unfold uniQ
  rw [h, h2]
  exact if_pos h1
theorem uniQ_two {s : List UInt8} {i n b m c : Nat} (h : cdK s 4 (i + 2) 0 = .ok n b) (h1 : (55296 ≤ n ∧ n ≤ 56319) ∧ [92, 117].isPrefixOf (s.drop (i + 6)) = true) (h2 : cdK s 4 (i + 8) 0 = .ok m c) (h3 : 56320 ≤ m ∧ m ≤ 57343) : uniQ s i = .ok (65536 + (n - 55296) * 1024 + m - 56320) (i + 12) := by
  unfold uniQ
  rw [h, h2]
  exact (if_pos h1).trans (if_pos h3)
theorem uniQ_low {s : List UInt8} {i n b m c : Nat} (h : cdK s 4 (i + 2) 0 = .ok n b) (h1 : (55296 ≤ n ∧ n ≤ 56319) ∧ [92, 117].isPrefixOf (s.drop (i + 6)) = true) (h2 : cdK s 4 (i + 8) 0 = .ok m c) (h3 : ¬ (56320 ≤ m ∧ m ≤ 57343)) : uniQ s i = .bad 3 i := by
  unfold uniQ
  rw [h, h2]
  exact (if_pos h1).trans (if_neg h3)
theorem uniP_bad {s : List UInt8} {i : Nat} {e : Int} {p : Nat} (h : uniQ s i = .bad e p) : uniP s i = .bad e p := by unfold uniP; rw [h]
theorem uniP_ok {s : List UInt8} {i n b : Nat} (h : uniQ s i = .ok n b) (h1 : mayZ (n : Int) = true) : uniP s i = .ok (encU (n : Int)) b := by
  unfold uniP
  rw [h]
  exact if_pos h1
theorem uniP_no {s : List UInt8} {i n b : Nat} (h : uniQ s i = .ok n b) (h1 : ¬ mayZ (n : Int) = true) : uniP s i = .bad 3 i := by
  unfold uniP
  rw [h]
  exact if_neg h1
set_option maxRecDepth 20000
set_option maxHeartbeats 4000000
set_option linter.unusedSimpArgs false
set_option linter.unusedVariables false
attribute [local irreducible] AWp AOps byteAt SrcOK OrOk GloAll FnSpec
attribute [local irreducible] unB
theorem ref_string {G : Glo} (s : List UInt8) (a : Nat) (hl : s.length ≤ 1000000) (ha : a ≤ s.length) : FnSpec Tryz.prog G 26 [.str s, .int .i64 (a : Nat)] [] (RjQ (txP s a) fun t b => .tuple [.str t, .int .i64 (b : Nat)]) := by
  have hX := fun l c h0 h1 => strings_IndexByte (G := G) l c h0 h1
  have hK := fun p => ref_lacks (G := G) s p (by omega)
  have hT := fun e p => ref_throw (G := G) e p
  have hP := fun r => ref_Point (G := G) r
  have hW := fun m l h => ref_within (G := G) m l h
  have hH := fun s => has_prefix (G := G) s [92, 117]
  by_cases h0 : a < s.length ∧ byteAt s a = 34
  case neg =>
    have e : txP s a = .bad (lkE s a) a := by
      unfold txP lkE
      split
      · rfl
      · rw [if_pos (by omega)]
    have hGL : GloAll G [] := gloAll_nil
    refine fn_x Tryz.func26 Tryz.call26 rfl rfl rfl rfl hGL ?_
    intro C hC
    repeat' (first | (conv => whnf); first | refine .w ?_ | refine .v ?_ | refine sc_c ?_ ?_ <;> (intro hb; try exact dd hb) | apply sc_not | apply sc_or | (apply sc_i <;> intro hb) | (apply bx_i; intro hbd) | (apply cx_is; first | fail) | (apply cx_do (i := 0) rfl; first | fail) | (apply ab_i; intro bl) | (apply as_i; intro va vk vc hva) | (apply av_i; intro v) | (apply ac_i; intro bl cap hcap) | apply bo_l | (apply nx_i <;> intro hnx) | apply dw_q mixed hC hGL (by kernel_rfl) | (apply cq; assumption; (first | fail); exact rfl) | (show Rt _ _ _; exact rt_w) | fail)
    all_goals try conv => whnf
    · exact cx_panic (hK _) (rj_bad e rfl)
    · exact cx_panic (hK _) (rj_bad e rfl)
  have e0 : txP s a = stP s (s.length + 1) (a + 1) [] := by
    unfold txP
    rw [if_neg (by omega), if_neg (by omega)]
  obtain ⟨h0, h00⟩ := h0
  have hGL : GloAll G [] := gloAll_nil
  refine fn_x Tryz.func26 Tryz.call26 rfl rfl rfl rfl hGL ?_
  intro C hC
  refine xw1 ?_
  intros
  refine lp hC hGL (fun x : Nat × List UInt8 × Nat => [(0, .str s), (6, .str x.2.1), (7, .int .i64 (x.1 : Nat))]) (fun _ => []) (fun x => stP s x.2.2 x.1 x.2.1 = txP s a ∧ x.1 ≤ s.length ∧ x.2.1.length ≤ x.1 ∧ s.length + 2 ≤ x.2.2 + x.1) (fun x => s.length - x.1) (a + 1, [], s.length + 1) ⟨e0.symm, by show a + 1 ≤ _; omega, Nat.zero_le _, by show _ ≤ s.length + 1 + (a + 1); omega⟩ env_w rfl ?_
  rintro ⟨i, acc, k⟩ ⟨k1, k2, k3, k4⟩
  simp only at k1 k2 k3 k4
  obtain ⟨k, rfl⟩ : ∃ j, k = j + 1 := ⟨k - 1, by omega⟩
  have hb := byteAt_lt s i
  by_cases c0 : i < s.length
  case neg =>
    have e := (stP_bad (k := k) (acc := acc) (fun h => c0 h.1) (chP_out (by omega))).symm.trans k1
    refine xw1 ?_
    intro _
    exact cx_panic (hT _ _) (rj_bad e.symm rfl)
  by_cases c1 : byteAt s i = 34
  · have e := (stP_end (k := k) (acc := acc) c0 c1).symm.trans k1
    refine xw1 ?_
    intros
    exact rj_ok e.symm rfl
  by_cases c2 : byteAt s i < 32
  · have e := (stP_bad (k := k) (acc := acc) (fun h => c1 h.2) (chP_low c0 c2)).symm.trans k1
    refine xw1 ?_
    intros
    exact cx_panic (hT _ _) (rj_bad e.symm rfl)
  by_cases c3 : byteAt s i = 92
  case neg =>
    have e := (stP_step (k := k) (acc := acc) (fun h => c1 h.2) (chP_one c0 (by omega) c3)).symm.trans k1
    refine xw1 ?_
    intros
    rw [one_byte c0]
    refine nxs (i + 1, acc ++ [UInt8.ofNat (byteAt s i)], k) ⟨e, c0, ?_, ?_⟩ ?_ env_w sub_w
    all_goals (simp only [List.length_append, List.length_cons, List.length_nil]; omega)
  by_cases c4 : i + 1 < s.length
  case neg =>
    have e := (stP_bad (k := k) (acc := acc) (fun h => c1 h.2) (chP_end c0 c3 (by omega))).symm.trans k1
    refine xw1 ?_
    intros
    exact cx_panic (hT _ _) (rj_bad e.symm rfl)
  have hb1 := byteAt_lt s (i + 1)
  rcases esc_has hb1 with ⟨c5, c6⟩ | ⟨c6, m, hm, em, e1⟩
  case inr =>
    have e := (stP_step (k := k) (acc := acc) (fun h => c1 h.2) (chP_unB c0 c3 c4 c6)).symm.trans k1
    have hq := hX [34, 92, 47, 98, 102, 110, 114, 116] (byteAt s (i + 1)) (by omega) (by omega)
    rw [em] at hq
    repeat' (first | (conv => whnf); first | refine .w ?_ | refine .v ?_ | refine sc_c ?_ ?_ <;> (intro hb; try exact dd hb) | apply sc_not | apply sc_or | (apply sc_i <;> intro hb) | (apply bx_i; intro hbd) | (apply cx_is; first | exact hq) | (apply cx_do (i := 0) rfl; first | exact hq) | (apply ab_i; intro bl) | (apply as_i; intro va vk vc hva) | (apply av_i; intro v) | (apply ac_i; intro bl cap hcap) | apply bo_l | (apply nx_i <;> intro hnx) | apply dw_q mixed hC hGL (by kernel_rfl) | (apply cq; assumption; (first | exact hq); exact rfl) | (show Rt _ _ _; exact rt_w) | fail)
    all_goals try conv => whnf
    rw [e1]
    refine nxs (i + 2, acc ++ [UInt8.ofNat (unB (byteAt s (i + 1)))], k) ⟨e, c4, ?_, ?_⟩ ?_ env_w sub_w
    all_goals (simp only [List.length_append, List.length_cons, List.length_nil]; omega)
  have hq := hX [34, 92, 47, 98, 102, 110, 114, 116] (byteAt s (i + 1)) (by omega) (by omega)
  by_cases c7 : byteAt s (i + 1) = 117
  case neg =>
    have e := (stP_bad (k := k) (acc := acc) (fun h => c1 h.2) (chP_noB c0 c3 c4 c6 c7)).symm.trans k1
    repeat' (first | (conv => whnf); first | refine .w ?_ | refine .v ?_ | refine sc_c ?_ ?_ <;> (intro hb; try exact dd hb) | apply sc_not | apply sc_or | (apply sc_i <;> intro hb) | (apply bx_i; intro hbd) | (apply cx_is; first | exact hq) | (apply cx_do (i := 0) rfl; first | exact hq) | (apply ab_i; intro bl) | (apply as_i; intro va vk vc hva) | (apply av_i; intro v) | (apply ac_i; intro bl cap hcap) | apply bo_l | (apply nx_i <;> intro hnx) | apply dw_q mixed hC hGL (by kernel_rfl) | (apply cq; assumption; (first | exact hq); exact rfl) | (show Rt _ _ _; exact rt_w) | fail)
    all_goals try conv => whnf
    exact cx_panic (hT _ _) (rj_bad e.symm rfl)
  have eU := chP_uni c0 c3 c4 c7
  have hC1 := ref_code (G := G) s (i + 2) hl c4
  repeat' (first | (conv => whnf); first | refine .w ?_ | refine .v ?_ | refine sc_c ?_ ?_ <;> (intro hb; try exact dd hb) | apply sc_not | apply sc_or | (apply sc_i <;> intro hb) | (apply bx_i; intro hbd) | (apply cx_is; first | exact hq) | (apply cx_do (i := 0) rfl; first | exact hq) | (apply ab_i; intro bl) | (apply as_i; intro va vk vc hva) | (apply av_i; intro v) | (apply ac_i; intro bl cap hcap) | apply bo_l | (apply nx_i <;> intro hnx) | apply dw_q mixed hC hGL (by kernel_rfl) | (apply cq; assumption; (first | exact hq); exact rfl) | (show Rt _ _ _; exact rt_w) | fail)
  all_goals try conv => whnf
  refine cx_rj hC1 (fun n b hc => ?_) (fun e p hc => ?_)
  case refine_2 =>
    have e := (stP_bad (k := k) (acc := acc) (fun h => c1 h.2) (eU.trans (uniP_bad (uniQ_bad hc)))).symm.trans k1
    exact rj_bad e.symm rfl
  obtain ⟨rfl, q2, q3, -⟩ := cdK_ok hc
  have hn : n < 65536 := q3
  have hw1 := hW (n : Int) 55296 56319
  by_cases d1 : 55296 ≤ n ∧ n ≤ 56319
  case neg =>
    have eq := uniQ_one hc (fun h => d1 h.1)
    rw [show (decide ((55296 : Int) ≤ n) && decide ((n : Int) ≤ 56319)) = false by simp; omega] at hw1
    have hp1 := hP (n : Int)
    by_cases d2 : mayZ (n : Int) = true
    · rw [if_pos d2] at hp1
      have e := (stP_step (k := k) (acc := acc) (fun h => c1 h.2) (eU.trans (uniP_ok eq d2))).symm.trans k1
      have := encU_len (n : Int)
      repeat' (first | (conv => whnf); first | refine .w ?_ | refine .v ?_ | refine sc_c ?_ ?_ <;> (intro hb; try exact dd hb) | apply sc_not | apply sc_or | (apply sc_i <;> intro hb) | (apply bx_i; intro hbd) | (apply cx_is; first | exact hw1 | exact hp1) | (apply cx_do (i := 0) rfl; first | exact hw1 | exact hp1) | (apply ab_i; intro bl) | (apply as_i; intro va vk vc hva) | (apply av_i; intro v) | (apply ac_i; intro bl cap hcap) | apply bo_l | (apply nx_i <;> intro hnx) | apply dw_q mixed hC hGL (by kernel_rfl) | (apply cq; assumption; (first | exact hw1 | exact hp1); exact rfl) | (show Rt _ _ _; exact rt_w) | fail)
      all_goals try conv => whnf
      refine nxs (i + 6, acc ++ encU (n : Int), k) ⟨e, by show i + 6 ≤ _; omega, ?_, ?_⟩ ?_ env_w sub_w
      all_goals (simp only [List.length_append, List.length_cons, List.length_nil]; omega)
    · rw [if_neg d2] at hp1
      have e := (stP_bad (k := k) (acc := acc) (fun h => c1 h.2) (eU.trans (uniP_no eq d2))).symm.trans k1
      repeat' (first | (conv => whnf); first | refine .w ?_ | refine .v ?_ | refine sc_c ?_ ?_ <;> (intro hb; try exact dd hb) | apply sc_not | apply sc_or | (apply sc_i <;> intro hb) | (apply bx_i; intro hbd) | (apply cx_is; first | exact hw1 | exact hp1) | (apply cx_do (i := 0) rfl; first | exact hw1 | exact hp1) | (apply ab_i; intro bl) | (apply as_i; intro va vk vc hva) | (apply av_i; intro v) | (apply ac_i; intro bl cap hcap) | apply bo_l | (apply nx_i <;> intro hnx) | apply dw_q mixed hC hGL (by kernel_rfl) | (apply cq; assumption; (first | exact hw1 | exact hp1); exact rfl) | (show Rt _ _ _; exact rt_w) | fail)
      all_goals try conv => whnf
      exact cx_panic (hT _ _) (rj_bad e.symm rfl)
  rw [show (decide ((55296 : Int) ≤ n) && decide ((n : Int) ≤ 56319)) = true by simp; omega] at hw1
  have hh1 := hH (s.drop (i + 6))
  by_cases d3 : [92, 117].isPrefixOf (s.drop (i + 6)) = true
  case neg =>
    have eq := uniQ_one hc (fun h => d3 h.2)
    rw [show [92, 117].isPrefixOf (s.drop (i + 6)) = false from Bool.eq_false_iff.2 d3] at hh1
    have hp1 := hP (n : Int)
    have d2 : ¬ mayZ (n : Int) = true := fun h => by have := mayZ_t.1 h; omega
    rw [if_neg d2] at hp1
    have e := (stP_bad (k := k) (acc := acc) (fun h => c1 h.2) (eU.trans (uniP_no eq d2))).symm.trans k1
    repeat' (first | (conv => whnf); first | refine .w ?_ | refine .v ?_ | refine sc_c ?_ ?_ <;> (intro hb; try exact dd hb) | apply sc_not | apply sc_or | (apply sc_i <;> intro hb) | (apply bx_i; intro hbd) | (apply cx_is; first | exact hw1 | exact hp1 | exact hh1) | (apply cx_do (i := 0) rfl; first | exact hw1 | exact hp1 | exact hh1) | (apply ab_i; intro bl) | (apply as_i; intro va vk vc hva) | (apply av_i; intro v) | (apply ac_i; intro bl cap hcap) | apply bo_l | (apply nx_i <;> intro hnx) | apply dw_q mixed hC hGL (by kernel_rfl) | (apply cq; assumption; (first | exact hw1 | exact hp1 | exact hh1); exact rfl) | (show Rt _ _ _; exact rt_w) | fail)
    all_goals try conv => whnf
    exact cx_panic (hT _ _) (rj_bad e.symm rfl)
  rw [d3] at hh1
  have hl2 := pre_len d3
  rw [List.length_drop] at hl2
  have hl2 : i + 8 ≤ s.length := by simp only [List.length_cons, List.length_nil] at hl2; omega
  have hC2 := ref_code (G := G) s (i + 8) hl hl2
  repeat' (first | (conv => whnf); first | refine .w ?_ | refine .v ?_ | refine sc_c ?_ ?_ <;> (intro hb; try exact dd hb) | apply sc_not | apply sc_or | (apply sc_i <;> intro hb) | (apply bx_i; intro hbd) | (apply cx_is; first | exact hw1 | exact hh1) | (apply cx_do (i := 0) rfl; first | exact hw1 | exact hh1) | (apply ab_i; intro bl) | (apply as_i; intro va vk vc hva) | (apply av_i; intro v) | (apply ac_i; intro bl cap hcap) | apply bo_l | (apply nx_i <;> intro hnx) | apply dw_q mixed hC hGL (by kernel_rfl) | (apply cq; assumption; (first | exact hw1 | exact hh1); exact rfl) | (show Rt _ _ _; exact rt_w) | fail)
  all_goals try conv => whnf
  refine cx_rj hC2 (fun m c hm => ?_) (fun e p hm => ?_)
  case refine_2 =>
    have e := (stP_bad (k := k) (acc := acc) (fun h => c1 h.2) (eU.trans (uniP_bad (uniQ_bad2 hc ⟨d1, d3⟩ hm)))).symm.trans k1
    exact rj_bad e.symm rfl
  obtain ⟨rfl, r2, r3, -⟩ := cdK_ok hm
  have hn2 : m < 65536 := r3
  have hw2 := hW (m : Int) 56320 57343
  by_cases d4 : 56320 ≤ m ∧ m ≤ 57343
  case neg =>
    rw [show (decide ((56320 : Int) ≤ m) && decide ((m : Int) ≤ 57343)) = false by simp; omega] at hw2
    have e := (stP_bad (k := k) (acc := acc) (fun h => c1 h.2) (eU.trans (uniP_bad (uniQ_low hc ⟨d1, d3⟩ hm d4)))).symm.trans k1
    repeat' (first | (conv => whnf); first | refine .w ?_ | refine .v ?_ | refine sc_c ?_ ?_ <;> (intro hb; try exact dd hb) | apply sc_not | apply sc_or | (apply sc_i <;> intro hb) | (apply bx_i; intro hbd) | (apply cx_is; first | exact hw2) | (apply cx_do (i := 0) rfl; first | exact hw2) | (apply ab_i; intro bl) | (apply as_i; intro va vk vc hva) | (apply av_i; intro v) | (apply ac_i; intro bl cap hcap) | apply bo_l | (apply nx_i <;> intro hnx) | apply dw_q mixed hC hGL (by kernel_rfl) | (apply cq; assumption; (first | exact hw2); exact rfl) | (show Rt _ _ _; exact rt_w) | fail)
    all_goals try conv => whnf
    exact cx_panic (hT _ _) (rj_bad e.symm rfl)
  rw [show (decide ((56320 : Int) ≤ m) && decide ((m : Int) ≤ 57343)) = true by simp; omega] at hw2
  have d5 : mayZ ((65536 + (n - 55296) * 1024 + m - 56320 : Nat) : Int) = true := mayZ_t.2 (by omega)
  have hp2 := hP (65536 + ((n : Int) - 55296) * 1024 + (m : Int) - 56320)
  rw [show 65536 + ((n : Int) - 55296) * 1024 + (m : Int) - 56320 = ((65536 + (n - 55296) * 1024 + m - 56320 : Nat) : Int) by omega, if_pos d5, ← show 65536 + ((n : Int) - 55296) * 1024 + (m : Int) - 56320 = ((65536 + (n - 55296) * 1024 + m - 56320 : Nat) : Int) by omega] at hp2
  have e := (stP_step (k := k) (acc := acc) (fun h => c1 h.2) (eU.trans (uniP_ok (uniQ_two hc ⟨d1, d3⟩ hm d4) d5))).symm.trans k1
  have hl3 := encU_len ((65536 + (n - 55296) * 1024 + m - 56320 : Nat) : Int)
  rw [← show 65536 + ((n : Int) - 55296) * 1024 + (m : Int) - 56320 = ((65536 + (n - 55296) * 1024 + m - 56320 : Nat) : Int) by omega] at e hl3
  repeat' (first | (conv => whnf); first | refine .w ?_ | refine .v ?_ | refine sc_c ?_ ?_ <;> (intro hb; try exact dd hb) | apply sc_not | apply sc_or | (apply sc_i <;> intro hb) | (apply bx_i; intro hbd) | (apply cx_is; first | exact hw2 | exact hp2) | (apply cx_do (i := 0) rfl; first | exact hw2 | exact hp2) | (apply ab_i; intro bl) | (apply as_i; intro va vk vc hva) | (apply av_i; intro v) | (apply ac_i; intro bl cap hcap) | apply bo_l | (apply nx_i <;> intro hnx) | apply dw_q mixed hC hGL (by kernel_rfl) | (apply cq; assumption; (first | exact hw2 | exact hp2); exact rfl) | (show Rt _ _ _; exact rt_w) | fail)
  all_goals try conv => whnf
  refine nxs (i + 12, acc ++ encU (65536 + ((n : Int) - 55296) * 1024 + (m : Int) - 56320), k) ⟨e, by show i + 12 ≤ _; omega, ?_, ?_⟩ ?_ env_w sub_w
  all_goals (simp only [List.length_append, List.length_cons, List.length_nil]; omega)
end Go.Proofs.YtmgkpbgfkjedeaaGreatDoor
namespace Go.Proofs.YtmgkpbgfkjedeaaGreatDoor
open Go Go.RowKit
abbrev jP (b : Nat) : Value := .pointer (some ⟨b, 0, none⟩)
abbrev jrC (b : Nat) (s : List UInt8) (a : Nat) : HEnt := .cells b (some 56) [.str s, .int .i64 (a : Nat)]
abbrev fauA (e p : Int) : AVal := .iface 52 (.agg [.int .i64 e, .int .i64 p])
/-- What a method of the reader answers, which stands behind what it has read then. -/
def RwQ {α : Type} (b : Nat) (s : List UInt8) (x : Rj α) (A : α → AVal) (r : ARes) (H : Heap) : Prop :=
  match x with
  | .ok t e => r = .ret (A t) ∧ H = [jrC b s e]
  | .bad e p => r = .panic (fauA e (p : Nat)) ∧ ∃ y, H = [jrC b s y]
theorem rw_ok {α : Type} {b : Nat} {s : List UInt8} {x : Rj α} {A : α → AVal} {t : α} {e : Nat} {v : AVal} {H : Heap} (h : x = .ok t e) (h1 : v = A t) (h2 : [jrC b s e].Sublist H) : Rt (RwQ b s x A) v H := ⟨_, h2, by subst h h1; exact ⟨rfl, rfl⟩⟩
theorem rw_bad {α : Type} {b : Nat} {s : List UInt8} {x : Rj α} {A : α → AVal} {e : Int} {p y : Nat} {v : AVal} {H : Heap} (h : x = .bad e p) (h1 : v = fauA e (p : Nat)) (h2 : [jrC b s y].Sublist H) : Pn (RwQ b s x A) v H := ⟨_, h2, by subst h h1; exact ⟨rfl, y, rfl⟩⟩
theorem cx_rw {α : Type} (i : Nat) {P : Program} [Tab P] {G : Glo} {f : FuncId} {avs : List AVal} {H : Heap} {K Kp : AVal → Heap → Prop} {b a : Nat} {s : List UInt8} {x : Rj α} {A : α → AVal} (hs : FnSpec P G f avs [jrC b s a] (RwQ b s x A)) (hi : H[i]? = some (jrC b s a))
    (k1 : ∀ t e, x = .ok t e → forceH (H.set i (jrC b s e)) (K (A t))) (k2 : ∀ e p y, x = .bad e p → Kp (fauA e (p : Nat)) (H.set i (jrC b s y))) : Cx P G f avs H K Kp := by
  have hp := perm_front hi
  cases x with
  | ok t e =>
    have k1 := k1 t e rfl
    exact cx_do hi (hs.mono fun r H h => h) k1
  | bad e p =>
    have k2 := fun y => k2 e p y rfl
    refine ⟨fun r H' => r = .panic (fauA e (p : Nat)) ∧ ∃ y, H' = H.set i (jrC b s y), fn_heap (fn_perm (H1 := [jrC b s a] ++ H.eraseIdx i) (by simpa using hp.symm) (fn_frame (H.eraseIdx i) hs)) ?_, ?_, ?_⟩
    · rintro r H' ⟨H1', ⟨rfl, y, rfl⟩, rfl⟩
      exact ⟨_, set_perm _ hi, rfl, y, rfl⟩
    · rintro v' H' ⟨e, -⟩; cases e
    · rintro v' H' ⟨e, y, rfl⟩; cases e; exact k2 y
theorem bl_idx {c : Nat} (h : c < 256) : 0 ≤ idxB [32, 9, 13, 10] (c : Int) ↔ blB c := by
  have : ∀ c : Nat, c < 256 → decide (0 ≤ idxB [32, 9, 13, 10] (c : Int)) = decide (blB c) := by decide +kernel
  have := this c h
  rwa [decide_eq_decide] at this
/-- A sign that is to come. -/
def wnR (s : List UInt8) (a c : Nat) : Rj Unit := match wnP s a c with | none => .ok () (a + 1) | some (e, p) => .bad e p
set_option maxRecDepth 20000
set_option maxHeartbeats 4000000
set_option linter.unusedSimpArgs false
set_option linter.unusedVariables false
attribute [local irreducible] AWp AOps byteAt SrcOK OrOk GloAll FnSpec
theorem json_throw {G : Glo} (v : Value) (e p : Int) : FnSpec Tryz.prog G 21 [.raw v, .int .i64 e, .int .i64 p] [] (fun r H => r = .panic (fauA e p) ∧ H = []) := by
  have hGL : GloAll G [] := gloAll_nil
  refine fn_x Tryz.func21 Tryz.call21 rfl rfl rfl rfl hGL ?_
  intro C hC
  repeat' (first | (conv => whnf); first | refine .w ?_ | refine .v ?_ | refine sc_c ?_ ?_ <;> (intro hb; try exact dd hb) | apply sc_not | apply sc_or | (apply sc_i <;> intro hb) | (apply bx_i; intro hbd) | (apply cx_is; first | fail) | (apply cx_do (i := 0) rfl; first | fail) | (apply ab_i; intro bl) | (apply as_i; intro va vk vc hva) | (apply av_i; intro v) | (apply ac_i; intro bl cap hcap) | apply bo_l | (apply nx_i <;> intro hnx) | apply dw_q mixed hC hGL (by kernel_rfl) | (apply cq; assumption; (first | fail); exact rfl) | (show Rt _ _ _; exact rt_w) | fail)
  all_goals try conv => whnf
  exact pn_is rfl
theorem json_blank {G : Glo} (b : Nat) (s : List UInt8) (a : Nat) (hl : s.length ≤ 1000000) (ha : a ≤ s.length) : FnSpec Tryz.prog G 20 [.raw (jP b)] [jrC b s a] (fun r H => r = .ret (.tuple []) ∧ H = [jrC b s (skE s a)]) := by
  have hX := fun l c h0 h1 => strings_IndexByte (G := G) l c h0 h1
  have hcl := Tryz.call36
  have hGL : GloAll G [] := gloAll_nil
  refine fn_own [(0, 0, jP b)] Tryz.func20 Tryz.call20 rfl rfl rfl rfl (by repeat (first | exact trivial | refine And.intro ⟨rfl, rfl⟩ ?_)) ?_
  intro C hC
  refine aw_code hC hGL (xw1 ?_)
  refine lp hC hGL (fun _ : Nat => [(0, .own 0 (jP b))]) (fun x => [jrC b s x]) (fun k => k ≤ s.length ∧ skE s k = skE s a) (fun k => s.length - k) a ⟨ha, rfl⟩ env_w rfl ?_
  rintro k ⟨k1, k2⟩
  by_cases h : k < s.length
  · have hb := byteAt_lt s k
    have hh := bl_idx hb
    have hq := hX [32, 9, 13, 10] (byteAt s k) (by omega) (by omega)
    by_cases hbl : blB (byteAt s k)
    · have e := skE_go h hbl
      have h3 := hh.2 hbl
      refine xw1 ?_
      intros
      exact nxs (k + 1) ⟨h, by rw [← e]; exact k2⟩ (by omega) env_w (List.Sublist.refl _)
    · have h3 := fun h => hbl (hh.1 h)
      rw [← k2, skE_no fun h2 => hbl h2.2]
      exact xw0
  · rw [← k2, skE_no fun h2 => h h2.1]
    exact xw0
theorem json_is {G : Glo} (b : Nat) (s : List UInt8) (a c : Nat) (hl : s.length ≤ 1000000) (ha : a ≤ s.length) : FnSpec Tryz.prog G 32 [.raw (jP b), .int .u8 (c : Nat)] [jrC b s a]
    (fun r H => r = .ret (.bool (decide (a < s.length ∧ byteAt s a = c))) ∧ H = [jrC b s (if a < s.length ∧ byteAt s a = c then a + 1 else a)]) := by
  have hGL : GloAll G [] := gloAll_nil
  refine fn_own [(0, 0, jP b)] Tryz.func32 Tryz.call32 rfl rfl rfl rfl (by repeat (first | exact trivial | refine And.intro ⟨rfl, rfl⟩ ?_)) ?_
  intro C hC
  by_cases h : a < s.length ∧ byteAt s a = c
  · rw [decide_eq_true h, if_pos h]
    obtain ⟨h1, h2⟩ := h
    refine aw_code hC hGL (xw ?_)
    repeat' (first | exact Le.n | refine Lc.mk ?_ ?_)
    all_goals intros
    all_goals skip
  · rw [decide_eq_false h, if_neg h]
    by_cases h1 : a < s.length
    · have h2 : byteAt s a ≠ c := fun e => h ⟨h1, e⟩
      refine aw_code hC hGL (xw ?_)
      repeat' (first | exact Le.n | refine Lc.mk ?_ ?_)
      all_goals intros
      all_goals skip
    · refine aw_code hC hGL (xw ?_)
      repeat' (first | exact Le.n | refine Lc.mk ?_ ?_)
      all_goals intros
      all_goals skip
theorem json_lacks {G : Glo} (b : Nat) (s : List UInt8) (a : Nat) (hl : s.length ≤ 1000000) (ha : a ≤ s.length) : FnSpec Tryz.prog G 35 [.raw (jP b)] [jrC b s a] (fun r H => r = .panic (fauA (lkE s a) (a : Nat)) ∧ H = [jrC b s a]) := by
  have hT := fun e p => json_throw (G := G) (jP b) e p
  have hGL : GloAll G [] := gloAll_nil
  refine fn_own [(0, 0, jP b)] Tryz.func35 Tryz.call35 rfl rfl rfl rfl (by repeat (first | exact trivial | refine And.intro ⟨rfl, rfl⟩ ?_)) ?_
  intro C hC
  unfold lkE
  by_cases h : s.length ≤ a
  · rw [if_pos h]
    refine aw_code hC hGL (xw1 ?_)
    intros
    exact cx_panic (hT _ _) (pn_do rfl (List.Sublist.refl _))
  · rw [if_neg h]
    refine aw_code hC hGL (xw1 ?_)
    intros
    exact cx_panic (hT _ _) (pn_do rfl (List.Sublist.refl _))
theorem json_want {G : Glo} (b : Nat) (s : List UInt8) (a c : Nat) (hl : s.length ≤ 1000000) (ha : a ≤ s.length) : FnSpec Tryz.prog G 33 [.raw (jP b), .int .u8 (c : Nat)] [jrC b s a] (RwQ b s (wnR s a c) fun _ => .tuple []) := by
  have hI := json_is (G := G) b s a c hl ha
  have hK := json_lacks (G := G) b s a hl ha
  have hGL : GloAll G [] := gloAll_nil
  refine fn_own [(0, 0, jP b)] Tryz.func33 Tryz.call33 rfl rfl rfl rfl (by repeat (first | exact trivial | refine And.intro ⟨rfl, rfl⟩ ?_)) ?_
  intro C hC
  by_cases h : a < s.length ∧ byteAt s a = c
  · have e : wnR s a c = .ok () (a + 1) := by
      have hw : wnP s a c = none := by unfold wnP; rw [if_neg (by omega), if_neg (by omega)]
      unfold wnR
      rw [hw]
    rw [decide_eq_true h, if_pos h] at hI
    refine aw_code hC hGL (xw1 ?_)
    exact rw_ok e rfl (List.Sublist.refl _)
  · have e : wnR s a c = .bad (lkE s a) a := by
      have hw : wnP s a c = some (lkE s a, a) := by
        unfold wnP lkE
        by_cases h1 : s.length ≤ a
        · rw [if_pos h1, if_pos h1]
        · rw [if_neg h1, if_neg h1, if_pos (by omega)]
      unfold wnR
      rw [hw]
    rw [decide_eq_false h, if_neg h] at hI
    refine aw_code hC hGL (xw1 ?_)
    refine cx_dop (i := 0) rfl hK ?_
    exact rw_bad e rfl (List.Sublist.refl _)
/-- A digit's bytes, small letters alone. -/
theorem hexL_at {c : Nat} (h : c < 256) (h1 : ¬ (65 ≤ c ∧ c ≤ 70)) : (isHx c ∧ idxB [48, 49, 50, 51, 52, 53, 54, 55, 56, 57, 97, 98, 99, 100, 101, 102] (c : Int) = (hxN c : Nat)) ∨ (¬ isHx c ∧ idxB [48, 49, 50, 51, 52, 53, 54, 55, 56, 57, 97, 98, 99, 100, 101, 102] (c : Int) < 0) := by
  have : ∀ c : Nat, c < 256 → ¬ (65 ≤ c ∧ c ≤ 70) → (isHx c ∧ idxB [48, 49, 50, 51, 52, 53, 54, 55, 56, 57, 97, 98, 99, 100, 101, 102] (c : Int) = (hxN c : Nat)) ∨ (¬ isHx c ∧ idxB [48, 49, 50, 51, 52, 53, 54, 55, 56, 57, 97, 98, 99, 100, 101, 102] (c : Int) < 0) := by decide +kernel
  exact this c h h1
theorem json_four {G : Glo} (b : Nat) (s : List UInt8) (a : Nat) (hl : s.length ≤ 1000000) (ha : a ≤ s.length) : FnSpec Tryz.prog G 59 [.raw (jP b)] [jrC b s a] (RwQ b s (cdK s 4 a 0) fun m => .int .i64 (m : Nat)) := by
  have hX := fun l c h0 h1 => strings_IndexByte (G := G) l c h0 h1
  have hT := fun e p => json_throw (G := G) (jP b) e p
  have hGL : GloAll G [] := gloAll_nil
  refine fn_own [(0, 0, jP b)] Tryz.func59 Tryz.call59 rfl rfl rfl rfl (by repeat (first | exact trivial | refine And.intro ⟨rfl, rfl⟩ ?_)) ?_
  intro C hC
  refine aw_code hC hGL (xw1 ?_)
  refine lp hC hGL (fun k : Nat => [(0, .own 0 (jP b)), (3, .int .i64 (hxA s a k : Nat)), (6, .int .i64 (k : Nat))]) (fun k => [jrC b s (a + k)]) (fun k => k ≤ 4 ∧ GoodH s a k) (fun k => 4 - k) 0 ⟨by decide, fun i h => absurd h (Nat.not_lt_zero _)⟩ env_w rfl ?_
  rintro k ⟨hk, hG⟩
  by_cases h4 : k = 4
  · subst h4
    have e := cdK_good 4 0 hG
    have h3 := (hG 3 (by omega)).1
    refine xw1 ?_
    intros
    exact rw_ok e rfl (List.Sublist.refl _)
  have hv : hxA s a k < 4096 := by
    have : ∀ k, k ≤ 3 → GoodH s a k → hxA s a k < 16 ^ k := by
      intro k
      induction k with
      | zero => intro _ _; exact Nat.one_pos
      | succ k ih =>
        intro h1 h2
        have := ih (by omega) fun i hi => h2 i (by omega)
        have := hxN_lt (h2 k (by omega)).2
        rw [hxA, Nat.pow_succ]
        omega
    have h1 := this k (by omega) hG
    have h2 : 16 ^ k ≤ 16 ^ 3 := Nat.pow_le_pow_right (by decide) (by omega)
    omega
  by_cases hi : a + k < s.length
  · have hb := byteAt_lt s (a + k)
    have hgo : isHx (byteAt s (a + k)) → GoodH s a (k + 1) := fun hx i h => (show i < k ∨ i = k by omega).elim (hG i) fun h => h ▸ ⟨hi, hx⟩
    have hs : hxA s a (k + 1) = hxA s a k * 16 + hxN (byteAt s (a + k)) := rfl
    by_cases hA : 65 ≤ byteAt s (a + k) ∧ byteAt s (a + k) ≤ 70
    · have hx : isHx (byteAt s (a + k)) := .inr (.inr hA)
      have hq := hX [48, 49, 50, 51, 52, 53, 54, 55, 56, 57, 97, 98, 99, 100, 101, 102] ((byteAt s (a + k) : Nat) + 32) (by omega) (by omega)
      have hh := (hexL_at (c := byteAt s (a + k) + 32) (by omega) (by omega)).resolve_right fun h => h.1 (.inr (.inl (by omega)))
      have hn : hxN (byteAt s (a + k) + 32) = hxN (byteAt s (a + k)) := by unfold hxN; rw [if_neg (by omega), if_neg (by omega), if_neg (by omega), if_pos (by omega)]; omega
      rw [show ((byteAt s (a + k) : Nat) : Int) + 32 = ((byteAt s (a + k) + 32 : Nat) : Int) by omega, hh.2, hn, ← show ((byteAt s (a + k) : Nat) : Int) + 32 = ((byteAt s (a + k) + 32 : Nat) : Int) by omega] at hq
      have hl16 := hxN_lt hx
      repeat' (first | (conv => whnf); first | refine .w ?_ | refine .v ?_ | refine sc_c ?_ ?_ <;> (intro hb; try exact dd hb) | apply sc_not | apply sc_or | (apply sc_i <;> intro hb) | (apply bx_i; intro hbd) | (apply cx_is; first | exact hq) | (apply cx_do (i := 0) rfl; first | exact hq) | (apply ab_i; intro bl) | (apply as_i; intro va vk vc hva) | (apply av_i; intro v) | (apply ac_i; intro bl cap hcap) | apply bo_l | (apply nx_i <;> intro hnx) | apply dw_q mixed hC hGL (by kernel_rfl) | (apply cq; assumption; (first | exact hq); exact rfl) | (show Rt _ _ _; exact rt_w) | fail)
      all_goals try conv => whnf
      all_goals exact nxs (k + 1) ⟨by omega, hgo hx⟩ (by omega) env_w (List.Sublist.refl _)
    · have hq := hX [48, 49, 50, 51, 52, 53, 54, 55, 56, 57, 97, 98, 99, 100, 101, 102] (byteAt s (a + k)) (by omega) (by omega)
      rcases hexL_at hb hA with ⟨hx, hh⟩ | ⟨hx, hh⟩
      · rw [hh] at hq
        have hl16 := hxN_lt hx
        repeat' (first | (conv => whnf); first | refine .w ?_ | refine .v ?_ | refine sc_c ?_ ?_ <;> (intro hb; try exact dd hb) | apply sc_not | apply sc_or | (apply sc_i <;> intro hb) | (apply bx_i; intro hbd) | (apply cx_is; first | exact hq) | (apply cx_do (i := 0) rfl; first | exact hq) | (apply ab_i; intro bl) | (apply as_i; intro va vk vc hva) | (apply av_i; intro v) | (apply ac_i; intro bl cap hcap) | apply bo_l | (apply nx_i <;> intro hnx) | apply dw_q mixed hC hGL (by kernel_rfl) | (apply cq; assumption; (first | exact hq); exact rfl) | (show Rt _ _ _; exact rt_w) | fail)
        all_goals try conv => whnf
        all_goals exact nxs (k + 1) ⟨by omega, hgo hx⟩ (by omega) env_w (List.Sublist.refl _)
      · have e := cdK_fail (by omega) hG (.inr hx)
        rw [show lkE s (a + k) = 3 from if_neg (by omega)] at e
        repeat' (first | (conv => whnf); first | refine .w ?_ | refine .v ?_ | refine sc_c ?_ ?_ <;> (intro hb; try exact dd hb) | apply sc_not | apply sc_or | (apply sc_i <;> intro hb) | (apply bx_i; intro hbd) | (apply cx_is; first | exact hq) | (apply cx_do (i := 0) rfl; first | exact hq) | (apply ab_i; intro bl) | (apply as_i; intro va vk vc hva) | (apply av_i; intro v) | (apply ac_i; intro bl cap hcap) | apply bo_l | (apply nx_i <;> intro hnx) | apply dw_q mixed hC hGL (by kernel_rfl) | (apply cq; assumption; (first | exact hq); exact rfl) | (show Rt _ _ _; exact rt_w) | fail)
        all_goals try conv => whnf
        all_goals exact cx_panic (hT _ _) (rw_bad e rfl (List.Sublist.refl _))
  · have e := cdK_fail (by omega) hG (.inl (by omega))
    have hle : a + k ≤ s.length := by
      rcases Nat.eq_zero_or_pos k with h | h
      · omega
      · have := (hG (k - 1) (by omega)).1; omega
    rw [show lkE s (a + k) = 7 from if_pos (by omega)] at e
    refine xw1 ?_
    intros
    exact cx_panic (hT _ _) (rw_bad e rfl (List.Sublist.refl _))
end Go.Proofs.YtmgkpbgfkjedeaaGreatDoor
namespace Go.Proofs.YtmgkpbgfkjedeaaGreatDoor
open Go
set_option maxRecDepth 20000
set_option maxHeartbeats 4000000
set_option linter.unusedSimpArgs false
set_option linter.unusedVariables false
attribute [local irreducible] AWp AOps byteAt SrcOK OrOk GloAll FnSpec
/-- A fresh builder, told as one. -/
theorem lp_bldr {P : Program} [Tab P] {C : Ctx} {n : Nat} {env : Env} {H : Heap} {Q : AExit → Env → Heap → Prop} {c : Code} (i : Nat) {b : Nat} (hi : H[i]? = some (.cells b (some 92) [.raw (.pointer none), .raw (.slice none 0 0)]))
    (h : Lp P C n c env (H.set i (bldC b (.pointer none) H.length (.slice none 0 0)) ++ [bldR (.slice none 0 0) []]) Q) : Lp P C n c env H Q := by
  refine ⟨aw_ghost_row (eT := some 5) 1 ?_⟩
  have h := h.h
  unfold AWp at h ⊢
  intro R a w hm hf
  obtain ⟨Cs, e, fz, hb, hl, hr⟩ := hm.heap.holds (.cells b (some 92) [.raw (.pointer none), .raw (.slice none 0 0)]) (List.mem_cons_of_mem _ (List.mem_of_getElem? hi))
  obtain ⟨v1, t1, e1, r1, v2, t2, e2, r2, e3⟩ := hl
  have r2' : RelC R (.own H.length (.slice none 0 0)) [v2] := by
    have : v2 = .slice none 0 0 := by simpa [RelC, Value.cells] using r2
    subst this
    simp [RelC, vAgg]
  have h1 := hm.swap (i := i + 1) (x := .cells b (some 92) [.raw (.pointer none), .raw (.slice none 0 0)]) (y := bldC b (.pointer none) H.length (.slice none 0 0)) (by rw [List.getElem?_cons_succ]; exact hi) rfl
    ⟨Cs, e, fz, hb, ⟨v1, t1, e1, r1, v2, t2, e2, r2', e3⟩, hr⟩
  rw [List.set_cons_succ] at h1
  exact h R a w (h1.perm (List.perm_append_singleton _ _).symm) hf
end Go.Proofs.YtmgkpbgfkjedeaaGreatDoor
namespace Go.Proofs.YtmgkpbgfkjedeaaGreatDoor
open Go Go.RowKit
abbrev shB : List UInt8 := [34, 34, 92, 92, 8, 98, 12, 102, 10, 110, 13, 114, 9, 116]
theorem sh_at {k : Nat} (h : k < 7) : unB (byteAt shB (2 * k + 1)) ≠ 0 ∧ (shB.take (2 * k + 1)).drop (2 * k) = [UInt8.ofNat (unB (byteAt shB (2 * k + 1)))] := by
  have : ∀ k, k < 7 → unB (byteAt shB (2 * k + 1)) ≠ 0 ∧ (shB.take (2 * k + 1)).drop (2 * k) = [UInt8.ofNat (unB (byteAt shB (2 * k + 1)))] := by decide +kernel
  exact this k h
theorem sh_none {c : Nat} (h : ∀ j, j < 7 → byteAt shB (2 * j + 1) ≠ c) (h1 : c ≠ 47) : unB c = 0 := by
  have h0 : (34 : Nat) ≠ c := h 0 (by decide)
  have h2 : (92 : Nat) ≠ c := h 1 (by decide)
  have h3 : (98 : Nat) ≠ c := h 2 (by decide)
  have h4 : (102 : Nat) ≠ c := h 3 (by decide)
  have h5 : (110 : Nat) ≠ c := h 4 (by decide)
  have h6 : (114 : Nat) ≠ c := h 5 (by decide)
  have h7 : (116 : Nat) ≠ c := h 6 (by decide)
  unfold unB
  rw [if_neg (by omega), if_neg (by omega), if_neg (by omega), if_neg (by omega), if_neg (by omega), if_neg (by omega), if_neg (by omega), if_neg (by omega)]
theorem unB_47 : unB 47 = 47 := rfl
set_option maxRecDepth 20000
set_option maxHeartbeats 4000000
set_option linter.unusedSimpArgs false
set_option linter.unusedVariables false
attribute [local irreducible] AWp AOps byteAt SrcOK OrOk GloAll FnSpec
attribute [local irreducible] unB
theorem json_escape {G : Glo} (b : Nat) (s : List UInt8) (i : Nat) (hl : s.length ≤ 1000000) (c0 : i < s.length) (c3 : byteAt s i = 92) : FnSpec Tryz.prog G 48 [.raw (jP b), .int .i64 (i : Nat)] [jrC b s (i + 1)] (RwQ b s (chP s i) fun t => .str t) := by
  have hT := fun e p => json_throw (G := G) (jP b) e p
  have hP := fun r => utf_Point (G := G) r
  have hH := fun s => has_prefix (G := G) s [92, 117]
  have hcl := Tryz.call24
  have hGL : GloAll G [] := gloAll_nil
  refine fn_own [(0, 0, jP b)] Tryz.func48 Tryz.call48 rfl rfl rfl rfl (by repeat (first | exact trivial | refine And.intro ⟨rfl, rfl⟩ ?_)) ?_
  intro C hC
  by_cases c4 : i + 1 < s.length
  case neg =>
    have e := chP_end c0 c3 (by omega)
    refine aw_code hC hGL (xw1 ?_)
    intros
    exact cx_panic (hT _ _) (rw_bad e rfl (List.Sublist.refl _))
  have hb1 := byteAt_lt s (i + 1)
  by_cases c5 : byteAt s (i + 1) = 47
  · have e := chP_unB c0 c3 c4 (by rw [c5, unB_47]; decide)
    rw [c5, unB_47] at e
    refine aw_code hC hGL (xw1 ?_)
    intros
    exact rw_ok e rfl (List.Sublist.refl _)
  by_cases c7 : byteAt s (i + 1) = 117
  case neg =>
    refine aw_code hC hGL (xw1 ?_)
    intros
    refine lp hC hGL (fun k : Nat => [(0, .own 0 (jP b)), (1, .int .i64 (i : Nat)), (5, .int .u8 (byteAt s (i + 1) : Nat)), (6, .int .i64 (2 * k + 1 : Nat))]) (fun _ => [jrC b s (i + 1)]) (fun k => k ≤ 7 ∧ ∀ j, j < k → byteAt shB (2 * j + 1) ≠ byteAt s (i + 1)) (fun k => 7 - k) 0 ⟨by decide, fun j h => absurd h (Nat.not_lt_zero _)⟩ env_w rfl ?_
    rintro k ⟨k1, k2⟩
    by_cases hk : k < 7
    · obtain ⟨u1, u2⟩ := sh_at hk
      by_cases he : byteAt shB (2 * k + 1) = byteAt s (i + 1)
      · rw [he] at u1 u2
        have e := chP_unB c0 c3 c4 u1
        have hq : byteAt [34, 34, 92, 92, 8, 98, 12, 102, 10, 110, 13, 114, 9, 116] (2 * k + 1) = byteAt s (i + 1) := he
        have e9 : List.drop ((((2 * k + 1 : Nat) : Int) - 1).toNat) (List.take (((2 * k + 1 : Nat) : Int)).toNat shB) = [UInt8.ofNat (unB (byteAt s (i + 1)))] := by
          rw [show (((2 * k + 1 : Nat) : Int) - 1).toNat = 2 * k by omega, show (((2 * k + 1 : Nat) : Int)).toNat = 2 * k + 1 by omega]
          exact u2
        refine xw1 ?_
        intros
        exact rw_ok e (congrArg AVal.str e9) (List.Sublist.refl _)
      · have hq : byteAt [34, 34, 92, 92, 8, 98, 12, 102, 10, 110, 13, 114, 9, 116] (2 * k + 1) ≠ byteAt s (i + 1) := he
        refine xw1 ?_
        intros
        refine nxs (k + 1) ⟨hk, fun j hj => ?_⟩ (by omega) env_w (List.Sublist.refl _)
        rcases Nat.lt_or_ge j k with h | h
        · exact k2 j h
        · obtain rfl : j = k := by omega
          exact he
    · obtain rfl : k = 7 := by omega
      have e := chP_noB c0 c3 c4 (sh_none k2 c5) c7
      refine xw1 ?_
      intros
      exact cx_panic (hT _ _) (rw_bad e rfl (List.Sublist.refl _))
  have eU := chP_uni c0 c3 c4 c7
  have hC1 := json_four (G := G) b s (i + 2) hl c4
  refine aw_code hC hGL (xw1 ?_)
  intros
  refine cx_rw 0 hC1 rfl (fun n z hc => ?_) (fun e p y hc => ?_)
  case refine_2 => exact rw_bad (eU.trans (uniP_bad (uniQ_bad hc))) rfl (List.Sublist.refl _)
  obtain ⟨rfl, q2, q3, -⟩ := cdK_ok hc
  have hn : n < 65536 := q3
  by_cases d1 : 55296 ≤ n ∧ n ≤ 56319
  case neg =>
    have eq := uniQ_one hc (fun h => d1 h.1)
    have hp1 := hP (n : Int)
    by_cases d2 : mayZ (n : Int) = true
    · rw [if_pos d2] at hp1
      have e := eU.trans (uniP_ok eq d2)
      by_cases d3 : 55296 ≤ n
      · have d4 : 56320 ≤ n := by omega
        refine xw1 ?_
        intros
        exact rw_ok e rfl (List.Sublist.refl _)
      · refine xw1 ?_
        intros
        exact rw_ok e rfl (List.Sublist.refl _)
    · rw [if_neg d2] at hp1
      have e := eU.trans (uniP_no eq d2)
      by_cases d3 : 55296 ≤ n
      · have d4 : 56320 ≤ n := by omega
        refine xw1 ?_
        intros
        exact cx_panic (hT _ _) (rw_bad e rfl (List.Sublist.refl _))
      · refine xw1 ?_
        intros
        exact cx_panic (hT _ _) (rw_bad e rfl (List.Sublist.refl _))
  have hh1 := hH (s.drop (i + 6))
  by_cases d3 : [92, 117].isPrefixOf (s.drop (i + 6)) = true
  case neg =>
    have eq := uniQ_one hc (fun h => d3 h.2)
    rw [show [92, 117].isPrefixOf (s.drop (i + 6)) = false from Bool.eq_false_iff.2 d3] at hh1
    have hp1 := hP (n : Int)
    have d2 : ¬ mayZ (n : Int) = true := fun h => by have := mayZ_t.1 h; omega
    rw [if_neg d2] at hp1
    have e := eU.trans (uniP_no eq d2)
    refine xw1 ?_
    intros
    exact cx_panic (hT _ _) (rw_bad e rfl (List.Sublist.refl _))
  rw [d3] at hh1
  have hl2 := pre_len d3
  rw [List.length_drop] at hl2
  have hl2 : i + 8 ≤ s.length := by simp only [List.length_cons, List.length_nil] at hl2; omega
  have hC2 := json_four (G := G) b s (i + 8) hl hl2
  refine xw1 ?_
  intros
  refine cx_rw 0 hC2 rfl (fun m z hm => ?_) (fun e p y hm => ?_)
  case refine_2 => exact rw_bad (eU.trans (uniP_bad (uniQ_bad2 hc ⟨d1, d3⟩ hm))) rfl (List.Sublist.refl _)
  obtain ⟨rfl, r2, r3, -⟩ := cdK_ok hm
  have hn2 : m < 65536 := r3
  by_cases d4 : 56320 ≤ m ∧ m ≤ 57343
  case neg =>
    have e := eU.trans (uniP_bad (uniQ_low hc ⟨d1, d3⟩ hm d4))
    by_cases d5 : m < 56320
    · refine xw1 ?_
      intros
      exact cx_panic (hT _ _) (rw_bad e rfl (List.Sublist.refl _))
    · have d6 : 57343 < m := by omega
      refine xw1 ?_
      intros
      exact cx_panic (hT _ _) (rw_bad e rfl (List.Sublist.refl _))
  have d5 : mayZ ((65536 + (n - 55296) * 1024 + m - 56320 : Nat) : Int) = true := mayZ_t.2 (by omega)
  have hp2 := hP (65536 + ((n : Int) - 55296) * 1024 + (m : Int) - 56320)
  rw [show 65536 + ((n : Int) - 55296) * 1024 + (m : Int) - 56320 = ((65536 + (n - 55296) * 1024 + m - 56320 : Nat) : Int) by omega, if_pos d5, ← show 65536 + ((n : Int) - 55296) * 1024 + (m : Int) - 56320 = ((65536 + (n - 55296) * 1024 + m - 56320 : Nat) : Int) by omega] at hp2
  have e := eU.trans (uniP_ok (uniQ_two hc ⟨d1, d3⟩ hm d4) d5)
  rw [← show 65536 + ((n : Int) - 55296) * 1024 + (m : Int) - 56320 = ((65536 + (n - 55296) * 1024 + m - 56320 : Nat) : Int) by omega] at e
  refine xw1 ?_
  intros
  exact rw_ok e rfl (List.Sublist.refl _)
end Go.Proofs.YtmgkpbgfkjedeaaGreatDoor
namespace Go.Proofs.YtmgkpbgfkjedeaaGreatDoor
open Go Go.RowKit
theorem txP_wn {s : List UInt8} {a : Nat} {e : Int} {p : Nat} (h : wnR s a 34 = .bad e p) : txP s a = .bad e p := by
  have hw : ∀ {e p}, wnP s a 34 = some (e, p) → txP s a = .bad e p := by
    intro e p hw
    unfold wnP at hw
    unfold txP
    by_cases h1 : s.length ≤ a
    · rw [if_pos h1] at hw ⊢
      cases hw
      rfl
    · rw [if_neg h1] at hw ⊢
      by_cases h2 : byteAt s a ≠ 34
      · rw [if_pos h2] at hw ⊢
        cases hw
        rfl
      · rw [if_neg h2] at hw
        cases hw
  unfold wnR at h
  split at h
  · cases h
  · rename_i h1
    cases h
    exact hw h1
theorem wn_ok {s : List UInt8} {a c e : Nat} (h : wnR s a c = .ok () e) : e = a + 1 ∧ a < s.length ∧ byteAt s a = c := by
  unfold wnR at h
  split at h
  · rename_i h1
    have := wnP_ok h1
    cases h
    exact ⟨rfl, this.1, this.2⟩
  · cases h
theorem txP_go {s : List UInt8} {a : Nat} (h1 : a < s.length) (h2 : byteAt s a = 34) : txP s a = stP s (s.length + 1) (a + 1) [] := by
  unfold txP
  rw [if_neg (by omega), if_neg (by omega)]
set_option maxRecDepth 20000
set_option maxHeartbeats 4000000
set_option linter.unusedSimpArgs false
set_option linter.unusedVariables false
attribute [local irreducible] AWp AOps byteAt SrcOK OrOk GloAll FnSpec
attribute [local irreducible] unB chP stP
theorem json_text {G : Glo} (b : Nat) (s : List UInt8) (a : Nat) (hl : s.length ≤ 1000000) (ha : a ≤ s.length) : FnSpec Tryz.prog G 31 [.raw (jP b)] [jrC b s a] (RwQ b s (txP s a) fun t => .str t) := by
  have hT := fun e p => json_throw (G := G) (jP b) e p
  have hW := json_want (G := G) b s a 34 hl ha
  have hGL : GloAll G [] := gloAll_nil
  refine fn_own [(0, 0, jP b)] Tryz.func31 Tryz.call31 rfl rfl rfl rfl (by repeat (first | exact trivial | refine And.intro ⟨rfl, rfl⟩ ?_)) ?_
  intro C hC
  refine aw_code hC hGL (xn1 ?_)
  refine cx_rw 0 hW rfl (fun _ z hc => ?_) (fun e p y hc => ?_)
  case refine_2 => exact rw_bad (txP_wn hc) rfl (List.Sublist.refl _)
  obtain ⟨rfl, h0, h1⟩ := wn_ok hc
  have e0 := txP_go h0 h1
  generalize txP s a = T at *
  refine xn1 ?_
  intro b3
  refine lp_bldr 1 rfl ?_
  refine lp hC hGL (fun x : Nat × List UInt8 × Nat × Value × Value => [(0, .own 0 (jP b)), (3, .own 1 (ptrA b3))]) (fun x => [jrC b s x.1, bldC b3 x.2.2.2.1 2 x.2.2.2.2, bldR x.2.2.2.2 x.2.1])
    (fun x => stP s x.2.2.1 x.1 x.2.1 = T ∧ x.1 ≤ s.length ∧ x.2.1.length ≤ x.1 ∧ s.length + 2 ≤ x.2.2.1 + x.1 ∧ AddrOK b3 x.2.2.2.1 ∧ ∃ va vk vc, x.2.2.2.2 = .slice va vk vc) (fun x => s.length - x.1) (a + 1, [], s.length + 1, .pointer none, .slice none 0 0) ⟨e0.symm, h0, Nat.zero_le _, by show _ ≤ s.length + 1 + (a + 1); omega, .inl rfl, none, 0, 0, rfl⟩ env_w rfl ?_
  rintro ⟨i, acc, k, p, _⟩ ⟨k1, k2, k3, k4, k5, ua, uk, uc, rfl⟩
  dsimp only at k1 k2 k3 k4 k5 ⊢
  obtain ⟨k, rfl⟩ : ∃ j, k = j + 1 := ⟨k - 1, by omega⟩
  have hb := byteAt_lt s i
  have hi1 := json_is (G := G) b s i 34 hl k2
  have hi2 := json_is (G := G) b s i 92 hl k2
  by_cases c0 : i < s.length
  case neg =>
    have e := (stP_bad (k := k) (acc := acc) (fun h => c0 h.1) (chP_out (by omega))).symm.trans k1
    refine xw1 ?_
    intros
    exact cx_panic (hT _ _) (rw_bad e.symm rfl (List.Sublist.cons_cons _ (List.nil_sublist _)))
  by_cases c1 : byteAt s i = 34
  · have e := (stP_end (k := k) (acc := acc) c0 c1).symm.trans k1
    rw [decide_eq_true ⟨c0, c1⟩, if_pos ⟨c0, c1⟩] at hi1
    refine xw1 ?_
    intros
    apply cx_ble (i := 1) (j := 2) rfl rfl (by decide) (builder_string acc (by omega))
    refine xn1 ?_
    exact rw_ok e.symm rfl (List.Sublist.cons_cons _ (List.nil_sublist _))
  rw [decide_eq_false (fun h => c1 h.2), if_neg (fun h => c1 h.2)] at hi1
  by_cases c3 : byteAt s i = 92
  · rw [decide_eq_true ⟨c0, c3⟩, if_pos ⟨c0, c3⟩] at hi2
    have hE := json_escape (G := G) b s i hl c0 c3
    refine xw1 ?_
    intros
    refine cx_rw 0 hE rfl (fun t z hc => ?_) (fun e p y hc => ?_)
    · have e := (stP_step (k := k) (acc := acc) (fun h => c1 h.2) hc).symm.trans k1
      have hg := chP_ge hc
      refine xn1 ?_
      apply cx_bld (i := 1) (j := 2) rfl rfl (by decide) (write_string1 k5 (.slice ua uk uc) acc t (by omega))
      intro xa xk xc
      refine xn1 ?_
      refine nxs (z, acc ++ t, k, ptrA b3, .slice xa xk xc) ⟨e, hg.2.1, ?_, ?_, .inr rfl, _, _, _, rfl⟩ ?_ env_w sub_w
      all_goals (simp only [List.length_append]; omega)
    · have e := (stP_bad (k := k) (acc := acc) (fun h => c1 h.2) hc).symm.trans k1
      exact rw_bad e.symm rfl (List.Sublist.cons_cons _ (List.nil_sublist _))
  rw [decide_eq_false (fun h => c3 h.2), if_neg (fun h => c3 h.2)] at hi2
  by_cases c2 : byteAt s i < 32
  · have e := (stP_bad (k := k) (acc := acc) (fun h => c1 h.2) (chP_low c0 c2)).symm.trans k1
    refine xw1 ?_
    intros
    exact cx_panic (hT _ _) (rw_bad e.symm rfl (List.Sublist.cons_cons _ (List.nil_sublist _)))
  have e := (stP_step (k := k) (acc := acc) (fun h => c1 h.2) (chP_one c0 (by omega) c3)).symm.trans k1
  refine xn1 ?_
  apply dw_q mixed hC hGL (by kernel_rfl)
  refine xn1 ?_
  intros
  apply dw_q mixed hC hGL (by kernel_rfl)
  refine xn1 ?_
  intros
  refine dw_p mixed hC hGL false (fun _ : Option Addr × Nat × Nat => [(0, .own 0 (jP b)), (3, .own 1 (ptrA b3))]) (fun y => [jrC b s i, bldC b3 (ptrA b3) 2 (.slice y.1 y.2.1 y.2.2), bldR (.slice y.1 y.2.1 y.2.2) (acc ++ [UInt8.ofNat (byteAt s i)])]) (.take 0 (.take 1 (.take 2 (.take 4 (.take 5 (.take 6 (.br 3 (.br 7 (.take 8 (.br 9 (.done) (.nil))) (.nil)) (.br 7 (.br 3 (.take 8 (.br 9 (.done) (.nil))) (.nil)) (.nil))))))))) (by kernel_rfl) ?_ ?_
  · refine xn ?_
    repeat' (first | exact Le.n | refine Lc.mk ?_ ?_)
    all_goals intros
    all_goals
      apply cx_bld (i := 1) (j := 2) rfl rfl (by decide) (write_byte1 k5 (.slice ua uk uc) acc (byteAt s i : Nat) (by omega) (by omega) (by omega))
      intro xa xk xc
      refine xn1 ?_
      exact ⟨(xa, xk, xc), env_w, rfl⟩
  rintro ⟨xa, xk, xc⟩
  refine xn1 ?_
  refine nxs (i + 1, acc ++ [UInt8.ofNat (byteAt s i)], k, ptrA b3, .slice xa xk xc) ⟨e, c0, ?_, ?_, .inr rfl, _, _, _, rfl⟩ ?_ env_w sub_w
  all_goals (simp only [List.length_append, List.length_cons, List.length_nil]; omega)
end Go.Proofs.YtmgkpbgfkjedeaaGreatDoor
namespace Go.Proofs.YtmgkpbgfkjedeaaGreatDoor
open Go Go.RowKit
set_option linter.unusedSimpArgs false
set_option linter.unusedSectionVars false
set_option linter.unusedVariables false
section
variable {P : Program} [Tab P] {C : Ctx} {n : Nat} {env : Env} {H : Heap} {Q : AExit → Env → Heap → Prop} {ops : Array Oper} {rest : List Oper}
variable {d : Nat} {t : TypeId} {p : String} {af : Array Edge} {g : Option (Nat × Bool)} {b : Bool}
variable {x y z : Operand} {T : TypeId} {xT : TI} {kt et : TypeId} {xk : TI}
theorem ao_mkmapO (hg : guardA ops env g = some (b, b)) (hdn : Nat.ble (d + 1) n = true)
    (h : ∀ bl : Nat, AOps P C n ops rest ((d, .raw (.map (some bl))) :: env) (H ++ [.obj bl (.map #[] 0)]) Q) :
    AOps P C n ops ({ dst := some d, op := .makeMap T none, type := t, pos := p, after := af, guard := g } :: rest) env H Q := by
  refine ao_valX (av := fun bl : Nat => .raw (.map (some bl))) (H' := fun bl => .obj bl (.map #[] 0) :: H) hg rfl hdn (fun R ρ w hm hf => ?_) (fun bl => ao_end (h bl))
  refine ⟨w.heap.size, _, grow w (.map #[] 0), R, ?_, Seal.le_refl R, rel_raw.2 rfl, hm.alloc _ _ rfl (grow_at w _)⟩
  rfl
theorem ao_insO {i bl cl : Nat} {E : Array MapEntry} {k : Int} {s : List UInt8} (hg : guardA ops env g = some (b, b)) (hx : evalA env x = some (.raw (.map (some bl)))) (hy : evalA env y = some (.int .i64 k)) (hz : evalA env z = some (.str s)) (hi : H[i]? = some (.obj bl (.map E cl))) (h1 : tab P T = some xT) (h2 : xT.desc = .map kt et) (h3 : tab P kt = some xk) (h4 : xk.desc = .int .i64)
    (hn : Instr.findNow (.int .i64) (.int .i64 k) E.toList 0 = some none)
    (h : AOps P C n ops rest env (H.set i (.obj bl (.map (E.push { key := .int .i64 k, val := .string ⟨s.toArray⟩, born := cl }) (cl + 1)))) Q) :
    AOps P C n ops ({ dst := none, op := .insert T x y z, type := t, pos := p, after := af, guard := g } :: rest) env H Q := by
  refine ao_skipval hg rfl (fun R ρ w hm hf => ?_) h
  have hb : w.heap[bl]? = some (.map E cl) := hm.heap.holds _ (List.mem_of_getElem? hi)
  have hky := hf _ _ hy
  have ho := setObj_one (o' := .map (E.push { key := .int .i64 k, val := .string ⟨s.toArray⟩, born := cl }) (cl + 1)) hb
  have he : execOp ρ { dst := none, op := .insert T x y z, type := t, pos := p, after := af, guard := g } = execOp ρ { dst := none, op := .mapUpdate T x y z, type := t, pos := p, after := af, guard := g } := rfl
  refine ⟨_, R, ?_, Seal.le_refl R, hm.write hi rfl ho rfl ho.at_⟩
  have h4' : kindK xk.desc (.int .i64 k) = true := by rw [h4]; rfl
  have hck := checkKey_run (P := P) false h3 h4' hky
  rw [rel_int.1 hky] at hck
  rw [he]
  simp only [execOp, rel_raw.1 (hf _ _ hx), Instr.mapUpdate, Sem.run_bind, tab_run_und h1, h2, Result.andThen_ok, run_getObj_at hb (by simp), Sem.run_pure, hck, Instr.findKey, tab_run_und h3, h4, rel_int.1 hky, rel_str.1 (hf _ _ hz), hn, run_setObj_at hb]
theorem ao_rangeO {i bl cl : Nat} {E : Array MapEntry} (hg : guardA ops env g = some (b, b)) (hdn : Nat.ble (d + 1) n = true) (hx : evalA env x = some (.raw (.map (some bl)))) (hi : H[i]? = some (.obj bl (.map E cl))) (h1 : tab P T = some xT) (h2 : xT.desc = .map kt et)
    (h : ∀ bi : Nat, AOps P C n ops rest ((d, .raw (.pointer (some ⟨bi, 0, none⟩))) :: env) (H ++ [.obj bi (.mapIter (some bl) cl #[] cl)]) Q) :
    AOps P C n ops ({ dst := some d, op := .range T x, type := t, pos := p, after := af, guard := g } :: rest) env H Q := by
  refine ao_valX (av := fun bl : Nat => .raw (.pointer (some ⟨bl, 0, none⟩))) (H' := fun bi => .obj bi (.mapIter (some bl) cl #[] cl) :: H) hg rfl hdn (fun R ρ w hm hf => ?_) (fun bi => ao_end (h bi))
  have hb : w.heap[bl]? = some (.map E cl) := hm.heap.holds _ (List.mem_of_getElem? hi)
  refine ⟨w.heap.size, _, grow w (.mapIter (some bl) cl #[] cl), R, ?_, Seal.le_refl R, rel_raw.2 rfl, hm.alloc _ _ rfl (grow_at w _)⟩
  simp only [execOp, rel_raw.1 (hf _ _ hx), Instr.range, Sem.run_bind, tab_run_und h1, h2, Result.andThen_ok, run_getObj_at hb (by simp)]
  rfl
/-- 'next' in an iterator's own block: nothing is left, or one that is left, whichever. -/
theorem run_nextO (w : World) (bi bm since c0 : Nat) (seen : Array Nat) (es : Array MapEntry) (clock : Nat) (hj : w.heap[bi]? = some (.mapIter (some bm) since seen c0)) (hb : w.heap[bm]? = some (.map es clock)) (hold : ∀ x ∈ es.toList, x.born < since) (hsc : since ≤ c0) (ty : TypeId) :
    ((leftOf es seen).size = 0 ∧ (Instr.next (.pointer (some ⟨bi, 0, none⟩)) false ty).run P w = .ok (.tuple #[.bool false]) w) ∨
    ∃ e ∈ (leftOf es seen).toList, ∃ w1 : World, (w1 = w ∨ w1 = w.drew) ∧ (Instr.next (.pointer (some ⟨bi, 0, none⟩)) false ty).run P w = .ok (.tuple #[.bool true, e.key, e.val]) { w1 with heap := w1.heap.setIfInBounds bi (.mapIter (some bm) since (seen.push e.born) clock) } := by
  simp only [Instr.next, Sem.run_bind, run_getObj_at hj (by simp), run_getObj_at hb (by simp), Result.andThen_ok, next_test_false seen es since c0 hold hsc, Bool.false_eq_true, if_false]
  unfold leftOf
  have hmem : ∀ x ∈ (Array.filter (fun e => !seen.contains e.born) es).toList, x.born < since := fun x hx => hold x (by simp at hx ⊢; exact hx.1)
  generalize Array.filter (fun e => !seen.contains e.born) es = L at hmem ⊢
  have e1 : L.filter (fun x => decide (x.born < since)) = L := Array.filter_eq_self.2 (fun x hx => by simpa using hmem x (by simpa using hx))
  have e2 : L.filter (fun x => decide (x.born ≥ since)) = #[] := by
    rw [Array.filter_eq_empty_iff]
    intro x hx
    have := hmem x (by simpa using hx)
    simp
    omega
  simp only [e1, e2, Array.append_empty]
  by_cases h0 : L.size = 0
  · left
    have : L = #[] := Array.eq_empty_of_size_eq_zero h0
    subst this
    refine ⟨rfl, ?_⟩
    simp [choose, Sem.run, Question.forced]
  · right
    have hne : L.isEmpty = false := by simp [Array.isEmpty, h0]
    simp only [hne, Bool.false_eq_true, if_false, Array.empty_append, Array.size_map]
    have hch : ∃ (j : Nat) (w1 : World), j < L.size ∧ (w1 = w ∨ w1 = w.drew) ∧ (choose (Question.mapNext L.size)).run P w = .ok j w1 := by
      by_cases hf : L.size ≤ 1
      · exact ⟨0, w, by omega, .inl rfl, by simp [choose, Sem.run, Question.forced, hf]⟩
      · exact ⟨_, w.drew, Nat.mod_lt _ (by omega), .inr rfl, by
          simp only [choose, Sem.run, Question.forced, decide_eq_true_eq, hf, if_false, Question.cut]
          rfl⟩
    obtain ⟨j, w1, hj2, hal, hrun⟩ := hch
    refine ⟨L[j], by simp, w1, hal, ?_⟩
    have hj3 : w1.heap[bi]? = some (.mapIter (some bm) since seen c0) := by
      rcases hal with rfl | rfl
      · exact hj
      · exact hj
    simp only [hrun, Array.getElem?_map, Array.getElem?_eq_getElem hj2, Option.map_some, Result.andThen_ok, Sem.run_bind, setObj, Sem.run, hj3]
    rfl
theorem ao_nextO {A : MapEntry → AVal × AVal} {i j bl bi since c0 clock : Nat} {seen : Array Nat} {es : Array MapEntry} (hg : guardA ops env g = some (b, b)) (hdn : Nat.ble (d + 1) n = true) (hx : evalA env x = some (.raw (.pointer (some ⟨bi, 0, none⟩))))
    (hi : H[i]? = some (.obj bl (.map es clock))) (hj : H[j]? = some (.obj bi (.mapIter (some bl) since seen c0))) (hold : ∀ x ∈ es.toList, x.born < since) (hsc : since ≤ c0)
    (hA : ∀ R, ∀ e ∈ es.toList, Rel R (A e).1 e.key ∧ Rel R (A e).2 e.val)
    (h0 : (leftOf es seen).size = 0 → AOps P C n ops rest ((d, .tuple [.bool false]) :: env) H Q)
    (h1 : ∀ e ∈ (leftOf es seen).toList, AOps P C n ops rest ((d, .tuple [.bool true, (A e).1, (A e).2]) :: env) (H.set j (.obj bi (.mapIter (some bl) since (seen.push e.born) clock))) Q) :
    AOps P C n ops ({ dst := some d, op := .next x false, type := t, pos := p, after := af, guard := g } :: rest) env H Q := by
  refine ao_valX (X := Sum { e : MapEntry // e ∈ (leftOf es seen).toList } { u : Unit // (leftOf es seen).size = 0 })
    (av := fun z => match z with | .inl e => .tuple [.bool true, (A e.1).1, (A e.1).2] | .inr _ => .tuple [.bool false])
    (H' := fun z => match z with | .inl e => H.set j (.obj bi (.mapIter (some bl) since (seen.push e.1.born) clock)) | .inr _ => H) hg rfl hdn (fun R ρ w hm hf => ?_) ?_
  · have hb : w.heap[bl]? = some (.map es clock) := hm.heap.holds _ (List.mem_of_getElem? hi)
    have hbi : w.heap[bi]? = some (.mapIter (some bl) since seen c0) := hm.heap.holds _ (List.mem_of_getElem? hj)
    rcases run_nextO (P := P) w bi bl since c0 seen es clock hbi hb hold hsc t with ⟨z0, hr⟩ | ⟨e, he, w1, hw, hr⟩
    · refine ⟨.inr ⟨(), z0⟩, .tuple #[.bool false], w, R, ?_, Seal.le_refl R, ⟨⟨_, rfl, _, _, rfl, ⟨rfl, rfl⟩, rfl⟩, rfl⟩, hm⟩
      simp only [execOp, rel_raw.1 (hf _ _ hx), Sem.run_bind, hr, Result.andThen_ok]
      rfl
    · have hm1 : MS C R H w1 := by
        rcases hw with rfl | rfl
        · exact hm
        · exact hm.drew
      have hb1 : w1.heap[bi]? = some (.mapIter (some bl) since seen c0) := hm1.heap.holds _ (List.mem_of_getElem? hj)
      have ho := setObj_one (o' := .mapIter (some bl) since (seen.push e.born) clock) hb1
      obtain ⟨hk, hv⟩ := hA R e (mem_left he).1
      refine ⟨.inl ⟨e, he⟩, .tuple #[.bool true, e.key, e.val], _, R, ?_, Seal.le_refl R, ⟨⟨_, rfl, _, _, rfl, ⟨rfl, rfl⟩, _, _, rfl, hk, _, _, rfl, hv, rfl⟩, rfl⟩, hm1.write hj rfl ho rfl ho.at_⟩
      simp only [execOp, rel_raw.1 (hf _ _ hx), Sem.run_bind, hr, Result.andThen_ok]
      rfl
  · rintro (⟨e, he⟩ | ⟨u, z0⟩)
    · exact h1 e he
    · exact h0 z0
theorem ao_entryO {A : MapEntry → AVal × AVal} {i j bl bi since clock : Nat} {seen : Array Nat} {es : Array MapEntry} {e : MapEntry} (hg : guardA ops env g = some (b, b)) (hdn : Nat.ble (d + 1) n = true) (hx : evalA env x = some (.raw (.pointer (some ⟨bi, 0, none⟩))))
    (hi : H[i]? = some (.obj bl (.map es clock))) (hj : H[j]? = some (.obj bi (.mapIter (some bl) since (seen.push e.born) clock))) (he : e ∈ es.toList) (hn : (es.toList.map (·.born)).Nodup)
    (hA : ∀ R, ∀ e ∈ es.toList, Rel R (A e).1 e.key ∧ Rel R (A e).2 e.val)
    (h1 : AOps P C n ops rest ((d, .tuple [(A e).1, (A e).2]) :: env) H Q) :
    AOps P C n ops ({ dst := some d, op := .entry x, type := t, pos := p, after := af, guard := g } :: rest) env H Q := by
  refine ao_val hg rfl hdn (fun R ρ w hm hf => ?_) h1
  have hb : w.heap[bl]? = some (.map es clock) := hm.heap.holds _ (List.mem_of_getElem? hi)
  have hbi : w.heap[bi]? = some (.mapIter (some bl) since (seen.push e.born) clock) := hm.heap.holds _ (List.mem_of_getElem? hj)
  have hf' : es.find? (·.born == e.born) = some e := by rw [← Array.find?_toList]; exact find_born e es.toList hn he
  obtain ⟨hk, hv⟩ := hA R e he
  refine ⟨.tuple #[e.key, e.val], w, R, ?_, Seal.le_refl R, ⟨⟨_, rfl, _, _, rfl, hk, _, _, rfl, hv, rfl⟩, rfl⟩, hm⟩
  simp only [execOp, rel_raw.1 (hf _ _ hx), Instr.entry, Sem.run_bind, run_getObj_at hb (by simp), run_getObj_at hbi (by simp), Result.andThen_ok, Array.back?_push, bne_self_eq_false, Bool.false_eq_true, if_false, hf']
  rfl
end
end Go.Proofs.YtmgkpbgfkjedeaaGreatDoor
namespace Go.Proofs.YtmgkpbgfkjedeaaGreatDoor
open Go Go.RowKit
abbrev jN : AVal := .raw (.slice none 0 0)
abbrev jAt (b : Nat) : Value := .pointer (some ⟨b, 0, none⟩)
abbrev jZ (b : Nat) : HEnt := .cells b (some 25) [.int .i64 0, .str [], jN, jN]
/-- The three words, in a map. -/
abbrev wdE (k : Int) (s : List UInt8) (n : Nat) : MapEntry := { key := .int .i64 k, val := .string ⟨s.toArray⟩, born := n }
abbrev wdM : Array MapEntry := ((#[].push (wdE 1 nulW 0)).push (wdE 2 falW 1)).push (wdE 3 truW 2)
def wdS (e : MapEntry) : List UInt8 := match e.born with | 0 => nulW | 1 => falW | _ => truW
def wdA (e : MapEntry) : AVal × AVal := (.int .i64 ((e.born + 1 : Nat) : Int), .str (wdS e))
theorem wd_cases {e : MapEntry} (h : e ∈ wdM.toList) : e = wdE 1 nulW 0 ∨ e = wdE 2 falW 1 ∨ e = wdE 3 truW 2 := by simpa using h
theorem wd_nodup : (wdM.toList.map (·.born)).Nodup := by decide
theorem wd_none {seen : Array Nat} (h : (leftOf wdM seen).size = 0) : ∀ e ∈ wdM.toList, seen.contains e.born = true := by
  intro e he
  cases hc : seen.contains e.born with
  | true => rfl
  | false =>
    have : e ∈ leftOf wdM seen := Array.mem_filter.2 ⟨Array.mem_toList_iff.1 he, by rw [hc]; rfl⟩
    rw [Array.eq_empty_of_size_eq_zero h] at this
    simp at this
theorem wdA_ok (R : Seal) : ∀ e ∈ wdM.toList, Rel R (wdA e).1 e.key ∧ Rel R (wdA e).2 e.val := by
  intro e he
  rcases (show e = wdE 1 nulW 0 ∨ e = wdE 2 falW 1 ∨ e = wdE 3 truW 2 by simpa using he) with rfl | rfl | rfl
  all_goals exact ⟨rel_int.2 rfl, rel_str.2 rfl⟩
theorem wd_old : ∀ e ∈ wdM.toList, e.born < 3 := by
  intro e he
  rcases (show e = wdE 1 nulW 0 ∨ e = wdE 2 falW 1 ∨ e = wdE 3 truW 2 by simpa using he) with rfl | rfl | rfl
  all_goals decide
theorem pre_not {u v t : List UInt8} (h : u.isPrefixOf t = true) (hn : u.head? ≠ v.head? ∧ v ≠ [] ∧ u ≠ []) : ¬ v.isPrefixOf t = true := by
  intro h2
  obtain ⟨a, rfl⟩ := List.isPrefixOf_iff_prefix.1 h
  obtain ⟨b, hb⟩ := List.isPrefixOf_iff_prefix.1 h2
  cases u with
  | nil => exact hn.2.2 rfl
  | cons x u =>
    cases v with
    | nil => exact hn.2.1 rfl
    | cons y v =>
      simp only [List.cons_append, List.cons.injEq] at hb
      exact hn.1 (by rw [List.head?_cons, List.head?_cons, hb.1])
theorem wd_push {s : List UInt8} {i : Nat} {seen : Array Nat} {e : MapEntry} (h : ∀ e ∈ wdM.toList, seen.contains e.born = true → ¬ (wdS e).isPrefixOf (s.drop i) = true) (hp : ¬ (wdS e).isPrefixOf (s.drop i) = true) : ∀ x ∈ wdM.toList, (seen.push e.born).contains x.born = true → ¬ (wdS x).isPrefixOf (s.drop i) = true := by
  intro x hx hc
  rw [contains_push, Bool.or_eq_true] at hc
  rcases hc with hc | hc
  · exact h x hx hc
  · have : wdS x = wdS e := by unfold wdS; rw [eq_of_beq hc]
    rw [this]
    exact hp
/-- What stands in a row of trees. -/
def jsC (d : Nat) (l : List Js) : List AVal := l.flatMap (Js.C d)
abbrev jE (b : Nat) (k : Int) (v1 v2 : Value) : HEnt := .cells b (some 25) [.int .i64 k, .str [], .own 2 v1, .own 3 v2]
abbrev rwK (v : Value) (l : List (List UInt8)) : HEnt := .row v none 1 l.length (strsC l)
abbrev rwJ (d : Nat) (v : Value) (l : List Js) : HEnt := .row v none 4 l.length (jsC d l)
theorem hdP_bad {s : List UInt8} {ob : Bool} {ks : List (List UInt8)} {l : List Js} {a : Nat} {e : Int} {p : Nat} (h : cmP s l a = some (e, p)) : hdP s ob ks l a = .bad e p := by unfold hdP; rw [h]
theorem hdP_arr {s : List UInt8} {ks : List (List UInt8)} {l : List Js} {a : Nat} (h : cmP s l a = none) : hdP s false ks l a = .ok [] (cmA l a) := by
  unfold hdP
  rw [h]
  exact if_neg (by decide)
theorem hdP_obj {s : List UInt8} {ks : List (List UInt8)} {l : List Js} {a : Nat} (h : cmP s l a = none) : hdP s true ks l a = kyP s ks (skE s (cmA l a)) := by
  unfold hdP
  rw [h]
  exact if_pos rfl
theorem kyP_bad {s : List UInt8} {ks : List (List UInt8)} {a : Nat} {e : Int} {p : Nat} (h : txP s a = .bad e p) : kyP s ks a = .bad e p := by unfold kyP; rw [h]
theorem kyP_two {s : List UInt8} {ks : List (List UInt8)} {a b : Nat} {k : List UInt8} (h : txP s a = .ok k b) (h1 : k ∈ ks) : kyP s ks a = .bad 9 a := by
  unfold kyP
  rw [h]
  exact if_pos h1
theorem kyP_lack {s : List UInt8} {ks : List (List UInt8)} {a b : Nat} {k : List UInt8} (h : txP s a = .ok k b) (h1 : ¬ k ∈ ks) (h2 : ¬ (skE s b < s.length ∧ byteAt s (skE s b) = 58)) : kyP s ks a = .bad (lkE s (skE s b)) (skE s b) := by
  have hw : wnP s (skE s b) 58 = some (lkE s (skE s b), skE s b) := by
    unfold wnP lkE
    by_cases h3 : s.length ≤ skE s b
    · rw [if_pos h3, if_pos h3]
    · rw [if_neg h3, if_neg h3, if_pos (by omega)]
  unfold kyP
  simp only [h, if_neg h1, hw]
theorem kyP_ok {s : List UInt8} {ks : List (List UInt8)} {a b : Nat} {k : List UInt8} (h : txP s a = .ok k b) (h1 : ¬ k ∈ ks) (h2 : skE s b < s.length) (h3 : byteAt s (skE s b) = 58) : kyP s ks a = .ok k (skE s b + 1) := by
  have hw : wnP s (skE s b) 58 = none := by
    unfold wnP
    rw [if_neg (by omega), if_neg (by omega)]
  unfold kyP
  simp only [h, if_neg h1, hw]
theorem strsK_at {L : List (List UInt8)} {k : Nat} (h : k < L.length) : (strsC L)[k]? = some (.str (L.getD k [])) := by
  unfold strsC
  rw [List.getElem?_map, List.getElem?_eq_getElem h, List.getD_eq_getElem?_getD, List.getElem?_eq_getElem h]
  rfl
theorem jsC_push (d : Nat) (l : List Js) (x : Js) : jsC d l ++ Js.C d x = jsC d (l ++ [x]) := by
  unfold jsC
  rw [List.flatMap_append, List.flatMap_singleton]
theorem jsC_at (d : Nat) : ∀ (l : List Js) (i : Nat), i < l.length → Js.C d (atJ l i) = ((jsC d l).drop (i * 4)).take 4
  | [], i, h => absurd h (Nat.not_lt_zero _)
  | x :: l, 0, _ => rfl
  | x :: l, i + 1, h => by
    have ih := jsC_at d l i (by simpa using h)
    have e : jsC d (x :: l) = Js.C d x ++ jsC d l := rfl
    rw [e, show (i + 1) * 4 = 4 + i * 4 by omega, ← List.drop_drop, List.drop_left' (show (Js.C d x).length = 4 from rfl)]
    exact ih
theorem jsF_ok (d : Nat) (l : List Js) : ∀ i, i < l.length → (jsF (d + 1) l i).cells = ((jsC d l).drop (i * 4)).take 4 ∧ (jsF (d + 1) l i).plain = true := fun i hi => ⟨jsC_at d l i hi, rfl⟩
section
variable {P : Program} [Tab P] {C : Ctx} {n : Nat} {env : Env} {H : Heap} {Q : AExit → Env → Heap → Prop} {G : Glo} {GL : List (Nat × List AVal)}
/-- A loop whose rounds are walked through code. -/
theorem lpA {c : Code} {X : Type} (_ : C.G = G) (_ : GloAll G GL) (I : X → Env) (J : X → Heap) (Inv : X → Prop) (μ : X → Nat) (x0 : X) (h0 : Inv x0) (hs : Env.sub env (I x0)) (hH : H = J x0)
    (round : ∀ x, Inv x → AWp P C n c (I x) (J x) (thenQ (fun e h => Nxt I J Inv μ x e h) Q)) : Lp P C n c env H Q :=
  ⟨aw_loopS I J Inv μ x0 h0 hs (hH ▸ List.Sublist.refl _) fun x hx => (round x hx).mono fun ex e h q => by
    cases ex with
    | normal => exact Nxt.h q
    | exit i => exact q
    | goto i => exact q
    | ret => exact q
    | panic v => exact q⟩
end
/-- What a reader of trees answers; what is no list is nil. -/
def jrQ (n : Nat) (x : Rj Js) (r : ARes) (H : Heap) : Prop := H = [] ∧
  match x with
  | .bad e p => r = .panic (thrA e (p : Nat))
  | .ok x b => ∃ q1 q2, r = .ret (.tuple [.agg [.int .i64 x.k, .str x.t, q1, q2], .int .i64 (b : Nat)]) ∧ ((q1 = jN ∧ q2 = jN ∧ x.ks = [] ∧ x.l = []) ∨ (q1 = .list 1 x.ks.length (strsF x.ks) ∧ q2 = .list 4 x.l.length (jsF n x.l)))
theorem jr_bad {n : Nat} {x : Rj Js} {e : Int} {p : Nat} {v : AVal} {H : Heap} (h : x = .bad e p) (e1 : v = thrA e (p : Nat)) : Pn (jrQ n x) v H := ⟨[], List.nil_sublist _, by subst h e1; exact ⟨rfl, rfl⟩⟩
theorem jr_lst {n : Nat} {x : Rj Js} {k : Int} {ks : List (List UInt8)} {l : List Js} {b : Nat} {v : AVal} {H : Heap} (h : x = .ok (.mk k [] ks l) b) (e1 : v = .tuple [.agg [.int .i64 k, .str [], .list 1 ks.length (strsF ks), .list 4 l.length (jsF n l)], .int .i64 (b : Nat)]) : Rt (jrQ n x) v H := ⟨[], List.nil_sublist _, by subst h e1; exact ⟨rfl, _, _, rfl, .inr ⟨rfl, rfl⟩⟩⟩
theorem jr_nil {n : Nat} {x : Rj Js} {k : Int} {t : List UInt8} {b : Nat} {v : AVal} {H : Heap} (h : x = .ok (.mk k t [] []) b) (e1 : v = .tuple [.agg [.int .i64 k, .str t, jN, jN], .int .i64 (b : Nat)]) : Rt (jrQ n x) v H := ⟨[], List.nil_sublist _, by subst h e1; exact ⟨rfl, jN, jN, rfl, .inl ⟨rfl, rfl, rfl, rfl⟩⟩⟩
set_option maxRecDepth 20000
set_option maxHeartbeats 4000000
set_option linter.unusedSimpArgs false
set_option linter.unusedVariables false
attribute [local irreducible] AWp AOps byteAt SrcOK OrOk GloAll FnSpec
attribute [local irreducible] numI txP elP kyP hdP
theorem ref_tree0 {G : Glo} (s : List UInt8) (n : Nat) (IH : ∀ a d : Nat, d + n = 13 → a ≤ s.length → FnSpec Tryz.prog G 15 [.str s, .int .i64 (a : Nat), .int .i64 (d : Nat)] [] (RjQ (trP s n a) fun x b => .tuple [.agg (Js.C n x), .int .i64 (b : Nat)])) (a d : Nat) (hd : d + (n + 1) = 13) (hl : s.length ≤ 100000) (ha : a ≤ s.length) :
    FnSpec Tryz.prog G 15 [.str s, .int .i64 (a : Nat), .int .i64 (d : Nat)] [] (jrQ (n + 1) (trP s (n + 1) a)) := by
  have hS := fun i h => ref_skip (G := G) s i (by omega) h
  have hT := fun e p => ref_throw (G := G) e p
  have hK := fun p => ref_lacks (G := G) s p (by omega)
  have hN := ref_numeral (G := G) (s.drop (skE s a)) (by rw [List.length_drop]; omega)
  have hH := fun p => has_prefix (G := G) (s.drop (skE s a)) p
  have s0 := hS a (by omega)
  have sg := skE_ge s a
  have hR : trP s (n + 1) a = trP s (n + 1) a := rfl
  conv at hR => rhs; rw [trP]
  generalize trP s (n + 1) a = T at *
  generalize skE s a = i at *
  have hGL : GloAll G [] := gloAll_nil
  refine fn_a Tryz.func15 Tryz.call15 rfl rfl rfl rfl ?_
  intro C hC
  refine cuty hC hGL (fun x : Nat => [(0, .str s), (1, .int .i64 (a : Nat)), (2, .int .i64 (d : Nat)), (6, .own 0 (jAt x)), (7, .int .i64 0)]) (fun x => [jZ x]) (fun _ => True) ?_ ?_
  · refine xn1 ?_
    intro b
    intros
    exact cy b trivial
  intro b6 _
  refine cut hC hGL [(0, .str s), (1, .int .i64 (i : Nat)), (2, .int .i64 (d : Nat)), (6, .own 0 (jAt b6)), (7, .int .i64 0)] [jZ b6] True xn0 fun _ => ?_
  refine cut hC hGL [(0, .str s), (1, .int .i64 (i : Nat)), (2, .int .i64 (d : Nat)), (6, .own 0 (jAt b6)), (7, .int .i64 0)] [jZ b6] True xn0 fun _ => ?_
  by_cases h1 : s.length ≤ i
  · rw [if_pos h1] at hR
    refine aw_code hC hGL (xn1 ?_)
    intros
    exact cx_panic (hT _ _) (jr_bad hR rfl)
  rw [if_neg h1] at hR
  refine cut hC hGL [(0, .str s), (1, .int .i64 (i : Nat)), (2, .int .i64 (d : Nat)), (6, .own 0 (jAt b6)), (7, .int .i64 0)] [jZ b6] True xn0 fun _ => ?_
  refine aw_seq (aw_seq (aw_region ?_))
  refine ao_mkmapO rfl rfl fun bm => ?_
  refine ao_insO (i := 1) rfl rfl rfl rfl rfl rfl rfl rfl rfl rfl ?_
  refine ao_insO (i := 1) rfl rfl rfl rfl rfl rfl rfl rfl rfl rfl ?_
  refine ao_insO (i := 1) rfl rfl rfl rfl rfl rfl rfl rfl rfl rfl ?_
  refine ao_move rfl rfl rfl ?_
  refine ao_rangeO (i := 1) rfl rfl rfl rfl rfl rfl fun bi => ?_
  refine ao_nil ?_
  refine aw_code hC hGL (xn1 ?_)
  refine lp hC hGL (fun _ : Array Nat => [(0, .str s), (1, .int .i64 (i : Nat)), (2, .int .i64 (d : Nat)), (6, .own 0 (jAt b6)), (7, .int .i64 0), (36, .raw (jAt bi))]) (fun seen => [jZ b6, .obj bm (.map wdM 3), .obj bi (.mapIter (some bm) 3 seen 3)]) (fun seen => ∀ e ∈ wdM.toList, seen.contains e.born = true → ¬ (wdS e).isPrefixOf (s.drop i) = true) (fun seen => (leftOf wdM seen).size) #[] (fun e _ h => absurd h (by simp)) env_w rfl ?_
  intro seen hseen
  refine xn1 ?_
  refine ⟨ao_nextO (A := wdA) (i := 1) (j := 2) rfl rfl rfl rfl rfl wd_old (Nat.le_refl _) wdA_ok ?_ ?_⟩
  · intro h0
    have hno := fun e he => hseen e he (wd_none h0 e he)
    refine opsX_ok hC hGL _ _ _ ?_
    refine xn1 ?_
    rw [if_neg (show ¬ nulW.isPrefixOf (s.drop i) = true from hno (wdE 1 nulW 0) (by simp)), if_neg (show ¬ falW.isPrefixOf (s.drop i) = true from hno (wdE 2 falW 1) (by simp)), if_neg (show ¬ truW.isPrefixOf (s.drop i) = true from hno (wdE 3 truW 2) (by simp))] at hR
    by_cases h2 : numI (s.drop i) = 0
    case neg =>
      rw [if_pos h2] at hR
      have hle := numI_le (s.drop i)
      rw [List.length_drop] at hle
      have e1 : (s.take (i + numI (s.drop i))).drop i = (s.drop i).take (numI (s.drop i)) := by rw [List.drop_take, Nat.add_sub_cancel_left]
      rw [← e1] at hR
      generalize numI (s.drop i) = m at *
      refine aw_code hC hGL (xn1 ?_)
      intros
      exact jr_nil hR rfl
    rw [if_neg (fun h => h h2)] at hR
    rw [h2] at hN
    refine aw_to (to_sub (e' := [(0, .str s), (1, .int .i64 (i : Nat)), (2, .int .i64 (d : Nat)), (6, .own 0 (jAt b6))]) (h' := [jZ b6]) env_w sub_w) ?_
    refine cut hC hGL [(0, .str s), (1, .int .i64 (i : Nat)), (2, .int .i64 (d : Nat)), (6, .own 0 (jAt b6))] [jZ b6] True xn0 fun _ => ?_
    have hb := byteAt_lt s i
    by_cases h3 : byteAt s i = 34
    case pos =>
      rw [if_pos h3] at hR
      have hQ := ref_string (G := G) s i (by omega) (by omega)
      refine aw_code hC hGL (xn1 ?_)
      intros
      refine cx_rj hQ (fun t b hc => ?_) (fun e p hc => ?_)
      · rw [hc] at hR
        refine xn1 ?_
        intros
        exact jr_nil hR rfl
      · rw [hc] at hR
        exact jr_bad hR rfl
    rw [if_neg h3] at hR
    refine cut hC hGL [(0, .str s), (1, .int .i64 (i : Nat)), (2, .int .i64 (d : Nat)), (6, .own 0 (jAt b6))] [jZ b6] True xn0 fun _ => ?_
    by_cases h4 : byteAt s i = 91 ∨ byteAt s i = 123
    case neg =>
      rw [if_neg (by omega), if_neg (by omega)] at hR
      refine aw_code hC hGL (xn1 ?_)
      intros
      exact cx_panic (hT _ _) (jr_bad hR rfl)
    obtain ⟨ob, hob⟩ : ∃ ob : Bool, byteAt s i = (if ob = true then 123 else 91) := h4.elim (fun h => ⟨false, h⟩) (fun h => ⟨true, h⟩)
    have hR : T = elP s (trP s n) ob (s.length + 1) (skE s (i + 1)) [] [] := by
      cases ob with
      | true => rw [hR, if_neg (by rw [hob]; decide), if_pos (by rw [hob]; decide)]
      | false => rw [hR, if_pos (by rw [hob]; decide)]
    refine cut hC hGL [(0, .str s), (1, .int .i64 (i : Nat)), (2, .int .i64 (d : Nat)), (6, .own 0 (jAt b6))] [jZ b6] True ?_ fun _ => ?_
    · cases ob with
      | true => have hq : byteAt s i = 123 := hob; exact xn0
      | false => have hq : byteAt s i = 91 := hob; exact xn0
    refine cuty hC hGL (fun x : Nat => [(0, .str s), (1, .int .i64 (i : Nat)), (2, .int .i64 (d : Nat)), (6, .own 0 (jAt b6)), (13, .own 1 (jAt x))]) (fun x => [jZ b6, .cells x (some 25) [.int .i64 6, .str [], jN, jN]]) (fun _ => True) ?_ ?_
    · refine xn1 ?_
      intro b
      intros
      exact cy b trivial
    intro b13 _
    refine cut hC hGL [(0, .str s), (1, .int .i64 (i : Nat)), (2, .int .i64 (d : Nat)), (6, .own 0 (jAt b6)), (13, .own 1 (jAt b13)), (14, .int .u8 93)] [jZ b6, .cells b13 (some 25) [.int .i64 6, .str [], jN, jN]] True xn0 fun _ => ?_
    refine cut hC hGL [(0, .str s), (1, .int .i64 (i : Nat)), (2, .int .i64 (d : Nat)), (6, .own 0 (jAt b6)), (13, .own 1 (jAt b13)), (14, .int .u8 (enB ob : Nat))] [jZ b6, .cells b13 (some 25) [.int .i64 (kdJ ob), .str [], jN, jN]] True ?_ fun _ => ?_
    · cases ob with
      | true => have hq : byteAt s i = 123 := hob; exact xn0
      | false => have hq : byteAt s i = 91 := hob; exact xn0
    have s1 := hS (i + 1) (by omega)
    refine cut hC hGL [(0, .str s), (1, .int .i64 (skE s (i + 1) : Nat)), (2, .int .i64 (d : Nat)), (6, .own 0 (jAt b6)), (13, .own 1 (jAt b13)), (14, .int .u8 (enB ob : Nat))] [jZ b6, .cells b13 (some 25) [.int .i64 (kdJ ob), .str [], jN, jN]] True xn0 fun _ => ?_
    have hA : 1 ≤ skE s (i + 1) ∧ skE s (i + 1) ≤ s.length := by have := skE_ge s (i + 1); omega
    generalize skE s (i + 1) = a1 at *
    refine aw_code hC hGL (xn1 ?_)
    refine lp_to (to_trans (to_ghost 1) (to_trans (to_ghost 4) (to_trans (to_cell (i := 1) (p := 2) (x := .cells b13 (some 25) [.int .i64 (kdJ ob), .str [], jN, jN]) (a' := .own 2 (.slice none 0 0)) rfl (fun R => .cells rfl fun _ => nil_own)) (to_cell (i := 1) (p := 3) (x := .cells b13 (some 25) [.int .i64 (kdJ ob), .str [], .own 2 (.slice none 0 0), jN]) (a' := .own 3 (.slice none 0 0)) rfl (fun R => .cells rfl fun _ => nil_own))))) ?_
    refine lpA hC hGL (fun z : Nat × List (List UInt8) × List Js × Nat × Value × Value × Bool => [(0, .str s), (1, .int .i64 (z.1 : Nat)), (2, .int .i64 (d : Nat)), (6, .own 0 (jAt b6)), (13, .own 1 (jAt b13)), (14, .int .u8 (enB ob : Nat)), (15, .bool z.2.2.2.2.2.2)]) (fun z => [jZ b6, jE b13 (kdJ ob) z.2.2.2.2.1 z.2.2.2.2.2.1, rwK z.2.2.2.2.1 z.2.1, rwJ n z.2.2.2.2.2.1 z.2.2.1])
      (fun z => elP s (trP s n) ob z.2.2.2.1 z.1 z.2.1 z.2.2.1 = T ∧ z.1 ≤ s.length ∧ s.length + 2 ≤ z.2.2.2.1 + z.1 ∧ z.2.1.length ≤ z.1 ∧ z.2.2.1.length ≤ z.1 ∧ (z.2.2.2.2.2.2 = true ↔ z.2.2.1 = []) ∧ ∃ va vk vc, z.2.2.2.2.1 = .slice va vk vc ∧ RowV z.2.1.length va vk) (fun z => s.length - z.1) (a1, [], [], s.length + 1, .slice none 0 0, .slice none 0 0, true) ⟨hR.symm, hA.2, by show s.length + 2 ≤ s.length + 1 + a1; omega, Nat.zero_le _, Nat.zero_le _, iff_of_true rfl rfl, none, 0, 0, rfl, fun h => absurd h (Nat.lt_irrefl _)⟩ env_w rfl ?_
    rintro ⟨x, ks, l, k, v1, v2, fst⟩ ⟨k1, k2, k3, k4, k5, k6, va, vk, vc, k7, k8⟩
    simp only at k1 k2 k3 k4 k5 k6 k7 k8
    dsimp only
    obtain ⟨k, rfl⟩ : ∃ j, k = j + 1 := ⟨k - 1, by omega⟩
    by_cases c0 : x < s.length ∧ byteAt s x = enB ob
    · rw [elP, if_pos c0] at k1
      obtain ⟨c0, c1⟩ := c0
      refine aw_seq (aw_block ?_)
      refine aw_to (to_seal (i := 3) (k := 1) (p := 3) (jsF (n + 1) l) rfl rfl (jsF_ok n l) (fun R hr => .cells (a := .own 3 v2) rfl fun _ => own_list hr)) ?_
      refine aw_to (to_seal (i := 2) (k := 1) (p := 2) (strsF ks) rfl rfl (strsF_ok ks) (fun R hr => .cells (a := .own 2 v1) rfl fun _ => own_list hr)) ?_
      refine aw_code hC hGL (xn1 ?_)
      intros
      exact jr_lst k1.symm rfl
    rw [elP, if_neg c0] at k1
    refine aw_seq (aw_block ?_)
    refine cut hC hGL [(0, .str s), (1, .int .i64 (x : Nat)), (2, .int .i64 (d : Nat)), (6, .own 0 (jAt b6)), (13, .own 1 (jAt b13)), (14, .int .u8 (enB ob : Nat)), (15, .bool fst)] [jZ b6, jE b13 (kdJ ob) v1 v2, rwK v1 ks, rwJ n v2 l] True ?_ fun _ => ?_
    · by_cases c1 : x < s.length
      · have c2 : byteAt s x ≠ enB ob := fun h => c0 ⟨c1, h⟩
        exact xn0
      · exact xn0
    by_cases hcm : l = [] ∨ x < s.length ∧ byteAt s x = 44
    case neg =>
      have hl0 : ¬ l = [] := fun h => hcm (.inl h)
      obtain rfl : fst = false := by
        cases fst with
        | false => rfl
        | true => exact absurd (k6.1 rfl) hl0
      have hcp : cmP s l x = some (lkE s x, x) := by
        unfold cmP wnP lkE
        rw [if_neg hl0]
        split
        · rfl
        · rw [if_pos (fun h => hcm (.inr ⟨by omega, h⟩))]
      rw [hdP_bad hcp] at k1
      by_cases hw1 : x < s.length
      · have hw2 : byteAt s x ≠ 44 := fun h => hcm (.inr ⟨hw1, h⟩)
        refine aw_code hC hGL (xn1 ?_)
        intros
        exact cx_panic (hK _) (jr_bad k1.symm rfl)
      · refine aw_code hC hGL (xn1 ?_)
        intros
        exact cx_panic (hK _) (jr_bad k1.symm rfl)
    refine cut hC hGL [(0, .str s), (1, .int .i64 (cmA l x : Nat)), (2, .int .i64 (d : Nat)), (6, .own 0 (jAt b6)), (13, .own 1 (jAt b13)), (14, .int .u8 (enB ob : Nat))] [jZ b6, jE b13 (kdJ ob) v1 v2, rwK v1 ks, rwJ n v2 l] True ?_ fun _ => ?_
    · by_cases hl0 : l = []
      · obtain rfl : fst = true := k6.2 hl0
        rw [show cmA l x = x from if_pos hl0]
        exact xn0
      · obtain rfl : fst = false := by
          cases fst with
          | false => rfl
          | true => exact absurd (k6.1 rfl) hl0
        rw [show cmA l x = x + 1 from if_neg hl0]
        obtain ⟨hw1, hw2⟩ := hcm.resolve_left hl0
        exact xn0
    have hcm : cmP s l x = none := by
      unfold cmP
      by_cases hl0 : l = []
      · rw [if_pos hl0]
      · obtain ⟨hw1, hw2⟩ := hcm.resolve_left hl0
        unfold wnP
        rw [if_neg hl0, if_neg (by omega), if_neg (by omega)]
    have hx1 : x ≤ cmA l x ∧ cmA l x ≤ s.length := by
      have := hdP_ge (s := s) (ob := false) (ks := ks) (l := l) (a := x) (k := []) (b := cmA l x) k2 (hdP_arr hcm)
      exact this
    refine cuty hC hGL (fun y : Nat × List (List UInt8) × Value => [(0, .str s), (1, .int .i64 (y.1 : Nat)), (2, .int .i64 (d : Nat)), (6, .own 0 (jAt b6)), (13, .own 1 (jAt b13)), (14, .int .u8 (enB ob : Nat))]) (fun y => [jZ b6, jE b13 (kdJ ob) y.2.2 v2, rwK y.2.2 y.2.1, rwJ n v2 l]) (fun y => (∃ key, hdP s ob ks l x = .ok key y.1 ∧ y.2.1 = ksJ ob ks key) ∧ ∃ va vk vc, y.2.2 = .slice va vk vc ∧ RowV y.2.1.length va vk) ?_ ?_
    · cases ob with
      | false =>
        refine xn1 ?_
        intros
        exact cy (cmA l x, ks, v1) ⟨⟨[], hdP_arr hcm, rfl⟩, va, vk, vc, k7, k8⟩
      | true =>
        have hdo := hdP_obj (ks := ks) hcm
        rw [hdo] at k1
        have s2 := hS (cmA l x) (by omega)
        have hp := skE_ge s (cmA l x)
        generalize skE s (cmA l x) = p at *
        have hQ := ref_string (G := G) s p (by omega) (by omega)
        refine xn1 ?_
        intros
        refine cx_rj hQ (fun key b hc => ?_) (fun e q hc => ?_)
        case refine_2 =>
          rw [kyP_bad hc] at k1
          exact jr_bad k1.symm rfl
        have hb2 := txP_ge hc
        have hgt := fun j (hj : j < ks.length) => strsK_at hj
        subst k7
        refine xn1 ?_
        refine lp hC hGL (fun j : Nat => [(0, .str s), (1, .int .i64 (b : Nat)), (2, .int .i64 (d : Nat)), (6, .own 0 (jAt b6)), (13, .own 1 (jAt b13)), (14, .int .u8 (enB true : Nat)), (16, .int .i64 (p : Nat)), (17, .str key), (149, .own 2 (.slice va vk vc)), (150, .int .i64 (ks.length : Nat)), (151, .int .i64 (j : Nat))]) (fun _ => [jZ b6, jE b13 (kdJ true) (.slice va vk vc) v2, rwK (.slice va vk vc) ks, rwJ n v2 l]) (fun j => j ≤ ks.length ∧ ∀ i, i < j → ks.getD i [] ≠ key) (fun j => ks.length - j) 0 ⟨Nat.zero_le _, fun i h => absurd h (Nat.not_lt_zero _)⟩ env_w rfl ?_
        rintro j ⟨j1, j2⟩
        by_cases hj : j < ks.length
        · have hg := hgt j hj
          obtain ⟨bv, rfl, rfl⟩ := k8 (by omega)
          have hrow : RowAt (.slice (some ⟨bv, 0, none⟩) ks.length vc) bv ks.length ∧ j < ks.length * 1 := ⟨⟨_, rfl⟩, by omega⟩
          by_cases he : ks.getD j [] = key
          · have hm : key ∈ ks := by
              rw [← he, List.getD_eq_getElem?_getD, List.getElem?_eq_getElem hj]
              exact List.getElem_mem hj
            rw [kyP_two hc hm] at k1
            refine xn1 ?_
            intros
            exact cx_panic (hT _ _) (jr_bad k1.symm rfl)
          · refine xn1 ?_
            intros
            refine nxs (j + 1) ⟨hj, fun i hi => ?_⟩ (by omega) env_w sub_w
            rcases Nat.lt_or_ge i j with h | h
            · exact j2 i h
            · obtain rfl : i = j := by omega
              exact he
        · obtain rfl : j = ks.length := by omega
          have hm : ¬ key ∈ ks := fun h => by
            obtain ⟨i, hi, rfl⟩ := List.getElem_of_mem h
            exact j2 i hi (by rw [List.getD_eq_getElem?_getD, List.getElem?_eq_getElem hi]; rfl)
          have s3 := hS b (by omega)
          have hb3 := skE_ge s b
          by_cases hw : skE s b < s.length ∧ byteAt s (skE s b) = 58
          · rw [kyP_ok hc hm hw.1 hw.2] at k1 hdo
            generalize skE s b = c at *
            obtain ⟨hw1, hw2⟩ := hw
            refine xn1 ?_
            intro va2 vk2 vc2 hv2
            intros
            have e2 : ks.length + 1 = (ks ++ [key]).length := by rw [List.length_append]; rfl
            refine cy (c + 1, ks ++ [key], .slice va2 vk2 vc2) ⟨⟨key, hdo, rfl⟩, va2, vk2, vc2, rfl, e2 ▸ hv2⟩ env_w ?_
            show _ = [jZ b6, jE b13 (kdJ true) (.slice va2 vk2 vc2) v2, .row (.slice va2 vk2 vc2) none 1 (ks ++ [key]).length (strsC (ks ++ [key])), rwJ n v2 l]
            rw [← e2, ← strsC_snoc]
            rfl
          · rw [kyP_lack hc hm hw] at k1
            generalize skE s b = c at *
            by_cases hw1 : c < s.length
            · have hw2 : byteAt s c ≠ 58 := fun h => hw ⟨hw1, h⟩
              refine xn1 ?_
              intros
              exact cx_panic (hK _) (jr_bad k1.symm rfl)
            · refine xn1 ?_
              intros
              exact cx_panic (hK _) (jr_bad k1.symm rfl)
    rintro ⟨b, ks2, w1⟩ ⟨⟨key, hk, e1⟩, va2, vk2, vc2, e2, hv2⟩
    dsimp only at e1 e2 hk hv2 ⊢
    subst e1 e2
    have hb := hdP_ge k2 hk
    rw [hk] at k1
    dsimp only at k1
    have hIH := IH b (d + 1) (by omega) hb.2
    refine aw_code hC hGL (xn1 ?_)
    intro b20
    intros
    refine cx_rj hIH (fun y c hc => ?_) (fun e p hc => ?_)
    case refine_2 =>
      rw [hc] at k1
      exact jr_bad k1.symm rfl
    rw [hc] at k1
    dsimp only at k1
    have hg := trP_ge hb.2 hc
    have s4 := hS c (by omega)
    have hs := skE_ge s c
    generalize skE s c = c2 at *
    have hkl : (ksJ ob ks key).length ≤ c2 := by
      have : (ksJ ob ks key).length ≤ ks.length + 1 := by unfold ksJ; split <;> simp
      omega
    generalize ksJ ob ks key = K2 at *
    have e2 : l.length + 1 = (l ++ [y]).length := by rw [List.length_append]; rfl
    refine xn1 ?_
    intro va3 vk3 vc3 _
    refine aw_code hC hGL (xn1 ?_)
    refine nxs (c2, K2, l ++ [y], k, .slice va2 vk2 vc2, .slice va3 vk3 vc3, false) ⟨k1, hs.2 hg.2, by dsimp only; omega, hkl, by dsimp only; omega, iff_of_false (fun h => Bool.false_ne_true h) (fun h => List.cons_ne_nil _ _ (List.append_eq_nil_iff.1 h).2), va2, vk2, vc2, rfl, hv2⟩ (by dsimp only; omega) env_w ?_
    refine List.Sublist.cons_cons _ (List.Sublist.cons_cons _ (List.Sublist.cons_cons _ ?_))
    show [HEnt.row (.slice va3 vk3 vc3) none 4 (l ++ [y]).length (jsC n (l ++ [y]))].Sublist (HEnt.row (.slice va3 vk3 vc3) none 4 (l.length + 1) (jsC n l ++ Js.C n y) :: _)
    rw [← e2, jsC_push]
    exact List.Sublist.cons_cons _ (List.nil_sublist _)
  · intro e he
    refine opsX_ok hC hGL _ _ _ ?_
    refine xn1 ?_
    refine ⟨ao_entryO (A := wdA) (i := 1) (j := 2) rfl rfl rfl rfl rfl (mem_left he).1 wd_nodup wdA_ok ?_⟩
    refine opsX_ok hC hGL _ _ _ ?_
    rcases wd_cases (mem_left he).1 with rfl | rfl | rfl
    case inl =>
      rw [show wdA (wdE 1 nulW 0) = (.int .i64 1, .str nulW) from rfl]
      by_cases hp : nulW.isPrefixOf (s.drop i) = true
      · have hq := hH nulW
        rw [hp] at hq
        rw [if_pos hp] at hR
        repeat' (first | (conv => whnf); first | refine .w ?_ | refine .v ?_ | refine sc_c ?_ ?_ <;> (intro hb; try exact dd hb) | apply sc_not | apply sc_or | (apply sc_i <;> intro hb) | (apply bx_i; intro hbd) | (apply cx_is; first | exact hq) | (apply cx_do (i := 0) rfl; first | exact hq) | (apply ab_i; intro bl) | (apply as_i; intro va vk vc hva) | (apply av_i; intro v) | (apply ac_i; intro bl cap hcap) | apply bo_l | (apply nx_i <;> intro hnx) | apply dw_q mixed hC hGL (by kernel_rfl) | (apply cq; assumption; (first | exact hq); exact rfl) | (show Rt _ _ _; exact rt_w) | fail)
        all_goals try conv => whnf
        exact jr_nil hR rfl
      · have hq := hH nulW
        rw [Bool.eq_false_iff.2 hp] at hq
        repeat' (first | (conv => whnf); first | refine .w ?_ | refine .v ?_ | refine sc_c ?_ ?_ <;> (intro hb; try exact dd hb) | apply sc_not | apply sc_or | (apply sc_i <;> intro hb) | (apply bx_i; intro hbd) | (apply cx_is; first | exact hq) | (apply cx_do (i := 0) rfl; first | exact hq) | (apply ab_i; intro bl) | (apply as_i; intro va vk vc hva) | (apply av_i; intro v) | (apply ac_i; intro bl cap hcap) | apply bo_l | (apply nx_i <;> intro hnx) | apply dw_q mixed hC hGL (by kernel_rfl) | (apply cq; assumption; (first | exact hq); exact rfl) | (show Rt _ _ _; exact rt_w) | fail)
        all_goals try conv => whnf
        exact nxs (seen.push 0) (wd_push (e := wdE 1 nulW 0) hseen hp) (left_shrinks _ _ (wdE 1 nulW 0) he) env_w sub_w
    case inr.inl =>
      rw [show wdA (wdE 2 falW 1) = (.int .i64 2, .str falW) from rfl]
      by_cases hp : falW.isPrefixOf (s.drop i) = true
      · have hq := hH falW
        rw [hp] at hq
        rw [if_neg (pre_not hp (by decide)), if_pos hp] at hR
        repeat' (first | (conv => whnf); first | refine .w ?_ | refine .v ?_ | refine sc_c ?_ ?_ <;> (intro hb; try exact dd hb) | apply sc_not | apply sc_or | (apply sc_i <;> intro hb) | (apply bx_i; intro hbd) | (apply cx_is; first | exact hq) | (apply cx_do (i := 0) rfl; first | exact hq) | (apply ab_i; intro bl) | (apply as_i; intro va vk vc hva) | (apply av_i; intro v) | (apply ac_i; intro bl cap hcap) | apply bo_l | (apply nx_i <;> intro hnx) | apply dw_q mixed hC hGL (by kernel_rfl) | (apply cq; assumption; (first | exact hq); exact rfl) | (show Rt _ _ _; exact rt_w) | fail)
        all_goals try conv => whnf
        exact jr_nil hR rfl
      · have hq := hH falW
        rw [Bool.eq_false_iff.2 hp] at hq
        repeat' (first | (conv => whnf); first | refine .w ?_ | refine .v ?_ | refine sc_c ?_ ?_ <;> (intro hb; try exact dd hb) | apply sc_not | apply sc_or | (apply sc_i <;> intro hb) | (apply bx_i; intro hbd) | (apply cx_is; first | exact hq) | (apply cx_do (i := 0) rfl; first | exact hq) | (apply ab_i; intro bl) | (apply as_i; intro va vk vc hva) | (apply av_i; intro v) | (apply ac_i; intro bl cap hcap) | apply bo_l | (apply nx_i <;> intro hnx) | apply dw_q mixed hC hGL (by kernel_rfl) | (apply cq; assumption; (first | exact hq); exact rfl) | (show Rt _ _ _; exact rt_w) | fail)
        all_goals try conv => whnf
        exact nxs (seen.push 1) (wd_push (e := wdE 2 falW 1) hseen hp) (left_shrinks _ _ (wdE 2 falW 1) he) env_w sub_w
    case inr.inr =>
      rw [show wdA (wdE 3 truW 2) = (.int .i64 3, .str truW) from rfl]
      by_cases hp : truW.isPrefixOf (s.drop i) = true
      · have hq := hH truW
        rw [hp] at hq
        rw [if_neg (pre_not hp (by decide)), if_neg (pre_not hp (by decide)), if_pos hp] at hR
        repeat' (first | (conv => whnf); first | refine .w ?_ | refine .v ?_ | refine sc_c ?_ ?_ <;> (intro hb; try exact dd hb) | apply sc_not | apply sc_or | (apply sc_i <;> intro hb) | (apply bx_i; intro hbd) | (apply cx_is; first | exact hq) | (apply cx_do (i := 0) rfl; first | exact hq) | (apply ab_i; intro bl) | (apply as_i; intro va vk vc hva) | (apply av_i; intro v) | (apply ac_i; intro bl cap hcap) | apply bo_l | (apply nx_i <;> intro hnx) | apply dw_q mixed hC hGL (by kernel_rfl) | (apply cq; assumption; (first | exact hq); exact rfl) | (show Rt _ _ _; exact rt_w) | fail)
        all_goals try conv => whnf
        exact jr_nil hR rfl
      · have hq := hH truW
        rw [Bool.eq_false_iff.2 hp] at hq
        repeat' (first | (conv => whnf); first | refine .w ?_ | refine .v ?_ | refine sc_c ?_ ?_ <;> (intro hb; try exact dd hb) | apply sc_not | apply sc_or | (apply sc_i <;> intro hb) | (apply bx_i; intro hbd) | (apply cx_is; first | exact hq) | (apply cx_do (i := 0) rfl; first | exact hq) | (apply ab_i; intro bl) | (apply as_i; intro va vk vc hva) | (apply av_i; intro v) | (apply ac_i; intro bl cap hcap) | apply bo_l | (apply nx_i <;> intro hnx) | apply dw_q mixed hC hGL (by kernel_rfl) | (apply cq; assumption; (first | exact hq); exact rfl) | (show Rt _ _ _; exact rt_w) | fail)
        all_goals try conv => whnf
        exact nxs (seen.push 2) (wd_push (e := wdE 3 truW 2) hseen hp) (left_shrinks _ _ (wdE 3 truW 2) he) env_w sub_w
end Go.Proofs.YtmgkpbgfkjedeaaGreatDoor
