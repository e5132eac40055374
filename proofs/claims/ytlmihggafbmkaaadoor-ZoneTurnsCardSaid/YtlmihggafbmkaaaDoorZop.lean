/- Reading of offsets: both sides' answers; the law ZoneTurns. -/
import Derived.Test.YtlmihggafbmkaaaDoorZon
namespace Go.Proofs.YtlmihggafbmkaaaDoor
open Go Go.RowKit
/-- A map of bytes, done up to a place. -/
def mapB (f : Nat → Nat) (s : List UInt8) : List UInt8 := s.map fun c => UInt8.ofNat (f c.toNat)
theorem mapB_len (f : Nat → Nat) (s : List UInt8) : (mapB f s).length = s.length := by simp [mapB]
theorem byteAt_mapB {f : Nat → Nat} (hf : ∀ c, c < 256 → f c < 256) {s : List UInt8} {j : Nat} (h : j < s.length) : byteAt (mapB f s) j = f (byteAt s j) := by
  have e1 : byteAt (mapB f s) j = (UInt8.ofNat (f s[j].toNat)).toNat := by simp [byteAt, mapB, List.getD, h]
  rw [e1, byteAt_getElem h, UInt8.toNat_ofNat']
  have := hf _ (UInt8.toNat_lt s[j])
  omega
def Mapd (f : Nat → Nat) (s : List UInt8) (x : Nat × List UInt8) : Prop :=
  x.1 ≤ s.length ∧ x.2.length = s.length ∧ ∀ j, j < s.length → byteAt x.2 j = if j < x.1 then f (byteAt s j) else byteAt s j
theorem mapd_0 {f : Nat → Nat} {s : List UInt8} : Mapd f s (0, s) := ⟨Nat.zero_le _, rfl, fun j _ => by rw [if_neg (by simp)]⟩
theorem mapd_at {f : Nat → Nat} {s : List UInt8} {i : Nat} {t : List UInt8} (h : Mapd f s (i, t)) (hi : i < s.length) : byteAt t i = byteAt s i := by
  have := h.2.2 i hi
  rwa [if_neg (by simp)] at this
theorem mapd_hit {f : Nat → Nat} {s : List UInt8} {i : Nat} {t : List UInt8} (h : Mapd f s (i, t)) (hi : i < s.length) {m : Nat} (hm : m = f (byteAt s i)) (h1 : m < 256) : Mapd f s (i + 1, t.set i (UInt8.ofNat m)) := by
  obtain ⟨h2, h3, h4⟩ := h
  refine ⟨hi, by simp only [List.length_set]; exact h3, fun j hj => ?_⟩
  dsimp only at *
  have hb : byteAt (t.set i (UInt8.ofNat m)) j = if j = i then m else byteAt t j := by
    unfold byteAt
    by_cases e : j = i
    · subst e
      rw [if_pos rfl]
      simp only [List.getD, List.getElem?_set_self (show j < t.length by omega), Option.getD_some]
      rw [UInt8.toNat_ofNat']; omega
    · rw [if_neg e]
      simp only [List.getD, List.getElem?_set_ne (Ne.symm e)]
  rw [hb]
  by_cases e : j = i
  · subst e; rw [if_pos rfl, if_pos (by omega), hm]
  · rw [if_neg e, h4 j hj]
    by_cases e2 : j < i
    · rw [if_pos e2, if_pos (by omega)]
    · rw [if_neg e2, if_neg (by omega)]
theorem mapd_miss {f : Nat → Nat} {s : List UInt8} {i : Nat} {t : List UInt8} (h : Mapd f s (i, t)) (hi : i < s.length) (hm : f (byteAt s i) = byteAt s i) : Mapd f s (i + 1, t) := by
  refine ⟨hi, h.2.1, fun j hj => ?_⟩
  have := h.2.2 j hj
  dsimp only at *
  rw [this]
  by_cases e : j = i
  · subst e; rw [if_neg (by omega), if_pos (by omega), hm]
  · by_cases e2 : j < i
    · rw [if_pos e2, if_pos (by omega)]
    · rw [if_neg e2, if_neg (by omega)]
theorem mapd_end {f : Nat → Nat} (hf : ∀ c, c < 256 → f c < 256) {s : List UInt8} {i : Nat} {t : List UInt8} (h : Mapd f s (i, t)) (hi : s.length ≤ i) : t = mapB f s := by
  refine ext_byteAt (by rw [mapB_len]; exact h.2.1) (fun j hj => ?_)
  rw [mapB_len] at hj
  rw [byteAt_mapB hf hj, h.2.2 j hj, if_pos (show j < i by omega)]
/-- A 9 for each digit. -/
def nineN (c : Nat) : Nat := if 48 ≤ c ∧ c ≤ 57 then 57 else c
theorem nineN_lt : ∀ c, c < 256 → nineN c < 256 := by intro c h; unfold nineN; split <;> omega
def shpS (s : List UInt8) : List UInt8 := mapB nineN s
/-- A digit. -/
def digB (c : Nat) : Bool := decide (48 ≤ c ∧ c ≤ 57)
theorem digB_t {c : Nat} : digB c = true ↔ (48 ≤ c ∧ c ≤ 57) := by simp [digB]
theorem digB_f {c : Nat} : digB c = false ↔ ¬ (48 ≤ c ∧ c ≤ 57) := by simp [digB]
theorem nine_57 {c : Nat} : nineN c = 57 ↔ (48 ≤ c ∧ c ≤ 57) := by unfold nineN; split <;> omega
theorem nine_id {c k : Nat} (h : ¬ (48 ≤ k ∧ k ≤ 57)) : nineN c = k ↔ c = k := by unfold nineN; split <;> omega
theorem shp_at {s : List UInt8} {j : Nat} (h : j < s.length) : byteAt (shpS s) j = nineN (byteAt s j) := byteAt_mapB nineN_lt h
theorem shp_one {s : List UInt8} : shpS s = [90] ↔ s = [90] := by
  constructor
  · intro h
    have hl : s.length = 1 := by rw [← mapB_len nineN s]; exact congrArg List.length h
    have h0 := shp_at (s := s) (j := 0) (by omega)
    rw [h] at h0
    have h1 : byteAt s 0 = 90 := (nine_id (by omega)).1 h0.symm
    exact ext_byteAt (by rw [hl]; rfl) (fun j hj => by
      have : j = 0 := by simp at hj; omega
      subst this; rw [h1]; rfl)
  · rintro rfl; rfl
theorem shp_three {s : List UInt8} {k : Nat} (hk : ¬ (48 ≤ k ∧ k ≤ 57)) (hk2 : k < 256) : shpS s = [UInt8.ofNat k, 57, 57] ↔ s.length = 3 ∧ byteAt s 0 = k ∧ (48 ≤ byteAt s 1 ∧ byteAt s 1 ≤ 57) ∧ (48 ≤ byteAt s 2 ∧ byteAt s 2 ≤ 57) := by
  have hk3 : byteAt [UInt8.ofNat k, 57, 57] 0 = k := by unfold byteAt; simp; omega
  constructor
  · intro h
    have hl : s.length = 3 := by rw [← mapB_len nineN s]; exact congrArg List.length h
    have h0 := shp_at (s := s) (j := 0) (by omega)
    have h1 := shp_at (s := s) (j := 1) (by omega)
    have h2 := shp_at (s := s) (j := 2) (by omega)
    rw [h] at h0 h1 h2
    rw [hk3] at h0
    exact ⟨hl, (nine_id hk).1 h0.symm, nine_57.1 h1.symm, nine_57.1 h2.symm⟩
  · rintro ⟨hl, h0, h1, h2⟩
    refine ext_byteAt (by rw [show (shpS s).length = _ from mapB_len _ _, hl]; rfl) (fun j hj => ?_)
    have hj : j < 3 := hj
    rw [shp_at (by omega)]
    match j, hj with
    | 0, _ => rw [hk3, h0, nine_id hk]
    | 1, _ => exact nine_57.2 h1
    | 2, _ => exact nine_57.2 h2
theorem shp_five {s : List UInt8} {k : Nat} (hk : ¬ (48 ≤ k ∧ k ≤ 57)) (hk2 : k < 256) : shpS s = [UInt8.ofNat k, 57, 57, 57, 57] ↔ s.length = 5 ∧ byteAt s 0 = k ∧ (48 ≤ byteAt s 1 ∧ byteAt s 1 ≤ 57) ∧ (48 ≤ byteAt s 2 ∧ byteAt s 2 ≤ 57) ∧ (48 ≤ byteAt s 3 ∧ byteAt s 3 ≤ 57) ∧ (48 ≤ byteAt s 4 ∧ byteAt s 4 ≤ 57) := by
  have hk3 : byteAt [UInt8.ofNat k, 57, 57, 57, 57] 0 = k := by unfold byteAt; simp; omega
  constructor
  · intro h
    have hl : s.length = 5 := by rw [← mapB_len nineN s]; exact congrArg List.length h
    have h0 := shp_at (s := s) (j := 0) (by omega)
    have h1 := shp_at (s := s) (j := 1) (by omega)
    have h2 := shp_at (s := s) (j := 2) (by omega)
    have h3 := shp_at (s := s) (j := 3) (by omega)
    have h4 := shp_at (s := s) (j := 4) (by omega)
    rw [h] at h0 h1 h2 h3 h4
    rw [hk3] at h0
    exact ⟨hl, (nine_id hk).1 h0.symm, nine_57.1 h1.symm, nine_57.1 h2.symm, nine_57.1 h3.symm, nine_57.1 h4.symm⟩
  · rintro ⟨hl, h0, h1, h2, h3, h4⟩
    refine ext_byteAt (by rw [show (shpS s).length = _ from mapB_len _ _, hl]; rfl) (fun j hj => ?_)
    have hj : j < 5 := hj
    rw [shp_at (by omega)]
    match j, hj with
    | 0, _ => rw [hk3, h0, nine_id hk]
    | 1, _ => exact nine_57.2 h1
    | 2, _ => exact nine_57.2 h2
    | 3, _ => exact nine_57.2 h3
    | 4, _ => exact nine_57.2 h4
/-- Minutes of hours and minutes, and what is wrong with them. -/
def hmV (neg : Bool) (h m : Int) : Int × Int := if 5 < m / 10 ∨ 840 < 60 * h + m then (0, 2) else (if neg then 0 - (60 * h + m) else 60 * h + m, 0)
def digN (s : List UInt8) (j : Nat) : Int := (byteAt s j : Int) - 48
def digAll (s : List UInt8) : Bool := allB (fun c => digB c.toNat) (s.drop 1)
/-- The minutes that a text is, and what is wrong with it. -/
def zoneV (s : List UInt8) : Int × Int :=
  if s = [90] then (0, 0)
  else if s.length = 3 ∧ (byteAt s 0 = 43 ∨ byteAt s 0 = 45) ∧ (digB (byteAt s 1) ∧ digB (byteAt s 2)) then hmV (decide (byteAt s 0 = 45)) (10 * digN s 1 + digN s 2) 0
  else if s.length = 5 ∧ (byteAt s 0 = 43 ∨ byteAt s 0 = 45) ∧ (digB (byteAt s 1) ∧ digB (byteAt s 2) ∧ digB (byteAt s 3) ∧ digB (byteAt s 4)) then hmV (decide (byteAt s 0 = 45)) (10 * digN s 1 + digN s 2) (10 * digN s 3 + digN s 4)
  else (0, 3)
def zoneX (s : List UInt8) : Err := if (zoneV s).2 = 0 then .none else .errno (zoneV s).2
set_option maxRecDepth 20000
set_option maxHeartbeats 4000000
set_option linter.unusedSimpArgs false
set_option linter.unusedVariables false
attribute [local irreducible] AWp AOps byteAt SrcOK OrOk GloAll FnSpec
theorem ref_shape {G : Glo} (s : List UInt8) (hl : s.length ≤ 9223372036854775807) : FnIs Tryd.prog G 92 [.str s] (.str (shpS s)) := by
  have hGL : GloAll G [] := gloAll_nil
  refine fn_x Tryd.func92 Tryd.call92 rfl rfl rfl rfl hGL ?_
  intro C hC
  have hw := fun c => ref_within (G := G) c 48 57
  repeat' (first
    | (conv => whnf); first
      | (apply ch_l; apply sp_i; first | exact rfl | omega | exact ⟨rfl, rfl, by omega⟩ | exact ⟨rfl, by omega⟩ | exact ⟨rfl, by omega, by omega, by omega⟩ | decide | (simp only [List.length_drop, List.length_take, List.length_append, List.length_set, List.length_cons, List.length_nil, OrOk] at *; omega) | (simp; omega))
      | (apply sp_i; first | exact rfl | omega | exact ⟨rfl, rfl, by omega⟩ | exact ⟨rfl, by omega⟩ | exact ⟨rfl, by omega, by omega, by omega⟩ | decide | (simp only [List.length_drop, List.length_take, List.length_append, List.length_set, List.length_cons, List.length_nil, OrOk] at *; omega) | (simp; omega))
      | (apply sc_true) | (apply sc_false)
      | (first | apply sc_lt | apply sc_nlt | apply sc_eq | apply sc_neq | apply sc_nil | apply sc_nnil | apply sc_seq | apply sc_nseq); all_goals (intro hb; try (first | (exfalso; omega) | exact absurd rfl hb | exact absurd hb (by decide) | exact absurd hb (by assumption) | exact absurd (by assumption) hb | (exfalso; simp only [List.length_cons, List.length_nil, List.length_append] at hb; omega)))
      | (apply sc_not) | (apply sc_or) | (apply sc_i; all_goals intro hb)
      | (first | apply ix_nat | apply ix_int); first | omega | (simp only [List.length_drop, List.length_take, List.length_append, List.length_set, List.length_cons, List.length_nil] at *; omega)
      | (apply bx_i; intro hbd)
      | (first | apply sd_nat | apply sd_int | apply sl_nat | apply sl_int); first | omega | (simp only [List.length_drop, List.length_take, List.length_append, List.length_set, List.length_cons, List.length_nil] at *; omega)
      | (apply cx_is; first | fail) | (apply cx_do (i := 0) rfl; first | fail)
      | (apply ab_i; intro bl) | (apply as_i; intro va vk vc) | (apply av_i; intro v) | (apply ac_i; intro bl cap hcap)
      | (apply bo_l) | (apply ch_r; apply sp_i; intro i hi; exact ⟨rfl, rfl, rfl⟩) | (apply nx_i; all_goals intro hnx)
      | (apply Ia.hit; assumption) | (apply Ia.miss; assumption)
      | (apply rt_is; exact rfl) | (apply rt_do; exact rfl; (repeat (first | exact List.nil_sublist _ | apply List.Sublist.cons_cons))) | (apply iv; assumption)
      | (apply dw_q mixed hC hGL (by kernel_rfl))
      | (apply cq; assumption; (first | fail); exact rfl))
  all_goals (try conv => whnf)
  refine lp hC hGL (fun (x : Nat × List UInt8) => [(3, .own 0 (.slice (some ⟨bl, 0, none⟩) s.length cap)), (8, .int .i64 s.length), (9, .int .i64 x.1)]) (fun x => [.buf bl x.2 cap]) (Mapd nineN s) (fun x => s.length - x.1) (0, s) ?_ (by repeat (first | exact trivial | refine And.intro rfl ?_)) rfl ?_
  · exact mapd_0
  rintro ⟨i, t⟩ hI
  have hi := hI.1
  have ht := hI.2.1
  dsimp only at hi ht ⊢
  repeat' (first
    | (conv => whnf); first
      | (apply ch_l; apply sp_i; first | exact rfl | omega | exact ⟨rfl, rfl, by omega⟩ | exact ⟨rfl, by omega⟩ | exact ⟨rfl, by omega, by omega, by omega⟩ | decide | (simp only [List.length_drop, List.length_take, List.length_append, List.length_set, List.length_cons, List.length_nil, OrOk] at *; omega) | (simp; omega))
      | (apply sp_i; first | exact rfl | omega | exact ⟨rfl, rfl, by omega⟩ | exact ⟨rfl, by omega⟩ | exact ⟨rfl, by omega, by omega, by omega⟩ | decide | (simp only [List.length_drop, List.length_take, List.length_append, List.length_set, List.length_cons, List.length_nil, OrOk] at *; omega) | (simp; omega))
      | (apply sc_true) | (apply sc_false)
      | (first | apply sc_lt | apply sc_nlt | apply sc_eq | apply sc_neq | apply sc_nil | apply sc_nnil | apply sc_seq | apply sc_nseq); all_goals (intro hb; try (first | (exfalso; omega) | exact absurd rfl hb | exact absurd hb (by decide) | exact absurd hb (by assumption) | exact absurd (by assumption) hb | (exfalso; simp only [List.length_cons, List.length_nil, List.length_append] at hb; omega)))
      | (apply sc_not) | (apply sc_or) | (apply sc_i; all_goals intro hb)
      | (first | apply ix_nat | apply ix_int); first | omega | (simp only [List.length_drop, List.length_take, List.length_append, List.length_set, List.length_cons, List.length_nil] at *; omega)
      | (apply bx_i; intro hbd)
      | (first | apply sd_nat | apply sd_int | apply sl_nat | apply sl_int); first | omega | (simp only [List.length_drop, List.length_take, List.length_append, List.length_set, List.length_cons, List.length_nil] at *; omega)
      | (apply cx_is; first | exact hw _) | (apply cx_do (i := 0) rfl; first | exact hw _)
      | (apply ab_i; intro bl) | (apply as_i; intro va vk vc) | (apply av_i; intro v) | (apply ac_i; intro bl cap hcap)
      | (apply bo_l) | (apply ch_r; apply sp_i; intro i hi; exact ⟨rfl, rfl, rfl⟩) | (apply nx_i; all_goals intro hnx)
      | (apply Ia.hit; assumption) | (apply Ia.miss; assumption)
      | (apply rt_is; exact rfl) | (apply rt_do; exact rfl; (repeat (first | exact List.nil_sublist _ | apply List.Sublist.cons_cons))) | (apply iv; assumption)
      | (apply dw_q mixed hC hGL (by kernel_rfl))
      | (apply cq; assumption; (first | exact hw _); exact rfl))
  all_goals (try conv => whnf)
  · have e := mapd_at hI (by omega)
    rw [e, Bool.and_eq_true, decide_eq_true_eq, decide_eq_true_eq] at hb
    refine nxt (i + 1, t.set i (UInt8.ofNat 57)) ?_ ?_ (by repeat (first | exact trivial | refine And.intro rfl ?_)) rfl
    · exact mapd_hit hI (by omega) (by unfold nineN; rw [if_pos (by omega)]) (by omega)
    · dsimp only; omega
  · have e := mapd_at hI (by omega)
    rw [e, Bool.and_eq_false_iff, decide_eq_false_iff_not, decide_eq_false_iff_not] at hb
    refine nxt (i + 1, t) ?_ ?_ (by repeat (first | exact trivial | refine And.intro rfl ?_)) rfl
    · exact mapd_miss hI (by omega) (by unfold nineN; rw [if_neg (by omega)])
    · dsimp only; omega
  · apply rt_is
    rw [mapd_end nineN_lt hI (by omega)]
    rfl
attribute [local irreducible] digB shpS
theorem z_ok {s : List UInt8} {v : Int} {H' : Heap} (h : zoneV s = (v, 0)) : Rt (fun (x : ARes) (H : Heap) => x = .ret (.tuple [.int .i64 (zoneV s).1, (zoneX s).A]) ∧ H = []) (.tuple [.int .i64 v, .raw .nilIface]) H' := by
  apply rt_is
  unfold zoneX
  rw [h, if_pos rfl]
  rfl
theorem z_err {s : List UInt8} {e : Int} {H' : Heap} (h : zoneV s = (0, e)) (he : e ≠ 0) : Rt (fun (x : ARes) (H : Heap) => x = .ret (.tuple [.int .i64 (zoneV s).1, (zoneX s).A]) ∧ H = []) (.tuple [.int .i64 0, .iface 26 (.int .i64 e)]) H' := by
  apply rt_is
  unfold zoneX
  rw [h, if_neg he]
  rfl
theorem zone_Parse {G : Glo} (s : List UInt8) (hl : s.length ≤ 9223372036854775807) : FnIs Tryd.prog G 40 [.str s] (.tuple [.int .i64 (zoneV s).1, (zoneX s).A]) := by
  have hGL : GloAll G [] := gloAll_nil
  refine fn_x Tryd.func40 Tryd.call40 rfl rfl rfl rfl hGL ?_
  intro C hC
  repeat' (first
    | (conv => whnf); first
      | (apply ch_l; apply sp_i; first | exact rfl | omega | exact ⟨rfl, rfl, by omega⟩ | exact ⟨rfl, by omega⟩ | exact ⟨rfl, by omega, by omega, by omega⟩ | decide | (simp only [List.length_drop, List.length_take, List.length_append, List.length_set, List.length_cons, List.length_nil, OrOk] at *; omega) | (simp; omega))
      | (apply sp_i; first | exact rfl | omega | exact ⟨rfl, rfl, by omega⟩ | exact ⟨rfl, by omega⟩ | exact ⟨rfl, by omega, by omega, by omega⟩ | decide | (simp only [List.length_drop, List.length_take, List.length_append, List.length_set, List.length_cons, List.length_nil, OrOk] at *; omega) | (simp; omega))
      | (apply sc_true) | (apply sc_false)
      | (first | apply sc_lt | apply sc_nlt | apply sc_eq | apply sc_neq | apply sc_nil | apply sc_nnil | apply sc_seq | apply sc_nseq); all_goals (intro hb; try (first | (exfalso; omega) | exact absurd rfl hb | exact absurd hb (by decide) | exact absurd hb (by assumption) | exact absurd (by assumption) hb | (exfalso; simp only [List.length_cons, List.length_nil, List.length_append] at hb; omega)))
      | (apply sc_not) | (apply sc_or) | (apply sc_i; all_goals intro hb)
      | (first | apply ix_nat | apply ix_int); first | omega | (simp only [List.length_drop, List.length_take, List.length_append, List.length_set, List.length_cons, List.length_nil] at *; omega)
      | (apply bx_i; intro hbd)
      | (first | apply sd_nat | apply sd_int | apply sl_nat | apply sl_int); first | omega | (simp only [List.length_drop, List.length_take, List.length_append, List.length_set, List.length_cons, List.length_nil] at *; omega)
      | (apply cx_is; first | fail) | (apply cx_do (i := 0) rfl; first | fail)
      | (apply ab_i; intro bl) | (apply as_i; intro va vk vc) | (apply av_i; intro v) | (apply ac_i; intro bl cap hcap)
      | (apply bo_l) | (apply ch_r; apply sp_i; intro i hi; exact ⟨rfl, rfl, rfl⟩) | (apply nx_i; all_goals intro hnx)
      | (apply Ia.hit; assumption) | (apply Ia.miss; assumption)
      | (apply rt_is; exact rfl) | (apply rt_do; exact rfl; (repeat (first | exact List.nil_sublist _ | apply List.Sublist.cons_cons))) | (apply iv; assumption)
      | (apply dw_q mixed hC hGL (by kernel_rfl))
      | (apply cq; assumption; (first | fail); exact rfl))
  all_goals (try conv => whnf)
  any_goals (refine rds hC hGL 5 ?_)
  repeat' (first
    | (conv => whnf); first
      | (apply ch_l; apply sp_i; first | exact rfl | omega | exact ⟨rfl, rfl, by omega⟩ | exact ⟨rfl, by omega⟩ | exact ⟨rfl, by omega, by omega, by omega⟩ | decide | (simp only [List.length_drop, List.length_take, List.length_append, List.length_set, List.length_cons, List.length_nil, OrOk] at *; omega) | (simp; omega))
      | (apply sp_i; first | exact rfl | omega | exact ⟨rfl, rfl, by omega⟩ | exact ⟨rfl, by omega⟩ | exact ⟨rfl, by omega, by omega, by omega⟩ | decide | (simp only [List.length_drop, List.length_take, List.length_append, List.length_set, List.length_cons, List.length_nil, OrOk] at *; omega) | (simp; omega))
      | (apply sc_true) | (apply sc_false)
      | (first | apply sc_lt | apply sc_nlt | apply sc_eq | apply sc_neq | apply sc_nil | apply sc_nnil | apply sc_seq | apply sc_nseq); all_goals (intro hb; try (first | (exfalso; omega) | exact absurd rfl hb | exact absurd hb (by decide) | exact absurd hb (by assumption) | exact absurd (by assumption) hb | (exfalso; simp only [List.length_cons, List.length_nil, List.length_append] at hb; omega)))
      | (apply sc_not) | (apply sc_or) | (apply sc_i; all_goals intro hb)
      | (first | apply ix_nat | apply ix_int); first | omega | (simp only [List.length_drop, List.length_take, List.length_append, List.length_set, List.length_cons, List.length_nil] at *; omega)
      | (apply bx_i; intro hbd)
      | (first | apply sd_nat | apply sd_int | apply sl_nat | apply sl_int); first | omega | (simp only [List.length_drop, List.length_take, List.length_append, List.length_set, List.length_cons, List.length_nil] at *; omega)
      | (apply cx_is; first | fail) | (apply cx_do (i := 0) rfl; first | fail)
      | (apply ab_i; intro bl) | (apply as_i; intro va vk vc) | (apply av_i; intro v) | (apply ac_i; intro bl cap hcap)
      | (apply bo_l) | (apply ch_r; apply sp_i; intro i hi; exact ⟨rfl, rfl, rfl⟩) | (apply nx_i; all_goals intro hnx)
      | (apply Ia.hit; assumption) | (apply Ia.miss; assumption)
      | (apply rt_is; exact rfl) | (apply rt_do; exact rfl; (repeat (first | exact List.nil_sublist _ | apply List.Sublist.cons_cons))) | (apply iv; assumption)
      | (apply dw_q mixed hC hGL (by kernel_rfl))
      | (apply cq; assumption; (first | fail); exact rfl))
  all_goals (try conv => whnf)
  all_goals first
    | (refine z_err ?_ (by decide)
       try simp only [Nat.zero_add, Nat.reduceAdd] at *
       unfold zoneV hmV digN
       rw [if_neg (by assumption)]
       simp only [digB_t, decide_eq_true_eq]
       (repeat' split) <;> simp only [Prod.mk.injEq, and_true, true_and] <;> omega)
    | (refine z_ok ?_; unfold zoneV; rw [if_pos (by assumption)]; done)
    | skip
  all_goals (
    refine z_ok ?_
    try simp only [Nat.zero_add, Nat.reduceAdd] at *
    unfold zoneV hmV digN
    rw [if_neg (by assumption)]
    simp only [digB_t, decide_eq_true_eq]
    (repeat' split) <;> simp only [Prod.mk.injEq, and_true, true_and] <;> omega)
theorem dd_atoi : ∀ a b : Fin 10, Lib.atoiAll [UInt8.ofNat (48 + a.1), UInt8.ofNat (48 + b.1)] = .ok ((10 * a.1 + b.1 : Nat) : Int) := by decide
theorem atoi_two {G : Glo} (s : List UInt8) (hl : s.length = 2) (h0 : 48 ≤ byteAt s 0 ∧ byteAt s 0 ≤ 57) (h1 : 48 ≤ byteAt s 1 ∧ byteAt s 1 ≤ 57) : FnIs Tryd.prog G 93 [.str s] (.tuple [.int .i64 (10 * digN s 0 + digN s 1), .raw .nilIface]) := by
  have e : s = [UInt8.ofNat (48 + (byteAt s 0 - 48)), UInt8.ofNat (48 + (byteAt s 1 - 48))] := by
    refine List.ext_getElem (by rw [hl]; rfl) (fun j j1 j2 => ?_)
    have hj : j < 2 := by simpa using j2
    match j, hj with
    | 0, _ =>
      simp only [List.getElem_cons_zero]
      rw [show 48 + (byteAt s 0 - 48) = byteAt s 0 by omega, byteAt_getElem (by omega)]
      simp
    | 1, _ =>
      simp only [List.getElem_cons_succ, List.getElem_cons_zero]
      rw [show 48 + (byteAt s 1 - 48) = byteAt s 1 by omega, byteAt_getElem (by omega)]
      simp
  have ha := dd_atoi ⟨byteAt s 0 - 48, by omega⟩ ⟨byteAt s 1 - 48, by omega⟩
  simp only at ha
  rw [← e] at ha
  have ev : ((10 * (byteAt s 0 - 48) + (byteAt s 1 - 48) : Nat) : Int) = 10 * digN s 0 + digN s 1 := by unfold digN; omega
  rw [ev] at ha
  refine fnis_of_calls_v (.tuple #[.int .i64 (10 * digN s 0 + digN s 1), .nilIface]) (fun R => rel_tup2 (rel_int.2 rfl) (rel_raw.2 rfl)) Tryd.call93 ?_
  intro R args hr w _ _
  obtain ⟨x, t, e', hx, rfl⟩ := hr
  obtain rfl := rel_str.1 hx
  obtain rfl := arr_of e'
  refine (Tryd.strconv_Atoi_ok ⟨s.toArray⟩ (by rw [str_size]; omega) _ (by simpa using ha) w).mono ?_
  rintro e w' ⟨rfl, hw⟩
  refine ⟨rfl, ?_⟩
  rcases hw with rfl | ⟨t, rfl⟩
  · exact Below.refl _ _
  · exact ⟨rfl, rfl, rfl, by rw [Lib.bytesWorld_size]; omega, fun k hk => Lib.bytesWorld_at_old _ _ _ _ hk⟩
theorem byteAt_drop {s : List UInt8} {k j : Nat} : byteAt (s.drop k) j = byteAt s (k + j) := by
  unfold byteAt
  simp [List.getD, List.getElem?_drop]
theorem hm_rt {neg : Bool} {h m a b : Int} {H' : Heap} (e : hmV neg h m = (a, b)) : Rt (fun (x : ARes) (H : Heap) => x = .ret (.tuple [.int .i64 (hmV neg h m).1, .int .i64 (hmV neg h m).2]) ∧ H = []) (.tuple [.int .i64 a, .int .i64 b]) H' := by
  apply rt_is
  rw [e]
theorem ref_ZoneParse_five {G : Glo} (s : List UInt8) (hl : s.length = 5) (hs : byteAt s 0 = 43 ∨ byteAt s 0 = 45) (h1 : 48 ≤ byteAt s 1 ∧ byteAt s 1 ≤ 57) (h2 : 48 ≤ byteAt s 2 ∧ byteAt s 2 ≤ 57) (h3 : 48 ≤ byteAt s 3 ∧ byteAt s 3 ≤ 57) (h4 : 48 ≤ byteAt s 4 ∧ byteAt s 4 ≤ 57) :
    FnIs Tryd.prog G 39 [.str s] (.tuple [.int .i64 (hmV (decide (byteAt s 0 = 45)) (10 * digN s 1 + digN s 2) (10 * digN s 3 + digN s 4)).1, .int .i64 (hmV (decide (byteAt s 0 = 45)) (10 * digN s 1 + digN s 2) (10 * digN s 3 + digN s 4)).2]) := by
  have hGL : GloAll G [] := gloAll_nil
  refine fn_x Tryd.func39 Tryd.call39 rfl rfl rfl rfl hGL ?_
  intro C hC
  have hsh := ref_shape (G := G) s (by omega)
  have e1 : (s.take 3).drop 1 = (s.drop 1).take 2 := by rw [List.take_drop]
  have a1 := atoi_two (G := G) ((s.take 3).drop 1) (by rw [List.length_drop, List.length_take]; omega) (by rw [byteAt_drop, byteAt_take (by omega)]; exact h1) (by rw [byteAt_drop, byteAt_take (by omega)]; exact h2)
  have a2 := atoi_two (G := G) (s.drop 3) (by rw [List.length_drop]; omega) (by rw [byteAt_drop]; exact h3) (by rw [byteAt_drop]; exact h4)
  have d1 : digN ((s.take 3).drop 1) 0 = digN s 1 := by unfold digN; rw [byteAt_drop, byteAt_take (by omega)]
  have d2 : digN ((s.take 3).drop 1) 1 = digN s 2 := by unfold digN; rw [byteAt_drop, byteAt_take (by omega)]
  have d3 : digN (s.drop 3) 0 = digN s 3 := by unfold digN; rw [byteAt_drop]
  have d4 : digN (s.drop 3) 1 = digN s 4 := by unfold digN; rw [byteAt_drop]
  rw [d1, d2] at a1
  rw [d3, d4] at a2
  have g1 : 0 ≤ digN s 1 ∧ digN s 1 ≤ 9 := by unfold digN; omega
  have g2 : 0 ≤ digN s 2 ∧ digN s 2 ≤ 9 := by unfold digN; omega
  have g3 : 0 ≤ digN s 3 ∧ digN s 3 ≤ 9 := by unfold digN; omega
  have g4 : 0 ≤ digN s 4 ∧ digN s 4 ≤ 9 := by unfold digN; omega
  have hz := fun n => ref_ZoneRight (G := G) n
  rcases hs with hs | hs
  · have hsp : shpS s = [43, 57, 57, 57, 57] := (shp_five (k := 43) (by omega) (by omega)).2 ⟨hl, hs, h1, h2, h3, h4⟩
    rw [hsp] at hsh
    repeat' (first
      | (conv => whnf); first
        | (apply ch_l; apply sp_i; first | exact rfl | omega | exact ⟨rfl, rfl, by omega⟩ | exact ⟨rfl, by omega⟩ | exact ⟨rfl, by omega, by omega, by omega⟩ | decide | (simp only [List.length_drop, List.length_take, List.length_append, List.length_set, List.length_cons, List.length_nil, OrOk] at *; omega) | (simp; omega))
        | (apply sp_i; first | exact rfl | omega | exact ⟨rfl, rfl, by omega⟩ | exact ⟨rfl, by omega⟩ | exact ⟨rfl, by omega, by omega, by omega⟩ | decide | (simp only [List.length_drop, List.length_take, List.length_append, List.length_set, List.length_cons, List.length_nil, OrOk] at *; omega) | (simp; omega))
        | (apply sc_true) | (apply sc_false)
        | (first | apply sc_lt | apply sc_nlt | apply sc_eq | apply sc_neq | apply sc_nil | apply sc_nnil | apply sc_seq | apply sc_nseq); all_goals (intro hb; try (first | (exfalso; omega) | exact absurd rfl hb | exact absurd hb (by decide) | exact absurd hb (by assumption) | exact absurd (by assumption) hb | (exfalso; simp only [List.length_cons, List.length_nil, List.length_append] at hb; omega)))
        | (apply sc_not) | (apply sc_or) | (apply sc_i; all_goals intro hb)
        | (first | apply ix_nat | apply ix_int); first | omega | (simp only [List.length_drop, List.length_take, List.length_append, List.length_set, List.length_cons, List.length_nil] at *; omega)
        | (apply bx_i; intro hbd)
        | (first | apply sd_nat | apply sd_int | apply sl_nat | apply sl_int); first | omega | (simp only [List.length_drop, List.length_take, List.length_append, List.length_set, List.length_cons, List.length_nil] at *; omega)
        | (apply cx_is; first | exact hsh | exact a1 | exact a2 | exact hz _) | (apply cx_do (i := 0) rfl; first | exact hsh | exact a1 | exact a2 | exact hz _)
        | (apply ab_i; intro bl) | (apply as_i; intro va vk vc) | (apply av_i; intro v) | (apply ac_i; intro bl cap hcap)
        | (apply bo_l) | (apply ch_r; apply sp_i; intro i hi; exact ⟨rfl, rfl, rfl⟩) | (apply nx_i; all_goals intro hnx)
        | (apply Ia.hit; assumption) | (apply Ia.miss; assumption)
        | (apply rt_is; exact rfl) | (apply rt_do; exact rfl; (repeat (first | exact List.nil_sublist _ | apply List.Sublist.cons_cons))) | (apply iv; assumption)
        | (apply dw_q mixed hC hGL (by kernel_rfl))
        | (apply cq; assumption; (first | exact hsh | exact a1 | exact a2 | exact hz _); exact rfl))
    all_goals (try conv => whnf)
    all_goals (
      refine hm_rt ?_
      try simp only [zrB_t, zrB_f] at *
      unfold hmV
      simp only [decide_eq_true_eq]
      (repeat' split) <;> first | (exfalso; omega) | exact rfl)
  · have hsp : shpS s = [45, 57, 57, 57, 57] := (shp_five (k := 45) (by omega) (by omega)).2 ⟨hl, hs, h1, h2, h3, h4⟩
    rw [hsp] at hsh
    repeat' (first
      | (conv => whnf); first
        | (apply ch_l; apply sp_i; first | exact rfl | omega | exact ⟨rfl, rfl, by omega⟩ | exact ⟨rfl, by omega⟩ | exact ⟨rfl, by omega, by omega, by omega⟩ | decide | (simp only [List.length_drop, List.length_take, List.length_append, List.length_set, List.length_cons, List.length_nil, OrOk] at *; omega) | (simp; omega))
        | (apply sp_i; first | exact rfl | omega | exact ⟨rfl, rfl, by omega⟩ | exact ⟨rfl, by omega⟩ | exact ⟨rfl, by omega, by omega, by omega⟩ | decide | (simp only [List.length_drop, List.length_take, List.length_append, List.length_set, List.length_cons, List.length_nil, OrOk] at *; omega) | (simp; omega))
        | (apply sc_true) | (apply sc_false)
        | (first | apply sc_lt | apply sc_nlt | apply sc_eq | apply sc_neq | apply sc_nil | apply sc_nnil | apply sc_seq | apply sc_nseq); all_goals (intro hb; try (first | (exfalso; omega) | exact absurd rfl hb | exact absurd hb (by decide) | exact absurd hb (by assumption) | exact absurd (by assumption) hb | (exfalso; simp only [List.length_cons, List.length_nil, List.length_append] at hb; omega)))
        | (apply sc_not) | (apply sc_or) | (apply sc_i; all_goals intro hb)
        | (first | apply ix_nat | apply ix_int); first | omega | (simp only [List.length_drop, List.length_take, List.length_append, List.length_set, List.length_cons, List.length_nil] at *; omega)
        | (apply bx_i; intro hbd)
        | (first | apply sd_nat | apply sd_int | apply sl_nat | apply sl_int); first | omega | (simp only [List.length_drop, List.length_take, List.length_append, List.length_set, List.length_cons, List.length_nil] at *; omega)
        | (apply cx_is; first | exact hsh | exact a1 | exact a2 | exact hz _) | (apply cx_do (i := 0) rfl; first | exact hsh | exact a1 | exact a2 | exact hz _)
        | (apply ab_i; intro bl) | (apply as_i; intro va vk vc) | (apply av_i; intro v) | (apply ac_i; intro bl cap hcap)
        | (apply bo_l) | (apply ch_r; apply sp_i; intro i hi; exact ⟨rfl, rfl, rfl⟩) | (apply nx_i; all_goals intro hnx)
        | (apply Ia.hit; assumption) | (apply Ia.miss; assumption)
        | (apply rt_is; exact rfl) | (apply rt_do; exact rfl; (repeat (first | exact List.nil_sublist _ | apply List.Sublist.cons_cons))) | (apply iv; assumption)
        | (apply dw_q mixed hC hGL (by kernel_rfl))
        | (apply cq; assumption; (first | exact hsh | exact a1 | exact a2 | exact hz _); exact rfl))
    all_goals (try conv => whnf)
    all_goals (
      refine hm_rt ?_
      try simp only [zrB_t, zrB_f] at *
      unfold hmV
      simp only [decide_eq_true_eq]
      (repeat' split) <;> first | (exfalso; omega) | exact rfl)
theorem ref_ZoneParse {G : Glo} (s : List UInt8) (hl : s.length ≤ 9223372036854775000) : FnIs Tryd.prog G 39 [.str s] (.tuple [.int .i64 (zoneV s).1, .int .i64 (zoneV s).2]) := by
  by_cases h5 : s.length = 5 ∧ (byteAt s 0 = 43 ∨ byteAt s 0 = 45) ∧ (digB (byteAt s 1) ∧ digB (byteAt s 2) ∧ digB (byteAt s 3) ∧ digB (byteAt s 4))
  · obtain ⟨hl5, hs, h1, h2, h3, h4⟩ := h5
    have e : zoneV s = hmV (decide (byteAt s 0 = 45)) (10 * digN s 1 + digN s 2) (10 * digN s 3 + digN s 4) := by
      unfold zoneV
      rw [if_neg (by rintro rfl; simp at hl5), if_neg (by omega), if_pos ⟨hl5, hs, h1, h2, h3, h4⟩]
    rw [e]
    exact ref_ZoneParse_five s hl5 hs (digB_t.1 h1) (digB_t.1 h2) (digB_t.1 h3) (digB_t.1 h4)
  have n43 : shpS s ≠ [43, 57, 57, 57, 57] := fun h => by
    have h := (shp_five (k := 43) (by omega) (by omega)).1 h
    exact h5 ⟨h.1, .inl h.2.1, digB_t.2 h.2.2.1, digB_t.2 h.2.2.2.1, digB_t.2 h.2.2.2.2.1, digB_t.2 h.2.2.2.2.2⟩
  have n45 : shpS s ≠ [45, 57, 57, 57, 57] := fun h => by
    have h := (shp_five (k := 45) (by omega) (by omega)).1 h
    exact h5 ⟨h.1, .inr h.2.1, digB_t.2 h.2.2.1, digB_t.2 h.2.2.2.1, digB_t.2 h.2.2.2.2.1, digB_t.2 h.2.2.2.2.2⟩
  have hGL : GloAll G [] := gloAll_nil
  refine fn_x Tryd.func39 Tryd.call39 rfl rfl rfl rfl hGL ?_
  intro C hC
  have hsh := ref_shape (G := G) s (by omega)
  by_cases h3 : s.length = 3 ∧ (byteAt s 0 = 43 ∨ byteAt s 0 = 45) ∧ (digB (byteAt s 1) ∧ digB (byteAt s 2))
  · obtain ⟨hl3, hs, h1, h2⟩ := h3
    have g : ∀ j, j < 3 → byteAt (s ++ [48, 48]) j = byteAt s j := fun j hj => by unfold byteAt; simp [List.getD, List.getElem?_append, show j < s.length by omega]
    have g3 : byteAt (s ++ [48, 48]) 3 = 48 := by unfold byteAt; simp [List.getD, List.getElem?_append, hl3]
    have g4 : byteAt (s ++ [48, 48]) 4 = 48 := by unfold byteAt; simp [List.getD, List.getElem?_append, hl3]
    have hr := ref_ZoneParse_five (G := G) (s ++ [48, 48]) (by rw [List.length_append, hl3]; rfl) (by rw [g 0 (by omega)]; exact hs) (by rw [g 1 (by omega)]; exact digB_t.1 h1) (by rw [g 2 (by omega)]; exact digB_t.1 h2) (by rw [g3]; omega) (by rw [g4]; omega)
    have d1 : digN (s ++ [48, 48]) 1 = digN s 1 := by unfold digN; rw [g 1 (by omega)]
    have d2 : digN (s ++ [48, 48]) 2 = digN s 2 := by unfold digN; rw [g 2 (by omega)]
    have d3 : digN (s ++ [48, 48]) 3 = 0 := by unfold digN; rw [g3]; rfl
    have d4 : digN (s ++ [48, 48]) 4 = 0 := by unfold digN; rw [g4]; rfl
    have e : zoneV s = hmV (decide (byteAt s 0 = 45)) (10 * digN s 1 + digN s 2) 0 := by
      unfold zoneV
      rw [if_neg (by rintro rfl; simp at hl3), if_pos ⟨hl3, hs, h1, h2⟩]
    rw [d1, d2, d3, d4, g 0 (by omega), show (10 * 0 + 0 : Int) = 0 from rfl, ← e] at hr
    have hsh' : shpS s = [43, 57, 57] ∨ shpS s = [45, 57, 57] := by
      rcases hs with hs | hs
      · exact .inl ((shp_three (k := 43) (by omega) (by omega)).2 ⟨hl3, hs, digB_t.1 h1, digB_t.1 h2⟩)
      · exact .inr ((shp_three (k := 45) (by omega) (by omega)).2 ⟨hl3, hs, digB_t.1 h1, digB_t.1 h2⟩)
    rcases hsh' with hsh' | hsh'
    all_goals (
      rw [hsh'] at hsh
      repeat' (first
        | (conv => whnf); first
          | (apply ch_l; apply sp_i; first | exact rfl | omega | exact ⟨rfl, rfl, by omega⟩ | exact ⟨rfl, by omega⟩ | exact ⟨rfl, by omega, by omega, by omega⟩ | decide | (simp only [List.length_drop, List.length_take, List.length_append, List.length_set, List.length_cons, List.length_nil, OrOk] at *; omega) | (simp; omega))
          | (apply sp_i; first | exact rfl | omega | exact ⟨rfl, rfl, by omega⟩ | exact ⟨rfl, by omega⟩ | exact ⟨rfl, by omega, by omega, by omega⟩ | decide | (simp only [List.length_drop, List.length_take, List.length_append, List.length_set, List.length_cons, List.length_nil, OrOk] at *; omega) | (simp; omega))
          | (apply sc_true) | (apply sc_false)
          | (first | apply sc_lt | apply sc_nlt | apply sc_eq | apply sc_neq | apply sc_nil | apply sc_nnil | apply sc_seq | apply sc_nseq); all_goals (intro hb; try (first | (exfalso; omega) | exact absurd rfl hb | exact absurd hb (by decide) | exact absurd hb (by assumption) | exact absurd (by assumption) hb | (exfalso; simp only [List.length_cons, List.length_nil, List.length_append] at hb; omega)))
          | (apply sc_not) | (apply sc_or) | (apply sc_i; all_goals intro hb)
          | (first | apply ix_nat | apply ix_int); first | omega | (simp only [List.length_drop, List.length_take, List.length_append, List.length_set, List.length_cons, List.length_nil] at *; omega)
          | (apply bx_i; intro hbd)
          | (first | apply sd_nat | apply sd_int | apply sl_nat | apply sl_int); first | omega | (simp only [List.length_drop, List.length_take, List.length_append, List.length_set, List.length_cons, List.length_nil] at *; omega)
          | (apply cx_is; first | exact hsh | exact hr) | (apply cx_do (i := 0) rfl; first | exact hsh | exact hr)
          | (apply ab_i; intro bl) | (apply as_i; intro va vk vc) | (apply av_i; intro v) | (apply ac_i; intro bl cap hcap)
          | (apply bo_l) | (apply ch_r; apply sp_i; intro i hi; exact ⟨rfl, rfl, rfl⟩) | (apply nx_i; all_goals intro hnx)
          | (apply Ia.hit; assumption) | (apply Ia.miss; assumption)
          | (apply rt_is; exact rfl) | (apply rt_do; exact rfl; (repeat (first | exact List.nil_sublist _ | apply List.Sublist.cons_cons))) | (apply iv; assumption)
          | (apply dw_q mixed hC hGL (by kernel_rfl))
          | (apply cq; assumption; (first | exact hsh | exact hr); exact rfl))
      all_goals (try conv => whnf))
  have m43 : shpS s ≠ [43, 57, 57] := fun h => by
    have h := (shp_three (k := 43) (by omega) (by omega)).1 h
    exact h3 ⟨h.1, .inl h.2.1, digB_t.2 h.2.2.1, digB_t.2 h.2.2.2⟩
  have m45 : shpS s ≠ [45, 57, 57] := fun h => by
    have h := (shp_three (k := 45) (by omega) (by omega)).1 h
    exact h3 ⟨h.1, .inr h.2.1, digB_t.2 h.2.2.1, digB_t.2 h.2.2.2⟩
  have e : zoneV s = if s = [90] then (0, 0) else (0, 3) := by
    unfold zoneV
    rw [if_neg h3, if_neg h5]
  rw [e]
  repeat' (first
    | (conv => whnf); first
      | (apply ch_l; apply sp_i; first | exact rfl | omega | exact ⟨rfl, rfl, by omega⟩ | exact ⟨rfl, by omega⟩ | exact ⟨rfl, by omega, by omega, by omega⟩ | decide | (simp only [List.length_drop, List.length_take, List.length_append, List.length_set, List.length_cons, List.length_nil, OrOk] at *; omega) | (simp; omega))
      | (apply sp_i; first | exact rfl | omega | exact ⟨rfl, rfl, by omega⟩ | exact ⟨rfl, by omega⟩ | exact ⟨rfl, by omega, by omega, by omega⟩ | decide | (simp only [List.length_drop, List.length_take, List.length_append, List.length_set, List.length_cons, List.length_nil, OrOk] at *; omega) | (simp; omega))
      | (apply sc_true) | (apply sc_false)
      | (first | apply sc_lt | apply sc_nlt | apply sc_eq | apply sc_neq | apply sc_nil | apply sc_nnil | apply sc_seq | apply sc_nseq); all_goals (intro hb; try (first | (exfalso; omega) | exact absurd rfl hb | exact absurd hb (by decide) | exact absurd hb (by assumption) | exact absurd (by assumption) hb | (exfalso; simp only [List.length_cons, List.length_nil, List.length_append] at hb; omega)))
      | (apply sc_not) | (apply sc_or) | (apply sc_i; all_goals intro hb)
      | (first | apply ix_nat | apply ix_int); first | omega | (simp only [List.length_drop, List.length_take, List.length_append, List.length_set, List.length_cons, List.length_nil] at *; omega)
      | (apply bx_i; intro hbd)
      | (first | apply sd_nat | apply sd_int | apply sl_nat | apply sl_int); first | omega | (simp only [List.length_drop, List.length_take, List.length_append, List.length_set, List.length_cons, List.length_nil] at *; omega)
      | (apply cx_is; first | exact hsh) | (apply cx_do (i := 0) rfl; first | exact hsh)
      | (apply ab_i; intro bl) | (apply as_i; intro va vk vc) | (apply av_i; intro v) | (apply ac_i; intro bl cap hcap)
      | (apply bo_l) | (apply ch_r; apply sp_i; intro i hi; exact ⟨rfl, rfl, rfl⟩) | (apply nx_i; all_goals intro hnx)
      | (apply Ia.hit; assumption) | (apply Ia.miss; assumption)
      | (apply rt_is; exact rfl) | (apply rt_do; exact rfl; (repeat (first | exact List.nil_sublist _ | apply List.Sublist.cons_cons))) | (apply iv; assumption)
      | (apply dw_q mixed hC hGL (by kernel_rfl))
      | (apply cq; assumption; (first | exact hsh); exact rfl))
  all_goals (try conv => whnf)
  · apply rt_is
    rw [if_pos (shp_one.1 hb)]
    rfl
  · apply rt_is
    rw [if_neg (fun h => absurd (shp_one.2 h) (by assumption))]
    rfl
theorem zoneX_e (s : List UInt8) : (zoneX s).e = (zoneV s).2 := by unfold zoneX; split <;> simp_all [Err.e]
theorem zoneX_p (s : List UInt8) : (zoneX s).p = -1 := by unfold zoneX; split <;> rfl
theorem zprE_p (n : Int) : (zprE n).p = -1 := by unfold zprE; split <;> rfl
theorem law_ZoneTurns {G : Glo} (hU2 : GloAll G errTy) (n : Int) (s : List UInt8) (hl : s.length ≤ 9223372036854775807) : FnIs Tryd.prog G 8 [.int .i64 n, .str s] (.bool true) := by
  have hGL : GloAll G [] := gloAll_nil
  refine fn_x Tryd.func8 Tryd.call8 rfl rfl rfl rfl hGL ?_
  intro C hC
  have e1 := ref_ZonePrint (G := G) n
  have e2 := zone_Print (G := G) n
  have e3 := fun h => ref_ZoneParse (G := G) s h
  have e4 := zone_Parse (G := G) s hl
  have e5 := law_bare hU2 (zprE n) (zprE n).e
  have e6 := law_bare hU2 (zoneX s) (zoneX s).e
  rw [← unown_uri] at e5 e6
  rw [← zoneX_e] at e3
  have e7 := zone_Right (G := G) n
  have e8 := ref_ZoneRight (G := G) n
  repeat' (first
    | (conv => whnf); first
      | (apply ch_l; apply sp_i; first | exact rfl | omega | exact ⟨rfl, rfl, by omega⟩ | exact ⟨rfl, by omega⟩ | exact ⟨rfl, by omega, by omega, by omega⟩ | decide | (simp only [List.length_drop, List.length_take, List.length_append, List.length_set, List.length_cons, List.length_nil, OrOk] at *; omega) | (simp; omega))
      | (apply sp_i; first | exact rfl | omega | exact ⟨rfl, rfl, by omega⟩ | exact ⟨rfl, by omega⟩ | exact ⟨rfl, by omega, by omega, by omega⟩ | decide | (simp only [List.length_drop, List.length_take, List.length_append, List.length_set, List.length_cons, List.length_nil, OrOk] at *; omega) | (simp; omega))
      | (apply sc_true) | (apply sc_false)
      | (first | apply sc_lt | apply sc_nlt | apply sc_eq | apply sc_neq | apply sc_nil | apply sc_nnil | apply sc_seq | apply sc_nseq); all_goals (intro hb; try (first | (exfalso; omega) | exact absurd rfl hb | exact absurd hb (by decide) | exact absurd hb (by assumption) | exact absurd (by assumption) hb | (exfalso; simp only [List.length_cons, List.length_nil, List.length_append] at hb; omega)))
      | (apply sc_not) | (apply sc_or) | (apply sc_i; all_goals intro hb)
      | (first | apply ix_nat | apply ix_int); first | omega | (simp only [List.length_drop, List.length_take, List.length_append, List.length_set, List.length_cons, List.length_nil] at *; omega)
      | (apply bx_i; intro hbd)
      | (first | apply sd_nat | apply sd_int | apply sl_nat | apply sl_int); first | omega | (simp only [List.length_drop, List.length_take, List.length_append, List.length_set, List.length_cons, List.length_nil] at *; omega)
      | (apply cx_is; first | exact e1 | exact e2 | exact e3 (by omega) | exact e4 | exact e5 | exact e6 | exact e7 | exact e8) | (apply cx_do (i := 0) rfl; first | exact e1 | exact e2 | exact e3 (by omega) | exact e4 | exact e5 | exact e6 | exact e7 | exact e8)
      | (apply ab_i; intro bl) | (apply as_i; intro va vk vc) | (apply av_i; intro v) | (apply ac_i; intro bl cap hcap)
      | (apply bo_l) | (apply ch_r; apply sp_i; intro i hi; exact ⟨rfl, rfl, rfl⟩) | (apply nx_i; all_goals intro hnx)
      | (apply Ia.hit; assumption) | (apply Ia.miss; assumption)
      | (apply rt_is; exact rfl) | (apply rt_do; exact rfl; (repeat (first | exact List.nil_sublist _ | apply List.Sublist.cons_cons))) | (apply iv; assumption)
      | (apply dw_q mixed hC hGL (by kernel_rfl))
      | (apply cq; assumption; (first | exact e1 | exact e2 | exact e3 (by omega) | exact e4 | exact e5 | exact e6 | exact e7 | exact e8); exact rfl))
  all_goals (try conv => whnf)
  · apply rt_is
    simp only [beq_self_eq_true]
  all_goals (simp [show ∀ a, eqB a a = true from fun _ => eqB_t.2 rfl, zoneX_p, zprE_p] at hb)
end Go.Proofs.YtlmihggafbmkaaaDoor
