/- Parts of the proof of whenParses_card: Zop, Scu, Wpa, Uf, Vr, Bw, Bx, Wpb, Dc, End, Han, Wpc, Deg, Deh, Slc, Wpd. -/
import Derived.Lib.AtoiAll
import Derived.Lib.Builder
import Derived.Lib.UnsafeStr
import Derived.Scope
import Derived.Lib.IndexAny
import Derived.Lib.MapLaws
import GoSem.PinnedTables
import Derived.Test.YtjedjiffaopmkaaGreatDoorRows
import Derived.ProofKit
import Derived.LaidMore
import Derived.Lay
import Derived.Stop.Joined
import Derived.LaidSub
import Derived.LaidHandle
import Derived.OpenShut
import Derived.Shelf.Unicode.DecodeSlow
import Derived.Lib.LastIndexByte
import Derived.Lib.Replace
import Derived.Defers
import Derived.Recover
import Derived.Test.YtjedjiffaopmkaaGreatDoorBae
import Derived.Test.YtjedjiffaopmkaaGreatDoorBad
set_option linter.unusedVariables false
set_option linter.unusedSimpArgs false
namespace Go.Proofs.YtjedjiffaopmkaaGreatDoor
open Go Go.RowKit
/-- A map of bytes, done up to a place. -/
def mapB (f : Nat → Nat) (s : List UInt8) : List UInt8 := s.map fun c => UInt8.ofNat (f c.toNat)
theorem mapB_len (f : Nat → Nat) (s : List UInt8) : (mapB f s).length = s.length := by simp [mapB]
theorem byteAt_mapB {f : Nat → Nat} (hf : ∀ c, c < 256 → f c < 256) {s : List UInt8} {j : Nat} (h : j < s.length) : byteAt (mapB f s) j = f (byteAt s j) := by
  have e1 : byteAt (mapB f s) j = (UInt8.ofNat (f s[j].toNat)).toNat := by simp [byteAt, mapB, List.getD, h]
  rw [e1, byteAt_getElem h, UInt8.toNat_ofNat']
  have := hf _ (UInt8.toNat_lt s[j])
  omega
def Mapd (f : Nat → Nat) (s : List UInt8) (x : Nat × List UInt8) : Prop :=
  x.1 ≤ s.length ∧ x.2.length = s.length ∧ ∀ j, j < s.length → byteAt x.2 j = if j < x.1 then f (byteAt s j) else byteAt s j
theorem mapd_0 {f : Nat → Nat} {s : List UInt8} : Mapd f s (0, s) := ⟨Nat.zero_le _, rfl, fun j _ => by rw [if_neg (by simp)]⟩
theorem mapd_at {f : Nat → Nat} {s : List UInt8} {i : Nat} {t : List UInt8} (h : Mapd f s (i, t)) (hi : i < s.length) : byteAt t i = byteAt s i := by
  have := h.2.2 i hi
  rwa [if_neg (by simp)] at this
theorem mapd_hit {f : Nat → Nat} {s : List UInt8} {i : Nat} {t : List UInt8} (h : Mapd f s (i, t)) (hi : i < s.length) {m : Nat} (hm : m = f (byteAt s i)) (h1 : m < 256) : Mapd f s (i + 1, t.set i (UInt8.ofNat m)) := by
  obtain ⟨h2, h3, h4⟩ := h
  refine ⟨hi, by simp only [List.length_set]; exact h3, fun j hj => ?_⟩
  dsimp only at *
  have hb : byteAt (t.set i (UInt8.ofNat m)) j = if j = i then m else byteAt t j := by
    unfold byteAt
    by_cases e : j = i
    · subst e
      rw [if_pos rfl]
      simp only [List.getD, List.getElem?_set_self (show j < t.length by omega), Option.getD_some]
      rw [UInt8.toNat_ofNat']; omega
    · rw [if_neg e]
      simp only [List.getD, List.getElem?_set_ne (Ne.symm e)]
  rw [hb]
  by_cases e : j = i
  · subst e; rw [if_pos rfl, if_pos (by omega), hm]
  · rw [if_neg e, h4 j hj]
    by_cases e2 : j < i
    · rw [if_pos e2, if_pos (by omega)]
    · rw [if_neg e2, if_neg (by omega)]
theorem mapd_miss {f : Nat → Nat} {s : List UInt8} {i : Nat} {t : List UInt8} (h : Mapd f s (i, t)) (hi : i < s.length) (hm : f (byteAt s i) = byteAt s i) : Mapd f s (i + 1, t) := by
  refine ⟨hi, h.2.1, fun j hj => ?_⟩
  have := h.2.2 j hj
  dsimp only at *
  rw [this]
  by_cases e : j = i
  · subst e; rw [if_neg (by omega), if_pos (by omega), hm]
  · by_cases e2 : j < i
    · rw [if_pos e2, if_pos (by omega)]
    · rw [if_neg e2, if_neg (by omega)]
theorem mapd_end {f : Nat → Nat} (hf : ∀ c, c < 256 → f c < 256) {s : List UInt8} {i : Nat} {t : List UInt8} (h : Mapd f s (i, t)) (hi : s.length ≤ i) : t = mapB f s := by
  refine ext_byteAt (by rw [mapB_len]; exact h.2.1) (fun j hj => ?_)
  rw [mapB_len] at hj
  rw [byteAt_mapB hf hj, h.2.2 j hj, if_pos (show j < i by omega)]
/-- A 9 for each digit. -/
def nineN (c : Nat) : Nat := if 48 ≤ c ∧ c ≤ 57 then 57 else c
theorem nineN_lt : ∀ c, c < 256 → nineN c < 256 := by intro c h; unfold nineN; split <;> omega
def shpS (s : List UInt8) : List UInt8 := mapB nineN s
/-- A digit. -/
def digB (c : Nat) : Bool := decide (48 ≤ c ∧ c ≤ 57)
theorem digB_t {c : Nat} : digB c = true ↔ (48 ≤ c ∧ c ≤ 57) := by simp [digB]
theorem nine_57 {c : Nat} : nineN c = 57 ↔ (48 ≤ c ∧ c ≤ 57) := by unfold nineN; split <;> omega
theorem nine_id {c k : Nat} (h : ¬ (48 ≤ k ∧ k ≤ 57)) : nineN c = k ↔ c = k := by unfold nineN; split <;> omega
theorem shp_at {s : List UInt8} {j : Nat} (h : j < s.length) : byteAt (shpS s) j = nineN (byteAt s j) := byteAt_mapB nineN_lt h
theorem shp_one {s : List UInt8} : shpS s = [90] ↔ s = [90] := by
  constructor
  · intro h
    have hl : s.length = 1 := by rw [← mapB_len nineN s]; exact congrArg List.length h
    have h0 := shp_at (s := s) (j := 0) (by omega)
    rw [h] at h0
    have h1 : byteAt s 0 = 90 := (nine_id (by omega)).1 h0.symm
    exact ext_byteAt (by rw [hl]; rfl) (fun j hj => by
      have : j = 0 := by simp at hj; omega
      subst this; rw [h1]; rfl)
  · rintro rfl; rfl
theorem shp_three {s : List UInt8} {k : Nat} (hk : ¬ (48 ≤ k ∧ k ≤ 57)) (hk2 : k < 256) : shpS s = [UInt8.ofNat k, 57, 57] ↔ s.length = 3 ∧ byteAt s 0 = k ∧ (48 ≤ byteAt s 1 ∧ byteAt s 1 ≤ 57) ∧ (48 ≤ byteAt s 2 ∧ byteAt s 2 ≤ 57) := by
  have hk3 : byteAt [UInt8.ofNat k, 57, 57] 0 = k := by unfold byteAt; simp; omega
  constructor
  · intro h
    have hl : s.length = 3 := by rw [← mapB_len nineN s]; exact congrArg List.length h
    have h0 := shp_at (s := s) (j := 0) (by omega)
    have h1 := shp_at (s := s) (j := 1) (by omega)
    have h2 := shp_at (s := s) (j := 2) (by omega)
    rw [h] at h0 h1 h2
    rw [hk3] at h0
    exact ⟨hl, (nine_id hk).1 h0.symm, nine_57.1 h1.symm, nine_57.1 h2.symm⟩
  · rintro ⟨hl, h0, h1, h2⟩
    refine ext_byteAt (by rw [show (shpS s).length = _ from mapB_len _ _, hl]; rfl) (fun j hj => ?_)
    have hj : j < 3 := hj
    rw [shp_at (by omega)]
    match j, hj with
    | 0, _ => rw [hk3, h0, nine_id hk]
    | 1, _ => exact nine_57.2 h1
    | 2, _ => exact nine_57.2 h2
theorem shp_five {s : List UInt8} {k : Nat} (hk : ¬ (48 ≤ k ∧ k ≤ 57)) (hk2 : k < 256) : shpS s = [UInt8.ofNat k, 57, 57, 57, 57] ↔ s.length = 5 ∧ byteAt s 0 = k ∧ (48 ≤ byteAt s 1 ∧ byteAt s 1 ≤ 57) ∧ (48 ≤ byteAt s 2 ∧ byteAt s 2 ≤ 57) ∧ (48 ≤ byteAt s 3 ∧ byteAt s 3 ≤ 57) ∧ (48 ≤ byteAt s 4 ∧ byteAt s 4 ≤ 57) := by
  have hk3 : byteAt [UInt8.ofNat k, 57, 57, 57, 57] 0 = k := by unfold byteAt; simp; omega
  constructor
  · intro h
    have hl : s.length = 5 := by rw [← mapB_len nineN s]; exact congrArg List.length h
    have h0 := shp_at (s := s) (j := 0) (by omega)
    have h1 := shp_at (s := s) (j := 1) (by omega)
    have h2 := shp_at (s := s) (j := 2) (by omega)
    have h3 := shp_at (s := s) (j := 3) (by omega)
    have h4 := shp_at (s := s) (j := 4) (by omega)
    rw [h] at h0 h1 h2 h3 h4
    rw [hk3] at h0
    exact ⟨hl, (nine_id hk).1 h0.symm, nine_57.1 h1.symm, nine_57.1 h2.symm, nine_57.1 h3.symm, nine_57.1 h4.symm⟩
  · rintro ⟨hl, h0, h1, h2, h3, h4⟩
    refine ext_byteAt (by rw [show (shpS s).length = _ from mapB_len _ _, hl]; rfl) (fun j hj => ?_)
    have hj : j < 5 := hj
    rw [shp_at (by omega)]
    match j, hj with
    | 0, _ => rw [hk3, h0, nine_id hk]
    | 1, _ => exact nine_57.2 h1
    | 2, _ => exact nine_57.2 h2
    | 3, _ => exact nine_57.2 h3
    | 4, _ => exact nine_57.2 h4
/-- Minutes of hours and minutes, and what is wrong with them. -/
def hmV (neg : Bool) (h m : Int) : Int × Int := if 5 < m / 10 ∨ 840 < 60 * h + m then (0, 2) else (if neg then 0 - (60 * h + m) else 60 * h + m, 0)
def digN (s : List UInt8) (j : Nat) : Int := (byteAt s j : Int) - 48
/-- The minutes that a text is, and what is wrong with it. -/
def zoneV (s : List UInt8) : Int × Int :=
  if s = [90] then (0, 0)
  else if s.length = 3 ∧ (byteAt s 0 = 43 ∨ byteAt s 0 = 45) ∧ (digB (byteAt s 1) ∧ digB (byteAt s 2)) then hmV (decide (byteAt s 0 = 45)) (10 * digN s 1 + digN s 2) 0
  else if s.length = 5 ∧ (byteAt s 0 = 43 ∨ byteAt s 0 = 45) ∧ (digB (byteAt s 1) ∧ digB (byteAt s 2) ∧ digB (byteAt s 3) ∧ digB (byteAt s 4)) then hmV (decide (byteAt s 0 = 45)) (10 * digN s 1 + digN s 2) (10 * digN s 3 + digN s 4)
  else (0, 3)
def zoneX (s : List UInt8) : Err := if (zoneV s).2 = 0 then .none else .errno (zoneV s).2
set_option maxRecDepth 20000
set_option maxHeartbeats 4000000
set_option linter.unusedSimpArgs false
set_option linter.unusedVariables false
attribute [local irreducible] AWp AOps byteAt SrcOK OrOk GloAll FnSpec
theorem ref_shape {G : Glo} (s : List UInt8) (hl : s.length ≤ 9223372036854775807) : FnIs Tryz.prog G 8 [.str s] (.str (shpS s)) := by
  have hGL : GloAll G [] := gloAll_nil
  refine fn_x Tryz.func8 Tryz.call8 rfl rfl rfl rfl hGL ?_
  intro C hC
  have hw := fun c => ref_within (G := G) c 48 57
  repeat' (first
    | (conv => whnf); first
      | refine .w ?_ | refine .v ?_ | apply sc_true | apply sc_false
      | (first | apply sc_lt | apply sc_nlt | apply sc_eq | apply sc_neq | apply sc_nil | apply sc_nnil | apply sc_seq | apply sc_nseq) <;> (intro hb; try exact dd hb)
      | apply sc_not | apply sc_or | (apply sc_i <;> intro hb)
      | (apply bx_i; intro hbd) | (apply gt_i; assumption; exact rfl)
      | (apply cx_is; first | fail) | (apply cx_do (i := 0) rfl; first | fail)
      | (apply ab_i; intro bl) | (apply as_i; intro va vk vc hva) | (apply av_i; intro v) | (apply ac_i; intro bl cap hcap)
      | apply bo_l | (apply nx_i <;> intro hnx) | (apply Ia.hit; assumption) | (apply Ia.miss; assumption)
      | (apply rt_is; exact rfl) | exact rt_w | (apply iv; assumption)
      | apply dw_q mixed hC hGL (by kernel_rfl) | (apply cq; assumption; (first | fail); exact rfl))
  all_goals (try conv => whnf)
  refine lp hC hGL (fun (x : Nat × List UInt8) => [(3, .own 0 (.slice (some ⟨bl, 0, none⟩) s.length cap)), (8, .int .i64 s.length), (9, .int .i64 x.1)]) (fun x => [.buf bl x.2 cap]) (Mapd nineN s) (fun x => s.length - x.1) (0, s) ?_ env_w rfl ?_
  · exact mapd_0
  rintro ⟨i, t⟩ hI
  have hi := hI.1
  have ht := hI.2.1
  dsimp only at hi ht ⊢
  repeat' (first
    | (conv => whnf); first
      | refine .w ?_ | refine .v ?_ | apply sc_true | apply sc_false
      | (first | apply sc_lt | apply sc_nlt | apply sc_eq | apply sc_neq | apply sc_nil | apply sc_nnil | apply sc_seq | apply sc_nseq) <;> (intro hb; try exact dd hb)
      | apply sc_not | apply sc_or | (apply sc_i <;> intro hb)
      | (apply bx_i; intro hbd) | (apply gt_i; assumption; exact rfl)
      | (apply cx_is; first | exact hw _) | (apply cx_do (i := 0) rfl; first | exact hw _)
      | (apply ab_i; intro bl) | (apply as_i; intro va vk vc hva) | (apply av_i; intro v) | (apply ac_i; intro bl cap hcap)
      | apply bo_l | (apply nx_i <;> intro hnx) | (apply Ia.hit; assumption) | (apply Ia.miss; assumption)
      | (apply rt_is; exact rfl) | exact rt_w | (apply iv; assumption)
      | apply dw_q mixed hC hGL (by kernel_rfl) | (apply cq; assumption; (first | exact hw _); exact rfl))
  all_goals (try conv => whnf)
  · have e := mapd_at hI (by omega)
    rw [e, Bool.and_eq_true, decide_eq_true_eq, decide_eq_true_eq] at hb
    refine nxt (i + 1, t.set i (UInt8.ofNat 57)) ?_ ?_ env_w rfl
    · exact mapd_hit hI (by omega) (by unfold nineN; rw [if_pos (by omega)]) (by omega)
    · dsimp only; omega
  · have e := mapd_at hI (by omega)
    rw [e, Bool.and_eq_false_iff, decide_eq_false_iff_not, decide_eq_false_iff_not] at hb
    refine nxt (i + 1, t) ?_ ?_ env_w rfl
    · exact mapd_miss hI (by omega) (by unfold nineN; rw [if_neg (by omega)])
    · dsimp only; omega
  · apply rt_is
    rw [mapd_end nineN_lt hI (by omega)]
    rfl
attribute [local irreducible] digB shpS
theorem z_ok {s : List UInt8} {v : Int} {H' : Heap} (h : zoneV s = (v, 0)) : Rt (fun (x : ARes) (H : Heap) => x = .ret (.tuple [.int .i64 (zoneV s).1, (zoneX s).A]) ∧ H = []) (.tuple [.int .i64 v, .raw .nilIface]) H' := by
  apply rt_is
  unfold zoneX
  rw [h, if_pos rfl]
  rfl
theorem z_err {s : List UInt8} {e : Int} {H' : Heap} (h : zoneV s = (0, e)) (he : e ≠ 0) : Rt (fun (x : ARes) (H : Heap) => x = .ret (.tuple [.int .i64 (zoneV s).1, (zoneX s).A]) ∧ H = []) (.tuple [.int .i64 0, .iface 24 (.int .i64 e)]) H' := by
  apply rt_is
  unfold zoneX
  rw [h, if_neg he]
  rfl
theorem zone_Parse {G : Glo} (s : List UInt8) (hl : s.length ≤ 9223372036854775807) : FnIs Tryz.prog G 17 [.str s] (.tuple [.int .i64 (zoneV s).1, (zoneX s).A]) := by
  have hGL : GloAll G [] := gloAll_nil
  refine fn_x Tryz.func17 Tryz.call17 rfl rfl rfl rfl hGL ?_
  intro C hC
  repeat' (first
    | (conv => whnf); first
      | refine .w ?_ | refine .v ?_ | apply sc_true | apply sc_false
      | (first | apply sc_lt | apply sc_nlt | apply sc_eq | apply sc_neq | apply sc_nil | apply sc_nnil | apply sc_seq | apply sc_nseq) <;> (intro hb; try exact dd hb)
      | apply sc_not | apply sc_or | (apply sc_i <;> intro hb)
      | (apply bx_i; intro hbd) | (apply gt_i; assumption; exact rfl)
      | (apply cx_is; first | fail) | (apply cx_do (i := 0) rfl; first | fail)
      | (apply ab_i; intro bl) | (apply as_i; intro va vk vc hva) | (apply av_i; intro v) | (apply ac_i; intro bl cap hcap)
      | apply bo_l | (apply nx_i <;> intro hnx) | (apply Ia.hit; assumption) | (apply Ia.miss; assumption)
      | (apply rt_is; exact rfl) | exact rt_w | (apply iv; assumption)
      | apply dw_q mixed hC hGL (by kernel_rfl) | (apply cq; assumption; (first | fail); exact rfl))
  all_goals (try conv => whnf)
  any_goals (refine rds hC hGL 5 ?_)
  repeat' (first
    | (conv => whnf); first
      | refine .w ?_ | refine .v ?_ | apply sc_true | apply sc_false
      | (first | apply sc_lt | apply sc_nlt | apply sc_eq | apply sc_neq | apply sc_nil | apply sc_nnil | apply sc_seq | apply sc_nseq) <;> (intro hb; try exact dd hb)
      | apply sc_not | apply sc_or | (apply sc_i <;> intro hb)
      | (apply bx_i; intro hbd) | (apply gt_i; assumption; exact rfl)
      | (apply cx_is; first | fail) | (apply cx_do (i := 0) rfl; first | fail)
      | (apply ab_i; intro bl) | (apply as_i; intro va vk vc hva) | (apply av_i; intro v) | (apply ac_i; intro bl cap hcap)
      | apply bo_l | (apply nx_i <;> intro hnx) | (apply Ia.hit; assumption) | (apply Ia.miss; assumption)
      | (apply rt_is; exact rfl) | exact rt_w | (apply iv; assumption)
      | apply dw_q mixed hC hGL (by kernel_rfl) | (apply cq; assumption; (first | fail); exact rfl))
  all_goals (try conv => whnf)
  all_goals first
    | (refine z_err ?_ (by decide)
       try simp only [Nat.zero_add, Nat.reduceAdd] at *
       unfold zoneV hmV digN
       rw [if_neg (by assumption)]
       simp only [digB_t, decide_eq_true_eq]
       (repeat' split) <;> simp only [Prod.mk.injEq, and_true, true_and] <;> omega)
    | (refine z_ok ?_; unfold zoneV; rw [if_pos (by assumption)]; done)
    | skip
  all_goals (
    refine z_ok ?_
    try simp only [Nat.zero_add, Nat.reduceAdd] at *
    unfold zoneV hmV digN
    rw [if_neg (by assumption)]
    simp only [digB_t, decide_eq_true_eq]
    (repeat' split) <;> simp only [Prod.mk.injEq, and_true, true_and] <;> omega)
theorem dd_atoi : ∀ a b : Fin 10, Lib.atoiAll [UInt8.ofNat (48 + a.1), UInt8.ofNat (48 + b.1)] = .ok ((10 * a.1 + b.1 : Nat) : Int) := by decide
theorem atoi_two {G : Glo} (s : List UInt8) (hl : s.length = 2) (h0 : 48 ≤ byteAt s 0 ∧ byteAt s 0 ≤ 57) (h1 : 48 ≤ byteAt s 1 ∧ byteAt s 1 ≤ 57) : FnIs Tryz.prog G 23 [.str s] (.tuple [.int .i64 (10 * digN s 0 + digN s 1), .raw .nilIface]) := by
  have e : s = [UInt8.ofNat (48 + (byteAt s 0 - 48)), UInt8.ofNat (48 + (byteAt s 1 - 48))] := by
    refine List.ext_getElem (by rw [hl]; rfl) (fun j j1 j2 => ?_)
    have hj : j < 2 := by simpa using j2
    match j, hj with
    | 0, _ =>
      simp only [List.getElem_cons_zero]
      rw [show 48 + (byteAt s 0 - 48) = byteAt s 0 by omega, byteAt_getElem (by omega)]
      simp
    | 1, _ =>
      simp only [List.getElem_cons_succ, List.getElem_cons_zero]
      rw [show 48 + (byteAt s 1 - 48) = byteAt s 1 by omega, byteAt_getElem (by omega)]
      simp
  have ha := dd_atoi ⟨byteAt s 0 - 48, by omega⟩ ⟨byteAt s 1 - 48, by omega⟩
  simp only at ha
  rw [← e] at ha
  have ev : ((10 * (byteAt s 0 - 48) + (byteAt s 1 - 48) : Nat) : Int) = 10 * digN s 0 + digN s 1 := by unfold digN; omega
  rw [ev] at ha
  refine fnis_of_calls_v (.tuple #[.int .i64 (10 * digN s 0 + digN s 1), .nilIface]) (fun R => rel_tup2 (rel_int.2 rfl) (rel_raw.2 rfl)) Tryz.call23 ?_
  intro R args hr w _ _
  obtain ⟨x, t, e', hx, rfl⟩ := hr
  obtain rfl := rel_str.1 hx
  obtain rfl := arr_of e'
  refine (Tryz.strconv_Atoi_ok ⟨s.toArray⟩ (by rw [str_size]; omega) _ (by simpa using ha) w).mono ?_
  rintro e w' ⟨rfl, hw⟩
  refine ⟨rfl, ?_⟩
  rcases hw with rfl | ⟨t, rfl⟩
  · exact Below.refl _ _
  · exact ⟨rfl, rfl, rfl, by rw [Lib.bytesWorld_size]; omega, fun k hk => Lib.bytesWorld_at_old _ _ _ _ hk⟩
theorem byteAt_drop {s : List UInt8} {k j : Nat} : byteAt (s.drop k) j = byteAt s (k + j) := by
  unfold byteAt
  simp [List.getD, List.getElem?_drop]
theorem hm_rt {neg : Bool} {h m a b : Int} {H' : Heap} (e : hmV neg h m = (a, b)) : Rt (fun (x : ARes) (H : Heap) => x = .ret (.tuple [.int .i64 (hmV neg h m).1, .int .i64 (hmV neg h m).2]) ∧ H = []) (.tuple [.int .i64 a, .int .i64 b]) H' := by
  apply rt_is
  rw [e]
theorem ref_ZoneParse_five {G : Glo} (s : List UInt8) (hl : s.length = 5) (hs : byteAt s 0 = 43 ∨ byteAt s 0 = 45) (h1 : 48 ≤ byteAt s 1 ∧ byteAt s 1 ≤ 57) (h2 : 48 ≤ byteAt s 2 ∧ byteAt s 2 ≤ 57) (h3 : 48 ≤ byteAt s 3 ∧ byteAt s 3 ≤ 57) (h4 : 48 ≤ byteAt s 4 ∧ byteAt s 4 ≤ 57) :
    FnIs Tryz.prog G 25 [.str s] (.tuple [.int .i64 (hmV (decide (byteAt s 0 = 45)) (10 * digN s 1 + digN s 2) (10 * digN s 3 + digN s 4)).1, .int .i64 (hmV (decide (byteAt s 0 = 45)) (10 * digN s 1 + digN s 2) (10 * digN s 3 + digN s 4)).2]) := by
  have hGL : GloAll G [] := gloAll_nil
  refine fn_x Tryz.func25 Tryz.call25 rfl rfl rfl rfl hGL ?_
  intro C hC
  have hsh := ref_shape (G := G) s (by omega)
  have e1 : (s.take 3).drop 1 = (s.drop 1).take 2 := by rw [List.take_drop]
  have a1 := atoi_two (G := G) ((s.take 3).drop 1) (by rw [List.length_drop, List.length_take]; omega) (by rw [byteAt_drop, byteAt_take (by omega)]; exact h1) (by rw [byteAt_drop, byteAt_take (by omega)]; exact h2)
  have a2 := atoi_two (G := G) (s.drop 3) (by rw [List.length_drop]; omega) (by rw [byteAt_drop]; exact h3) (by rw [byteAt_drop]; exact h4)
  have d1 : digN ((s.take 3).drop 1) 0 = digN s 1 := by unfold digN; rw [byteAt_drop, byteAt_take (by omega)]
  have d2 : digN ((s.take 3).drop 1) 1 = digN s 2 := by unfold digN; rw [byteAt_drop, byteAt_take (by omega)]
  have d3 : digN (s.drop 3) 0 = digN s 3 := by unfold digN; rw [byteAt_drop]
  have d4 : digN (s.drop 3) 1 = digN s 4 := by unfold digN; rw [byteAt_drop]
  rw [d1, d2] at a1
  rw [d3, d4] at a2
  have g1 : 0 ≤ digN s 1 ∧ digN s 1 ≤ 9 := by unfold digN; omega
  have g2 : 0 ≤ digN s 2 ∧ digN s 2 ≤ 9 := by unfold digN; omega
  have g3 : 0 ≤ digN s 3 ∧ digN s 3 ≤ 9 := by unfold digN; omega
  have g4 : 0 ≤ digN s 4 ∧ digN s 4 ≤ 9 := by unfold digN; omega
  have hz := fun n => ref_ZoneRight (G := G) n
  rcases hs with hs | hs
  · have hsp : shpS s = [43, 57, 57, 57, 57] := (shp_five (k := 43) (by omega) (by omega)).2 ⟨hl, hs, h1, h2, h3, h4⟩
    rw [hsp] at hsh
    repeat' (first
      | (conv => whnf); first
        | refine .w ?_ | refine .v ?_ | apply sc_true | apply sc_false
        | (first | apply sc_lt | apply sc_nlt | apply sc_eq | apply sc_neq | apply sc_nil | apply sc_nnil | apply sc_seq | apply sc_nseq) <;> (intro hb; try exact dd hb)
        | apply sc_not | apply sc_or | (apply sc_i <;> intro hb)
        | (apply bx_i; intro hbd) | (apply gt_i; assumption; exact rfl)
        | (apply cx_is; first | exact hsh | exact a1 | exact a2 | exact hz _) | (apply cx_do (i := 0) rfl; first | exact hsh | exact a1 | exact a2 | exact hz _)
        | (apply ab_i; intro bl) | (apply as_i; intro va vk vc hva) | (apply av_i; intro v) | (apply ac_i; intro bl cap hcap)
        | apply bo_l | (apply nx_i <;> intro hnx) | (apply Ia.hit; assumption) | (apply Ia.miss; assumption)
        | (apply rt_is; exact rfl) | exact rt_w | (apply iv; assumption)
        | apply dw_q mixed hC hGL (by kernel_rfl) | (apply cq; assumption; (first | exact hsh | exact a1 | exact a2 | exact hz _); exact rfl))
    all_goals (try conv => whnf)
    all_goals (
      refine hm_rt ?_
      try simp only [zrB_t, zrB_f] at *
      unfold hmV
      simp only [decide_eq_true_eq]
      (repeat' split) <;> first | (exfalso; omega) | exact rfl)
  · have hsp : shpS s = [45, 57, 57, 57, 57] := (shp_five (k := 45) (by omega) (by omega)).2 ⟨hl, hs, h1, h2, h3, h4⟩
    rw [hsp] at hsh
    repeat' (first
      | (conv => whnf); first
        | refine .w ?_ | refine .v ?_ | apply sc_true | apply sc_false
        | (first | apply sc_lt | apply sc_nlt | apply sc_eq | apply sc_neq | apply sc_nil | apply sc_nnil | apply sc_seq | apply sc_nseq) <;> (intro hb; try exact dd hb)
        | apply sc_not | apply sc_or | (apply sc_i <;> intro hb)
        | (apply bx_i; intro hbd) | (apply gt_i; assumption; exact rfl)
        | (apply cx_is; first | exact hsh | exact a1 | exact a2 | exact hz _) | (apply cx_do (i := 0) rfl; first | exact hsh | exact a1 | exact a2 | exact hz _)
        | (apply ab_i; intro bl) | (apply as_i; intro va vk vc hva) | (apply av_i; intro v) | (apply ac_i; intro bl cap hcap)
        | apply bo_l | (apply nx_i <;> intro hnx) | (apply Ia.hit; assumption) | (apply Ia.miss; assumption)
        | (apply rt_is; exact rfl) | exact rt_w | (apply iv; assumption)
        | apply dw_q mixed hC hGL (by kernel_rfl) | (apply cq; assumption; (first | exact hsh | exact a1 | exact a2 | exact hz _); exact rfl))
    all_goals (try conv => whnf)
    all_goals (
      refine hm_rt ?_
      try simp only [zrB_t, zrB_f] at *
      unfold hmV
      simp only [decide_eq_true_eq]
      (repeat' split) <;> first | (exfalso; omega) | exact rfl)
theorem ref_ZoneParse {G : Glo} (s : List UInt8) (hl : s.length ≤ 9223372036854775000) : FnIs Tryz.prog G 25 [.str s] (.tuple [.int .i64 (zoneV s).1, .int .i64 (zoneV s).2]) := by
  by_cases h5 : s.length = 5 ∧ (byteAt s 0 = 43 ∨ byteAt s 0 = 45) ∧ (digB (byteAt s 1) ∧ digB (byteAt s 2) ∧ digB (byteAt s 3) ∧ digB (byteAt s 4))
  · obtain ⟨hl5, hs, h1, h2, h3, h4⟩ := h5
    have e : zoneV s = hmV (decide (byteAt s 0 = 45)) (10 * digN s 1 + digN s 2) (10 * digN s 3 + digN s 4) := by
      unfold zoneV
      rw [if_neg (by rintro rfl; simp at hl5), if_neg (by omega), if_pos ⟨hl5, hs, h1, h2, h3, h4⟩]
    rw [e]
    exact ref_ZoneParse_five s hl5 hs (digB_t.1 h1) (digB_t.1 h2) (digB_t.1 h3) (digB_t.1 h4)
  have n43 : shpS s ≠ [43, 57, 57, 57, 57] := fun h => by
    have h := (shp_five (k := 43) (by omega) (by omega)).1 h
    exact h5 ⟨h.1, .inl h.2.1, digB_t.2 h.2.2.1, digB_t.2 h.2.2.2.1, digB_t.2 h.2.2.2.2.1, digB_t.2 h.2.2.2.2.2⟩
  have n45 : shpS s ≠ [45, 57, 57, 57, 57] := fun h => by
    have h := (shp_five (k := 45) (by omega) (by omega)).1 h
    exact h5 ⟨h.1, .inr h.2.1, digB_t.2 h.2.2.1, digB_t.2 h.2.2.2.1, digB_t.2 h.2.2.2.2.1, digB_t.2 h.2.2.2.2.2⟩
  have hGL : GloAll G [] := gloAll_nil
  refine fn_x Tryz.func25 Tryz.call25 rfl rfl rfl rfl hGL ?_
  intro C hC
  have hsh := ref_shape (G := G) s (by omega)
  by_cases h3 : s.length = 3 ∧ (byteAt s 0 = 43 ∨ byteAt s 0 = 45) ∧ (digB (byteAt s 1) ∧ digB (byteAt s 2))
  · obtain ⟨hl3, hs, h1, h2⟩ := h3
    have g : ∀ j, j < 3 → byteAt (s ++ [48, 48]) j = byteAt s j := fun j hj => by unfold byteAt; simp [List.getD, List.getElem?_append, show j < s.length by omega]
    have g3 : byteAt (s ++ [48, 48]) 3 = 48 := by unfold byteAt; simp [List.getD, List.getElem?_append, hl3]
    have g4 : byteAt (s ++ [48, 48]) 4 = 48 := by unfold byteAt; simp [List.getD, List.getElem?_append, hl3]
    have hr := ref_ZoneParse_five (G := G) (s ++ [48, 48]) (by rw [List.length_append, hl3]; rfl) (by rw [g 0 (by omega)]; exact hs) (by rw [g 1 (by omega)]; exact digB_t.1 h1) (by rw [g 2 (by omega)]; exact digB_t.1 h2) (by rw [g3]; omega) (by rw [g4]; omega)
    have d1 : digN (s ++ [48, 48]) 1 = digN s 1 := by unfold digN; rw [g 1 (by omega)]
    have d2 : digN (s ++ [48, 48]) 2 = digN s 2 := by unfold digN; rw [g 2 (by omega)]
    have d3 : digN (s ++ [48, 48]) 3 = 0 := by unfold digN; rw [g3]; rfl
    have d4 : digN (s ++ [48, 48]) 4 = 0 := by unfold digN; rw [g4]; rfl
    have e : zoneV s = hmV (decide (byteAt s 0 = 45)) (10 * digN s 1 + digN s 2) 0 := by
      unfold zoneV
      rw [if_neg (by rintro rfl; simp at hl3), if_pos ⟨hl3, hs, h1, h2⟩]
    rw [d1, d2, d3, d4, g 0 (by omega), show (10 * 0 + 0 : Int) = 0 from rfl, ← e] at hr
    have hsh' : shpS s = [43, 57, 57] ∨ shpS s = [45, 57, 57] := by
      rcases hs with hs | hs
      · exact .inl ((shp_three (k := 43) (by omega) (by omega)).2 ⟨hl3, hs, digB_t.1 h1, digB_t.1 h2⟩)
      · exact .inr ((shp_three (k := 45) (by omega) (by omega)).2 ⟨hl3, hs, digB_t.1 h1, digB_t.1 h2⟩)
    rcases hsh' with hsh' | hsh'
    all_goals (
      rw [hsh'] at hsh
      repeat' (first
        | (conv => whnf); first
          | refine .w ?_ | refine .v ?_ | apply sc_true | apply sc_false
          | (first | apply sc_lt | apply sc_nlt | apply sc_eq | apply sc_neq | apply sc_nil | apply sc_nnil | apply sc_seq | apply sc_nseq) <;> (intro hb; try exact dd hb)
          | apply sc_not | apply sc_or | (apply sc_i <;> intro hb)
          | (apply bx_i; intro hbd) | (apply gt_i; assumption; exact rfl)
          | (apply cx_is; first | exact hsh | exact hr) | (apply cx_do (i := 0) rfl; first | exact hsh | exact hr)
          | (apply ab_i; intro bl) | (apply as_i; intro va vk vc hva) | (apply av_i; intro v) | (apply ac_i; intro bl cap hcap)
          | apply bo_l | (apply nx_i <;> intro hnx) | (apply Ia.hit; assumption) | (apply Ia.miss; assumption)
          | (apply rt_is; exact rfl) | exact rt_w | (apply iv; assumption)
          | apply dw_q mixed hC hGL (by kernel_rfl) | (apply cq; assumption; (first | exact hsh | exact hr); exact rfl))
      all_goals (try conv => whnf))
  have m43 : shpS s ≠ [43, 57, 57] := fun h => by
    have h := (shp_three (k := 43) (by omega) (by omega)).1 h
    exact h3 ⟨h.1, .inl h.2.1, digB_t.2 h.2.2.1, digB_t.2 h.2.2.2⟩
  have m45 : shpS s ≠ [45, 57, 57] := fun h => by
    have h := (shp_three (k := 45) (by omega) (by omega)).1 h
    exact h3 ⟨h.1, .inr h.2.1, digB_t.2 h.2.2.1, digB_t.2 h.2.2.2⟩
  have e : zoneV s = if s = [90] then (0, 0) else (0, 3) := by
    unfold zoneV
    rw [if_neg h3, if_neg h5]
  rw [e]
  repeat' (first
    | (conv => whnf); first
      | refine .w ?_ | refine .v ?_ | apply sc_true | apply sc_false
      | (first | apply sc_lt | apply sc_nlt | apply sc_eq | apply sc_neq | apply sc_nil | apply sc_nnil | apply sc_seq | apply sc_nseq) <;> (intro hb; try exact dd hb)
      | apply sc_not | apply sc_or | (apply sc_i <;> intro hb)
      | (apply bx_i; intro hbd) | (apply gt_i; assumption; exact rfl)
      | (apply cx_is; first | exact hsh) | (apply cx_do (i := 0) rfl; first | exact hsh)
      | (apply ab_i; intro bl) | (apply as_i; intro va vk vc hva) | (apply av_i; intro v) | (apply ac_i; intro bl cap hcap)
      | apply bo_l | (apply nx_i <;> intro hnx) | (apply Ia.hit; assumption) | (apply Ia.miss; assumption)
      | (apply rt_is; exact rfl) | exact rt_w | (apply iv; assumption)
      | apply dw_q mixed hC hGL (by kernel_rfl) | (apply cq; assumption; (first | exact hsh); exact rfl))
  all_goals (try conv => whnf)
  · apply rt_is
    rw [if_pos (shp_one.1 hb)]
    rfl
  · apply rt_is
    rw [if_neg (fun h => absurd (shp_one.2 h) (by assumption))]
    rfl
end Go.Proofs.YtjedjiffaopmkaaGreatDoor
namespace Go.Proofs.YtjedjiffaopmkaaGreatDoor
open Go Go.RowKit
/-- What stands ahead of a byte, and behind it, and whether it is there. -/
def cutB (s : List UInt8) (c : Int) : List UInt8 × List UInt8 × Bool := if idxB s c < 0 then (s, [], false) else (s.take (idxB s c).toNat, s.drop ((idxB s c).toNat + 1), true)
/-- The last place of a byte among the first so many. -/
def lastI (s : List UInt8) (c : Int) : Nat → Int
  | 0 => -1
  | n + 1 => if (byteAt s n : Int) = c then n else lastI s c n
theorem lastI_cases (s : List UInt8) (c : Int) : ∀ n, (lastI s c n = -1 ∧ ∀ j, j < n → (byteAt s j : Int) ≠ c) ∨ ∃ m, m < n ∧ lastI s c n = (m : Int) ∧ (byteAt s m : Int) = c ∧ ∀ j, m < j → j < n → (byteAt s j : Int) ≠ c
  | 0 => .inl ⟨rfl, fun j h => absurd h (Nat.not_lt_zero _)⟩
  | n + 1 => by
    by_cases h : (byteAt s n : Int) = c
    · exact .inr ⟨n, Nat.lt_succ_self _, by simp only [lastI]; rw [if_pos h], h, fun j h1 h2 => by omega⟩
    · have e : lastI s c (n + 1) = lastI s c n := by simp only [lastI]; rw [if_neg h]
      rw [e]
      rcases lastI_cases s c n with ⟨h1, h2⟩ | ⟨m, h1, h2, h3, h4⟩
      · exact .inl ⟨h1, fun j hj => by
          rcases Nat.lt_or_ge j n with g | g
          · exact h2 j g
          · rw [show j = n by omega]; exact h⟩
      · exact .inr ⟨m, by omega, h2, h3, fun j g1 g2 => by
          rcases Nat.lt_or_ge j n with g | g
          · exact h4 j g1 g
          · rw [show j = n by omega]; exact h⟩
theorem idx_self {c : UInt8} : idxB [c] (c.toNat : Int) = 0 := idxB_at (i := 0) (Nat.lt_succ_self 0) rfl (fun j h => absurd h (Nat.not_lt_zero _))
theorem byte_one {c : UInt8} : (byteAt [c] 0 : Int) = (c.toNat : Int) := rfl
set_option maxRecDepth 20000
set_option maxHeartbeats 4000000
set_option linter.unusedSimpArgs false
set_option linter.unusedVariables false
attribute [local irreducible] AWp AOps byteAt SrcOK OrOk GloAll FnSpec
theorem sl_Index_one {G : Glo} (s : List UInt8) (c : UInt8) : FnIs Tryz.prog G 54 [.str s, .str [c]] (.int .i64 (idxB s (c.toNat : Int))) := by
  have hc := c.toNat_lt
  have hb := byte_one (c := c)
  have k1 := stringslite_IndexByte (G := G) s (byteAt [c] 0 : Int) (by omega) (by omega)
  by_cases hs : [c] = s
  · have e := idx_self (c := c)
    rw [hs] at e
    rw [e]
    have hGL : GloAll G [] := gloAll_nil
    refine fn_x Tryz.func54 Tryz.call54 rfl rfl rfl rfl hGL ?_
    intro C hC
    exact xw0
  · rw [← hb]
    have hGL : GloAll G [] := gloAll_nil
    refine fn_x Tryz.func54 Tryz.call54 rfl rfl rfl rfl hGL ?_
    intro C hC
    exact xw0
theorem sl_Cut_one {G : Glo} (s : List UInt8) (c : UInt8) (hl : s.length ≤ 1000000) : FnIs Tryz.prog G 29 [.str s, .str [c]] (.tuple [.str (cutB s (c.toNat : Int)).1, .str (cutB s (c.toNat : Int)).2.1, .bool (cutB s (c.toNat : Int)).2.2]) := by
  have k1 := sl_Index_one (G := G) s c
  rcases idxB_cases s (c.toNat : Int) with ⟨h1, h2⟩ | ⟨m, h1, h2, h3, h4⟩
  · have e : cutB s (c.toNat : Int) = (s, [], false) := by unfold cutB; rw [h1, if_pos (by decide)]
    rw [h1] at k1
    rw [e]
    have hGL : GloAll G [] := gloAll_nil
    refine fn_x Tryz.func29 Tryz.call29 rfl rfl rfl rfl hGL ?_
    intro C hC
    exact xw0
  · have e : cutB s (c.toNat : Int) = (s.take m, s.drop (m + 1), true) := by unfold cutB; rw [h2, if_neg (by omega), Int.toNat_natCast]
    rw [h2] at k1
    rw [e]
    have hGL : GloAll G [] := gloAll_nil
    refine fn_x Tryz.func29 Tryz.call29 rfl rfl rfl rfl hGL ?_
    intro C hC
    exact xw0
theorem strings_Cut_one {G : Glo} (s : List UInt8) (c : UInt8) (hl : s.length ≤ 1000000) : FnIs Tryz.prog G 12 [.str s, .str [c]] (.tuple [.str (cutB s (c.toNat : Int)).1, .str (cutB s (c.toNat : Int)).2.1, .bool (cutB s (c.toNat : Int)).2.2]) := by
  have k1 := sl_Cut_one (G := G) s c hl
  have hGL : GloAll G [] := gloAll_nil
  refine fn_x Tryz.func12 Tryz.call12 rfl rfl rfl rfl hGL ?_
  intro C hC
  exact xw0
theorem bytealg_LastIndexByteString {G : Glo} (s : List UInt8) (c : Int) (h0 : 0 ≤ c) (h1 : c ≤ 255) (hl : s.length ≤ 1000000) : FnIs Tryz.prog G 36 [.str s, .int .u8 c] (.int .i64 (lastI s c s.length)) := by
  have hGL : GloAll G [] := gloAll_nil
  refine fn_x Tryz.func36 Tryz.call36 rfl rfl rfl rfl hGL ?_
  intro C hC
  refine xw1 ?_
  refine lp hC hGL (fun n : Nat => [(0, .str s), (1, .int .u8 c), (5, .int .i64 ((n : Int) - 1))]) (fun _ => []) (fun n => n ≤ s.length ∧ lastI s c n = lastI s c s.length) (fun n => n) s.length ⟨Nat.le_refl _, rfl⟩ env_w rfl ?_
  rintro n ⟨h2, h3⟩
  cases n with
  | zero =>
    rw [← h3]
    exact xw0
  | succ n =>
    by_cases h : (byteAt s n : Int) = c
    · have e : lastI s c (n + 1) = n := by simp only [lastI]; rw [if_pos h]
      rw [← h3, e]
      have e9 : ((n + 1 : Nat) : Int) - 1 = (n : Int) := by omega
      rw [e9]
      exact xw0
    · have e : lastI s c (n + 1) = lastI s c n := by simp only [lastI]; rw [if_neg h]
      rw [e] at h3
      have e9 : ((n + 1 : Nat) : Int) - 1 = (n : Int) := by omega
      rw [e9]
      refine xw1 ?_
      intros
      exact nxt n ⟨by omega, h3⟩ (by omega) env_w rfl
theorem strings_LastIndexByte {G : Glo} (s : List UInt8) (c : Int) (h0 : 0 ≤ c) (h1 : c ≤ 255) (hl : s.length ≤ 1000000) : FnIs Tryz.prog G 15 [.str s, .int .u8 c] (.int .i64 (lastI s c s.length)) := by
  have k1 := bytealg_LastIndexByteString (G := G) s c h0 h1 hl
  have hGL : GloAll G [] := gloAll_nil
  refine fn_x Tryz.func15 Tryz.call15 rfl rfl rfl rfl hGL ?_
  intro C hC
  exact xw0
end Go.Proofs.YtjedjiffaopmkaaGreatDoor
namespace Go.Proofs.YtjedjiffaopmkaaGreatDoor
open Go Go.RowKit
theorem shp_len (s : List UInt8) : (shpS s).length = s.length := mapB_len _ _
theorem shp_pt {s u : List UInt8} (h : shpS s = u) : s.length = u.length ∧ ∀ i, i < u.length → nineN (byteAt s i) = byteAt u i := by
  subst h
  refine ⟨(shp_len s).symm, fun i hi => ?_⟩
  rw [shp_len] at hi
  exact (shp_at hi).symm
theorem take_at {s : List UInt8} {n i : Nat} (h : i < n) : byteAt (s.take n) i = byteAt s i := by
  unfold byteAt
  simp [List.getD, List.getElem?_take_of_lt h]
theorem drop_at {s : List UInt8} {n i : Nat} : byteAt (s.drop n) i = byteAt s (n + i) := by
  unfold byteAt
  simp [List.getD]
theorem clk_len {j : Nat} (h1 : 1 ≤ j) (h6 : j ≤ 6) : 2 ≤ (clkF j).length ∧ (clkF j).length ≤ 6 := by
  rcases (show j = 1 ∨ j = 2 ∨ j = 3 ∨ j = 4 ∨ j = 5 ∨ j = 6 by omega) with rfl | rfl | rfl | rfl | rfl | rfl <;> decide
theorem clk_hi {j : Nat} (h1 : 1 ≤ j) (h6 : j ≤ 6) : ∀ i, i < (clkF j).length → byteAt (clkF j) i = 57 ∨ (byteAt (clkF j) i = 45 ∧ i < 2) := by
  rcases (show j = 1 ∨ j = 2 ∨ j = 3 ∨ j = 4 ∨ j = 5 ∨ j = 6 by omega) with rfl | rfl | rfl | rfl | rfl | rfl <;> decide
theorem clk_inj {j k : Nat} (h1 : 1 ≤ j) (h6 : j ≤ 6) (g1 : 1 ≤ k) (g6 : k ≤ 6) (h : clkF j = clkF k) : j = k := by
  rcases (show j = 1 ∨ j = 2 ∨ j = 3 ∨ j = 4 ∨ j = 5 ∨ j = 6 by omega) with rfl | rfl | rfl | rfl | rfl | rfl <;>
    rcases (show k = 1 ∨ k = 2 ∨ k = 3 ∨ k = 4 ∨ k = 5 ∨ k = 6 by omega) with rfl | rfl | rfl | rfl | rfl | rfl <;> first | rfl | (revert h; decide)
/-- A time's text split: its form's number, and where its zone begins. -/
structure IsSp (t : List UInt8) (j n : Nat) : Prop where
  j1 : 1 ≤ j
  j6 : j ≤ 6
  hn : n ≤ t.length
  hs : shpS (t.take n) = clkF j
  hz : n = t.length ∨ byteAt t n = 90 ∨ byteAt t n = 43 ∨ byteAt t n = 45
theorem IsSp.len {t : List UInt8} {j n : Nat} (h : IsSp t j n) : n = (clkF j).length := by
  have := (shp_pt h.hs).1
  rw [List.length_take] at this
  have := h.hn
  omega
theorem IsSp.at {t : List UInt8} {j n : Nat} (h : IsSp t j n) : ∀ i, i < n → (48 ≤ byteAt t i ∧ byteAt t i ≤ 57) ∨ (byteAt t i = 45 ∧ i < 2) := by
  intro i hi
  have h1 := (shp_pt h.hs).2 i (by rw [← h.len]; exact hi)
  rw [take_at hi] at h1
  rcases clk_hi h.j1 h.j6 i (by rw [← h.len]; exact hi) with k | ⟨k, k2⟩
  · rw [k] at h1
    exact .inl (nine_57.1 h1)
  · rw [k] at h1
    exact .inr ⟨(nine_id (by omega)).1 h1, k2⟩
theorem IsSp.uniq {t : List UInt8} {j n j' n' : Nat} (h : IsSp t j n) (g : IsSp t j' n') : j = j' ∧ n = n' := by
  have key : ∀ {j n j' n' : Nat}, IsSp t j n → IsSp t j' n' → ¬ n < n' := by
    intro j n j' n' h g hlt
    have h2 := (clk_len h.j1 h.j6).1
    rw [← h.len] at h2
    have h3 := g.at n hlt
    have h4 := g.hn
    have h5 := h.hz
    omega
  have e : n = n' := by
    have h1 := key h g
    have h2 := key g h
    omega
  subst e
  exact ⟨clk_inj h.j1 h.j6 g.j1 g.j6 (h.hs.symm.trans g.hs), rfl⟩
/-- Where the program takes the zone to begin. -/
def KAt (t : List UInt8) (k : Nat) : Prop :=
  (k < t.length ∧ (byteAt t k = 90 ∨ byteAt t k = 43) ∧ ∀ j, j < k → byteAt t j ≠ 90 ∧ byteAt t j ≠ 43) ∨
  ((∀ j, j < t.length → byteAt t j ≠ 90 ∧ byteAt t j ≠ 43) ∧ ((k < t.length ∧ 2 ≤ k ∧ byteAt t k = 45 ∧ ∀ j, k < j → j < t.length → byteAt t j ≠ 45) ∨ (k = t.length ∧ ∀ j, 2 ≤ j → j < t.length → byteAt t j ≠ 45)))
theorem kAt_le {t : List UInt8} {k : Nat} (h : KAt t k) : k ≤ t.length := by
  unfold KAt at h
  omega
theorem zone_bad {z : List UInt8} {m : Nat} (h0 : byteAt z 0 = 45) (hm : 0 < m) (hl : m < z.length) (h : byteAt z m = 90 ∨ byteAt z m = 43 ∨ byteAt z m = 45) : zoneV z = (0, 3) := by
  unfold zoneV
  rw [if_neg (by rintro rfl; exact absurd h0 (by decide)), if_neg, if_neg]
  · rintro ⟨h1, -, h2, h3, h4, h5⟩
    rw [digB_t] at h2 h3 h4 h5
    rcases (show m = 1 ∨ m = 2 ∨ m = 3 ∨ m = 4 by omega) with rfl | rfl | rfl | rfl <;> omega
  · rintro ⟨h1, -, h2, h3⟩
    rw [digB_t] at h2 h3
    rcases (show m = 1 ∨ m = 2 by omega) with rfl | rfl <;> omega
theorem sp_k {t : List UInt8} {j n k : Nat} (h : IsSp t j n) (hk : KAt t k) : k = n ∨ (n < t.length ∧ zoneV (t.drop n) = (0, 3) ∧ ∀ j', 1 ≤ j' → j' ≤ 6 → shpS (t.take k) ≠ clkF j') := by
  have hat := h.at
  have hn := h.hn
  have hz := h.hz
  have h2 := (clk_len h.j1 h.j6).1
  rw [← h.len] at h2
  have hkl := kAt_le hk
  have nok : n < k → n < t.length → byteAt t n = 45 → ∀ j', 1 ≤ j' → j' ≤ 6 → shpS (t.take k) ≠ clkF j' := by
    intro hlt hnl h45 j' g1 g6 e
    have e1 := shp_pt e
    rw [List.length_take] at e1
    have e2 := e1.2 n (by omega)
    rw [take_at hlt, h45] at e2
    have e3 := clk_hi g1 g6 n (by omega)
    unfold nineN at e2
    rw [if_neg (by omega)] at e2
    omega
  rcases hk with ⟨k1, k2, k3⟩ | ⟨k0, ⟨k1, k2, k3, k4⟩ | ⟨k1, k2⟩⟩
  · have hnk : n ≤ k := by
      rcases Nat.lt_or_ge k n with g | g
      · have := hat k g
        omega
      · exact g
    rcases Nat.lt_or_ge n k with g | g
    · have hb := k3 n g
      have h45 : byteAt t n = 45 := by omega
      refine .inr ⟨by omega, zone_bad (m := k - n) (by rw [drop_at, Nat.add_zero]; exact h45) (by omega) (by rw [List.length_drop]; omega) (by rw [drop_at, show n + (k - n) = k by omega]; omega), nok g (by omega) h45⟩
    · exact .inl (by omega)
  · have hnk : n ≤ k := by
      rcases Nat.lt_or_ge k n with g | g
      · have := hat k g
        omega
      · exact g
    rcases Nat.lt_or_ge n k with g | g
    · have hb := k0 n (by omega)
      have h45 : byteAt t n = 45 := by omega
      refine .inr ⟨by omega, zone_bad (m := k - n) (by rw [drop_at, Nat.add_zero]; exact h45) (by omega) (by rw [List.length_drop]; omega) (by rw [drop_at, show n + (k - n) = k by omega]; omega), nok g (by omega) h45⟩
    · exact .inl (by omega)
  · refine .inl ?_
    rcases Nat.lt_or_ge n t.length with g | g
    · have hb := k0 n g
      have hc := k2 n h2 g
      omega
    · omega
theorem k_sp {t : List UInt8} {j k : Nat} (hk : KAt t k) (h1 : 1 ≤ j) (h6 : j ≤ 6) (h : shpS (t.take k) = clkF j) : IsSp t j k := by
  refine ⟨h1, h6, kAt_le hk, h, ?_⟩
  unfold KAt at hk
  omega
instance (t : List UInt8) (j n : Nat) : Decidable (IsSp t j n) :=
  if h : 1 ≤ j ∧ j ≤ 6 ∧ n ≤ t.length ∧ shpS (t.take n) = clkF j ∧ (n = t.length ∨ byteAt t n = 90 ∨ byteAt t n = 43 ∨ byteAt t n = 45) then isTrue ⟨h.1, h.2.1, h.2.2.1, h.2.2.2.1, h.2.2.2.2⟩ else isFalse fun k => h ⟨k.1, k.2, k.3, k.4, k.5⟩
/-- The form of a time's text, 0: none. -/
def splJ (t : List UInt8) : Nat := if IsSp t 1 2 then 1 else if IsSp t 2 4 then 2 else if IsSp t 3 6 then 3 else if IsSp t 4 3 then 4 else if IsSp t 5 5 then 5 else if IsSp t 6 4 then 6 else 0
def splN (t : List UInt8) : Nat := (clkF (splJ t)).length
theorem splJ_of {t : List UInt8} {j n : Nat} (h : IsSp t j n) : splJ t = j ∧ splN t = n := by
  have hl := h.len
  have key : splJ t = j := by
    have u := fun {j' n' : Nat} (g : IsSp t j' n') => (h.uniq g).1
    unfold splJ
    (repeat' split)
    all_goals first
      | exact (u (by assumption)).symm
      | (exfalso
         have g1 := h.j1
         have g6 := h.j6
         rcases (show j = 1 ∨ j = 2 ∨ j = 3 ∨ j = 4 ∨ j = 5 ∨ j = 6 by omega) with rfl | rfl | rfl | rfl | rfl | rfl
         all_goals (simp only [clkF, List.getD_cons_zero, List.getD_cons_succ, List.length_cons, List.length_nil] at hl; subst hl; contradiction))
  exact ⟨key, by unfold splN; rw [key]; exact hl.symm⟩
theorem splJ_sp {t : List UInt8} (h : splJ t ≠ 0) : IsSp t (splJ t) (splN t) := by
  have key : ∀ {j n : Nat}, IsSp t j n → IsSp t (splJ t) (splN t) := fun g => by
    obtain ⟨e1, e2⟩ := splJ_of g
    rw [e1, e2]
    exact g
  unfold splJ at h
  (repeat' split at h)
  all_goals first | exact key (by assumption) | exact absurd rfl h
theorem spl_none {t : List UInt8} {k : Nat} (hk : KAt t k) (h : ∀ j, 1 ≤ j → j ≤ 6 → shpS (t.take k) ≠ clkF j) : splJ t = 0 ∨ (splJ t ≠ 0 ∧ splN t < t.length ∧ zoneV (t.drop (splN t)) = (0, 3)) := by
  by_cases h0 : splJ t = 0
  · exact .inl h0
  · have g := splJ_sp h0
    rcases sp_k g hk with e | e
    · exact absurd (by rw [e]; exact g.hs) (h _ g.j1 g.j6)
    · exact .inr ⟨h0, e.1, e.2.1⟩
theorem spl_some {t : List UInt8} {j k : Nat} (hk : KAt t k) (h1 : 1 ≤ j) (h6 : j ≤ 6) (h : shpS (t.take k) = clkF j) : splJ t = j ∧ splN t = k := splJ_of (k_sp hk h1 h6 h)
/-- Two digits, four digits. -/
def two2 (s : List UInt8) (j : Nat) : Int := 10 * digN s j + digN s (j + 1)
def four4 (s : List UInt8) (j : Nat) : Int := 10 * (10 * (10 * digN s j + digN s (j + 1)) + digN s (j + 2)) + digN s (j + 3)
/-- The form of a date, 7: none. -/
def dIx (d : List UInt8) : Nat := if shpS d = dateF 0 then 0 else if shpS d = dateF 1 then 1 else if shpS d = dateF 2 then 2 else if shpS d = dateF 3 then 3 else if shpS d = dateF 4 then 4 else if shpS d = dateF 5 then 5 else if shpS d = dateF 6 then 6 else 7
theorem date_inj {j k : Nat} (h6 : j ≤ 6) (g6 : k ≤ 6) (h : dateF j = dateF k) : j = k := by
  rcases (show j = 0 ∨ j = 1 ∨ j = 2 ∨ j = 3 ∨ j = 4 ∨ j = 5 ∨ j = 6 by omega) with rfl | rfl | rfl | rfl | rfl | rfl | rfl <;>
    rcases (show k = 0 ∨ k = 1 ∨ k = 2 ∨ k = 3 ∨ k = 4 ∨ k = 5 ∨ k = 6 by omega) with rfl | rfl | rfl | rfl | rfl | rfl | rfl <;> first | rfl | (revert h; decide)
theorem dIx_of {d : List UInt8} {k : Nat} (hk : k ≤ 6) (h : shpS d = dateF k) : dIx d = k := by
  unfold dIx
  (repeat' split)
  all_goals first
    | (rename_i e; exact (date_inj hk (by decide) (h.symm.trans e)).symm)
    | (exfalso
       rcases (show k = 0 ∨ k = 1 ∨ k = 2 ∨ k = 3 ∨ k = 4 ∨ k = 5 ∨ k = 6 by omega) with rfl | rfl | rfl | rfl | rfl | rfl | rfl <;> contradiction)
theorem dIx_no {d : List UInt8} (h : ∀ k, k ≤ 6 → shpS d ≠ dateF k) : dIx d = 7 := by
  unfold dIx
  rw [if_neg (h 0 (by decide)), if_neg (h 1 (by decide)), if_neg (h 2 (by decide)), if_neg (h 3 (by decide)), if_neg (h 4 (by decide)), if_neg (h 5 (by decide)), if_neg (h 6 (by decide))]
def dY (k : Nat) (d : List UInt8) : Int := if k = 1 ∨ k = 2 ∨ k = 3 then four4 d 0 else -1
def dM (k : Nat) (d : List UInt8) : Int := if k = 2 then two2 d 5 else if k = 3 then two2 d 4 else if k = 4 ∨ k = 5 then two2 d 2 else -1
def dD (k : Nat) (d : List UInt8) : Int := if k = 3 then two2 d 6 else if k = 5 then two2 d 4 else if k = 6 then two2 d 3 else -1
def cH (k : Nat) (c : List UInt8) : Int := if k = 1 ∨ k = 2 ∨ k = 3 then two2 c 0 else -1
def cI (k : Nat) (c : List UInt8) : Int := if k = 2 ∨ k = 3 then two2 c 2 else if k = 4 ∨ k = 5 then two2 c 1 else -1
def cS (k : Nat) (c : List UInt8) : Int := if k = 3 then two2 c 4 else if k = 5 then two2 c 3 else if k = 6 then two2 c 2 else -1
/-- The stamp of a date's text, and a time's, and a zone's. -/
def whS (i : Nat) (d : List UInt8) (j : Nat) (c z : List UInt8) : Stm := ⟨dY i d, dM i d, dD i d, cH j c, cI j c, cS j c, decide (z ≠ []), if z = [] then 0 else (zoneV z).1⟩
def Stm.no : Stm := ⟨0, 0, 0, 0, 0, 0, false, 0⟩
def finP (t : Stm) : Stm × Err := if t.e = 0 then (t, .none) else (Stm.no, .errno t.e)
/-- The stamp that a text is, and what is wrong with it: of the date, of what is behind the T (if there is one). -/
def whR (d : List UInt8) (timed : Bool) (t : List UInt8) : Stm × Err :=
  if dIx d = 7 then (Stm.no, .errno 3)
  else if timed = false then finP (whS (dIx d) d 0 [] [])
  else if splJ t = 0 then (Stm.no, .errno 3)
  else if t.drop (splN t) ≠ [] ∧ (zoneV (t.drop (splN t))).2 ≠ 0 then (Stm.no, .errno (zoneV (t.drop (splN t))).2)
  else finP (whS (dIx d) d (splJ t) (t.take (splN t)) (t.drop (splN t)))
def whP (s : List UInt8) : Stm × Err := whR (cutB s 84).1 (cutB s 84).2.2 (cutB s 84).2.1
end Go.Proofs.YtjedjiffaopmkaaGreatDoor
namespace Go.Proofs.YtjedjiffaopmkaaGreatDoor
open Go
set_option maxRecDepth 20000
set_option maxHeartbeats 4000000
set_option linter.unusedSimpArgs false
set_option linter.unusedVariables false
attribute [local irreducible] AWp AOps byteAt SrcOK OrOk GloAll FnSpec
attribute [local irreducible] nextS stepS rngR ownB
def mayZ (r : Int) : Bool := decide (0 ≤ r ∧ r ≤ 1114111 ∧ (r < 55296 ∨ 57343 < r))
theorem mayZ_t {r : Int} : mayZ r = true ↔ (0 ≤ r ∧ r ≤ 1114111 ∧ (r < 55296 ∨ 57343 < r)) := by simp [mayZ]
attribute [local irreducible] mayZ
end Go.Proofs.YtjedjiffaopmkaaGreatDoor
namespace Go.Proofs.YtjedjiffaopmkaaGreatDoor
open Go
set_option maxRecDepth 20000
set_option maxHeartbeats 4000000
set_option linter.unusedSimpArgs false
set_option linter.unusedVariables false
attribute [local irreducible] AWp AOps byteAt SrcOK OrOk GloAll FnSpec
attribute [local irreducible] nextS stepS rngR ownB mayZ
theorem valid_rune {G : Glo} (r : Int) : FnIs Tryz.prog G 57 [.int .i32 r] (.bool (mayZ r)) := by
  have hGL : GloAll G [] := gloAll_nil
  refine fn_x Tryz.func57 Tryz.call57 rfl rfl rfl rfl hGL ?_
  intro C hC
  repeat' (first
    | (conv => whnf); first
      | refine .w ?_ | refine .v ?_ | apply sc_true | apply sc_false
      | (first | apply sc_lt | apply sc_nlt | apply sc_eq | apply sc_neq | apply sc_nil | apply sc_nnil | apply sc_seq | apply sc_nseq) <;> (intro hb; try exact dd hb)
      | apply sc_not | apply sc_or | (apply sc_i <;> intro hb)
      | (apply bx_i; intro hbd) | (apply gt_i; assumption; exact rfl)
      | (apply cx_is; first | fail) | (apply cx_do (i := 0) rfl; first | fail)
      | (apply ab_i; intro bl) | (apply as_i; intro va vk vc hva) | (apply av_i; intro v) | (apply ac_i; intro bl cap hcap)
      | apply bo_l | (apply nx_i <;> intro hnx) | (apply Ia.hit; assumption) | (apply Ia.miss; assumption)
      | (apply rt_is; exact rfl) | exact rt_w | (apply iv; assumption)
      | apply dw_q mixed hC hGL (by kernel_rfl) | (apply cq; assumption; (first | fail); exact rfl))
  all_goals (try conv => whnf)
  all_goals (apply rt_is; refine congrArg AVal.bool ?_)
  all_goals (rw [Bool.eq_iff_iff]; simp [mayZ_t, ltB_t, ltB_f, Bool.not_eq_true'] <;> omega)
theorem enc_all {r : Int} (hz : 0 ≤ r ∧ r ≤ 1114111 ∧ (r < 55296 ∨ 57343 < r)) : (Utf8.encode r).data.toList =
    if r.toNat < 128 then [UInt8.ofNat r.toNat] else if r.toNat < 2048 then [UInt8.ofNat (192 + r.toNat / 64), UInt8.ofNat (128 + r.toNat % 64)]
    else if r.toNat < 65536 then [UInt8.ofNat (224 + r.toNat / 4096), UInt8.ofNat (128 + r.toNat / 64 % 64), UInt8.ofNat (128 + r.toNat % 64)]
    else [UInt8.ofNat (240 + r.toNat / 262144), UInt8.ofNat (128 + r.toNat / 4096 % 64), UInt8.ofNat (128 + r.toNat / 64 % 64), UInt8.ofNat (128 + r.toNat % 64)] := by
  have hv : Utf8.valid r = true := by simp [Utf8.valid]; omega
  unfold Utf8.encode
  simp only [hv, if_true]
  (repeat' split) <;> first | rfl | omega
end Go.Proofs.YtjedjiffaopmkaaGreatDoor
namespace Go.Proofs.YtjedjiffaopmkaaGreatDoor
open Go
theorem next_lo {x : UInt8} {t : List UInt8} (h : x.toNat < 128) : nextS (x :: t) = (x.toNat, 1) := by
  unfold nextS
  simp [byteAt, h]
theorem rng_lo {x : UInt8} {t : List UInt8} (h : x.toNat < 128) : rngR (x :: t) = x.toNat ∧ stepS (x :: t) = 1 := by
  unfold rngR stepS
  rw [next_lo h]
  simp
theorem two_a {a b : UInt8} (ha : a.toNat < 128) (hb : b.toNat < 128) : rngR [a, b] = a.toNat ∧ stepS [a, b] = 1 ∧ rngR [b] = b.toNat ∧ stepS [b] = 1 := ⟨(rng_lo ha).1, (rng_lo ha).2, (rng_lo hb).1, (rng_lo hb).2⟩
theorem two1 {a b : UInt8} : byteAt [a, b] 1 = b.toNat := rfl
/-- A scope through which nothing jumps. -/
def noGo (Q : AExit → Env → Heap → Prop) : AExit → Env → Heap → Prop
  | .goto _, _, _ => False
  | x, e, h => Q x e h
theorem cd_scope {P : Program} [Tab P] {C : Ctx} {n : Nat} {env : Env} {H : Heap} {Q : AExit → Env → Heap → Prop} {c : Code} {G : Glo} {GL : List (Nat × List AVal)} (hC : C.G = G) (hGL : GloAll G GL) (h : codeX P C n G GL c env H (noGo Q)) : Cd P C n (.scope c) env H Q := by
  refine ⟨fun R a w hm hf => wp_scope_straight (wp_mono (codeX_ok hC hGL c _ _ _ h R a w hm hf) ?_)⟩
  rintro ex a w ⟨x, e, h, R, hq, hr, hm, hf⟩
  cases x with
  | goto l => exact hq.elim
  | normal => simp only [ExitRel] at hr; subst hr; exact ⟨.normal, e, h, R, hq, rfl, hm, hf⟩
  | exit i => simp only [ExitRel] at hr; subst hr; exact ⟨.exit i, e, h, R, hq, rfl, hm, hf⟩
  | ret => simp only [ExitRel] at hr; subst hr; exact ⟨.ret, e, h, R, hq, rfl, hm, hf⟩
  | panic v =>
    obtain ⟨x, rfl, hx⟩ := hr
    exact ⟨.panic v, e, h, R, hq, ⟨x, rfl, hx⟩, hm, hf⟩
set_option maxRecDepth 20000
set_option maxHeartbeats 4000000
set_option linter.unusedSimpArgs false
set_option linter.unusedVariables false
attribute [local irreducible] AWp AOps byteAt SrcOK OrOk GloAll FnSpec
attribute [local irreducible] nextS stepS rngR ownB mayZ
theorem enc_hi {r : Int} (h1 : 128 ≤ r) (hv : mayZ r = true) : ∃ e : List UInt8, (Utf8.encode r).data.toList = e ∧ 2 ≤ e.length ∧ e.length ≤ 4 ∧ 128 ≤ byteAt e 1 ∧ byteAt e 1 < 256 := by
  refine ⟨_, rfl, ?_⟩
  rw [mayZ_t] at hv
  rw [enc_all hv]
  have hb : ∀ k : Nat, 128 ≤ ((UInt8.ofNat (128 + k % 64)).toNat) ∧ ((UInt8.ofNat (128 + k % 64)).toNat) < 256 := by
    intro k
    have e : 128 + k % 64 < 256 := by omega
    rw [UInt8.toNat_ofNat_of_lt' (by simpa using e)]
    omega
  split
  · omega
  · split
    · refine ⟨by simp, by simp, ?_⟩; simpa [byteAt] using hb _
    · split
      · refine ⟨by simp, by simp, ?_⟩; simpa [byteAt] using hb _
      · refine ⟨by simp, by simp, ?_⟩; simpa [byteAt] using hb _
theorem indexRune_hi {G : Glo} {a b : UInt8} (ha : a.toNat < 128) (hb' : b.toNat < 128) (r : Int) (h1 : 128 ≤ r) (hv : mayZ r = true) (hne : r ≠ 65533) : FnIs Tryz.prog G 32 [.str [a, b], .int .i32 r] (.int .i64 (-1)) := by
  have hGL : GloAll G [] := gloAll_nil
  refine fn_x Tryz.func32 Tryz.call32 rfl rfl rfl rfl hGL ?_
  intro C hC
  have hV := valid_rune (G := G) r
  rw [hv] at hV
  repeat' (first
    | (conv => whnf); first
      | refine .w ?_ | refine .v ?_ | apply sc_true | apply sc_false
      | (first | apply sc_lt | apply sc_nlt | apply sc_eq | apply sc_neq | apply sc_nil | apply sc_nnil | apply sc_seq | apply sc_nseq) <;> (intro hb; try exact dd hb)
      | apply sc_not | apply sc_or | (apply sc_i <;> intro hb)
      | (apply bx_i; intro hbd) | (apply gt_i; assumption; exact rfl)
      | (apply cx_is; first | exact hV) | (apply cx_do (i := 0) rfl; first | exact hV)
      | (apply ab_i; intro bl) | (apply as_i; intro va vk vc hva) | (apply av_i; intro v) | (apply ac_i; intro bl cap hcap)
      | apply bo_l | (apply nx_i <;> intro hnx) | (apply Ia.hit; assumption) | (apply Ia.miss; assumption)
      | (apply rt_is; exact rfl) | exact rt_w | (apply iv; assumption)
      | apply dw_q mixed hC hGL (by kernel_rfl) | (apply cq; assumption; (first | exact hV); exact rfl))
  all_goals (try conv => whnf)
  apply cd_scope hC hGL
  repeat' (first
    | (conv => whnf); first
      | refine .w ?_ | refine .v ?_ | apply sc_true | apply sc_false
      | (first | apply sc_lt | apply sc_nlt | apply sc_eq | apply sc_neq | apply sc_nil | apply sc_nnil | apply sc_seq | apply sc_nseq) <;> (intro hb; try exact dd hb)
      | apply sc_not | apply sc_or | (apply sc_i <;> intro hb)
      | (apply bx_i; intro hbd) | (apply gt_i; assumption; exact rfl)
      | (apply cx_is; first | exact hV) | (apply cx_do (i := 0) rfl; first | exact hV)
      | (apply ab_i; intro bl) | (apply as_i; intro va vk vc hva) | (apply av_i; intro v) | (apply ac_i; intro bl cap hcap)
      | apply bo_l | (apply nx_i <;> intro hnx) | (apply Ia.hit; assumption) | (apply Ia.miss; assumption)
      | (apply rt_is; exact rfl) | exact rt_w | (apply iv; assumption)
      | apply dw_q mixed hC hGL (by kernel_rfl) | (apply cq; assumption; (first | exact hV); exact rfl))
  all_goals (try conv => whnf)
  obtain ⟨e, he, e1, e2, e3, e4⟩ := enc_hi h1 hv
  refine op1_run hC hGL (rv_istr rfl rfl rfl rfl) rfl rfl ?_
  rw [he]
  repeat' (first
    | (conv => whnf); first
      | refine .w ?_ | refine .v ?_ | apply sc_true | apply sc_false
      | (first | apply sc_lt | apply sc_nlt | apply sc_eq | apply sc_neq | apply sc_nil | apply sc_nnil | apply sc_seq | apply sc_nseq) <;> (intro hb; try exact dd hb)
      | apply sc_not | apply sc_or | (apply sc_i <;> intro hb)
      | (apply bx_i; intro hbd) | (apply gt_i; assumption; exact rfl)
      | (apply cx_is; first | exact hV) | (apply cx_do (i := 0) rfl; first | exact hV)
      | (apply ab_i; intro bl) | (apply as_i; intro va vk vc hva) | (apply av_i; intro v) | (apply ac_i; intro bl cap hcap)
      | apply bo_l | (apply nx_i <;> intro hnx) | (apply Ia.hit; assumption) | (apply Ia.miss; assumption)
      | (apply rt_is; exact rfl) | exact rt_w | (apply iv; assumption)
      | apply dw_q mixed hC hGL (by kernel_rfl) | (apply cq; assumption; (first | exact hV); exact rfl))
  all_goals (try conv => whnf)
  refine rds hC hGL 1 ?_
  have hix : ∀ c : Int, 0 ≤ c → c ≤ 255 → FnIs Tryz.prog G 7 [.str [], .int .u8 c] (.int .i64 (-1)) := fun c h0 h1 => strings_IndexByte [] c h0 h1
  repeat' (first
    | (conv => whnf); first
      | refine .w ?_ | refine .v ?_ | apply sc_true | apply sc_false
      | (first | apply sc_lt | apply sc_nlt | apply sc_eq | apply sc_neq | apply sc_nil | apply sc_nnil | apply sc_seq | apply sc_nseq) <;> (intro hb; try exact dd hb)
      | apply sc_not | apply sc_or | (apply sc_i <;> intro hb)
      | (apply bx_i; intro hbd) | (apply gt_i; assumption; exact rfl)
      | (apply cx_is; first | exact hV | exact hix _ (by omega) (by omega)) | (apply cx_do (i := 0) rfl; first | exact hV | exact hix _ (by omega) (by omega))
      | (apply ab_i; intro bl) | (apply as_i; intro va vk vc hva) | (apply av_i; intro v) | (apply ac_i; intro bl cap hcap)
      | apply bo_l | (apply nx_i <;> intro hnx) | (apply Ia.hit; assumption) | (apply Ia.miss; assumption)
      | (apply rt_is; exact rfl) | exact rt_w | (apply iv; assumption)
      | apply dw_q mixed hC hGL (by kernel_rfl) | (apply cq; assumption; (first | exact hV | exact hix _ (by omega) (by omega)); exact rfl))
  all_goals (try conv => whnf)
  have hl2 : e.length = 2 := by simp only [List.length_cons, List.length_nil] at hb; omega
  have ht1 : ((e.length : Int) - 1).toNat = 1 := by omega
  have ht2 : ((e.length : Int) - 1 + 1).toNat = 2 := by omega
  have hcall := Tryz.call7
  have hix2 : ∀ c : Int, 0 ≤ c → c ≤ 255 → FnIs Tryz.prog G 7 [.str (List.drop ((e.length : Int) - 1 + 1).toNat [a, b]), .int .u8 c] (.int .i64 (-1)) := by rw [ht2]; exact hix
  have h10 : byteAt [a, b] ((e.length : Int) - 1).toNat = b.toNat := by rw [ht1]; exact two1
  have h128 : 128 ≤ byteAt e ((e.length : Int) - 1).toNat := by rw [ht1]; exact e3
  apply cd_scope hC hGL
  repeat' (first
    | (conv => whnf); first
      | refine .w ?_ | refine .v ?_ | apply sc_true | apply sc_false
      | (first | apply sc_lt | apply sc_nlt | apply sc_eq | apply sc_neq | apply sc_nil | apply sc_nnil | apply sc_seq | apply sc_nseq) <;> (intro hb; try exact dd hb)
      | apply sc_not | apply sc_or | (apply sc_i <;> intro hb)
      | (apply bx_i; intro hbd) | (apply gt_i; assumption; exact rfl)
      | (apply cx_is; first | exact hV | exact hix2 _ (by omega) (by omega)) | (apply cx_do (i := 0) rfl; first | exact hV | exact hix2 _ (by omega) (by omega))
      | (apply ab_i; intro bl) | (apply as_i; intro va vk vc hva) | (apply av_i; intro v) | (apply ac_i; intro bl cap hcap)
      | apply bo_l | (apply nx_i <;> intro hnx) | (apply Ia.hit; assumption) | (apply Ia.miss; assumption)
      | (apply rt_is; exact rfl) | exact rt_w | (apply iv; assumption)
      | apply dw_q mixed hC hGL (by kernel_rfl) | (apply cq; assumption; (first | exact hV | exact hix2 _ (by omega) (by omega)); exact rfl))
  all_goals (try conv => whnf)
/-- .. at the replacement rune. -/
theorem indexRune_rep {G : Glo} {a b : UInt8} (ha : a.toNat < 128) (hb' : b.toNat < 128) : FnIs Tryz.prog G 32 [.str [a, b], .int .i32 65533] (.int .i64 (-1)) := by
  have hGL : GloAll G [] := gloAll_nil
  refine fn_x Tryz.func32 Tryz.call32 rfl rfl rfl rfl hGL ?_
  intro C hC
  repeat' (first
    | (conv => whnf); first
      | refine .w ?_ | refine .v ?_ | apply sc_true | apply sc_false
      | (first | apply sc_lt | apply sc_nlt | apply sc_eq | apply sc_neq | apply sc_nil | apply sc_nnil | apply sc_seq | apply sc_nseq) <;> (intro hb; try exact dd hb)
      | apply sc_not | apply sc_or | (apply sc_i <;> intro hb)
      | (apply bx_i; intro hbd) | (apply gt_i; assumption; exact rfl)
      | (apply cx_is; first | fail) | (apply cx_do (i := 0) rfl; first | fail)
      | (apply ab_i; intro bl) | (apply as_i; intro va vk vc hva) | (apply av_i; intro v) | (apply ac_i; intro bl cap hcap)
      | apply bo_l | (apply nx_i <;> intro hnx) | (apply Ia.hit; assumption) | (apply Ia.miss; assumption)
      | (apply rt_is; exact rfl) | exact rt_w | (apply iv; assumption)
      | apply dw_q mixed hC hGL (by kernel_rfl) | (apply cq; assumption; (first | fail); exact rfl))
  all_goals (try conv => whnf)
  refine rds hC hGL 3 ?_
  repeat' (first
    | (conv => whnf); first
      | refine .w ?_ | refine .v ?_ | apply sc_true | apply sc_false
      | (first | apply sc_lt | apply sc_nlt | apply sc_eq | apply sc_neq | apply sc_nil | apply sc_nnil | apply sc_seq | apply sc_nseq) <;> (intro hb; try exact dd hb)
      | apply sc_not | apply sc_or | (apply sc_i <;> intro hb)
      | (apply bx_i; intro hbd) | (apply gt_i; assumption; exact rfl)
      | (apply cx_is; first | fail) | (apply cx_do (i := 0) rfl; first | fail)
      | (apply ab_i; intro bl) | (apply as_i; intro va vk vc hva) | (apply av_i; intro v) | (apply ac_i; intro bl cap hcap)
      | apply bo_l | (apply nx_i <;> intro hnx) | (apply Ia.hit; assumption) | (apply Ia.miss; assumption)
      | (apply rt_is; exact rfl) | exact rt_w | (apply iv; assumption)
      | apply dw_q mixed hC hGL (by kernel_rfl) | (apply cq; assumption; (first | fail); exact rfl))
  all_goals (try conv => whnf)
  all_goals (
    exfalso
    obtain ⟨f1, f2, f3, f4⟩ := two_a ha hb'
    simp only [List.drop_zero, f1, f2, Nat.zero_add, List.drop_succ_cons, f3, f4, List.length_cons, List.length_nil] at *
    omega)
theorem indexRune_lo {G : Glo} {a b : UInt8} (r : Int) (h0 : 0 ≤ r) (h1 : r < 128) : FnIs Tryz.prog G 32 [.str [a, b], .int .i32 r] (.int .i64 (idxB [a, b] r)) := by
  have hGL : GloAll G [] := gloAll_nil
  refine fn_x Tryz.func32 Tryz.call32 rfl rfl rfl rfl hGL ?_
  intro C hC
  have hI := strings_IndexByte (G := G) [a, b] r h0 (by omega)
  repeat' (first
    | (conv => whnf); first
      | refine .w ?_ | refine .v ?_ | apply sc_true | apply sc_false
      | (first | apply sc_lt | apply sc_nlt | apply sc_eq | apply sc_neq | apply sc_nil | apply sc_nnil | apply sc_seq | apply sc_nseq) <;> (intro hb; try exact dd hb)
      | apply sc_not | apply sc_or | (apply sc_i <;> intro hb)
      | (apply bx_i; intro hbd) | (apply gt_i; assumption; exact rfl)
      | (apply cx_is; first | exact hI) | (apply cx_do (i := 0) rfl; first | exact hI)
      | (apply ab_i; intro bl) | (apply as_i; intro va vk vc hva) | (apply av_i; intro v) | (apply ac_i; intro bl cap hcap)
      | apply bo_l | (apply nx_i <;> intro hnx) | (apply Ia.hit; assumption) | (apply Ia.miss; assumption)
      | (apply rt_is; exact rfl) | exact rt_w | (apply iv; assumption)
      | apply dw_q mixed hC hGL (by kernel_rfl) | (apply cq; assumption; (first | exact hI); exact rfl))
  all_goals (try conv => whnf)
end Go.Proofs.YtjedjiffaopmkaaGreatDoor
namespace Go.Proofs.YtjedjiffaopmkaaGreatDoor
open Go Go.RowKit
/-- The bytes of a first rune. -/
theorem nextS_bytes (t : List UInt8) (h : (nextS t).2 ≠ 0) : ((nextS t).1 < 128 → (nextS t).2 = 1 ∧ byteAt t 0 = (nextS t).1) ∧ (128 ≤ (nextS t).1 → ∀ j, j < (nextS t).2 → 128 ≤ byteAt t j) ∧ mayZ (nextS t).1 = true := by
  have hb := byteAt_lt t 0
  rw [mayZ_t]
  revert h
  unfold nextS
  repeat' split
  all_goals (intro h; try (exact absurd rfl h))
  all_goals (simp only [contAt, mayN, Bool.and_eq_true, Bool.or_eq_true, decide_eq_true_eq, beq_iff_eq] at *)
  · refine ⟨fun _ => by simp, fun h => by omega, by omega⟩
  · refine ⟨fun h => by omega, fun _ j hj => ?_, by omega⟩
    obtain rfl | rfl : j = 0 ∨ j = 1 := by omega
    all_goals omega
  · refine ⟨fun h => by omega, fun _ j hj => ?_, by omega⟩
    obtain rfl | rfl | rfl : j = 0 ∨ j = 1 ∨ j = 2 := by omega
    all_goals omega
  · refine ⟨fun h => by omega, fun _ j hj => ?_, by omega⟩
    obtain rfl | rfl | rfl | rfl : j = 0 ∨ j = 1 ∨ j = 2 ∨ j = 3 := by omega
    all_goals omega
/-- The byte at which no rune begins. -/
theorem nextS_none (t : List UInt8) (h : (nextS t).2 = 0) (h0 : t.length ≠ 0) : 128 ≤ byteAt t 0 := by
  rcases Nat.lt_or_ge (byteAt t 0) 128 with h1 | h1
  · exfalso
    revert h
    unfold nextS
    rw [if_neg h0, if_pos h1]
    simp
  · exact h1
theorem two_has {a b : UInt8} (x : UInt8) : ([a, b] : List UInt8).contains x = true ↔ (x.toNat = a.toNat ∨ x.toNat = b.toNat) := by
  simp only [List.contains_cons, List.contains_nil, Bool.or_false, Bool.or_eq_true, beq_iff_eq]
  exact ⟨fun h => h.imp (fun h => by rw [h]) (fun h => by rw [h]), fun h => h.imp UInt8.toNat_inj.1 UInt8.toNat_inj.1⟩
theorem two_not {a b : UInt8} {x : UInt8} (h : x.toNat ≠ a.toNat ∧ x.toNat ≠ b.toNat) : ([a, b] : List UInt8).contains x = false := by
  cases hc : ([a, b] : List UInt8).contains x with
  | false => rfl
  | true => rcases (two_has x).1 hc with h1 | h1; exact absurd h1 h.1; exact absurd h1 h.2
theorem get_of_byteAt {s : List UInt8} {i : Nat} {x : UInt8} (h : s[i]? = some x) : x.toNat = byteAt s i := by simp [byteAt, List.getD, h]
set_option maxRecDepth 20000
set_option maxHeartbeats 4000000
set_option linter.unusedSimpArgs false
set_option linter.unusedVariables false
attribute [local irreducible] AWp AOps byteAt SrcOK OrOk GloAll FnSpec
attribute [local irreducible] nextS stepS rngR ownB mayZ
theorem should_set {G : Glo} (n : Int) : FnIs Tryz.prog G 33 [.int .i64 n] (.bool (ltB 8 n)) := by
  have hGL : GloAll G [] := gloAll_nil
  refine fn_x Tryz.func33 Tryz.call33 rfl rfl rfl rfl hGL ?_
  intro C hC
  repeat' (first
    | (conv => whnf); first
      | refine .w ?_ | refine .v ?_ | apply sc_true | apply sc_false
      | (first | apply sc_lt | apply sc_nlt | apply sc_eq | apply sc_neq | apply sc_nil | apply sc_nnil | apply sc_seq | apply sc_nseq) <;> (intro hb; try exact dd hb)
      | apply sc_not | apply sc_or | (apply sc_i <;> intro hb)
      | (apply bx_i; intro hbd) | (apply gt_i; assumption; exact rfl)
      | (apply cx_is; first | fail) | (apply cx_do (i := 0) rfl; first | fail)
      | (apply ab_i; intro bl) | (apply as_i; intro va vk vc hva) | (apply av_i; intro v) | (apply ac_i; intro bl cap hcap)
      | apply bo_l | (apply nx_i <;> intro hnx) | (apply Ia.hit; assumption) | (apply Ia.miss; assumption)
      | (apply rt_is; exact rfl) | exact rt_w | (apply iv; assumption)
      | apply dw_q mixed hC hGL (by kernel_rfl) | (apply cq; assumption; (first | fail); exact rfl))
  all_goals (try conv => whnf)
theorem idx_two {a b : UInt8} (r : Int) : (0 ≤ idxB [a, b] r ↔ r = a.toNat ∨ r = b.toNat) := by
  unfold idxB
  simp only [idxF]
  split
  · omega
  · split <;> omega
theorem indexRune_any {G : Glo} {a b : UInt8} (ha : a.toNat < 128) (hb' : b.toNat < 128) (r : Int) (hv : mayZ r = true) : ∃ z : Int, FnIs Tryz.prog G 32 [.str [a, b], .int .i32 r] (.int .i64 z) ∧ (0 ≤ z ↔ r = a.toNat ∨ r = b.toNat) := by
  have hm := hv
  rw [mayZ_t] at hm
  by_cases h1 : r < 128
  · exact ⟨_, indexRune_lo r hm.1 h1, idx_two r⟩
  · by_cases h2 : r = 65533
    · subst h2; exact ⟨-1, indexRune_rep ha hb', by omega⟩
    · exact ⟨-1, indexRune_hi ha hb' r (by omega) hv h2, by omega⟩
/-- What a round over a text takes. -/
theorem rng_round (t : List UInt8) (h0 : t.length ≠ 0) : mayZ (rngR t : Int) = true ∧ 0 < stepS t ∧ stepS t ≤ t.length ∧ ((rngR t : Int) < 128 → stepS t = 1 ∧ (byteAt t 0 : Int) = rngR t) ∧ (128 ≤ (rngR t : Int) → ∀ j, j < stepS t → 128 ≤ byteAt t j) := by
  have hle := nextS_le t
  by_cases hn : (nextS t).2 = 0
  · have h1 := nextS_none t hn h0
    unfold rngR stepS
    rw [if_pos hn, if_pos hn]
    refine ⟨by rw [mayZ_t]; omega, by omega, by omega, fun h => by omega, fun _ j hj => by rw [show j = 0 by omega]; exact h1⟩
  · have h1 := nextS_bytes t hn
    unfold rngR stepS
    rw [if_neg hn, if_neg hn]
    refine ⟨h1.2.2, by omega, hle.1, fun h => ?_, fun h => h1.2.1 (by omega)⟩
    have := h1.1 (by omega)
    omega
theorem indexAny_short {G : Glo} {a b : UInt8} (ha : a.toNat < 128) (hb' : b.toNat < 128) (s : List UInt8) (hl : s.length ≤ 8) : FnIs Tryz.prog G 14 [.str s, .str [a, b]] (.int .i64 (Lib.indexAny s [a, b])) := by
  have hGL : GloAll G [] := gloAll_nil
  refine fn_x Tryz.func14 Tryz.call14 rfl rfl rfl rfl hGL ?_
  intro C hC
  have hS := should_set (G := G) s.length
  have hlen2 : ([a, b] : List UInt8).length = 2 := rfl
  repeat' (first
    | (conv => whnf); first
      | refine .w ?_ | refine .v ?_ | apply sc_true | apply sc_false
      | (first | apply sc_lt | apply sc_nlt | apply sc_eq | apply sc_neq | apply sc_nil | apply sc_nnil | apply sc_seq | apply sc_nseq) <;> (intro hb; try exact dd hb)
      | apply sc_not | apply sc_or | (apply sc_i <;> intro hb)
      | (apply bx_i; intro hbd) | (apply gt_i; assumption; exact rfl)
      | (apply cx_is; first | exact hS) | (apply cx_do (i := 0) rfl; first | exact hS)
      | (apply ab_i; intro bl) | (apply as_i; intro va vk vc hva) | (apply av_i; intro v) | (apply ac_i; intro bl cap hcap)
      | apply bo_l | (apply nx_i <;> intro hnx) | (apply Ia.hit; assumption) | (apply Ia.miss; assumption)
      | (apply rt_is; exact rfl) | exact rt_w | (apply iv; assumption)
      | apply dw_q mixed hC hGL (by kernel_rfl) | (apply cq; assumption; (first | exact hS); exact rfl))
  all_goals (try conv => whnf)
  refine lp hC hGL (fun (i : Nat) => [(1, .str [a, b]), (45, .own 0 (.pointer (some ⟨bl, 0, none⟩)))]) (fun i => [.iter bl s i]) (fun i => i ≤ s.length ∧ Lib.NoAny s [a, b] i) (fun i => s.length - i) 0 ?_ env_w rfl ?_
  · exact ⟨Nat.zero_le _, Lib.NoAny.zero _ _⟩
  rintro i ⟨hi, hno⟩
  have hz := fun (h : i < s.length) => rng_round (s.drop i) (by rw [List.length_drop]; omega)
  have hR : ∃ z : Int, i < s.length → FnIs Tryz.prog G 32 [.str [a, b], .int .i32 (rngR (s.drop i))] (.int .i64 z) ∧ (0 ≤ z ↔ (rngR (s.drop i) : Int) = a.toNat ∨ (rngR (s.drop i) : Int) = b.toNat) := by
    by_cases h : i < s.length
    · obtain ⟨z, h1, h2⟩ := indexRune_any (G := G) ha hb' (rngR (s.drop i)) (hz h).1
      exact ⟨z, fun _ => ⟨h1, h2⟩⟩
    · exact ⟨0, fun h' => absurd h' h⟩
  obtain ⟨z, hR⟩ := hR
  repeat' (first
    | (conv => whnf); first
      | refine .w ?_ | refine .v ?_ | apply sc_true | apply sc_false
      | (first | apply sc_lt | apply sc_nlt | apply sc_eq | apply sc_neq | apply sc_nil | apply sc_nnil | apply sc_seq | apply sc_nseq) <;> (intro hb; try exact dd hb)
      | apply sc_not | apply sc_or | (apply sc_i <;> intro hb)
      | (apply bx_i; intro hbd) | (apply gt_i; assumption; exact rfl)
      | (apply cx_is; first | exact (hR (by omega)).1) | (apply cx_do (i := 0) rfl; first | exact (hR (by omega)).1)
      | (apply ab_i; intro bl) | (apply as_i; intro va vk vc hva) | (apply av_i; intro v) | (apply ac_i; intro bl cap hcap)
      | apply bo_l | (apply nx_i <;> intro hnx) | (apply Ia.hit; assumption) | (apply Ia.miss; assumption)
      | (apply rt_is; exact rfl) | exact rt_w | (apply iv; assumption)
      | apply dw_q mixed hC hGL (by kernel_rfl) | (apply cq; assumption; (first | exact (hR (by omega)).1); exact rfl))
  all_goals (try conv => whnf)
  · obtain ⟨z1, z2, z3, z4, z5⟩ := hz hnx
    have hr := (hR hnx).2.1 hb
    have h1 := z4 (by omega)
    have hx : s[i]? = some s[i] := List.getElem?_eq_getElem hnx
    have h2 := get_of_byteAt hx
    rw [drop_byteAt, Nat.add_zero] at h1
    refine rt_is ?_
    rw [Lib.indexAny_hit hno hx ((two_has _).2 (by omega))]
  · obtain ⟨z1, z2, z3, z4, z5⟩ := hz hnx
    rw [List.length_drop] at z3
    have hr : ¬ ((rngR (s.drop i) : Int) = a.toNat ∨ (rngR (s.drop i) : Int) = b.toNat) := fun h => by have := (hR hnx).2.2 h; omega
    refine nxt (i + stepS (s.drop i)) ⟨by omega, ?_⟩ (by omega) ⟨rfl, rfl, trivial⟩ rfl
    intro j x hj hx
    by_cases h : j < i
    · exact hno j x h hx
    · have h2 := get_of_byteAt hx
      apply two_not
      by_cases h128 : (rngR (s.drop i) : Int) < 128
      · have h3 := z4 h128
        rw [drop_byteAt, Nat.add_zero] at h3
        have : j = i := by omega
        subst this
        omega
      · have h3 := z5 (by omega) (j - i) (by omega)
        rw [drop_byteAt, show i + (j - i) = j by omega] at h3
        omega
  · have : i = s.length := by omega
    subst this
    refine rt_is ?_
    rw [Lib.indexAny_none hno]
    rfl
theorem indexAny_long {G : Glo} {a b : UInt8} (ha : a.toNat < 128) (hb' : b.toNat < 128) (s : List UInt8) (h8 : 8 < s.length) (hl : s.length < 100000) : FnIs Tryz.prog G 14 [.str s, .str [a, b]] (.int .i64 (Lib.indexAny s [a, b])) := by
  refine fnis_of_calls rfl Tryz.call14 ?_
  rintro R args ⟨x, t, e, hx, y, t', e', hy, rfl⟩ w _ _
  obtain rfl := rel_str.1 hx
  obtain rfl := rel_str.1 hy
  subst e'
  obtain rfl := arr_of e
  refine (Tryz.strings_IndexAny_long (fun w => by kernel_rfl) ⟨s.toArray⟩ ⟨#[a, b]⟩ w (by show 2 ≤ 2; omega) (by rw [str_size]; exact h8) (by rw [str_size]; omega) (by show 2 < 4294967281; omega) ?_).mono ?_
  · intro j x hx
    match j with
    | 0 => cases hx; exact ha
    | 1 => cases hx; exact hb'
    | j + 2 => simp at hx
  · rintro e w' ⟨rfl, rfl⟩
    exact ⟨rfl, ((Below.refl w.heap.size w).alloc (Nat.le_refl _) _).alloc (by show w.heap.size ≤ (w.heap.push _).size; simp) _⟩
theorem indexAny_two {G : Glo} {a b : UInt8} (ha : a.toNat < 128) (hb' : b.toNat < 128) (s : List UInt8) (hl : s.length < 100000) : FnIs Tryz.prog G 14 [.str s, .str [a, b]] (.int .i64 (Lib.indexAny s [a, b])) := by
  by_cases h : s.length ≤ 8
  · exact indexAny_short ha hb' s h
  · exact indexAny_long ha hb' s (by omega) hl
end Go.Proofs.YtjedjiffaopmkaaGreatDoor
namespace Go.Proofs.YtjedjiffaopmkaaGreatDoor
open Go Go.RowKit
/-- 9 for each digit. -/
def nineI (r : Int) : Int := if 48 ≤ r ∧ r ≤ 57 then 57 else r
theorem decL_rng {l : List UInt8} (h : l ≠ []) : Lib.decodeL l = (rngR l, stepS l) := by
  have h0 : 0 < l.length := List.length_pos_iff.2 h
  unfold Lib.decodeL
  rw [decode_nextS l 0 h0, List.drop_zero]
  unfold rngR stepS
  split <;> rfl
theorem encR_hi {r : Int} (h : 128 ≤ r) : ∃ x t, Lib.encodeRune r = x :: t ∧ 128 ≤ x.toNat := by
  unfold Lib.encodeRune Lib.encodeRuneZ
  rw [if_neg (by omega)]
  have hb : ∀ z : Int, 128 ≤ z → z < 256 → 128 ≤ (z.toNat.toUInt8).toNat := by
    intro z h1 h2
    rw [Nat.toUInt8, UInt8.toNat_ofNat_of_lt' (by simp; omega)]
    omega
  split
  · exact ⟨_, _, rfl, hb _ (by omega) (by omega)⟩
  · split
    · exact ⟨_, _, rfl, hb _ (by omega) (by omega)⟩
    · split
      · exact ⟨_, _, rfl, hb _ (by omega) (by omega)⟩
      · exact ⟨_, _, rfl, hb _ (by omega) (by omega)⟩
theorem encR_lo {r : Int} (h0 : 0 ≤ r) (h : r < 128) : Lib.encodeRune r = [UInt8.ofNat r.toNat] := by
  unfold Lib.encodeRune
  rw [Lib.encodeRuneZ_one h0 (by omega)]
  rfl
theorem shp_cons (x : UInt8) (l : List UInt8) : shpS (x :: l) = UInt8.ofNat (nineN x.toNat) :: shpS l := rfl
/-- A text of bytes below 128 is the shape by runes just where it is the one by bytes. -/
theorem map_key : ∀ (n : Nat) (l u : List UInt8), l.length ≤ n → (∀ c ∈ u, c.toNat < 128) → (Lib.mapD nineI l = u ↔ shpS l = u)
  | n, [], u, _, _ => by
    have e : Lib.mapD nineI [] = [] := rfl
    rw [e]
    exact Iff.rfl
  | 0, x :: l, u, h, _ => by simp at h
  | n + 1, x :: l, u, h, hu => by
    have hne : x :: l ≠ [] := by simp
    have hr := rng_round (x :: l) (by simp)
    have hx : byteAt (x :: l) 0 = x.toNat := rfl
    rw [Lib.mapD_step nineI (x :: l) hne, decL_rng hne]
    dsimp only
    by_cases h1 : (rngR (x :: l) : Int) < 128
    · obtain ⟨h2, h3⟩ := hr.2.2.2.1 h1
      rw [hx] at h3
      have e1 : nineI (rngR (x :: l) : Int) = (nineN x.toNat : Int) := by
        rw [← h3]
        unfold nineI nineN
        split <;> split <;> omega
      have h4 : nineN x.toNat < 128 := by unfold nineN; split <;> omega
      rw [if_pos (by rw [e1]; omega), e1, encR_lo (by omega) (by omega), h2, List.drop_succ_cons, List.drop_zero, Int.toNat_natCast, shp_cons, List.singleton_append]
      cases u with
      | nil => simp
      | cons y t =>
        have ih := map_key n l t (by simpa using h) (fun c hc => hu c (List.mem_cons_of_mem _ hc))
        simp only [List.cons.injEq, ih]
    · have h5 := hr.2.2.2.2 (by omega) 0 hr.2.1
      rw [hx] at h5
      have e1 : nineI (rngR (x :: l) : Int) = rngR (x :: l) := by unfold nineI; rw [if_neg (by omega)]
      obtain ⟨y, t, e2, h6⟩ := encR_hi (r := (rngR (x :: l) : Int)) (by omega)
      rw [if_pos (by rw [e1]; omega), e1, e2, shp_cons]
      have e3 : nineN x.toNat = x.toNat := by unfold nineN; rw [if_neg (by omega)]
      constructor
      · rintro rfl
        have := hu y (by simp)
        omega
      · rintro rfl
        have := hu (UInt8.ofNat (nineN x.toNat)) (by simp)
        rw [e3, UInt8.ofNat_toNat] at this
        omega
theorem map_shape {l u : List UInt8} (hu : ∀ c ∈ u, c.toNat < 128) : Lib.mapD nineI l = u ↔ shpS l = u := map_key l.length l u (Nat.le_refl _) hu
end Go.Proofs.YtjedjiffaopmkaaGreatDoor
namespace Go.Proofs.YtjedjiffaopmkaaGreatDoor
open Go
set_option maxRecDepth 20000
set_option maxHeartbeats 4000000
set_option linter.unusedSimpArgs false
set_option linter.unusedVariables false
attribute [local irreducible] AWp AOps byteAt SrcOK OrOk GloAll FnSpec
attribute [local irreducible] nextS stepS rngR ownB
def firstTab : List AVal := Go.Pinned.utf8FirstZ.map (fun x : Nat => AVal.int .u8 (x : Int))
def acceptTab : List AVal := [.int .u8 128, .int .u8 191, .int .u8 160, .int .u8 191, .int .u8 128, .int .u8 159, .int .u8 144, .int .u8 191, .int .u8 128, .int .u8 143, .int .u8 0, .int .u8 0, .int .u8 0, .int .u8 0, .int .u8 0, .int .u8 0, .int .u8 0, .int .u8 0, .int .u8 0, .int .u8 0, .int .u8 0, .int .u8 0, .int .u8 0, .int .u8 0, .int .u8 0, .int .u8 0, .int .u8 0, .int .u8 0, .int .u8 0, .int .u8 0, .int .u8 0, .int .u8 0]
def firstN (b : Nat) : Nat :=
  if b < 128 then 240 else if b < 194 then 241 else if b < 224 then 2 else if b = 224 then 19 else if b < 237 then 3 else if b = 237 then 35 else if b < 240 then 3 else if b = 240 then 52
  else if b < 244 then 4 else if b = 244 then 68 else 241
theorem firstN_ok : ∀ b : Fin 256, Go.Pinned.utf8FirstZ[b.1]? = some (firstN b.1) := by decide +kernel
theorem firstTab_at (b : Nat) (h : b < 256) : firstTab[b * 1]? = some (.int .u8 (firstN b : Int)) := by
  rw [Nat.mul_one]
  simp only [firstTab, List.getElem?_map, firstN_ok ⟨b, h⟩, Option.map_some]
attribute [local irreducible] firstTab
/-- The two tables of package utf8. -/
abbrev utfTy : List (Nat × List AVal) := [(5, firstTab), (6, acceptTab)]
end Go.Proofs.YtjedjiffaopmkaaGreatDoor
namespace Go.Proofs.YtjedjiffaopmkaaGreatDoor
open Go
theorem Tryz.own : ownKnob Tryz.prog.godebug = none := by kernel_rfl
/-- All blocks below, sealed as they stand. -/
def sealBelow (W : World) (k : Nat) : Seal := fun b => if b < k then W.heap[b]? else none
theorem sealBelow_ok (W : World) (k : Nat) : Sealed (sealBelow W k) W := by
  intro b o h
  unfold sealBelow at h
  split at h
  · exact h
  · cases h
theorem ms_start (W : World) (R : Seal) (G : Glo) (hG : G.p R) (hs : Sealed R W) : MS ⟨W, R, blks [], G, hG, []⟩ R [] W :=
  ⟨hs, Seal.le_refl R, fun _ hb => .inl hb, ⟨fun _ h => absurd h List.not_mem_nil, List.nodup_nil, fun _ h => absurd h List.not_mem_nil⟩, fun _ h => absurd h List.not_mem_nil, Ext.refl W _⟩
theorem keptBut_of_ext {W W' : World} (h : Ext W [] W') (may : MemPlace → Prop) : W.keptBut W' may := by
  refine ⟨h.os, h.output, fun i hi => ?_⟩
  rw [h.block i hi (by simp)]
  generalize W.heap[i]? = o
  cases o with
  | none => rfl
  | some o =>
    cases o with
    | cells c t fr => exact ⟨rfl, rfl, rfl, fun _ _ => rfl⟩
    | map es clock => exact .inr ⟨rfl, rfl⟩
    | _ => rfl
theorem law_end {P : Program} {G : Glo} {f : FuncId} {avs : List AVal} {c : Bool} {args : Array Value} {W : World} {R : Seal} (hs : FnIs P G f avs (.bool c)) (hc : (callFunc f args).run P W = .ok (.enter f args) W)
    (hG : G.p R) (hR : Sealed R W) (ha : RelV R avs args.toList) : Calls P f args W fun e W' => e = .returned (.bool c) ∧ ∀ may, W.keptBut W' may := by
  rcases hs R W args hG (ms_start W R G hG hR) ha with ⟨_, h⟩ | ⟨v, w', h, _⟩
  · refine h.mono fun e W' ⟨res, H', R', ⟨hr, hH⟩, he, hm⟩ => ?_
    subst hr
    obtain ⟨x, rfl, hx⟩ := he
    refine ⟨by rw [rel_bool.1 hx], fun may => keptBut_of_ext hm.ext may⟩
  · rw [hc] at h
    cases h
theorem len_of_size {x : ByteArray} (h : x.size ≤ maxLen) : x.data.toList.length ≤ 9223372036854775807 := by
  have : x.data.toList.length = x.size := by cases x; rfl
  rw [this]
  exact h
end Go.Proofs.YtjedjiffaopmkaaGreatDoor
namespace Go.Proofs.YtjedjiffaopmkaaGreatDoor
open Go
theorem var_heap {P : Program} {w : World} {n : String} {g : Nat} {cs : Array Value} (hg : P.globalNamed n = some g) (hv : w.var? P n = some cs) : ∃ e fz, w.heap[g]? = some (.cells cs e fz) := by
  simp only [World.var?, hg, Option.bind_some] at hv
  split at hv
  · rename_i c e fz hh
    cases hv
    exact ⟨_, _, hh⟩
  · cases hv
/-- A list of package-level variables that are known. -/
def gloOf (L : List (Nat × List AVal)) : Glo := ⟨fun R => ∀ x, x ∈ L → SealedAt R x.1 0 x.2, fun _ _ hle h x hx => by
  obtain ⟨C, e, fz, h1, h2⟩ := h x hx
  exact ⟨C, e, fz, hle _ _ h1, relL_mono hle _ _ h2⟩⟩
theorem gloGet_mem : ∀ (L : List (Nat × List AVal)) {g : Nat} {cs : List AVal}, gloGet L g = some cs → (g, cs) ∈ L
  | [], _, _, h => by simp [gloGet] at h
  | (k, c) :: r, g, cs, h => by
    unfold gloGet at h
    split at h
    · rename_i e
      obtain rfl := Nat.eq_of_beq_eq_true e
      cases h
      exact List.mem_cons_self
    · exact List.mem_cons_of_mem _ (gloGet_mem r h)
theorem gloAll_of {L L' : List (Nat × List AVal)} (h : ∀ x, x ∈ L' → x ∈ L) : GloAll (gloOf L) L' := fun g cs hg R hR => hR (g, cs) (h _ (gloGet_mem L' hg))
theorem sealed_below {W : World} {k g : Nat} {C : Array Value} {e : TypeId} {fz : Nat × Nat} {cs : List AVal} (hk : g < k) (hW : W.heap[g]? = some (.cells C e fz)) (h : RelL (sealBelow W k) cs (C.toList.take cs.length)) : SealedAt (sealBelow W k) g 0 cs :=
  ⟨C, e, fz, by unfold sealBelow; rw [if_pos hk]; exact hW, by rw [List.drop_zero]; exact h⟩
theorem rowNamed_error : ∀ ty, ty < Tryz.prog.types.size → Tryz.prog.rowNamed ty [101, 114, 114, 111, 114] = true → ty = 28 := by
  have h : ((List.range Tryz.prog.types.size).all fun ty => !Tryz.prog.rowNamed ty [101, 114, 114, 111, 114] || Nat.beq ty 28) = true := by kernel_rfl
  intro ty h1 h2
  have := List.all_eq_true.1 h ty (List.mem_range.2 h1)
  rw [h2] at this
  exact Nat.eq_of_beq_eq_true (by simpa using this)
theorem error_laid {W : World} {k : Nat} (hk : 2 < k) {laid : List (String × DataW Unit)} (hL : laidMetH Tryz.prog laid W) (hm : ("errors.errorType", Rows.laid_errors_errorType) ∈ laid) : SealedAt (sealBelow W k) 2 0 [rty 28] := by
  have h := (laidMetH_iff.1 hL).2 _ (List.mem_filter.2 ⟨hm, by kernel_rfl⟩)
  have h : ∃ name u ty, (Rows.laid_errors_errorType (H := Unit)).handleName? = some name ∧ (Tryz.prog.cutTypes.find? (·.1 == "internal/reflectlite.rtype")).map (·.2) = some u ∧ ty < Tryz.prog.types.size ∧ Tryz.prog.rowNamed ty name = true ∧
      W.var? Tryz.prog "errors.errorType" = some #[.iface u (.agg #[typeHandle Tryz.prog ty])] := h
  obtain ⟨name, u, ty, h1, h2, h3, h4, h5⟩ := h
  obtain rfl : [101, 114, 114, 111, 114] = name := Option.some.inj ((show (Rows.laid_errors_errorType (H := Unit)).handleName? = some [101, 114, 114, 111, 114] by kernel_rfl).symm.trans h1)
  obtain rfl : 146 = u := Option.some.inj ((show (Tryz.prog.cutTypes.find? (·.1 == "internal/reflectlite.rtype")).map (·.2) = some 146 by kernel_rfl).symm.trans h2)
  obtain rfl := rowNamed_error ty h3 h4
  obtain ⟨e, fz, hh⟩ := var_heap (show Tryz.prog.globalNamed "errors.errorType" = some 2 by kernel_rfl) h5
  exact sealed_below hk hh ⟨_, _, rfl, (rel_rty _).1, rfl⟩
/-- The witness world of a row that lists a type's handle: the handle in its cell, the rest laid. -/
noncomputable def handleWorld (os : Os) : World :=
  let w0 := World.holding Tryz.prog os ⟨#[], #[], []⟩
  { w0 with heap := w0.heap.modify 2 fun
      | .cells _ t frozen => .cells #[.iface 146 (.agg #[hdl 28])] t frozen
      | o => o }
def plainOf (laid : List (String × DataW Unit)) : List (String × DataW Unit) := laid.filter fun x => x.2.handleName?.isNone
noncomputable def handleLaid (os : Os) (laid : List (String × DataW Unit)) : World := (handleWorld os).layVars Tryz.prog (plainOf laid)
theorem handleLaid_os (os : Os) (laid : List (String × DataW Unit)) : (handleLaid os laid).os = os := World.layVars_os _ _ _
theorem handleLaid_met {os : Os} {laid : List (String × DataW Unit)} (args : Array Value) (hf : (handleWorld os).layFits Tryz.prog (plainOf laid) [] = true) (hi : (handleWorld os).layIfaces Tryz.prog (plainOf laid) (handleLaid os laid) = true)
    (hh : ((laid.filter fun x => x.2.handleName?.isSome).all (handleAtB Tryz.prog ((handleLaid os laid).forCall (fun _ _ => 0) ⟨#[], args, []⟩).memory)) = true) :
    laidMetH Tryz.prog laid ((handleLaid os laid).forCall (fun _ _ => 0) ⟨#[], args, []⟩).memory := by
  refine laidMetH_of_parts ?_ hh
  have e1 : ((plainOf laid).filter fun x => ((plainOf laid).map (·.1)).contains x.1) = plainOf laid := List.filter_eq_self.2 fun x hx => List.contains_iff_mem.2 (List.mem_map.2 ⟨x, hx, rfl⟩)
  have e2 : ((plainOf laid).filter fun x => !((plainOf laid).map (·.1)).contains x.1) = [] := List.filter_eq_nil_iff.2 fun x hx => by rw [List.contains_iff_mem.2 (List.mem_map.2 ⟨x, hx, rfl⟩)]; simp
  have h : laidMet Tryz.prog (plainOf laid) (handleLaid os laid) := laidMet_layVars (w0 := handleWorld os) ((plainOf laid).map (·.1)) [] (by rw [e1]; rfl) (by rw [e1]; exact hf) (by rw [e1]; exact hi) (by rw [e2]; exact LaidIn.none)
  exact h.of_heap (by simp [World.memory, World.forCall, Input.heap])
theorem err_lt {W : World} {laid : List (String × DataW Unit)} (hL : laidMetH Tryz.prog laid W) (hm : ("errors.errorType", Rows.laid_errors_errorType) ∈ laid) : 2 < W.heap.size := by
  have h := (laidMetH_iff.1 hL).2 _ (List.mem_filter.2 ⟨hm, by kernel_rfl⟩)
  obtain ⟨name, u, ty, h1, h2, h3, h4, h5⟩ := h
  obtain ⟨e, fz, hh⟩ := var_heap (show Tryz.prog.globalNamed "errors.errorType" = some 2 by kernel_rfl) h5
  exact (Array.getElem?_eq_some_iff.1 hh).1
end Go.Proofs.YtjedjiffaopmkaaGreatDoor
namespace Go.Proofs.YtjedjiffaopmkaaGreatDoor
open Go Go.RowKit
theorem sealed_below' {R : Seal} {w W : World} (hs : Sealed R w) (hb : Below w.heap.size w W) : Sealed R W := fun b o h => by
  have h1 := hs b o h
  rw [hb.block b ((Array.getElem?_eq_some_iff.1 h1).1)]
  exact h1
theorem first_at (c : Nat) (h : c < 256) : firstTab[c]? = some (.int .u8 (Lib.firstT c)) := by
  have := firstTab_at c h
  rwa [Nat.mul_one] at this
theorem acc_at (i : Nat) (h : i < 16) : acceptTab[2 * i]? = some (.int .u8 (Lib.accLo i)) ∧ acceptTab[2 * i + 1]? = some (.int .u8 (Lib.accHi i)) := by
  match i, h with
  | 0, _ => exact ⟨rfl, rfl⟩
  | 1, _ => exact ⟨rfl, rfl⟩
  | 2, _ => exact ⟨rfl, rfl⟩
  | 3, _ => exact ⟨rfl, rfl⟩
  | 4, _ => exact ⟨rfl, rfl⟩
  | 5, _ => exact ⟨rfl, rfl⟩
  | 6, _ => exact ⟨rfl, rfl⟩
  | 7, _ => exact ⟨rfl, rfl⟩
  | 8, _ => exact ⟨rfl, rfl⟩
  | 9, _ => exact ⟨rfl, rfl⟩
  | 10, _ => exact ⟨rfl, rfl⟩
  | 11, _ => exact ⟨rfl, rfl⟩
  | 12, _ => exact ⟨rfl, rfl⟩
  | 13, _ => exact ⟨rfl, rfl⟩
  | 14, _ => exact ⟨rfl, rfl⟩
  | 15, _ => exact ⟨rfl, rfl⟩
  | n + 16, h => exact absurd h (by omega)
theorem utf_tabs {G : Glo} (hU : GloAll G utfTy) {R : Seal} {w : World} (hG : G.p R) (hs : Sealed R w) : Lib.Utf8Tabs 5 6 w := by
  have h1 : SealedAt R 5 0 firstTab := hU _ _ rfl R hG
  have h2 : SealedAt R 6 0 acceptTab := hU _ _ rfl R hG
  refine ⟨fun c hc => ?_, fun i hi => ⟨?_, ?_⟩⟩
  · obtain ⟨v, hv, hr⟩ := h1.cell hs (first_at c hc)
    rw [Nat.zero_add] at hv
    rw [hv, rel_int.1 (relC_rel hr rfl)]
  · obtain ⟨v, hv, hr⟩ := h2.cell hs (acc_at i hi).1
    rw [Nat.zero_add] at hv
    rw [hv, rel_int.1 (relC_rel hr rfl)]
  · obtain ⟨v, hv, hr⟩ := h2.cell hs (acc_at i hi).2
    rw [Nat.zero_add] at hv
    rw [hv, rel_int.1 (relC_rel hr rfl)]
theorem law_belowV {P : Program} {G : Glo} {f : FuncId} {avs : List AVal} {k : IntKind} {c : Int} {args : Array Value} {W : World} {R : Seal} (hs : FnIs P G f avs (.int k c)) (hc : (callFunc f args).run P W = .ok (.enter f args) W)
    (hG : G.p R) (hR : Sealed R W) (ha : RelV R avs args.toList) : Calls P f args W fun e W' => e = .returned (.int k c) ∧ Go.RowKit.Below W.heap.size W W' := by
  rcases hs R W args hG (ms_start W R G hG hR) ha with ⟨_, h⟩ | ⟨v, w', h, _⟩
  · refine h.mono fun e W' ⟨res, H', R', ⟨hr, hH⟩, he, hm⟩ => ?_
    subst hr
    obtain ⟨x, rfl, hx⟩ := he
    exact ⟨by rw [rel_int.1 hx], ⟨hm.ext.os, hm.ext.tape, hm.ext.output, hm.ext.size, fun k hk => hm.ext.block k hk (fun h => absurd h List.not_mem_nil)⟩⟩
  · rw [hc] at h
    cases h
theorem strings_Map {G : Glo} (hU : GloAll G utfTy) (f : Int → Int) (g : Nat) (s : List UInt8) (hl : s.length ≤ 1000000) (hg : ∀ r : Nat, r ≤ 1114111 → FnIs Tryz.prog G g [.int .i32 (r : Int)] (.int .i32 (f r))) (hf : ∀ x : Nat, x ≤ 1114111 → -2147483648 ≤ f x ∧ f x ≤ 2147483647)
    (hc : ∀ args w, (callFunc g args).run Tryz.prog w = .ok (.enter g args) w) : FnIs Tryz.prog G 55 [.func (.func g) [] [], .str s] (.str (Lib.mapD f s)) := by
  refine fnis_of_calls rfl Tryz.call55 ?_
  rintro R args ⟨x, t, e, hx, y, t', e', hy, rfl⟩ w hG hs
  have hx0 := hx
  obtain ⟨⟨xa, xb, ex, r1, r2⟩, hx2⟩ := hx0
  obtain rfl := rel_str.1 hy
  have hxv : x = .func (.func g) #[] #[] := by
    cases x <;> first | (simp [Value.cells] at ex; done) | skip
    all_goals (try (simp [vAgg, AVal.isAgg] at hx2; done))
    simp only [Value.cells, List.cons.injEq, and_true, Value.func.injEq] at ex
    obtain ⟨e1, e2, e3⟩ := ex
    have h1 : xa.toList = [] := r1
    have h2 : xb.toList = [] := r2
    rw [Array.toList_eq_nil_iff] at h1 h2
    rw [e1, e2, e3, h1, h2]
  subst hxv
  subst e'
  obtain rfl := arr_of e
  refine (Tryz.strings_Map_grows g #[] hc f ⟨s.toArray⟩ w (by rw [str_size]; omega) ?_ hf (utf_tabs hU hG hs)).mono ?_
  · intro W r hr hb
    exact (law_belowV (hg r hr) (hc _ _) hG (sealed_below' hs hb) ⟨_, _, rfl, rel_int.2 rfl, rfl⟩).mono fun e w' h => h
  · rintro e w' ⟨rfl, hb⟩
    exact ⟨by simp [AVal.conc], hb⟩
end Go.Proofs.YtjedjiffaopmkaaGreatDoor
namespace Go.Proofs.YtjedjiffaopmkaaGreatDoor
open Go Go.RowKit
inductive AMode where
  | ret
  | pan (v : AVal)
  | rcv (v : AVal)
def ModeRel (R : Seal) : AMode → FrameMode → Prop
  | .ret, u => u = .returning
  | .pan v, u => ∃ x, u = .panicking [{ v := x, recovered := false }] ∧ Rel R v x
  | .rcv v, u => ∃ x, u = .panicking [{ v := x, recovered := true }] ∧ Rel R v x
theorem ModeRel.mono {R R' : Seal} (h : R.le R') : ∀ {m : AMode} {u : FrameMode}, ModeRel R m u → ModeRel R' m u
  | .ret, _, x => x
  | .pan _, _, ⟨y, e, r⟩ => ⟨y, e, rel_mono h r⟩
  | .rcv _, _, ⟨y, e, r⟩ => ⟨y, e, rel_mono h r⟩
section
variable {P : Program} [Tab P] {G : Glo} {GL : List (Nat × List AVal)} {n : Nat} {H : Heap} {m : AMode}
omit [Tab P] in
omit [Tab P] in
omit [Tab P] in
omit [Tab P] in
omit [Tab P] in
/-! ## As a function leaves -/
variable {rs : List ResultVar} {env : Env} {Qf : ARes → Heap → Prop} {D : List Deferred}
omit [Tab P] in
omit [Tab P] in
omit [Tab P] in
end
end Go.Proofs.YtjedjiffaopmkaaGreatDoor
namespace Go.Proofs.YtjedjiffaopmkaaGreatDoor
open Go Go.RowKit
theorem relL_set {R : Seal} {a a' : AVal} (ht : ∀ v, RelC R a [v] → RelC R a' [v]) : ∀ {cs : List AVal} {vs : List Value} {p : Nat}, RelL R cs vs → cs[p]? = some a → RelL R (cs.set p a') vs
  | [], _, _, _, e => by simp at e
  | c :: cs, _, 0, ⟨v, t, rfl, h1, h2⟩, e => by
    simp only [List.getElem?_cons_zero, Option.some.injEq] at e
    subst e
    exact ⟨v, t, rfl, ht v h1, h2⟩
  | c :: cs, _, p + 1, ⟨v, t, rfl, h1, h2⟩, e => by
    simp only [List.getElem?_cons_succ] at e
    exact ⟨v, t, rfl, h1, relL_set ht h2 e⟩
/-- An entry whose cell is told otherwise. -/
inductive CellTo (R : Seal) (p : Nat) (a' : AVal) : HEnt → HEnt → Prop
  | cells {b eT cs a} (hp : cs[p]? = some a) (ht : ∀ v, RelC R a [v] → RelC R a' [v]) : CellTo R p a' (.cells b eT cs) (.cells b eT (cs.set p a'))
  | row {v eT sz n cs a} (hp : cs[p]? = some a) (ht : ∀ v, RelC R a [v] → RelC R a' [v]) : CellTo R p a' (.row v eT sz n cs) (.row v eT sz n (cs.set p a'))
theorem CellTo.holds {R : Seal} {p : Nat} {a' : AVal} {x y : HEnt} {w : World} (h : CellTo R p a' x y) (hx : x.holds R w) : y.holds R w ∧ y.blk = x.blk := by
  cases h with
  | cells hp ht =>
    obtain ⟨C, e, fz, hb, hl, hf⟩ := hx
    exact ⟨⟨C, e, fz, hb, relL_set ht hl hp, hf⟩, rfl⟩
  | row hp ht =>
    rename_i v eT sz n cs a
    obtain ⟨hlen, y⟩ := hx
    refine ⟨⟨by rw [List.length_set]; exact hlen, ?_⟩, by cases v with | slice a l c => cases a <;> rfl | _ => rfl⟩
    rcases y with ⟨h1, h2⟩ | ⟨b, cap, C, e, fz, rfl, hb, hs, hn, hl, hf⟩
    · exact .inl ⟨h1, h2⟩
    · exact .inr ⟨b, cap, C, e, fz, rfl, hb, hs, hn, relL_set ht hl hp, hf⟩
def To (C : Ctx) (n : Nat) (e : Env) (h : Heap) (e' : Env) (h' : Heap) : Prop :=
  ∀ R a w, MS C R h w → FS C.D n R e a → ∃ R', R.le R' ∧ MS C R' h' w ∧ FS C.D n R' e' a
section
variable {C : Ctx} {n : Nat} {e e' e'' : Env} {h h' h'' : Heap}
theorem to_trans (a : To C n e h e' h') (b : To C n e' h' e'' h'') : To C n e h e'' h'' := fun R x w hm hf =>
  let ⟨R1, l1, m1, f1⟩ := a R x w hm hf
  let ⟨R2, l2, m2, f2⟩ := b R1 x w m1 f1
  ⟨R2, Seal.le_trans l1 l2, m2, f2⟩
theorem to_sub (hs : Env.sub e e') (hh : h'.Sublist h) : To C n e h e' h' := fun R _ _ hm hf => ⟨R, Seal.le_refl R, hm.drop hh, hf.sub hs⟩
end
section
variable {P : Program} [Tab P] {C : Ctx} {n : Nat} {env : Env} {H : Heap} {Q : AExit → Env → Heap → Prop} {G : Glo} {GL : List (Nat × List AVal)}
omit [Tab P] in
theorem lp_to {c : Code} {e' : Env} {h' : Heap} (hto : To C n env H e' h') (k : Lp P C n c e' h' Q) : Lp P C n c env H Q := by
  refine ⟨fun R a w hm hf => ?_⟩
  obtain ⟨R0, _, hm, hf⟩ := hto R a w hm hf
  exact k.h R0 a w hm hf
omit [Tab P] in
theorem dw_to {id : Nat} {ops : Array Oper} {e' : Env} {h' : Heap} (hto : To C n env H e' h') (k : Dw P C n id ops e' h' Q) : Dw P C n id ops env H Q := by
  refine ⟨fun R a w hm hf => ?_⟩
  obtain ⟨R0, _, hm, hf⟩ := hto R a w hm hf
  exact k.h R0 a w hm hf
omit [Tab P] in
end
end Go.Proofs.YtjedjiffaopmkaaGreatDoor
namespace Go.Proofs.YtjedjiffaopmkaaGreatDoor
open Go Go.RowKit
theorem MS.seal_cells {C : Ctx} {R : Seal} {w : World} {H : Heap} {b : Nat} {eT : Option TypeId} {cs : List AVal} (h : MS C R (.cells b eT cs :: H) w) :
    ∃ R', R.le R' ∧ MS C R' H w ∧ Rel R' (.rop cs 0) (.pointer (some ⟨b, 0, none⟩)) := by
  obtain ⟨Cs, el, fz, hb, hl, hfz⟩ := h.heap.holds _ (List.mem_cons_self ..)
  obtain ⟨h1, h2⟩ := h.fixed (b := b) rfl hb
  refine ⟨_, h2, h1, ⟨b, 0, Cs, el, fz, rfl, Nat.le_refl _, Seal.put_at _ _ _, ?_⟩, rfl⟩
  have hlen := relL_length hl
  rw [Nat.sub_self, List.drop_zero, List.take_of_length_le (by omega)]
  exact relL_mono h2 _ _ hl
abbrev ghostE : HEnt := .row (.slice none 0 0) none 1 0 []
section
variable {P : Program} [Tab P] {C : Ctx} {n : Nat} {G : Glo} {GL : List (Nat × List AVal)} {e : Env} {h : Heap} {env : Env} {H : Heap} {Q : AExit → Env → Heap → Prop}
/-- The cells at a place are sealed; the slot that points to them is told so; nothing is left at the place. -/
theorem to_sealc {i k j b : Nat} {eT : Option TypeId} {cs : List AVal} (hi : h[i]? = some (.cells b eT cs)) (hk : Env.get e k = some (.own j (.pointer (some ⟨b, 0, none⟩)))) :
    To C n e h ((k, .rop cs 0) :: e) (h.set i ghostE) := fun R a w hm hf => by
  obtain ⟨R', hle, hm', hr⟩ := MS.seal_cells (hm.perm (perm_front hi))
  refine ⟨R', hle, (hm'.ghost 1).perm (set_perm ghostE hi), ?_⟩
  have hf' := hf.mono hle
  refine ⟨fun t x ht => ?_, hf'.size, hf'.defers⟩
  simp only [Env.get] at ht
  split at ht
  · rename_i hb
    have := Nat.eq_of_beq_eq_true hb
    subst this
    simp only [Option.some.injEq] at ht
    subst ht
    obtain ⟨y, hy, hr'⟩ := hf'.fr k _ hk
    refine ⟨y, hy, ?_⟩
    rw [(rel_own.1 hr').1]
    exact hr
  · exact hf'.fr t x ht
omit [Tab P] in
/-- Slots told as the call's own. -/
def owns : List (Nat × Nat × Value) → Env → Env
  | [], e => e
  | (s, i, v) :: t, e => (s, .own i v) :: owns t e
def OwnsOK : List (Nat × Nat × Value) → Env → Prop
  | [], _ => True
  | (s, _, v) :: t, e => (Env.get (owns t e) s = some (.raw v) ∧ vAgg v = false) ∧ OwnsOK t e
theorem fs_owns {D : List Deferred} {R : Seal} {a : Act} : ∀ {os : List (Nat × Nat × Value)} {e : Env}, OwnsOK os e → FS D n R e a → FS D n R (owns os e) a
  | [], _, _, h => h
  | (_, _, _) :: _, _, ⟨⟨h1, h2⟩, h3⟩, h => fs_own h2 h1 (fs_owns h3 h)
/-- Into a function with such slots. -/
theorem fn_own (os : List (Nat × Nat × Value)) {f : FuncId} {fn : Func} {c : Code} {avs : List AVal} {Qf : ARes → Heap → Prop} {rs : List ResultVar} (hf : P.funcs[f]? = some fn)
    (hc : ∀ args w, (callFunc f args).run P w = .ok (.enter f args) w) (hb : fn.body = some c) (hn : fn.ntmps = n) (hrs : fn.results = rs.toArray) (hlen : Nat.ble avs.length n = true) (ho : OwnsOK os (argEnv 0 avs))
    (h : ∀ C : Ctx, C.G = G → AWp P C n c (owns os (argEnv 0 avs)) H (RetX P rs Qf)) : FnSpec P G f avs H Qf :=
  fn_spec hf hb hc hn hrs hlen fun w0 R0 hG => AWp.mono (aw_env (fun _ _ hf => fs_owns ho hf) (h ⟨w0, R0, blks H, G, hG, []⟩ rfl)) fun _ _ _ q => RetX_ok q
end
end Go.Proofs.YtjedjiffaopmkaaGreatDoor
namespace Go.Proofs.YtjedjiffaopmkaaGreatDoor
open Go Go.RowKit
theorem dig_at {s u : List UInt8} {i : Nat} (h : shpS s = u) (hi : i < u.length) (h57 : byteAt u i = 57) : 48 ≤ byteAt s i ∧ byteAt s i ≤ 57 := nine_57.1 (((shp_pt h).2 i hi).trans h57)
theorem cut_at {s : List UInt8} {a b i : Nat} (h : i < b - a) : byteAt ((s.take b).drop a) i = byteAt s (a + i) := by
  rw [drop_at, take_at (by omega)]
set_option maxRecDepth 20000
set_option maxHeartbeats 4000000
set_option linter.unusedSimpArgs false
set_option linter.unusedVariables false
attribute [local irreducible] AWp AOps byteAt SrcOK OrOk GloAll FnSpec
attribute [local irreducible] shpS nineI
theorem when_number_two {G : Glo} (s : List UInt8) (hl : s.length = 2) (h0 : 48 ≤ byteAt s 0 ∧ byteAt s 0 ≤ 57) (h1 : 48 ≤ byteAt s 1 ∧ byteAt s 1 ≤ 57) : FnIs Tryz.prog G 31 [.str s] (.tuple [.int .i64 (two2 s 0), .bool true]) := by
  have hGL : GloAll G [] := gloAll_nil
  refine fn_x Tryz.func31 Tryz.call31 rfl rfl rfl rfl hGL ?_
  intro C hC
  refine xw1 ?_
  refine rds hC hGL 3 ?_
  refine xw ?_
  repeat' (first | exact Le.n | refine Lc.mk ?_ ?_)
  all_goals intros
  all_goals try (exfalso; simp only [Nat.zero_add, Nat.reduceAdd] at *; omega)
  apply rt_is
  unfold two2 digN
  simp only [Nat.zero_add, Nat.reduceAdd] at *
  congr 3
  omega
theorem when_number_four {G : Glo} (s : List UInt8) (hl : s.length = 4) (h0 : 48 ≤ byteAt s 0 ∧ byteAt s 0 ≤ 57) (h1 : 48 ≤ byteAt s 1 ∧ byteAt s 1 ≤ 57) (h2 : 48 ≤ byteAt s 2 ∧ byteAt s 2 ≤ 57) (h3 : 48 ≤ byteAt s 3 ∧ byteAt s 3 ≤ 57) : FnIs Tryz.prog G 31 [.str s] (.tuple [.int .i64 (four4 s 0), .bool true]) := by
  have hGL : GloAll G [] := gloAll_nil
  refine fn_x Tryz.func31 Tryz.call31 rfl rfl rfl rfl hGL ?_
  intro C hC
  refine xw1 ?_
  refine rds hC hGL 5 ?_
  refine xw ?_
  repeat' (first | exact Le.n | refine Lc.mk ?_ ?_)
  all_goals intros
  all_goals try (exfalso; simp only [Nat.zero_add, Nat.reduceAdd] at *; omega)
  apply rt_is
  unfold four4 digN
  simp only [Nat.zero_add, Nat.reduceAdd] at *
  congr 3
  omega
theorem when_shape1 {G : Glo} (r : Nat) (h : r ≤ 1114111) : FnIs Tryz.prog G 56 [.int .i32 (r : Int)] (.int .i32 (nineI r)) := by
  have hGL : GloAll G [] := gloAll_nil
  refine fn_x Tryz.func56 Tryz.call56 rfl rfl rfl rfl hGL ?_
  intro C hC
  refine xw ?_
  repeat' (first | exact Le.n | refine Lc.mk ?_ ?_)
  all_goals intros
  all_goals (apply rt_is; refine congrArg (AVal.int .i32) ?_; unfold nineI; split <;> omega)
theorem when_shape {G : Glo} (hU : GloAll G utfTy) (s : List UInt8) (hl : s.length ≤ 1000000) : FnIs Tryz.prog G 30 [.str s] (.str (Lib.mapD nineI s)) := by
  have k1 := strings_Map (G := G) hU nineI 56 s hl (fun r hr => when_shape1 r hr) (fun x hx => by unfold nineI; split <;> omega) Tryz.call56
  have hGL : GloAll G [] := gloAll_nil
  refine fn_x Tryz.func30 Tryz.call30 rfl rfl rfl rfl hGL ?_
  intro C hC
  exact xw0
end Go.Proofs.YtjedjiffaopmkaaGreatDoor
