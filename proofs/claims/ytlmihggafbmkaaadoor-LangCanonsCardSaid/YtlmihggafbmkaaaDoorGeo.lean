/- Places and preferences: both sides' answers of 19.2. -/
import Derived.Test.YtlmihggafbmkaaaDoorSpl
import Derived.Test.YtlmihggafbmkaaaDoorBx
import Derived.Test.YtlmihggafbmkaaaDoorZon
namespace Go.Proofs.YtlmihggafbmkaaaDoor
open Go Go.RowKit
theorem splS_none {c : UInt8} : ∀ {s : List UInt8}, c ∉ s → splS c s = [s]
  | [], _ => rfl
  | x :: t, h => by
    simp only [List.mem_cons, not_or] at h
    rw [splS, if_neg (Ne.symm h.1), splS_none h.2]
theorem splS_app {c : UInt8} : ∀ {u : List UInt8} {v : List UInt8}, c ∉ u → ∃ p ps, splS c v = p :: ps ∧ splS c (u ++ v) = (u ++ p) :: ps
  | [], v, _ => by
    cases h : splS c v with
    | nil => exact absurd h (splS_ne c v)
    | cons p ps => exact ⟨p, ps, rfl, h⟩
  | x :: u, v, h => by
    simp only [List.mem_cons, not_or] at h
    obtain ⟨p, ps, h1, h2⟩ := splS_app (v := v) h.2
    refine ⟨p, ps, h1, ?_⟩
    rw [List.cons_append, splS, if_neg (Ne.symm h.1), h2]
    rfl
theorem splS_cut {c : UInt8} {u v : List UInt8} (h : c ∉ u) : splS c (u ++ c :: v) = u :: splS c v := by
  obtain ⟨p, ps, h1, h2⟩ := splS_app (v := c :: v) h
  rw [splS, if_pos rfl] at h1
  cases h1
  rw [h2, List.append_nil]
theorem splS_len {c : UInt8} : ∀ {s : List UInt8}, c ∈ s → 2 ≤ (splS c s).length
  | [], h => by simp at h
  | x :: t, h => by
    have hp : 1 ≤ (splS c t).length := by
      cases h1 : splS c t with
      | nil => exact absurd h1 (splS_ne c t)
      | cons p ps => simp
    by_cases hx : x = c
    · rw [splS, if_pos hx, List.length_cons]; omega
    · have h2 := splS_len (s := t) ((List.mem_cons.1 h).resolve_left (Ne.symm hx))
      rw [splS, if_neg hx]
      cases h1 : splS c t with
      | nil => exact absurd h1 (splS_ne c t)
      | cons p ps => rw [h1] at h2; simpa using h2
theorem splS_head {c : UInt8} : ∀ {s p : List UInt8} {ps : List (List UInt8)}, splS c s = p :: ps → p <+: s
  | [], p, ps, h => by simp [splS] at h; rw [h.1]; exact List.prefix_refl _
  | x :: t, p, ps, h => by
    by_cases hx : x = c
    · rw [splS, if_pos hx] at h; cases h; exact List.nil_prefix
    · rw [splS, if_neg hx] at h
      cases h1 : splS c t with
      | nil => exact absurd h1 (splS_ne c t)
      | cons q qs =>
        rw [h1] at h
        cases h
        obtain ⟨u, rfl⟩ := splS_head h1
        exact ⟨u, rfl⟩
def geoP : List UInt8 := [103, 101, 111, 58]
/-- The two numbers of a place. -/
def geoV (s : List UInt8) : Option (List UInt8 × List UInt8) :=
  if geoP.isPrefixOf s then
    match splS 44 (s.drop 4) with
    | [a, b] => if a = [] ∨ b = [] ∨ (59 : UInt8) ∈ b then none else some (a, b)
    | _ => none
  else none
theorem geo_prefix {s : List UInt8} : geoP.isPrefixOf s = true ↔ s = geoP ++ s.drop 4 := by
  rw [List.isPrefixOf_iff_prefix]
  constructor
  · rintro ⟨t, rfl⟩; rfl
  · intro h; exact ⟨_, h.symm⟩
theorem geo_head {s p : List UInt8} {ps : List (List UInt8)} (h : splS 44 s = p :: ps) : geoP.isPrefixOf p = geoP.isPrefixOf s := by
  rw [Bool.eq_iff_iff]
  constructor
  · intro hp
    rw [List.isPrefixOf_iff_prefix] at *
    exact hp.trans (splS_head h)
  · intro hp
    have hp := geo_prefix.1 hp
    obtain ⟨q, qs, h1, h2⟩ := splS_app (c := 44) (u := geoP) (v := s.drop 4) (by decide)
    rw [← hp, h] at h2
    cases h2
    rw [List.isPrefixOf_iff_prefix]
    exact ⟨q, rfl⟩
/-- Where a comma stands first. -/
theorem cut_comma (s : List UInt8) : (44 ∉ s ∧ Lib.cut s [44] = (s, [], false)) ∨ ∃ u v, s = u ++ 44 :: v ∧ 44 ∉ u ∧ Lib.cut s [44] = (u, v, true) := by
  rcases Lib.index_spec s [44] with ⟨h1, h2⟩ | ⟨i, h1, h2, h3, h4⟩
  · refine .inl ⟨?_, by unfold Lib.cut; rw [if_neg (by omega)]⟩
    intro hm
    obtain ⟨j, hj, e⟩ := List.getElem_of_mem hm
    have := h2 j (by omega)
    unfold Lib.occAt at this
    rw [List.drop_eq_getElem_cons hj, e] at this
    simp [List.isPrefixOf] at this
  · have hi : i < s.length := by
      rcases Nat.lt_or_ge i s.length with h | h
      · exact h
      · unfold Lib.occAt at h3
        rw [List.drop_eq_nil_of_le h] at h3
        simp [List.isPrefixOf] at h3
    have e : s[i] = 44 := by
      unfold Lib.occAt at h3
      rw [List.drop_eq_getElem_cons hi] at h3
      have h3 : 44 = s[i] := by simpa [List.isPrefixOf] using h3
      exact h3.symm
    refine .inr ⟨s.take i, s.drop (i + 1), ?_, ?_, ?_⟩
    · rw [← e, ← List.drop_eq_getElem_cons hi, List.take_append_drop]
    · intro hm
      obtain ⟨j, hj, e2⟩ := List.getElem_of_mem hm
      rw [List.getElem_take] at e2
      rw [List.length_take] at hj
      have := h4 j (by omega)
      unfold Lib.occAt at this
      rw [List.drop_eq_getElem_cons (by omega), e2] at this
      simp [List.isPrefixOf] at this
    · unfold Lib.cut
      rw [if_pos (by omega), h1]
      rfl
theorem contains_two {a b : UInt8} {s : List UInt8} : 0 ≤ Lib.indexAny s [a, b] ↔ a ∈ s ∨ b ∈ s := by
  induction s with
  | nil => simp [Lib.indexAny]
  | cons x t ih =>
    have hge := Lib.indexAny_ge [a, b] t
    unfold Lib.indexAny
    by_cases h : ([a, b] : List UInt8).contains x = true
    · rw [if_pos h]
      have := (two_has x).1 h
      simp only [List.mem_cons]
      constructor
      · intro _
        rcases this with h1 | h1
        · exact .inl (.inl (UInt8.toNat_inj.1 h1.symm))
        · exact .inr (.inl (UInt8.toNat_inj.1 h1.symm))
      · intro _; omega
    · rw [if_neg h]
      have hn : a ≠ x ∧ b ≠ x := by
        constructor
        · rintro rfl; exact h (by simp)
        · rintro rfl; exact h (by simp)
      simp only [List.mem_cons, hn.1, hn.2, false_or]
      rw [← ih]
      split
      · rename_i h2
        have := beq_iff_eq.1 h2
        omega
      · rename_i h2
        have : Lib.indexAny t [a, b] ≠ -1 := fun e => h2 (beq_iff_eq.2 e)
        omega
theorem contains_semi {s : List UInt8} : 0 ≤ Lib.indexByte s 59 ↔ (59 : UInt8) ∈ s := by
  induction s with
  | nil => simp [Lib.indexByte]
  | cons x t ih =>
    have hge := Lib.indexByte_ge t 59
    unfold Lib.indexByte
    by_cases h : (x == 59) = true
    · rw [if_pos h]
      have := beq_iff_eq.1 h
      simp [this]
    · rw [if_neg h]
      have hn : (59 : UInt8) ≠ x := fun e => h (beq_iff_eq.2 e.symm)
      simp only [List.mem_cons, hn, false_or]
      rw [← ih]
      split
      · rename_i h2
        have := beq_iff_eq.1 h2
        omega
      · rename_i h2
        have : Lib.indexByte t 59 ≠ -1 := fun e => h2 (beq_iff_eq.2 e)
        omega
theorem geoV_no {s : List UInt8} (h : geoP.isPrefixOf s = false) : geoV s = none := by
  unfold geoV
  rw [if_neg (by simp [h])]
theorem geoV_one {s : List UInt8} (h : 44 ∉ s.drop 4) : geoV s = none := by
  unfold geoV
  rw [splS_none h]
  split <;> rfl
theorem geoV_cut {s u v : List UInt8} (hp : geoP.isPrefixOf s = true) (g1 : s.drop 4 = u ++ 44 :: v) (g2 : 44 ∉ u) : geoV s = if u = [] ∨ v = [] ∨ (44 : UInt8) ∈ v ∨ (59 : UInt8) ∈ v then none else some (u, v) := by
  unfold geoV
  rw [if_pos hp, g1, splS_cut g2]
  by_cases h : (44 : UInt8) ∈ v
  · rw [if_pos (.inr (.inr (.inl h)))]
    have h1 := splS_len h
    cases h2 : splS 44 v with
    | nil => rfl
    | cons a t =>
      cases t with
      | nil => rw [h2] at h1; simp at h1
      | cons b r => rfl
  · rw [splS_none h]
    simp only [h, false_or]
theorem geo_spl1 {s : List UInt8} (hp : geoP.isPrefixOf s = true) (h : 44 ∉ s.drop 4) : splS 44 s = [s] := by
  refine splS_none ?_
  rw [geo_prefix.1 hp, List.mem_append]
  intro h1
  rcases h1 with h1 | h1
  · revert h1; decide
  · exact h h1
theorem geo_spl2 {s u v : List UInt8} (hp : geoP.isPrefixOf s = true) (g1 : s.drop 4 = u ++ 44 :: v) (g2 : 44 ∉ u) : splS 44 s = (geoP ++ u) :: splS 44 v := by
  have h := geo_prefix.1 hp
  rw [g1, ← List.append_assoc] at h
  rw [h, splS_cut]
  rw [List.mem_append]
  intro h1
  rcases h1 with h1 | h1
  · revert h1; decide
  · exact g2 h1
def geoA (o : Option (List UInt8 × List UInt8)) : List UInt8 := (o.map (·.1)).getD []
def geoB (o : Option (List UInt8 × List UInt8)) : List UInt8 := (o.map (·.2)).getD []
def geoE (o : Option (List UInt8 × List UInt8)) : Err := if o.isSome then .none else .errno 3
set_option maxRecDepth 20000
set_option maxHeartbeats 4000000
set_option linter.unusedSimpArgs false
set_option linter.unusedVariables false
attribute [local irreducible] AWp AOps byteAt SrcOK OrOk GloAll FnSpec
attribute [local irreducible] geoV
theorem has_prefix {G : Glo} (s p : List UInt8) : FnIs Tryd.prog G 68 [.str s, .str p] (.bool (p.isPrefixOf s)) := by
  refine fnis_of_calls rfl Tryd.call68 ?_
  rintro R args ⟨x, t, e, hx, y, t', e', hy, rfl⟩ w hG hs
  obtain rfl := rel_str.1 hx
  obtain rfl := rel_str.1 hy
  subst e'
  obtain rfl := arr_of e
  refine (Tryd.strings_HasPrefix ⟨s.toArray⟩ ⟨p.toArray⟩ w).mono ?_
  rintro e w' ⟨rfl, rfl⟩
  exact ⟨by simp [Lib.hasPrefix, AVal.conc], Below.refl _ _⟩
theorem cut_prefix {G : Glo} (s p : List UInt8) : FnIs Tryd.prog G 96 [.str s, .str p] (.tuple [.str (if p.isPrefixOf s then s.drop p.length else s), .bool (p.isPrefixOf s)]) := by
  refine fnis_of_calls_v (.tuple #[.string ⟨(if p.isPrefixOf s then s.drop p.length else s).toArray⟩, .bool (p.isPrefixOf s)]) (fun R => rel_tup2 (rel_str.2 rfl) (rel_bool.2 rfl)) Tryd.call96 ?_
  rintro R args ⟨x, t, e, hx, y, t', e', hy, rfl⟩ w hG hs
  obtain rfl := rel_str.1 hx
  obtain rfl := rel_str.1 hy
  subst e'
  obtain rfl := arr_of e
  refine (Tryd.strings_CutPrefix ⟨s.toArray⟩ ⟨p.toArray⟩ w).mono ?_
  rintro e w' ⟨rfl, rfl⟩
  exact ⟨by simp [Lib.hasPrefix, Lib.trimPrefix], Below.refl _ _⟩
theorem strings_cut {G : Glo} {m : Int} (hU : GloAll G (maxTy m)) (s : List UInt8) (c : UInt8) (hl : s.length < 100000) : FnIs Tryd.prog G 97 [.str s, .str [c]] (.tuple [.str (Lib.cut s [c]).1, .str (Lib.cut s [c]).2.1, .bool (Lib.cut s [c]).2.2]) := by
  refine fnis_of_calls_v (.tuple #[.string ⟨(Lib.cut s [c]).1.toArray⟩, .string ⟨(Lib.cut s [c]).2.1.toArray⟩, .bool (Lib.cut s [c]).2.2]) (fun R => rel_tup3 (rel_str.2 rfl) (rel_str.2 rfl) (rel_bool.2 rfl)) Tryd.call97 ?_
  rintro R args ⟨x, t, e, hx, y, t', e', hy, rfl⟩ w hG hs
  obtain rfl := rel_str.1 hx
  obtain rfl := rel_str.1 hy
  subst e'
  obtain rfl := arr_of e
  refine (Tryd.strings_Cut ⟨s.toArray⟩ ⟨#[c]⟩ m w (by rw [str_size]; omega) (max_cell hU hG hs)).mono ?_
  rintro e w' ⟨rfl, k, rfl⟩
  exact ⟨by simp, ⟨rfl, rfl, rfl, Nat.le_refl _, fun _ _ => rfl⟩⟩
theorem contains_one {G : Glo} (s : List UInt8) : FnIs Tryd.prog G 88 [.str s, .str [59]] (.bool (decide ((59 : UInt8) ∈ s))) := by
  refine fnis_of_calls rfl Tryd.call88 ?_
  rintro R args ⟨x, t, e, hx, y, t', e', hy, rfl⟩ w hG hs
  obtain rfl := rel_str.1 hx
  obtain rfl := rel_str.1 hy
  subst e'
  obtain rfl := arr_of e
  refine (Tryd.strings_Contains_one ⟨s.toArray⟩ 59 w).mono ?_
  rintro e w' ⟨rfl, rfl⟩
  have e : decide (0 ≤ Lib.indexByte s 59) = decide ((59 : UInt8) ∈ s) := by simp only [contains_semi]
  exact ⟨by simp [AVal.conc, e], Below.refl _ _⟩
theorem contains_any {G : Glo} (s : List UInt8) (hl : s.length < 100000) : FnIs Tryd.prog G 98 [.str s, .str [44, 59]] (.bool (decide ((44 : UInt8) ∈ s ∨ (59 : UInt8) ∈ s))) := by
  have hI := indexAny_two (G := G) (a := 44) (b := 59) (by decide) (by decide) s hl
  have hGL : GloAll G [] := gloAll_nil
  refine fn_x Tryd.func98 Tryd.call98 rfl rfl rfl rfl hGL ?_
  intro C hC
  repeat' (first
    | (conv => whnf); first
      | (apply ch_l; apply sp_i; first | exact rfl | omega | exact ⟨rfl, rfl, by omega⟩ | exact ⟨rfl, by omega⟩ | exact ⟨rfl, by omega, by omega, by omega⟩ | decide | (simp only [List.length_drop, List.length_take, List.length_append, List.length_set, List.length_cons, List.length_nil, OrOk] at *; omega) | (simp; omega))
      | (apply sp_i; first | exact rfl | omega | exact ⟨rfl, rfl, by omega⟩ | exact ⟨rfl, by omega⟩ | exact ⟨rfl, by omega, by omega, by omega⟩ | decide | (simp only [List.length_drop, List.length_take, List.length_append, List.length_set, List.length_cons, List.length_nil, OrOk] at *; omega) | (simp; omega))
      | (apply sc_true) | (apply sc_false)
      | (first | apply sc_lt | apply sc_nlt | apply sc_eq | apply sc_neq | apply sc_nil | apply sc_nnil | apply sc_seq | apply sc_nseq); all_goals (intro hb; try (first | (exfalso; omega) | exact absurd rfl hb | exact absurd hb (by decide) | exact absurd hb (by assumption) | exact absurd (by assumption) hb | (exfalso; simp only [List.length_cons, List.length_nil, List.length_append] at hb; omega)))
      | (apply sc_not) | (apply sc_or) | (apply sc_i; all_goals intro hb)
      | (first | apply ix_nat | apply ix_int); first | omega | (simp only [List.length_drop, List.length_take, List.length_append, List.length_set, List.length_cons, List.length_nil] at *; omega)
      | (apply bx_i; intro hbd)
      | (first | apply sd_nat | apply sd_int | apply sl_nat | apply sl_int); first | omega | (simp only [List.length_drop, List.length_take, List.length_append, List.length_set, List.length_cons, List.length_nil] at *; omega)
      | (apply cx_is; first | exact hI) | (apply cx_do (i := 0) rfl; first | exact hI)
      | (apply ab_i; intro bl) | (apply as_i; intro va vk vc) | (apply av_i; intro v) | (apply ac_i; intro bl cap hcap)
      | (apply bo_l) | (apply ch_r; apply sp_i; intro i hi; exact ⟨rfl, rfl, rfl⟩) | (apply nx_i; all_goals intro hnx)
      | (apply Ia.hit; assumption) | (apply Ia.miss; assumption)
      | (apply rt_is; exact rfl) | (apply rt_do; exact rfl; (repeat (first | exact List.nil_sublist _ | apply List.Sublist.cons_cons))) | (apply iv; assumption)
      | (apply dw_q mixed hC hGL (by kernel_rfl))
      | (apply cq; assumption; (first | exact hI); exact rfl))
  all_goals (try conv => whnf)
  apply rt_is
  refine congrArg AVal.bool ?_
  rw [Bool.eq_iff_iff]
  simp only [Bool.not_eq_true', ltB_f, decide_eq_true_eq, contains_two]
theorem geo_no {s : List UInt8} {H' : Heap} (h : geoV s = none) : Rt (fun (x : ARes) (H : Heap) => x = .ret (.tuple [.str (geoA (geoV s)), .str (geoB (geoV s)), (geoE (geoV s)).A]) ∧ H = []) (.tuple [.str [], .str [], .iface 26 (.int .i64 3)]) H' := by
  apply rt_is; rw [h]; rfl
theorem geo_yes {s a b : List UInt8} {H' : Heap} (h : geoV s = some (a, b)) : Rt (fun (x : ARes) (H : Heap) => x = .ret (.tuple [.str (geoA (geoV s)), .str (geoB (geoV s)), (geoE (geoV s)).A]) ∧ H = []) (.tuple [.str a, .str b, .raw .nilIface]) H' := by
  apply rt_is; rw [h]; rfl
theorem geo_no' {s : List UInt8} {H' : Heap} (h : geoV s = none) : Rt (fun (x : ARes) (H : Heap) => x = .ret (.tuple [.str (geoA (geoV s)), .str (geoB (geoV s)), .int .i64 (geoE (geoV s)).e]) ∧ H = []) (.tuple [.str [], .str [], .int .i64 3]) H' := by
  apply rt_is; rw [h]; rfl
theorem geo_yes' {s a b : List UInt8} {H' : Heap} (h : geoV s = some (a, b)) : Rt (fun (x : ARes) (H : Heap) => x = .ret (.tuple [.str (geoA (geoV s)), .str (geoB (geoV s)), .int .i64 (geoE (geoV s)).e]) ∧ H = []) (.tuple [.str a, .str b, .int .i64 0]) H' := by
  apply rt_is; rw [h]; rfl
theorem convert_Geo {G : Glo} {m : Int} (hU : GloAll G (maxTy m)) (s : List UInt8) (hl : s.length ≤ 300) : FnIs Tryd.prog G 47 [.str s] (.tuple [.str (geoA (geoV s)), .str (geoB (geoV s)), (geoE (geoV s)).A]) := by
  have h1 := cut_prefix (G := G) s [103, 101, 111, 58]
  have h2 := fun t h => strings_cut (G := G) hU t 44 h
  have h3 := fun t h => contains_any (G := G) t h
  have hGL : GloAll G [] := gloAll_nil
  refine fn_x Tryd.func47 Tryd.call47 rfl rfl rfl rfl hGL ?_
  intro C hC
  cases hp : geoP.isPrefixOf s with
  | false =>
    rw [show ([103, 101, 111, 58] : List UInt8) = geoP from rfl, hp] at h1
    have h2 := h2 s (by omega)
    have h1 : FnIs Tryd.prog G 96 [.str s, .str geoP] (.tuple [.str s, .bool false]) := h1
    repeat' (first
      | (conv => whnf); first
        | (apply ch_l; apply sp_i; first | exact rfl | omega | exact ⟨rfl, rfl, by omega⟩ | exact ⟨rfl, by omega⟩ | exact ⟨rfl, by omega, by omega, by omega⟩ | decide | (simp only [List.length_drop, List.length_take, List.length_append, List.length_set, List.length_cons, List.length_nil, OrOk] at *; omega) | (simp; omega))
        | (apply sp_i; first | exact rfl | omega | exact ⟨rfl, rfl, by omega⟩ | exact ⟨rfl, by omega⟩ | exact ⟨rfl, by omega, by omega, by omega⟩ | decide | (simp only [List.length_drop, List.length_take, List.length_append, List.length_set, List.length_cons, List.length_nil, OrOk] at *; omega) | (simp; omega))
        | (apply sc_true) | (apply sc_false)
        | (first | apply sc_lt | apply sc_nlt | apply sc_eq | apply sc_neq | apply sc_nil | apply sc_nnil | apply sc_seq | apply sc_nseq); all_goals (intro hb; try (first | (exfalso; omega) | exact absurd rfl hb | exact absurd hb (by decide) | exact absurd hb (by assumption) | exact absurd (by assumption) hb | (exfalso; simp only [List.length_cons, List.length_nil, List.length_append] at hb; omega)))
        | (apply sc_not) | (apply sc_or) | (apply sc_i; all_goals intro hb)
        | (first | apply ix_nat | apply ix_int); first | omega | (simp only [List.length_drop, List.length_take, List.length_append, List.length_set, List.length_cons, List.length_nil] at *; omega)
        | (apply bx_i; intro hbd)
        | (first | apply sd_nat | apply sd_int | apply sl_nat | apply sl_int); first | omega | (simp only [List.length_drop, List.length_take, List.length_append, List.length_set, List.length_cons, List.length_nil] at *; omega)
        | (apply cx_is; first | exact h1 | exact h2) | (apply cx_do (i := 0) rfl; first | exact h1 | exact h2)
        | (apply ab_i; intro bl) | (apply as_i; intro va vk vc) | (apply av_i; intro v) | (apply ac_i; intro bl cap hcap)
        | (apply bo_l) | (apply ch_r; apply sp_i; intro i hi; exact ⟨rfl, rfl, rfl⟩) | (apply nx_i; all_goals intro hnx)
        | (apply Ia.hit; assumption) | (apply Ia.miss; assumption)
        | (apply rt_is; exact rfl) | (apply rt_do; exact rfl; (repeat (first | exact List.nil_sublist _ | apply List.Sublist.cons_cons))) | (apply iv; assumption)
        | (apply dw_q mixed hC hGL (by kernel_rfl))
        | (apply cq; assumption; (first | exact h1 | exact h2); exact rfl))
    all_goals (try conv => whnf)
    exact geo_no (geoV_no hp)
  | true =>
    rw [show ([103, 101, 111, 58] : List UInt8) = geoP from rfl, hp] at h1
    have h2 := h2 (s.drop 4) (by rw [List.length_drop]; omega)
    have h1 : FnIs Tryd.prog G 96 [.str s, .str geoP] (.tuple [.str (s.drop 4), .bool true]) := h1
    rcases cut_comma (s.drop 4) with ⟨g1, g2⟩ | ⟨u, v, g1, g2, g3⟩
    · rw [g2] at h2
      repeat' (first
        | (conv => whnf); first
          | (apply ch_l; apply sp_i; first | exact rfl | omega | exact ⟨rfl, rfl, by omega⟩ | exact ⟨rfl, by omega⟩ | exact ⟨rfl, by omega, by omega, by omega⟩ | decide | (simp only [List.length_drop, List.length_take, List.length_append, List.length_set, List.length_cons, List.length_nil, OrOk] at *; omega) | (simp; omega))
          | (apply sp_i; first | exact rfl | omega | exact ⟨rfl, rfl, by omega⟩ | exact ⟨rfl, by omega⟩ | exact ⟨rfl, by omega, by omega, by omega⟩ | decide | (simp only [List.length_drop, List.length_take, List.length_append, List.length_set, List.length_cons, List.length_nil, OrOk] at *; omega) | (simp; omega))
          | (apply sc_true) | (apply sc_false)
          | (first | apply sc_lt | apply sc_nlt | apply sc_eq | apply sc_neq | apply sc_nil | apply sc_nnil | apply sc_seq | apply sc_nseq); all_goals (intro hb; try (first | (exfalso; omega) | exact absurd rfl hb | exact absurd hb (by decide) | exact absurd hb (by assumption) | exact absurd (by assumption) hb | (exfalso; simp only [List.length_cons, List.length_nil, List.length_append] at hb; omega)))
          | (apply sc_not) | (apply sc_or) | (apply sc_i; all_goals intro hb)
          | (first | apply ix_nat | apply ix_int); first | omega | (simp only [List.length_drop, List.length_take, List.length_append, List.length_set, List.length_cons, List.length_nil] at *; omega)
          | (apply bx_i; intro hbd)
          | (first | apply sd_nat | apply sd_int | apply sl_nat | apply sl_int); first | omega | (simp only [List.length_drop, List.length_take, List.length_append, List.length_set, List.length_cons, List.length_nil] at *; omega)
          | (apply cx_is; first | exact h1 | exact h2) | (apply cx_do (i := 0) rfl; first | exact h1 | exact h2)
          | (apply ab_i; intro bl) | (apply as_i; intro va vk vc) | (apply av_i; intro v) | (apply ac_i; intro bl cap hcap)
          | (apply bo_l) | (apply ch_r; apply sp_i; intro i hi; exact ⟨rfl, rfl, rfl⟩) | (apply nx_i; all_goals intro hnx)
          | (apply Ia.hit; assumption) | (apply Ia.miss; assumption)
          | (apply rt_is; exact rfl) | (apply rt_do; exact rfl; (repeat (first | exact List.nil_sublist _ | apply List.Sublist.cons_cons))) | (apply iv; assumption)
          | (apply dw_q mixed hC hGL (by kernel_rfl))
          | (apply cq; assumption; (first | exact h1 | exact h2); exact rfl))
      all_goals (try conv => whnf)
      exact geo_no (geoV_one g1)
    · rw [g3] at h2
      have hv : v.length < 100000 := by have := congrArg List.length g1; rw [List.length_append, List.length_cons, List.length_drop] at this; omega
      have hc := geoV_cut hp g1 g2
      have h2 : FnIs Tryd.prog G 97 [.str (s.drop 4), .str [44]] (.tuple [.str u, .str v, .bool true]) := h2
      repeat' (first
        | (conv => whnf); first
          | (apply ch_l; apply sp_i; first | exact rfl | omega | exact ⟨rfl, rfl, by omega⟩ | exact ⟨rfl, by omega⟩ | exact ⟨rfl, by omega, by omega, by omega⟩ | decide | (simp only [List.length_drop, List.length_take, List.length_append, List.length_set, List.length_cons, List.length_nil, OrOk] at *; omega) | (simp; omega))
          | (apply sp_i; first | exact rfl | omega | exact ⟨rfl, rfl, by omega⟩ | exact ⟨rfl, by omega⟩ | exact ⟨rfl, by omega, by omega, by omega⟩ | decide | (simp only [List.length_drop, List.length_take, List.length_append, List.length_set, List.length_cons, List.length_nil, OrOk] at *; omega) | (simp; omega))
          | (apply sc_true) | (apply sc_false)
          | (first | apply sc_lt | apply sc_nlt | apply sc_eq | apply sc_neq | apply sc_nil | apply sc_nnil | apply sc_seq | apply sc_nseq); all_goals (intro hb; try (first | (exfalso; omega) | exact absurd rfl hb | exact absurd hb (by decide) | exact absurd hb (by assumption) | exact absurd (by assumption) hb | (exfalso; simp only [List.length_cons, List.length_nil, List.length_append] at hb; omega)))
          | (apply sc_not) | (apply sc_or) | (apply sc_i; all_goals intro hb)
          | (first | apply ix_nat | apply ix_int); first | omega | (simp only [List.length_drop, List.length_take, List.length_append, List.length_set, List.length_cons, List.length_nil] at *; omega)
          | (apply bx_i; intro hbd)
          | (first | apply sd_nat | apply sd_int | apply sl_nat | apply sl_int); first | omega | (simp only [List.length_drop, List.length_take, List.length_append, List.length_set, List.length_cons, List.length_nil] at *; omega)
          | (apply cx_is; first | exact h1 | exact h2 | exact h3 v hv) | (apply cx_do (i := 0) rfl; first | exact h1 | exact h2 | exact h3 v hv)
          | (apply ab_i; intro bl) | (apply as_i; intro va vk vc) | (apply av_i; intro v) | (apply ac_i; intro bl cap hcap)
          | (apply bo_l) | (apply ch_r; apply sp_i; intro i hi; exact ⟨rfl, rfl, rfl⟩) | (apply nx_i; all_goals intro hnx)
          | (apply Ia.hit; assumption) | (apply Ia.miss; assumption)
          | (apply rt_is; exact rfl) | (apply rt_do; exact rfl; (repeat (first | exact List.nil_sublist _ | apply List.Sublist.cons_cons))) | (apply iv; assumption)
          | (apply dw_q mixed hC hGL (by kernel_rfl))
          | (apply cq; assumption; (first | exact h1 | exact h2 | exact h3 v hv); exact rfl))
      all_goals (try conv => whnf)
      · exact geo_no (by rw [hc, if_pos (.inl (List.eq_nil_of_length_eq_zero hb))])
      · exact geo_no (by rw [hc, if_pos (.inr (.inl (List.eq_nil_of_length_eq_zero hb)))])
      · exact geo_no (by rw [hc, if_pos (.inr (.inr (of_decide_eq_true hb)))])
      · refine geo_yes ?_
        rw [hc, if_neg]
        rintro (h | h | h)
        · subst h; exact absurd rfl ‹_›
        · subst h; exact absurd rfl ‹_›
        · exact absurd h (of_decide_eq_false hb)
theorem ref_Geo {G : Glo} {m : Int} (hU : GloAll G (maxTy m)) (s : List UInt8) (hl : s.length ≤ 300) : FnIs Tryd.prog G 46 [.str s] (.tuple [.str (geoA (geoV s)), .str (geoB (geoV s)), .int .i64 (geoE (geoV s)).e]) := by
  have h1 := split_list (G := G) hU s 44 (by omega)
  have hGL : GloAll G [] := gloAll_nil
  refine fn_x Tryd.func46 Tryd.call46 rfl rfl rfl rfl hGL ?_
  intro C hC
  cases hp : geoP.isPrefixOf s with
  | false =>
    cases hs : splS 44 s with
    | nil => exact absurd hs (splS_ne _ _)
    | cons p ps =>
      rw [hs] at h1
      have h2 := has_prefix (G := G) p geoP
      rw [geo_head hs, hp] at h2
      repeat' (first
        | (conv => whnf); first
          | (apply ch_l; apply sp_i; first | exact rfl | omega | exact ⟨rfl, rfl, by omega⟩ | exact ⟨rfl, by omega⟩ | exact ⟨rfl, by omega, by omega, by omega⟩ | decide | (simp only [List.length_drop, List.length_take, List.length_append, List.length_set, List.length_cons, List.length_nil, OrOk] at *; omega) | (simp; omega))
          | (apply sp_i; first | exact rfl | omega | exact ⟨rfl, rfl, by omega⟩ | exact ⟨rfl, by omega⟩ | exact ⟨rfl, by omega, by omega, by omega⟩ | decide | (simp only [List.length_drop, List.length_take, List.length_append, List.length_set, List.length_cons, List.length_nil, OrOk] at *; omega) | (simp; omega))
          | (apply sc_true) | (apply sc_false)
          | (first | apply sc_lt | apply sc_nlt | apply sc_eq | apply sc_neq | apply sc_nil | apply sc_nnil | apply sc_seq | apply sc_nseq); all_goals (intro hb; try (first | (exfalso; omega) | exact absurd rfl hb | exact absurd hb (by decide) | exact absurd hb (by assumption) | exact absurd (by assumption) hb | (exfalso; simp only [List.length_cons, List.length_nil, List.length_append] at hb; omega)))
          | (apply sc_not) | (apply sc_or) | (apply sc_i; all_goals intro hb)
          | (first | apply ix_nat | apply ix_int); first | omega | (simp only [List.length_drop, List.length_take, List.length_append, List.length_set, List.length_cons, List.length_nil] at *; omega)
          | (apply bx_i; intro hbd)
          | (first | apply sd_nat | apply sd_int | apply sl_nat | apply sl_int); first | omega | (simp only [List.length_drop, List.length_take, List.length_append, List.length_set, List.length_cons, List.length_nil] at *; omega)
          | (apply cx_is; first | exact h1 | exact h2) | (apply cx_do (i := 0) rfl; first | exact h1 | exact h2)
          | (apply ab_i; intro bl) | (apply as_i; intro va vk vc) | (apply av_i; intro v) | (apply ac_i; intro bl cap hcap)
          | (apply bo_l) | (apply ch_r; apply sp_i; intro i hi; exact ⟨rfl, rfl, rfl⟩) | (apply nx_i; all_goals intro hnx)
          | (apply Ia.hit; assumption) | (apply Ia.miss; assumption)
          | (apply rt_is; exact rfl) | (apply rt_do; exact rfl; (repeat (first | exact List.nil_sublist _ | apply List.Sublist.cons_cons))) | (apply iv; assumption)
          | (apply dw_q mixed hC hGL (by kernel_rfl))
          | (apply cq; assumption; (first | exact h1 | exact h2); exact rfl))
      all_goals (try conv => whnf)
      all_goals exact geo_no' (geoV_no hp)
  | true =>
    rcases cut_comma (s.drop 4) with ⟨g1, g2⟩ | ⟨u, v, g1, g2, g3⟩
    · rw [geo_spl1 hp g1] at h1
      repeat' (first
        | (conv => whnf); first
          | (apply ch_l; apply sp_i; first | exact rfl | omega | exact ⟨rfl, rfl, by omega⟩ | exact ⟨rfl, by omega⟩ | exact ⟨rfl, by omega, by omega, by omega⟩ | decide | (simp only [List.length_drop, List.length_take, List.length_append, List.length_set, List.length_cons, List.length_nil, OrOk] at *; omega) | (simp; omega))
          | (apply sp_i; first | exact rfl | omega | exact ⟨rfl, rfl, by omega⟩ | exact ⟨rfl, by omega⟩ | exact ⟨rfl, by omega, by omega, by omega⟩ | decide | (simp only [List.length_drop, List.length_take, List.length_append, List.length_set, List.length_cons, List.length_nil, OrOk] at *; omega) | (simp; omega))
          | (apply sc_true) | (apply sc_false)
          | (first | apply sc_lt | apply sc_nlt | apply sc_eq | apply sc_neq | apply sc_nil | apply sc_nnil | apply sc_seq | apply sc_nseq); all_goals (intro hb; try (first | (exfalso; omega) | exact absurd rfl hb | exact absurd hb (by decide) | exact absurd hb (by assumption) | exact absurd (by assumption) hb | (exfalso; simp only [List.length_cons, List.length_nil, List.length_append] at hb; omega)))
          | (apply sc_not) | (apply sc_or) | (apply sc_i; all_goals intro hb)
          | (first | apply ix_nat | apply ix_int); first | omega | (simp only [List.length_drop, List.length_take, List.length_append, List.length_set, List.length_cons, List.length_nil] at *; omega)
          | (apply bx_i; intro hbd)
          | (first | apply sd_nat | apply sd_int | apply sl_nat | apply sl_int); first | omega | (simp only [List.length_drop, List.length_take, List.length_append, List.length_set, List.length_cons, List.length_nil] at *; omega)
          | (apply cx_is; first | exact h1) | (apply cx_do (i := 0) rfl; first | exact h1)
          | (apply ab_i; intro bl) | (apply as_i; intro va vk vc) | (apply av_i; intro v) | (apply ac_i; intro bl cap hcap)
          | (apply bo_l) | (apply ch_r; apply sp_i; intro i hi; exact ⟨rfl, rfl, rfl⟩) | (apply nx_i; all_goals intro hnx)
          | (apply Ia.hit; assumption) | (apply Ia.miss; assumption)
          | (apply rt_is; exact rfl) | (apply rt_do; exact rfl; (repeat (first | exact List.nil_sublist _ | apply List.Sublist.cons_cons))) | (apply iv; assumption)
          | (apply dw_q mixed hC hGL (by kernel_rfl))
          | (apply cq; assumption; (first | exact h1); exact rfl))
      all_goals (try conv => whnf)
      all_goals exact geo_no' (geoV_one g1)
    · rw [geo_spl2 hp g1 g2] at h1
      have hc := geoV_cut hp g1 g2
      by_cases hv : (44 : UInt8) ∈ v
      · have h3 := splS_len hv
        have h4 : ((geoP ++ u) :: splS 44 v).length ≠ 2 := by rw [List.length_cons]; omega
        repeat' (first
          | (conv => whnf); first
            | (apply ch_l; apply sp_i; first | exact rfl | omega | exact ⟨rfl, rfl, by omega⟩ | exact ⟨rfl, by omega⟩ | exact ⟨rfl, by omega, by omega, by omega⟩ | decide | (simp only [List.length_drop, List.length_take, List.length_append, List.length_set, List.length_cons, List.length_nil, OrOk] at *; omega) | (simp; omega))
            | (apply sp_i; first | exact rfl | omega | exact ⟨rfl, rfl, by omega⟩ | exact ⟨rfl, by omega⟩ | exact ⟨rfl, by omega, by omega, by omega⟩ | decide | (simp only [List.length_drop, List.length_take, List.length_append, List.length_set, List.length_cons, List.length_nil, OrOk] at *; omega) | (simp; omega))
            | (apply sc_true) | (apply sc_false)
            | (first | apply sc_lt | apply sc_nlt | apply sc_eq | apply sc_neq | apply sc_nil | apply sc_nnil | apply sc_seq | apply sc_nseq); all_goals (intro hb; try (first | (exfalso; omega) | exact absurd rfl hb | exact absurd hb (by decide) | exact absurd hb (by assumption) | exact absurd (by assumption) hb | (exfalso; simp only [List.length_cons, List.length_nil, List.length_append] at hb; omega)))
            | (apply sc_not) | (apply sc_or) | (apply sc_i; all_goals intro hb)
            | (first | apply ix_nat | apply ix_int); first | omega | (simp only [List.length_drop, List.length_take, List.length_append, List.length_set, List.length_cons, List.length_nil] at *; omega)
            | (apply bx_i; intro hbd)
            | (first | apply sd_nat | apply sd_int | apply sl_nat | apply sl_int); first | omega | (simp only [List.length_drop, List.length_take, List.length_append, List.length_set, List.length_cons, List.length_nil] at *; omega)
            | (apply cx_is; first | exact h1) | (apply cx_do (i := 0) rfl; first | exact h1)
            | (apply ab_i; intro bl) | (apply as_i; intro va vk vc) | (apply av_i; intro v) | (apply ac_i; intro bl cap hcap)
            | (apply bo_l) | (apply ch_r; apply sp_i; intro i hi; exact ⟨rfl, rfl, rfl⟩) | (apply nx_i; all_goals intro hnx)
            | (apply Ia.hit; assumption) | (apply Ia.miss; assumption)
            | (apply rt_is; exact rfl) | (apply rt_do; exact rfl; (repeat (first | exact List.nil_sublist _ | apply List.Sublist.cons_cons))) | (apply iv; assumption)
            | (apply dw_q mixed hC hGL (by kernel_rfl))
            | (apply cq; assumption; (first | exact h1); exact rfl))
        all_goals (try conv => whnf)
        all_goals exact geo_no' (by rw [hc, if_pos (.inr (.inr (.inl hv)))])
      · rw [splS_none hv] at h1
        have h2 := has_prefix (G := G) (geoP ++ u) geoP
        rw [show geoP.isPrefixOf (geoP ++ u) = true by rw [List.isPrefixOf_iff_prefix]; exact ⟨u, rfl⟩] at h2
        have h3 := contains_one (G := G) v
        have hl0 : ([geoP ++ u, v].getD 0 []).length = 4 + u.length := List.length_append
        repeat' (first
          | (conv => whnf); first
            | (apply ch_l; apply sp_i; first | exact rfl | omega | exact ⟨rfl, rfl, by omega⟩ | exact ⟨rfl, by omega⟩ | exact ⟨rfl, by omega, by omega, by omega⟩ | decide | (simp only [List.length_drop, List.length_take, List.length_append, List.length_set, List.length_cons, List.length_nil, OrOk] at *; omega) | (simp; omega))
            | (apply sp_i; first | exact rfl | omega | exact ⟨rfl, rfl, by omega⟩ | exact ⟨rfl, by omega⟩ | exact ⟨rfl, by omega, by omega, by omega⟩ | decide | (simp only [List.length_drop, List.length_take, List.length_append, List.length_set, List.length_cons, List.length_nil, OrOk] at *; omega) | (simp; omega))
            | (apply sc_true) | (apply sc_false)
            | (first | apply sc_lt | apply sc_nlt | apply sc_eq | apply sc_neq | apply sc_nil | apply sc_nnil | apply sc_seq | apply sc_nseq); all_goals (intro hb; try (first | (exfalso; omega) | exact absurd rfl hb | exact absurd hb (by decide) | exact absurd hb (by assumption) | exact absurd (by assumption) hb | (exfalso; simp only [List.length_cons, List.length_nil, List.length_append] at hb; omega)))
            | (apply sc_not) | (apply sc_or) | (apply sc_i; all_goals intro hb)
            | (first | apply ix_nat | apply ix_int); first | omega | (simp only [List.length_drop, List.length_take, List.length_append, List.length_set, List.length_cons, List.length_nil] at *; omega)
            | (apply bx_i; intro hbd)
            | (first | apply sd_nat | apply sd_int | apply sl_nat | apply sl_int); first | omega | (simp only [List.length_drop, List.length_take, List.length_append, List.length_set, List.length_cons, List.length_nil] at *; omega)
            | (apply cx_is; first | exact h1 | exact h2 | exact h3) | (apply cx_do (i := 0) rfl; first | exact h1 | exact h2 | exact h3)
            | (apply ab_i; intro bl) | (apply as_i; intro va vk vc) | (apply av_i; intro v) | (apply ac_i; intro bl cap hcap)
            | (apply bo_l) | (apply ch_r; apply sp_i; intro i hi; exact ⟨rfl, rfl, rfl⟩) | (apply nx_i; all_goals intro hnx)
            | (apply Ia.hit; assumption) | (apply Ia.miss; assumption)
            | (apply rt_is; exact rfl) | (apply rt_do; exact rfl; (repeat (first | exact List.nil_sublist _ | apply List.Sublist.cons_cons))) | (apply iv; assumption)
            | (apply dw_q mixed hC hGL (by kernel_rfl))
            | (apply cq; assumption; (first | exact h1 | exact h2 | exact h3); exact rfl))
        all_goals (try conv => whnf)
        · refine geo_no' (by rw [hc, if_pos (.inl ?_)])
          have := congrArg List.length hb
          rw [hl0] at this
          have this : 4 + u.length = 4 := this
          exact List.eq_nil_of_length_eq_zero (by omega)
        · exact geo_no' (by rw [hc, if_pos (.inr (.inl (List.eq_nil_of_length_eq_zero hb)))])
        · exact geo_no' (by rw [hc, if_pos (.inr (.inr (.inr (of_decide_eq_true hb))))])
        · refine geo_yes' (a := u) (b := v) ?_
          rw [hc, if_neg]
          rintro (h | h | h | h)
          · subst h; exact absurd rfl ‹[geoP ++ [], v].getD 0 [] ≠ [103, 101, 111, 58]›
          · subst h; exact absurd rfl ‹([geoP ++ u, []].getD 1 []).length ≠ 0›
          · exact hv h
          · exact absurd h (of_decide_eq_false hb)
/-- Digits, one by one. -/
theorem law_digits {G : Glo} : ∀ (k n : Nat), n ≤ k → n ≤ 1000 → FnIs Tryd.prog G 49 [.int .i64 (n : Int)] (.str (Lib.decDigits n))
  | 0, n, hn, h => by
    obtain rfl : n = 0 := by omega
    rw [decDigits_one (by omega)]
    have hGL : GloAll G [] := gloAll_nil
    refine fn_x Tryd.func49 Tryd.call49 rfl rfl rfl rfl hGL ?_
    intro C hC
    repeat' (first
      | (conv => whnf); first
        | (apply ch_l; apply sp_i; first | exact rfl | omega | exact ⟨rfl, rfl, by omega⟩ | exact ⟨rfl, by omega⟩ | exact ⟨rfl, by omega, by omega, by omega⟩ | decide | (simp only [List.length_drop, List.length_take, List.length_append, List.length_set, List.length_cons, List.length_nil, OrOk] at *; omega) | (simp; omega))
        | (apply sp_i; first | exact rfl | omega | exact ⟨rfl, rfl, by omega⟩ | exact ⟨rfl, by omega⟩ | exact ⟨rfl, by omega, by omega, by omega⟩ | decide | (simp only [List.length_drop, List.length_take, List.length_append, List.length_set, List.length_cons, List.length_nil, OrOk] at *; omega) | (simp; omega))
        | (apply sc_true) | (apply sc_false)
        | (first | apply sc_lt | apply sc_nlt | apply sc_eq | apply sc_neq | apply sc_nil | apply sc_nnil | apply sc_seq | apply sc_nseq); all_goals (intro hb; try (first | (exfalso; omega) | exact absurd rfl hb | exact absurd hb (by decide) | exact absurd hb (by assumption) | exact absurd (by assumption) hb | (exfalso; simp only [List.length_cons, List.length_nil, List.length_append] at hb; omega)))
        | (apply sc_not) | (apply sc_or) | (apply sc_i; all_goals intro hb)
        | (first | apply ix_nat | apply ix_int); first | omega | (simp only [List.length_drop, List.length_take, List.length_append, List.length_set, List.length_cons, List.length_nil] at *; omega)
        | (apply bx_i; intro hbd)
        | (first | apply sd_nat | apply sd_int | apply sl_nat | apply sl_int); first | omega | (simp only [List.length_drop, List.length_take, List.length_append, List.length_set, List.length_cons, List.length_nil] at *; omega)
        | (apply cx_is; first | fail) | (apply cx_do (i := 0) rfl; first | fail)
        | (apply ab_i; intro bl) | (apply as_i; intro va vk vc) | (apply av_i; intro v) | (apply ac_i; intro bl cap hcap)
        | (apply bo_l) | (apply ch_r; apply sp_i; intro i hi; exact ⟨rfl, rfl, rfl⟩) | (apply nx_i; all_goals intro hnx)
        | (apply Ia.hit; assumption) | (apply Ia.miss; assumption)
        | (apply rt_is; exact rfl) | (apply rt_do; exact rfl; (repeat (first | exact List.nil_sublist _ | apply List.Sublist.cons_cons))) | (apply iv; assumption)
        | (apply dw_q mixed hC hGL (by kernel_rfl))
        | (apply cq; assumption; (first | fail); exact rfl))
    all_goals (try conv => whnf)
    refine op1_run hC hGL (rv_bytes [_] rfl (by intro v hv; simp only [List.mem_cons, List.not_mem_nil, or_false] at hv; omega) rfl rfl rfl rfl rfl rfl) rfl rfl ?_
    repeat' (first
      | (conv => whnf); first
        | (apply ch_l; apply sp_i; first | exact rfl | omega | exact ⟨rfl, rfl, by omega⟩ | exact ⟨rfl, by omega⟩ | exact ⟨rfl, by omega, by omega, by omega⟩ | decide | (simp only [List.length_drop, List.length_take, List.length_append, List.length_set, List.length_cons, List.length_nil, OrOk] at *; omega) | (simp; omega))
        | (apply sp_i; first | exact rfl | omega | exact ⟨rfl, rfl, by omega⟩ | exact ⟨rfl, by omega⟩ | exact ⟨rfl, by omega, by omega, by omega⟩ | decide | (simp only [List.length_drop, List.length_take, List.length_append, List.length_set, List.length_cons, List.length_nil, OrOk] at *; omega) | (simp; omega))
        | (apply sc_true) | (apply sc_false)
        | (first | apply sc_lt | apply sc_nlt | apply sc_eq | apply sc_neq | apply sc_nil | apply sc_nnil | apply sc_seq | apply sc_nseq); all_goals (intro hb; try (first | (exfalso; omega) | exact absurd rfl hb | exact absurd hb (by decide) | exact absurd hb (by assumption) | exact absurd (by assumption) hb | (exfalso; simp only [List.length_cons, List.length_nil, List.length_append] at hb; omega)))
        | (apply sc_not) | (apply sc_or) | (apply sc_i; all_goals intro hb)
        | (first | apply ix_nat | apply ix_int); first | omega | (simp only [List.length_drop, List.length_take, List.length_append, List.length_set, List.length_cons, List.length_nil] at *; omega)
        | (apply bx_i; intro hbd)
        | (first | apply sd_nat | apply sd_int | apply sl_nat | apply sl_int); first | omega | (simp only [List.length_drop, List.length_take, List.length_append, List.length_set, List.length_cons, List.length_nil] at *; omega)
        | (apply cx_is; first | fail) | (apply cx_do (i := 0) rfl; first | fail)
        | (apply ab_i; intro bl) | (apply as_i; intro va vk vc) | (apply av_i; intro v) | (apply ac_i; intro bl cap hcap)
        | (apply bo_l) | (apply ch_r; apply sp_i; intro i hi; exact ⟨rfl, rfl, rfl⟩) | (apply nx_i; all_goals intro hnx)
        | (apply Ia.hit; assumption) | (apply Ia.miss; assumption)
        | (apply rt_is; exact rfl) | (apply rt_do; exact rfl; (repeat (first | exact List.nil_sublist _ | apply List.Sublist.cons_cons))) | (apply iv; assumption)
        | (apply dw_q mixed hC hGL (by kernel_rfl))
        | (apply cq; assumption; (first | fail); exact rfl))
    all_goals (try conv => whnf)
  | k + 1, n, hn, h => by
    by_cases h9 : n < 10
    · rw [decDigits_one h9]
      have hGL : GloAll G [] := gloAll_nil
      refine fn_x Tryd.func49 Tryd.call49 rfl rfl rfl rfl hGL ?_
      intro C hC
      repeat' (first
        | (conv => whnf); first
          | (apply ch_l; apply sp_i; first | exact rfl | omega | exact ⟨rfl, rfl, by omega⟩ | exact ⟨rfl, by omega⟩ | exact ⟨rfl, by omega, by omega, by omega⟩ | decide | (simp only [List.length_drop, List.length_take, List.length_append, List.length_set, List.length_cons, List.length_nil, OrOk] at *; omega) | (simp; omega))
          | (apply sp_i; first | exact rfl | omega | exact ⟨rfl, rfl, by omega⟩ | exact ⟨rfl, by omega⟩ | exact ⟨rfl, by omega, by omega, by omega⟩ | decide | (simp only [List.length_drop, List.length_take, List.length_append, List.length_set, List.length_cons, List.length_nil, OrOk] at *; omega) | (simp; omega))
          | (apply sc_true) | (apply sc_false)
          | (first | apply sc_lt | apply sc_nlt | apply sc_eq | apply sc_neq | apply sc_nil | apply sc_nnil | apply sc_seq | apply sc_nseq); all_goals (intro hb; try (first | (exfalso; omega) | exact absurd rfl hb | exact absurd hb (by decide) | exact absurd hb (by assumption) | exact absurd (by assumption) hb | (exfalso; simp only [List.length_cons, List.length_nil, List.length_append] at hb; omega)))
          | (apply sc_not) | (apply sc_or) | (apply sc_i; all_goals intro hb)
          | (first | apply ix_nat | apply ix_int); first | omega | (simp only [List.length_drop, List.length_take, List.length_append, List.length_set, List.length_cons, List.length_nil] at *; omega)
          | (apply bx_i; intro hbd)
          | (first | apply sd_nat | apply sd_int | apply sl_nat | apply sl_int); first | omega | (simp only [List.length_drop, List.length_take, List.length_append, List.length_set, List.length_cons, List.length_nil] at *; omega)
          | (apply cx_is; first | fail) | (apply cx_do (i := 0) rfl; first | fail)
          | (apply ab_i; intro bl) | (apply as_i; intro va vk vc) | (apply av_i; intro v) | (apply ac_i; intro bl cap hcap)
          | (apply bo_l) | (apply ch_r; apply sp_i; intro i hi; exact ⟨rfl, rfl, rfl⟩) | (apply nx_i; all_goals intro hnx)
          | (apply Ia.hit; assumption) | (apply Ia.miss; assumption)
          | (apply rt_is; exact rfl) | (apply rt_do; exact rfl; (repeat (first | exact List.nil_sublist _ | apply List.Sublist.cons_cons))) | (apply iv; assumption)
          | (apply dw_q mixed hC hGL (by kernel_rfl))
          | (apply cq; assumption; (first | fail); exact rfl))
      all_goals (try conv => whnf)
      refine op1_run hC hGL (rv_bytes [_] rfl (by intro v hv; simp only [List.mem_cons, List.not_mem_nil, or_false] at hv; omega) rfl rfl rfl rfl rfl rfl) rfl rfl ?_
      repeat' (first
        | (conv => whnf); first
          | (apply ch_l; apply sp_i; first | exact rfl | omega | exact ⟨rfl, rfl, by omega⟩ | exact ⟨rfl, by omega⟩ | exact ⟨rfl, by omega, by omega, by omega⟩ | decide | (simp only [List.length_drop, List.length_take, List.length_append, List.length_set, List.length_cons, List.length_nil, OrOk] at *; omega) | (simp; omega))
          | (apply sp_i; first | exact rfl | omega | exact ⟨rfl, rfl, by omega⟩ | exact ⟨rfl, by omega⟩ | exact ⟨rfl, by omega, by omega, by omega⟩ | decide | (simp only [List.length_drop, List.length_take, List.length_append, List.length_set, List.length_cons, List.length_nil, OrOk] at *; omega) | (simp; omega))
          | (apply sc_true) | (apply sc_false)
          | (first | apply sc_lt | apply sc_nlt | apply sc_eq | apply sc_neq | apply sc_nil | apply sc_nnil | apply sc_seq | apply sc_nseq); all_goals (intro hb; try (first | (exfalso; omega) | exact absurd rfl hb | exact absurd hb (by decide) | exact absurd hb (by assumption) | exact absurd (by assumption) hb | (exfalso; simp only [List.length_cons, List.length_nil, List.length_append] at hb; omega)))
          | (apply sc_not) | (apply sc_or) | (apply sc_i; all_goals intro hb)
          | (first | apply ix_nat | apply ix_int); first | omega | (simp only [List.length_drop, List.length_take, List.length_append, List.length_set, List.length_cons, List.length_nil] at *; omega)
          | (apply bx_i; intro hbd)
          | (first | apply sd_nat | apply sd_int | apply sl_nat | apply sl_int); first | omega | (simp only [List.length_drop, List.length_take, List.length_append, List.length_set, List.length_cons, List.length_nil] at *; omega)
          | (apply cx_is; first | fail) | (apply cx_do (i := 0) rfl; first | fail)
          | (apply ab_i; intro bl) | (apply as_i; intro va vk vc) | (apply av_i; intro v) | (apply ac_i; intro bl cap hcap)
          | (apply bo_l) | (apply ch_r; apply sp_i; intro i hi; exact ⟨rfl, rfl, rfl⟩) | (apply nx_i; all_goals intro hnx)
          | (apply Ia.hit; assumption) | (apply Ia.miss; assumption)
          | (apply rt_is; exact rfl) | (apply rt_do; exact rfl; (repeat (first | exact List.nil_sublist _ | apply List.Sublist.cons_cons))) | (apply iv; assumption)
          | (apply dw_q mixed hC hGL (by kernel_rfl))
          | (apply cq; assumption; (first | fail); exact rfl))
      all_goals (try conv => whnf)
    · have h1 := law_digits (G := G) k (n / 10) (by omega) (by omega)
      have h2 := law_digits (G := G) k (n % 10) (by omega) (by omega)
      rw [show ((n / 10 : Nat) : Int) = (n : Int) / 10 by omega] at h1
      rw [show ((n % 10 : Nat) : Int) = (n : Int) % 10 by omega, decDigits_one (by omega)] at h2
      have hl1 : (Lib.decDigits (n / 10)).length ≤ 100 := by
        have : ∀ m : Nat, m ≤ 100 → (Lib.decDigits m).length ≤ 100 := by
          intro m hm
          by_cases g : m < 10
          · rw [decDigits_one g]; simp
          · by_cases g2 : m < 100
            · rw [decDigits_two (by omega) g2]; simp
            · obtain rfl : m = 100 := by omega
              rw [Lib.decDigits, dif_neg (by omega), decDigits_two (by omega) (by omega)]
              simp
        exact this _ (by omega)
      have hGL : GloAll G [] := gloAll_nil
      refine fn_x Tryd.func49 Tryd.call49 rfl rfl rfl rfl hGL ?_
      intro C hC
      repeat' (first
        | (conv => whnf); first
          | (apply ch_l; apply sp_i; first | exact rfl | omega | exact ⟨rfl, rfl, by omega⟩ | exact ⟨rfl, by omega⟩ | exact ⟨rfl, by omega, by omega, by omega⟩ | decide | (simp only [List.length_drop, List.length_take, List.length_append, List.length_set, List.length_cons, List.length_nil, OrOk] at *; omega) | (simp; omega))
          | (apply sp_i; first | exact rfl | omega | exact ⟨rfl, rfl, by omega⟩ | exact ⟨rfl, by omega⟩ | exact ⟨rfl, by omega, by omega, by omega⟩ | decide | (simp only [List.length_drop, List.length_take, List.length_append, List.length_set, List.length_cons, List.length_nil, OrOk] at *; omega) | (simp; omega))
          | (apply sc_true) | (apply sc_false)
          | (first | apply sc_lt | apply sc_nlt | apply sc_eq | apply sc_neq | apply sc_nil | apply sc_nnil | apply sc_seq | apply sc_nseq); all_goals (intro hb; try (first | (exfalso; omega) | exact absurd rfl hb | exact absurd hb (by decide) | exact absurd hb (by assumption) | exact absurd (by assumption) hb | (exfalso; simp only [List.length_cons, List.length_nil, List.length_append] at hb; omega)))
          | (apply sc_not) | (apply sc_or) | (apply sc_i; all_goals intro hb)
          | (first | apply ix_nat | apply ix_int); first | omega | (simp only [List.length_drop, List.length_take, List.length_append, List.length_set, List.length_cons, List.length_nil] at *; omega)
          | (apply bx_i; intro hbd)
          | (first | apply sd_nat | apply sd_int | apply sl_nat | apply sl_int); first | omega | (simp only [List.length_drop, List.length_take, List.length_append, List.length_set, List.length_cons, List.length_nil] at *; omega)
          | (apply cx_is; first | exact h1 | exact h2) | (apply cx_do (i := 0) rfl; first | exact h1 | exact h2)
          | (apply ab_i; intro bl) | (apply as_i; intro va vk vc) | (apply av_i; intro v) | (apply ac_i; intro bl cap hcap)
          | (apply bo_l) | (apply ch_r; apply sp_i; intro i hi; exact ⟨rfl, rfl, rfl⟩) | (apply nx_i; all_goals intro hnx)
          | (apply Ia.hit; assumption) | (apply Ia.miss; assumption)
          | (apply rt_is; exact rfl) | (apply rt_do; exact rfl; (repeat (first | exact List.nil_sublist _ | apply List.Sublist.cons_cons))) | (apply iv; assumption)
          | (apply dw_q mixed hC hGL (by kernel_rfl))
          | (apply cq; assumption; (first | exact h1 | exact h2); exact rfl))
      all_goals (try conv => whnf)
      apply rt_is
      rw [Lib.decDigits.eq_def n, dif_neg h9]
/-- What the digits' table holds. -/
def PowIs (G : Glo) : Prop := ∀ R, G.p R → ∃ e fz, R 8 = some (.cells (Lib.pow10Tab.map fun z => Value.int .u64 z).toArray e fz)
theorem strconv_Itoa {G : Glo} (hP : PowIs G) (n : Nat) (hn : n ≤ 9223372036854775807) : FnIs Tryd.prog G 99 [.int .i64 (n : Int)] (.str (Lib.decDigits n)) := by
  refine fnis_of_calls rfl Tryd.call99 ?_
  rintro R args ⟨x, t, e, hx, rfl⟩ w hG hs
  obtain rfl := rel_int.1 hx
  obtain rfl := arr_of e
  have ht : Lib.TabIs Tryd.prog w "internal/strconv.uint64pow10" .u64 Lib.pow10Tab := by
    obtain ⟨e, fz, hR⟩ := hP R hG
    have hg : Tryd.prog.globalNamed "internal/strconv.uint64pow10" = some 8 := by kernel_rfl
    show w.var? Tryd.prog "internal/strconv.uint64pow10" = _
    simp only [World.var?, hg, Option.bind_some, hs _ _ hR]
  refine (Tryd.strconv_Itoa n (by omega) (by omega) w ht).mono ?_
  rintro e w' ⟨rfl, k, os, rfl⟩
  refine ⟨?_, ⟨rfl, rfl, rfl, ?_, fun b hb => ?_⟩⟩
  · have : Lib.itoa (n : Int) = Lib.decDigits n := by unfold Lib.itoa; rw [if_neg (by omega)]; rfl
    rw [this]
    rfl
  · show w.heap.size ≤ (w.heap ++ os).size
    rw [Array.size_append]; omega
  · show (w.heap ++ os)[b]? = w.heap[b]?
    rw [Array.getElem?_append_left hb]
def prefA (n : Int) : AVal := if n < 1 ∨ 100 < n then .agg [.str [], .raw (.slice none 0 0)] else if n = 1 then .agg [.str [84, 89, 80, 69], .list 1 1 (partElem [(0, .str [112, 114, 101, 102])])] else .agg [.str [88, 45, 80, 82, 69, 70], .list 1 1 (partElem [(0, .str (Lib.decDigits n.toNat))])]
def prefE (n : Int) : Err := if n < 1 ∨ 100 < n then .errno 2 else .none
theorem convert_Pref {G : Glo} (hP : PowIs G) (n : Int) : FnIs Tryd.prog G 48 [.int .i64 n] (.tuple [prefA n, (prefE n).A]) := by
  have h1 : 0 ≤ n → n ≤ 100 → FnIs Tryd.prog G 99 [.int .i64 n] (.str (Lib.decDigits n.toNat)) := fun h h2 => by
    have := strconv_Itoa hP n.toNat (by omega)
    rwa [Int.toNat_of_nonneg h] at this
  have hGL : GloAll G [] := gloAll_nil
  refine fn_x Tryd.func48 Tryd.call48 rfl rfl rfl rfl hGL ?_
  intro C hC
  repeat' (first
    | (conv => whnf); first
      | (apply ch_l; apply sp_i; first | exact rfl | omega | exact ⟨rfl, rfl, by omega⟩ | exact ⟨rfl, by omega⟩ | exact ⟨rfl, by omega, by omega, by omega⟩ | decide | (simp only [List.length_drop, List.length_take, List.length_append, List.length_set, List.length_cons, List.length_nil, OrOk] at *; omega) | (simp; omega))
      | (apply sp_i; first | exact rfl | omega | exact ⟨rfl, rfl, by omega⟩ | exact ⟨rfl, by omega⟩ | exact ⟨rfl, by omega, by omega, by omega⟩ | decide | (simp only [List.length_drop, List.length_take, List.length_append, List.length_set, List.length_cons, List.length_nil, OrOk] at *; omega) | (simp; omega))
      | (apply sc_true) | (apply sc_false)
      | (first | apply sc_lt | apply sc_nlt | apply sc_eq | apply sc_neq | apply sc_nil | apply sc_nnil | apply sc_seq | apply sc_nseq); all_goals (intro hb; try (first | (exfalso; omega) | exact absurd rfl hb | exact absurd hb (by decide) | exact absurd hb (by assumption) | exact absurd (by assumption) hb | (exfalso; simp only [List.length_cons, List.length_nil, List.length_append] at hb; omega)))
      | (apply sc_not) | (apply sc_or) | (apply sc_i; all_goals intro hb)
      | (first | apply ix_nat | apply ix_int); first | omega | (simp only [List.length_drop, List.length_take, List.length_append, List.length_set, List.length_cons, List.length_nil] at *; omega)
      | (apply bx_i; intro hbd)
      | (first | apply sd_nat | apply sd_int | apply sl_nat | apply sl_int); first | omega | (simp only [List.length_drop, List.length_take, List.length_append, List.length_set, List.length_cons, List.length_nil] at *; omega)
      | (apply cx_is; first | exact h1 (by omega) (by omega)) | (apply cx_do (i := 0) rfl; first | exact h1 (by omega) (by omega))
      | (apply ab_i; intro bl) | (apply as_i; intro va vk vc) | (apply av_i; intro v) | (apply ac_i; intro bl cap hcap)
      | (apply bo_l) | (apply ch_r; apply sp_i; intro i hi; exact ⟨rfl, rfl, rfl⟩) | (apply nx_i; all_goals intro hnx)
      | (apply Ia.hit; assumption) | (apply Ia.miss; assumption)
      | (apply rt_is; exact rfl) | (apply rt_do; exact rfl; (repeat (first | exact List.nil_sublist _ | apply List.Sublist.cons_cons))) | (apply iv; assumption)
      | (apply dw_q mixed hC hGL (by kernel_rfl))
      | (apply cq; assumption; (first | exact h1 (by omega) (by omega)); exact rfl))
  all_goals (try conv => whnf)
  · apply rt_is; rw [prefA, prefE, if_pos (show n < 1 ∨ 100 < n by omega), if_pos (show n < 1 ∨ 100 < n by omega)]; rfl
  · apply rt_is; rw [prefA, prefE, if_pos (show n < 1 ∨ 100 < n by omega), if_pos (show n < 1 ∨ 100 < n by omega)]; rfl
  · apply rt_is; rw [prefA, prefE, if_neg (show ¬ (n < 1 ∨ 100 < n) by omega), if_neg (show ¬ (n < 1 ∨ 100 < n) by omega), if_pos (show n = 1 by omega)]; rfl
  · apply rt_is; rw [prefA, prefE, if_neg (show ¬ (n < 1 ∨ 100 < n) by omega), if_neg (show ¬ (n < 1 ∨ 100 < n) by omega), if_neg (show ¬ n = 1 by omega)]; rfl
theorem slices_Equal1 {G : Glo} (a b : List UInt8) : FnIs Tryd.prog G 50 [.list 1 1 (partElem [(0, .str a)]), .list 1 1 (partElem [(0, .str b)])] (.bool (seqB a b)) := by
  have hGL : GloAll G [] := gloAll_nil
  refine fn_x Tryd.func50 Tryd.call50 rfl rfl rfl rfl hGL ?_
  intro C hC
  repeat' (first
    | (conv => whnf); first
      | (apply ch_l; apply sp_i; first | exact rfl | omega | exact ⟨rfl, rfl, by omega⟩ | exact ⟨rfl, by omega⟩ | exact ⟨rfl, by omega, by omega, by omega⟩ | decide | (simp only [List.length_drop, List.length_take, List.length_append, List.length_set, List.length_cons, List.length_nil, OrOk] at *; omega) | (simp; omega))
      | (apply sp_i; first | exact rfl | omega | exact ⟨rfl, rfl, by omega⟩ | exact ⟨rfl, by omega⟩ | exact ⟨rfl, by omega, by omega, by omega⟩ | decide | (simp only [List.length_drop, List.length_take, List.length_append, List.length_set, List.length_cons, List.length_nil, OrOk] at *; omega) | (simp; omega))
      | (apply sc_true) | (apply sc_false)
      | (first | apply sc_lt | apply sc_nlt | apply sc_eq | apply sc_neq | apply sc_nil | apply sc_nnil | apply sc_seq | apply sc_nseq); all_goals (intro hb; try (first | (exfalso; omega) | exact absurd rfl hb | exact absurd hb (by decide) | exact absurd hb (by assumption) | exact absurd (by assumption) hb | (exfalso; simp only [List.length_cons, List.length_nil, List.length_append] at hb; omega)))
      | (apply sc_not) | (apply sc_or) | (apply sc_i; all_goals intro hb)
      | (first | apply ix_nat | apply ix_int); first | omega | (simp only [List.length_drop, List.length_take, List.length_append, List.length_set, List.length_cons, List.length_nil] at *; omega)
      | (apply bx_i; intro hbd)
      | (first | apply sd_nat | apply sd_int | apply sl_nat | apply sl_int); first | omega | (simp only [List.length_drop, List.length_take, List.length_append, List.length_set, List.length_cons, List.length_nil] at *; omega)
      | (apply cx_is; first | fail) | (apply cx_do (i := 0) rfl; first | fail)
      | (apply ab_i; intro bl) | (apply as_i; intro va vk vc) | (apply av_i; intro v) | (apply ac_i; intro bl cap hcap)
      | (apply bo_l) | (apply ch_r; apply sp_i; intro i hi; exact ⟨rfl, rfl, rfl⟩) | (apply nx_i; all_goals intro hnx)
      | (apply Ia.hit; assumption) | (apply Ia.miss; assumption)
      | (apply rt_is; exact rfl) | (apply rt_do; exact rfl; (repeat (first | exact List.nil_sublist _ | apply List.Sublist.cons_cons))) | (apply iv; assumption)
      | (apply dw_q mixed hC hGL (by kernel_rfl))
      | (apply cq; assumption; (first | fail); exact rfl))
  all_goals (try conv => whnf)
  refine rds hC hGL 2 ?_
  repeat' (first
    | (conv => whnf); first
      | (apply ch_l; apply sp_i; first | exact rfl | omega | exact ⟨rfl, rfl, by omega⟩ | exact ⟨rfl, by omega⟩ | exact ⟨rfl, by omega, by omega, by omega⟩ | decide | (simp only [List.length_drop, List.length_take, List.length_append, List.length_set, List.length_cons, List.length_nil, OrOk] at *; omega) | (simp; omega))
      | (apply sp_i; first | exact rfl | omega | exact ⟨rfl, rfl, by omega⟩ | exact ⟨rfl, by omega⟩ | exact ⟨rfl, by omega, by omega, by omega⟩ | decide | (simp only [List.length_drop, List.length_take, List.length_append, List.length_set, List.length_cons, List.length_nil, OrOk] at *; omega) | (simp; omega))
      | (apply sc_true) | (apply sc_false)
      | (first | apply sc_lt | apply sc_nlt | apply sc_eq | apply sc_neq | apply sc_nil | apply sc_nnil | apply sc_seq | apply sc_nseq); all_goals (intro hb; try (first | (exfalso; omega) | exact absurd rfl hb | exact absurd hb (by decide) | exact absurd hb (by assumption) | exact absurd (by assumption) hb | (exfalso; simp only [List.length_cons, List.length_nil, List.length_append] at hb; omega)))
      | (apply sc_not) | (apply sc_or) | (apply sc_i; all_goals intro hb)
      | (first | apply ix_nat | apply ix_int); first | omega | (simp only [List.length_drop, List.length_take, List.length_append, List.length_set, List.length_cons, List.length_nil] at *; omega)
      | (apply bx_i; intro hbd)
      | (first | apply sd_nat | apply sd_int | apply sl_nat | apply sl_int); first | omega | (simp only [List.length_drop, List.length_take, List.length_append, List.length_set, List.length_cons, List.length_nil] at *; omega)
      | (apply cx_is; first | fail) | (apply cx_do (i := 0) rfl; first | fail)
      | (apply ab_i; intro bl) | (apply as_i; intro va vk vc) | (apply av_i; intro v) | (apply ac_i; intro bl cap hcap)
      | (apply bo_l) | (apply ch_r; apply sp_i; intro i hi; exact ⟨rfl, rfl, rfl⟩) | (apply nx_i; all_goals intro hnx)
      | (apply Ia.hit; assumption) | (apply Ia.miss; assumption)
      | (apply rt_is; exact rfl) | (apply rt_do; exact rfl; (repeat (first | exact List.nil_sublist _ | apply List.Sublist.cons_cons))) | (apply iv; assumption)
      | (apply dw_q mixed hC hGL (by kernel_rfl))
      | (apply cq; assumption; (first | fail); exact rfl))
  all_goals (try conv => whnf)
  · apply rt_is; rw [seqB_f.2 hb]; rfl
  · apply rt_is; rw [seqB_t.2 ‹a = b›]; rfl
theorem geoE_p (o : Option (List UInt8 × List UInt8)) : (geoE o).p = -1 := by unfold geoE; split <;> rfl
theorem law_ConvertGeos {G : Glo} {m : Int} (hU2 : GloAll G errTy) (hM : GloAll G (maxTy m)) (hP : PowIs G) (s : List UInt8) (n : Int) (hl : s.length ≤ 9223372036854775807) : FnIs Tryd.prog G 10 [.str s, .int .i64 n] (.bool true) := by
  have e1 := fun h => ref_Geo (G := G) hM s h
  have e2 := fun h => convert_Geo (G := G) hM s h
  have e3 := convert_Pref hP n
  have e4 := bare_ok hU2 (geoE (geoV s)) (geoE_p _)
  rw [← unown_uri] at e4
  have e5 := slices_Equal1 (G := G)
  have e6 : 1 ≤ n → n ≤ 100 → FnIs Tryd.prog G 49 [.int .i64 n] (.str (Lib.decDigits n.toNat)) := fun h h2 => by
    have := law_digits (G := G) n.toNat n.toNat (Nat.le_refl _) (by omega)
    rwa [Int.toNat_of_nonneg (by omega)] at this
  have hGL : GloAll G [] := gloAll_nil
  refine fn_x Tryd.func10 Tryd.call10 rfl rfl rfl rfl hGL ?_
  intro C hC
  by_cases h1 : n < 1 ∨ 100 < n
  · rw [prefA, prefE, if_pos h1, if_pos h1] at e3
    have e7 := bare_ok hU2 (.errno 2) rfl
    rw [← unown_uri] at e7
    repeat' (first
      | (conv => whnf); first
        | (apply ch_l; apply sp_i; first | exact rfl | omega | exact ⟨rfl, rfl, by omega⟩ | exact ⟨rfl, by omega⟩ | exact ⟨rfl, by omega, by omega, by omega⟩ | decide | (simp only [List.length_drop, List.length_take, List.length_append, List.length_set, List.length_cons, List.length_nil, OrOk] at *; omega) | (simp; omega))
        | (apply sp_i; first | exact rfl | omega | exact ⟨rfl, rfl, by omega⟩ | exact ⟨rfl, by omega⟩ | exact ⟨rfl, by omega, by omega, by omega⟩ | decide | (simp only [List.length_drop, List.length_take, List.length_append, List.length_set, List.length_cons, List.length_nil, OrOk] at *; omega) | (simp; omega))
        | (apply sc_true) | (apply sc_false)
        | (first | apply sc_lt | apply sc_nlt | apply sc_eq | apply sc_neq | apply sc_nil | apply sc_nnil | apply sc_seq | apply sc_nseq); all_goals (intro hb; try (first | (exfalso; omega) | exact absurd rfl hb | exact absurd hb (by decide) | exact absurd hb (by assumption) | exact absurd (by assumption) hb | (exfalso; simp only [List.length_cons, List.length_nil, List.length_append] at hb; omega)))
        | (apply sc_not) | (apply sc_or) | (apply sc_i; all_goals intro hb)
        | (first | apply ix_nat | apply ix_int); first | omega | (simp only [List.length_drop, List.length_take, List.length_append, List.length_set, List.length_cons, List.length_nil] at *; omega)
        | (apply bx_i; intro hbd)
        | (first | apply sd_nat | apply sd_int | apply sl_nat | apply sl_int); first | omega | (simp only [List.length_drop, List.length_take, List.length_append, List.length_set, List.length_cons, List.length_nil] at *; omega)
        | (apply cx_is; first | exact e1 (by omega) | exact e2 (by omega) | exact e3 | exact e4 | exact e7) | (apply cx_do (i := 0) rfl; first | exact e1 (by omega) | exact e2 (by omega) | exact e3 | exact e4 | exact e7)
        | (apply ab_i; intro bl) | (apply as_i; intro va vk vc) | (apply av_i; intro v) | (apply ac_i; intro bl cap hcap)
        | (apply bo_l) | (apply ch_r; apply sp_i; intro i hi; exact ⟨rfl, rfl, rfl⟩) | (apply nx_i; all_goals intro hnx)
        | (apply Ia.hit; assumption) | (apply Ia.miss; assumption)
        | (apply rt_is; exact rfl) | (apply rt_do; exact rfl; (repeat (first | exact List.nil_sublist _ | apply List.Sublist.cons_cons))) | (apply iv; assumption)
        | (apply dw_q mixed hC hGL (by kernel_rfl))
        | (apply cq; assumption; (first | exact e1 (by omega) | exact e2 (by omega) | exact e3 | exact e4 | exact e7); exact rfl))
    all_goals (try conv => whnf)
    all_goals (first | (apply rt_is; show AVal.bool (eqB 0 0) = _; rw [eqB_t.2 rfl]) | (exact absurd rfl hb) | skip)
  · by_cases h2 : n = 1
    · rw [prefA, prefE, if_neg h1, if_neg h1, if_pos h2] at e3
      repeat' (first
        | (conv => whnf); first
          | (apply ch_l; apply sp_i; first | exact rfl | omega | exact ⟨rfl, rfl, by omega⟩ | exact ⟨rfl, by omega⟩ | exact ⟨rfl, by omega, by omega, by omega⟩ | decide | (simp only [List.length_drop, List.length_take, List.length_append, List.length_set, List.length_cons, List.length_nil, OrOk] at *; omega) | (simp; omega))
          | (apply sp_i; first | exact rfl | omega | exact ⟨rfl, rfl, by omega⟩ | exact ⟨rfl, by omega⟩ | exact ⟨rfl, by omega, by omega, by omega⟩ | decide | (simp only [List.length_drop, List.length_take, List.length_append, List.length_set, List.length_cons, List.length_nil, OrOk] at *; omega) | (simp; omega))
          | (apply sc_true) | (apply sc_false)
          | (first | apply sc_lt | apply sc_nlt | apply sc_eq | apply sc_neq | apply sc_nil | apply sc_nnil | apply sc_seq | apply sc_nseq); all_goals (intro hb; try (first | (exfalso; omega) | exact absurd rfl hb | exact absurd hb (by decide) | exact absurd hb (by assumption) | exact absurd (by assumption) hb | (exfalso; simp only [List.length_cons, List.length_nil, List.length_append] at hb; omega)))
          | (apply sc_not) | (apply sc_or) | (apply sc_i; all_goals intro hb)
          | (first | apply ix_nat | apply ix_int); first | omega | (simp only [List.length_drop, List.length_take, List.length_append, List.length_set, List.length_cons, List.length_nil] at *; omega)
          | (apply bx_i; intro hbd)
          | (first | apply sd_nat | apply sd_int | apply sl_nat | apply sl_int); first | omega | (simp only [List.length_drop, List.length_take, List.length_append, List.length_set, List.length_cons, List.length_nil] at *; omega)
          | (apply cx_is; first | exact e1 (by omega) | exact e2 (by omega) | exact e3 | exact e4 | exact e5 _ _) | (apply cx_do (i := 0) rfl; first | exact e1 (by omega) | exact e2 (by omega) | exact e3 | exact e4 | exact e5 _ _)
          | (apply ab_i; intro bl) | (apply as_i; intro va vk vc) | (apply av_i; intro v) | (apply ac_i; intro bl cap hcap)
          | (apply bo_l) | (apply ch_r; apply sp_i; intro i hi; exact ⟨rfl, rfl, rfl⟩) | (apply nx_i; all_goals intro hnx)
          | (apply Ia.hit; assumption) | (apply Ia.miss; assumption)
          | (apply rt_is; exact rfl) | (apply rt_do; exact rfl; (repeat (first | exact List.nil_sublist _ | apply List.Sublist.cons_cons))) | (apply iv; assumption)
          | (apply dw_q mixed hC hGL (by kernel_rfl))
          | (apply cq; assumption; (first | exact e1 (by omega) | exact e2 (by omega) | exact e3 | exact e4 | exact e5 _ _); exact rfl))
      all_goals (try conv => whnf)
      apply rt_is
      rw [seqB_t.2 rfl]
    · rw [prefA, prefE, if_neg h1, if_neg h1, if_neg h2] at e3
      repeat' (first
        | (conv => whnf); first
          | (apply ch_l; apply sp_i; first | exact rfl | omega | exact ⟨rfl, rfl, by omega⟩ | exact ⟨rfl, by omega⟩ | exact ⟨rfl, by omega, by omega, by omega⟩ | decide | (simp only [List.length_drop, List.length_take, List.length_append, List.length_set, List.length_cons, List.length_nil, OrOk] at *; omega) | (simp; omega))
          | (apply sp_i; first | exact rfl | omega | exact ⟨rfl, rfl, by omega⟩ | exact ⟨rfl, by omega⟩ | exact ⟨rfl, by omega, by omega, by omega⟩ | decide | (simp only [List.length_drop, List.length_take, List.length_append, List.length_set, List.length_cons, List.length_nil, OrOk] at *; omega) | (simp; omega))
          | (apply sc_true) | (apply sc_false)
          | (first | apply sc_lt | apply sc_nlt | apply sc_eq | apply sc_neq | apply sc_nil | apply sc_nnil | apply sc_seq | apply sc_nseq); all_goals (intro hb; try (first | (exfalso; omega) | exact absurd rfl hb | exact absurd hb (by decide) | exact absurd hb (by assumption) | exact absurd (by assumption) hb | (exfalso; simp only [List.length_cons, List.length_nil, List.length_append] at hb; omega)))
          | (apply sc_not) | (apply sc_or) | (apply sc_i; all_goals intro hb)
          | (first | apply ix_nat | apply ix_int); first | omega | (simp only [List.length_drop, List.length_take, List.length_append, List.length_set, List.length_cons, List.length_nil] at *; omega)
          | (apply bx_i; intro hbd)
          | (first | apply sd_nat | apply sd_int | apply sl_nat | apply sl_int); first | omega | (simp only [List.length_drop, List.length_take, List.length_append, List.length_set, List.length_cons, List.length_nil] at *; omega)
          | (apply cx_is; first | exact e1 (by omega) | exact e2 (by omega) | exact e3 | exact e4 | exact e5 _ _ | exact e6 (by omega) (by omega)) | (apply cx_do (i := 0) rfl; first | exact e1 (by omega) | exact e2 (by omega) | exact e3 | exact e4 | exact e5 _ _ | exact e6 (by omega) (by omega))
          | (apply ab_i; intro bl) | (apply as_i; intro va vk vc) | (apply av_i; intro v) | (apply ac_i; intro bl cap hcap)
          | (apply bo_l) | (apply ch_r; apply sp_i; intro i hi; exact ⟨rfl, rfl, rfl⟩) | (apply nx_i; all_goals intro hnx)
          | (apply Ia.hit; assumption) | (apply Ia.miss; assumption)
          | (apply rt_is; exact rfl) | (apply rt_do; exact rfl; (repeat (first | exact List.nil_sublist _ | apply List.Sublist.cons_cons))) | (apply iv; assumption)
          | (apply dw_q mixed hC hGL (by kernel_rfl))
          | (apply cq; assumption; (first | exact e1 (by omega) | exact e2 (by omega) | exact e3 | exact e4 | exact e5 _ _ | exact e6 (by omega) (by omega)); exact rfl))
      all_goals (try conv => whnf)
      apply rt_is
      rw [seqB_t.2 rfl]
end Go.Proofs.YtlmihggafbmkaaaDoor
