/- Parts of the proof of prints_root: Fol, Cpa, Bll, Cpb, Cre, Cpc, Cpd. -/
import Derived.Test.YtahebkecmlmlfaaGreatDoorBai
import Derived.Test.YtahebkecmlmlfaaGreatDoorBal
import Derived.Test.YtahebkecmlmlfaaGreatDoorBan
import Derived.Test.YtahebkecmlmlfaaGreatDoorBaj
import Derived.Test.YtahebkecmlmlfaaGreatDoorBao
import Derived.Test.YtahebkecmlmlfaaGreatDoorBam
import Derived.Test.YtahebkecmlmlfaaGreatDoorBah
set_option linter.unusedVariables false
set_option linter.unusedSimpArgs false
set_option linter.unusedSectionVars false
namespace Go.Proofs.YtahebkecmlmlfaaGreatDoor
set_option maxRecDepth 20000
set_option maxHeartbeats 4000000
section
open Go Go.RowKit
def fD (s : List UInt8) (w : Int) : Err := if ¬ (10 ≤ w ∧ w ≤ 75) then .errno 2 else if 0 ≤ badI s then .at 3 (badI s) else if 0 ≤ dt s then .at 3 (dt s) else if 1500 < s.length then .errno 4 else .none
def dz (s : List UInt8) (w : Int) : List UInt8 := if (10 ≤ w ∧ w ≤ 75) ∧ badI s < 0 ∧ dt s < 0 ∧ s.length ≤ 1500 then k9 (bh s w (w - 1)) else []
theorem nA {s : List UInt8} {w : Int} (h : (10 ≤ w ∧ w ≤ 75) ∧ badI s < 0 ∧ dt s < 0 ∧ s.length ≤ 1500) : fD s w = .none ∧ dz s w = k9 (bh s w (w - 1)) := by
 unfold fD dz
 rw [if_neg (by omega), if_neg (by omega), if_neg (by omega), if_neg (by omega), if_pos h]
 exact ⟨rfl, rfl⟩
theorem AZ {s : List UInt8} (h : badI s < 0) : badS s = none := by
 unfold badI at h
 split at h <;> first | assumption | omega
attribute [local irreducible] AWp AOps aa ax OrOk ad ae
attribute [local irreducible] aq badI badS aS cutS rngR ownB dt
theorem AG {G : Glo} (s : List UInt8) (w : Int) (hl : s.length ≤ 1600) : FnIs Tryz.prog G 39 [.str s, .int .i64 w] (.tuple [.str (dz s w), (fD s w).A]) := by
 have hI := sF (G := G) (a := 13) (b := 10) (by decide) (by decide) s (by omega)
 rw [show Lib.indexAny s [13, 10] = dt s by unfold dt; rfl] at hI
 by_cases h : (10 ≤ w ∧ w ≤ 75) ∧ badI s < 0 ∧ dt s < 0 ∧ s.length ≤ 1500
 ·rw [EN h.2.2.1] at hI
  rw [(nA h).1, (nA h).2]
  exact AE s w h.1 (by omega) (AZ h.2.1) hI
 ·have hB := nr (G := G) s (by omega)
  have eS : dz s w = [] := by unfold dz; rw [if_neg h]
  rw [eS]
  have hGL : ad G [] := ab
  refine fn_x Tryz.func39 Tryz.call39 rfl rfl rfl rfl hGL ?_
  intro C hC
  repeat' (first | (conv => whnf); first | refine .w ?_ | refine .v ?_ | refine sc_c ?_ ?_ <;> (intro hb; try exact dd hb) | apply an | apply az | (apply sc_i <;> intro hb) | (apply bx_i; intro hbd) | (apply ar; first | exact hB | exact hI) | (apply ap (i := 0) rfl; first | exact hB | exact hI) | (apply ab_i; intro bl) | (apply as_i; intro va vk vc hva) | (apply av_i; intro v) | (apply ac_i; intro bl cap hcap) | apply bo_l | (apply nx_i <;> intro hnx) | exact rt_w | apply dw_q mixed hC hGL (by kernel_rfl) | (apply cq; assumption; (first | exact hB | exact hI); exact rfl))
  all_goals try conv => whnf
  all_goals (
   apply aj
   unfold fD
   first
    | (rw [if_pos (by omega)]; rfl)
    | (rw [if_neg (by omega), if_pos (by omega)]; rfl)
    | (rw [if_neg (by omega), if_neg (by omega), if_pos (by omega)]; rfl)
    | (rw [if_neg (by omega), if_neg (by omega), if_neg (by omega), if_pos (by omega)]; rfl))
theorem kc : ∀ (ps : List (List UInt8)), ps ≠ [] → k9 ps = Lib.join ps [13, 10, 32] ++ [13, 10]
 | [], h => absurd rfl h
 | [p], _ => by rw [Lib.join_one]; rfl
 | p :: q :: r, _ => by
  have e : Lib.joinTail [13, 10, 32] (q :: r) = [13, 10, 32] ++ Lib.join (q :: r) [13, 10, 32] := by
   rw [Lib.join_cons]
   simp [Lib.joinTail]
  rw [pi p (by simp), kc (q :: r) (by simp), Lib.join_cons p, e]
  simp
theorem oG : ∀ (k : Nat) (s : List UInt8) (r q : Int), s.length ≤ k → 4 ≤ r → 4 ≤ q → (bh s r q).length ≤ s.length + 1 ∧ (Lib.join (bh s r q) [13, 10, 32]).length ≤ 4 * s.length := by
 intro k
 induction k with
 | zero =>
  intro s r q h _ _
  rw [fq (by rw [List.length_drop]; omega), Lib.join_one]
  simp only [List.length_cons, List.length_nil, List.length_take]
  omega
 | succ k ih =>
  intro s r q h hr hq
  by_cases h0 : (s.drop (cutS s 0 r)).length = 0
  ·rw [fq h0, Lib.join_one]
   simp only [List.length_cons, List.length_nil, List.length_take]
   omega
  ·have hs0 : s.length ≠ 0 := by rw [List.length_drop] at h0; omega
   have h1 := py s r hs0 hr
   have h2 := (lk s 0 r).2.1
   rw [List.length_drop] at h0
   have h3 := ih (s.drop (cutS s 0 r)) q q (by rw [List.length_drop]; omega) hq hq
   rw [iB (by rw [List.length_drop]; omega) (by omega)]
   have hne := ma (s.drop (cutS s 0 r)) q q
   have e : (Lib.join (s.take (cutS s 0 r) :: bh (s.drop (cutS s 0 r)) q q) [13, 10, 32]).length = (s.take (cutS s 0 r)).length + 3 + (Lib.join (bh (s.drop (cutS s 0 r)) q q) [13, 10, 32]).length := by
    cases hp : bh (s.drop (cutS s 0 r)) q q with
    | nil => exact absurd hp hne
    | cons a t =>
     rw [Lib.join_length, Lib.join_length]
     simp [Lib.lens]
     omega
   rw [e]
   simp only [List.length_cons, List.length_drop, List.length_take] at *
   omega
def kI (s : List UInt8) (w : Int) (n : Nat) : List (List UInt8) := if n = 0 then bh s w (w - 1) else if s.length = 0 then [] else bh s (w - 1) (w - 1)
theorem oq {s : List UInt8} {w : Int} {n : Nat} {r : Int} (hw : 10 ≤ w) (h : n = 0 ∨ s.length ≠ 0) (hr : r = if n = 0 then w else w - 1) :
  kI s w n = s.take (cutS s 0 r) :: kI (s.drop (cutS s 0 r)) w (n + 1) ∧ (s.length ≠ 0 → 1 ≤ cutS s 0 r) := by
 have hpos : s.length ≠ 0 → 1 ≤ cutS s 0 r := fun h0 => py s r h0 (by rw [hr]; split <;> omega)
 refine ⟨?_, hpos⟩
 have e : kI s w n = bh s r (w - 1) := by
  unfold kI
  by_cases hn : n = 0
  ·rw [if_pos hn, hr, if_pos hn]
  ·rw [if_neg hn, if_neg (by omega), hr, if_neg hn]
 rw [e]
 by_cases h0 : (s.drop (cutS s 0 r)).length = 0
 ·rw [fq h0]
  unfold kI
  rw [if_neg (by omega), if_pos h0]
 ·have : s.length ≠ 0 := by rw [List.length_drop] at h0; omega
  rw [iB h0 (by have := hpos this; omega)]
  unfold kI
  rw [if_neg (by omega), if_neg h0]
theorem B2 {G : Glo} (hU : ad G utfTy) (s : List UInt8) (w : Int) (hl : s.length ≤ 1600) : FnIs Tryz.prog G 38 [.str s, .int .i64 w] (.tuple [.str (dz s w), .agg [.int .i64 (fD s w).e, .int .i64 (fD s w).p]]) := by
 have hB := sk (G := G) hU s (by omega)
 have hW := cr (G := G) w 10 75
 have hb2 := dj (G := G)
 have hgd := di (G := G)
 have hGL : ad G [] := ab
 refine fn_x Tryz.func38 Tryz.call38 rfl rfl rfl rfl hGL ?_
 intro C hC
 by_cases hw : 10 ≤ w ∧ w ≤ 75
 ·rw [show (decide (10 ≤ w) && decide (w ≤ 75)) = true by simp [hw]] at hW
  repeat' (first | (conv => whnf); first | refine .w ?_ | refine .v ?_ | refine sc_c ?_ ?_ <;> (intro hb; try exact dd hb) | apply an | apply az | (apply sc_i <;> intro hb) | (apply bx_i; intro hbd) | (apply ar; first | exact hB | exact hW | exact hb2 _ | exact hgd) | (apply ap (i := 0) rfl; first | exact hB | exact hW | exact hb2 _ | exact hgd) | (apply ab_i; intro bl) | (apply as_i; intro va vk vc hva) | (apply av_i; intro v) | (apply ac_i; intro bl cap hcap) | apply bo_l | (apply nx_i <;> intro hnx) | exact rt_w | apply dw_q mixed hC hGL (by kernel_rfl) | (apply cq; assumption; (first | exact hB | exact hW | exact hb2 _ | exact hgd); exact rfl))
  all_goals try conv => whnf
  ·apply aj
   have h : ¬ ((10 ≤ w ∧ w ≤ 75) ∧ badI s < 0 ∧ dt s < 0 ∧ s.length ≤ 1500) := by omega
   unfold dz fD
   rw [if_neg h, if_neg (by omega), if_pos (by omega)]
   rfl
  rename_i bl0
  refine lp hC hGL (fun (i : Nat) => [(0, .str s), (1, .int .i64 w), (5, .own 0 (.pointer (some ⟨bl0, 0, none⟩))), (23, .own 1 (.slice (some ⟨bl, 0, none⟩) s.length cap)), (24, .int .i64 s.length), (25, .int .i64 i)]) (fun _ => [.cells bl0 (some 45) [.int .i64 0, .int .i64 0], .buf bl s cap]) (fun i => i ≤ s.length ∧ Lib.NoAny s [13, 10] i) (fun i => s.length - i) 0 ?_ ai rfl ?_
  ·exact ⟨Nat.zero_le _, Lib.NoAny.zero _ _⟩
  rintro i ⟨hi, hno⟩
  repeat' (first | (conv => whnf); first | refine .w ?_ | refine .v ?_ | refine sc_c ?_ ?_ <;> (intro hb; try exact dd hb) | apply an | apply az | (apply sc_i <;> intro hb) | (apply bx_i; intro hbd) | (apply ar; first | exact hb2 _ | exact hgd) | (apply ap (i := 0) rfl; first | exact hb2 _ | exact hgd) | (apply ab_i; intro bl) | (apply as_i; intro va vk vc hva) | (apply av_i; intro v) | (apply ac_i; intro bl cap hcap) | apply bo_l | (apply nx_i <;> intro hnx) | exact rt_w | apply dw_q mixed hC hGL (by kernel_rfl) | (apply cq; assumption; (first | exact hb2 _ | exact hgd); exact rfl))
  all_goals try conv => whnf
  iterate 2
   ·apply aj
    have hc := EO hno (by omega) (by omega)
    have h : ¬ ((10 ≤ w ∧ w ≤ 75) ∧ badI s < 0 ∧ dt s < 0 ∧ s.length ≤ 1500) := by omega
    unfold dz fD
    rw [if_neg h, if_neg (by omega), if_neg (by omega), if_pos (by omega), hc]
    rfl
  ·refine nxt (i + 1) ?_ ?_ ai rfl
   ·exact ⟨by omega, wY hno (by omega) (by omega)⟩
   ·omega
  ·apply aj
   have hc := vE (by rw [show s.length = i by omega]; exact hno)
   have h : ¬ ((10 ≤ w ∧ w ≤ 75) ∧ badI s < 0 ∧ dt s < 0 ∧ s.length ≤ 1500) := by omega
   unfold dz fD
   rw [if_neg h, if_neg (by omega), if_neg (by omega), if_neg (by omega), if_pos (by omega)]
   rfl
  have hc := vE (by rw [show s.length = i by omega]; exact hno)
  rw [(nA ⟨hw, by omega, by omega, by omega⟩).1, (nA ⟨hw, by omega, by omega, by omega⟩).2]
  have hpl := oG s.length s w (w - 1) (Nat.le_refl _) (by omega) (by omega)
  refine oR 9 1 rfl ?_
  refine lp hC hGL (fun (x : List UInt8 × List (List UInt8) × Value) => [(0, .str x.1), (1, .int .i64 w), (5, .own 0 (.pointer (some ⟨bl0, 0, none⟩))), (9, .own 2 x.2.2)]) (fun x => [.cells bl0 (some 45) [.int .i64 0, .int .i64 0], .buf bl s cap, .row x.2.2 none 1 x.2.1.length (aN x.2.1)]) (fun x => x.2.1 ++ kI x.1 w x.2.1.length = bh s w (w - 1) ∧ x.1.length ≤ s.length) (fun x => x.1.length + (if x.2.1.length = 0 then 1 else 0)) (s, [], .slice none 0 0) ?_ ai rfl ?_
  ·exact ⟨by unfold kI; rfl, Nat.le_refl _⟩
  rintro ⟨t, ps, v⟩ ⟨he, htl⟩
  dsimp only at he htl ⊢
  have hps : ps.length ≤ s.length + 1 := by have := congrArg List.length he; rw [List.length_append] at this; omega
  have hK := fun n => Ee (G := G) hU t n (by omega)
  have hc1 := (lk t 0 w).2.1
  have hc2 := (lk t 0 (w - 1)).2.1
  repeat' (first | (conv => whnf); first | refine .w ?_ | refine .v ?_ | refine sc_c ?_ ?_ <;> (intro hb; try exact dd hb) | apply an | apply az | (apply sc_i <;> intro hb) | (apply bx_i; intro hbd) | (apply ar; first | exact hb2 _ | exact hgd | exact hK _) | (apply ap (i := 0) rfl; first | exact hb2 _ | exact hgd | exact hK _) | (apply ab_i; intro bl) | (apply as_i; intro va vk vc hva) | (apply av_i; intro v) | (apply ac_i; intro bl cap hcap) | apply bo_l | (apply nx_i <;> intro hnx) | exact rt_w | apply dw_q mixed hC hGL (by kernel_rfl) | (apply cq; assumption; (first | exact hb2 _ | exact hgd | exact hK _); exact rfl))
  all_goals try conv => whnf
  ·obtain ⟨q1, q2⟩ := oq (s := t) (w := w) (n := ps.length) (r := w) hw.1 (.inl (by omega)) (by rw [if_pos (by omega)])
   refine nxt (t.drop (cutS t 0 w), ps ++ [t.take (cutS t 0 w)], .slice va vk vc) ⟨?_, ?_⟩ ?_ ⟨rfl, rfl, rfl, rfl, trivial⟩ ?_
   ·dsimp only
    rw [List.length_append, List.append_assoc]
    rw [q1] at he
    exact he
   ·simp only [List.length_drop]; omega
   ·simp only [List.length_drop, List.length_append, List.length_cons, List.length_nil]
    rw [if_neg (by omega), if_pos (by omega)]
    omega
   ·dsimp only
    rw [← bS, List.length_append]
    rfl
  ·obtain ⟨q1, q2⟩ := oq (s := t) (w := w) (n := ps.length) (r := w - 1) hw.1 (.inr (by omega)) (by rw [if_neg (by omega)])
   have q2 := q2 (by omega)
   refine nxt (t.drop (cutS t 0 (w - 1)), ps ++ [t.take (cutS t 0 (w - 1))], .slice va vk vc) ⟨?_, ?_⟩ ?_ ⟨rfl, rfl, rfl, rfl, trivial⟩ ?_
   ·dsimp only
    rw [List.length_append, List.append_assoc]
    rw [q1] at he
    exact he
   ·simp only [List.length_drop]; omega
   ·simp only [List.length_drop, List.length_append, List.length_cons, List.length_nil]
    rw [if_neg (by omega), if_neg (by omega)]
    omega
   ·dsimp only
    rw [← bS, List.length_append]
    rfl
  ·have e : ps = bh s w (w - 1) := by
    unfold kI at he
    rw [if_neg (by omega), if_pos (by omega), List.append_nil] at he
    exact he
   apply ap (i := 2) rfl (bP ps [13, 10, 32] v (by omega) (by rw [e]; omega))
   have hjl : (Lib.join ps [13, 10, 32]).length ≤ 6400 := by rw [e]; omega
   repeat' (first | (conv => whnf); first | refine .w ?_ | refine .v ?_ | refine sc_c ?_ ?_ <;> (intro hb; try exact dd hb) | apply an | apply az | (apply sc_i <;> intro hb) | (apply bx_i; intro hbd) | (apply ar; first | exact hgd) | (apply ap (i := 0) rfl; first | exact hgd) | (apply ab_i; intro bl) | (apply as_i; intro va vk vc hva) | (apply av_i; intro v) | (apply ac_i; intro bl cap hcap) | apply bo_l | (apply nx_i <;> intro hnx) | exact rt_w | apply dw_q mixed hC hGL (by kernel_rfl) | (apply cq; assumption; (first | exact hgd); exact rfl))
   all_goals try conv => whnf
   apply aj
   rw [kc _ (ma _ _ _), e]
   rfl
 ·rw [show (decide (10 ≤ w) && decide (w ≤ 75)) = false by simp; omega] at hW
  repeat' (first | (conv => whnf); first | refine .w ?_ | refine .v ?_ | refine sc_c ?_ ?_ <;> (intro hb; try exact dd hb) | apply an | apply az | (apply sc_i <;> intro hb) | (apply bx_i; intro hbd) | (apply ar; first | exact hW | exact hb2 _) | (apply ap (i := 0) rfl; first | exact hW | exact hb2 _) | (apply ab_i; intro bl) | (apply as_i; intro va vk vc hva) | (apply av_i; intro v) | (apply ac_i; intro bl cap hcap) | apply bo_l | (apply nx_i <;> intro hnx) | exact rt_w | apply dw_q mixed hC hGL (by kernel_rfl) | (apply cq; assumption; (first | exact hW | exact hb2 _); exact rfl))
  all_goals try conv => whnf
  apply aj
  have h : ¬ ((10 ≤ w ∧ w ≤ 75) ∧ badI s < 0 ∧ dt s < 0 ∧ s.length ≤ 1500) := by omega
  unfold dz fD
  rw [if_neg h, if_pos (by omega)]
  rfl
end
section
open Go Go.RowKit
theorem ph (s : List UInt8) (w : Int) (hs : s.length ≤ 1500) : (dz s w).length ≤ 6002 := by
 unfold dz
 split
 ·rename_i h
  have h1 := (oG s.length s w (w - 1) (Nat.le_refl _) (by omega) (by omega)).2
  rw [kc _ (by rw [bh]; exact List.cons_ne_nil _ _), List.length_append]
  simp only [List.length_cons, List.length_nil]
  omega
 ·exact Nat.zero_le _
abbrev begS : List UInt8 := [66, 69, 71, 73, 78, 58, 86, 67, 65, 82, 68]
abbrev endS : List UInt8 := [69, 78, 68, 58, 86, 67, 65, 82, 68]
def verS (v : Int) : List UInt8 := [86, 69, 82, 83, 73, 79, 78, 58] ++ [UInt8.ofNat (48 + v.toNat)] ++ [46, 48]
def linT (v : Int) (l : List Itm) (k : Nat) : List (List UInt8) := [begS, verS v] ++ (l.take k).map (Itm.L v)
def linA (v : Int) (l : List Itm) : List (List UInt8) := linT v l l.length ++ [endS]
theorem qU {v : Int} {l : List Itm} {k : Nat} (hk : k < l.length) : linT v l (k + 1) = linT v l k ++ [(l.getD k Itm.z).L v] := by
 unfold linT
 rw [List.take_succ_eq_append_getElem hk, List.map_append, List.append_assoc, List.getD_eq_getElem?_getD, List.getElem?_eq_getElem hk]
 rfl
theorem kV {v : Int} {l : List Itm} {k : Nat} (hk : k ≤ l.length) : (linT v l k).length = k + 2 := by
 unfold linT
 rw [List.length_append, List.length_map, List.length_take, Nat.min_eq_left hk]
 simp only [List.length_cons, List.length_nil]
 omega
def folT (w : Int) (L : List (List UInt8)) (k : Nat) : List UInt8 := (L.take k).flatMap fun s => dz s w
theorem mq {w : Int} {L : List (List UInt8)} {k : Nat} (hk : k < L.length) : folT w L (k + 1) = folT w L k ++ dz (L.getD k []) w := by
 unfold folT
 rw [List.take_succ_eq_append_getElem hk, List.flatMap_append, List.flatMap_singleton, List.getD_eq_getElem?_getD, List.getElem?_eq_getElem hk]
 rfl
theorem pj {w : Int} {L : List (List UInt8)} (h : ∀ k, k < L.length → (L.getD k []).length ≤ 1500) : ∀ k, k ≤ L.length → (folT w L k).length ≤ k * 6002
 | 0, _ => Nat.zero_le _
 | k + 1, hk => by
  have ih := pj (w := w) h k (by omega)
  have := ph (L.getD k []) w (h k (by omega))
  rw [mq (by omega), List.length_append, Nat.succ_mul]
  omega
def Crd.T0 (c : Crd) (w : Int) : List UInt8 := folT w (linA c.v c.l) (linA c.v c.l).length
def Crd.pE (c : Crd) (w : Int) : Err := if 10 ≤ w ∧ w ≤ 75 then match c.E with
  | .none => if 20000 < (c.T0 w).length then .errno 4 else .none
  | e => e
 else .errno 2
def Crd.pT (c : Crd) (w : Int) : List UInt8 := match c.pE w with
 | .none => c.T0 w
 | _ => []
theorem vi {f : Nat → Int} : ∀ {n : Nat}, fstE f n = .none → ∀ j, j < n → f j = 0
 | 0, _, j, h => absurd h (Nat.not_lt_zero _)
 | n + 1, h, j, hj => by
  rw [fstE] at h
  split at h
  ·rename_i h0
   split at h
   ·rename_i h1
    rcases Nat.lt_or_eq_of_le (Nat.le_of_lt_succ hj) with g | rfl
    ·exact vi h0 j g
    ·exact h1
   ·cases h
  ·rename_i h0
   exact absurd h h0
theorem xX {c : Crd} (h : c.E = .none) : (c.v = 3 ∨ c.v = 4) ∧ c.l.length ≤ 60 ∧ ∀ k, k < c.l.length → (c.l.getD k Itm.z).w c.v = 0 := by
 unfold Crd.E at h
 split at h
 ·rename_i hv
  refine ⟨hv, ?_⟩
  split at h
  ·cases h
  ·rename_i h6
   refine ⟨by omega, ?_⟩
   split at h
   ·rename_i h0
    exact fun k hk => vi h0 k hk
   ·rename_i h0
    exact absurd h h0
 ·cases h
theorem DQ {v : Int} {x : Itm} (h : x.w v = 0) : (x.L v).length ≤ 1500 := by
 have h0 := w_ok h
 have h1 := w_E h
 unfold Itm.w at h
 rw [h0] at h
 dsimp only at h
 split at h
 ·cases h
 split at h
 ·rename_i k; exact absurd h k
 split at h
 ·cases h
 rw [h1] at h
 dsimp only at h
 unfold Itm.r at h
 split at h
 ·cases h
 split at h
 ·cases h
 ·omega
theorem qT {c : Crd} (h : c.E = .none) : ∀ k, k < (linA c.v c.l).length → ((linA c.v c.l).getD k []).length ≤ 1500 := by
 obtain ⟨hv, _, hw⟩ := xX h
 intro k hk
 have hm : (linA c.v c.l).getD k [] ∈ linA c.v c.l := by
  rw [List.getD_eq_getElem?_getD, List.getElem?_eq_getElem hk]
  exact List.getElem_mem hk
 generalize (linA c.v c.l).getD k [] = s at *
 unfold linA linT at hm
 simp only [List.mem_append, List.mem_cons, List.not_mem_nil, or_false, List.mem_map, List.take_length] at hm
 rcases hm with ((rfl | rfl) | ⟨x, hx, rfl⟩) | rfl
 ·decide
 ·unfold verS; simp
 ·obtain ⟨i, hi, rfl⟩ := List.getElem_of_mem hx
  have := hw i hi
  rw [List.getD_eq_getElem?_getD, List.getElem?_eq_getElem hi] at this
  exact DQ this
 ·decide
theorem yW {c : Crd} {w : Int} (h : c.pE w = .none) : c.pT w = c.T0 w := by unfold Crd.pT; rw [h]
theorem mb {c : Crd} {w : Int} (h : c.pE w ≠ .none) : c.pT w = [] := by
 unfold Crd.pT
 split
 ·rename_i k; exact absurd k h
 ·rfl
theorem wW (c : Crd) (w : Int) : (c.pT w).length ≤ 20000 := by
 unfold Crd.pT
 split
 ·rename_i h
  unfold Crd.pE at h
  split at h
  ·split at h
   ·split at h
    ·cases h
    ·omega
   ·rename_i k; exact absurd h k
  ·cases h
 ·exact Nat.zero_le _
end
section
open Go Go.RowKit
theorem oe {α : Type} : ∀ {l : List α} {i : Nat} {x : α}, l[i]? = some x → l.set i x = l
 | [], _, _, h => by cases h
 | y :: l, 0, x, h => by
  simp only [List.getElem?_cons_zero, Option.some.injEq] at h
  rw [h, List.set_cons_zero]
 | y :: l, i + 1, x, h => by
  rw [List.set_cons_succ, oe (by simpa using h)]
theorem Db {P : Program} [Tab P] {G : Glo} {f : FuncId} {avs : List AVal} {H : Heap} {K Kp : AVal → Heap → Prop} {i j b : Nat} {p v : Value} {s : List UInt8} {r : AVal} (hi : H[i]? = some (bldC b p j v)) (hj : H[j]? = some (bldR v s)) (hne : i ≠ j)
  (hs : ae P G f avs [bldC b p 1 v, bldR v s] (fun x H => x = .ret r ∧ H = [bldC b p 1 v, bldR v s]))
  (k : bU H (K r)) : Cx P G f avs H K Kp := by
 obtain ⟨rest, hp, hp2⟩ := nV hne hi hj
 have h1 : ae P G f avs [bldC b p j v, bldR v s] (fun x H => x = .ret r ∧ H = [bldC b p j v, bldR v s]) := by
  refine sP hs ?_
  rintro x H' ⟨rfl, rfl⟩
  exact ⟨_, ⟨rfl, rfl⟩, fun C R w h => sv j h⟩
 have e : (H.set i (bldC b p j v)).set j (bldR v s) = H := by
  rw [oe hi, oe hj]
 have hp3 := hp2 (bldC b p j v) (bldR v s)
 rw [e] at hp3
 refine ⟨fun x H' => x = .ret r ∧ H' = H, dP (dO (H1 := [bldC b p j v, bldR v s] ++ rest) hp.symm (fa rest h1)) ?_, ?_, ?_⟩
 ·rintro x H' ⟨H1', ⟨rfl, rfl⟩, rfl⟩
  exact ⟨_, hp3.symm, rfl, rfl⟩
 ·rintro v' H' ⟨q, q2⟩
  cases q
  subst q2
  rw [aO] at k
  exact k
 ·rintro v' H' ⟨q, _⟩
  cases q
attribute [local irreducible] AWp AOps aa ax OrOk ad ae
theorem mW {G : Glo} {b : Nat} {p : Value} (va : Option Addr) (vk vc : Nat) (s : List UInt8) : ae Tryz.prog G 41 [.raw (ptrA b)] [bldC b p 1 (.slice va vk vc), bldR (.slice va vk vc) s] (fun r H => r = .ret (.int .i64 (s.length : Nat)) ∧ H = [bldC b p 1 (.slice va vk vc), bldR (.slice va vk vc) s]) := by
 have hGL : ad G [] := ab
 refine Gl [(0, 0, ptrA b)] Tryz.func41 Tryz.call41 rfl rfl rfl rfl (by repeat (first | exact trivial | refine And.intro ⟨rfl, rfl⟩ ?_)) ?_
 intro C hC
 refine bw hC hGL ?_
 exact xw0
end
section
open Go Go.RowKit
abbrev rwS (va : Option Addr) (vk vc : Nat) (L : List (List UInt8)) : HEnt := .row (.slice va vk vc) none 1 L.length (aN L)
theorem tI {L : List (List UInt8)} {k : Nat} (h : k < L.length) : (aN L)[k]? = some (.str (L.getD k [])) := by
 unfold aN
 rw [List.getElem?_map, List.getElem?_eq_getElem h, List.getD_eq_getElem?_getD, List.getElem?_eq_getElem h]
 rfl
theorem gx (L : List (List UInt8)) (s : List UInt8) : aN L ++ cg 1 (bH [(0, .str s)]) = aN (L ++ [s]) := bS L s
theorem s5 {c : Crd} {w : Int} (hw : 10 ≤ w ∧ w ≤ 75) (h : c.E ≠ .none) : c.pE w = c.E := by
 unfold Crd.pE
 rw [if_pos hw]
 split
 ·rename_i k; exact absurd k h
 ·rfl
theorem De {c : Crd} {w : Int} (hw : 10 ≤ w ∧ w ≤ 75) (h : c.E = .none) : c.pE w = if 20000 < (c.T0 w).length then .errno 4 else .none := by
 unfold Crd.pE
 rw [if_pos hw, h]
theorem s6 {c : Crd} {w : Int} (hw : ¬ (10 ≤ w ∧ w ≤ 75)) : c.pE w = .errno 2 := by unfold Crd.pE; rw [if_neg hw]
theorem zw {v : Int} (hv : v = 3 ∨ v = 4) : [86, 69, 82, 83, 73, 79, 78, 58] ++ Lib.decDigits v.toNat ++ [46, 48] = verS v := by
 rcases hv with rfl | rfl <;> decide +kernel
attribute [local irreducible] AWp AOps aa ax OrOk ad ae
attribute [local irreducible] Crd.E Itm.w Itm.L aN linT linA folT dz fD verS
theorem pG {G : Glo} {m : Int} (hE : ad G errTy) (hE2 : ij G) (hP : co G) (hM : ad G (bI m)) (hS : SpIs G) (c : Crd) (w : Int) (hf : c.fine) : FnIs Tryz.prog G 14 [c.A, .int .i64 w] (.tuple [.str (c.pT w), (c.pE w).A]) := by
 by_cases hw : 10 ≤ w ∧ w ≤ 75
 ·have hR := pF hE hE2 hP hM hS c hf.ok
  by_cases he : c.E = .none
  ·obtain ⟨hv, h60, hk0⟩ := xX he
   have hsh := qT he
   have hfl := pj (w := w) hsh
   have hpe := De hw he
   have hpt := fun h => yW (c := c) (w := w) h
   have hpt2 := fun h => mb (c := c) (w := w) h
   have hI := strconv_Itoa (G := G) hP c.v.toNat (by omega)
   have hdv := zw hv
   have hdl : (Lib.decDigits c.v.toNat).length ≤ 5 := by rcases hv with e | e <;> rw [e] <;> decide +kernel
   rw [show ((c.v.toNat : Nat) : Int) = c.v by omega] at hI
   rw [he] at hR
   unfold Crd.T0 at hpe hpt
   obtain ⟨v, l⟩ := c
   obtain ⟨h70, ho⟩ := hf
   dsimp only at *
   simp only [Err.A] at hR
   generalize Lib.decDigits v.toNat = dv at *
   have hpr := fun k (hk : k < l.length) => mz (G := G) hE hM v (l.getD k Itm.z) (eX ho hk)
   have hLP := fun k (hk : k < l.length) => j7 (G := G) (l.getD k Itm.z).ln (eqB v 4) (Itm.fit (eX ho hk))
   have hwE := fun k (hk : k < l.length) => w_E (hk0 k hk)
   have hwl := fun k (hk : k < l.length) => Bb (hk0 k hk)
   have q1 := Tryz.call24
   have q3 := Tryz.call23
   have hca := iO (G := G) v
   generalize Crd.pE ⟨v, l⟩ w = pe at *
   generalize Crd.pT ⟨v, l⟩ w = pt at *
   generalize Crd.E ⟨v, l⟩ = ce at *
   unfold Crd.A at *
   dsimp only at *
   have hlA : (linA v l).length ≤ 63 := by unfold linA; rw [List.length_append, kV (Nat.le_refl _)]; simp only [List.length_cons, List.length_nil]; omega
   have hA0 : linT v l 0 = [begS, verS v] := by unfold linT; simp
   have hAl := fun k (hk : k ≤ l.length) => kV (v := v) hk
   have hAs := fun k (hk : k < l.length) => qU (v := v) hk
   have hAA : linT v l l.length ++ [endS] = linA v l := by unfold linA; rfl
   have hGL : ad G [] := ab
   refine fn_a Tryz.func14 Tryz.call14 rfl rfl rfl rfl ?_
   intro C hC
   refine cut hC hGL [(1, .int .i64 w), (2, .rop [.int .i64 v, .list 15 l.length (itsF l)] 0)] [] True ?_ fun _ => ?_
   ·exact xw0
   refine cut hC hGL [(1, .int .i64 w), (2, .rop [.int .i64 v, .list 15 l.length (itsF l)] 0)] [] True ?_ fun _ => ?_
   ·obtain ⟨w1, w2⟩ := hw
    exact xw0
   refine cut hC hGL [(1, .int .i64 w), (2, .rop [.int .i64 v, .list 15 l.length (itsF l)] 0)] [] True ?_ fun _ => ?_
   ·exact xw0
   refine cuty hC hGL (fun z : Option Addr × Nat × Nat => [(1, .int .i64 w), (2, .rop [.int .i64 v, .list 15 l.length (itsF l)] 0), (7, .own 0 (.slice z.1 z.2.1 z.2.2))]) (fun z => [rwS z.1 z.2.1 z.2.2 (linT v l 0)]) (fun _ => True) ?_ ?_
   ·rw [hA0]
    refine xb1 ?_
    intro va vk vc
    intros
    rw [hdv]
    have e7 : aN [begS, verS v] = [.str begS, .str (verS v)] := by unfold aN; rfl
    refine cy (va, vk, vc) trivial ai ?_
    show _ = [HEnt.row (.slice va vk vc) none 1 2 (aN [begS, verS v])]
    rw [e7]
    rfl
   rintro ⟨va0, vk0, vc0⟩ _
   dsimp only
   refine bw hC hGL ?_
   refine xw1 ?_
   intros
   refine lp hC hGL (fun x : Nat × Option Addr × Nat × Nat => [(1, .int .i64 w), (2, .rop [.int .i64 v, .list 15 l.length (itsF l)] 0), (7, .own 0 (.slice x.2.1 x.2.2.1 x.2.2.2)), (38, .list 15 l.length (itsF l)), (39, .int .i64 (l.length : Nat)), (40, .int .i64 (x.1 : Nat))]) (fun x => [rwS x.2.1 x.2.2.1 x.2.2.2 (linT v l x.1)]) (fun x => x.1 ≤ l.length) (fun x => l.length - x.1) (0, va0, vk0, vc0) (Nat.zero_le _) ai rfl ?_
   rintro ⟨k, va, vk, vc⟩ k1
   dsimp only at k1 ⊢
   have hlk := hAl k k1
   by_cases hk : k < l.length
   ·have h1 := hpr k hk
    have h2 := hLP k hk
    have h3 := hwE k hk
    have h4 := hwl k hk
    have h5 := hAs k hk
    rw [h3] at h1
    rw [h4] at h2
    have e6 : Ln.T (eqB v 4) (l.getD k Itm.z).ln = (l.getD k Itm.z).L v := by unfold Itm.L; rfl
    rw [e6] at h2
    simp only [Err.A] at h1 h2
    unfold itR at h1
    refine xn1 ?_
    intros
    refine eb (dT (aX (i := 2) (k := 10) rfl rfl) (aX (i := 1) (k := 9) rfl rfl)) ?_
    refine dw_p mixed hC hGL false (fun _ : Unit => [(1, .int .i64 w), (2, .rop [.int .i64 v, .list 15 l.length (itsF l)] 0), (7, .own 0 (.slice va vk vc)), (12, .str ((l.getD k Itm.z).L v)), (38, .list 15 l.length (itsF l)), (39, .int .i64 (l.length : Nat)), (40, .int .i64 (k : Nat))]) (fun _ => [rwS va vk vc (linT v l k), bE, bE]) (.take 0 (.take 1 (.take 2 (.br 3 (.br 4 (.take 5 (.take 6 (.take 7 (.take 8 (.take 9 (.done)))))) (.nil)) (.nil))))) (by kernel_rfl) ?_ ?_
    ·refine xn ?_
     repeat' (first | exact Le.n | refine Lc.mk ?_ ?_)
     all_goals intros
     all_goals exact ⟨(), ai, rfl⟩
    intro _
    have e2 : (linT v l k).length + 1 = (linT v l (k + 1)).length := by rw [h5, List.length_append]; rfl
    generalize (l.getD k Itm.z).L v = tx at *
    refine xw1 ?_
    intro va2 vk2 vc2 hva2
    intros
    refine nxs (k + 1, va2, vk2, vc2) hk (by dsimp only; omega) ai ?_
    dsimp only
    rw [e2, gx, ← h5]
    exact aR
   ·obtain rfl : k = l.length := by omega
    refine xw1 ?_
    intro bl va2 vk2 vc2 hva2
    intros
    have e2 : (linT v l l.length).length + 1 = (linA v l).length := by rw [← hAA, List.length_append]; rfl
    have e3 : aN (linT v l l.length) ++ cg 1 (bH [(0, .str endS)]) = aN (linA v l) := by rw [gx, hAA]
    have hgt := fun k (hk : k < (linA v l).length) => tI hk
    refine xg 1 rfl ?_
    rw [e3]
    refine lp hC hGL (fun x : Nat × Value × Value => [(1, .int .i64 w), (14, .own 1 (ptrA bl)), (66, .own 0 (.slice va2 vk2 vc2)), (67, .int .i64 ((linA v l).length : Nat)), (68, .int .i64 (x.1 : Nat))]) (fun x => [rwS va2 vk2 vc2 (linA v l), bldC bl x.2.1 2 x.2.2, bldR x.2.2 (folT w (linA v l) x.1)]) (fun x => x.1 ≤ (linA v l).length ∧ mE bl x.2.1 ∧ ∃ ua uk uc, x.2.2 = .slice ua uk uc) (fun x => (linA v l).length - x.1) (0, .pointer none, .slice none 0 0) ⟨Nat.zero_le _, .inl rfl, none, 0, 0, rfl⟩ (by rw [← e2]; exact ai) (by show _ = [HEnt.row (.slice va2 vk2 vc2) none 1 (linA v l).length (aN (linA v l)), _, _]; rw [← e2]; unfold folT; rfl) ?_
    rintro ⟨k, p, u⟩ ⟨k1, k2, ua, uk, uc, k3⟩
    dsimp only at k1 k2 k3 ⊢
    subst k3
    have hfk := hfl k k1
    by_cases hk : k < (linA v l).length
    ·have hF := AG (G := G) ((linA v l).getD k []) w (by have := hsh k hk; omega)
     have hg := hgt k hk
     have hfs := mq (w := w) hk
     have hfb := ph ((linA v l).getD k []) w (hsh k hk)
     obtain ⟨bv, rfl, rfl⟩ := hva2 (by omega)
     generalize (linA v l).getD k [] = tx at *
     generalize dz tx w = ft at *
     generalize (fD tx w).A = fe at *
     have hrow : cm (.slice (some ⟨bv, 0, none⟩) ((linT v l l.length).length + 1) vc2) bv (linA v l).length ∧ k < (linA v l).length * 1 := ⟨by rw [← e2]; exact ⟨_, rfl⟩, by omega⟩
     refine xw1 ?_
     intros
     apply dI (i := 1) (j := 2) rfl rfl (by decide) (aU k2 (.slice ua uk uc) (folT w (linA v l) k) ft (by omega))
     intro xa xk xc
     refine xw1 ?_
     intros
     refine nxs (k + 1, ptrA bl, .slice xa xk xc) ⟨hk, .inr rfl, xa, xk, xc, rfl⟩ (by dsimp only; omega) ai ?_
     dsimp only
     rw [hfs]
     exact aR
    ·obtain rfl : k = (linA v l).length := by omega
     refine xw1 ?_
     intros
     apply Db (i := 1) (j := 2) rfl rfl (by decide) (mW ua uk uc (folT w (linA v l) (linA v l).length))
     by_cases hl2 : 20000 < (folT w (linA v l) (linA v l).length).length
     ·rw [if_pos hl2] at hpe
      subst hpe
      rw [hpt2 (fun h => by cases h)]
      simp only [Err.A, errA]
      exact xw0
     ·rw [if_neg hl2] at hpe
      subst hpe
      rw [hpt rfl]
      simp only [Err.A]
      refine xw1 ?_
      intros
      apply s3 (i := 1) (j := 2) rfl rfl (by decide) (du (folT w (linA v l) (linA v l).length) (by omega))
      exact xw0
  ·rw [s5 hw he, mb (by rw [s5 hw he]; exact he)]
   generalize c.E = ce at *
   unfold Crd.A at *
   rcases ce with _ | e | ⟨e, p⟩
   ·exact absurd rfl he
   ·simp only [Err.A, errA] at hR ⊢
    have hGL : ad G [] := ab
    refine fn_x Tryz.func14 Tryz.call14 rfl rfl rfl rfl hGL ?_
    intro C hC
    exact xw0
   ·simp only [Err.A, atA] at hR ⊢
    have hGL : ad G [] := ab
    refine fn_x Tryz.func14 Tryz.call14 rfl rfl rfl rfl hGL ?_
    intro C hC
    exact xw0
 ·rw [s6 hw, mb (by rw [s6 hw]; exact fun h => by cases h)]
  unfold Crd.A
  simp only [Err.A, errA]
  have hGL : ad G [] := ab
  refine fn_x Tryz.func14 Tryz.call14 rfl rfl rfl rfl hGL ?_
  intro C hC
  by_cases h1 : w < 10
  ·exact xw0
  ·have h2 : 75 < w := by omega
   exact xw0
end
section
open Go Go.RowKit
theorem xE {f : Nat → Int} : ∀ {n : Nat}, (fstE f n = .none) ∨ ∃ k, k < n ∧ fstE f n = .at (f k) k ∧ f k ≠ 0
 | 0 => .inl rfl
 | n + 1 => by
  rcases xE (f := f) (n := n) with h | ⟨k, h1, h2, h3⟩
  ·rw [fstE, h]
   by_cases h0 : f n = 0
   ·exact .inl (by simp only [h0, if_true])
   ·exact .inr ⟨n, by omega, by simp only [h0, if_false], h0⟩
  ·exact .inr ⟨k, by omega, by rw [fstE, h2], h3⟩
theorem Dg (c : Crd) : c.E = .none ∨ (c.E.e ≠ 0 ∧ ∀ e p, c.E = .at e p → 0 ≤ p) := by
 unfold Crd.E
 split
 ·split
  ·exact .inr ⟨by decide, fun e p h => by cases h⟩
  ·rcases xE (f := fun i => (c.l.getD i Itm.z).w c.v) (n := c.l.length) with h | ⟨k, h1, h2, h3⟩
   ·rw [h]
    dsimp only
    rcases xE (f := fx c.v c.l) (n := c.l.length) with h | ⟨k, h1, h2, h3⟩
    ·rw [h]
     dsimp only
     split
     ·exact .inl rfl
     ·exact .inr ⟨by decide, fun e p h => by cases h⟩
    ·rw [h2]
     exact .inr ⟨h3, fun e p h => by cases h; omega⟩
   ·rw [h2]
    exact .inr ⟨h3, fun e p h => by cases h; omega⟩
 ·exact .inr ⟨by decide, fun e p h => by cases h⟩
end
section
open Go Go.RowKit
attribute [local irreducible] AWp AOps aa ax OrOk ad ae
attribute [local irreducible] Crd.E Itm.w Itm.L aN linT linA folT dz fD verS
theorem jJ {G : Glo} {m : Int} (hU : ad G utfTy) (hM : ad G (bI m)) (hH : ad G shapesTy) (hP : co G) (c : Crd) (w : Int) (hf : c.fine) : FnIs Tryz.prog G 13 [c.A, .int .i64 w] (.tuple [.str (c.pT w), .agg [.int .i64 (c.pE w).e, .int .i64 (c.pE w).p]]) := by
 have hW := cr (G := G) w 10 75
 have hB := fun e => dj (G := G) e
 have hFI := fun e p => po (G := G) e p
 by_cases hw : 10 ≤ w ∧ w ≤ 75
 ·rw [show (decide (10 ≤ w) && decide (w ≤ 75)) = true by simp [hw]] at hW
  have hR := jI hU hM hH hP c hf.ok
  by_cases he : c.E = .none
  ·obtain ⟨hv, h60, hk0⟩ := xX he
   have hsh := qT he
   have hfl := pj (w := w) hsh
   have hpe := De hw he
   have hpt := fun h => yW (c := c) (w := w) h
   have hpt2 := fun h => mb (c := c) (w := w) h
   have hI := strconv_Itoa (G := G) hP c.v.toNat (by omega)
   have hdv := zw hv
   have hdl : (Lib.decDigits c.v.toNat).length ≤ 5 := by rcases hv with e | e <;> rw [e] <;> decide +kernel
   have hGd := di (G := G)
   rw [show ((c.v.toNat : Nat) : Int) = c.v by omega] at hI
   rw [he] at hR
   unfold Crd.T0 at hpe hpt
   obtain ⟨v, l⟩ := c
   obtain ⟨h70, ho⟩ := hf
   dsimp only at *
   simp only [Err.e, Err.p] at hR
   generalize Lib.decDigits v.toNat = dv at *
   have hlo := fun k (hk : k < l.length) => jY hU hM hH hP v (l.getD k Itm.z) (eX ho hk)
   generalize Crd.pE ⟨v, l⟩ w = pe at *
   generalize Crd.pT ⟨v, l⟩ w = pt at *
   generalize Crd.E ⟨v, l⟩ = ce at *
   unfold Crd.A at *
   dsimp only at *
   have hFI := hFI 0 (-1)
   have hlA : (linA v l).length ≤ 63 := by unfold linA; rw [List.length_append, kV (Nat.le_refl _)]; simp only [List.length_cons, List.length_nil]; omega
   have hA0 : linT v l 0 = [begS, verS v] := by unfold linT; simp
   have hAl := fun k (hk : k ≤ l.length) => kV (v := v) hk
   have hAs := fun k (hk : k < l.length) => qU (v := v) hk
   have hAA : linT v l l.length ++ [endS] = linA v l := by unfold linA; rfl
   have hB4 := hB 4
   have hGL : ad G [] := ab
   refine fn_a Tryz.func13 Tryz.call13 rfl rfl rfl rfl ?_
   intro C hC
   refine cuty hC hGL (fun b5 : Nat => [(1, .int .i64 w), (2, .rop [.int .i64 v, .list 15 l.length (itsF l)] 0), (5, .own 0 (.pointer (some ⟨b5, 0, none⟩)))]) (fun b5 => [.cells b5 (some 45) [.int .i64 0, .int .i64 0]]) (fun _ => True) ?_ ?_
   ·refine xw1 ?_
    intro b
    intros
    exact cy b trivial
   intro b5 _
   refine cut hC hGL [(1, .int .i64 w), (2, .rop [.int .i64 v, .list 15 l.length (itsF l)] 0), (5, .own 0 (.pointer (some ⟨b5, 0, none⟩)))] [.cells b5 (some 45) [.int .i64 0, .int .i64 0]] True ?_ fun _ => ?_
   ·exact xw0
   refine cuty hC hGL (fun b6 : Nat => [(1, .int .i64 w), (2, .rop [.int .i64 v, .list 15 l.length (itsF l)] 0), (5, .own 0 (.pointer (some ⟨b5, 0, none⟩)))]) (fun b6 => [.cells b5 (some 45) [.int .i64 0, .int .i64 0], .cells b6 (some 45) [.int .i64 0, .int .i64 (-1)]]) (fun _ => True) ?_ ?_
   ·refine xw1 ?_
    intro b
    intros
    exact cy b trivial
   intro b6 _
   refine cuty hC hGL (fun z : Option Addr × Nat × Nat => [(1, .int .i64 w), (2, .rop [.int .i64 v, .list 15 l.length (itsF l)] 0), (5, .own 0 (.pointer (some ⟨b5, 0, none⟩))), (7, .own 2 (.slice z.1 z.2.1 z.2.2))]) (fun z => [.cells b5 (some 45) [.int .i64 0, .int .i64 0], .cells b6 (some 45) [.int .i64 0, .int .i64 (-1)], rwS z.1 z.2.1 z.2.2 (linT v l 0)]) (fun _ => True) ?_ ?_
   ·rw [hA0]
    refine xb1 ?_
    intro va vk vc
    intros
    rw [hdv]
    have e7 : aN [begS, verS v] = [.str begS, .str (verS v)] := by unfold aN; rfl
    refine cy (va, vk, vc) trivial ai ?_
    show _ = [_, _, HEnt.row (.slice va vk vc) none 1 2 (aN [begS, verS v])]
    rw [e7]
    rfl
   rintro ⟨va0, vk0, vc0⟩ _
   dsimp only
   refine bw hC hGL ?_
   refine xw1 ?_
   intros
   refine lp hC hGL (fun x : Nat × Option Addr × Nat × Nat => [(1, .int .i64 w), (2, .rop [.int .i64 v, .list 15 l.length (itsF l)] 0), (5, .own 0 (.pointer (some ⟨b5, 0, none⟩))), (7, .own 2 (.slice x.2.1 x.2.2.1 x.2.2.2)), (32, .list 15 l.length (itsF l)), (33, .int .i64 (l.length : Nat)), (34, .int .i64 (x.1 : Nat))]) (fun x => [.cells b5 (some 45) [.int .i64 0, .int .i64 0], .cells b6 (some 45) [.int .i64 0, .int .i64 (-1)], rwS x.2.1 x.2.2.1 x.2.2.2 (linT v l x.1)]) (fun x => x.1 ≤ l.length) (fun x => l.length - x.1) (0, va0, vk0, vc0) (Nat.zero_le _) ai rfl ?_
   rintro ⟨k, va, vk, vc⟩ k1
   dsimp only at k1 ⊢
   have hlk := hAl k k1
   by_cases hk : k < l.length
   ·have h1 := hlo k hk
    have h5 := hAs k hk
    unfold itR at h1
    have e2 : (linT v l k).length + 1 = (linT v l (k + 1)).length := by rw [h5, List.length_append]; rfl
    generalize (l.getD k Itm.z).L v = tx at *
    refine xw1 ?_
    intro _ va2 vk2 vc2 hva2
    intros
    refine nxs (k + 1, va2, vk2, vc2) hk (by dsimp only; omega) ai ?_
    dsimp only
    rw [e2, gx, ← h5]
    exact aR
   ·obtain rfl : k = l.length := by omega
    refine xw1 ?_
    intro va2 vk2 vc2 hva2
    intros
    have e2 : (linT v l l.length).length + 1 = (linA v l).length := by rw [← hAA, List.length_append]; rfl
    have e3 : aN (linT v l l.length) ++ cg 1 (bH [(0, .str endS)]) = aN (linA v l) := by rw [gx, hAA]
    have hgt := fun k (hk : k < (linA v l).length) => tI hk
    rw [e3]
    refine lp hC hGL (fun k : Nat => [(1, .int .i64 w), (5, .own 0 (.pointer (some ⟨b5, 0, none⟩))), (10, .str (folT w (linA v l) k)), (48, .own 2 (.slice va2 vk2 vc2)), (49, .int .i64 ((linA v l).length : Nat)), (50, .int .i64 (k : Nat))]) (fun k => [.cells b5 (some 45) [.int .i64 0, .int .i64 0], .cells b6 (some 45) [.int .i64 0, .int .i64 (-1)], rwS va2 vk2 vc2 (linA v l)]) (fun k => k ≤ (linA v l).length) (fun k => (linA v l).length - k) 0 (Nat.zero_le _) (by rw [← e2]; unfold folT; exact ai) (by show _ = [_, _, HEnt.row (.slice va2 vk2 vc2) none 1 (linA v l).length (aN (linA v l))]; rw [← e2]; rfl) ?_
    intro k k1
    have k1 : k ≤ (linA v l).length := k1
    have hfk := hfl k k1
    by_cases hk : k < (linA v l).length
    ·have hF := B2 (G := G) hU ((linA v l).getD k []) w (by have := hsh k hk; omega)
     have hg := hgt k hk
     have hfs := mq (w := w) hk
     have hfb := ph ((linA v l).getD k []) w (hsh k hk)
     obtain ⟨bv, rfl, rfl⟩ := hva2 (by omega)
     generalize (linA v l).getD k [] = tx at *
     generalize dz tx w = ft at *
     generalize fD tx w = fe at *
     have hrow : cm (.slice (some ⟨bv, 0, none⟩) ((linT v l l.length).length + 1) vc2) bv (linA v l).length ∧ k < (linA v l).length * 1 := ⟨by rw [← e2]; exact ⟨_, rfl⟩, by omega⟩
     refine xw1 ?_
     intros
     exact nxs (k + 1) hk (by omega) (by rw [hfs]; exact ai) aR
    ·obtain rfl : k = (linA v l).length := by omega
     by_cases hl2 : 20000 < (folT w (linA v l) (linA v l).length).length
     ·rw [if_pos hl2] at hpe
      subst hpe
      rw [hpt2 (fun h => by cases h)]
      simp only [Err.e, Err.p]
      exact xw0
     ·rw [if_neg hl2] at hpe
      subst hpe
      rw [hpt rfl]
      simp only [Err.e, Err.p]
      exact xw0
  ·have h0 := (Dg c).resolve_left he
   have hFI := hFI c.E.e c.E.p
   rw [s5 hw he, mb (by rw [s5 hw he]; exact he)]
   rw [show eqB c.E.e 0 = false from jP.2 h0.1] at hFI
   generalize c.E.e = ce at *
   generalize c.E.p = cp at *
   obtain ⟨v, l⟩ := c
   unfold Crd.A at *
   dsimp only at *
   have hGL : ad G [] := ab
   refine fn_a Tryz.func13 Tryz.call13 rfl rfl rfl rfl ?_
   intro C hC
   refine cuty hC hGL (fun b5 : Nat => [(1, .int .i64 w), (2, .rop [.int .i64 v, .list 15 l.length (itsF l)] 0), (5, .own 0 (.pointer (some ⟨b5, 0, none⟩)))]) (fun b5 => [.cells b5 (some 45) [.int .i64 0, .int .i64 0]]) (fun _ => True) ?_ ?_
   ·refine xw1 ?_
    intro b
    intros
    exact cy b trivial
   intro b5 _
   refine bw hC hGL ?_
   refine xn1 ?_
   intros
   refine eb (aX (i := 1) (k := 6) rfl rfl) ?_
   refine dw_p mixed hC hGL false (fun _ : Unit => [(4, .str []), (5, .own 0 (.pointer (some ⟨b5, 0, none⟩)))]) (fun _ => [.cells b5 (some 45) [.int .i64 ce, .int .i64 cp], bE]) (.take 0 (.take 1 (.br 2 (.done) (.nil)))) (by kernel_rfl) ?_ ?_
   ·refine xn ?_
    repeat' (first | exact Le.n | refine Lc.mk ?_ ?_)
    all_goals intros
    all_goals exact ⟨(), ai, rfl⟩
   intro _
   exact xw0
 ·have hB := hB 2
  have hw3 : (decide (10 ≤ w) && decide (w ≤ 75)) = false := by
   rw [Bool.eq_false_iff]
   simp only [ne_eq, Bool.and_eq_true, decide_eq_true_eq]
   exact hw
  rw [hw3] at hW
  rw [s6 hw, mb (by rw [s6 hw]; exact fun h => by cases h)]
  unfold Crd.A
  simp only [Err.e, Err.p]
  have hGL : ad G [] := ab
  refine fn_x Tryz.func13 Tryz.call13 rfl rfl rfl rfl hGL ?_
  intro C hC
  exact xw0
end
section
open Go Go.RowKit
attribute [local irreducible] AWp AOps aa ax OrOk ad ae
attribute [local irreducible] Crd.E Crd.pE Crd.pT
theorem oU {G : Glo} {m : Int} (hU : ad G utfTy) (hE : ad G errTy) (hE2 : ij G) (hP : co G) (hM : ad G (bI m)) (hH : ad G shapesTy) (hS : SpIs G) (c : Crd) (w : Int) (ho : ∀ x ∈ c.l, Itm.OK 1048576 x) (hl : c.l.length ≤ 1048576) : FnIs Tryz.prog G 4 [c.A, .int .i64 w] (.bool true) := by
 have hB := sB (G := G) c ho hl
 have hf1 := fun hf => pG hE hE2 hP hM hS c w hf
 have hf2 := fun hf => jJ hU hM hH hP c w hf
 have hpl := l0 (G := G) hE (c.pE w)
 generalize c.pE w = e at *
 generalize c.pT w = t at *
 generalize hcf : c.fine = fine at *
 obtain ⟨v, l⟩ := c
 unfold Crd.A at *
 dsimp only at *
 have c1 := Tryz.call10
 have hGL : ad G [] := ab
 refine fn_x Tryz.func4 Tryz.call4 rfl rfl rfl rfl hGL ?_
 intro C hC
 refine xw1 ?_
 intros
 refine mw hB ?_
 rintro _ ⟨b, rfl, hb⟩
 cases b with
 | true => exact xw0
 | false =>
  have hf := hb rfl
  have h1 := hf1 hf
  have h2 := hf2 hf
  cases e <;> simp only [Err.A, Err.e, Err.p, errA, atA] at h1 h2 hpl
  all_goals
   refine xw1 ?_
   intros
   rw [show seqB t t = true from a7.2 rfl]
   exact aj rfl
end
end Go.Proofs.YtahebkecmlmlfaaGreatDoor
