/- Parts of the proof of prints_root: Bw, Bx, Crl, Lan, Esn, Len, Tja, Hda, Vla, Hdt, Prm, Itm, Geo, Def, Deg. -/
import Derived.Scope
import Derived.Lib.IndexAny
import Derived.Lib.Join
import Derived.Defers
import Derived.Recover
import Derived.Test.YtahebkecmlmlfaaGreatDoorBaf
import Derived.Test.YtahebkecmlmlfaaGreatDoorBae
import Derived.Test.YtahebkecmlmlfaaGreatDoorBad
import Derived.Test.YtahebkecmlmlfaaGreatDoorBaa
set_option linter.unusedVariables false
set_option linter.unusedSimpArgs false
set_option linter.unusedSectionVars false
namespace Go.Proofs.YtahebkecmlmlfaaGreatDoor
set_option maxRecDepth 20000
set_option maxHeartbeats 4000000
section
open Go
theorem Ev {x : UInt8} {t : List UInt8} (h : x.toNat < 128) : aw (x :: t) = (x.toNat, 1) := by
 unfold aw
 simp [aa, h]
theorem jV {x : UInt8} {t : List UInt8} (h : x.toNat < 128) : rngR (x :: t) = x.toNat ∧ aT (x :: t) = 1 := by
 unfold rngR aT
 rw [Ev h]
 simp
theorem GX {a b : UInt8} (ha : a.toNat < 128) (hb : b.toNat < 128) : rngR [a, b] = a.toNat ∧ aT [a, b] = 1 ∧ rngR [b] = b.toNat ∧ aT [b] = 1 := ⟨(jV ha).1, (jV ha).2, (jV hb).1, (jV hb).2⟩
theorem two1 {a b : UInt8} : aa [a, b] 1 = b.toNat := rfl
def noGo (Q : AExit → Env → Heap → Prop) : AExit → Env → Heap → Prop
 | .goto _, _, _ => False
 | x, e, h => Q x e h
theorem fm {P : Program} [Tab P] {C : Ctx} {n : Nat} {env : Env} {H : Heap} {Q : AExit → Env → Heap → Prop} {c : Code} {G : Glo} {GL : List (Nat × List AVal)} (hC : C.G = G) (hGL : ad G GL) (h : dB P C n G GL c env H (noGo Q)) : Cd P C n (.scope c) env H Q := by
 refine ⟨fun R a w hm hf => wp_scope_straight (wp_mono (bJ hC hGL c _ _ _ h R a w hm hf) ?_)⟩
 rintro ex a w ⟨x, e, h, R, hq, hr, hm, hf⟩
 cases x with
 | goto l => exact hq.elim
 | normal => simp only [aD] at hr; subst hr; exact ⟨.normal, e, h, R, hq, rfl, hm, hf⟩
 | exit i => simp only [aD] at hr; subst hr; exact ⟨.exit i, e, h, R, hq, rfl, hm, hf⟩
 | ret => simp only [aD] at hr; subst hr; exact ⟨.ret, e, h, R, hq, rfl, hm, hf⟩
 | panic v =>
  obtain ⟨x, rfl, hx⟩ := hr
  exact ⟨.panic v, e, h, R, hq, ⟨x, rfl, hx⟩, hm, hf⟩
attribute [local irreducible] AWp AOps aa az OrOk ad ah
attribute [local irreducible] aw badI badS aT cutS rngR ownB mayZ
theorem GC {r : Int} (h1 : 128 ≤ r) (hv : mayZ r = true) : ∃ e : List UInt8, (Utf8.encode r).data.toList = e ∧ 2 ≤ e.length ∧ e.length ≤ 4 ∧ 128 ≤ aa e 1 ∧ aa e 1 < 256 := by
 refine ⟨_, rfl, ?_⟩
 rw [gL] at hv
 rw [zn hv]
 have hb : ∀ k : Nat, 128 ≤ ((UInt8.ofNat (128 + k % 64)).toNat) ∧ ((UInt8.ofNat (128 + k % 64)).toNat) < 256 := by
  intro k
  have e : 128 + k % 64 < 256 := by omega
  rw [UInt8.toNat_ofNat_of_lt' (by simpa using e)]
  omega
 split
 ·omega
 ·split
  ·refine ⟨by simp, by simp, ?_⟩; simpa [aa] using hb _
  ·split
   ·refine ⟨by simp, by simp, ?_⟩; simpa [aa] using hb _
   ·refine ⟨by simp, by simp, ?_⟩; simpa [aa] using hb _
theorem sy {G : Glo} {a b : UInt8} (ha : a.toNat < 128) (hb' : b.toNat < 128) (r : Int) (h1 : 128 ≤ r) (hv : mayZ r = true) (hne : r ≠ 65533) : FnIs Tryz.prog G 127 [.str [a, b], .int .i32 r] (.int .i64 (-1)) := by
 have hGL : ad G [] := ab
 refine fn_x Tryz.func127 Tryz.call127 rfl rfl rfl rfl hGL ?_
 intro C hC
 have hV := nQ (G := G) r
 rw [hv] at hV
 refine xw1 ?_
 intros
 apply fm hC hGL
 refine xw1 ?_
 intros
 obtain ⟨e, he, e1, e2, e3, e4⟩ := GC h1 hv
 refine aI hC hGL (nq rfl rfl rfl rfl) rfl rfl ?_
 rw [he]
 refine xw1 ?_
 intros
 refine rds hC hGL 1 ?_
 have hix : ∀ c : Int, 0 ≤ c → c ≤ 255 → FnIs Tryz.prog G 121 [.str [], .int .u8 c] (.int .i64 (-1)) := fun c h0 h1 => aM [] c h0 h1
 repeat' (first | (conv => whnf); first | refine .w ?_ | refine .v ?_ | refine sc_c ?_ ?_ <;> (intro hb; try exact dd hb) | apply ae | apply an | (apply sc_i <;> intro hb) | (apply bx_i; intro hbd) | (apply aj; first | exact hV | exact hix _ (by omega) (by omega)) | (apply am (i := 0) rfl; first | exact hV | exact hix _ (by omega) (by omega)) | (apply ab_i; intro bl) | (apply as_i; intro va vk vc hva) | (apply av_i; intro v) | (apply ac_i; intro bl cap hcap) | apply bo_l | (apply nx_i <;> intro hnx) | exact rt_w | apply dw_q mixed hC hGL (by kernel_rfl) | (apply cq; assumption; (first | exact hV | exact hix _ (by omega) (by omega)); exact rfl))
 all_goals try conv => whnf
 have hl2 : e.length = 2 := by simp only [List.length_cons, List.length_nil] at hb; omega
 have ht1 : ((e.length : Int) - 1).toNat = 1 := by omega
 have ht2 : ((e.length : Int) - 1 + 1).toNat = 2 := by omega
 have hcall := Tryz.call121
 have hix2 : ∀ c : Int, 0 ≤ c → c ≤ 255 → FnIs Tryz.prog G 121 [.str (List.drop ((e.length : Int) - 1 + 1).toNat [a, b]), .int .u8 c] (.int .i64 (-1)) := by rw [ht2]; exact hix
 have h10 : aa [a, b] ((e.length : Int) - 1).toNat = b.toNat := by rw [ht1]; exact two1
 have h128 : 128 ≤ aa e ((e.length : Int) - 1).toNat := by rw [ht1]; exact e3
 apply fm hC hGL
 repeat' (first | (conv => whnf); first | refine .w ?_ | refine .v ?_ | refine sc_c ?_ ?_ <;> (intro hb; try exact dd hb) | apply ae | apply an | (apply sc_i <;> intro hb) | (apply bx_i; intro hbd) | (apply aj; first | exact hV | exact hix2 _ (by omega) (by omega)) | (apply am (i := 0) rfl; first | exact hV | exact hix2 _ (by omega) (by omega)) | (apply ab_i; intro bl) | (apply as_i; intro va vk vc hva) | (apply av_i; intro v) | (apply ac_i; intro bl cap hcap) | apply bo_l | (apply nx_i <;> intro hnx) | exact rt_w | apply dw_q mixed hC hGL (by kernel_rfl) | (apply cq; assumption; (first | exact hV | exact hix2 _ (by omega) (by omega)); exact rfl))
 all_goals try conv => whnf
theorem p6 {G : Glo} {a b : UInt8} (ha : a.toNat < 128) (hb' : b.toNat < 128) : FnIs Tryz.prog G 127 [.str [a, b], .int .i32 65533] (.int .i64 (-1)) := by
 have hGL : ad G [] := ab
 refine fn_x Tryz.func127 Tryz.call127 rfl rfl rfl rfl hGL ?_
 intro C hC
 refine xw1 ?_
 intros
 refine rds hC hGL 3 ?_
 refine xw ?_
 repeat' (first | exact Le.n | refine Lc.mk ?_ ?_)
 all_goals intros
 all_goals (
  exfalso
  obtain ⟨f1, f2, f3, f4⟩ := GX ha hb'
  simp only [List.drop_zero, f1, f2, Nat.zero_add, List.drop_succ_cons, f3, f4, List.length_cons, List.length_nil] at *
  omega)
theorem sx {G : Glo} {a b : UInt8} (r : Int) (h0 : 0 ≤ r) (h1 : r < 128) : FnIs Tryz.prog G 127 [.str [a, b], .int .i32 r] (.int .i64 (idxB [a, b] r)) := by
 have hGL : ad G [] := ab
 refine fn_x Tryz.func127 Tryz.call127 rfl rfl rfl rfl hGL ?_
 intro C hC
 have hI := aM (G := G) [a, b] r h0 (by omega)
 exact xw0
end
section
open Go Go.RowKit
theorem uE (t : List UInt8) (h : (aw t).2 ≠ 0) : ((aw t).1 < 128 → (aw t).2 = 1 ∧ aa t 0 = (aw t).1) ∧ (128 ≤ (aw t).1 → ∀ j, j < (aw t).2 → 128 ≤ aa t j) ∧ mayZ (aw t).1 = true := by
 have hb := aL t 0
 rw [gL]
 revert h
 unfold aw
 repeat' split
 all_goals (intro h; try (exact absurd rfl h))
 all_goals (simp only [aW, mayN, Bool.and_eq_true, Bool.or_eq_true, decide_eq_true_eq, beq_iff_eq] at *)
 ·refine ⟨fun _ => by simp, fun h => by omega, by omega⟩
 ·refine ⟨fun h => by omega, fun _ j hj => ?_, by omega⟩
  obtain rfl | rfl : j = 0 ∨ j = 1 := by omega
  all_goals omega
 ·refine ⟨fun h => by omega, fun _ j hj => ?_, by omega⟩
  obtain rfl | rfl | rfl : j = 0 ∨ j = 1 ∨ j = 2 := by omega
  all_goals omega
 ·refine ⟨fun h => by omega, fun _ j hj => ?_, by omega⟩
  obtain rfl | rfl | rfl | rfl : j = 0 ∨ j = 1 ∨ j = 2 ∨ j = 3 := by omega
  all_goals omega
theorem wW (t : List UInt8) (h : (aw t).2 = 0) (h0 : t.length ≠ 0) : 128 ≤ aa t 0 := by
 rcases Nat.lt_or_ge (aa t 0) 128 with h1 | h1
 ·exfalso
  revert h
  unfold aw
  rw [if_neg h0, if_pos h1]
  simp
 ·exact h1
theorem rE {a b : UInt8} (x : UInt8) : ([a, b] : List UInt8).contains x = true ↔ (x.toNat = a.toNat ∨ x.toNat = b.toNat) := by
 simp only [List.contains_cons, List.contains_nil, Bool.or_false, Bool.or_eq_true, beq_iff_eq]
 exact ⟨fun h => h.imp (fun h => by rw [h]) (fun h => by rw [h]), fun h => h.imp UInt8.toNat_inj.1 UInt8.toNat_inj.1⟩
theorem yB {a b : UInt8} {x : UInt8} (h : x.toNat ≠ a.toNat ∧ x.toNat ≠ b.toNat) : ([a, b] : List UInt8).contains x = false := by
 cases hc : ([a, b] : List UInt8).contains x with
 | false => rfl
 | true => rcases (rE x).1 hc with h1 | h1; exact absurd h1 h.1; exact absurd h1 h.2
theorem bu {s : List UInt8} {i : Nat} {x : UInt8} (h : s[i]? = some x) : x.toNat = aa s i := by simp [aa, List.getD, h]
attribute [local irreducible] AWp AOps aa az OrOk ad ah
attribute [local irreducible] aw badI badS aT cutS rngR ownB mayZ
theorem nZ {G : Glo} (n : Int) : FnIs Tryz.prog G 128 [.int .i64 n] (.bool (ltB 8 n)) := by
 have hGL : ad G [] := ab
 refine fn_x Tryz.func128 Tryz.call128 rfl rfl rfl rfl hGL ?_
 intro C hC
 repeat' (first | (conv => whnf); first | refine .w ?_ | refine .v ?_ | refine sc_c ?_ ?_ <;> (intro hb; try exact dd hb) | apply ae | apply an | (apply sc_i <;> intro hb) | (apply bx_i; intro hbd) | (apply aj; first | fail) | (apply am (i := 0) rfl; first | fail) | (apply ab_i; intro bl) | (apply as_i; intro va vk vc hva) | (apply av_i; intro v) | (apply ac_i; intro bl cap hcap) | apply bo_l | (apply nx_i <;> intro hnx) | exact rt_w | apply dw_q mixed hC hGL (by kernel_rfl) | (apply cq; assumption; (first | fail); exact rfl))
 all_goals try conv => whnf
theorem EE {a b : UInt8} (r : Int) : (0 ≤ idxB [a, b] r ↔ r = a.toNat ∨ r = b.toNat) := by
 unfold idxB
 simp only [idxF]
 split
 ·omega
 ·split <;> omega
theorem p9 {G : Glo} {a b : UInt8} (ha : a.toNat < 128) (hb' : b.toNat < 128) (r : Int) (hv : mayZ r = true) : ∃ z : Int, FnIs Tryz.prog G 127 [.str [a, b], .int .i32 r] (.int .i64 z) ∧ (0 ≤ z ↔ r = a.toNat ∨ r = b.toNat) := by
 have hm := hv
 rw [gL] at hm
 by_cases h1 : r < 128
 ·exact ⟨_, sx r hm.1 h1, EE r⟩
 ·by_cases h2 : r = 65533
  ·subst h2; exact ⟨-1, p6 ha hb', by omega⟩
  ·exact ⟨-1, sy ha hb' r (by omega) hv h2, by omega⟩
theorem qx (t : List UInt8) (h0 : t.length ≠ 0) : mayZ (rngR t : Int) = true ∧ 0 < aT t ∧ aT t ≤ t.length ∧ ((rngR t : Int) < 128 → aT t = 1 ∧ (aa t 0 : Int) = rngR t) ∧ (128 ≤ (rngR t : Int) → ∀ j, j < aT t → 128 ≤ aa t j) := by
 have hle := d9 t
 by_cases hn : (aw t).2 = 0
 ·have h1 := wW t hn h0
  unfold rngR aT
  rw [if_pos hn, if_pos hn]
  refine ⟨by rw [gL]; omega, by omega, by omega, fun h => by omega, fun _ j hj => by rw [show j = 0 by omega]; exact h1⟩
 ·have h1 := uE t hn
  unfold rngR aT
  rw [if_neg hn, if_neg hn]
  refine ⟨h1.2.2, by omega, hle.1, fun h => ?_, fun h => h1.2.1 (by omega)⟩
  have := h1.1 (by omega)
  omega
theorem oZ {G : Glo} {a b : UInt8} (ha : a.toNat < 128) (hb' : b.toNat < 128) (s : List UInt8) (hl : s.length ≤ 8) : FnIs Tryz.prog G 73 [.str s, .str [a, b]] (.int .i64 (Lib.indexAny s [a, b])) := by
 have hGL : ad G [] := ab
 refine fn_x Tryz.func73 Tryz.call73 rfl rfl rfl rfl hGL ?_
 intro C hC
 have hS := nZ (G := G) s.length
 have hlen2 : ([a, b] : List UInt8).length = 2 := rfl
 repeat' (first | (conv => whnf); first | refine .w ?_ | refine .v ?_ | refine sc_c ?_ ?_ <;> (intro hb; try exact dd hb) | apply ae | apply an | (apply sc_i <;> intro hb) | (apply bx_i; intro hbd) | (apply aj; first | exact hS) | (apply am (i := 0) rfl; first | exact hS) | (apply ab_i; intro bl) | (apply as_i; intro va vk vc hva) | (apply av_i; intro v) | (apply ac_i; intro bl cap hcap) | apply bo_l | (apply nx_i <;> intro hnx) | exact rt_w | apply dw_q mixed hC hGL (by kernel_rfl) | (apply cq; assumption; (first | exact hS); exact rfl))
 all_goals try conv => whnf
 refine lp hC hGL (fun (i : Nat) => [(1, .str [a, b]), (45, .own 0 (.pointer (some ⟨bl, 0, none⟩)))]) (fun i => [.iter bl s i]) (fun i => i ≤ s.length ∧ Lib.NoAny s [a, b] i) (fun i => s.length - i) 0 ?_ ak rfl ?_
 ·exact ⟨Nat.zero_le _, Lib.NoAny.zero _ _⟩
 rintro i ⟨hi, hno⟩
 have hz := fun (h : i < s.length) => qx (s.drop i) (by rw [List.length_drop]; omega)
 have hR : ∃ z : Int, i < s.length → FnIs Tryz.prog G 127 [.str [a, b], .int .i32 (rngR (s.drop i))] (.int .i64 z) ∧ (0 ≤ z ↔ (rngR (s.drop i) : Int) = a.toNat ∨ (rngR (s.drop i) : Int) = b.toNat) := by
  by_cases h : i < s.length
  ·obtain ⟨z, h1, h2⟩ := p9 (G := G) ha hb' (rngR (s.drop i)) (hz h).1
   exact ⟨z, fun _ => ⟨h1, h2⟩⟩
  ·exact ⟨0, fun h' => absurd h' h⟩
 obtain ⟨z, hR⟩ := hR
 repeat' (first | (conv => whnf); first | refine .w ?_ | refine .v ?_ | refine sc_c ?_ ?_ <;> (intro hb; try exact dd hb) | apply ae | apply an | (apply sc_i <;> intro hb) | (apply bx_i; intro hbd) | (apply aj; first | exact (hR (by omega)).1) | (apply am (i := 0) rfl; first | exact (hR (by omega)).1) | (apply ab_i; intro bl) | (apply as_i; intro va vk vc hva) | (apply av_i; intro v) | (apply ac_i; intro bl cap hcap) | apply bo_l | (apply nx_i <;> intro hnx) | exact rt_w | apply dw_q mixed hC hGL (by kernel_rfl) | (apply cq; assumption; (first | exact (hR (by omega)).1); exact rfl))
 all_goals try conv => whnf
 ·obtain ⟨z1, z2, z3, z4, z5⟩ := hz hnx
  have hr := (hR hnx).2.1 hb
  have h1 := z4 (by omega)
  have hx : s[i]? = some s[i] := List.getElem?_eq_getElem hnx
  have h2 := bu hx
  rw [bA, Nat.add_zero] at h1
  refine al ?_
  rw [Lib.indexAny_hit hno hx ((rE _).2 (by omega))]
 ·obtain ⟨z1, z2, z3, z4, z5⟩ := hz hnx
  rw [List.length_drop] at z3
  have hr : ¬ ((rngR (s.drop i) : Int) = a.toNat ∨ (rngR (s.drop i) : Int) = b.toNat) := fun h => by have := (hR hnx).2.2 h; omega
  refine nxt (i + aT (s.drop i)) ⟨by omega, ?_⟩ (by omega) ⟨rfl, rfl, trivial⟩ rfl
  intro j x hj hx
  by_cases h : j < i
  ·exact hno j x h hx
  ·have h2 := bu hx
   apply yB
   by_cases h128 : (rngR (s.drop i) : Int) < 128
   ·have h3 := z4 h128
    rw [bA, Nat.add_zero] at h3
    have : j = i := by omega
    subst this
    omega
   ·have h3 := z5 (by omega) (j - i) (by omega)
    rw [bA, show i + (j - i) = j by omega] at h3
    omega
 ·have : i = s.length := by omega
  subst this
  refine al ?_
  rw [Lib.indexAny_none hno]
  rfl
theorem qa {G : Glo} {a b : UInt8} (ha : a.toNat < 128) (hb' : b.toNat < 128) (s : List UInt8) (h8 : 8 < s.length) (hl : s.length < 100000) : FnIs Tryz.prog G 73 [.str s, .str [a, b]] (.int .i64 (Lib.indexAny s [a, b])) := by
 refine bi rfl Tryz.call73 ?_
 rintro R args ⟨x, t, e, hx, y, t', e', hy, rfl⟩ w _ _
 obtain rfl := aC.1 hx
 obtain rfl := aC.1 hy
 subst e'
 obtain rfl := dL e
 refine (Tryz.strings_IndexAny_long (fun w => by kernel_rfl) ⟨s.toArray⟩ ⟨#[a, b]⟩ w (by show 2 ≤ 2; omega) (by rw [aY]; exact h8) (by rw [aY]; omega) (by show 2 < 4294967281; omega) ?_).mono ?_
 ·intro j x hx
  match j with
  | 0 => cases hx; exact ha
  | 1 => cases hx; exact hb'
  | j + 2 => simp at hx
 ·rintro e w' ⟨rfl, rfl⟩
  exact ⟨rfl, ((Below.refl w.heap.size w).alloc (Nat.le_refl _) _).alloc (by show w.heap.size ≤ (w.heap.push _).size; simp) _⟩
theorem sA {G : Glo} {a b : UInt8} (ha : a.toNat < 128) (hb' : b.toNat < 128) (s : List UInt8) (hl : s.length < 100000) : FnIs Tryz.prog G 73 [.str s, .str [a, b]] (.int .i64 (Lib.indexAny s [a, b])) := by
 by_cases h : s.length ≤ 8
 ·exact oZ ha hb' s h
 ·exact qa ha hb' s (by omega) hl
end
section
open Go Go.RowKit
def du (s : List UInt8) : Int := Lib.indexAny s [13, 10]
theorem EV {s : List UInt8} (h : du s < 0) : du s = -1 := by
 have := Lib.indexAny_ge [13, 10] s
 unfold du at *
 omega
theorem wV {s : List UInt8} {i : Nat} (h : Lib.NoAny s [13, 10] i) (hi : i < s.length) (h1 : aa s i ≠ 10 ∧ aa s i ≠ 13) : Lib.NoAny s [13, 10] (i + 1) := by
 intro j x hj hx
 by_cases e : j = i
 ·subst e
  have := bu hx
  exact yB (by simp; omega)
 ·exact h j x (by omega) hx
theorem EW {s : List UInt8} {i : Nat} (h : Lib.NoAny s [13, 10] i) (hi : i < s.length) (h1 : aa s i = 10 ∨ aa s i = 13) : du s = i := by
 have hx : s[i]? = some s[i] := List.getElem?_eq_getElem hi
 have h2 := bu hx
 unfold du
 exact Lib.indexAny_hit h hx ((rE _).2 (by simp; omega))
theorem vz {s : List UInt8} (h : Lib.NoAny s [13, 10] s.length) : du s = -1 := by
 unfold du
 exact Lib.indexAny_none h
attribute [local irreducible] AWp AOps aa az OrOk ad ah
end
section
open Go Go.RowKit
def lgB (first : Bool) (c : Int) : Bool := bn c && !(first && decide (c ≤ 57))
def ct (first : Bool) (a : Nat) (x : List UInt8) : Err :=
 if 0 ≤ fstB (fun c => !lgB first c) x then .at 3 (a + fstB (fun c => !lgB first c) x) else if x.length = 0 then .at 7 a else if 8 < x.length then .at 4 a else .none
def Err.isNone : Err → Bool
 | .none => true
 | _ => false
def cE : Bool → Nat → List (List UInt8) → Err
 | _, _, [] => .none
 | first, a, x :: xs => if (ct first a x).isNone then cE false (a + x.length + 1) xs else ct first a x
def ca (s : List UInt8) : Err := cE true 0 (splS 45 s)
theorem kw {c : UInt8} : ∀ {s p : List UInt8}, p ∈ splS c s → c ∉ p
 | [], p, h => by simp [splS] at h; subst h; simp
 | x :: t, p, h => by
  by_cases hx : x = c
  ·rw [splS, if_pos hx] at h
   rcases List.mem_cons.1 h with rfl | h
   ·simp
   ·exact kw h
  ·rw [splS, if_neg hx] at h
   cases h1 : splS c t with
   | nil => exact absurd h1 (ku c t)
   | cons q qs =>
    rw [h1] at h
    rcases List.mem_cons.1 h with rfl | h
    ·have := kw (s := t) (p := q) (c := c) (by rw [h1]; simp)
     simp [this, Ne.symm hx]
    ·exact kw (s := t) (by rw [h1]; simp [h])
theorem D8 {c : UInt8} {u v : List UInt8} {x : UInt8} (hu : c ∉ u) (hx : x ≠ c) : ∃ q qs, splS c (u ++ x :: v) = (u ++ x :: q) :: qs := by
 obtain ⟨p, ps, h1, h2⟩ := nX (v := x :: v) hu
 rw [splS, if_neg hx] at h1
 cases h3 : splS c v with
 | nil => exact absurd h3 (ku c v)
 | cons q qs =>
  rw [h3] at h1
  cases h1
  exact ⟨_, _, h2⟩
theorem vJ {u v : List UInt8} {j : Nat} (h : j < u.length) : aa (u ++ v) j = aa u j := by
 unfold aa; simp [List.getD, List.getElem?_append, h]
theorem vI {u v : List UInt8} {j : Nat} (h : u.length ≤ j) : aa (u ++ v) j = aa v (j - u.length) := by
 unfold aa; simp [List.getD, List.getElem?_append, show ¬ j < u.length by omega]
theorem EM {f : Int → Bool} {u q : List UInt8} {x : UInt8} (hu : ∀ j, j < u.length → f (aa u j : Int) = false) (hx : f (x.toNat : Int) = true) : fstB f (u ++ x :: q) = u.length := by
 refine gQ (by simp) ?_ (fun j hj => by rw [vJ hj]; exact hu j hj)
 rw [vI (Nat.le_refl _), Nat.sub_self]
 exact hx
theorem pm (s : List UInt8) (k i : Nat) (h1 : k ≤ i) (h2 : i ≤ s.length) : s.drop k = (s.drop k).take (i - k) ++ s.drop i := by
 have e := (List.take_append_drop (i - k) (s.drop k)).symm
 rw [List.drop_drop, show k + (i - k) = i by omega] at e
 exact e
theorem CJ {s : List UInt8} {k i : Nat} (h1 : k ≤ i) (h2 : i < s.length) (hg : ∀ j, k ≤ j → j < i → aa s j ≠ 45 ∧ lgB (decide (k = 0)) (aa s j : Int) = true) (hc : aa s i ≠ 45) (hb : lgB (decide (k = 0)) (aa s i : Int) = false) (b : Bool) (hbk : b = decide (k = 0)) :
  cE b k (splS 45 (s.drop k)) = .at 3 i := by
 subst hbk
 have e := pm s k i h1 (by omega)
 rw [List.drop_eq_getElem_cons h2] at e
 have hl : ((s.drop k).take (i - k)).length = i - k := by rw [List.length_take, List.length_drop]; omega
 have hba : ∀ j, j < i - k → aa ((s.drop k).take (i - k)) j = aa s (k + j) := fun j hj => by rw [fG hj, bA]
 have hu : (45 : UInt8) ∉ (s.drop k).take (i - k) := by
  intro hm
  obtain ⟨j, hj, ej⟩ := List.getElem_of_mem hm
  rw [hl] at hj
  have h3 := (hg (k + j) (by omega) (by omega)).1
  rw [← hba j hj, bm (by omega), ej] at h3
  exact h3 rfl
 have hx : s[i] ≠ 45 := fun h => hc (by rw [bm h2, h]; rfl)
 obtain ⟨q, qs, hs⟩ := D8 (v := s.drop (i + 1)) hu hx
 rw [← e] at hs
 rw [hs, cE]
 have hf : fstB (fun c => !lgB (decide (k = 0)) c) ((s.drop k).take (i - k) ++ s[i] :: q) = ((i - k : Nat) : Int) := by
  rw [EM (f := fun c => !lgB (decide (k = 0)) c), hl]
  ·intro j hj
   rw [hl] at hj
   rw [hba j hj, (hg (k + j) (by omega) (by omega)).2]
   rfl
  ·rw [← bm h2, hb]; rfl
 have hp : ct (decide (k = 0)) k ((s.drop k).take (i - k) ++ s[i] :: q) = .at 3 i := by
  unfold ct
  rw [hf, if_pos (by omega), show ((k : Nat) : Int) + ((i - k : Nat) : Int) = i by omega]
 rw [hp]
 rfl
theorem uN {s : List UInt8} {k i : Nat} (h1 : k ≤ i) (h2 : i ≤ s.length) (hg : ∀ j, k ≤ j → j < i → aa s j ≠ 45 ∧ lgB (decide (k = 0)) (aa s j : Int) = true) (hc : i = s.length ∨ aa s i = 45) (b : Bool) (hbk : b = decide (k = 0)) :
  cE b k (splS 45 (s.drop k)) = if i = k then .at 7 k else if 8 < i - k then .at 4 k else if i = s.length then .none else cE false (i + 1) (splS 45 (s.drop (i + 1))) := by
 subst hbk
 have e := pm s k i h1 (by omega)
 have hl : ((s.drop k).take (i - k)).length = i - k := by rw [List.length_take, List.length_drop]; omega
 have hba : ∀ j, j < i - k → aa ((s.drop k).take (i - k)) j = aa s (k + j) := fun j hj => by rw [fG hj, bA]
 have hu : (45 : UInt8) ∉ (s.drop k).take (i - k) := by
  intro hm
  obtain ⟨j, hj, ej⟩ := List.getElem_of_mem hm
  rw [hl] at hj
  have h3 := (hg (k + j) (by omega) (by omega)).1
  rw [← hba j hj, bm (by omega), ej] at h3
  exact h3 rfl
 have hs : splS 45 (s.drop k) = (s.drop k).take (i - k) :: (if i = s.length then [] else splS 45 (s.drop (i + 1))) := by
  by_cases hi : i = s.length
  ·rw [if_pos hi]
   rw [List.drop_eq_nil_of_le (show s.length ≤ i by omega), List.append_nil] at e
   have hu' : (45 : UInt8) ∉ s.drop k := by rw [e]; exact hu
   rw [qq hu']
   exact congrArg (fun z => [z]) e
  ·rw [if_neg hi]
   have hc := hc.resolve_left hi
   have h2 : i < s.length := by omega
   rw [List.drop_eq_getElem_cons h2] at e
   have hx : s[i] = 45 := UInt8.toNat_inj.1 (by rw [← bm h2, hc]; rfl)
   rw [hx] at e
   generalize hw : (s.drop k).take (i - k) = w at *
   rw [e, BK hu]
 have hf : fstB (fun c => !lgB (decide (k = 0)) c) ((s.drop k).take (i - k)) = -1 := dI fun j hj => by
  rw [hl] at hj
  rw [hba j hj, (hg (k + j) (by omega) (by omega)).2]
  rfl
 rw [hs, cE]
 have hp : ct (decide (k = 0)) k ((s.drop k).take (i - k)) = if i = k then .at 7 k else if 8 < i - k then .at 4 k else .none := by
  unfold ct
  rw [hf, if_neg (by omega), hl]
  by_cases h3 : i = k
  ·rw [if_pos (by omega), if_pos h3]
  ·rw [if_neg (by omega), if_neg h3]
 rw [hp, hl]
 by_cases h3 : i = k
 ·rw [if_pos h3, if_pos h3]; rfl
 ·rw [if_neg h3, if_neg h3]
  by_cases h4 : 8 < i - k
  ·rw [if_pos h4, if_pos h4]; rfl
  ·rw [if_neg h4, if_neg h4, if_pos (show Err.none.isNone = true from rfl), show k + (i - k) + 1 = i + 1 by omega]
   by_cases h5 : i = s.length
   ·rw [if_pos h5, if_pos h5]; rfl
   ·rw [if_neg h5, if_neg h5]
theorem ED {s : List UInt8} {i : Nat} (h : i < s.length) : isS ((s.take (i + 1)).drop i) = bn (aa s i) := by
 have hl : ((s.take (i + 1)).drop i).length = 1 := by rw [List.length_drop, List.length_take]; omega
 have hb : aa ((s.take (i + 1)).drop i) 0 = aa s i := by rw [bA, fG (by omega), Nat.add_zero]
 rw [Bool.eq_iff_iff, isS, hl]
 simp only [Bool.and_eq_true, pN, hl, decide_eq_true_eq]
 constructor
 ·intro h; rw [← hb]; exact h.1 0 (by omega)
 ·intro h; exact ⟨fun j hj => by rw [show j = 0 by omega, hb]; exact h, by omega, by omega⟩
theorem y3 {b : Bool} {c : Int} : lgB b c = true ↔ bn c = true ∧ (b = true → 57 < c) := by
 unfold lgB
 cases b <;> simp
theorem y4 {b : Bool} {c : Int} : lgB b c = false ↔ (bn c = false ∨ (b = true ∧ c ≤ 57)) := by
 unfold lgB
 cases b <;> cases bn c <;> simp
attribute [local irreducible] AWp AOps aa az OrOk ad ah
attribute [local irreducible] splS cE lgB isS bn
theorem oQ {G : Glo} (s : List UInt8) (hl : s.length ≤ 9223372036854775000) : FnIs Tryz.prog G 100 [.str s] (ca s).A := by
 have hGL : ad G [] := ab
 refine fn_x Tryz.func100 Tryz.call100 rfl rfl rfl rfl hGL ?_
 intro C hC
 have hN := fun i (h : i < s.length) => kS (G := G) ((s.take (i + 1)).drop i) (by rw [List.length_drop, List.length_take]; omega)
 repeat' (first | (conv => whnf); first | refine .w ?_ | refine .v ?_ | refine sc_c ?_ ?_ <;> (intro hb; try exact dd hb) | apply ae | apply an | (apply sc_i <;> intro hb) | (apply bx_i; intro hbd) | (apply aj; first | fail) | (apply am (i := 0) rfl; first | fail) | (apply ab_i; intro bl) | (apply as_i; intro va vk vc hva) | (apply av_i; intro v) | (apply ac_i; intro bl cap hcap) | apply bo_l | (apply nx_i <;> intro hnx) | exact rt_w | apply dw_q mixed hC hGL (by kernel_rfl) | (apply cq; assumption; (first | fail); exact rfl))
 all_goals try conv => whnf
 refine lp hC hGL (fun (x : Nat × Nat) => [(0, .str s), (3, .int .i64 x.2), (4, .int .i64 x.1)]) (fun _ => []) (fun x => x.2 ≤ x.1 ∧ x.1 ≤ s.length + 1 ∧ (x.1 = s.length + 1 → x.2 = s.length + 1) ∧ (∀ j, x.2 ≤ j → j < x.1 → aa s j ≠ 45 ∧ lgB (decide (x.2 = 0)) (aa s j : Int) = true) ∧ ca s = if x.2 = s.length + 1 then .none else cE (decide (x.2 = 0)) x.2 (splS 45 (s.drop x.2))) (fun x => s.length + 1 - x.1) (0, 0) ?_ ak rfl ?_
 ·exact ⟨Nat.le_refl _, Nat.zero_le _, fun h => by omega, fun j _ h => absurd h (Nat.not_lt_zero _), by rw [if_neg (by omega)]; rfl⟩
 rintro ⟨i, k⟩ ⟨h1, h2, h3, h4, h5⟩
 dsimp only at h1 h2 h3 h4 h5 ⊢
 by_cases hi : i < s.length
 ·have hN := hN i hi
  rw [ED hi] at hN
  have hE := fun h => uN h1 (by omega) h4 (.inr h) _ rfl
  have hB := fun hc hb => CJ h1 hi h4 hc hb _ rfl
  rw [if_neg (by omega)] at h5
  repeat' (first | (conv => whnf); first | refine .w ?_ | refine .v ?_ | refine sc_c ?_ ?_ <;> (intro hb; try exact dd hb) | apply ae | apply an | (apply sc_i <;> intro hb) | (apply bx_i; intro hbd) | (apply aj; first | exact hN) | (apply am (i := 0) rfl; first | exact hN) | (apply ab_i; intro bl) | (apply as_i; intro va vk vc hva) | (apply av_i; intro v) | (apply ac_i; intro bl cap hcap) | apply bo_l | (apply nx_i <;> intro hnx) | exact rt_w | apply dw_q mixed hC hGL (by kernel_rfl) | (apply cq; assumption; (first | exact hN); exact rfl))
  all_goals try conv => whnf
  ·apply al
   rw [h5, hB (by omega) (y4.2 (.inr ⟨by simp; omega, by omega⟩))]
   rfl
  ·refine nxt (i + 1, k) ?_ ?_ ak rfl
   ·refine ⟨by omega, by omega, fun h => by omega, fun j g1 g2 => ?_, by rw [if_neg (by omega)]; exact h5⟩
    by_cases g : j = i
    ·subst g; exact ⟨by omega, y3.2 ⟨by assumption, fun _ => by omega⟩⟩
    ·exact h4 j g1 (by omega)
   ·dsimp only; omega
  ·refine nxt (i + 1, k) ?_ ?_ ak rfl
   ·refine ⟨by omega, by omega, fun h => by omega, fun j g1 g2 => ?_, by rw [if_neg (by omega)]; exact h5⟩
    by_cases g : j = i
    ·subst g; exact ⟨by omega, y3.2 ⟨by assumption, fun h => by simp at h; omega⟩⟩
    ·exact h4 j g1 (by omega)
   ·dsimp only; omega
  ·apply al
   rw [h5, hB (by omega) (y4.2 (.inl hb))]
   rfl
  ·apply al
   have hE := hE (by omega)
   obtain rfl : i = k := by omega
   rw [h5, hE, if_pos rfl]
   rfl
  ·apply al
   have hE := hE (by omega)
   rw [h5, hE, if_neg (by omega), if_pos (by omega)]
   rfl
  ·have hE := hE (by omega)
   rw [if_neg (by omega), if_neg (by omega)] at hE
   refine nxt (i + 1, i + 1) ?_ ?_ ak rfl
   ·refine ⟨Nat.le_refl _, by omega, fun _ => by omega, fun j g1 g2 => by omega, ?_⟩
    rw [h5, hE]
    dsimp only
    by_cases g : i = s.length
    ·rw [if_pos g, if_pos (by omega)]
    ·rw [if_neg g, if_neg (by omega)]
     simp
   ·dsimp only; omega
 ·have hE := fun h => uN h1 h h4 (.inl (by omega)) _ rfl
  repeat' (first | (conv => whnf); first | refine .w ?_ | refine .v ?_ | refine sc_c ?_ ?_ <;> (intro hb; try exact dd hb) | apply ae | apply an | (apply sc_i <;> intro hb) | (apply bx_i; intro hbd) | (apply aj; first | fail) | (apply am (i := 0) rfl; first | fail) | (apply ab_i; intro bl) | (apply as_i; intro va vk vc hva) | (apply av_i; intro v) | (apply ac_i; intro bl cap hcap) | apply bo_l | (apply nx_i <;> intro hnx) | exact rt_w | apply dw_q mixed hC hGL (by kernel_rfl) | (apply cq; assumption; (first | fail); exact rfl))
  all_goals try conv => whnf
  ·apply al
   have hE := hE (by omega)
   rw [if_neg (by omega)] at h5
   obtain rfl : i = k := by omega
   rw [h5, hE, if_pos rfl]
   rfl
  ·apply al
   have hE := hE (by omega)
   rw [if_neg (by omega)] at h5
   rw [h5, hE, if_neg (by omega), if_pos (by omega)]
   rfl
  ·have hE := hE (by omega)
   rw [if_neg (by omega)] at h5
   rw [if_neg (by omega), if_neg (by omega)] at hE
   refine nxt (i + 1, i + 1) ?_ ?_ ak rfl
   ·refine ⟨Nat.le_refl _, by omega, fun _ => by omega, fun j g1 g2 => by omega, ?_⟩
    rw [h5, hE]
    dsimp only
    by_cases g : i = s.length
    ·rw [if_pos g, if_pos (by omega)]
    ·rw [if_neg g, if_neg (by omega)]
     simp
   ·dsimp only; omega
  ·apply al
   rw [h5, if_pos (h3 (by omega))]
   rfl
end
section
open Go Go.RowKit
theorem jw {s : List UInt8} {j : Nat} (h : j < s.length) : aa s j = s[j].toNat := by
 simp [aa, List.getD, h]
theorem u8_k {c : UInt8} {k : Nat} (hk : k < 256) : c = UInt8.ofNat k ↔ c.toNat = k := by
 constructor
 ·rintro rfl
  rw [UInt8.toNat_ofNat_of_lt' hk]
 ·intro h
  rw [← h, UInt8.ofNat_toNat]
def escF (c : UInt8) : List UInt8 := if c = 92 then [92, 92] else if c = 44 then [92, 44] else if c = 59 then [92, 59] else if c = 10 then [92, 110] else [c]
def escS (s : List UInt8) : List UInt8 := s.flatMap escF
theorem sL : escF 92 = [92, 92] := rfl
theorem sN : escF 44 = [92, 44] := rfl
theorem sM : escF 59 = [92, 59] := rfl
theorem sO : escF 10 = [92, 110] := rfl
theorem lc {c : UInt8} (h0 : c.toNat ≠ 92) (h1 : c.toNat ≠ 44) (h2 : c.toNat ≠ 59) (h3 : c.toNat ≠ 10) : escF c = [c] := by
 unfold escF
 rw [if_neg (by rintro rfl; exact h0 rfl), if_neg (by rintro rfl; exact h1 rfl), if_neg (by rintro rfl; exact h2 rfl), if_neg (by rintro rfl; exact h3 rfl)]
theorem fg : escS [] = [] := rfl
theorem js (c : UInt8) (s : List UInt8) : escS (c :: s) = escF c ++ escS s := rfl
theorem vo (s t : List UInt8) : escS (s ++ t) = escS s ++ escS t := by simp [escS]
theorem vp (c : UInt8) : 1 ≤ (escF c).length ∧ (escF c).length ≤ 2 := by
 unfold escF
 (repeat' split) <;> simp
theorem fh (s : List UInt8) : s.length ≤ (escS s).length ∧ (escS s).length ≤ 2 * s.length := by
 induction s with
 | nil => exact ⟨Nat.le_refl _, Nat.le_refl _⟩
 | cons c t ih =>
  have := vp c
  rw [js, List.length_append, List.length_cons]
  omega
theorem jq {s : List UInt8} {i : Nat} (h : i < s.length) : escS (s.take (i + 1)) = escS (s.take i) ++ escF s[i] := by
 rw [List.take_succ_eq_append_getElem h, vo]
 simp [escS]
theorem ld {s : List UInt8} {i : Nat} (h : s.length ≤ i) : escS (s.take i) = escS s := by rw [List.take_of_length_le h]
theorem jr {s : List UInt8} {i : Nat} : (escS (s.take i)).length + (escS (s.drop i)).length = (escS s).length := by
 rw [← List.length_append, ← vo, List.take_append_drop]
theorem zl {s : List UInt8} (h : (escS s).length = s.length) : escS s = s := by
 induction s with
 | nil => rfl
 | cons c t ih =>
  have h1 := vp c
  have h2 := fh t
  rw [js, List.length_append, List.length_cons] at h
  have h3 : (escF c).length = 1 := by omega
  rw [js, ih (by omega)]
  revert h3
  unfold escF
  (repeat' split) <;> simp
theorem xK (s : List UInt8) : (escS s).length = s.length + (s.countP (· == 10) + s.countP (· == 59) + s.countP (· == 44) + s.countP (· == 92)) := by
 induction s with
 | nil => rfl
 | cons c t ih =>
  rw [js, List.length_append, ih, List.countP_cons, List.countP_cons, List.countP_cons, List.countP_cons, List.length_cons]
  unfold escF
  by_cases h0 : c = 92
  ·subst h0; simp; omega
  ·by_cases h1 : c = 44
   ·subst h1; simp; omega
   ·by_cases h2 : c = 59
    ·subst h2; simp; omega
    ·by_cases h3 : c = 10
     ·subst h3; simp; omega
     ·simp [h0, h1, h2, h3]; omega
def tabN (N : Nat) (a0 a1 a2 a3 t : AVal) : List AVal := (((((List.replicate N (.raw (.slice none 0 0))).set 10 a0).set 59 a1).set 44 a2).set 92 a3) ++ [t]
def tabE (a0 a1 a2 a3 t : AVal) : List AVal := tabN 256 a0 a1 a2 a3 t
theorem BC (N : Nat) (a0 a1 a2 a3 t : AVal) : (tabN N a0 a1 a2 a3 t)[N]? = some t := by
 unfold tabN
 rw [List.getElem?_append_right (by simp)]
 simp
theorem BE (a0 a1 a2 a3 t : AVal) : (tabE a0 a1 a2 a3 t)[256]? = some t := BC 256 a0 a1 a2 a3 t
theorem BB {N n : Nat} {a0 a1 a2 a3 t : AVal} (hn : n < N) : (tabN N a0 a1 a2 a3 t)[n]? = some (if n = 92 then a3 else if n = 44 then a2 else if n = 59 then a1 else if n = 10 then a0 else .raw (.slice none 0 0)) := by
 unfold tabN
 rw [List.getElem?_append_left (by simpa using hn)]
 by_cases h3 : n = 92
 ·subst h3; rw [List.getElem?_set_self (by simpa using hn), if_pos rfl]
 ·rw [if_neg h3, List.getElem?_set_ne (Ne.symm h3)]
  by_cases h2 : n = 44
  ·subst h2; rw [List.getElem?_set_self (by simpa using hn), if_pos rfl]
  ·rw [if_neg h2, List.getElem?_set_ne (Ne.symm h2)]
   by_cases h1 : n = 59
   ·subst h1; rw [List.getElem?_set_self (by simpa using hn), if_pos rfl]
   ·rw [if_neg h1, List.getElem?_set_ne (Ne.symm h1)]
    by_cases h0 : n = 10
    ·subst h0; rw [List.getElem?_set_self (by simpa using hn), if_pos rfl]
    ·rw [if_neg h0, List.getElem?_set_ne (Ne.symm h0)]
     simp [hn]
theorem BD {n : Nat} {a0 a1 a2 a3 t : AVal} (hn : n < 256) : (tabE a0 a1 a2 a3 t)[n]? = some (if n = 92 then a3 else if n = 44 then a2 else if n = 59 then a1 else if n = 10 then a0 else .raw (.slice none 0 0)) := BB (N := 256) hn
theorem fH {A e : List UInt8} {N j : Nat} {c : UInt8} (hj : j = A.length) (h : A.length + e.length ≤ N) : (A ++ List.replicate (N - A.length) c).take j ++ e ++ (A ++ List.replicate (N - A.length) c).drop (j + e.length) = A ++ e ++ List.replicate (N - (A ++ e).length) c := by
 subst hj
 rw [List.take_left, List.drop_append, List.drop_eq_nil_of_le (by omega), List.nil_append, List.drop_replicate, List.length_append]
 congr 2
 omega
theorem zw {A : List UInt8} {N j : Nat} {c d : UInt8} (hj : j = A.length) (h : A.length < N) : (A ++ List.replicate (N - A.length) c).set j d = A ++ [d] ++ List.replicate (N - (A ++ [d]).length) c := by
 subst hj
 rw [List.set_append_right _ _ (Nat.le_refl _), Nat.sub_self, show N - A.length = (N - (A ++ [d]).length) + 1 by rw [List.length_append, List.length_singleton]; omega, List.replicate_succ, List.set_cons_zero, List.append_assoc]
 rfl
end
section
open Go
theorem cJ {l : List (List UInt8)} {k : Nat} : (l.getD k []).length ≤ Lib.lens l := by
 rw [List.getD_eq_getElem?_getD]
 cases h : l[k]? with
 | none => simp
 | some x =>
  have h1 := Lib.lens_take_succ l k x h
  have h2 := Lib.lens_take_le l (k + 1)
  simp only [Option.getD_some]
  omega
end
section
open Go Go.RowKit
def joinT (l : List (List UInt8)) : List UInt8 := Lib.join (l.map escS) [44]
def kW (l : List (List UInt8)) : Err := if l = [] then .errno 8 else .none
theorem pP {l : List (List UInt8)} {k : Nat} {f : List UInt8 → List UInt8} (h : k < l.length) : (l.map f).take (k + 1) = (l.map f).take k ++ [f (l.getD k [])] := by
 rw [List.take_succ_eq_append_getElem (by simpa using h), List.getElem_map, List.getD_eq_getElem?_getD, List.getElem?_eq_getElem h]
 rfl
theorem CG (l : List (List UInt8)) : Lib.lens (l.map escS) ≤ 2 * Lib.lens l := by
 induction l with
 | nil => exact Nat.le_refl _
 | cons x r ih =>
  have h1 := (fh x).2
  have e1 : Lib.lens (x :: r) = x.length + Lib.lens r := by simp [Lib.lens]
  have e2 : Lib.lens ((x :: r).map escS) = (escS x).length + Lib.lens (r.map escS) := by simp [Lib.lens]
  omega
theorem jf (l : List (List UInt8)) : (joinT l).length ≤ l.length + 2 * Lib.lens l := by
 cases l with
 | nil => simp [joinT, Lib.join_nil]
 | cons x r =>
  have h := CG (x :: r)
  unfold joinT
  rw [List.map_cons] at h ⊢
  rw [Lib.join_length, List.length_singleton, List.length_map, List.length_cons]
  omega
def bV (L : List (List (List UInt8))) : Nat := L.findIdx fun l => l.isEmpty
theorem kR (L : List (List (List UInt8))) : bV L ≤ L.length := List.findIdx_le_length
theorem mb {L : List (List (List UInt8))} {k : Nat} (h : k < L.length) (hk : k ≤ bV L) (hn : L.getD k [] = []) : bV L = k := by
 rcases Nat.lt_or_ge k (bV L) with h1 | h1
 ·have := List.not_of_lt_findIdx h1
  rw [List.getD_eq_getElem?_getD, List.getElem?_eq_getElem h] at hn
  simp only [Option.getD_some] at hn
  rw [hn] at this
  simp at this
 ·omega
theorem j4 {L : List (List (List UInt8))} {k : Nat} (h : k < L.length) (hk : k ≤ bV L) (hn : L.getD k [] ≠ []) : k + 1 ≤ bV L := by
 rcases Nat.lt_or_ge k (bV L) with h1 | h1
 ·exact h1
 ·exfalso
  have e : bV L = k := by omega
  have h2 : L.findIdx (fun l => l.isEmpty) < L.length := by show bV L < _; omega
  have := List.findIdx_getElem (w := h2)
  rw [List.getD_eq_getElem?_getD, List.getElem?_eq_getElem h] at hn
  apply hn
  simp only [Option.getD_some]
  have e2 : L[L.findIdx fun l => l.isEmpty] = L[k] := by congr 1
  rw [e2] at this
  exact List.isEmpty_iff.1 this
def cT (L : List (List (List UInt8))) : List UInt8 := if bV L < L.length then [] else Lib.join (L.map joinT) [59]
def dp (L : List (List (List UInt8))) : Err := if L = [] then .errno 8 else if bV L < L.length then .at 8 (bV L : Nat) else .none
def cC (L : List (List (List UInt8))) (i : Nat) : AVal := .list 1 (L.getD i []).length (aG (L.getD i []))
structure Small (L : List (List (List UInt8))) : Prop where
 n : L.length ≤ 2000000
 k : ∀ k, (L.getD k []).length ≤ 2000000 ∧ Lib.lens (L.getD k []) ≤ 2000000
theorem Ez {xs : List (List UInt8)} {M : Nat} (h : ∀ x, x ∈ xs → x.length ≤ M) : Lib.lens xs ≤ xs.length * M := by
 induction xs with
 | nil => simp [Lib.lens]
 | cons x r ih =>
  have e1 : Lib.lens (x :: r) = x.length + Lib.lens r := by simp [Lib.lens]
  have h1 := h x (by simp)
  have h2 := ih (fun y hy => h y (by simp [hy]))
  rw [List.length_cons, Nat.add_mul]
  omega
theorem oU {xs : List (List UInt8)} {M : Nat} {c : UInt8} (h : ∀ x, x ∈ xs → x.length ≤ M) (hn : xs.length ≤ 2000000) (hM : M ≤ 6000000) : (Lib.join xs [c]).length ≤ 140737488355328 := by
 cases xs with
 | nil => simp [Lib.join_nil]
 | cons x r =>
  have h1 := Ez h
  rw [Lib.join_length, List.length_singleton]
  have h2 : (x :: r).length * M ≤ 2000000 * 6000000 := Nat.mul_le_mul hn hM
  rw [List.length_cons] at hn
  omega
theorem nY {L : List (List (List UInt8))} (h : Small L) : (Lib.join (L.map joinT) [59]).length ≤ 140737488355328 := by
 refine oU (M := 6000000) (fun x hx => ?_) (by rw [List.length_map]; exact h.n) (Nat.le_refl _)
 obtain ⟨l, hl, rfl⟩ := List.mem_map.1 hx
 obtain ⟨k, hk, rfl⟩ := List.getElem_of_mem hl
 have h1 := h.k k
 rw [List.getD_eq_getElem?_getD, List.getElem?_eq_getElem hk] at h1
 simp only [Option.getD_some] at h1
 have := jf L[k]
 omega
theorem im {L : List (List (List UInt8))} {k : Nat} {f : List (List UInt8) → List UInt8} (h : k < L.length) : (L.map f).take (k + 1) = (L.map f).take k ++ [f (L.getD k [])] := by
 rw [List.take_succ_eq_append_getElem (by simpa using h), List.getElem_map, List.getD_eq_getElem?_getD, List.getElem?_eq_getElem h]
 rfl
end
section
open Go Go.RowKit
def hdC (lines : Bool) (c : Int) : Bool := decide ((c < 32 ∧ c ≠ 9 ∧ (c ≠ 10 ∨ lines = false)) ∨ c = 127)
def hdB (lines : Bool) (s : List UInt8) : Bool := decide (badI s < 0 ∧ fstB (hdC lines) s < 0)
end
section
open Go Go.RowKit
def Err.b : Err → Err
 | .none => .none
 | .errno e => .errno e
 | .at e _ => .errno e
theorem Err.b_e (x : Err) : x.b.e = x.e := by cases x <;> rfl
theorem Err.b_p (x : Err) : x.b.p = -1 := by cases x <;> rfl
structure Vl where
 t : Int
 s : List UInt8
 L : List (List (List UInt8))
 st : Stm
 n : Int
def Vl.A (v : Vl) : AVal := .agg [.int .i64 v.t, .str v.s, .list 1 v.L.length (cC v.L), .int .i64 v.st.y, .int .i64 v.st.m, .int .i64 v.st.d, .int .i64 v.st.h, .int .i64 v.st.i, .int .i64 v.st.s, .bool v.st.z, .int .i64 v.st.o, .int .i64 v.n]
def fW (t : Stm) : Bool := decide (t.y = 0 ∧ t.m = 0 ∧ t.d = 0 ∧ t.h = 0 ∧ t.i = 0 ∧ t.s = 0 ∧ t.z = false ∧ t.o = 0)
def Vl.only (v : Vl) : Bool := decide ((v.s.length = 0 ∨ v.t = 1 ∨ v.t = 4 ∨ v.t = 7 ∨ v.t = 8) ∧ (v.L.length = 0 ∨ v.t = 2 ∨ v.t = 3) ∧ (fW v.st = true ∨ v.t = 5) ∧ (v.n = 0 ∨ v.t = 6))
def hdL (L : List (List (List UInt8))) : Bool := L.all fun l => l.all (hdB true)
def ptsE (t : Int) (L : List (List (List UInt8))) : Err := if L.length = 0 ∨ (t = 2 ∧ L.length ≠ 1) then .errno 8 else if bV L < L.length then .errno 8 else if hdL L then .none else .errno 3
def Vl.E (v : Vl) : Err := if v.t < 1 ∨ 9 ≤ v.t ∨ v.only = false then .errno 1
 else if v.t = 2 ∨ v.t = 3 then ptsE v.t v.L
 else if v.t = 4 then (uriE v.s).b
 else if v.t = 5 then v.st.E
 else if v.t = 6 then zprE v.n
 else if v.t = 7 then (ca v.s).b
 else if hdB (decide (v.t = 1)) v.s then .none else .errno 3
def Vl.T (v : Vl) : List UInt8 := match v.E with
 | .none => if v.t = 1 then escS v.s else if v.t = 2 ∨ v.t = 3 then cT v.L else if v.t = 5 then v.st.T else if v.t = 6 then zprS v.n else v.s
 | _ => []
end
section
open Go Go.RowKit
def Vd (s : List UInt8) : Prop := badS s = none
theorem Bf : Vd [] := rfl
theorem yx {s : List UInt8} (h0 : s.length ≠ 0) (h : (aw s).2 ≠ 0) : Vd s ↔ Vd (s.drop (aw s).2) := by
 unfold Vd badS
 obtain ⟨k, hk⟩ := Nat.exists_eq_succ_of_ne_zero h0
 conv => lhs; rw [hk]
 simp only [badF]
 rw [if_neg h0, if_neg h, rp k (s.drop (aw s).2) (by rw [List.length_drop]; omega)]
 cases badF (s.drop (aw s).2).length (s.drop (aw s).2) <;> simp
theorem GW {s : List UInt8} (h0 : s.length ≠ 0) (h : Vd s) : (aw s).2 ≠ 0 := by
 intro hn
 unfold Vd badS at h
 obtain ⟨k, hk⟩ := Nat.exists_eq_succ_of_ne_zero h0
 rw [hk] at h
 simp only [badF] at h
 rw [if_neg h0, if_pos hn] at h
 cases h
theorem cA {a b : List UInt8} {k : Nat} (h : k < a.length) : aa (a ++ b) k = aa a k := by
 unfold aa
 rw [List.getD_eq_getElem?_getD, List.getD_eq_getElem?_getD, List.getElem?_append_left h]
theorem gp {a b : List UInt8} {k : Nat} (h : aW a k = true) : aW (a ++ b) k = true := by
 unfold aW at h ⊢
 rw [Bool.and_eq_true, decide_eq_true_eq] at h
 rw [cA h.1, h.2, Bool.and_true, decide_eq_true_eq, List.length_append]
 omega
theorem cR {a : List UInt8} {k : Nat} (h : aW a k = true) : k < a.length ∧ 128 ≤ aa a k := by
 unfold aW at h
 rw [Bool.and_eq_true, decide_eq_true_eq] at h
 have := eq_of_beq h.2
 exact ⟨h.1, by omega⟩
inductive NxU (s : List UInt8) : Nat → Prop
 | one : s.length ≠ 0 → aa s 0 < 128 → NxU s 1
 | two : s.length ≠ 0 → ¬ aa s 0 < 128 → aa s 0 / 32 = 6 → aW s 1 = true → 128 ≤ cp2 s → mayN (cp2 s) = true → NxU s 2
 | three : s.length ≠ 0 → ¬ aa s 0 < 128 → aa s 0 / 16 = 14 → aW s 1 = true → aW s 2 = true → 2048 ≤ cp3 s → mayN (cp3 s) = true → NxU s 3
 | four : s.length ≠ 0 → ¬ aa s 0 < 128 → aa s 0 / 8 = 30 → aW s 1 = true → aW s 2 = true → aW s 3 = true → 65536 ≤ cp4 s → mayN (cp4 s) = true → NxU s 4
theorem G8 {s : List UInt8} (h : (aw s).2 ≠ 0) : NxU s (aw s).2 := by
 by_cases h0 : s.length = 0
 ·exact absurd (by unfold aw; rw [if_pos h0]) h
 by_cases h1 : aa s 0 < 128
 ·have e : aw s = (aa s 0, 1) := by unfold aw; rw [if_neg h0, if_pos h1]
  rw [e]; exact .one h0 h1
 by_cases h2 : aa s 0 / 32 = 6
 ·have e : aw s = if aW s 1 && decide (128 ≤ cp2 s) && mayN (cp2 s) then (cp2 s, 2) else (0, 0) := by unfold aw; rw [if_neg h0, if_neg h1, if_pos h2]
  rw [e] at h ⊢
  split at h
  ·rename_i hc
   rw [if_pos hc]
   simp only [Bool.and_eq_true, decide_eq_true_eq] at hc
   exact .two h0 h1 h2 hc.1.1 hc.1.2 hc.2
  ·exact absurd rfl h
 by_cases h3 : aa s 0 / 16 = 14
 ·have e : aw s = if aW s 1 && aW s 2 && decide (2048 ≤ cp3 s) && mayN (cp3 s) then (cp3 s, 3) else (0, 0) := by unfold aw; rw [if_neg h0, if_neg h1, if_neg h2, if_pos h3]
  rw [e] at h ⊢
  split at h
  ·rename_i hc
   rw [if_pos hc]
   simp only [Bool.and_eq_true, decide_eq_true_eq] at hc
   exact .three h0 h1 h3 hc.1.1.1 hc.1.1.2 hc.1.2 hc.2
  ·exact absurd rfl h
 by_cases h4 : aa s 0 / 8 = 30
 ·have e : aw s = if aW s 1 && aW s 2 && aW s 3 && decide (65536 ≤ cp4 s) && mayN (cp4 s) then (cp4 s, 4) else (0, 0) := by unfold aw; rw [if_neg h0, if_neg h1, if_neg h2, if_neg h3, if_pos h4]
  rw [e] at h ⊢
  split at h
  ·rename_i hc
   rw [if_pos hc]
   simp only [Bool.and_eq_true, decide_eq_true_eq] at hc
   exact .four h0 h1 h4 hc.1.1.1.1 hc.1.1.1.2 hc.1.1.2 hc.1.2 hc.2
  ·exact absurd rfl h
 ·exact absurd (by unfold aw; rw [if_neg h0, if_neg h1, if_neg h2, if_neg h3, if_neg h4]) h
theorem G7 {s : List UInt8} {n : Nat} (h : NxU s n) : (aw s).2 = n := by
 cases h with
 | one h0 h1 => unfold aw; rw [if_neg h0, if_pos h1]
 | two h0 h1 h2 c1 p m => unfold aw; rw [if_neg h0, if_neg h1, if_pos h2, if_pos (by simp [c1, p, m])]
 | three h0 h1 h3 c1 c2 p m =>
  unfold aw; rw [if_neg h0, if_neg h1, if_neg (by omega), if_pos h3, if_pos (by simp [c1, c2, p, m])]
 | four h0 h1 h4 c1 c2 c3 p m =>
  unfold aw; rw [if_neg h0, if_neg h1, if_neg (by omega), if_neg (by omega), if_pos h4, if_pos (by simp [c1, c2, c3, p, m])]
theorem Ge {a b : List UInt8} {n : Nat} (h : NxU a n) : NxU (a ++ b) n := by
 have hl : a.length ≠ 0 → (a ++ b).length ≠ 0 := fun h => by rw [List.length_append]; omega
 cases h with
 | one h0 h1 => exact .one (hl h0) (by rwa [cA (by omega)])
 | two h0 h1 h2 c1 p m =>
  have e0 := cA (b := b) (show 0 < a.length by omega)
  have e1 := cA (b := b) (cR c1).1
  have e : cp2 (a ++ b) = cp2 a := by unfold cp2; rw [e0, e1]
  exact .two (hl h0) (by rwa [e0]) (by rwa [e0]) (gp c1) (by rwa [e]) (by rwa [e])
 | three h0 h1 h2 c1 c2 p m =>
  have e0 := cA (b := b) (show 0 < a.length by omega)
  have e : cp3 (a ++ b) = cp3 a := by unfold cp3; rw [e0, cA (cR c1).1, cA (cR c2).1]
  exact .three (hl h0) (by rwa [e0]) (by rwa [e0]) (gp c1) (gp c2) (by rwa [e]) (by rwa [e])
 | four h0 h1 h2 c1 c2 c3 p m =>
  have e0 := cA (b := b) (show 0 < a.length by omega)
  have e : cp4 (a ++ b) = cp4 a := by unfold cp4; rw [e0, cA (cR c1).1, cA (cR c2).1, cA (cR c3).1]
  exact .four (hl h0) (by rwa [e0]) (by rwa [e0]) (gp c1) (gp c2) (gp c3) (by rwa [e]) (by rwa [e])
theorem yV {a : List UInt8} {n : Nat} (h : NxU a n) : 0 < n ∧ n ≤ a.length ∧ (n = 1 → aa a 0 < 128) ∧ (n ≠ 1 → ∀ k, k < n → 128 ≤ aa a k) := by
 cases h with
 | one h0 h1 => exact ⟨by omega, by omega, fun _ => h1, fun h => absurd rfl h⟩
 | two h0 h1 h2 c1 p m =>
  have := cR c1
  exact ⟨by omega, by omega, fun h => by omega, fun _ k hk => by match k, hk with | 0, _ => omega | 1, _ => exact this.2⟩
 | three h0 h1 h2 c1 c2 p m =>
  have := cR c1
  have := cR c2
  exact ⟨by omega, by omega, fun h => by omega, fun _ k hk => by match k, hk with | 0, _ => omega | 1, _ => omega | 2, _ => omega⟩
 | four h0 h1 h2 c1 c2 c3 p m =>
  have := cR c1
  have := cR c2
  have := cR c3
  exact ⟨by omega, by omega, fun h => by omega, fun _ k hk => by match k, hk with | 0, _ => omega | 1, _ => omega | 2, _ => omega | 3, _ => omega⟩
theorem Ep {a : List UInt8} {n : Nat} (h : NxU a n) : NxU (a.take n) n := by
 have hle := yV h
 have hl : (a.take n).length = n := by rw [List.length_take]; omega
 have hb : ∀ k, k < n → aa (a.take n) k = aa a k := fun k hk => by
  conv => rhs; rw [← List.take_append_drop n a]
  rw [cA (by omega)]
 have hc : ∀ k, k < n → aW a k = true → aW (a.take n) k = true := fun k hk h => by
  unfold aW at h ⊢
  rw [Bool.and_eq_true] at h
  rw [hb k hk, h.2, hl, Bool.and_true, decide_eq_true_eq]
  exact hk
 cases h with
 | one h0 h1 => exact .one (by omega) (by rwa [hb 0 (by omega)])
 | two h0 h1 h2 c1 p m =>
  have e : cp2 (a.take 2) = cp2 a := by unfold cp2; rw [hb 0 (by omega), hb 1 (by omega)]
  exact .two (by omega) (by rwa [hb 0 (by omega)]) (by rwa [hb 0 (by omega)]) (hc 1 (by omega) c1) (by rwa [e]) (by rwa [e])
 | three h0 h1 h2 c1 c2 p m =>
  have e : cp3 (a.take 3) = cp3 a := by unfold cp3; rw [hb 0 (by omega), hb 1 (by omega), hb 2 (by omega)]
  exact .three (by omega) (by rwa [hb 0 (by omega)]) (by rwa [hb 0 (by omega)]) (hc 1 (by omega) c1) (hc 2 (by omega) c2) (by rwa [e]) (by rwa [e])
 | four h0 h1 h2 c1 c2 c3 p m =>
  have e : cp4 (a.take 4) = cp4 a := by unfold cp4; rw [hb 0 (by omega), hb 1 (by omega), hb 2 (by omega), hb 3 (by omega)]
  exact .four (by omega) (by rwa [hb 0 (by omega)]) (by rwa [hb 0 (by omega)]) (hc 1 (by omega) c1) (hc 2 (by omega) c2) (hc 3 (by omega) c3) (by rwa [e]) (by rwa [e])
theorem Bg {p : List UInt8 → Prop} (h0 : p []) (h1 : ∀ a b : List UInt8, NxU a a.length → Vd b → p b → p (a ++ b)) : ∀ s, Vd s → p s := by
 intro s
 induction hn : s.length using Nat.strongRecOn generalizing s with
 | _ n ih =>
  intro hv
  by_cases hz : s.length = 0
  ·rw [List.length_eq_zero_iff.1 hz]; exact h0
  have hne := GW hz hv
  have hx := G8 hne
  have hle := yV hx
  have hd := (yx hz hne).1 hv
  have := h1 (s.take (aw s).2) (s.drop (aw s).2) (by rw [List.length_take, Nat.min_eq_left hle.2.1]; exact Ep hx) hd (ih _ (by rw [List.length_drop]; omega) _ rfl hd)
  rwa [List.take_append_drop] at this
theorem rD {a b : List UInt8} (h : NxU a a.length) (hb : Vd b) : Vd (a ++ b) := by
 have hx := G7 (Ge (b := b) h)
 have hle := yV h
 refine (yx (by rw [List.length_append]; omega) (by omega)).2 ?_
 rw [hx, List.drop_left]
 exact hb
theorem Bh {a b : List UInt8} (ha : Vd a) (hb : Vd b) : Vd (a ++ b) := by
 refine Bg (p := fun a => Vd (a ++ b)) hb (fun x y hx _ ih => ?_) a ha
 rw [List.append_assoc]
 exact rD hx ih
theorem nN : ∀ {s : List UInt8}, (∀ c ∈ s, c.toNat < 128) → Vd s
 | [], _ => Bf
 | c :: t, h => rD (a := [c]) (.one (by simp) (h c (List.mem_cons_self ..))) (nN fun x hx => h x (List.mem_cons_of_mem _ hx))
theorem xL {c : UInt8} (h : c.toNat < 128) : ∀ x ∈ escF c, x.toNat < 128 := by
 unfold escF
 intro x hx
 split at hx
 ·simp only [List.mem_cons, List.not_mem_nil, or_false] at hx; rcases hx with rfl | rfl <;> decide
 split at hx
 ·simp only [List.mem_cons, List.not_mem_nil, or_false] at hx; rcases hx with rfl | rfl <;> decide
 split at hx
 ·simp only [List.mem_cons, List.not_mem_nil, or_false] at hx; rcases hx with rfl | rfl <;> decide
 split at hx
 ·simp only [List.mem_cons, List.not_mem_nil, or_false] at hx; rcases hx with rfl | rfl <;> decide
 ·simp only [List.mem_cons, List.not_mem_nil, or_false] at hx; rw [hx]; exact h
theorem EQ {c : UInt8} (h : 128 ≤ c.toNat) : escF c = [c] := by
 unfold escF
 rw [if_neg (fun e => by rw [e] at h; exact absurd h (by decide)), if_neg (fun e => by rw [e] at h; exact absurd h (by decide)), if_neg (fun e => by rw [e] at h; exact absurd h (by decide)), if_neg (fun e => by rw [e] at h; exact absurd h (by decide))]
theorem zm : ∀ {s : List UInt8}, (∀ c ∈ s, 128 ≤ c.toNat) → escS s = s
 | [], _ => rfl
 | c :: t, h => by
  have ih := zm (s := t) fun x hx => h x (List.mem_cons_of_mem _ hx)
  unfold escS at ih ⊢
  rw [List.flatMap_cons, ih, EQ (h c (List.mem_cons_self ..))]
  rfl
theorem FF {s : List UInt8} (h : Vd s) : Vd (escS s) := by
 refine Bg (p := fun s => Vd (escS s)) Bf (fun a b ha _ ih => ?_) s h
 have e : escS (a ++ b) = escS a ++ escS b := by unfold escS; exact List.flatMap_append
 rw [e]
 have hle := yV ha
 have hmem : ∀ c ∈ a, ∃ k, k < a.length ∧ c.toNat = aa a k := fun c hc => by
  obtain ⟨i, hi, rfl⟩ := List.getElem_of_mem hc
  exact ⟨i, hi, by unfold aa; rw [List.getD_eq_getElem?_getD, List.getElem?_eq_getElem hi]; rfl⟩
 by_cases h1 : a.length = 1
 ·refine Bh (nN fun x hx => ?_) ih
  unfold escS at hx
  obtain ⟨c, hc, hx⟩ := List.mem_flatMap.1 hx
  obtain ⟨k, hk, e⟩ := hmem c hc
  have := hle.2.2.1 h1
  rw [show k = 0 by omega] at e
  exact xL (by omega) x hx
 ·rw [zm fun c hc => by
   obtain ⟨k, hk, e⟩ := hmem c hc
   rw [e]
   exact hle.2.2.2 h1 k hk]
  exact rD ha ih
theorem ji {b : Bool} {s : List UInt8} : hdB b s = true ↔ Vd s ∧ ∀ c ∈ s, hdC b (c.toNat : Int) = false := by
 unfold hdB
 rw [decide_eq_true_eq]
 refine and_congr ?_ ?_
 ·unfold badI Vd
  cases badS s with
  | none => simp
  | some i => simp
 ·rcases gP (hdC b) s with ⟨h1, h2⟩ | ⟨m, h1, h2, h3, _⟩
  ·refine ⟨fun _ c hc => ?_, fun _ => by omega⟩
   obtain ⟨i, hi, rfl⟩ := List.getElem_of_mem hc
   have := h2 i hi
   unfold aa at this
   rwa [List.getD_eq_getElem?_getD, List.getElem?_eq_getElem hi] at this
  ·refine ⟨fun h => by omega, fun h => ?_⟩
   have := h s[m] (List.getElem_mem h1)
   unfold aa at h3
   rw [List.getD_eq_getElem?_getD, List.getElem?_eq_getElem h1] at h3
   rw [Option.getD_some, this] at h3
   cases h3
theorem Hc {b : Bool} {c : Nat} (h1 : 32 ≤ c) (h2 : c ≠ 127) : hdC b (c : Int) = false := by
 unfold hdC
 rw [decide_eq_false_iff_not]
 omega
def Gd (s : List UInt8) : Prop := ∀ c ∈ s, 32 ≤ c.toNat ∧ c.toNat < 127
theorem ek : Gd [] := fun c h => by cases h
theorem bL {a b : List UInt8} (ha : Gd a) (hb : Gd b) : Gd (a ++ b) := fun c h => (List.mem_append.1 h).elim (ha c) (hb c)
theorem k6 {s : List UInt8} (h : Gd s) : hdB false s = true := ji.2 ⟨nN fun c hc => by have := h c hc; omega, fun c hc => by have := h c hc; exact Hc (by omega) (by omega)⟩
theorem uZ {vs : List Int} (h : ∀ v ∈ vs, 32 ≤ v ∧ v < 127) : Gd (aU vs) := fun c hc => by
 unfold aU at hc
 obtain ⟨v, hv, rfl⟩ := List.mem_map.1 hc
 have := h v hv
 rw [UInt8.toNat_ofNat']
 omega
theorem bZ {n : Int} (h0 : 0 ≤ n) (h1 : n ≤ 99) : Gd (twoS n) := by
 refine uZ fun v hv => ?_
 simp only [List.mem_cons, List.not_mem_nil, or_false] at hv
 rcases hv with rfl | rfl <;> omega
theorem sG {n : Int} (h0 : 0 ≤ n) (h1 : n ≤ 9999) : Gd (eb n) := by
 refine uZ fun v hv => ?_
 simp only [List.mem_cons, List.not_mem_nil, or_false] at hv
 rcases hv with rfl | rfl | rfl | rfl <;> omega
theorem cW {s : List UInt8} (h : s.all (fun c => decide (32 ≤ c.toNat ∧ c.toNat < 127)) = true) : Gd s := fun c hc => of_decide_eq_true (List.all_eq_true.1 h c hc)
theorem xA (n : Int) : Gd (zprS n) ∧ (zprS n).length ≤ 10 := by
 unfold zprS
 cases hz : zrB n with
 | false => exact ⟨ek, Nat.zero_le _⟩
 | true =>
  have hb := tk.1 hz
  rw [if_pos rfl]
  split
  ·exact ⟨cW rfl, by decide⟩
  split
  ·exact ⟨bL (bL (cW rfl) (bZ (by omega) (by omega))) (bZ (by omega) (by omega)), by simp [twoS, aU]⟩
  ·exact ⟨bL (bL (cW rfl) (bZ (by omega) (by omega))) (bZ (by omega) (by omega)), by simp [twoS, aU]⟩
theorem EL {a b c : Bool} {y m d : Int} (hy : a = true → 0 ≤ y ∧ y ≤ 9999) (hm : b = true → 0 ≤ m ∧ m ≤ 99) (hd : c = true → 0 ≤ d ∧ d ≤ 99) : Gd (iM a b c y m d) ∧ (iM a b c y m d).length ≤ 20 := by
 cases a <;> cases b <;> cases c <;> simp only [iM] <;> refine ⟨?_, by simp [eb, twoS, aU]⟩
 ·exact ek
 ·exact bL (cW rfl) (bZ (hd rfl).1 (hd rfl).2)
 ·exact bL (cW rfl) (bZ (hm rfl).1 (hm rfl).2)
 ·exact bL (bL (cW rfl) (bZ (hm rfl).1 (hm rfl).2)) (bZ (hd rfl).1 (hd rfl).2)
 ·exact sG (hy rfl).1 (hy rfl).2
 ·exact ek
 ·exact bL (bL (sG (hy rfl).1 (hy rfl).2) (cW rfl)) (bZ (hm rfl).1 (hm rfl).2)
 ·exact bL (bL (sG (hy rfl).1 (hy rfl).2) (bZ (hm rfl).1 (hm rfl).2)) (bZ (hd rfl).1 (hd rfl).2)
theorem EJ {a b c : Bool} {y m d : Int} (hy : a = true → 0 ≤ y ∧ y ≤ 99) (hm : b = true → 0 ≤ m ∧ m ≤ 99) (hd : c = true → 0 ≤ d ∧ d ≤ 99) : Gd (g8 a b c y m d) ∧ (g8 a b c y m d).length ≤ 20 := by
 cases a <;> cases b <;> cases c <;> simp only [g8] <;> refine ⟨?_, by simp [twoS, aU]⟩
 ·exact ek
 ·exact bL (cW rfl) (bZ (hd rfl).1 (hd rfl).2)
 ·exact bL (cW rfl) (bZ (hm rfl).1 (hm rfl).2)
 ·exact bL (bL (cW rfl) (bZ (hm rfl).1 (hm rfl).2)) (bZ (hd rfl).1 (hd rfl).2)
 ·exact bL (cW rfl) (bZ (hy rfl).1 (hy rfl).2)
 ·exact ek
 ·exact bL (bL (cW rfl) (bZ (hy rfl).1 (hy rfl).2)) (bZ (hm rfl).1 (hm rfl).2)
 ·exact bL (bL (bL (cW rfl) (bZ (hy rfl).1 (hy rfl).2)) (bZ (hm rfl).1 (hm rfl).2)) (bZ (hd rfl).1 (hd rfl).2)
theorem CX (t : Stm) : Gd t.T ∧ t.T.length ≤ 60 := by
 unfold Stm.T
 split
 ·split
  ·rename_i _ h
   unfold Stm.rng at h
   simp only [Bool.and_eq_true, nM, gZ] at h
   obtain ⟨h1, h2, h3, h4, h5, h6, _⟩ := h
   have hday : t.day ≤ 31 := by
    unfold Stm.day dayN
    (repeat' split) <;> omega
   have d1 := EL (a := tlB t.y) (b := tlB t.m) (c := tlB t.d) (y := t.y) (m := t.m) (d := t.d) (fun h => by rw [gZ] at h; omega) (fun h => by rw [gZ] at h; omega) (fun h => by rw [gZ] at h; omega)
   have d2 := EJ (a := tlB t.h) (b := tlB t.i) (c := tlB t.s) (y := t.h) (m := t.i) (d := t.s) (fun h => by rw [gZ] at h; omega) (fun h => by rw [gZ] at h; omega) (fun h => by rw [gZ] at h; omega)
   have d3 : Gd (if t.z then zprS t.o else []) ∧ (if t.z then zprS t.o else []).length ≤ 10 := by
    split
    ·exact xA _
    ·exact ⟨ek, Nat.zero_le _⟩
   unfold Stm.txt
   refine ⟨bL (bL d1.1 d2.1) d3.1, ?_⟩
   rw [List.length_append, List.length_append]
   omega
  ·exact ⟨ek, Nat.zero_le _⟩
 ·exact ⟨ek, Nat.zero_le _⟩
theorem Gu {s : List UInt8} (h : uriE s = .none) : Gd s := by
 unfold uriE at h
 split at h
 ·cases h
 split at h
 ·cases h
 rename_i h2
 rcases gP cz s with ⟨_, g⟩ | ⟨m, g1, g2, _⟩
 ·intro c hc
  obtain ⟨i, hi, rfl⟩ := List.getElem_of_mem hc
  have := oG.1 (g i hi)
  unfold aa at this
  rw [List.getD_eq_getElem?_getD, List.getElem?_eq_getElem hi, Option.getD_some] at this
  omega
 ·omega
theorem b_none {x : Err} (h : x.b = .none) : x = .none := by
 cases x with
 | none => rfl
 | errno e => cases h
 | «at» e p => cases h
theorem CY {f : Bool} {a : Nat} {x : List UInt8} (h : (ct f a x).isNone = true) : Gd x := by
 unfold ct at h
 split at h
 ·cases h
 rename_i h2
 rcases gP (fun c => !lgB f c) x with ⟨_, g⟩ | ⟨m, g1, g2, _⟩
 ·intro c hc
  obtain ⟨i, hi, rfl⟩ := List.getElem_of_mem hc
  have := g i hi
  simp only [Bool.not_eq_false', lgB, Bool.and_eq_true] at this
  have := (me).1 this.1
  unfold aa at this
  rw [List.getD_eq_getElem?_getD, List.getElem?_eq_getElem hi, Option.getD_some] at this
  omega
 ·omega
theorem uY : ∀ {l : List (List UInt8)} {f : Bool} {a : Nat}, cE f a l = .none → ∀ x ∈ l, Gd x
 | [], _, _, _, x, h => by cases h
 | y :: l, f, a, h, x, hx => by
  simp only [cE] at h
  split at h
  ·rename_i hp
   rcases List.mem_cons.1 hx with rfl | hx
   ·exact CY hp
   ·exact uY h x hx
  ·rename_i hp
   rw [h] at hp
   exact absurd rfl hp
theorem sF {c : UInt8} (h0 : 32 ≤ c.toNat ∧ c.toNat < 127) : ∀ {s : List UInt8}, (∀ x ∈ splS c s, Gd x) → Gd s
 | [], _ => ek
 | y :: t, h => by
  have h2 : Gd t ∧ (32 ≤ y.toNat ∧ y.toNat < 127) := by
   by_cases hy : y = c
   ·rw [splS, if_pos hy] at h
    exact ⟨sF h0 fun x hx => h x (List.mem_cons_of_mem _ hx), by rw [hy]; exact h0⟩
   ·rw [splS, if_neg hy] at h
    cases h1 : splS c t with
    | nil =>
     rw [h1] at h
     exact ⟨sF h0 fun x hx => (by rw [h1] at hx; cases hx), h [y] (List.mem_cons_self ..) y (List.mem_cons_self ..)⟩
    | cons p r =>
     rw [h1] at h
     have g := h (y :: p) (List.mem_cons_self ..)
     refine ⟨sF h0 fun x hx => ?_, g y (List.mem_cons_self ..)⟩
     rw [h1] at hx
     rcases List.mem_cons.1 hx with rfl | hx
     ·exact fun c hc => g c (List.mem_cons_of_mem _ hc)
     ·exact h x (List.mem_cons_of_mem _ hx)
  exact fun x hx => by
   rcases List.mem_cons.1 hx with rfl | hx
   ·exact h2.2
   ·exact h2.1 x hx
theorem EK {s : List UInt8} (h : ca s = .none) : Gd s := sF (c := 45) (by decide) (uY h)
theorem CS {s : List UInt8} (h : hdB true s = true) : hdB false (escS s) = true := by
 obtain ⟨h1, h2⟩ := ji.1 h
 refine ji.2 ⟨FF h1, fun c hc => ?_⟩
 unfold escS at hc
 obtain ⟨x, hx, hc⟩ := List.mem_flatMap.1 hc
 have hx := h2 x hx
 unfold hdC at hx ⊢
 rw [decide_eq_false_iff_not] at hx ⊢
 by_cases e0 : x = 10
 ·rw [e0] at hc
  simp only [escF] at hc
  have hc : c ∈ ([92, 110] : List UInt8) := hc
  simp only [List.mem_cons, List.not_mem_nil, or_false] at hc
  rcases hc with rfl | rfl <;> decide
 have e10 : x.toNat ≠ 10 := fun h => e0 (UInt8.toNat_inj.1 h)
 unfold escF at hc
 split at hc
 ·simp only [List.mem_cons, List.not_mem_nil, or_false] at hc; rcases hc with rfl | rfl <;> decide
 split at hc
 ·simp only [List.mem_cons, List.not_mem_nil, or_false] at hc; rcases hc with rfl | rfl <;> decide
 split at hc
 ·simp only [List.mem_cons, List.not_mem_nil, or_false] at hc; rcases hc with rfl | rfl <;> decide
 ·simp only [List.mem_cons, List.not_mem_nil, or_false] at hc
  rw [hc]
  omega
theorem xt {a b : List UInt8} (ha : hdB false a = true) (hb : hdB false b = true) : hdB false (a ++ b) = true := by
 obtain ⟨h1, h2⟩ := ji.1 ha
 obtain ⟨h3, h4⟩ := ji.1 hb
 exact ji.2 ⟨Bh h1 h3, fun c hc => (List.mem_append.1 hc).elim (h2 c) (h4 c)⟩
theorem y9 {sep : List UInt8} (hs : hdB false sep = true) : ∀ {l : List (List UInt8)}, (∀ x ∈ l, hdB false x = true) → hdB false (Lib.joinTail sep l) = true
 | [], _ => k6 ek
 | x :: l, h => by
  rw [show Lib.joinTail sep (x :: l) = (sep ++ x) ++ Lib.joinTail sep l by simp [Lib.joinTail]]
  exact xt (xt hs (h x (List.mem_cons_self ..))) (y9 hs fun y hy => h y (List.mem_cons_of_mem _ hy))
theorem za {sep : List UInt8} (hs : hdB false sep = true) {l : List (List UInt8)} (h : ∀ x ∈ l, hdB false x = true) : hdB false (Lib.join l sep) = true := by
 cases l with
 | nil => rw [Lib.join_nil]; exact k6 ek
 | cons x l => rw [Lib.join_cons]; exact xt (h x (List.mem_cons_self ..)) (y9 hs fun y hy => h y (List.mem_cons_of_mem _ hy))
theorem CR {t : Int} {L : List (List (List UInt8))} (h : ptsE t L = .none) : hdB false (cT L) = true := by
 unfold ptsE at h
 split at h
 ·cases h
 split at h
 ·cases h
 split at h
 ·rename_i h1 h2 h3
  unfold cT
  rw [if_neg h2]
  refine za (k6 (cW rfl)) fun x hx => ?_
  obtain ⟨l, hl, rfl⟩ := List.mem_map.1 hx
  unfold joinT
  refine za (k6 (cW rfl)) fun y hy => ?_
  obtain ⟨z, hz, rfl⟩ := List.mem_map.1 hy
  unfold hdL at h3
  exact CS (List.all_eq_true.1 (List.all_eq_true.1 h3 l hl) z hz)
 ·cases h
theorem Vl.T_hd (v : Vl) : hdB false v.T = true := by
 unfold Vl.T
 split
 ·rename_i h
  unfold Vl.E at h
  split at h
  ·cases h
  split
  ·rename_i h1
   rw [if_neg (by omega), if_neg (by omega), if_neg (by omega), if_neg (by omega), if_neg (by omega)] at h
   split at h
   ·rename_i g
    rw [decide_eq_true h1] at g
    exact CS g
   ·cases h
  split
  ·rename_i h1 h2
   rw [if_pos h2] at h
   exact CR h
  split
  ·exact k6 (CX _).1
  split
  ·exact k6 (xA _).1
  ·rename_i h1 h2 h5 h6
   rw [if_neg h2] at h
   by_cases h4 : v.t = 4
   ·rw [if_pos h4] at h
    exact k6 (Gu (b_none h))
   rw [if_neg h4, if_neg h5, if_neg h6] at h
   by_cases h7 : v.t = 7
   ·rw [if_pos h7] at h
    exact k6 (EK (b_none h))
   rw [if_neg h7] at h
   split at h
   ·rename_i g
    rw [decide_eq_false h1] at g
    exact g
   ·cases h
 ·exact k6 ek
theorem Vl.T_len {v : Vl} (hs : v.s.length ≤ 2000000) (hL : Small v.L) : v.T.length ≤ 140737488355328 := by
 unfold Vl.T
 split
 ·split
  ·have := (fh v.s).2
   omega
  split
  ·unfold cT
   split
   ·exact Nat.zero_le _
   ·refine oU (M := 6000000) (fun x hx => ?_) (by rw [List.length_map]; exact hL.n) (Nat.le_refl _)
    obtain ⟨l, hl, rfl⟩ := List.mem_map.1 hx
    obtain ⟨i, hi, rfl⟩ := List.getElem_of_mem hl
    have h1 := hL.k i
    rw [List.getD_eq_getElem?_getD, List.getElem?_eq_getElem hi, Option.getD_some] at h1
    have := jf v.L[i]
    omega
  split
  ·have := (CX v.st).2
   omega
  split
  ·have := (xA v.n).2
   omega
  ·omega
 ·exact Nat.zero_le _
end
section
open Go Go.RowKit
structure Pr where
 n : List UInt8
 vs : List (List UInt8)
def Pr.z : Pr := ⟨[], []⟩
instance : Inhabited Pr := ⟨Pr.z⟩
structure Ln where
 g : List UInt8
 n : List UInt8
 ps : List Pr
 v : List UInt8
def prF (ps : List Pr) (i : Nat) : AVal := .agg [.str (ps.getD i Pr.z).n, .list 1 (ps.getD i Pr.z).vs.length (aG (ps.getD i Pr.z).vs)]
def Ln.A (p : Ln) : AVal := .agg [.str p.g, .str p.n, .list 2 p.ps.length (prF p.ps), .str p.v]
structure Ln.OK (N : Nat) (p : Ln) : Prop where
 g : p.g.length ≤ N
 n : p.n.length ≤ N
 v : p.v.length ≤ N
 ps : p.ps.length ≤ N
 q : ∀ k, (p.ps.getD k Pr.z).n.length ≤ N ∧ (p.ps.getD k Pr.z).vs.length ≤ N ∧ Lib.lens (p.ps.getD k Pr.z).vs ≤ N
structure Ln.Fit (p : Ln) : Prop where
 g : p.g.length ≤ 2500
 n : p.n.length ≤ 2500
 v : p.v.length ≤ 140737488355328
 ps : p.ps.length ≤ 2500
 q : ∀ k, (p.ps.getD k Pr.z).n.length ≤ 2500 ∧ (p.ps.getD k Pr.z).vs.length ≤ 2500 ∧ Lib.lens (p.ps.getD k Pr.z).vs ≤ 2500
theorem Ln.OK.fit {p : Ln} (h : p.OK 2500) : p.Fit := ⟨h.g, h.n, by have := h.v; omega, h.ps, h.q⟩
theorem aN {p : Nat → Prop} {k : Nat} (h : ∀ j, j < k → p j) (hk : p k) : ∀ j, j < k + 1 → p j := fun j hj => by
 rcases Nat.lt_or_ge j k with g | g
 ·exact h j g
 ·rw [show j = k by omega]; exact hk
end
section
open Go Go.RowKit
abbrev Itm := Ln × Vl
def Itm.z : Itm := (⟨[], [], [], []⟩, ⟨0, [], [], ⟨0, 0, 0, 0, 0, 0, false, 0⟩, 0⟩)
instance : Inhabited Itm := ⟨Itm.z⟩
abbrev y7 (x : Itm) : List AVal := [.str x.1.g, .str x.1.n, .list 2 x.1.ps.length (prF x.1.ps), .int .i64 x.2.t, .str x.2.s, .list 1 x.2.L.length (cC x.2.L), .int .i64 x.2.st.y, .int .i64 x.2.st.m, .int .i64 x.2.st.d, .int .i64 x.2.st.h, .int .i64 x.2.st.i, .int .i64 x.2.st.s, .bool x.2.st.z, .int .i64 x.2.st.o, .int .i64 x.2.n]
def itR (x : Itm) : AVal := .agg (y7 x)
def itsF (l : List Itm) (i : Nat) : AVal := itR (l.getD i Itm.z)
structure Crd where
 v : Int
 l : List Itm
def Crd.A (c : Crd) : AVal := .agg [.int .i64 c.v, .list 15 c.l.length (itsF c.l)]
def Itm.p (x : Itm) : Ln := ⟨x.1.g, x.1.n, x.1.ps, []⟩
structure Itm.OK (N : Nat) (x : Itm) : Prop where
 p : x.p.OK N
 s : x.2.s.length ≤ N
 L : Small x.2.L
def Crd.fine (c : Crd) : Prop := c.l.length ≤ 70 ∧ ∀ x ∈ c.l, Itm.OK 2500 x
theorem eZ {p : Itm → Prop} {l : List Itm} (h : ∀ x ∈ l, p x) {k : Nat} (hk : k < l.length) : p (l.getD k Itm.z) := by
 rw [List.getD_eq_getElem?_getD, List.getElem?_eq_getElem hk]
 exact h _ (List.getElem_mem hk)
theorem y6 {p : Itm → Prop} {l : List Itm} (h : ∀ k, k < l.length → p (l.getD k Itm.z)) : ∀ x ∈ l, p x := by
 intro x hx
 obtain ⟨i, hi, rfl⟩ := List.getElem_of_mem hx
 have := h i hi
 rwa [List.getD_eq_getElem?_getD, List.getElem?_eq_getElem hi] at this
end
section
open Go Go.RowKit
attribute [local irreducible] AWp AOps aa az OrOk ad ah
theorem tE {G : Glo} {m : Int} (hU : ad G (bI m)) (s : List UInt8) (c : UInt8) (hl : s.length < 100000) : FnIs Tryz.prog G 62 [.str s, .str [c]] (.tuple [.str (Lib.cut s [c]).1, .str (Lib.cut s [c]).2.1, .bool (Lib.cut s [c]).2.2]) := by
 refine ib (.tuple #[.string ⟨(Lib.cut s [c]).1.toArray⟩, .string ⟨(Lib.cut s [c]).2.1.toArray⟩, .bool (Lib.cut s [c]).2.2]) (fun R => B1 (aC.2 rfl) (aC.2 rfl) (aE.2 rfl)) Tryz.call62 ?_
 rintro R args ⟨x, t, e, hx, y, t', e', hy, rfl⟩ w hG hs
 obtain rfl := aC.1 hx
 obtain rfl := aC.1 hy
 subst e'
 obtain rfl := dL e
 refine (Tryz.strings_Cut ⟨s.toArray⟩ ⟨#[c]⟩ m w (by rw [aY]; omega) (oJ hU hG hs)).mono ?_
 rintro e w' ⟨rfl, k, rfl⟩
 exact ⟨by simp, ⟨rfl, rfl, rfl, Nat.le_refl _, fun _ _ => rfl⟩⟩
theorem strconv_Itoa {G : Glo} (hP : co G) (n : Nat) (hn : n ≤ 9223372036854775807) : FnIs Tryz.prog G 37 [.int .i64 (n : Int)] (.str (Lib.decDigits n)) := by
 refine bi rfl Tryz.call37 ?_
 rintro R args ⟨x, t, e, hx, rfl⟩ w hG hs
 obtain rfl := aq.1 hx
 obtain rfl := dL e
 have ht : Lib.TabIs Tryz.prog w "internal/strconv.uint64pow10" .u64 Lib.pow10Tab := by
  obtain ⟨e, fz, hR⟩ := hP R hG
  have hg : Tryz.prog.globalNamed "internal/strconv.uint64pow10" = some 7 := by kernel_rfl
  show w.var? Tryz.prog "internal/strconv.uint64pow10" = _
  simp only [World.var?, hg, Option.bind_some, hs _ _ hR]
 refine (Tryz.strconv_Itoa n (by omega) (by omega) w ht).mono ?_
 rintro e w' ⟨rfl, k, os, rfl⟩
 refine ⟨?_, ⟨rfl, rfl, rfl, ?_, fun b hb => ?_⟩⟩
 ·have : Lib.itoa (n : Int) = Lib.decDigits n := by unfold Lib.itoa; rw [if_neg (by omega)]; rfl
  rw [this]
  rfl
 ·show w.heap.size ≤ (w.heap ++ os).size
  rw [Array.size_append]; omega
 ·show (w.heap ++ os)[b]? = w.heap[b]?
  rw [Array.getElem?_append_left hb]
end
section
open Go Go.RowKit
/-! ## Values that are known whole -/
def Do : AVal → Option Value
 | .own _ v => some v
 | .raw v => some v
 | .int k n => some (.int k n)
 | .bool b => some (.bool b)
 | _ => none
def pu : List AVal → Option (List Value)
 | [] => some []
 | a :: t => match Do a, pu t with
  | some v, some r => some (v :: r)
  | _, _ => none
theorem EX {R : Seal} {a : AVal} {v x : Value} (h : Do a = some v) (hr : Rel R a x) : x = v := by
 cases a <;> simp only [Do, Option.some.injEq, reduceCtorEq] at h <;> subst h
 ·exact aE.1 hr
 ·exact aq.1 hr
 ·exact ar.1 hr
 ·exact (aJ.1 hr).1
theorem lj {R : Seal} : ∀ {l : List AVal} {vs xs : List Value}, pu l = some vs → RelV R l xs → xs = vs
 | [], vs, xs, h, hr => by
  simp only [pu, Option.some.injEq] at h
  subst h
  simpa [RelV] using hr
 | a :: t, vs, xs, h, hr => by
  simp only [pu] at h
  split at h
  ·rename_i v r hv ht
   simp only [Option.some.injEq] at h
   subst h
   obtain ⟨x, ys, rfl, h1, h2⟩ := hr
   rw [EX hv h1, lj ht h2]
  ·cases h
def Da (env : Env) (fv : Operand) (args : List Operand) : Option Deferred :=
 match ai env fv with
 | some (.func (.func f) l1 l2) => match pu l1, eh env args, pu l2 with
  | some x1, some avs, some x2 => match pu avs with
   | some xs => some { target := .fn (.func f) x2.toArray, args := (x1 ++ xs).toArray }
   | none => none
  | _, _, _ => none
 | _ => none
theorem tz {P : Program} {o : Oper} {a : Act} {next next' : Act → World → Prop} {Q Q' : Exit → Act → World → Prop} {r : Result Next} (hn : ∀ a w, next a w → next' a w)
  (hp : ∀ ch a w, Q (.panic ch) a w → Q' (.panic ch) a w) (ho : LetsOut Q → LetsOut Q') (hh : o.upon P a next Q r) : o.upon P a next' Q' r := by
 cases r with
 | ok n w' =>
  cases n <;> simp only [Oper.upon] at hh ⊢ <;>
   first
    | exact hn _ _ hh
    | exact Calls.mono hh (fun e w'' he => by cases e <;> first | exact hn _ _ he | exact hp _ _ _ he | exact ho he)
    | exact Rows.mono hh (fun _ _ he => hn _ _ he)
 | halt x w' => cases x <;> simp only [Oper.upon] at hh ⊢ <;> exact hp _ _ _ hh
def Bz (P : Program) (ops : Array Oper) (l : List Oper) (Q : Exit → Act → World → Prop) : Exit → Act → World → Prop
 | .normal, a, w => wpList P ops Q l a w
 | e, a, w => Q e a w
theorem jS {P : Program} {ops : Array Oper} {l : List Oper} {Q : Exit → Act → World → Prop} : ∀ {pre : List Oper} {a : Act} {w : World}, wpList P ops (Bz P ops l Q) pre a w → wpList P ops Q (pre ++ l) a w
 | [], a, w, h => h
 | o :: pre, a, w, h => by
  simp only [List.cons_append, wpList] at h ⊢
  split
  ·rename_i hw
   rw [if_pos hw] at h
   rcases h with h | ⟨h1, h2⟩
   ·exact .inl (tz (fun _ _ => jS) (fun _ _ _ => id) (fun ⟨a, w, q⟩ => ⟨a, w, q⟩) h)
   ·exact .inr ⟨h1, h2⟩
  ·rename_i hw
   rw [if_neg hw] at h
   exact jS h
/-! ## The spine -/
def withD (C : Ctx) (D : List Deferred) : Ctx := ⟨C.w0, C.R0, C.B0, C.G, C.hG, D⟩
theorem MS.withD {C : Ctx} {R : Seal} {H : Heap} {w : World} (h : MS C R H w) (D : List Deferred) : MS (withD C D) R H w := ⟨h.sealed, h.ge, h.fresh, h.heap, h.own, h.ext⟩
theorem MS.ofD {C : Ctx} {R : Seal} {H : Heap} {w : World} {D : List Deferred} (h : MS (Proofs.YtahebkecmlmlfaaGreatDoor.withD C D) R H w) : MS C R H w := ⟨h.sealed, h.ge, h.fresh, h.heap, h.own, h.ext⟩
def DQ (C : Ctx) (n : Nat) (Q : List Deferred → AExit → Env → Heap → Prop) (e : Exit) (a : Act) (w : World) : Prop :=
 ∃ D x env H R, Q D x env H ∧ aD R x e ∧ MS C R H w ∧ FS D n R env a
def AWpD (P : Program) (C : Ctx) (n : Nat) (c : Code) (env : Env) (H : Heap) (Q : List Deferred → AExit → Env → Heap → Prop) : Prop :=
 ∀ R a w, MS C R H w → FS C.D n R env a → c.wp P (DQ C n Q) a w
section
variable {P : Program} {C : Ctx} {n : Nat} {env : Env} {H : Heap} {Q : List Deferred → AExit → Env → Heap → Prop} {G : Glo} {GL : List (Nat × List AVal)}
theorem DD {c : Code} (h : AWp P C n c env H (Q C.D)) : AWpD P C n c env H Q :=
 fun R a w hm hf => wp_mono (h R a w hm hf) fun _ _ _ ⟨x, en, H', R', q, r⟩ => ⟨C.D, x, en, H', R', q, r⟩
theorem iT [Tab P] (hC : C.G = G) (hGL : ad G GL) {c : Code} (h : dB P C n G GL c env H (Q C.D)) : AWpD P C n c env H Q := DD (bJ hC hGL _ _ _ _ h)
def GY (K : List Deferred → Env → Heap → Prop) (Q : List Deferred → AExit → Env → Heap → Prop) : List Deferred → AExit → Env → Heap → Prop
 | D, .normal, e, h => K D e h
 | D, x, e, h => Q D x e h
theorem gU {x y : Code} (h : AWpD P C n x env H (GY (fun D e h => AWpD P (withD C D) n y e h Q) Q)) : AWpD P C n (.seq x y) env H Q := by
 intro R a w hm hf
 refine wp_seq (wp_mono (h R a w hm hf) ?_)
 rintro e a' w' ⟨D, x, en, H', R', q, er, hm', hf'⟩
 cases x with
 | normal =>
  simp only [aD] at er; subst er
  exact wp_mono (q R' a' w' (hm'.withD D) hf') fun _ _ _ ⟨D2, x, en, H', R', q, er, hm2, hf2⟩ => ⟨D2, x, en, H', R', q, er, hm2.ofD, hf2⟩
 | exit i => simp only [aD] at er; subst er; exact ⟨D, .exit i, en, H', R', q, rfl, hm', hf'⟩
 | goto i => simp only [aD] at er; subst er; exact ⟨D, .goto i, en, H', R', q, rfl, hm', hf'⟩
 | ret => simp only [aD] at er; subst er; exact ⟨D, .ret, en, H', R', q, rfl, hm', hf'⟩
 | panic v => obtain ⟨y, rfl, hr⟩ := er; exact ⟨D, .panic v, en, H', R', q, ⟨y, rfl, hr⟩, hm', hf'⟩
theorem DE {c : Operand} {x y : Code} {b : Bool} (hc : ai env c = some (.bool b)) (ht : b = true → AWpD P C n x env H Q) (hf : b = false → AWpD P C n y env H Q) : AWpD P C n (.cond c x y) env H Q := by
 intro R a w hm hfs
 refine wp_cond (aE.1 (hfs.eval hc)) ?_
 cases b with
 | true => exact ht rfl R a w hm hfs
 | false => exact hf rfl R a w hm hfs
structure Df (d : Option Deferred) (K : Deferred → Prop) : Prop where
 h : ∃ x, d = some x ∧ K x
def defQ (C : Ctx) (fv : Operand) (args : List Operand) (Q : List Deferred → AExit → Env → Heap → Prop) : AExit → Env → Heap → Prop
 | .normal, e, h => Df (Da e fv args) fun d => Q (d :: C.D) .normal e h
 | x, e, h => Q C.D x e h
theorem rt [Tab P] {id : Nat} {ops : Array Oper} {fv : Operand} {args : Array Operand} {ts : Array TypeId} {ty : TypeId} {pos : String} {af : Array Edge} (hC : C.G = G) (hGL : ad G GL)
  (hl : ops.toList = ops.toList.dropLast ++ [{ dst := none, op := .defer { callee := .value fv, args := args, argTypes := ts }, type := ty, pos := pos, after := af, guard := none }])
  (h : opsX P C n G GL ops (defQ C fv args.toList Q) ops.toList.dropLast env H) : AWpD P C n (.region id ops false) env H Q := by
 intro R a w hm hf
 refine wp_region_list ?_
 rw [hl]
 refine jS ?_
 have h1 := cw (C := C) hC hGL _ _ _ h R a w hm hf
 have key : ∀ {l : List Oper} {a w}, wpList P ops (Post C n (defQ C fv args.toList Q)) l a w → wpList P ops (Bz P ops [{ dst := none, op := .defer { callee := .value fv, args := args, argTypes := ts }, type := ty, pos := pos, after := af, guard := none }] (DQ C n Q)) l a w := by
  have hq : ∀ e a w, Post C n (defQ C fv args.toList Q) e a w → Bz P ops [{ dst := none, op := .defer { callee := .value fv, args := args, argTypes := ts }, type := ty, pos := pos, after := af, guard := none }] (DQ C n Q) e a w := by
   rintro e a' w' ⟨x, en, H', R', q, er, hm', hf'⟩
   cases x with
   | normal =>
    simp only [aD] at er; subst er
    obtain ⟨d, hd, q⟩ := Df.h q
    refine wpList_plain rfl fun K hK => ?_
    have hrun : (execOp a'.eval { dst := none, op := .defer { callee := .value fv, args := args, argTypes := ts }, type := ty, pos := pos, after := af, guard := none : Oper }).run P w' = .ok (.defer d) w' := by
     unfold Da at hd
     split at hd
     ·rename_i f l1 l2 hfv
      split at hd
      ·rename_i x1 avs x2 h1 h2 h3
       split at hd
       ·rename_i xs h4
        simp only [Option.some.injEq] at hd
        subst hd
        obtain ⟨⟨y1, y2, ey, r1, r2⟩, _⟩ := aQ (hf'.eval hfv) rfl, trivial
        simp only [List.cons.injEq, and_true] at ey
        have e1 := lj h1 r1
        have e2 := lj h3 r2
        have e3 := lj h4 (df (fun x av h => hf'.eval h) h2)
        have e3' : (args.map a'.eval) = xs.toArray := by
         apply Array.ext'
         simpa using e3
        have e1' : y1 = x1.toArray := by apply Array.ext'; simpa using e1
        have e2' : y2 = x2.toArray := by apply Array.ext'; simpa using e2
        simp only [execOp, resolve, ey, e3', e1', e2', Deferred.ofValue, Sem.run_bind, Sem.run_pure, Result.andThen_ok]
        simp
       ·cases hd
      ·cases hd
     ·cases hd
    rw [Oper.wp, hrun, Oper.upon_defer]
    refine hK _ _ (wpList_nil ⟨_, .normal, en, H', R', q, rfl, hm', ?_⟩)
    exact ⟨fun k v x => hf'.fr k v x, hf'.size, by show _ :: a'.defers = _; rw [hf'.defers]⟩
   | exit i => simp only [aD] at er; subst er; exact ⟨C.D, .exit i, en, H', R', q, rfl, hm', hf'⟩
   | goto i => simp only [aD] at er; subst er; exact ⟨C.D, .goto i, en, H', R', q, rfl, hm', hf'⟩
   | ret => simp only [aD] at er; subst er; exact ⟨C.D, .ret, en, H', R', q, rfl, hm', hf'⟩
   | panic v => obtain ⟨y, rfl, hr⟩ := er; exact ⟨C.D, .panic v, en, H', R', q, ⟨y, rfl, hr⟩, hm', hf'⟩
  intro l
  induction l with
  | nil => exact fun {a w} h => hq _ _ _ h
  | cons o r ih =>
   intro a w h
   simp only [wpList] at h ⊢
   split
   ·rename_i hw
    rw [if_pos hw] at h
    rcases h with h | ⟨h1, b, w2, x, en, H', R', q, er, _⟩
    ·exact .inl (tz (fun _ _ => ih) (fun _ _ _ => hq _ _ _) (fun ⟨a, w, q⟩ => ⟨a, w, hq _ _ _ q⟩) h)
    ·exact .inr ⟨h1, b, w2, hq _ _ _ ⟨x, en, H', R', q, er, by assumption⟩⟩
   ·rename_i hw
    rw [if_neg hw] at h
    exact ih h
 exact key h1
end
end
section
open Go Go.RowKit
inductive AMode where
 | ret
 | pan (v : AVal)
 | rcv (v : AVal)
def dT (R : Seal) : AMode → FrameMode → Prop
 | .ret, u => u = .returning
 | .pan v, u => ∃ x, u = .panicking [{ v := x, recovered := false }] ∧ Rel R v x
 | .rcv v, u => ∃ x, u = .panicking [{ v := x, recovered := true }] ∧ Rel R v x
theorem dT.mono {R R' : Seal} (h : R.le R') : ∀ {m : AMode} {u : FrameMode}, dT R m u → dT R' m u
 | .ret, _, x => x
 | .pan _, _, ⟨y, e, r⟩ => ⟨y, e, dY h r⟩
 | .rcv _, _, ⟨y, e, r⟩ => ⟨y, e, dY h r⟩
def AMode.settle : AMode → AMode
 | .ret => .ret
 | .pan v => .pan v
 | .rcv _ => .ret
theorem wo {R : Seal} : ∀ {m : AMode} {u : FrameMode}, dT R m u → dT R m.settle (Go.settle u)
 | .ret, _, rfl => rfl
 | .pan _, _, ⟨y, rfl, r⟩ => ⟨y, rfl, r⟩
 | .rcv _, _, ⟨y, rfl, _⟩ => rfl
theorem uH {R : Seal} : ∀ {m : AMode} {u : FrameMode}, dT R m u → u ≠ .run
 | .ret, _, rfl => by simp
 | .pan _, _, ⟨_, rfl, _⟩ => by simp
 | .rcv _, _, ⟨_, rfl, _⟩ => by simp
def fL (P : Program) (G : Glo) (f : FuncId) (avs : List AVal) (m : AMode) (H : Heap) (Qd : ARes → AMode → Heap → Prop) : Prop :=
 ∀ R w args u (hG : G.p R), MS ⟨w, R, blks H, G, hG, []⟩ R H w → RelV R avs args.toList → dT R m u →
  CallsD P f args u w fun e u' w' => ∃ res m' H' R', Qd res m' H' ∧ fV R' res e ∧ dT R' m' u' ∧ MS ⟨w, R, blks H, G, hG, []⟩ R' H' w'
section
variable {P : Program} [Tab P] {G : Glo} {GL : List (Nat × List AVal)} {n : Nat} {H : Heap} {m : AMode}
theorem yp {R : Seal} {avs : List AVal} {args : Array Value} {n : Nat} (hlen : Nat.ble avs.length n = true) (ha : RelV R avs args.toList) :
  FS [] n R (cY 0 avs) { tmps := args ++ Array.replicate (n - args.size) undef, defers := [] } := by
 have hl := fw ha
 have hlen := Nat.le_of_ble_eq_true hlen
 simp only [Array.length_toList] at hl
 refine ⟨fun k v hk => ?_, ?_, rfl⟩
 ·obtain ⟨_, x, hx, hr⟩ := kg ha hk
  refine ⟨x, ?_, hr⟩
  simp only [Nat.sub_zero, Array.getElem?_toList] at hx
  have := Array.getElem?_eq_some_iff.1 hx
  rw [Array.getElem?_append_left this.1]
  exact hx
 ·simp only [Array.size_append, Array.size_replicate]; omega
theorem zp {f : FuncId} {fn : Func} {c : Code} {avs : List AVal} {Qf : ARes → Heap → Prop} {rs : List ResultVar} (hf : P.funcs[f]? = some fn)
  (hb : fn.body = some c) (hn : fn.ntmps = n) (hrs : fn.results = rs.toArray) (hlen : Nat.ble avs.length n = true) (hGL : ad G GL)
  (h : ∀ C : Ctx, C.G = G → dB P C n G GL c (cY 0 avs) H (RetX P rs Qf)) : fL P G f avs m H (fun res m' H' => m' = m ∧ Qf res H') := by
 intro R w args u hG hm ha hu
 have h1 := (bJ (C := ⟨w, R, blks H, G, hG, []⟩) rfl hGL _ _ _ _ (h ⟨w, R, blks H, G, hG, []⟩ rfl)).mono fun _ _ _ q => fK q
 have h2 : c.wp P (bodyPost P fn (fun e w' => ∃ res H' R', Qf res H' ∧ fV R' res e ∧ R.le R' ∧ MS ⟨w, R, blks H, G, hG, []⟩ R' H' w')) { tmps := args ++ Array.replicate (fn.ntmps - args.size) undef, defers := [] } w := by
  subst hn
  refine wp_mono (h1 R _ w hm (yp hlen ha)) ?_
  have hrs' : fn.results.toList = rs := by rw [hrs]
  rintro e a' w' ⟨x, env', H', R', q, er, hm', hf'⟩
  cases x with
  | normal =>
   simp only [aD] at er; subst er
   obtain ⟨vs, H'', hv, hs, q⟩ := q
   obtain ⟨y, hy, hr⟩ := db (fn := fn) hm' hf' (by rw [hrs']; exact hv)
   exact ⟨hf'.defers, y, hy, _, H'', R', q, ⟨y, rfl, hr⟩, hm'.ge, hm'.drop hs⟩
  | ret =>
   simp only [aD] at er; subst er
   obtain ⟨vs, H'', hv, hs, q⟩ := q
   obtain ⟨y, hy, hr⟩ := db (fn := fn) hm' hf' (by rw [hrs']; exact hv)
   exact ⟨hf'.defers, y, hy, _, H'', R', q, ⟨y, rfl, hr⟩, hm'.ge, hm'.drop hs⟩
  | panic v =>
   obtain ⟨y, rfl, hr⟩ := er
   obtain ⟨H'', hs, q⟩ := q
   exact ⟨hf'.defers, _, H'', R', q, ⟨y, rfl, hr⟩, hm'.ge, hm'.drop hs⟩
  | exit i => exact q.elim
  | goto i => exact q.elim
 refine (callsD_of_wp (u := u) hf hb h2).mono ?_
 rintro e u' w' ⟨rfl, res, H', R', q, er, hle, hm'⟩
 exact ⟨res, m, H', R', ⟨rfl, q⟩, er, hu.mono hle, hm'⟩
omit [Tab P] in
theorem C8 {f : FuncId} {avs : List AVal} {H1 : Heap} (H2 : Heap) {Qd : ARes → AMode → Heap → Prop} (h : fL P G f avs m H1 Qd) : fL P G f avs m (H1 ++ H2) (fun r m' H' => ∃ H1', Qd r m' H1' ∧ H' = H1' ++ H2) := by
 intro R w args u hG hm ha hu
 exact (h R w args u hG hm.enter ha hu).mono fun e u' w' ⟨res, m', H', R', q, er, hu', hm'⟩ => ⟨res, m', H' ++ H2, R', ⟨H', q, rfl⟩, er, hu', MS.call hm hm'⟩
omit [Tab P] in
omit [Tab P] in
theorem EU {f : FuncId} {avs : List AVal} {Qd Qd' : ARes → AMode → Heap → Prop} (h : fL P G f avs m H Qd) (hq : ∀ r m' H', Qd r m' H' → ∃ H'', H'.Perm H'' ∧ Qd' r m' H'') : fL P G f avs m H Qd' := by
 intro R w args u hG hm ha hu
 exact (h R w args u hG hm ha hu).mono fun e u' w' ⟨res, m', H', R', q, er, hu', hm'⟩ => let ⟨H'', hp, q'⟩ := hq _ _ _ q; ⟨res, m', H'', R', q', er, hu', hm'.perm hp⟩
omit [Tab P] in
omit [Tab P] in
theorem C7 {f : FuncId} {avs : List AVal} {H1 H1' : Heap} {r : ARes} {m' : AMode} (H2 : Heap) (hs : fL P G f avs m H1 (fun r2 m2 H2 => m2 = m' ∧ r2 = r ∧ H2 = H1')) :
  fL P G f avs m (H1 ++ H2) (fun r2 m2 H' => m2 = m' ∧ r2 = r ∧ H' = H1' ++ H2) := by
 refine EU (C8 H2 hs) ?_
 rintro r2 m2 H' ⟨H3, ⟨rfl, rfl, rfl⟩, rfl⟩
 exact ⟨_, List.Perm.refl _, rfl, rfl, rfl⟩
/-! ## As a function leaves -/
def Lv (P : Program) (G : Glo) (n : Nat) (rs : List ResultVar) (env : Env) (D : List Deferred) (m : AMode) (H : Heap) (Qf : ARes → Heap → Prop) : Prop :=
 ∀ (C : Ctx) (R : Seal) (a : Act) (w : World) (fn : Func) (u : FrameMode) (D0 : List Deferred), C.G = G → fn.results.toList = rs → MS C R H w → FS D0 n R env a → dT R m u →
  Leaves P fn a.tmps (fun e w' => ∃ res H' R', Qf res H' ∧ fV R' res e ∧ MS C R' H' w') D u w
variable {rs : List ResultVar} {env : Env} {Qf : ARes → Heap → Prop} {D : List Deferred}
theorem Gj (h : RetX P rs Qf .ret env H) : Lv P G n rs env [] .ret H Qf := by
 rintro C R a w fn u D0 hC hrs hm hf rfl
 obtain ⟨vs, H'', hv, hs, q⟩ := fK h
 obtain ⟨y, hy, hr⟩ := db (fn := fn) hm hf (by rw [hrs]; exact hv)
 exact ⟨y, hy, _, H'', R, q, ⟨y, rfl, hr⟩, hm.drop hs⟩
omit [Tab P] in
omit [Tab P] in
theorem yY {f : FuncId} {avs : List AVal} {cap args : Array Value} {v : AVal} {m' : AMode} {H' : Heap} (hs : fL P G f avs m H (fun r2 m2 H2 => m2 = m' ∧ r2 = .ret v ∧ H2 = H')) (ha : ∀ R, RelV R avs (args ++ cap).toList)
  (hc : ∀ args w, (callFunc f args).run P w = .ok (.enter f args) w) (k : Lv P G n rs env D m'.settle H' Qf) : Lv P G n rs env ({ target := .fn (.func f) cap, args := args } :: D) m H Qf := by
 intro C R a w fn u D0 hC hrs hm hf hu
 subst hC
 refine leaves_cons (f := f) (args := args ++ cap) (uH hu) (by simp only [invoke]; exact hc _ _) ?_
 refine (hs R w _ u hm.glo (MS.enter (H2 := []) (by simpa using hm)) (ha R) hu).mono ?_
 rintro e u' w' ⟨res, m2, H2, R', ⟨rfl, rfl, rfl⟩, ⟨y, rfl, hr⟩, hu', hm'⟩
 have hm2 : MS C R' H2 w' := by simpa using MS.call (H2 := []) (by simpa using hm) hm'
 exact k C R' a w' fn _ D0 rfl hrs hm2 (hf.mono hm'.ge) (wo hu')
def LvQ (P : Program) (G : Glo) (n : Nat) (rs : List ResultVar) (Qf : ARes → Heap → Prop) : List Deferred → AExit → Env → Heap → Prop
 | D, .ret, e, H | D, .normal, e, H => Lv P G n rs e D .ret H Qf
 | D, .panic v, e, H => Lv P G n rs e D (.pan v) H Qf
 | _, _, _, _ => False
omit [Tab P] in
theorem fn_d {f : FuncId} {fn : Func} {c : Code} {avs : List AVal} (hf : P.funcs[f]? = some fn)
  (hc : ∀ args w, (callFunc f args).run P w = .ok (.enter f args) w) (hb : fn.body = some c) (hn : fn.ntmps = n) (hrs : fn.results = rs.toArray) (hlen : Nat.ble avs.length n = true)
  (h : ∀ C : Ctx, C.G = G → C.D = [] → AWpD P C n c (cY 0 avs) H (LvQ P G n rs Qf)) : ah P G f avs H Qf := by
 intro R w args hG hm ha
 refine .inl ⟨hc args w, calls_of_wp_defers hf hb ?_⟩
 subst hn
 have hrs' : fn.results.toList = rs := by rw [hrs]
 refine wp_mono (h ⟨w, R, blks H, G, hG, []⟩ rfl rfl R _ w hm (yp hlen ha)) ?_
 rintro e a' w' ⟨D, x, env', H', R', q, er, hm', hf'⟩
 cases x with
 | normal =>
  simp only [aD] at er; subst er
  have := q _ R' a' w' fn .returning D rfl hrs' hm' hf' rfl
  rwa [← hf'.defers] at this
 | ret =>
  simp only [aD] at er; subst er
  have := q _ R' a' w' fn .returning D rfl hrs' hm' hf' rfl
  rwa [← hf'.defers] at this
 | panic v =>
  obtain ⟨y, rfl, hr⟩ := er
  have := q _ R' a' w' fn (.panicking [{ v := y, recovered := false }]) D rfl hrs' hm' hf' ⟨y, rfl, hr⟩
  rwa [← hf'.defers] at this
 | exit i => exact q.elim
 | goto i => exact q.elim
end
end
end Go.Proofs.YtahebkecmlmlfaaGreatDoor
