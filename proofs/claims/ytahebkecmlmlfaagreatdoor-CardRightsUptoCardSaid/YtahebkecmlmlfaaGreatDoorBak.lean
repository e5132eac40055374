/- Parts of the proof of prints_root: Ruc, Rud, Rue, Ruf, Rug, Rva, Ruj, Fta, Ftb, Lao, Ftc, Mxc, Thr, Ftd, Ruk. -/
import Derived.Lib.LaidTab
import Derived.Lib.AtoiAll
import Derived.Test.YtahebkecmlmlfaaGreatDoorBaj
import Derived.Test.YtahebkecmlmlfaaGreatDoorBae
import Derived.Test.YtahebkecmlmlfaaGreatDoorBai
import Derived.Test.YtahebkecmlmlfaaGreatDoorBah
import Derived.Test.YtahebkecmlmlfaaGreatDoorBad
set_option linter.unusedVariables false
set_option linter.unusedSimpArgs false
set_option linter.unusedSectionVars false
namespace Go.Proofs.YtahebkecmlmlfaaGreatDoor
set_option maxRecDepth 20000
set_option maxHeartbeats 4000000
section
open Go Go.RowKit
theorem Gx {P : Program} {C : Ctx} {n : Nat} {c : Code} {env env' : Env} {H H' : Heap} {Q : List Deferred → AExit → Env → Heap → Prop} (hto : To C n env H env' H') (h : AWpD P C n c env' H' Q) : AWpD P C n c env H Q := fun R a w hm hf => by
 obtain ⟨R', hle, hm', hf'⟩ := hto R a w hm hf
 exact h R' a w hm' hf'
theorem zl {P : Program} {G : Glo} {f : FuncId} {avs avs' : List AVal} {H : Heap} {Qf : ARes → Heap → Prop} (h : ae P G f avs H Qf) (ha : ∀ R vs, RelV R avs' vs → RelV R avs vs) : ae P G f avs' H Qf :=
 fun R w args hG hm h2 => h R w args hG hm (ha R _ h2)
def qB (x : List UInt8 × Rl) : Bool := !(txtR x).contains 124 && decide ((cutB (txtR x) 32).1 = x.1) && (txtR x).all (fun c => decide (c.toNat < 128)) && decide ((txtR x).length ≤ 60) &&
 decide (Lib.fields (txtR x) = [x.1, [digC x.2.t], [digC x.2.a], [digC x.2.b], [digC x.2.p]]) && decide (0 ≤ x.2.t ∧ x.2.t < 10 ∧ 0 ≤ x.2.a ∧ x.2.a < 10 ∧ 0 ≤ x.2.b ∧ x.2.b < 10 ∧ 0 ≤ x.2.p ∧ x.2.p < 10)
theorem kH {v : Int} (hv : v = 3 ∨ v = 4) : (rowV v).all qB = true ∧ (rowV v).length ≤ 36 ∧ 0 < (rowV v).length := by
 rcases hv with rfl | rfl
 ·exact ⟨by decide +kernel, by decide +kernel, by decide +kernel⟩
 ·exact ⟨by decide +kernel, by decide +kernel, by decide +kernel⟩
theorem wJ {v : Int} (hv : v = 3 ∨ v = 4) {k : Nat} (hk : k < (rowV v).length) : qB (rowV v)[k] = true := List.all_eq_true.1 (kH hv).1 _ (List.getElem_mem hk)
theorem gw {v : Int} {k : Nat} (hk : k < (rowV v).length) : (tabR v).getD k [] = txtR (rowV v)[k] := by
 unfold tabR
 rw [List.getD_eq_getElem?_getD, List.getElem?_map, List.getElem?_eq_getElem hk]
 rfl
theorem qZ (c : UInt8) {m : Nat} : ∀ l : List (List UInt8), (∀ x ∈ l, x.length ≤ m) → (ck c l).length ≤ l.length * (m + 1)
 | [], _ => Nat.zero_le _
 | [x], h => by
  have := h x (List.mem_singleton.2 rfl)
  simp only [ck, List.length_cons, List.length_nil]
  omega
 | x :: y :: t, h => by
  have h1 := h x (List.mem_cons_self ..)
  have ih := qZ c (m := m) (y :: t) fun z hz => h z (List.mem_cons_of_mem _ hz)
  simp only [ck, List.length_append, List.length_cons] at ih ⊢
  rw [Nat.succ_mul]
  generalize (t.length + 1) * (m + 1) = z at *
  omega
theorem yG {v : Int} (hv : v = 3 ∨ v = 4) (k : Nat) : (ck 124 ((tabR v).drop k)).length ≤ 1000000 := by
 have h1 := qZ 124 (m := 60) ((tabR v).drop k) fun x hx => by
  obtain ⟨y, hy, rfl⟩ := List.mem_map.1 (List.mem_of_mem_drop hx)
  have := List.all_eq_true.1 (kH hv).1 _ hy
  simp only [qB, Bool.and_eq_true, decide_eq_true_eq] at this
  exact this.1.1.2
 have h2 : ((tabR v).drop k).length ≤ 36 := by
  have := (kH hv).2.1
  unfold tabR
  rw [List.length_drop, List.length_map]
  omega
 have := Nat.mul_le_mul_right (60 + 1) h2
 omega
theorem Bs {v : Int} (hv : v = 3 ∨ v = 4) (k : Nat) : (124 : UInt8) ∉ (tabR v).getD k [] := by
 by_cases hk : k < (rowV v).length
 ·rw [gw hk]
  have := wJ hv hk
  simp only [qB, Bool.and_eq_true, Bool.not_eq_true', List.contains_eq_mem, decide_eq_false_iff_not] at this
  exact this.1.1.1.1.1
 ·rw [List.getD_eq_getElem?_getD, List.getElem?_eq_none (by unfold tabR; rw [List.length_map]; omega)]
  simp
def nmV (v : Int) : List (List UInt8) := (rowV v).map (·.1)
theorem Ei {v : Int} {k : Nat} (hk : k < (rowV v).length) : (nmV v).take (k + 1) = (nmV v).take k ++ [(rowV v)[k].1] := by
 unfold nmV
 rw [List.take_add_one, List.getElem?_map, List.getElem?_eq_getElem hk]
 rfl
abbrev nmB (b : Nat) (i : Nat) (v : Value) : HEnt := .cells b (some 67) [.own i v]
attribute [local irreducible] AWp AOps aa ax OrOk ad ae
attribute [local irreducible] AWpR ig AWpD LvM To tabR rowV nmV cutB
theorem mK {G : Glo} {v : Int} (hv : v = 3 ∨ v = 4) : FnIs Tryz.prog G 61 [.int .i64 v] (.str (tabS v)) := by
 rcases hv with rfl | rfl
 ·have hGL : ad G [] := ab
  refine fn_x Tryz.func61 Tryz.call61 rfl rfl rfl rfl hGL ?_
  intro C hC
  refine xw ?_
  repeat' (first | exact Le.n | refine Lc.mk ?_ ?_)
  all_goals intros
  all_goals first
   | exact absurd rfl (by assumption)
   | (apply aj; refine congrArg AVal.str ?_; decide +kernel)
 ·have hGL : ad G [] := ab
  refine fn_x Tryz.func61 Tryz.call61 rfl rfl rfl rfl hGL ?_
  intro C hC
  refine xw ?_
  repeat' (first | exact Le.n | refine Lc.mk ?_ ?_)
  all_goals intros
  all_goals first
   | (apply aj; refine congrArg AVal.str ?_; decide +kernel)
theorem r8 {G : Glo} {v : Int} (hv : v = 3 ∨ v = 4) : ae Tryz.prog G 26 [.int .i64 v] [] (fun r H => ∃ va, r = .ret (.tuple [.own 4 va, .raw .nilIface]) ∧ H = [.row va none 1 (nmV v).length (aN (nmV v))]) := by
 have hGL : ad G [] := ab
 have hT := mK (G := G) hv
 have hS := f6 (G := G) (tabS v) 124
 have hlen : (nmV v).length = (tabR v).length := by unfold nmV tabR; rw [List.length_map, List.length_map]
 have hlr : (tabR v).length = (rowV v).length := by unfold tabR; rw [List.length_map]
 have h36 := (kH hv).2
 refine fn_m (rs := [.tmp 2, .tmp 3]) Tryz.func26 Tryz.call26 rfl rfl rfl rfl ?_
 intro C hC hD
 refine fk hC hGL (fun _ : Unit => [(0, .int .i64 v)]) (fun _ => []) (fun _ => True) ?_ fun _ _ => ?_
 ·refine xn1 ?_
  exact cy () trivial
 refine fk hC hGL (fun _ : Unit => [(0, .int .i64 v)]) (fun _ => []) (fun _ => True) ?_ fun _ _ => ?_
 ·refine xn ?_
  repeat' (first | exact Le.n | refine Lc.mk ?_ ?_)
  all_goals intros
  all_goals first
   | exact cy () trivial
   | (exfalso; omega)
 refine fk hC hGL (fun bo : Nat => [(0, .int .i64 v), (4, .own 0 (sqP bo))]) (fun bo => [.cells bo (some 67) [.raw (.slice none 0 0)]]) (fun _ => True) ?_ fun bo _ => ?_
 ·refine xn1 ?_
  intro bo
  intros
  exact cy bo trivial
 refine gT (fk hC hGL (fun x : Nat × Nat × Nat => [(0, .int .i64 v), (4, .own 0 (sqP bo)), (18, .func (.func 159) [] [.own 2 (sqP x.2.1), .own 1 (sqP x.1), .own 3 (sqP x.2.2)])]) (fun x => [.cells bo (some 67) [.raw (.slice none 0 0)], sqS x.1 (tabS v), sqS x.2.1 [124], sqI x.2.2 0]) (fun _ => True) ?_ ?_)
 ·refine xn1 ?_
  refine xW (fun x : Nat × Nat × Nat => .func (.func 159) [] [.own 2 (sqP x.2.1), .own 1 (sqP x.1), .own 3 (sqP x.2.2)]) hS (fun _ _ _ h => h) ?_
  rintro ⟨b0, b1, b2⟩
  refine xn1 ?_
  exact cy (b0, b1, b2) trivial
 rintro ⟨b0, b1, b2⟩ -
 dsimp only
 refine rC (Gx (dT (tH 1) (DU (i := 0) (p := 0) (a' := .own 4 (.slice none 0 0)) rfl (fun R => .cells rfl fun _ => El))) ?_)
 refine rA rfl Tryz.call159 [(0, .int .i64 v), (4, .own 0 (sqP bo))] ai rfl ?_
 intro L D r hp ha hb hfs
 rw [hC]
 have hy : ∀ (k : Nat) (s' : List UInt8) (y : List (List UInt8) × Value), k < (tabR v).length → y.1 = (nmV v).take k → ig Tryz.prog G L [.str ((tabR v).getD k [])] (sqS b0 s' :: sqS b1 [124] :: sqI b2 0 :: [nmB bo 4 y.2, .row y.2 none 1 y.1.length (aN y.1), objD D, objL L r .ready none])
   (fun b H' => (b = true ∧ ∃ y' : List (List UInt8) × Value, y'.1 = (nmV v).take (k + 1) ∧ H' = sqS b0 s' :: sqS b1 [124] :: sqI b2 0 :: [nmB bo 4 y'.2, .row y'.2 none 1 y'.1.length (aN y'.1), objD D, objL L r .ready none]) ∨ (b = false ∧ ∃ z : Empty, H' = sqS b0 s' :: sqS b1 [124] :: sqI b2 0 :: [])) := by
  rintro k s' ⟨ns, w⟩ hk hI
  dsimp only at hI ⊢
  have hk' : k < (rowV v).length := by omega
  have hro := wJ hv hk'
  simp only [qB, Bool.and_eq_true, decide_eq_true_eq] at hro
  have hcut := m0 (G := G) ((tabR v).getD k []) 32 (by rw [gw hk']; omega)
  have e1 : (cutB ((tabR v).getD k []) 32).1 = (rowV v)[k].1 := by rw [gw hk']; exact hro.1.1.1.1.2
  have hcut : FnIs Tryz.prog G 62 [.str ((tabR v).getD k []), .str [32]] (.tuple [.str (rowV v)[k].1, .str (cutB ((tabR v).getD k []) 32).2.1, .bool (cutB ((tabR v).getD k []) 32).2.2]) := by rw [← e1]; exact hcut
  have hns : ns.length ≤ 36 := by rw [hI, List.length_take]; omega
  have e2 := Ei hk'
  refine rG (A9 (H1 := [nmB bo 4 w, sqS b0 s', sqS b1 [124], sqI b2 0, .row w none 1 ns.length (aN ns), objD D, objL L r .ready none]) (List.perm_middle (l₁ := [sqS b0 s', sqS b1 [124], sqI b2 0]) (a := nmB bo 4 w)).symm
   (A8 (i := 6) (p := 19) (Qf := fun b H' => b = true ∧ ∃ w', H' = [nmB bo 4 w', sqS b0 s', sqS b1 [124], sqI b2 0, .row w' none 1 (ns ++ [(rowV v)[k].1]).length (aN (ns ++ [(rowV v)[k].1])), objD D, objL L r .ready none]) rfl hp (by kernel_rfl) hfs ?_)) ?_
  ·intro C2 hC2 hD2
   rw [ha]
   refine cN hC2 hGL (xn1 ?_)
   refine ⟨rfl, 6, rfl, ?_⟩
   rw [hb]
   generalize (rowV v)[k].1 = nm at *
   refine cN hC2 hGL (xn1 ?_)
   intro wa wk wc _
   refine ⟨6, rfl, rfl, .slice wa wk wc, ?_⟩
   rw [← bS, List.length_append]
   rfl
  ·rintro b H' ⟨rfl, w', rfl⟩
   refine ⟨_, (List.perm_middle (l₁ := [sqS b0 s', sqS b1 [124], sqI b2 0]) (a := nmB bo 4 w')).symm, .inl ⟨rfl, (ns ++ [(rowV v)[k].1], w'), ?_, rfl⟩⟩
   rw [e2, hI]
 have run := jB (G := G) L b0 b1 b2 124 (tabR v) (by omega) (Bs hv) (yG hv) (Y := List (List UInt8) × Value) (Z := Empty) (fun y => [nmB bo 4 y.2, .row y.2 none 1 y.1.length (aN y.1), objD D, objL L r .ready none]) (fun _ => []) (fun k y => y.1 = (nmV v).take k) ([], .slice none 0 0) rfl hy
 refine dP (dO (List.perm_middle (l₁ := [sqS b0 (tabS v), sqS b1 [124], sqI b2 0]) (a := nmB bo 4 (.slice none 0 0))) (zl run fun _ _ h => h)) ?_
 rintro res H' ⟨rfl, s', ⟨⟨ns, w⟩, hI, rfl⟩ | ⟨z, _⟩⟩
 ·refine ⟨_, List.perm_middle (l₁ := [sqS b0 s', sqS b1 [124], sqI b2 0]) (a := nmB bo 4 w), .tuple [], 6, .ready, none, rfl, rfl, (fun h => by cases h), ?_⟩
  dsimp only at hI ⊢
  rw [← hlen, List.take_length] at hI
  subst hI
  show AWpD Tryz.prog _ _ _ _ _ _
  refine iT (C := withD C (colD D :: C.D)) hC hGL (xn1 ?_)
  rw [show (withD C (colD D :: C.D)).D = [colD D] from (by show colD D :: C.D = _; rw [hD])]
  refine sy (i := 5) rfl (sx ?_)
  refine xn1 ?_
  exact ⟨_, .cons _ (.cons _ (.cons _ (.cons _ (.cons_cons _ (List.nil_sublist _))))), w, rfl, rfl⟩
 ·exact z.elim
theorem uj {G : Glo} (v : Int) : FnIs Tryz.prog G 26 [.int .i64 v] (.tuple [.list 1 (au v).length (aF (au v)), (verE v).A]) := by
 by_cases hv : v = 3 ∨ v = 4
 ·have e1 : au v = nmV v := by unfold au nmV; rw [if_pos hv]
  have e2 : verE v = .none := by unfold verE; rw [if_pos hv]
  rw [e1, e2]
  exact nB (fun a => .tuple [a, Err.none.A]) (Cp _) (aF (nmV v)) (ks _) (cs := aN (nmV v)) (eT := none) ((r8 hv).mono fun r H ⟨va, h1, h2⟩ => ⟨_, va, h1, h2⟩)
 ·have e1 : au v = [] := by unfold au; rw [if_neg hv]
  have e2 : verE v = .errno 1 := by unfold verE; rw [if_neg hv]
  rw [e1, e2]
  refine sO (H := []) (Qf := fun r H => r = .ret (.tuple [.raw (.slice none 0 0), (Err.errno 1).A]) ∧ H = []) ?_ (fun r H h => by
   obtain ⟨rfl, rfl⟩ := h
   rintro C R w e hm ⟨x, rfl, hx⟩
   exact ⟨R, hm, x, rfl, qt (Seal.le_refl R) hx fun u hu => by
    obtain rfl := ao.1 (show Rel R (.raw (.slice none 0 0)) u from hu)
    exact ⟨⟨none, 0, rfl, Nat.le_refl _, .inl rfl⟩, rfl⟩⟩)
  have hGL : ad G [] := ab
  refine fn_x Tryz.func26 Tryz.call26 rfl rfl rfl rfl hGL ?_
  intro C hC
  refine xw ?_
  repeat' (first | exact Le.n | refine Lc.mk ?_ ?_)
  all_goals intros
  all_goals first
   | (exfalso; omega)
   | (apply aj; rfl)
end
section
open Go Go.RowKit
def SpIs (G : Glo) : Prop := ∀ R, G.p R → ∃ e fz, R 0 = some (.cells (Lib.asciiSpaceTab.map fun z => Value.int .u8 z).toArray e fz)
theorem FC {G : Glo} (hS : SpIs G) {R : Seal} {w : World} (hG : G.p R) (hs : cH R w) : Lib.TabIs Tryz.prog w "strings.asciiSpace" .u8 Lib.asciiSpaceTab := by
 obtain ⟨e, fz, h⟩ := hS R hG
 have hb := hs _ _ h
 unfold Lib.TabIs World.var?
 rw [show Tryz.prog.globalNamed "strings.asciiSpace" = some 0 by kernel_rfl]
 simp [hb]
theorem DC : ∀ d : Fin 10, Lib.atoiAll [UInt8.ofNat (48 + d.val)] = .ok (d.val : Int) := by decide
attribute [local irreducible] AWp AOps aa ax OrOk ad ae
theorem lx {G : Glo} (d : Int) (h0 : 0 ≤ d) (h1 : d < 10) : FnIs Tryz.prog G 65 [.str [digC d]] (.tuple [.int .i64 d, .raw .nilIface]) := by
 have ha := DC ⟨d.toNat, by omega⟩
 have ed : ((d.toNat : Nat) : Int) = d := by omega
 simp only [ed] at ha
 refine ia (.tuple #[.int .i64 d, .nilIface]) (fun R => kK (am.2 rfl) (ao.2 rfl)) Tryz.call65 ?_
 intro R args hr w _ _
 obtain ⟨x, t, e', hx, rfl⟩ := hr
 obtain rfl := aB.1 hx
 obtain rfl := dK e'
 refine (Tryz.strconv_Atoi_ok ⟨[digC d].toArray⟩ (by rw [aY]; show 1 ≤ 9223372036854775806; omega) _ (by unfold digC; simpa using ha) w).mono ?_
 rintro e w' ⟨rfl, hw⟩
 refine ⟨rfl, ?_⟩
 rcases hw with rfl | ⟨t, rfl⟩
 ·exact Below.refl _ _
 ·exact ⟨rfl, rfl, rfl, by rw [Lib.bytesWorld_size]; omega, fun k hk => Lib.bytesWorld_at_old _ _ _ _ hk⟩
theorem xK {G : Glo} (hS : SpIs G) (H : Heap) (s : List UInt8) (hl : s.length < 100000) (ha : ∀ (j : Nat) (b : UInt8), s[j]? = some b → b.toNat < 128) :
  ae Tryz.prog G 64 [.str s] H (fun r H' => ∃ b, r = .ret (.own H.length (.slice (some ⟨b, 0, none⟩) (Lib.fields s).length (Lib.fields s).length)) ∧ H' = H ++ [.row (.slice (some ⟨b, 0, none⟩) (Lib.fields s).length (Lib.fields s).length) (some 9) 1 (Lib.fields s).length (aN (Lib.fields s))]) := by
 refine iI Tryz.call64 (by rw [qv, Nat.mul_one]) ?_
 rintro C R args ⟨x, t, e, hx, rfl⟩ w hG hm
 obtain rfl := aB.1 hx
 obtain rfl := dK e
 refine (Tryz.strings_Fields ⟨s.toArray⟩ w (by rw [aY]; omega) (fun j b hb => ha j b (by simpa using hb)) (FC hS hG hm.sealed)).mono ?_
 rintro e w' ⟨rfl, rfl⟩
 refine ⟨w, _, Below.refl _ _, rfl, rfl, ?_, fun R => ?_⟩
 ·simp
 ·have := lV R (Lib.fields s)
  simpa using this
theorem vr {G : Glo} (hS : SpIs G) (s : List UInt8) (hl : s.length < 100000) (ha : ∀ (j : Nat) (b : UInt8), s[j]? = some b → b.toNat < 128) : FnIs Tryz.prog G 64 [.str s] (.list 1 (Lib.fields s).length (aF (Lib.fields s))) :=
 nB (fun a => a) Fg (aF (Lib.fields s)) (ks _) ((xK hS [] s hl ha).mono fun _ _ ⟨_, h1, h2⟩ => ⟨_, _, h1, h2⟩)
end
section
open Go Go.RowKit
abbrev rlC (b : Nat) (r : Rl) : HEnt := .cells b (some 76) [.int .i64 r.t, .int .i64 r.a, .int .i64 r.b, .int .i64 r.p]
abbrev arC (b : Nat) (t a u p : Int) : HEnt := .cells b (some 128) [.int .i64 t, .int .i64 a, .int .i64 u, .int .i64 p]
abbrev erV (b : Nat) : HEnt := .cells b (some 38) [.raw .nilIface]
theorem zX {s : List UInt8} (h : (s.all fun c => decide (c.toNat < 128)) = true) : ∀ (j : Nat) (b : UInt8), s[j]? = some b → b.toNat < 128 := fun j b hb => by
 have := List.all_eq_true.1 h b (List.mem_of_getElem? hb)
 simpa using this
theorem ri {s : List UInt8} : ∀ {l : List (List UInt8 × Rl)} {k : Nat} (hk : k < l.length), (∀ j (hj : j < l.length), j < k → l[j].1 ≠ s) → l[k].1 = s → cE s l = l[k].2
 | x :: t, 0, hk, _, h => by
  have h : x.1 = s := h
  simp only [cE, if_pos h]
  rfl
 | x :: t, k + 1, hk, h0, h => by
  have h1 := h0 0 (by simp) (Nat.succ_pos k)
  have h1 : x.1 ≠ s := h1
  have ih := ri (s := s) (l := t) (k := k) (by simpa using hk) (fun j hj hjk => by
   have := h0 (j + 1) (by simpa using hj) (by omega)
   simpa using this) (by simpa using h)
  simp only [cE, if_neg h1, ih]
  rfl
theorem vo {s : List UInt8} : ∀ {l : List (List UInt8 × Rl)}, (∀ j (hj : j < l.length), l[j].1 ≠ s) → cE s l = ⟨8, 0, 0, 0⟩
 | [], _ => rfl
 | x :: t, h0 => by
  have h1 : x.1 ≠ s := h0 0 (by simp)
  have ih := vo (s := s) (l := t) (fun j hj => by
   have := h0 (j + 1) (by simpa using hj)
   simpa using this)
  simp only [cE, if_neg h1, ih]
attribute [local irreducible] AWp AOps aa ax OrOk ad ae
attribute [local irreducible] AWpR ig AWpD LvM To tabR rowV nmV al
theorem zW {G : Glo} (hS : SpIs G) {v : Int} (hv : v = 3 ∨ v = 4) (s : List UInt8) (hl : s.length ≤ 1000000) : FnIs Tryz.prog G 28 [.str s, .int .i64 v] (.tuple [(cE (al 97 122 (-32) s) (rowV v)).A, .raw .nilIface]) := by
 have hGL : ad G [] := ab
 have hT := mK (G := G) hv
 have hSq := f6 (G := G) (tabS v) 124
 have hU := dG (G := G) s (by omega)
 have hcu := Tryz.call27
 have hlr : (tabR v).length = (rowV v).length := by unfold tabR; rw [List.length_map]
 have h36 := (kH hv).2
 generalize hup : al 97 122 (-32) s = up at *
 refine fn_m (rs := [.cell 4 76, .cell 5 38]) Tryz.func28 Tryz.call28 rfl rfl rfl rfl ?_
 intro C hC hD
 refine fk hC hGL (fun x : Nat × Nat × Nat => [(1, .int .i64 v), (2, .own 0 (sqP x.1)), (4, .own 1 (sqP x.2.1)), (5, .own 2 (sqP x.2.2))]) (fun x => [sqS x.1 s, rlC x.2.1 Rl.z, erV x.2.2]) (fun _ => True) ?_ ?_
 ·refine xb1 ?_
  intro b2 b4 b5
  intros
  exact cy (b2, b4, b5) trivial
 rintro ⟨b2, b4, b5⟩ -
 dsimp only
 refine fk hC hGL (fun _ : Unit => [(1, .int .i64 v), (2, .own 0 (sqP b2)), (4, .own 1 (sqP b4)), (5, .own 2 (sqP b5))]) (fun _ => [sqS b2 s, rlC b4 Rl.z, erV b5]) (fun _ => True) ?_ fun _ _ => ?_
 ·refine xn ?_
  repeat' (first | exact Le.n | refine Lc.mk ?_ ?_)
  all_goals intros
  all_goals first
   | exact cy () trivial
   | (exfalso; omega)
 refine gT (fk hC hGL (fun x : Nat × Nat × Nat => [(1, .int .i64 v), (2, .own 0 (sqP b2)), (4, .own 1 (sqP b4)), (5, .own 2 (sqP b5)), (20, .func (.func 159) [] [.own 4 (sqP x.2.1), .own 3 (sqP x.1), .own 5 (sqP x.2.2)])]) (fun x => [sqS b2 s, rlC b4 Rl.z, erV b5, sqS x.1 (tabS v), sqS x.2.1 [124], sqI x.2.2 0]) (fun _ => True) ?_ ?_)
 ·refine xn1 ?_
  refine xW (fun x : Nat × Nat × Nat => .func (.func 159) [] [.own 4 (sqP x.2.1), .own 3 (sqP x.1), .own 5 (sqP x.2.2)]) hSq (fun _ _ _ h => h) ?_
  rintro ⟨b0, b1, b3⟩
  refine xn1 ?_
  exact cy (b0, b1, b3) trivial
 rintro ⟨b0, b1, b3⟩ -
 dsimp only
 refine rC ?_
 refine rA rfl Tryz.call159 [(1, .int .i64 v), (2, .own 0 (sqP b2)), (4, .own 1 (sqP b4)), (5, .own 2 (sqP b5))] ai rfl ?_
 intro L D r hp ha hb hfs
 rw [hC]
 have hy : ∀ (k : Nat) (s' : List UInt8) (y : Unit), k < (tabR v).length → (∀ j (hj : j < (rowV v).length), j < k → (rowV v)[j].1 ≠ up) → ig Tryz.prog G L [.str ((tabR v).getD k [])] (sqS b0 s' :: sqS b1 [124] :: sqI b3 0 :: [sqS b2 s, rlC b4 Rl.z, erV b5, objD D, objL L r .ready none])
   (fun b H' => (b = true ∧ ∃ _ : Unit, (∀ j (hj : j < (rowV v).length), j < k + 1 → (rowV v)[j].1 ≠ up) ∧ H' = sqS b0 s' :: sqS b1 [124] :: sqI b3 0 :: [sqS b2 s, rlC b4 Rl.z, erV b5, objD D, objL L r .ready none]) ∨
    (b = false ∧ ∃ T : Heap, H' = sqS b0 s' :: sqS b1 [124] :: sqI b3 0 :: (sqS b2 s :: rlC b4 (cE up (rowV v)) :: erV b5 :: objD D :: objL L r .done (some .ret) :: T))) := by
  intro k s' y hk hI
  have hk' : k < (rowV v).length := by omega
  have hro := wJ hv hk'
  simp only [qB, Bool.and_eq_true, decide_eq_true_eq] at hro
  have hF := vr hS ((tabR v).getD k []) (by rw [gw hk']; omega) (by rw [gw hk']; exact zX hro.1.1.1.2)
  rw [gw hk', hro.1.2] at hF
  have hdg := hro.2
  have a1 := lx (G := G) (rowV v)[k].2.t hdg.1 hdg.2.1
  have a2 := lx (G := G) (rowV v)[k].2.a hdg.2.2.1 hdg.2.2.2.1
  have a3 := lx (G := G) (rowV v)[k].2.b hdg.2.2.2.2.1 hdg.2.2.2.2.2.1
  have a4 := lx (G := G) (rowV v)[k].2.p hdg.2.2.2.2.2.2.1 hdg.2.2.2.2.2.2.2
  have hfind : (rowV v)[k].1 = up → cE up (rowV v) = (rowV v)[k].2 := fun h => ri hk' hI h
  have hnext : (rowV v)[k].1 ≠ up → ∀ j (hj : j < (rowV v).length), j < k + 1 → (rowV v)[j].1 ≠ up := fun h j hj hjk => by
   by_cases e : j = k
   ·subst e; exact h
   ·exact hI j hj (by omega)
  rw [gw hk']
  generalize (rowV v)[k] = row at *
  obtain ⟨nm, t, a, b, p⟩ := row
  dsimp only at *
  have hperm : ∀ (x : HEnt) (rr : Rl) (T : Heap), (sqS b2 s :: rlC b4 rr :: erV b5 :: sqS b0 s' :: sqS b1 [124] :: sqI b3 0 :: T).Perm (sqS b0 s' :: sqS b1 [124] :: sqI b3 0 :: sqS b2 s :: rlC b4 rr :: erV b5 :: T) := fun _ rr T =>
   (List.perm_append_comm (l₁ := [sqS b2 s, rlC b4 rr, erV b5]) (l₂ := [sqS b0 s', sqS b1 [124], sqI b3 0])).append_right T
  refine rG (A9 (H1 := [sqS b2 s, rlC b4 Rl.z, erV b5, sqS b0 s', sqS b1 [124], sqI b3 0, objD D, objL L r .ready none]) (hperm (objD D) _ _)
   (A8 (i := 7) (p := 21) (Qf := fun bb H' => (bb = true ∧ nm ≠ up ∧ H' = [sqS b2 s, rlC b4 Rl.z, erV b5, sqS b0 s', sqS b1 [124], sqI b3 0, objD D, objL L r .ready none]) ∨ (bb = false ∧ nm = up ∧ ∃ T, H' = [sqS b2 s, rlC b4 ⟨t, a, b, p⟩, erV b5, sqS b0 s', sqS b1 [124], sqI b3 0, objD D, objL L r .done (some .ret)] ++ T)) rfl hp (by kernel_rfl) hfs ?_)) ?_
  ·intro C2 hC2 hD2
   rw [ha]
   refine cN hC2 hGL (xn1 ?_)
   refine ⟨rfl, 7, rfl, ?_⟩
   rw [hb]
   refine mC (tf hC2 hGL (fun _ : Unit => [(1, .int .i64 v), (2, .own 0 (sqP b2)), (4, .own 1 (sqP b4)), (5, .own 2 (sqP b5)), (7, .list 1 5 (aF [nm, [digC t], [digC a], [digC b], [digC p]]))]) (fun _ => [sqS b2 s, rlC b4 Rl.z, erV b5, sqS b0 s', sqS b1 [124], sqI b3 0, objD D, objL L r .busy none]) (fun _ => True) ?_ fun _ _ => ?_)
   ·refine xn1 ?_
    intros
    exact cy () trivial
   refine nH (EX mixed hC2 hGL (by kernel_rfl) ?_)
   refine xn1 ?_
   refine cq hcu hU rfl ?_
   refine xn1 ?_
   refine vT rfl (fun h => ?_) (fun h => ?_)
   ·have hnu : nm = up := a7.1 h
    refine tf hC2 hGL (fun b8 : Nat => [(4, .own 1 (sqP b4)), (5, .own 2 (sqP b5)), (7, .list 1 5 (aF [nm, [digC t], [digC a], [digC b], [digC p]])), (8, .own 8 (sqP b8))]) (fun b8 => [sqS b2 s, rlC b4 Rl.z, erV b5, sqS b0 s', sqS b1 [124], sqI b3 0, objD D, objL L r .busy none, arC b8 0 0 0 0]) (fun _ => True) ?_ fun b8 _ => ?_
    ·refine xn1 ?_
     intro b8
     intros
     exact cy b8 trivial
    refine nH (tf hC2 hGL (fun _ : Unit => [(4, .own 1 (sqP b4)), (5, .own 2 (sqP b5)), (7, .list 1 5 (aF [nm, [digC t], [digC a], [digC b], [digC p]])), (8, .own 8 (sqP b8)), (30, .int .i64 0)]) (fun _ => [sqS b2 s, rlC b4 Rl.z, erV b5, sqS b0 s', sqS b1 [124], sqI b3 0, objD D, objL L r .busy none, arC b8 0 0 0 0]) (fun _ => True) ?_ fun _ _ => ?_)
    ·refine xn1 ?_
     exact cy () trivial
    refine mC (yo 5 (rdsR (cN hC2 hGL (xn1 ?_))))
    intro _
    refine cN hC2 hGL (xn1 ?_)
    intro _
    refine cN hC2 hGL (xn1 ?_)
    intro _
    refine cN hC2 hGL (xn1 ?_)
    intro _
    refine cN hC2 hGL (xn1 ?_)
    intro _
    refine ⟨fun _ => ?_, fun h => absurd rfl h⟩
    refine cN hC2 hGL (xn1 ?_)
    exact ⟨7, rfl, .inr ⟨rfl, hnu, [arC b8 t a b p], rfl⟩⟩
   ·refine cN hC2 hGL (xn1 ?_)
    refine ⟨7, rfl, .inl ⟨rfl, fun e => ?_, rfl⟩⟩
    have h : seqB nm up = false := h
    rw [a7.2 e] at h
    cases h
  ·rintro b' H' (⟨rfl, hne, rfl⟩ | ⟨rfl, hnu, T, rfl⟩)
   ·exact ⟨_, hperm (objD D) _ _, .inl ⟨rfl, (), hnext hne, rfl⟩⟩
   ·rw [hfind hnu]
    exact ⟨_, hperm (objD D) _ _, .inr ⟨rfl, T, rfl⟩⟩
 have run := jB (G := G) L b0 b1 b3 124 (tabR v) (by omega) (Bs hv) (yG hv) (Y := Unit) (Z := Heap) (fun _ => [sqS b2 s, rlC b4 Rl.z, erV b5, objD D, objL L r .ready none]) (fun T => sqS b2 s :: rlC b4 (cE up (rowV v)) :: erV b5 :: objD D :: objL L r .done (some .ret) :: T) (fun k _ => ∀ j (hj : j < (rowV v).length), j < k → (rowV v)[j].1 ≠ up) () (fun j hj h => absurd h (Nat.not_lt_zero _)) hy
 have hperm : ∀ (s' : List UInt8) (rr : Rl) (T : Heap), (sqS b0 s' :: sqS b1 [124] :: sqI b3 0 :: sqS b2 s :: rlC b4 rr :: erV b5 :: T).Perm (sqS b2 s :: rlC b4 rr :: erV b5 :: sqS b0 s' :: sqS b1 [124] :: sqI b3 0 :: T) := fun s' rr T =>
  (List.perm_append_comm (l₁ := [sqS b0 s', sqS b1 [124], sqI b3 0]) (l₂ := [sqS b2 s, rlC b4 rr, erV b5])).append_right T
 refine dP (dO (hperm _ _ _) (zl run fun _ _ h => h)) ?_
 rintro res H' ⟨rfl, s', ⟨y, hI, rfl⟩ | ⟨T, rfl⟩⟩
 ·refine ⟨_, hperm _ _ _, .tuple [], 7, .ready, none, rfl, rfl, (fun h => by cases h), ?_⟩
  rw [vo fun j hj => hI j hj (by omega)]
  show AWpD Tryz.prog _ _ _ _ _ _
  refine iT (C := withD C (colD D :: C.D)) hC hGL (xn1 ?_)
  rw [show (withD C (colD D :: C.D)).D = [colD D] from (by show colD D :: C.D = _; rw [hD])]
  refine sy (i := 6) rfl (sx ?_)
  exact xn0
 ·refine ⟨_, hperm _ _ _, .tuple [], 7, .done, some .ret, rfl, rfl, (fun h => by cases h), ?_⟩
  show LvM _ _ _ _ _ (colD D :: C.D) _ _ _
  rw [hD]
  refine sy (i := 6) rfl (sx ?_)
  exact xn0
theorem kG {G : Glo} (hS : SpIs G) (v : Int) (s : List UInt8) (hl : s.length ≤ 1000000) : FnIs Tryz.prog G 28 [.str s, .int .i64 v] (.tuple [(ba v s).A, (verE v).A]) := by
 by_cases hv : v = 3 ∨ v = 4
 ·have e1 : ba v s = cE (al 97 122 (-32) s) (rowV v) := by unfold ba; rw [if_pos hv]
  have e2 : verE v = .none := by unfold verE; rw [if_pos hv]
  rw [e1, e2]
  exact zW hS hv s hl
 ·have e1 : ba v s = Rl.z := by unfold ba; rw [if_neg hv]
  have e2 : verE v = .errno 1 := by unfold verE; rw [if_neg hv]
  rw [e1, e2]
  have hGL : ad G [] := ab
  refine fn_x Tryz.func28 Tryz.call28 rfl rfl rfl rfl hGL ?_
  intro C hC
  refine xb ?_
  repeat' (first | exact Le.n | refine Lc.mk ?_ ?_)
  all_goals intros
  all_goals intros
  all_goals first
   | (exfalso; omega)
   | (apply aj; rfl)
end
section
open Go Go.RowKit
theorem Gy {P : Program} {C : Ctx} {n : Nat} {c : Code} {env env' : Env} {H H' : Heap} {Q : AExit → Env → Heap → Prop} (hto : To C n env H env' H') (h : AWp P C n c env' H' Q) : AWp P C n c env H Q := fun R a w hm hf => by
 obtain ⟨R', hle, hm', hf'⟩ := hto R a w hm hf
 exact h R' a w hm' hf'
def rlL (r : Rl) : AVal := .list 1 4 (bH [(0, .int .i64 r.t), (1, .int .i64 r.a), (2, .int .i64 r.b), (3, .int .i64 r.p)])
def optA : Option Rl → AVal
 | none => .raw (.slice none 0 0)
 | some r => rlL r
def knAt (i : Nat) : Kn := knR.getD i ⟨[], none, none⟩
def knF (i : Nat) : AVal := .agg [.str (knAt i).n, optA (knAt i).o, optA (knAt i).w]
def knPs : List (Nat × AVal) := (List.range 36).map fun i => (i, knF i)
theorem Gb {i : Nat} (h : i < 36) : bH knPs i = knF i := by
 unfold bH knPs
 rw [List.getElem?_map, List.getElem?_range h]
 rfl
theorem uR {R : Seal} {sz n : Nat} {f g : Nat → AVal} {u : Value} (h : ∀ i, i < n → f i = g i) : Rel R (.list sz n f) u → Rel R (.list sz n g) u := by
 rintro ⟨⟨a, cap, e, hle, y⟩, h2⟩
 refine ⟨⟨a, cap, e, hle, ?_⟩, h2⟩
 rcases y with y | ⟨b, o, C, el, fz, ha, hR, hi⟩
 ·exact .inl y
 ·exact .inr ⟨b, o, C, el, fz, ha, hR, fun i hn => by rw [← h i hn]; exact hi i hn⟩
/-! Names whatever their letters. -/
def upB (c : UInt8) : Bool := decide ((65 ≤ c.toNat ∧ c.toNat ≤ 90) ∨ c.toNat = 45)
theorem Ga : (knR.all fun k => k.n.all upB) = true := by decide +kernel
theorem AF {c d : UInt8} (hc : upB c = true) : UInt8.ofNat (bR 65 90 32 c.toNat).toNat = UInt8.ofNat (bR 65 90 32 d.toNat).toNat ↔ c = UInt8.ofNat (bR 97 122 (-32) d.toNat).toNat := by
 have hc : (65 ≤ c.toNat ∧ c.toNat ≤ 90) ∨ c.toNat = 45 := by simpa [upB] using hc
 have h1 := c.toNat_lt
 have h2 := d.toNat_lt
 rw [← UInt8.toNat_inj, ← UInt8.toNat_inj, UInt8.toNat_ofNat', UInt8.toNat_ofNat', UInt8.toNat_ofNat']
 unfold bR
 (repeat' split) <;> omega
theorem rf : ∀ {n s : List UInt8}, n.all upB = true → (al 65 90 32 n = al 65 90 32 s ↔ n = al 97 122 (-32) s)
 | [], [], _ => by simp [al]
 | [], d :: s, _ => by simp [al]
 | c :: n, [], _ => by simp [al]
 | c :: n, d :: s, h => by
  rw [List.all_cons, Bool.and_eq_true] at h
  have ih := rf (n := n) (s := s) h.2
  have hb := AF (d := d) h.1
  unfold al at ih ⊢
  simp only [List.map_cons, List.cons.injEq]
  rw [ih, hb]
theorem Et (i : Nat) : (knAt i).n.all upB = true := by
 unfold knAt
 by_cases h : i < knR.length
 ·rw [List.getD_eq_getElem?_getD, List.getElem?_eq_getElem h]
  exact List.all_eq_true.1 Ga _ (List.getElem_mem h)
 ·rw [List.getD_eq_getElem?_getD, List.getElem?_eq_none (by omega)]
  rfl
/-! What is found. -/
theorem rk {v : Int} {up : List UInt8} {r : Rl} : ∀ {l : List Kn} {k : Nat} (hk : k < l.length), (∀ j (hj : j < l.length), j < k → (l[j].of v = none ∨ l[j].n ≠ up)) → l[k].of v = some r → l[k].n = up → cE up (l.filterMap fun k => (k.of v).map fun r => (k.n, r)) = r
 | x :: t, 0, hk, _, h1, h2 => by
  have h1 : x.of v = some r := h1
  have h2 : x.n = up := h2
  simp only [List.filterMap_cons, h1, Option.map_some, cE, if_pos h2]
 | x :: t, k + 1, hk, h0, h1, h2 => by
  have ih := rk (l := t) (k := k) (by simpa using hk) (fun j hj hjk => by
   have := h0 (j + 1) (by simpa using hj) (by omega)
   simpa using this) (by simpa using h1) (by simpa using h2)
  have h3 : x.of v = none ∨ x.n ≠ up := h0 0 (by simp) (Nat.succ_pos k)
  cases hx : x.of v with
  | none => simp only [List.filterMap_cons, hx, Option.map_none, ih]
  | some r' =>
   rw [hx] at h3
   have h3 : x.n ≠ up := by rcases h3 with h | h; cases h; exact h
   simp only [List.filterMap_cons, hx, Option.map_some, cE, if_neg h3, ih]
theorem vq {v : Int} {up : List UInt8} : ∀ {l : List Kn}, (∀ j (hj : j < l.length), (l[j].of v = none ∨ l[j].n ≠ up)) → cE up (l.filterMap fun k => (k.of v).map fun r => (k.n, r)) = ⟨8, 0, 0, 0⟩
 | [], _ => rfl
 | x :: t, h0 => by
  have ih := vq (v := v) (up := up) (l := t) (fun j hj => by
   have := h0 (j + 1) (by simpa using hj)
   simpa using this)
  have h3 : x.of v = none ∨ x.n ≠ up := h0 0 (by simp)
  cases hx : x.of v with
  | none => simp only [List.filterMap_cons, hx, Option.map_none, ih]
  | some r' =>
   rw [hx] at h3
   have h3 : x.n ≠ up := by rcases h3 with h | h; cases h; exact h
   simp only [List.filterMap_cons, hx, Option.map_some, cE, if_neg h3, ih]
theorem kX {i : Nat} (h : i < knR.length) : knAt i = knR[i] := by
 unfold knAt
 rw [List.getD_eq_getElem?_getD, List.getElem?_eq_getElem h]
 rfl
theorem fy : knR.length = 36 := rfl
attribute [local irreducible] AWp AOps aa ax OrOk ad ae
theorem wP {G : Glo} : FnIs Tryz.prog G 66 [] (.list 3 36 (bH knPs)) := by
 have hGL : ad G [] := ab
 refine fn_x Tryz.func66 Tryz.call66 rfl rfl rfl rfl hGL ?_
 intro C hC
 exact xw0
theorem qG {G : Glo} : FnIs Tryz.prog G 66 [] (.list 3 36 knF) :=
 sO wP fun r H h => by
  obtain ⟨rfl, rfl⟩ := h
  rintro C R w e hm ⟨x, rfl, hx⟩
  exact ⟨R, hm, x, rfl, uR (fun i h => Gb h) hx⟩
theorem dY {G : Glo} (s t : List UInt8) (hl : s.length ≤ 9223372036854775807) (hm : t.length ≤ 9223372036854775807) : FnIs Tryz.prog G 32 [.str s, .str t] (.bool (seqB (al 65 90 32 s) (al 65 90 32 t))) := by
 have h1 := lY (G := G) s hl
 have h2 := lY (G := G) t hm
 have hGL : ad G [] := ab
 refine fn_x Tryz.func32 Tryz.call32 rfl rfl rfl rfl hGL ?_
 intro C hC
 exact xw0
end
section
open Go Go.RowKit
abbrev kRl (b : Nat) (r : Rl) : HEnt := .cells b (some 76) [.int .i64 r.t, .int .i64 r.a, .int .i64 r.b, .int .i64 r.p]
abbrev kPt (b : Nat) : Value := .pointer (some ⟨b, 0, none⟩)
section
variable {P : Program} [Tab P] {C : Ctx} {H : Heap} {env : Env}
theorem gG {sz m : Nat} {f : Nat → AVal} {x : Operand} {T ty e : TypeId} {xT : TI} (hx : ah env x = some (.list sz (m + 1) f)) (h1 : tab P T = some xT) (h2 : xT.desc = .slice e) : RunV P C H env (.binOp .neq T x (.const (.slice none 0 0)) ty) (.bool true) := by
 intro R ρ w hm hf dst t p af g
 refine ⟨_, ?_, aD.2 rfl⟩
 obtain ⟨a, cap, e1, _, y⟩ := aP (hf _ _ hx) rfl
 have e1 : ρ x = .slice a (m + 1) cap := (List.cons.inj e1).1
 obtain ⟨b, o, C0, el, fz, rfl, _⟩ := y.resolve_left (Nat.succ_ne_zero m)
 have hc : ρ (.const (.slice none 0 0)) = .slice none 0 0 := ao.1 (hf (.const (.slice none 0 0)) _ (cF env (.slice none 0 0)))
 obtain ⟨h3, h4, h5⟩ := mt (R := R) (x := x) (w := w) (av := .raw (ρ x)) (c := false) (z := .slice none 0 0) (ao.2 rfl) h1 (by rw [h2, e1]; rfl) (by rw [h2]; rfl)
 have h6 := h5 .neq (.inr rfl)
 rw [if_neg (by decide)] at h6
 simp only [execOp, hc, Sem.run_bind, h4, Result.andThen_ok, h6, h3, Sem.run_pure, Bool.not_false]
end
attribute [local irreducible] AWp AOps aa ax OrOk ad ae
attribute [local irreducible] al knAt knR rowV To
theorem Ai {G : Glo} {v : Int} (hv : v = 3 ∨ v = 4) (s : List UInt8) (hl : s.length ≤ 1000000) : FnIs Tryz.prog G 33 [.str s, .int .i64 v] (.tuple [(cE (al 97 122 (-32) s) (rowV v)).A, .int .i64 0]) := by
 have hGL : ad G [] := ab
 have hK := qG (G := G)
 generalize hup : al 97 122 (-32) s = up at *
 have hsame : ∀ k, k < 36 → FnIs Tryz.prog G 32 [.str (knAt k).n, .str s] (.bool (seqB (knAt k).n up)) := fun k hk => by
  have h := dY (G := G) (knAt k).n s (by
   have : ∀ j, j < 36 → (knAt j).n.length ≤ 100 := by decide +kernel
   have := this k hk
   omega) (by omega)
  have e : seqB (al 65 90 32 (knAt k).n) (al 65 90 32 s) = seqB (knAt k).n up := by
   rw [Bool.eq_iff_iff, a7, a7, rf (Et k), hup]
  rwa [e] at h
 refine fn_a Tryz.func33 Tryz.call33 rfl rfl rfl rfl ?_
 intro C hC
 refine cuty hC hGL (fun b4 : Nat => [(0, .str s), (1, .int .i64 v), (4, .own 0 (kPt b4))]) (fun b4 => [kRl b4 Rl.z]) (fun _ => True) ?_ fun b4 _ => ?_
 ·refine xb1 ?_
  intro b4
  intros
  exact cy b4 trivial
 refine cut hC hGL [(0, .str s), (1, .int .i64 v), (4, .own 0 (kPt b4))] [kRl b4 Rl.z] True ?_ fun _ => ?_
 ·refine xn ?_
  repeat' (first | exact Le.n | refine Lc.mk ?_ ?_)
  all_goals intros
  all_goals first
   | exact Ct.w
   | (exfalso; omega)
 refine iU (cut hC hGL [(0, .str s), (1, .int .i64 v), (4, .own 0 (kPt b4)), (16, .list 3 36 knF), (17, .int .i64 (36 : Nat)), (18, .int .i64 (0 : Nat))] [kRl b4 Rl.z] True xn0 fun _ => ?_)
 refine iV (lw (X := Nat) (fun k => [(0, .str s), (1, .int .i64 v), (4, .own 0 (kPt b4)), (16, .list 3 36 knF), (17, .int .i64 (36 : Nat)), (18, .int .i64 (k : Nat))]) (fun _ => [kRl b4 Rl.z]) (fun k => k ≤ 36 ∧ ∀ j, j < k → ((knAt j).of v = none ∨ (knAt j).n ≠ up)) (fun k => 36 - k) 0 ⟨Nat.zero_le _, fun j h => absurd h (Nat.not_lt_zero _)⟩ ai (List.Sublist.refl _) ?_)
 rintro k ⟨hk, hI⟩
 have hk : k ≤ 36 := hk
 by_cases hlt : k < 36
 ·have hs1 := hsame k hlt
  refine cut hC hGL [(0, .str s), (1, .int .i64 v), (4, .own 0 (kPt b4)), (16, .list 3 36 knF), (17, .int .i64 (36 : Nat)), (18, .int .i64 (k : Nat)), (19, .bool (ltB (k : Int) (36 : Nat)))] [kRl b4 Rl.z] True xn0 fun _ => ?_
  refine cut hC hGL [(0, .str s), (1, .int .i64 v), (4, .own 0 (kPt b4)), (16, .list 3 36 knF), (17, .int .i64 (36 : Nat)), (18, .int .i64 (k : Nat))] [kRl b4 Rl.z] True ?_ fun _ => ?_
  ·refine xn ?_
   repeat' (first | exact Le.n | refine Lc.mk ?_ ?_)
   all_goals intros
   all_goals first
    | (intros; exact Ct.w)
    | (intros; exfalso; omega)
  rcases hkn : knAt k with ⟨n, o, w⟩
  have hkF : knF k = .agg [.str n, optA o, optA w] := by unfold knF; rw [hkn]
  rw [hkn] at hs1
  dsimp only at hs1
  have hnx : ((knAt k).of v = none ∨ n ≠ up) → ∀ j, j < k + 1 → ((knAt j).of v = none ∨ (knAt j).n ≠ up) := fun h j hj => by
   by_cases e : j = k
   ·subst e; rw [hkn] at h ⊢; exact h
   ·exact hI j (by omega)
  rw [hkn] at hnx
  have hfound : ∀ r, (⟨n, o, w⟩ : Kn).of v = some r → n = up → cE up (rowV v) = r := fun r h1 h2 => by
   have e := kX (i := k) (by rw [fy]; exact hlt)
   rw [hkn] at e
   unfold rowV
   exact rk (k := k) (by rw [fy]; exact hlt) (fun j hj hjk => by have := hI j hjk; rwa [kX hj] at this) (by rw [← e]; exact h1) (by rw [← e]; exact h2)
  rcases hv with rfl | rfl
  ·rcases o with _ | o <;> rcases w with _ | w
   all_goals
    refine bw hC hGL ?_
    (conv => whnf)
    refine Ix.w ?_
    rw [hkF]
    refine xn ?_
    repeat' (first | exact Le.n | refine Lc.mk ?_ ?_)
    all_goals intros
    all_goals intros
    all_goals try exact ⟨k + 1, ⟨by show k + 1 ≤ 36; omega, hnx (.inl rfl)⟩, by show 36 - (k + 1) < 36 - k; omega, ai, aR⟩
    all_goals try exact ⟨k + 1, ⟨by show k + 1 ≤ 36; omega, hnx (.inr (by assumption))⟩, by show 36 - (k + 1) < 36 - k; omega, ai, aR⟩
   all_goals
    have hfd := hfound o rfl (by assumption)
    refine aH hC hGL (gG (m := 3) rfl rfl rfl) rfl rfl ?_
    refine xn1 ?_
    refine dw_p mixed hC hGL false (fun (_ : HEnt) => [(4, .own 0 (kPt b4)), (5, .int .i64 0)]) (fun y => [kRl b4 o, y]) (.take 0 (.take 1 (.take 2 (.take 3 (.take 4 (.take 5 (.take 6 (.take 7 (.take 8 (.take 9 (.take 10 (.take 11 (.br 12 (.br 13 (.take 14 (.done)) (.nil)) (.nil)))))))))))))) (by kernel_rfl) ?_ ?_
    ·refine xn ?_
     repeat' (first | exact Le.n | refine Lc.mk ?_ ?_)
     all_goals intros
     all_goals exact ⟨_, ai, rfl⟩
    intro y
    refine xn1 ?_
    rw [hfd]
    exact aj rfl
  ·rcases o with _ | o <;> rcases w with _ | w
   all_goals
    refine bw hC hGL ?_
    (conv => whnf)
    refine Ix.w ?_
    rw [hkF]
    refine xn ?_
    repeat' (first | exact Le.n | refine Lc.mk ?_ ?_)
    all_goals intros
    all_goals intros
    all_goals try exact ⟨k + 1, ⟨by show k + 1 ≤ 36; omega, hnx (.inl rfl)⟩, by show 36 - (k + 1) < 36 - k; omega, ai, aR⟩
    all_goals try exact ⟨k + 1, ⟨by show k + 1 ≤ 36; omega, hnx (.inr (by assumption))⟩, by show 36 - (k + 1) < 36 - k; omega, ai, aR⟩
   all_goals
    have hfd := hfound w rfl (by assumption)
    refine aH hC hGL (gG (m := 3) rfl rfl rfl) rfl rfl ?_
    refine xn1 ?_
    refine dw_p mixed hC hGL false (fun (_ : HEnt) => [(4, .own 0 (kPt b4)), (5, .int .i64 0)]) (fun y => [kRl b4 w, y]) (.take 0 (.take 1 (.take 2 (.take 3 (.take 4 (.take 5 (.take 6 (.take 7 (.take 8 (.take 9 (.take 10 (.take 11 (.br 12 (.br 13 (.take 14 (.done)) (.nil)) (.nil)))))))))))))) (by kernel_rfl) ?_ ?_
    ·refine xn ?_
     repeat' (first | exact Le.n | refine Lc.mk ?_ ?_)
     all_goals intros
     all_goals exact ⟨_, ai, rfl⟩
    intro y
    refine xn1 ?_
    rw [hfd]
    exact aj rfl
 ·obtain rfl : k = 36 := by omega
  have hno : cE up (rowV v) = ⟨8, 0, 0, 0⟩ := by
   unfold rowV
   exact vq fun j hj => by have := hI j (by rw [fy] at hj; exact hj); rwa [kX hj] at this
  refine bw hC hGL (xn1 ?_)
  intro _
  refine ⟨fun _ => ?_, fun h => absurd rfl h⟩
  refine bw hC hGL (xn1 ?_)
  rw [hno]
  exact aj rfl
theorem kO {G : Glo} (v : Int) (s : List UInt8) (hl : s.length ≤ 1000000) : FnIs Tryz.prog G 33 [.str s, .int .i64 v] (.tuple [(ba v s).A, .int .i64 (verE v).e]) := by
 by_cases hv : v = 3 ∨ v = 4
 ·have e1 : ba v s = cE (al 97 122 (-32) s) (rowV v) := by unfold ba; rw [if_pos hv]
  have e2 : verE v = .none := by unfold verE; rw [if_pos hv]
  rw [e1, e2]
  exact Ai hv s hl
 ·have e1 : ba v s = Rl.z := by unfold ba; rw [if_neg hv]
  have e2 : verE v = .errno 1 := by unfold verE; rw [if_neg hv]
  rw [e1, e2]
  have hGL : ad G [] := ab
  refine fn_x Tryz.func33 Tryz.call33 rfl rfl rfl rfl hGL ?_
  intro C hC
  refine xb ?_
  repeat' (first | exact Le.n | refine Lc.mk ?_ ?_)
  all_goals intros
  all_goals intros
  all_goals first
   | (exfalso; omega)
   | (apply aj; rfl)
def nmK (v : Int) (k : Nat) : List (List UInt8) := (knR.take k).filterMap fun k => (k.of v).map fun _ => k.n
theorem Ck {v : Int} {k : Nat} (h : k < 36) : nmK v (k + 1) = nmK v k ++ (((knAt k).of v).map fun _ => (knAt k).n).toList := by
 unfold nmK
 rw [List.take_add_one, List.filterMap_append, kX (by rw [fy]; exact h), List.getElem?_eq_getElem (by rw [fy]; exact h)]
 refine congrArg _ ?_
 simp only [Option.toList_some, List.filterMap_cons, List.filterMap_nil]
 cases hx : (knR[k]'(by rw [fy]; exact h)).of v <;> simp
theorem Ej (v : Int) (k : Nat) : (nmK v k).length ≤ 36 := by
 unfold nmK
 refine Nat.le_trans (List.length_filterMap_le _ _) ?_
 rw [List.length_take, fy]
 omega
theorem Ek {v : Int} (hv : v = 3 ∨ v = 4) : nmK v 36 = au v := by
 have e : ∀ l : List Kn, (l.filterMap fun k => (k.of v).map fun _ => k.n) = (l.filterMap fun k => (k.of v).map fun r => (k.n, r)).map (·.1) := fun l => by
  induction l with
  | nil => rfl
  | cons x t ih => cases hx : x.of v <;> simp [List.filterMap_cons, hx, ih]
 unfold nmK au rowV
 rw [if_pos hv, List.take_of_length_le (by rw [fy]; omega), e]
attribute [local irreducible] nmK
theorem wR {G : Glo} {v : Int} (hv : v = 3 ∨ v = 4) : ae Tryz.prog G 29 [.int .i64 v] [] (fun r H => ∃ va, r = .ret (.tuple [.own 0 va, .int .i64 0]) ∧ H = [.row va none 1 (au v).length (aN (au v))]) := by
  have hGL : ad G [] := ab
  have hK := qG (G := G)
  refine fn_a Tryz.func29 Tryz.call29 rfl rfl rfl rfl ?_
  intro C hC
  refine cut hC hGL [(0, .int .i64 v)] [] True xn0 fun _ => ?_
  refine cut hC hGL [(0, .int .i64 v)] [] True ?_ fun _ => ?_
  · refine xn ?_
    repeat' (first | exact Le.n | refine Lc.mk ?_ ?_)
    all_goals intros
    all_goals first
      | exact Ct.w
      | (exfalso; omega)
  refine cut hC hGL [(0, .int .i64 v), (4, .raw (.slice none 0 0))] [] True xn0 fun _ => ?_
  refine iU (cut hC hGL [(0, .int .i64 v), (4, .raw (.slice none 0 0)), (13, .list 3 36 knF), (14, .int .i64 (36 : Nat)), (15, .int .i64 (0 : Nat))] [] True xn0 fun _ => ?_)
  refine Gy (dT (tH 1) (FB (k := 4) (i := 0) rfl rfl)) ?_
  have e0 : nmK v 0 = [] := by unfold nmK; rfl
  refine iV (lw (X := Nat × Value) (fun x => [(0, .int .i64 v), (4, .own 0 x.2), (13, .list 3 36 knF), (14, .int .i64 (36 : Nat)), (15, .int .i64 (x.1 : Nat))]) (fun x => [.row x.2 none 1 (nmK v x.1).length (aN (nmK v x.1))]) (fun x => x.1 ≤ 36) (fun x => 36 - x.1) (0, .slice none 0 0) (Nat.zero_le _) ai (by rw [e0]; exact List.Sublist.refl _) ?_)
  rintro ⟨k, y⟩ hk
  have hk : k ≤ 36 := hk
  dsimp only
  by_cases hlt : k < 36
  · have hln := Ej v k
    have hsc := Ck (v := v) hlt
    rcases hkn : knAt k with ⟨n, o, w⟩
    have hkF : knF k = .agg [.str n, optA o, optA w] := by unfold knF; rw [hkn]
    rw [hkn] at hsc
    refine cut hC hGL [(0, .int .i64 v), (4, .own 0 y), (13, .list 3 36 knF), (14, .int .i64 (36 : Nat)), (15, .int .i64 (k : Nat)), (16, .bool (ltB (k : Int) (36 : Nat)))] [.row y none 1 (nmK v k).length (aN (nmK v k))] True xn0 fun _ => ?_
    refine cut hC hGL [(0, .int .i64 v), (4, .own 0 y), (13, .list 3 36 knF), (14, .int .i64 (36 : Nat)), (15, .int .i64 (k : Nat))] [.row y none 1 (nmK v k).length (aN (nmK v k))] True ?_ fun _ => ?_
    · refine xn ?_
      repeat' (first | exact Le.n | refine Lc.mk ?_ ?_)
      all_goals intros
      all_goals first
        | (intros; exact Ct.w)
        | (intros; exfalso; omega)
    generalize hnm : nmK v k = nm at *
    rcases hv with rfl | rfl
    · rcases o with _ | o <;> rcases w with _ | w
      all_goals
        simp only [Kn.of, if_true, if_false, Int.reduceEq, Option.map_none, Option.map_some, Option.toList_none, Option.toList_some, List.append_nil, reduceIte] at hsc
        refine bw hC hGL ?_
        (conv => whnf)
        refine Ix.w ?_
        rw [hkF]
        refine xn1 ?_
        intros
        first
          | exact ⟨(k + 1, y), by show k + 1 ≤ 36; omega, by show 36 - (k + 1) < 36 - k; omega, ai, by show List.Sublist [HEnt.row y none 1 (nmK 3 (k + 1)).length (aN (nmK 3 (k + 1)))] _; rw [hsc]; exact aR⟩
          | (refine aH hC hGL (gG (m := 3) rfl rfl rfl) rfl rfl ?_
             refine xn1 ?_
             intro wa wk wc _
             exact ⟨(k + 1, .slice wa wk wc), by show k + 1 ≤ 36; omega, by show 36 - (k + 1) < 36 - k; omega, ai, by show List.Sublist [HEnt.row (.slice wa wk wc) none 1 (nmK 3 (k + 1)).length (aN (nmK 3 (k + 1)))] _; rw [hsc, ← bS, List.length_append]; exact aR⟩)
    · rcases o with _ | o <;> rcases w with _ | w
      all_goals
        simp only [Kn.of, if_true, if_false, Int.reduceEq, Option.map_none, Option.map_some, Option.toList_none, Option.toList_some, List.append_nil, reduceIte] at hsc
        refine bw hC hGL ?_
        (conv => whnf)
        refine Ix.w ?_
        rw [hkF]
        refine xn1 ?_
        intros
        first
          | exact ⟨(k + 1, y), by show k + 1 ≤ 36; omega, by show 36 - (k + 1) < 36 - k; omega, ai, by show List.Sublist [HEnt.row y none 1 (nmK 4 (k + 1)).length (aN (nmK 4 (k + 1)))] _; rw [hsc]; exact aR⟩
          | (refine aH hC hGL (gG (m := 3) rfl rfl rfl) rfl rfl ?_
             refine xn1 ?_
             intro wa wk wc _
             exact ⟨(k + 1, .slice wa wk wc), by show k + 1 ≤ 36; omega, by show 36 - (k + 1) < 36 - k; omega, ai, by show List.Sublist [HEnt.row (.slice wa wk wc) none 1 (nmK 4 (k + 1)).length (aN (nmK 4 (k + 1)))] _; rw [hsc, ← bS, List.length_append]; exact aR⟩)
  · obtain rfl : k = 36 := by omega
    refine bw hC hGL (xn1 ?_)
    intro _
    refine ⟨fun _ => ?_, fun h => absurd rfl h⟩
    refine bw hC hGL (xn1 ?_)
    rw [Ek hv]
    exact ⟨_, List.Sublist.refl _, y, rfl, rfl⟩
theorem p7 {G : Glo} (v : Int) : FnIs Tryz.prog G 29 [.int .i64 v] (.tuple [.list 1 (au v).length (aF (au v)), .int .i64 (verE v).e]) := by
 by_cases hv : v = 3 ∨ v = 4
 ·have e2 : verE v = .none := by unfold verE; rw [if_pos hv]
  rw [e2]
  exact nB (fun a => .tuple [a, .int .i64 0]) (Cp _) (aF (au v)) (ks _) (cs := aN (au v)) (eT := none) ((wR hv).mono fun r H ⟨va, h1, h2⟩ => ⟨_, va, h1, h2⟩)
 ·have e1 : au v = [] := by unfold au; rw [if_neg hv]
  have e2 : verE v = .errno 1 := by unfold verE; rw [if_neg hv]
  rw [e1, e2]
  refine sO (H := []) (Qf := fun r H => r = .ret (.tuple [.raw (.slice none 0 0), .int .i64 1]) ∧ H = []) ?_ (fun r H h => by
   obtain ⟨rfl, rfl⟩ := h
   rintro C R w e hm ⟨x, rfl, hx⟩
   exact ⟨R, hm, x, rfl, qt (Seal.le_refl R) hx fun u hu => by
    obtain rfl := ao.1 (show Rel R (.raw (.slice none 0 0)) u from hu)
    exact ⟨⟨none, 0, rfl, Nat.le_refl _, .inl rfl⟩, rfl⟩⟩)
  have hGL : ad G [] := ab
  refine fn_x Tryz.func29 Tryz.call29 rfl rfl rfl rfl hGL ?_
  intro C hC
  refine xw ?_
  repeat' (first | exact Le.n | refine Lc.mk ?_ ?_)
  all_goals intros
  all_goals first
   | (exfalso; omega)
   | (apply aj; rfl)
end
section
open Go Go.RowKit
section
variable {P : Program} [Tab P] {C : Ctx} {n : Nat} {H : Heap} {env : Env} {x y : Operand} {T : TypeId} {xT : TI} {e : TypeId} {xe : TI}
theorem lM {len i : Nat} {k0 : IntKind} {cs : List AVal} {av : AVal} (hx : ah env x = some (.agg cs)) (hy : ah env y = some (.int k0 (i : Int))) (h1 : tab P T = some xT) (h2 : xT.desc = .array len e) (h3 : tab P e = some xe) (h4 : xe.size = 1) (h5 : a8 xe.desc = false) (hi : i < len) (hc : cs[i]? = some av) (ha : av.isAgg = false) :
  RunV P C H env (.index T x y) av := by
 intro R ρ w hm hf dst t p af g
 have hr := hf _ _ hx
 obtain ⟨vs, hvs⟩ : ∃ vs, ρ x = .agg vs := by
  have := hr.2
  cases hv : ρ x <;> rw [hv] at this <;> simp [AVal.isAgg, vAgg] at this
  exact ⟨_, rfl⟩
 rw [hvs] at hr
 obtain ⟨v, hv, hrv⟩ := bX (R := R) (cs := cs) (vs := vs.toList) hr.1 hc
 refine ⟨v, ?_, bG hrv ha⟩
 have hv' : vs[i]? = some v := by simpa using hv
 have hn : (0 : Int) ≤ i ∧ (i : Int) < len := ⟨by omega, by omega⟩
 have hil : i < vs.size := by
  rcases Nat.lt_or_ge i vs.size with h | h
  ·exact h
  ·rw [Array.getElem?_eq_none h] at hv'; cases hv'
 simp only [execOp, hvs, am.1 (hf _ _ hy), Instr.index, asIntOf, Sem.run_bind, Sem.run_pure, Result.andThen_ok, ak h1, h2, hn, part, Int.toNat_natCast]
 simp [aA h3, bM h3, h5, h4, hv']
end
end
section
open Go Go.RowKit
def valN : List UInt8 := [86, 65, 76, 85, 69]
def bO (s : List UInt8) : List Pr → Nat → Int
 | [], _ => -1
 | q :: l, i => if al 97 122 (-32) q.n = al 97 122 (-32) s then (i : Int) else bO s l (i + 1)
def tyL (t : Int) (x : List UInt8) : Int := if x = [116, 101, 120, 116] then (if t = 2 ∨ t = 3 then t else 1)
 else if x = [117, 114, 105] then 4
 else if x = [100, 97, 116, 101, 45, 97, 110, 100, 45, 111, 114, 45, 116, 105, 109, 101] then 5
 else if x = [100, 97, 116, 101] then 5
 else if x = [100, 97, 116, 101, 45, 116, 105, 109, 101] then 5
 else if x = [116, 105, 109, 101, 115, 116, 97, 109, 112] then 5
 else if x = [117, 116, 99, 45, 111, 102, 102, 115, 101, 116] then 6
 else if x = [108, 97, 110, 103, 117, 97, 103, 101, 45, 116, 97, 103] then 7
 else 8
def kn (t : Int) (l : List Pr) : Int := if bO valN l 0 < 0 ∨ (l.getD (bO valN l 0).toNat Pr.z).vs.length = 0 then t else tyL t (al 65 90 32 ((l.getD (bO valN l 0).toNat Pr.z).vs.getD 0 []))
def eO (v : Int) (s : List UInt8) (l : List Pr) : Int := if v = 3 ∨ v = 4 then kn (ba v s).t l else 0
theorem iK {s : List UInt8} : ∀ {l : List Pr} {k : Nat} (i : Nat), k < l.length → (∀ j, j < k → al 97 122 (-32) (l.getD j Pr.z).n ≠ al 97 122 (-32) s) → al 97 122 (-32) (l.getD k Pr.z).n = al 97 122 (-32) s → bO s l i = ((i + k : Nat) : Int)
 | [], k, i, h, _, _ => absurd h (Nat.not_lt_zero _)
 | q :: l, 0, i, _, _, h => by
  have h : al 97 122 (-32) q.n = al 97 122 (-32) s := h
  simp only [bO, if_pos h, Nat.add_zero]
 | q :: l, k + 1, i, hk, h0, h => by
  have h1 : al 97 122 (-32) q.n ≠ al 97 122 (-32) s := h0 0 (Nat.succ_pos k)
  have ih := iK (s := s) (l := l) (k := k) (i + 1) (by simpa using hk) (fun j hj => by simpa using h0 (j + 1) (by omega)) (by simpa using h)
  simp only [bO, if_neg h1, ih]
  omega
theorem pn {s : List UInt8} : ∀ {l : List Pr} (i : Nat), (∀ j, j < l.length → al 97 122 (-32) (l.getD j Pr.z).n ≠ al 97 122 (-32) s) → bO s l i = -1
 | [], _, _ => rfl
 | q :: l, i, h0 => by
  have h1 : al 97 122 (-32) q.n ≠ al 97 122 (-32) s := h0 0 (by simp)
  have ih := pn (s := s) (l := l) (i + 1) (fun j hj => by simpa using h0 (j + 1) (by simpa using hj))
  simp only [bO, if_neg h1, ih]
theorem iJ (s : List UInt8) : ∀ (l : List Pr) (i : Nat), bO s l i = -1 ∨ ∃ k, k < l.length ∧ bO s l i = ((i + k : Nat) : Int)
 | [], _ => .inl rfl
 | q :: l, i => by
  by_cases h : al 97 122 (-32) q.n = al 97 122 (-32) s
  ·exact .inr ⟨0, by simp, by simp only [bO, if_pos h, Nat.add_zero]⟩
  ·rcases iJ s l (i + 1) with h1 | ⟨k, h1, h2⟩
   ·exact .inl (by simp only [bO, if_neg h, h1])
   ·exact .inr ⟨k + 1, by simpa using h1, by simp only [bO, if_neg h, h2]; omega⟩
theorem CU {c d : UInt8} : UInt8.ofNat (bR 65 90 32 c.toNat).toNat = UInt8.ofNat (bR 65 90 32 d.toNat).toNat ↔ UInt8.ofNat (bR 97 122 (-32) c.toNat).toNat = UInt8.ofNat (bR 97 122 (-32) d.toNat).toNat := by
 have h1 := c.toNat_lt
 have h2 := d.toNat_lt
 rw [← UInt8.toNat_inj, ← UInt8.toNat_inj, UInt8.toNat_ofNat', UInt8.toNat_ofNat', UInt8.toNat_ofNat', UInt8.toNat_ofNat']
 unfold bR
 (repeat' split) <;> omega
theorem vl : ∀ {n s : List UInt8}, (al 65 90 32 n = al 65 90 32 s ↔ al 97 122 (-32) n = al 97 122 (-32) s)
 | [], [] => by simp [al]
 | [], d :: s => by simp [al]
 | c :: n, [] => by simp [al]
 | c :: n, d :: s => by
  have ih := vl (n := n) (s := s)
  have hb := CU (c := c) (d := d)
  unfold al at ih ⊢
  simp only [List.map_cons, List.cons.injEq]
  rw [ih, hb]
theorem e8 (n s : List UInt8) : seqB (al 65 90 32 n) (al 65 90 32 s) = seqB (al 97 122 (-32) n) (al 97 122 (-32) s) := by
 rw [Bool.eq_iff_iff, a7, a7]
 exact vl
attribute [local irreducible] AWp AOps aa ax OrOk ad ae
attribute [local irreducible] al bO tyL
theorem on {G : Glo} (l : List Pr) (s : List UInt8) (hl : l.length ≤ 9223372036854775807) (hn : ∀ k, (l.getD k Pr.z).n.length ≤ 9223372036854775807) (hs : s.length ≤ 1000000) : FnIs Tryz.prog G 54 [.list 2 l.length (prF l), .str s] (.int .i64 (bO s l 0)) := by
 have h1 := fun k => qP (G := G) (l.getD k Pr.z).n s (by have := hn k; omega) (by omega)
 have hGL : ad G [] := ab
 refine fn_x Tryz.func54 Tryz.call54 rfl rfl rfl rfl hGL ?_
 intro C hC
 refine xw1 ?_
 intros
 refine lp hC hGL (fun (k : Nat) => [(1, .str s), (7, .list 2 l.length (prF l)), (8, .int .i64 (l.length : Nat)), (9, .int .i64 (k : Nat))]) (fun _ => []) (fun k => k ≤ l.length ∧ ∀ j, j < k → al 97 122 (-32) (l.getD j Pr.z).n ≠ al 97 122 (-32) s) (fun k => l.length - k) 0 ⟨Nat.zero_le _, fun j h => absurd h (Nat.not_lt_zero _)⟩ ai rfl ?_
 rintro k ⟨hk, hI⟩
 have h2 := h1 k
 refine xw ?_
 repeat' (first | exact Le.n | refine Lc.mk ?_ ?_)
 all_goals intros
 all_goals intros
 ·apply aj
  rw [iK 0 (by omega) hI (by assumption), Nat.zero_add]
 ·exact nxs (k + 1) ⟨by omega, aM hI (by assumption)⟩ (by omega) ai aR
 ·apply aj
  rw [pn 0 fun j hj => hI j (by omega)]
  rfl
theorem B4 {G : Glo} (l : List Pr) (s : List UInt8) (hl : l.length ≤ 9223372036854775807) (hn : ∀ k, (l.getD k Pr.z).n.length ≤ 9223372036854775807) (hs : s.length ≤ 1000000) : FnIs Tryz.prog G 85 [.list 2 l.length (prF l), .str s] (.int .i64 (bO s l 0)) := by
 have h1 := fun k => dY (G := G) (l.getD k Pr.z).n s (by have := hn k; omega) (by omega)
 have hGL : ad G [] := ab
 refine fn_x Tryz.func85 Tryz.call85 rfl rfl rfl rfl hGL ?_
 intro C hC
 refine xw1 ?_
 intros
 refine lp hC hGL (fun (k : Nat) => [(0, .list 2 l.length (prF l)), (1, .str s), (7, .int .i64 (l.length : Nat)), (8, .int .i64 (k : Nat))]) (fun _ => []) (fun k => k ≤ l.length ∧ ∀ j, j < k → al 97 122 (-32) (l.getD j Pr.z).n ≠ al 97 122 (-32) s) (fun k => l.length - k) 0 ⟨Nat.zero_le _, fun j h => absurd h (Nat.not_lt_zero _)⟩ ai rfl ?_
 rintro k ⟨hk, hI⟩
 have h2 := h1 k
 rw [e8] at h2
 refine xw ?_
 repeat' (first | exact Le.n | refine Lc.mk ?_ ?_)
 all_goals intros
 all_goals intros
 ·apply aj
  rw [iK 0 (by omega) hI (by assumption), Nat.zero_add]
 ·exact nxs (k + 1) ⟨by omega, aM hI (by assumption)⟩ (by omega) ai aR
 ·apply aj
  rw [pn 0 fun j hj => hI j (by omega)]
  rfl
end
section
open Go Go.RowKit
def cntB (m : Nat) (s : List UInt8) : Bool := (List.range m).any fun i => decide (Lib.decDigits (i + 1) = s)
theorem yd {m : Nat} {s : List UInt8} : cntB m s = true ↔ ∃ n, 1 ≤ n ∧ n ≤ m ∧ Lib.decDigits n = s := by
 unfold cntB
 rw [List.any_eq_true]
 constructor
 ·rintro ⟨i, hi, h⟩
  exact ⟨i + 1, by omega, by have := List.mem_range.1 hi; omega, of_decide_eq_true h⟩
 ·rintro ⟨n, h1, h2, h3⟩
  exact ⟨n - 1, List.mem_range.2 (by omega), decide_eq_true (by rw [show n - 1 + 1 = n by omega]; exact h3)⟩
theorem pC {m : Nat} {s : List UInt8} : cntB m s = false ↔ ∀ n, 1 ≤ n → n ≤ m → Lib.decDigits n ≠ s := by
 rw [← Bool.not_eq_true, yd]
 exact ⟨fun h n h1 h2 h3 => h ⟨n, h1, h2, h3⟩, fun h ⟨n, h1, h2, h3⟩ => h n h1 h2 h3⟩
def pidB (v : List UInt8) : Bool := cntB 999 (Lib.cut v [46]).1 && (!(Lib.cut v [46]).2.2 || cntB 999 (Lib.cut v [46]).2.1)
def fitN (n : List UInt8) (vs : List (List UInt8)) : Bool :=
 if n = [86, 65, 76, 85, 69] ∨ n = [65, 76, 84, 73, 68] ∨ n = [77, 69, 68, 73, 65, 84, 89, 80, 69] ∨ n = [69, 78, 67, 79, 68, 73, 78, 71] then decide (vs.length = 1)
 else if n = [76, 65, 78, 71, 85, 65, 71, 69] then decide (vs.length = 1) && (ca (vs.getD 0 [])).isNone
 else if n = [80, 82, 69, 70] then decide (vs.length = 1) && cntB 100 (vs.getD 0 [])
 else if n = [84, 89, 80, 69] then vs.all isS && decide (0 < vs.length)
 else if n = [80, 73, 68] then vs.all pidB && decide (0 < vs.length)
 else decide (0 < vs.length)
def Pr.fit (q : Pr) : Bool := fitN (al 97 122 (-32) q.n) q.vs
def G7 (s : List UInt8) (a : AVal) : Prop := (∃ n, a = .tuple [.int .i64 n, .raw .nilIface] ∧ Lib.atoiAll s = .ok n) ∨ (∃ n t v, a = .tuple [.int .i64 n, .iface t (.raw v)] ∧ ∀ k, Lib.atoiAll s ≠ .ok k)
def rF (g : Nat) (R : Seal) : Prop := ∃ t v e fz, R g = some (.cells #[.iface t v] e fz)
def ij (G : Glo) : Prop := ∀ R, G.p R → rF 5 R ∧ rF 6 R
theorem sN {P : Program} {G : Glo} {f : FuncId} {avs : List AVal} {Qf : AVal → Prop} (hc : ∀ args w, (callFunc f args).run P w = .ok (.enter f args) w)
  (h : ∀ R args, RelV R avs args.toList → ∀ w, G.p R → cH R w → Calls P f args w fun e w' => (∃ u a, e = .returned u ∧ Qf a ∧ ∀ R, Rel R a u) ∧ Below w.heap.size w w') : ae P G f avs [] (fun r H => (∃ v, r = .ret v ∧ Qf v) ∧ H = []) := by
 intro R w args hG hm ha
 refine .inl ⟨hc args w, (h R args ha w hG hm.sealed).mono ?_⟩
 rintro e w' ⟨⟨u, a, rfl, hq, hr⟩, hb⟩
 refine ⟨.ret a, [], R, ⟨⟨a, rfl, hq⟩, rfl⟩, ⟨_, rfl, hr R⟩, ?_⟩
 refine ⟨?_, Seal.le_refl R, fun _ hb => .inl hb, ⟨fun _ h => absurd h List.not_mem_nil, List.nodup_nil, fun _ h => absurd h List.not_mem_nil⟩, fun _ h => absurd h List.not_mem_nil,
  ⟨hb.os, hb.tape, hb.output, hb.size, fun b hlt _ => hb.block b hlt⟩⟩
 intro b o ho
 have h1 := hm.sealed b o ho
 have hlt : b < w.heap.size := (Array.getElem?_eq_some_iff.1 h1).1
 rw [hb.block b hlt, h1]
theorem vz {g : Nat} {R : Seal} {w : World} (h : rF g R) (hs : cH R w) : ∃ t v, w.cell? ⟨g, 0, none⟩ = some (.iface t v) := by
 obtain ⟨t, v, e, fz, h⟩ := h
 refine ⟨t, v, ?_⟩
 unfold World.cell?
 simp [hs _ _ h]
theorem rL {G : Glo} (hE : ij G) (s : List UInt8) (hl : s.length ≤ 1000000) : ae Tryz.prog G 65 [.str s] [] (fun r H => (∃ v, r = .ret v ∧ G7 s v) ∧ H = []) := by
 refine sN Tryz.call65 ?_
 intro R args hr w hG hs
 obtain ⟨x, t, e', hx, rfl⟩ := hr
 obtain rfl := aB.1 hx
 obtain rfl := dK e'
 have hsz : (⟨s.toArray⟩ : ByteArray).size ≤ 1000000 := by rw [aY]; exact hl
 obtain ⟨⟨t1, v1, c1⟩, t2, v2, c2⟩ : (∃ t v, w.cell? ⟨5, 0, none⟩ = some (.iface t v)) ∧ ∃ t v, w.cell? ⟨6, 0, none⟩ = some (.iface t v) := ⟨vz (hE R hG).1 hs, vz (hE R hG).2 hs⟩
 cases ha : Lib.atoiAll s
 ·rename_i n
  refine (Tryz.strconv_Atoi_ok ⟨s.toArray⟩ (by omega) n (by simpa using ha) w).mono ?_
  rintro e w' ⟨rfl, hw⟩
  refine ⟨⟨_, _, rfl, .inl ⟨n, rfl, ha⟩, fun R => kK (am.2 rfl) (ao.2 rfl)⟩, ?_⟩
  rcases hw with rfl | ⟨t, rfl⟩
  ·exact Below.refl _ _
  ·exact ⟨rfl, rfl, rfl, by rw [Lib.bytesWorld_size]; omega, fun k hk => Lib.bytesWorld_at_old _ _ _ _ hk⟩
 ·refine (Tryz.strconv_Atoi_syntax ⟨s.toArray⟩ (by omega) (by simpa using ha) _ w c1 (.inr ⟨_, _, rfl⟩)).mono ?_
  rintro e w' ⟨N, rfl, _, _, hb⟩
  exact ⟨⟨_, _, rfl, .inr ⟨0, _, _, rfl, fun k h => by rw [ha] at h; cases h⟩, fun R => kK (am.2 rfl) ⟨⟨_, rfl, rfl, rfl⟩, rfl⟩⟩, hb⟩
 ·refine (Tryz.strconv_Atoi_range ⟨s.toArray⟩ (by omega) (by simpa using ha) _ w c2 (.inr ⟨_, _, rfl⟩)).mono ?_
  rintro e w' ⟨N, rfl, _, _, hb⟩
  exact ⟨⟨_, _, rfl, .inr ⟨_, _, _, rfl, fun k h => by rw [ha] at h; cases h⟩, fun R => kK (am.2 rfl) ⟨⟨_, rfl, rfl, rfl⟩, rfl⟩⟩, hb⟩
theorem pN : ∀ k : Fin 1000, Lib.atoiAll (Lib.decDigits k.val) = .ok (k.val : Int) := by decide +kernel
attribute [local irreducible] AWp AOps aa ax OrOk ad ae
theorem gH {G : Glo} (hE : ij G) (hP : co G) (s : List UInt8) (m : Nat) (hl : s.length ≤ 1000000) (hm : m ≤ 999) : FnIs Tryz.prog G 101 [.str s, .int .i64 (m : Int)] (.bool (cntB m s)) := by
 have hA := rL hE s hl
 have hI := fun n h => strconv_Itoa (G := G) hP n h
 have hGL : ad G [] := ab
 refine fn_x Tryz.func101 Tryz.call101 rfl rfl rfl rfl hGL ?_
 intro C hC
 refine xw1 ?_
 intros
 refine mw hA ?_
 rintro a (⟨n, rfl, h⟩ | ⟨n, t, v, rfl, h⟩)
 ·by_cases hn : 1 ≤ n ∧ n ≤ m
  ·obtain ⟨k, rfl⟩ : ∃ k : Nat, n = k := ⟨n.toNat, by omega⟩
   have hI := hI k (by omega)
   have e : seqB (Lib.decDigits k) s = cntB m s := by
    cases hc : cntB m s with
    | true =>
     obtain ⟨j, h1, h2, h3⟩ := yd.1 hc
     have := pN ⟨j, by omega⟩
     rw [h3, h] at this
     have e : (k : Int) = j := by simpa using this
     rw [Int.ofNat.inj e, h3]
     exact a7.2 rfl
    | false => exact iq.2 (pC.1 hc k (by omega) (by omega))
   rw [← e]
   exact xw0
  ·have e : cntB m s = false := by
    refine pC.2 fun j h1 h2 h3 => hn ?_
    have := pN ⟨j, by omega⟩
    rw [h3, h] at this
    have e : n = j := by simpa using this
    omega
   rw [e]
   exact xw0
 ·have e : cntB m s = false := by
   refine pC.2 fun j h1 h2 h3 => h (j : Int) ?_
   have := pN ⟨j, by omega⟩
   rwa [h3] at this
  rw [e]
  exact xw0
end
section
open Go Go.RowKit
abbrev prA (q : Pr) : AVal := .agg [.str q.n, .list 1 q.vs.length (aF q.vs)]
abbrev nVAL : List UInt8 := [86, 65, 76, 85, 69]
abbrev nALT : List UInt8 := [65, 76, 84, 73, 68]
abbrev nMED : List UInt8 := [77, 69, 68, 73, 65, 84, 89, 80, 69]
abbrev nENC : List UInt8 := [69, 78, 67, 79, 68, 73, 78, 71]
abbrev nLAN : List UInt8 := [76, 65, 78, 71, 85, 65, 71, 69]
abbrev nPRE : List UInt8 := [80, 82, 69, 70]
abbrev nTYP : List UInt8 := [84, 89, 80, 69]
abbrev nPID : List UInt8 := [80, 73, 68]
inductive NmC (n : List UInt8) : Prop
 | one (h : n = nVAL ∨ n = nALT ∨ n = nMED ∨ n = nENC)
 | lan (h : n = nLAN)
 | pre (h : n = nPRE)
 | typ (h : n = nTYP)
 | pid (h : n = nPID)
 | els (h1 : n ≠ nVAL) (h2 : n ≠ nALT) (h3 : n ≠ nMED) (h4 : n ≠ nENC) (h5 : n ≠ nLAN) (h6 : n ≠ nPRE) (h7 : n ≠ nTYP) (h8 : n ≠ nPID)
theorem nmC (n : List UInt8) : NmC n := by
 by_cases h : n = nVAL ∨ n = nALT ∨ n = nMED ∨ n = nENC
 ·exact .one h
 simp only [not_or] at h
 obtain ⟨h1, h2, h3, h4⟩ := h
 by_cases h5 : n = nLAN
 ·exact .lan h5
 by_cases h6 : n = nPRE
 ·exact .pre h6
 by_cases h7 : n = nTYP
 ·exact .typ h7
 by_cases h8 : n = nPID
 ·exact .pid h8
 exact .els h1 h2 h3 h4 h5 h6 h7 h8
theorem pR {p : List UInt8 → Bool} {l : List (List UInt8)} (h : ∀ k, k < l.length → p (l.getD k []) = true) : l.all p = true := by
 rw [List.all_eq_true]
 intro x hx
 obtain ⟨i, hi, rfl⟩ := List.getElem_of_mem hx
 have := h i hi
 rwa [List.getD_eq_getElem?_getD, List.getElem?_eq_getElem hi] at this
theorem nI {p : List UInt8 → Bool} {l : List (List UInt8)} {k : Nat} (hk : k < l.length) (h : p (l.getD k []) = false) : l.all p = false := by
 rw [List.all_eq_false]
 refine ⟨l[k], List.getElem_mem hk, ?_⟩
 rw [List.getD_eq_getElem?_getD, List.getElem?_eq_getElem hk] at h
 simpa using h
theorem Dd (s : List UInt8) (c : UInt8) : (Lib.cut s [c]).1.length ≤ s.length ∧ (Lib.cut s [c]).2.1.length ≤ s.length := by
 unfold Lib.cut
 split
 ·exact ⟨List.length_take_le' .., by dsimp only; rw [List.length_drop]; omega⟩
 ·exact ⟨Nat.le_refl _, Nat.zero_le _⟩
attribute [local irreducible] AWp AOps aa ax OrOk ad ae
attribute [local irreducible] cntB ca isS pidB Lib.cut
theorem wI {G : Glo} {m : Int} (hE : ij G) (hP : co G) (hM : ad G (bI m)) (q : Pr) (h0 : q.n.length ≤ 1000000) (h1 : q.vs.length ≤ 1000000) (h2 : ∀ k, (q.vs.getD k []).length ≤ 90000) : FnIs Tryz.prog G 52 [prA q] (.bool q.fit) := by
 have hU := dG (G := G) q.n (by omega)
 unfold Pr.fit
 obtain ⟨nm, vs⟩ := q
 dsimp only at h0 h1 h2 hU ⊢
 generalize al 97 122 (-32) nm = n at *
 cases nmC n with
 | one h =>
  have e : fitN n vs = eqB (vs.length : Int) 1 := by
   unfold fitN
   rw [if_pos h]
   unfold eqB
   exact decide_eq_decide.2 (by omega)
  rw [e]
  rcases h with rfl | rfl | rfl | rfl
  all_goals
   have hGL : ad G [] := ab
   refine fn_x Tryz.func52 Tryz.call52 rfl rfl rfl rfl hGL ?_
   intro C hC
   exact xw0
 | lan h =>
  subst h
  have hR := oV (G := G) (vs.getD 0 []) (by have := h2 0; omega)
  have e : fitN nLAN vs = (decide (vs.length = 1) && (ca (vs.getD 0 [])).isNone) := rfl
  rw [e]
  by_cases hv : vs.length = 1
  ·rw [decide_eq_true hv]
   rcases hx : ca (vs.getD 0 []) with _ | e | ⟨e, p⟩
   all_goals
    rw [hx] at hR
    have hGL : ad G [] := ab
    refine fn_x Tryz.func52 Tryz.call52 rfl rfl rfl rfl hGL ?_
    intro C hC
    exact xw0
  ·rw [decide_eq_false hv]
   have hGL : ad G [] := ab
   refine fn_x Tryz.func52 Tryz.call52 rfl rfl rfl rfl hGL ?_
   intro C hC
   exact xw0
 | pre h =>
  subst h
  have hR := gH hE hP (vs.getD 0 []) 100 (by have := h2 0; omega) (by decide)
  have e : fitN nPRE vs = (decide (vs.length = 1) && cntB 100 (vs.getD 0 [])) := rfl
  rw [e]
  by_cases hv : vs.length = 1
  ·rw [decide_eq_true hv]
   have hGL : ad G [] := ab
   refine fn_x Tryz.func52 Tryz.call52 rfl rfl rfl rfl hGL ?_
   intro C hC
   exact xw0
  ·rw [decide_eq_false hv]
   have hGL : ad G [] := ab
   refine fn_x Tryz.func52 Tryz.call52 rfl rfl rfl rfl hGL ?_
   intro C hC
   exact xw0
 | typ h =>
  subst h
  have e : fitN nTYP vs = (vs.all isS && ltB 0 (vs.length : Int)) := by
   unfold ltB
   rw [show decide ((0 : Int) < (vs.length : Int)) = decide (0 < vs.length) from decide_eq_decide.2 (by omega)]
   rfl
  rw [e]
  have hGL : ad G [] := ab
  refine fn_x Tryz.func52 Tryz.call52 rfl rfl rfl rfl hGL ?_
  intro C hC
  refine xw1 ?_
  intros
  refine lp hC hGL (fun k : Nat => [(1, .rop [.str nm, .list 1 vs.length (aF vs)] 0), (48, .list 1 vs.length (aF vs)), (49, .int .i64 (vs.length : Int)), (50, .int .i64 (k : Int))]) (fun _ => []) (fun k => k ≤ vs.length ∧ ∀ j, j < k → isS (vs.getD j []) = true) (fun k => vs.length - k) 0 ⟨Nat.zero_le _, fun j h => absurd h (Nat.not_lt_zero _)⟩ ai rfl ?_
  rintro k ⟨hk1, hk2⟩
  by_cases hk : k < vs.length
  ·have hI := kU (G := G) (vs.getD k []) (by have := h2 k; omega)
   cases hs : isS (vs.getD k []) with
   | true =>
    rw [hs] at hI
    refine xw1 ?_
    intros
    refine nxt (k + 1) ⟨by omega, fun j hj => ?_⟩ (by omega) ai rfl
    rcases Nat.lt_or_eq_of_le (Nat.le_of_lt_succ hj) with h | rfl
    ·exact hk2 j h
    ·exact hs
   | false =>
    rw [hs] at hI
    rw [nI hk hs]
    exact xw0
  ·rw [pR fun j hj => hk2 j (by omega)]
   exact xw0
 | pid h =>
  subst h
  have e : fitN nPID vs = (vs.all pidB && ltB 0 (vs.length : Int)) := by
   unfold ltB
   rw [show decide ((0 : Int) < (vs.length : Int)) = decide (0 < vs.length) from decide_eq_decide.2 (by omega)]
   rfl
  rw [e]
  have hGL : ad G [] := ab
  refine fn_x Tryz.func52 Tryz.call52 rfl rfl rfl rfl hGL ?_
  intro C hC
  refine xw1 ?_
  intros
  refine lp hC hGL (fun k : Nat => [(1, .rop [.str nm, .list 1 vs.length (aF vs)] 0), (61, .list 1 vs.length (aF vs)), (62, .int .i64 (vs.length : Int)), (63, .int .i64 (k : Int))]) (fun _ => []) (fun k => k ≤ vs.length ∧ ∀ j, j < k → pidB (vs.getD j []) = true) (fun k => vs.length - k) 0 ⟨Nat.zero_le _, fun j h => absurd h (Nat.not_lt_zero _)⟩ ai rfl ?_
  rintro k ⟨hk1, hk2⟩
  by_cases hk : k < vs.length
  ·have hl := h2 k
   have hcut := tJ (G := G) hM (vs.getD k []) 46 (by omega)
   have hcl := Dd (vs.getD k []) 46
   have hp : pidB (vs.getD k []) = (cntB 999 (Lib.cut (vs.getD k []) [46]).1 && (!(Lib.cut (vs.getD k []) [46]).2.2 || cntB 999 (Lib.cut (vs.getD k []) [46]).2.1)) := by unfold pidB; rfl
   generalize Lib.cut (vs.getD k []) [46] = cu at *
   obtain ⟨a, b, tw⟩ := cu
   dsimp only at hcut hcl hp
   have hA := gH hE hP a 999 (by omega) (by decide)
   have hB := gH hE hP b 999 (by omega) (by decide)
   have go : pidB (vs.getD k []) = true → k + 1 ≤ vs.length ∧ ∀ j, j < k + 1 → pidB (vs.getD j []) = true := fun hs => ⟨by omega, fun j hj => by
    rcases Nat.lt_or_eq_of_le (Nat.le_of_lt_succ hj) with h | rfl
    ·exact hk2 j h
    ·exact hs⟩
   cases ha : cntB 999 a with
   | false =>
    rw [ha] at hA hp
    rw [nI hk hp]
    exact xw0
   | true =>
    rw [ha] at hA hp
    cases tw with
    | false =>
     refine xw1 ?_
     intros
     exact nxt (k + 1) (go hp) (by omega) ai rfl
    | true =>
     cases hb : cntB 999 b with
     | true =>
      rw [hb] at hB hp
      refine xw1 ?_
      intros
      exact nxt (k + 1) (go hp) (by omega) ai rfl
     | false =>
      rw [hb] at hB hp
      rw [nI hk hp]
      exact xw0
  ·rw [pR fun j hj => hk2 j (by omega)]
   exact xw0
 | els h3 h4 h5 h6 h7 h8 h9 h10 =>
  have e : fitN n vs = ltB 0 (vs.length : Int) := by
   unfold fitN
   rw [if_neg (by simp [*]), if_neg h7, if_neg h8, if_neg h9, if_neg h10]
   unfold ltB
   exact decide_eq_decide.2 (by omega)
  rw [e]
  have hGL : ad G [] := ab
  refine fn_x Tryz.func52 Tryz.call52 rfl rfl rfl rfl hGL ?_
  intro C hC
  exact xw0
end
section
open Go Go.RowKit
theorem CH {c : Nat} (h : c < 256) : isS (aT [(c : Int)]) = bn c := by
 have hb : aa (aT [(c : Int)]) 0 = c := by
  unfold aT aa
  simp
  omega
 rw [Bool.eq_iff_iff, isS]
 have hl : (aT [(c : Int)]).length = 1 := rfl
 rw [hl]
 simp only [Bool.and_eq_true, pS, hl, decide_eq_true_eq]
 constructor
 ·intro h; have := h.1 0 (by omega); rwa [hb] at this
 ·intro h; exact ⟨fun j hj => by rw [show j = 0 by omega, hb]; exact h, by omega, by omega⟩
theorem xi {c : Int} (h : bn c = true) (hc : c ≠ 45) : (48 ≤ c ∧ c ≤ 57) ↔ c ≤ 57 := by
 rw [mg] at h; omega
theorem oW {b : Bool} {a : Nat} {x : List UInt8} {xs : List (List UInt8)} : cD b a (x :: xs) = if (ct b a x).isNone then cD false (a + x.length + 1) xs else ct b a x := by rw [cD]
theorem sq {x : List UInt8} (h : (45 : UInt8) ∉ x) {j : Nat} (hj : j < x.length) : aa x j ≠ 45 := by
 intro e
 rw [bm hj] at e
 exact h (by rw [← show x[j] = 45 from UInt8.toNat_inj.1 (by rw [e]; rfl)]; exact List.getElem_mem hj)
theorem oH {first : Bool} {a : Nat} {x : List UInt8} {i : Nat} (hi : i < x.length) (hb : lgB first (aa x i : Int) = false) (h0 : ∀ j, j < i → lgB first (aa x j : Int) = true) : ct first a x = .at 3 ((a : Int) + i) := by
 have hf : fstB (fun c => !lgB first c) x = i := gP hi (by rw [hb]; rfl) (fun j hj => by rw [h0 j hj]; rfl)
 unfold ct
 rw [hf, if_pos (by omega)]
theorem iC {first : Bool} {a : Nat} {x : List UInt8} (h0 : ∀ j, j < x.length → lgB first (aa x j : Int) = true) : ct first a x = if x.length = 0 then .at 7 a else if 8 < x.length then .at 4 a else .none := by
 have hf : fstB (fun c => !lgB first c) x = -1 := dH (fun j hj => by rw [h0 j hj]; rfl)
 unfold ct
 rw [hf, if_neg (by omega)]
theorem iZ (c : UInt8) : ∀ s : List UInt8, (splS c s).length ≤ s.length + 1 ∧ ∀ p, p ∈ splS c s → p.length ≤ s.length
 | [] => ⟨Nat.le_refl _, fun p h => by simp [splS] at h; subst h; exact Nat.le_refl _⟩
 | x :: t => by
  obtain ⟨h1, h2⟩ := iZ c t
  by_cases hx : x = c
  ·rw [splS, if_pos hx]
   refine ⟨by simp only [List.length_cons]; omega, fun p hp => ?_⟩
   rcases List.mem_cons.1 hp with rfl | hp
   ·simp
   ·have := h2 p hp; simp only [List.length_cons]; omega
  ·rw [splS, if_neg hx]
   cases h3 : splS c t with
   | nil => exact absurd h3 (kx c t)
   | cons q qs =>
    rw [h3] at h1 h2
    refine ⟨by simp only [List.length_cons] at *; omega, fun p hp => ?_⟩
    rcases List.mem_cons.1 hp with rfl | hp
    ·have := h2 q (by simp); simp only [List.length_cons]; omega
    ·have := h2 p (by simp [hp]); simp only [List.length_cons]; omega
attribute [local irreducible] AWp AOps aa ax OrOk ad ae
attribute [local irreducible] splS cD lgB isS bn ct
theorem jH {G : Glo} {m : Int} (hM : ad G (bI m)) (s : List UInt8) (hl : s.length ≤ 3000) : FnIs Tryz.prog G 82 [.str s] (.agg [.int .i64 (ca s).e, .int .i64 (ca s).p]) := by
 have h1 := n8 (G := G) hM s 45 (by omega)
 have hgd := di (G := G)
 have hmem : ∀ k, k < (splS 45 s).length → (45 : UInt8) ∉ (splS 45 s).getD k [] := fun k hk => by
  rw [List.getD_eq_getElem?_getD, List.getElem?_eq_getElem hk]
  exact ky (List.getElem_mem hk)
 have hX : ca s = cD true 0 (splS 45 s) := rfl
 have hlen : ∀ p, p ∈ splS 45 s → p.length ≤ 3000 := fun p hp => Nat.le_trans ((iZ 45 s).2 p hp) hl
 have hPl : (splS 45 s).length ≤ 3001 := by have := (iZ 45 s).1; omega
 generalize splS 45 s = P at *
 have hGL : ad G [] := ab
 refine fn_x Tryz.func82 Tryz.call82 rfl rfl rfl rfl hGL ?_
 intro C hC
 refine xw1 ?_
 intros
 rename Nat => bl0
 refine lp hC hGL (fun (x : Nat × Nat) => [(2, .own 0 (.pointer (some ⟨bl0, 0, none⟩))), (3, .int .i64 x.2), (9, .list 1 P.length (aF P)), (10, .int .i64 P.length), (11, .int .i64 x.1)]) (fun _ => [.cells bl0 (some 45) [.int .i64 0, .int .i64 0]]) (fun x => x.1 ≤ P.length ∧ x.2 ≤ 4000 * x.1 ∧ ca s = cD (decide (x.1 = 0)) x.2 (P.drop x.1)) (fun x => P.length - x.1) (0, 0) ?_ ai rfl ?_
 ·exact ⟨Nat.zero_le _, Nat.zero_le _, hX⟩
 rintro ⟨k, a⟩ ⟨g1, g2, g3⟩
 dsimp only at g1 g2 g3 ⊢
 by_cases hk : k < P.length
 ·have hx : ∃ x, P.getD k [] = x ∧ P.drop k = x :: P.drop (k + 1) ∧ (45 : UInt8) ∉ x ∧ x.length ≤ 3000 := by
   refine ⟨P.getD k [], rfl, ?_, hmem k hk, ?_⟩
   ·rw [List.drop_eq_getElem_cons hk, List.getD_eq_getElem?_getD, List.getElem?_eq_getElem hk]; rfl
   ·rw [List.getD_eq_getElem?_getD, List.getElem?_eq_getElem hk]; exact hlen _ (List.getElem_mem hk)
  obtain ⟨x, hx, hd, hm, hxl⟩ := hx
  have hxe : aF P k = .str x := by unfold aF; rw [hx]
  rw [hd, oW] at g3
  have hkl : k ≤ 4000 * k := by omega
  repeat' (first | (conv => whnf); first | refine .w ?_ | refine .v ?_ | refine sc_c ?_ ?_ <;> (intro hb; try exact dd hb) | apply an | apply az | (apply sc_i <;> intro hb) | (apply bx_i; intro hbd) | (apply ar; first | exact hgd) | (apply ap (i := 0) rfl; first | exact hgd) | (apply ab_i; intro bl) | (apply as_i; intro va vk vc hva) | (apply av_i; intro v) | (apply ac_i; intro bl cap hcap) | apply bo_l | (apply nx_i <;> intro hnx) | exact rt_w | apply dw_q mixed hC hGL (by kernel_rfl) | (apply cq; assumption; (first | exact hgd); exact rfl))
  all_goals try conv => whnf
  rw [hx] at *
  rw [hxe] at *
  refine lp hC hGL (fun (i : Nat) => [(2, .own 0 (.pointer (some ⟨bl0, 0, none⟩))), (3, .int .i64 a), (4, .int .i64 k), (5, .str x), (9, .list 1 P.length (aF P)), (10, .int .i64 P.length), (11, .int .i64 k), (17, .own 1 (.slice (some ⟨bl, 0, none⟩) x.length cap)), (18, .int .i64 x.length), (19, .int .i64 i)]) (fun _ => [.cells bl0 (some 45) [.int .i64 0, .int .i64 0], .buf bl x cap]) (fun i => i ≤ x.length ∧ ∀ j, j < i → lgB (decide (k = 0)) (aa x j : Int) = true) (fun i => x.length - i) 0 ?_ ai rfl ?_
  ·exact ⟨Nat.zero_le _, by intro j hj; omega⟩
  rintro i ⟨hi, hb0⟩
  have hI : i < x.length → FnIs Tryz.prog G 77 [.str (aT [(aa x i : Int)])] (.bool (bn (aa x i))) := fun h => by
   have := ox (G := G) (aT [(aa x i : Int)]) (by show 1 ≤ _; omega)
   rwa [CH (aK _ _)] at this
  have hW := cr (G := G) (aa x i : Int) 48 57
  refine xw ?_
  repeat' (first | exact Le.n | refine Lc.mk ?_ ?_)
  all_goals intros
  ·refine aH hC hGL (bp [_] rfl (by intro v hv; simp only [List.mem_cons, List.not_mem_nil, or_false] at hv; omega) rfl rfl rfl rfl rfl rfl) rfl rfl ?_
   repeat' (first | (conv => whnf); first | refine .w ?_ | refine .v ?_ | refine sc_c ?_ ?_ <;> (intro hb; try exact dd hb) | apply an | apply az | (apply sc_i <;> intro hb) | (apply bx_i; intro hbd) | (apply ar; first | exact hI (by omega) | exact hW) | (apply ap (i := 0) rfl; first | exact hI (by omega) | exact hW) | (apply ab_i; intro bl) | (apply as_i; intro va vk vc hva) | (apply av_i; intro v) | (apply ac_i; intro bl cap hcap) | apply bo_l | (apply nx_i <;> intro hnx) | exact rt_w | apply dw_q mixed hC hGL (by kernel_rfl) | (apply cq; assumption; (first | exact hI (by omega) | exact hW); exact rfl))
   all_goals try conv => whnf
   ·apply aj
    rw [Bool.and_eq_true, decide_eq_true_eq, decide_eq_true_eq] at hb
    rw [g3, oH (by omega) (y7.2 (.inr ⟨by simp; omega, by omega⟩)) hb0]
    rfl
   ·rw [Bool.and_eq_false_iff, decide_eq_false_iff_not, decide_eq_false_iff_not] at hb
    refine nxt (i + 1) ?_ ?_ ai rfl
    ·refine ⟨by omega, bF hb0 (y6.2 ⟨by assumption, fun _ => ?_⟩)⟩
     have := (xi (c := (aa x i : Int)) (by assumption) (by have := sq hm (j := i) (by omega); omega))
     omega
    ·omega
   ·refine nxt (i + 1) ?_ ?_ ai rfl
    ·exact ⟨by omega, bF hb0 (y6.2 ⟨by assumption, fun h => by simp at h; omega⟩)⟩
    ·omega
   ·apply aj
    rw [g3, oH (by omega) (y7.2 (.inl hb)) hb0]
    rfl
  ·apply aj
   have hp := iC (first := decide (k = 0)) (a := a) (x := x) (fun j hj => hb0 j (by omega))
   rw [if_pos (by omega)] at hp
   rw [g3, hp]
   rfl
  ·apply aj
   have hp := iC (first := decide (k = 0)) (a := a) (x := x) (fun j hj => hb0 j (by omega))
   rw [if_neg (by omega), if_pos (by omega)] at hp
   rw [g3, hp]
   rfl
  ·have hp := iC (first := decide (k = 0)) (a := a) (x := x) (fun j hj => hb0 j (by omega))
   rw [if_neg (by omega), if_neg (by omega)] at hp
   rw [hp, if_pos (show Err.none.isNone = true from rfl)] at g3
   refine nxs (k + 1, a + x.length + 1) ⟨by omega, by dsimp only; omega, ?_⟩ (by dsimp only; omega) ⟨rfl, ?_, rfl, rfl, rfl, trivial⟩ (by repeat (first | exact List.nil_sublist _ | apply List.Sublist.cons_cons | apply List.Sublist.cons))
   ·dsimp only
    rw [g3]
    simp
   ·exact congrArg (fun z => some (AVal.int .i64 z)) (by dsimp only; omega)
 ·refine xw1 ?_
  intros
  apply aj
  rw [g3, List.drop_eq_nil_of_le (by omega), cD]
  rfl
end
section
open Go Go.RowKit
theorem tN (c : UInt8) (s : List UInt8) : splS c s = if (Lib.cut s [c]).2.2 then (Lib.cut s [c]).1 :: splS c (Lib.cut s [c]).2.1 else [s] := by
 have h := gy c s
 rcases Lib.index_spec s [c] with ⟨h2, _⟩ | ⟨i, h2, _⟩
 ·rw [Lib.count_miss h2] at h
  have e : Lib.cut s [c] = (s, [], false) := by unfold Lib.cut; rw [if_neg (by omega)]
  rw [e, if_neg Bool.false_ne_true, ← h]
  rfl
 ·have e : Lib.cut s [c] = (s.take i, s.drop (i + 1), true) := by unfold Lib.cut; rw [if_pos (by omega), h2]; rfl
  rw [Lib.count_hit (by simp) h2, Nat.add_comm, gz h2] at h
  rw [e, if_pos rfl, ← h]
  congr 1
  exact gy c _
theorem AK : ∀ k : Fin 1000, (46 : UInt8) ∉ Lib.decDigits k.val := by decide +kernel
theorem AO {m : Nat} {s : List UInt8} (hm : m ≤ 999) (h : (46 : UInt8) ∈ s) : cntB m s = false := by
 refine pC.2 fun n h1 h2 h3 => ?_
 subst h3
 exact AK ⟨n, by omega⟩ h
theorem Gv {s : List UInt8} {c : UInt8} (h : (Lib.cut s [c]).2.2 = true) : c ∈ s := by
 unfold Lib.cut at h
 split at h
 ·rename_i hi
  rw [Lib.index_one] at hi
  rcases Classical.em (c ∈ s) with g | g
  ·exact g
  ·exfalso
   have : Lib.indexByte s c = -1 := by
    have := Lib.index_spec s [c]
    rcases this with ⟨h1, _⟩ | ⟨i, h1, h2, h3, _⟩
    ·rwa [Lib.index_one] at h1
    ·exfalso
     apply g
     unfold Lib.occAt at h3
     cases hd : s.drop i with
     | nil => rw [hd] at h3; simp at h3
     | cons x t =>
      rw [hd] at h3
      have : c = x := by simpa [List.isPrefixOf] using h3
      rw [this]
      exact List.mem_of_mem_drop (by rw [hd]; exact List.mem_cons_self ..)
   omega
 ·cases h
def pidL (l : List (List UInt8)) : Bool := decide (l.length ≤ 2) && l.all (cntB 999)
theorem Ef (v : List UInt8) : pidL (splS 46 v) = pidB v := by
 rw [tN]
 unfold pidB pidL
 cases ht : (Lib.cut v [46]).2.2 with
 | false =>
  have e : (Lib.cut v [46]).1 = v := by
   unfold Lib.cut at ht ⊢
   split at ht
   ·cases ht
   ·rename_i h; rw [if_neg h]
  rw [e]
  simp
 | true =>
  rw [if_pos rfl, tN]
  cases ht2 : (Lib.cut (Lib.cut v [46]).2.1 [46]).2.2 with
  | false => simp
  | true =>
   have h1 := AO (m := 999) (Nat.le_refl _) (Gv ht2)
   rw [h1, if_pos rfl]
   have h3 := kx 46 (Lib.cut (Lib.cut v [46]).2.1 [46]).2.1
   have h4 : 0 < (splS 46 (Lib.cut (Lib.cut v [46]).2.1 [46]).2.1).length := List.length_pos_iff.2 h3
   rw [decide_eq_false (by simp only [List.length_cons]; omega)]
   simp
abbrev sixS : List UInt8 := [32, 86, 65, 76, 85, 69, 32, 65, 76, 84, 73, 68, 32, 77, 69, 68, 73, 65, 84, 89, 80, 69, 32, 69, 78, 67, 79, 68, 73, 78, 71, 32, 76, 65, 78, 71, 85, 65, 71, 69, 32, 80, 82, 69, 70, 32]
def sixB (n : List UInt8) : Bool := decide (n = nVAL ∨ n = nALT ∨ n = nMED ∨ n = nENC ∨ n = nLAN ∨ n = nPRE)
theorem uy : ∀ {n L : List UInt8}, (n ++ [32]).isPrefixOf L = true → (32 : UInt8) ∉ n → n = L.takeWhile (· != 32)
 | [], [], h, _ => by simp at h
 | [], x :: L, h, _ => by
  simp only [List.nil_append, List.isPrefixOf, Bool.and_true, beq_iff_eq] at h
  subst h
  simp
 | a :: n, [], h, _ => by simp at h
 | a :: n, x :: L, h, hn => by
  simp only [List.cons_append, List.isPrefixOf, Bool.and_eq_true, beq_iff_eq] at h
  obtain ⟨rfl, h⟩ := h
  have ha : a ≠ 32 := fun e => hn (by rw [e]; exact List.mem_cons_self ..)
  have := uy h (fun e => hn (List.mem_cons_of_mem _ e))
  rw [List.takeWhile_cons, if_pos (by simpa using ha), ← this]
theorem zP : ∀ i : Fin 47, ∀ L, sixS.drop i.val = 32 :: L → L.takeWhile (· != 32) = [] ∨ sixB (L.takeWhile (· != 32)) = true := by
 have h : ∀ i : Fin 47, (match sixS.drop i.val with | x :: L => x != 32 || ((L.takeWhile (· != 32)).isEmpty || sixB (L.takeWhile (· != 32))) | [] => true) = true := by decide +kernel
 intro i L hL
 have := h i
 rw [hL] at this
 replace this : ((32 : UInt8) != 32 || ((L.takeWhile (· != 32)).isEmpty || sixB (L.takeWhile (· != 32)))) = true := this
 generalize L.takeWhile (· != 32) = u at *
 rw [show ((32 : UInt8) != 32) = false by decide, Bool.false_or, Bool.or_eq_true, List.isEmpty_iff] at this
 exact this
theorem FF {n : List UInt8} (h : sixB n = true) : Lib.contains sixS (32 :: n ++ [32]) = true := by
 have h : n = nVAL ∨ n = nALT ∨ n = nMED ∨ n = nENC ∨ n = nLAN ∨ n = nPRE := of_decide_eq_true h
 rcases h with rfl | rfl | rfl | rfl | rfl | rfl <;> decide +kernel
theorem FG {n : List UInt8} (h0 : n ≠ []) (hn : (32 : UInt8) ∉ n) : Lib.contains sixS (32 :: n ++ [32]) = sixB n := by
 cases hb : sixB n with
 | true => exact FF hb
 | false =>
  unfold Lib.contains
  rcases Lib.index_spec sixS (32 :: n ++ [32]) with ⟨h1, _⟩ | ⟨i, h1, h2, h3, _⟩
  ·rw [h1]; rfl
  ·exfalso
   unfold Lib.occAt at h3
   cases hd : sixS.drop i with
   | nil => rw [hd] at h3; simp at h3
   | cons x L =>
    rw [hd] at h3
    simp only [List.cons_append, List.isPrefixOf, Bool.and_eq_true, beq_iff_eq] at h3
    obtain ⟨rfl, h3⟩ := h3
    have e := uy h3 hn
    rcases zP ⟨i, by have : sixS.length = 46 := rfl; omega⟩ L hd with h | h
    ·exact h0 (e.trans h)
    ·rw [← e, hb] at h; cases h
theorem su {s : List UInt8} (h : isS s = true) : al 97 122 (-32) s ≠ [] ∧ (32 : UInt8) ∉ al 97 122 (-32) s := by
 unfold isS at h
 simp only [Bool.and_eq_true, decide_eq_true_eq] at h
 obtain ⟨h1, h2, _⟩ := h
 refine ⟨fun e => h2 ?_, fun hm => ?_⟩
 ·have := congrArg List.length e
  unfold al at this
  rwa [List.length_map] at this
 ·unfold al at hm
  rw [List.mem_map] at hm
  obtain ⟨c, hc, e⟩ := hm
  unfold allB at h1
  have hl := List.all_eq_true.1 h1 c hc
  unfold bn at hl
  have hl := of_decide_eq_true hl
  have e := congrArg UInt8.toNat e
  rw [UInt8.toNat_ofNat'] at e
  have hlt := UInt8.toNat_lt c
  unfold bR at e
  have e32 : (32 : UInt8).toNat = 32 := rfl
  rw [e32] at e
  split at e <;> omega
end
section
open Go Go.RowKit
theorem fZ {G : Glo} {m : Int} (hU : ad G (bI m)) (s t : List UInt8) (hl : s.length < 100000) : FnIs Tryz.prog G 81 [.str s, .str t] (.bool (Lib.contains s t)) := by
 refine bi rfl Tryz.call81 ?_
 rintro R args ⟨x, u, e, hx, y, u', e', hy, rfl⟩ w hG hs
 obtain rfl := aB.1 hx
 obtain rfl := aB.1 hy
 subst e'
 obtain rfl := dK e
 refine (Tryz.strings_Contains ⟨s.toArray⟩ ⟨t.toArray⟩ m w (by show s.toArray.size < _; simp; omega) (oN hU hG hs)).mono ?_
 rintro e w' ⟨rfl, rfl⟩
 exact ⟨by simp [AVal.conc], Below.refl _ _⟩
end
section
open Go Go.RowKit
attribute [local irreducible] AWp AOps aa ax OrOk ad ae
attribute [local irreducible] fJ Lv AWpD To
theorem kP {G : Glo} (e p : Int) : FnIs Tryz.prog G 36 [.agg [.int .i64 e, .int .i64 p]] (.bool (eqB e 0)) := by
 have hGL : ad G [] := ab
 refine fn_x Tryz.func36 Tryz.call36 rfl rfl rfl rfl hGL ?_
 intro C hC
 repeat' (first | (conv => whnf); first | refine .w ?_ | refine .v ?_ | refine sc_c ?_ ?_ <;> (intro hb; try exact dd hb) | apply an | apply az | (apply sc_i <;> intro hb) | (apply bx_i; intro hbd) | (apply ar; first | fail) | (apply ap (i := 0) rfl; first | fail) | (apply ab_i; intro bl) | (apply as_i; intro va vk vc hva) | (apply av_i; intro v) | (apply ac_i; intro bl cap hcap) | apply bo_l | (apply nx_i <;> intro hnx) | exact rt_w | apply dw_q mixed hC hGL (by kernel_rfl) | (apply cq; assumption; (first | fail); exact rfl))
 all_goals try conv => whnf
 all_goals skip
end
section
open Go Go.RowKit
def okV (n : List UInt8) (v : List UInt8) : Bool := if n = nLAN then (ca v).isNone else if n = nPRE then cntB 100 v else if n = nTYP then isS v else if n = nPID then pidB v else true
theorem Gn (n : List UInt8) (vs : List (List UInt8)) : fitN n vs = (decide (vs.length ≠ 0) && ((!sixB n || decide (vs.length = 1)) && vs.all (okV n))) := by
 have one : ∀ {p : List UInt8 → Bool}, vs.length = 1 → vs.all p = p (vs.getD 0 []) := fun h => by
  obtain ⟨v, rfl⟩ := List.length_eq_one_iff.1 h
  simp
 cases nmC n with
 | one h =>
  have e : ∀ v, okV n v = true := fun v => by
   unfold okV
   rcases h with rfl | rfl | rfl | rfl <;> rfl
  have e2 : vs.all (okV n) = true := List.all_eq_true.2 fun v _ => e v
  have e3 : sixB n = true := by rcases h with rfl | rfl | rfl | rfl <;> rfl
  unfold fitN
  rw [if_pos h, e2, e3]
  by_cases hv : vs.length = 1
  ·simp [hv]
  ·simp [hv]
 | lan h =>
  subst h
  show (decide (vs.length = 1) && (ca (vs.getD 0 [])).isNone) = _
  rw [show sixB nLAN = true from rfl]
  by_cases hv : vs.length = 1
  ·rw [one hv]; simp [hv, okV]
  ·simp [hv]
 | pre h =>
  subst h
  show (decide (vs.length = 1) && cntB 100 (vs.getD 0 [])) = _
  rw [show sixB nPRE = true from rfl]
  by_cases hv : vs.length = 1
  ·rw [one hv]; simp [hv, okV]
  ·simp [hv]
 | typ h =>
  subst h
  show (vs.all isS && decide (0 < vs.length)) = _
  rw [show sixB nTYP = false from rfl, show okV nTYP = isS from rfl]
  by_cases hv : vs.length = 0
  ·simp [hv]
  ·simp [hv, Nat.pos_of_ne_zero hv]
 | pid h =>
  subst h
  show (vs.all pidB && decide (0 < vs.length)) = _
  rw [show sixB nPID = false from rfl, show okV nPID = pidB from rfl]
  by_cases hv : vs.length = 0
  ·simp [hv]
  ·simp [hv, Nat.pos_of_ne_zero hv]
 | els h1 h2 h3 h4 h5 h6 h7 h8 =>
  have e : ∀ v, okV n v = true := fun v => by
   unfold okV
   rw [if_neg h5, if_neg h6, if_neg h7, if_neg h8]
  have e2 : vs.all (okV n) = true := List.all_eq_true.2 fun v _ => e v
  have e3 : sixB n = false := by
   unfold sixB
   exact decide_eq_false (by simp only [not_or]; exact ⟨h1, h2, h3, h4, h5, h6⟩)
  unfold fitN
  rw [if_neg (by simp only [not_or]; exact ⟨h1, h2, h3, h4⟩), if_neg h5, if_neg h6, if_neg h7, if_neg h8, e2, e3]
  by_cases hv : vs.length = 0
  ·simp [hv]
  ·simp [hv, Nat.pos_of_ne_zero hv]
theorem qV : ∀ (b : Bool) (a : Nat) (l : List (List UInt8)), (cD b a l).isNone = eqB (cD b a l).e 0
 | b, a, [] => by unfold cD; exact (dc.2 rfl).symm
 | b, a, x :: l => by
  unfold cD
  have ih := qV false (a + x.length + 1) l
  have hp : ct b a x = .none ∨ ∃ e p, ct b a x = .at e p ∧ e ≠ 0 := by
   unfold ct
   split
   ·exact .inr ⟨_, _, rfl, by decide⟩
   ·split
    ·exact .inr ⟨_, _, rfl, by decide⟩
    ·split
     ·exact .inr ⟨_, _, rfl, by decide⟩
     ·exact .inl rfl
  rcases hp with h | ⟨e, p, h, he⟩
  ·rw [h]; exact ih
  ·rw [h]; exact (jP.2 he).symm
theorem Au (s : List UInt8) : (ca s).isNone = eqB (ca s).e 0 := qV true 0 (splS 45 s)
attribute [local irreducible] AWp AOps aa ax OrOk ad ae
attribute [local irreducible] cntB ca isS pidB splS okV sixB
theorem mL {G : Glo} (hP : co G) (s : List UInt8) (m : Nat) (hm : m ≤ 999) : FnIs Tryz.prog G 83 [.str s, .int .i64 (m : Int)] (.bool (cntB m s)) := by
 have hGL : ad G [] := ab
 refine fn_x Tryz.func83 Tryz.call83 rfl rfl rfl rfl hGL ?_
 intro C hC
 refine xw1 ?_
 intros
 refine lp hC hGL (fun k : Nat => [(0, .str s), (1, .int .i64 (m : Int)), (5, .int .i64 (k : Int))]) (fun _ => []) (fun k => 1 ≤ k ∧ k ≤ m + 1 ∧ ∀ n, 1 ≤ n → n < k → Lib.decDigits n ≠ s) (fun k => m + 1 - k) 1 ⟨Nat.le_refl _, by omega, fun n h1 h2 => by omega⟩ ai rfl ?_
 rintro k ⟨h1, h2, h3⟩
 by_cases hk : k ≤ m
 ·have hI := strconv_Itoa (G := G) hP k (by omega)
  by_cases he : Lib.decDigits k = s
  ·rw [yd.2 ⟨k, h1, hk, he⟩]
   exact xw0
  ·refine xw1 ?_
   intros
   refine nxt (k + 1) ⟨by omega, by omega, fun n g1 g2 => ?_⟩ (by omega) ai rfl
   rcases Nat.lt_or_eq_of_le (Nat.le_of_lt_succ g2) with h | rfl
   ·exact h3 n g1 h
   ·exact he
 ·rw [pC.2 fun n g1 g2 => h3 n g1 (by omega)]
  exact xw0
theorem B3 {G : Glo} {m : Int} (hP : co G) (hM : ad G (bI m)) (q : Pr) (hq : isS q.n = true) (h0 : q.n.length ≤ 1000000) (h1 : q.vs.length ≤ 1000000) (h2 : ∀ k, (q.vs.getD k []).length ≤ 3000) : FnIs Tryz.prog G 45 [prA q] (.bool q.fit) := by
 have hU := Ah (G := G) q.n (by omega)
 obtain ⟨hb1, hb2⟩ := su hq
 unfold Pr.fit
 rw [Gn]
 obtain ⟨nm, vs⟩ := q
 dsimp only at h0 h1 h2 hU hb1 hb2 ⊢
 have hnl : (al 97 122 (-32) nm).length ≤ 1000000 := by unfold al; rw [List.length_map]; exact h0
 clear hq
 generalize al 97 122 (-32) nm = n at *
 have hS := fZ (G := G) hM sixS (32 :: n ++ [32]) (by decide)
 rw [FG hb1 hb2] at hS
 by_cases hv : vs.length = 0
 ·rw [decide_eq_false (by omega)]
  have hGL : ad G [] := ab
  refine fn_x Tryz.func45 Tryz.call45 rfl rfl rfl rfl hGL ?_
  intro C hC
  exact xw0
 rw [decide_eq_true hv]
 by_cases hs : sixB n = true ∧ vs.length ≠ 1
 ·rw [hs.1] at hS ⊢
  rw [decide_eq_false hs.2]
  have hGL : ad G [] := ab
  refine fn_x Tryz.func45 Tryz.call45 rfl rfl rfl rfl hGL ?_
  intro C hC
  exact xw0
 have e1 : (!sixB n || decide (vs.length = 1)) = true := by
  rcases Bool.eq_false_or_eq_true (sixB n) with h | h
  ·rw [h, decide_eq_true (Classical.not_not.1 fun g => hs ⟨h, g⟩)]; rfl
  ·rw [h]; rfl
 rw [e1, Bool.true_and, Bool.true_and]
 have ok1 : ∀ {k : Nat}, k < vs.length → okV n (vs.getD k []) = true → (∀ j, j < k → okV n (vs.getD j []) = true) → ∀ j, j < k + 1 → okV n (vs.getD j []) = true := fun hk h g j hj => by
  rcases Nat.lt_or_eq_of_le (Nat.le_of_lt_succ hj) with h' | rfl
  ·exact g j h'
  ·exact h
 have hGL : ad G [] := ab
 refine fn_a Tryz.func45 Tryz.call45 rfl rfl rfl rfl ?_
 intro C hC
 refine cut hC hGL [(1, .rop [.str nm, .list 1 vs.length (aF vs)] 0)] [] True ?_ fun _ => ?_
 ·exact xw0
 refine cut hC hGL [(1, .rop [.str nm, .list 1 vs.length (aF vs)] 0)] [] True ?_ fun _ => ?_
 ·exact xw0
 refine cut hC hGL [(1, .rop [.str nm, .list 1 vs.length (aF vs)] 0), (3, .str n)] [] True ?_ fun _ => ?_
 ·exact xw0
 refine cut hC hGL [(1, .rop [.str nm, .list 1 vs.length (aF vs)] 0), (3, .str n)] [] True ?_ fun _ => ?_
 ·cases h6 : sixB n with
  | true =>
   rw [h6] at hS hs
   have hl1 : vs.length = 1 := Classical.not_not.1 fun g => hs ⟨rfl, g⟩
   exact xw0
  | false =>
   rw [h6] at hS
   exact xw0
 refine bw hC hGL (xw1 ?_)
 intros
 refine lp hC hGL (fun k : Nat => [(3, .str n), (28, .list 1 vs.length (aF vs)), (29, .int .i64 (vs.length : Int)), (30, .int .i64 (k : Int))]) (fun _ => []) (fun k => k ≤ vs.length ∧ ∀ j, j < k → okV n (vs.getD j []) = true) (fun k => vs.length - k) 0 ⟨Nat.zero_le _, fun j h => absurd h (Nat.not_lt_zero _)⟩ ai rfl ?_
 rintro k ⟨hk1, hk2⟩
 by_cases hk : k < vs.length
 ·have hl := h2 k
  have ok2 := fun h => ok1 hk h hk2
  have bad : okV n (vs.getD k []) = false → vs.all (okV n) = false := nI hk
  have hLR := jH hM (vs.getD k []) hl
  have hFI := kP (G := G) (ca (vs.getD k [])).e (ca (vs.getD k [])).p
  have hCN := mL hP (vs.getD k []) 100 (by decide)
  have hIS := ox (G := G) (vs.getD k []) (by omega)
  have hSP := n8 (G := G) hM (vs.getD k []) 46 (by omega)
  have hCT := fun x => mL hP x 999 (Nat.le_refl _)
  have hlE := Au (vs.getD k [])
  have hpE := Ef (vs.getD k [])
  have hd : okV n (vs.getD k []) = (if n = nLAN then (ca (vs.getD k [])).isNone else if n = nPRE then cntB 100 (vs.getD k []) else if n = nTYP then isS (vs.getD k []) else if n = nPID then pidB (vs.getD k []) else true) := by unfold okV; rfl
  cases nmC n with
  | one h =>
   have e : (if n = nLAN then (ca (vs.getD k [])).isNone else if n = nPRE then cntB 100 (vs.getD k []) else if n = nTYP then isS (vs.getD k []) else if n = nPID then pidB (vs.getD k []) else true) = true := by rcases h with rfl | rfl | rfl | rfl <;> rfl
   have e := ok2 (hd.trans e)
   rcases h with rfl | rfl | rfl | rfl
   all_goals
    refine xw1 ?_
    intros
    exact nxt (k + 1) ⟨by omega, e⟩ (by omega) ai rfl
  | lan h =>
   subst h
   cases hc : (ca (vs.getD k [])).isNone with
   | true =>
    rw [hc] at hlE
    rw [← hlE] at hFI
    refine xw1 ?_
    intros
    exact nxt (k + 1) ⟨by omega, ok2 (by rw [hd]; exact hc)⟩ (by omega) ai rfl
   | false =>
    rw [hc] at hlE
    rw [← hlE] at hFI
    rw [bad (by rw [hd]; exact hc)]
    exact xw0
  | pre h =>
   subst h
   cases hc : cntB 100 (vs.getD k []) with
   | true =>
    rw [hc] at hCN
    refine xw1 ?_
    intros
    exact nxt (k + 1) ⟨by omega, ok2 (by rw [hd]; exact hc)⟩ (by omega) ai rfl
   | false =>
    rw [hc] at hCN
    rw [bad (by rw [hd]; exact hc)]
    exact xw0
  | typ h =>
   subst h
   cases hc : isS (vs.getD k []) with
   | true =>
    rw [hc] at hIS
    refine xw1 ?_
    intros
    exact nxt (k + 1) ⟨by omega, ok2 (by rw [hd]; exact hc)⟩ (by omega) ai rfl
   | false =>
    rw [hc] at hIS
    rw [bad (by rw [hd]; exact hc)]
    exact xw0
  | pid h =>
   subst h
   have hln := iZ 46 (vs.getD k [])
   have hpd : pidL (splS 46 (vs.getD k [])) = (decide ((splS 46 (vs.getD k [])).length ≤ 2) && (splS 46 (vs.getD k [])).all (cntB 999)) := by unfold pidL; rfl
   rw [hpE] at hpd
   generalize splS 46 (vs.getD k []) = l at hln hpd hSP
   refine xw1 ?_
   intros
   refine lp hC hGL (fun j : Nat => [(3, .str nPID), (6, .bool (decide (l.length ≤ 2) && (l.take j).all (cntB 999))), (28, .list 1 vs.length (aF vs)), (29, .int .i64 (vs.length : Int)), (30, .int .i64 (k : Int)), (55, .list 1 l.length (aF l)), (56, .int .i64 (l.length : Int)), (57, .int .i64 (j : Int))]) (fun _ => []) (fun j => j ≤ l.length) (fun j => l.length - j) 0 (Nat.zero_le _) ⟨rfl, ?_, rfl, rfl, rfl, rfl, rfl, rfl, trivial⟩ rfl ?_
   ·show Env.get _ 6 = _
    rw [List.take_zero, List.all_nil, Bool.and_true]
    exact congrArg (fun z => some (AVal.bool z)) (by unfold ltB; rw [← decide_not]; exact decide_eq_decide.2 (by omega))
   intro j hj
   by_cases hjl : j < l.length
   ·have hC1 := hCT (l.getD j [])
    have e2 : (l.take (j + 1)).all (cntB 999) = ((l.take j).all (cntB 999) && cntB 999 (l.getD j [])) := by
     rw [List.take_succ_eq_append_getElem hjl, List.all_append, List.getD_eq_getElem?_getD, List.getElem?_eq_getElem hjl]
     simp
    cases hb : (decide (l.length ≤ 2) && (l.take j).all (cntB 999)) with
    | true =>
     refine xw1 ?_
     intros
     refine nxt (j + 1) (by omega) (by omega) ⟨rfl, ?_, rfl, rfl, rfl, rfl, rfl, rfl, trivial⟩ rfl
     rw [e2, ← Bool.and_assoc, hb]
     rfl
    | false =>
     refine xw1 ?_
     intros
     refine nxt (j + 1) (by omega) (by omega) ⟨rfl, ?_, rfl, rfl, rfl, rfl, rfl, rfl, trivial⟩ rfl
     rw [e2, ← Bool.and_assoc, hb]
     rfl
   ·obtain rfl : j = l.length := by omega
    rw [List.take_length, ← hpd]
    cases hc : pidB (vs.getD k []) with
    | true =>
     refine xw1 ?_
     intros
     exact nxt (k + 1) ⟨by omega, ok2 (by rw [hd]; exact hc)⟩ (by omega) ai rfl
    | false =>
     rw [bad (by rw [hd]; exact hc)]
     exact xw0
  | els h3 h4 h5 h6 h7 h8 h9 h10 =>
   have e := ok2 (by rw [hd, if_neg h7, if_neg h8, if_neg h9, if_neg h10])
   refine xw1 ?_
   intros
   exact nxt (k + 1) ⟨by omega, e⟩ (by omega) ai rfl
 ·rw [pR fun j hj => hk2 j (by omega)]
  exact xw0
end
section
open Go Go.RowKit
theorem tF {t : Int} {l : List Pr} (h : bO valN l 0 = -1) : kn t l = t := by unfold kn; rw [h, if_pos (.inl (by decide))]
theorem qq {t : Int} {l : List Pr} {k : Nat} (h : bO valN l 0 = (k : Int)) (h2 : (l.getD k Pr.z).vs.length = 0) : kn t l = t := by unfold kn; rw [h, Int.toNat_natCast, if_pos (.inr h2)]
theorem tG {t : Int} {l : List Pr} {k : Nat} (h : bO valN l 0 = (k : Int)) (h2 : (l.getD k Pr.z).vs.length ≠ 0) : kn t l = tyL t (al 65 90 32 ((l.getD k Pr.z).vs.getD 0 [])) := by unfold kn; rw [h, Int.toNat_natCast, if_neg (by rintro (h | h); omega; exact h2 h)]
attribute [local irreducible] AWp AOps aa ax OrOk ad ae
attribute [local irreducible] al bO ba
theorem wH {G : Glo} (hS : SpIs G) (v : Int) (s : List UInt8) (l : List Pr) (hs : s.length ≤ 1000000) (hl : l.length ≤ 9223372036854775807) (hn : ∀ k, (l.getD k Pr.z).n.length ≤ 9223372036854775807) (hv : ∀ k, (l.getD k Pr.z).vs.length ≤ 9223372036854775807 ∧ ((l.getD k Pr.z).vs.getD 0 []).length ≤ 9223372036854775807) :
  FnIs Tryz.prog G 55 [.str s, .list 2 l.length (prF l), .int .i64 v] (.tuple [.int .i64 (eO v s l), (verE v).A]) := by
 have h1 := kG (G := G) hS v s hs
 have h2 : FnIs Tryz.prog G 54 [.list 2 l.length (prF l), .str [86, 65, 76, 85, 69]] (.int .i64 (bO valN l 0)) := on (G := G) l valN hl hn (by decide)
 by_cases hver : v = 3 ∨ v = 4
 ·have e2 : verE v = .none := by unfold verE; rw [if_pos hver]
  have e3 : eO v s l = kn (ba v s).t l := by unfold eO; rw [if_pos hver]
  rw [e2] at h1 ⊢
  rw [e3]
  generalize ba v s = r at *
  simp only [Err.A, errA] at h1 ⊢
  rcases iJ valN l 0 with hf | ⟨k, hk, hf⟩
  ·rw [tF hf]
   rw [hf] at h2
   have hGL : ad G [] := ab
   refine fn_x Tryz.func55 Tryz.call55 rfl rfl rfl rfl hGL ?_
   intro C hC
   refine xw ?_
   repeat' (first | exact Le.n | refine Lc.mk ?_ ?_)
   all_goals intros
   all_goals intros
   all_goals first
    | (apply aj; rfl)
    | (exfalso; omega)
  ·rw [Nat.zero_add] at hf
   rw [hf] at h2
   by_cases h0 : (l.getD k Pr.z).vs.length = 0
   ·rw [qq hf h0]
    have hGL : ad G [] := ab
    refine fn_x Tryz.func55 Tryz.call55 rfl rfl rfl rfl hGL ?_
    intro C hC
    refine xw ?_
    repeat' (first | exact Le.n | refine Lc.mk ?_ ?_)
    all_goals intros
    all_goals intros
    all_goals first
     | (apply aj; rfl)
     | (exfalso; omega)
     | trace_state
   ·rw [tG hf h0]
    have h3 := w7 (G := G) ((l.getD k Pr.z).vs.getD 0 []) (by have := (hv k).2; omega)
    have h3 : FnIs Tryz.prog G 102 [aF (l.getD k Pr.z).vs 0] _ := h3
    generalize al 65 90 32 ((l.getD k Pr.z).vs.getD 0 []) = x at *
    have hGL : ad G [] := ab
    refine fn_x Tryz.func55 Tryz.call55 rfl rfl rfl rfl hGL ?_
    intro C hC
    refine xw ?_
    repeat' (first | exact Le.n | refine Lc.mk ?_ ?_)
    all_goals intros
    all_goals intros
    all_goals try (exfalso; omega)
    all_goals
     apply aj
     refine congrArg (fun z => AVal.tuple [.int .i64 z, .raw .nilIface]) (Eq.symm ?_)
     clear h1 h2 h3 hn hv hf hC hGL
     unfold tyL
     simp [*]
 ·have e2 : verE v = .errno 1 := by unfold verE; rw [if_neg hver]
  have e3 : eO v s l = 0 := by unfold eO; rw [if_neg hver]
  rw [e2] at h1 ⊢
  rw [e3]
  simp only [Err.A, errA] at h1 ⊢
  have hGL : ad G [] := ab
  refine fn_x Tryz.func55 Tryz.call55 rfl rfl rfl rfl hGL ?_
  intro C hC
  refine xw ?_
  repeat' (first | exact Le.n | refine Lc.mk ?_ ?_)
  all_goals intros
  all_goals intros
  all_goals first
   | (apply aj; rfl)
   | (exfalso; omega)
theorem BZ {G : Glo} (v : Int) (s : List UInt8) (l : List Pr) (hs : s.length ≤ 1000000) (hl : l.length ≤ 9223372036854775807) (hn : ∀ k, (l.getD k Pr.z).n.length ≤ 9223372036854775807) (hv : ∀ k, (l.getD k Pr.z).vs.length ≤ 9223372036854775807 ∧ ((l.getD k Pr.z).vs.getD 0 []).length ≤ 9223372036854775807) :
  FnIs Tryz.prog G 46 [.str s, .list 2 l.length (prF l), .int .i64 v] (.tuple [.int .i64 (eO v s l), .int .i64 (verE v).e]) := by
 have h1 := kO (G := G) v s hs
 have h2 : FnIs Tryz.prog G 85 [.list 2 l.length (prF l), .str [86, 65, 76, 85, 69]] (.int .i64 (bO valN l 0)) := B4 (G := G) l valN hl hn (by decide)
 by_cases hver : v = 3 ∨ v = 4
 ·have e2 : verE v = .none := by unfold verE; rw [if_pos hver]
  have e3 : eO v s l = kn (ba v s).t l := by unfold eO; rw [if_pos hver]
  rw [e2] at h1 ⊢
  rw [e3]
  generalize ba v s = r at *
  simp only [Err.e] at h1 ⊢
  rcases iJ valN l 0 with hf | ⟨k, hk, hf⟩
  ·rw [tF hf]
   rw [hf] at h2
   have hGL : ad G [] := ab
   refine fn_x Tryz.func46 Tryz.call46 rfl rfl rfl rfl hGL ?_
   intro C hC
   refine xw ?_
   repeat' (first | exact Le.n | refine Lc.mk ?_ ?_)
   all_goals intros
   all_goals intros
   all_goals first
    | (apply aj; rfl)
    | (exfalso; omega)
  ·rw [Nat.zero_add] at hf
   rw [hf] at h2
   by_cases h0 : (l.getD k Pr.z).vs.length = 0
   ·rw [qq hf h0]
    have hGL : ad G [] := ab
    refine fn_x Tryz.func46 Tryz.call46 rfl rfl rfl rfl hGL ?_
    intro C hC
    refine xw ?_
    repeat' (first | exact Le.n | refine Lc.mk ?_ ?_)
    all_goals intros
    all_goals intros
    all_goals first
     | (apply aj; rfl)
     | (exfalso; omega)
   ·rw [tG hf h0]
    have h3 := lY (G := G) ((l.getD k Pr.z).vs.getD 0 []) (by have := (hv k).2; omega)
    have h3 : FnIs Tryz.prog G 67 [aF (l.getD k Pr.z).vs 0] _ := h3
    generalize al 65 90 32 ((l.getD k Pr.z).vs.getD 0 []) = x at *
    have hGL : ad G [] := ab
    refine fn_x Tryz.func46 Tryz.call46 rfl rfl rfl rfl hGL ?_
    intro C hC
    refine xn ?_
    repeat' (first | exact Le.n | refine Lc.mk ?_ ?_)
    all_goals intros
    all_goals intros
    all_goals try (exfalso; omega)
    all_goals
     apply aj
     refine congrArg (fun z => AVal.tuple [.int .i64 z, .int .i64 0]) (Eq.symm ?_)
     clear h1 h2 h3 hn hv hf hC hGL
     unfold tyL
     simp [*]
 ·have e2 : verE v = .errno 1 := by unfold verE; rw [if_neg hver]
  have e3 : eO v s l = 0 := by unfold eO; rw [if_neg hver]
  rw [e2] at h1 ⊢
  rw [e3]
  simp only [Err.e] at h1 ⊢
  have hGL : ad G [] := ab
  refine fn_x Tryz.func46 Tryz.call46 rfl rfl rfl rfl hGL ?_
  intro C hC
  refine xw ?_
  repeat' (first | exact Le.n | refine Lc.mk ?_ ?_)
  all_goals intros
  all_goals intros
  all_goals first
   | (apply aj; rfl)
   | (exfalso; omega)
end
end Go.Proofs.YtahebkecmlmlfaaGreatDoor
