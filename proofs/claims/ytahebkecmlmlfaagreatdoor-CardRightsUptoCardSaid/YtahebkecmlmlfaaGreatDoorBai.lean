/- Parts of the proof of prints_root: Ruj, Fta, Ftb, Lao, Ftc, Mxc, Thr, Ftd, Ruk, Syn, Onc, Ond, Mak, Cpy, Rpl, Rpm, Rpn. -/
import Derived.Lib.AtoiAll
import Derived.Laws.LoneSync
import Derived.Laws.MakeOwn
import Derived.Laws.IdiomCopy
import Derived.Test.YtahebkecmlmlfaaGreatDoorBah
import Derived.Test.YtahebkecmlmlfaaGreatDoorBag
import Derived.Test.YtahebkecmlmlfaaGreatDoorBae
import Derived.Test.YtahebkecmlmlfaaGreatDoorBaf
import Derived.Test.YtahebkecmlmlfaaGreatDoorBad
set_option linter.unusedVariables false
set_option linter.unusedSimpArgs false
set_option linter.unusedSectionVars false
namespace Go.Proofs.YtahebkecmlmlfaaGreatDoor
set_option maxRecDepth 20000
set_option maxHeartbeats 4000000
section
open Go Go.RowKit
def valN : List UInt8 := [86, 65, 76, 85, 69]
def bO (s : List UInt8) : List Pr → Nat → Int
 | [], _ => -1
 | q :: l, i => if ap 97 122 (-32) q.n = ap 97 122 (-32) s then (i : Int) else bO s l (i + 1)
def tyL (t : Int) (x : List UInt8) : Int := if x = [116, 101, 120, 116] then (if t = 2 ∨ t = 3 then t else 1)
 else if x = [117, 114, 105] then 4
 else if x = [100, 97, 116, 101, 45, 97, 110, 100, 45, 111, 114, 45, 116, 105, 109, 101] then 5
 else if x = [100, 97, 116, 101] then 5
 else if x = [100, 97, 116, 101, 45, 116, 105, 109, 101] then 5
 else if x = [116, 105, 109, 101, 115, 116, 97, 109, 112] then 5
 else if x = [117, 116, 99, 45, 111, 102, 102, 115, 101, 116] then 6
 else if x = [108, 97, 110, 103, 117, 97, 103, 101, 45, 116, 97, 103] then 7
 else 8
def ki (t : Int) (l : List Pr) : Int := if bO valN l 0 < 0 ∨ (l.getD (bO valN l 0).toNat Pr.z).vs.length = 0 then t else tyL t (ap 65 90 32 ((l.getD (bO valN l 0).toNat Pr.z).vs.getD 0 []))
def eQ (v : Int) (s : List UInt8) (l : List Pr) : Int := if v = 3 ∨ v = 4 then ki (ba v s).t l else 0
theorem iK {s : List UInt8} : ∀ {l : List Pr} {k : Nat} (i : Nat), k < l.length → (∀ j, j < k → ap 97 122 (-32) (l.getD j Pr.z).n ≠ ap 97 122 (-32) s) → ap 97 122 (-32) (l.getD k Pr.z).n = ap 97 122 (-32) s → bO s l i = ((i + k : Nat) : Int)
 | [], k, i, h, _, _ => absurd h (Nat.not_lt_zero _)
 | q :: l, 0, i, _, _, h => by
  have h : ap 97 122 (-32) q.n = ap 97 122 (-32) s := h
  simp only [bO, if_pos h, Nat.add_zero]
 | q :: l, k + 1, i, hk, h0, h => by
  have h1 : ap 97 122 (-32) q.n ≠ ap 97 122 (-32) s := h0 0 (Nat.succ_pos k)
  have ih := iK (s := s) (l := l) (k := k) (i + 1) (by simpa using hk) (fun j hj => by simpa using h0 (j + 1) (by omega)) (by simpa using h)
  simp only [bO, if_neg h1, ih]
  omega
theorem ph {s : List UInt8} : ∀ {l : List Pr} (i : Nat), (∀ j, j < l.length → ap 97 122 (-32) (l.getD j Pr.z).n ≠ ap 97 122 (-32) s) → bO s l i = -1
 | [], _, _ => rfl
 | q :: l, i, h0 => by
  have h1 : ap 97 122 (-32) q.n ≠ ap 97 122 (-32) s := h0 0 (by simp)
  have ih := ph (s := s) (l := l) (i + 1) (fun j hj => by simpa using h0 (j + 1) (by simpa using hj))
  simp only [bO, if_neg h1, ih]
theorem iJ (s : List UInt8) : ∀ (l : List Pr) (i : Nat), bO s l i = -1 ∨ ∃ k, k < l.length ∧ bO s l i = ((i + k : Nat) : Int)
 | [], _ => .inl rfl
 | q :: l, i => by
  by_cases h : ap 97 122 (-32) q.n = ap 97 122 (-32) s
  ·exact .inr ⟨0, by simp, by simp only [bO, if_pos h, Nat.add_zero]⟩
  ·rcases iJ s l (i + 1) with h1 | ⟨k, h1, h2⟩
   ·exact .inl (by simp only [bO, if_neg h, h1])
   ·exact .inr ⟨k + 1, by simpa using h1, by simp only [bO, if_neg h, h2]; omega⟩
theorem CZ {c d : UInt8} : UInt8.ofNat (bR 65 90 32 c.toNat).toNat = UInt8.ofNat (bR 65 90 32 d.toNat).toNat ↔ UInt8.ofNat (bR 97 122 (-32) c.toNat).toNat = UInt8.ofNat (bR 97 122 (-32) d.toNat).toNat := by
 have h1 := c.toNat_lt
 have h2 := d.toNat_lt
 rw [← UInt8.toNat_inj, ← UInt8.toNat_inj, UInt8.toNat_ofNat', UInt8.toNat_ofNat', UInt8.toNat_ofNat', UInt8.toNat_ofNat']
 unfold bR
 (repeat' split) <;> omega
theorem vf : ∀ {n s : List UInt8}, (ap 65 90 32 n = ap 65 90 32 s ↔ ap 97 122 (-32) n = ap 97 122 (-32) s)
 | [], [] => by simp [ap]
 | [], d :: s => by simp [ap]
 | c :: n, [] => by simp [ap]
 | c :: n, d :: s => by
  have ih := vf (n := n) (s := s)
  have hb := CZ (c := c) (d := d)
  unfold ap at ih ⊢
  simp only [List.map_cons, List.cons.injEq]
  rw [ih, hb]
theorem fb (n s : List UInt8) : seqB (ap 65 90 32 n) (ap 65 90 32 s) = seqB (ap 97 122 (-32) n) (ap 97 122 (-32) s) := by
 rw [Bool.eq_iff_iff, a7, a7]
 exact vf
attribute [local irreducible] AWp AOps aa az OrOk ad ah
attribute [local irreducible] ap bO tyL
theorem oh {G : Glo} (l : List Pr) (s : List UInt8) (hl : l.length ≤ 9223372036854775807) (hn : ∀ k, (l.getD k Pr.z).n.length ≤ 9223372036854775807) (hs : s.length ≤ 1000000) : FnIs Tryz.prog G 54 [.list 2 l.length (prF l), .str s] (.int .i64 (bO s l 0)) := by
 have h1 := fun k => qK (G := G) (l.getD k Pr.z).n s (by have := hn k; omega) (by omega)
 have hGL : ad G [] := ab
 refine fn_x Tryz.func54 Tryz.call54 rfl rfl rfl rfl hGL ?_
 intro C hC
 refine xw1 ?_
 intros
 refine lp hC hGL (fun (k : Nat) => [(1, .str s), (7, .list 2 l.length (prF l)), (8, .int .i64 (l.length : Nat)), (9, .int .i64 (k : Nat))]) (fun _ => []) (fun k => k ≤ l.length ∧ ∀ j, j < k → ap 97 122 (-32) (l.getD j Pr.z).n ≠ ap 97 122 (-32) s) (fun k => l.length - k) 0 ⟨Nat.zero_le _, fun j h => absurd h (Nat.not_lt_zero _)⟩ ak rfl ?_
 rintro k ⟨hk, hI⟩
 have h2 := h1 k
 refine xw ?_
 repeat' (first | exact Le.n | refine Lc.mk ?_ ?_)
 all_goals intros
 all_goals intros
 ·apply al
  rw [iK 0 (by omega) hI (by assumption), Nat.zero_add]
 ·exact nxs (k + 1) ⟨by omega, aN hI (by assumption)⟩ (by omega) ak aS
 ·apply al
  rw [ph 0 fun j hj => hI j (by omega)]
  rfl
theorem B8 {G : Glo} (l : List Pr) (s : List UInt8) (hl : l.length ≤ 9223372036854775807) (hn : ∀ k, (l.getD k Pr.z).n.length ≤ 9223372036854775807) (hs : s.length ≤ 1000000) : FnIs Tryz.prog G 85 [.list 2 l.length (prF l), .str s] (.int .i64 (bO s l 0)) := by
 have h1 := fun k => d8 (G := G) (l.getD k Pr.z).n s (by have := hn k; omega) (by omega)
 have hGL : ad G [] := ab
 refine fn_x Tryz.func85 Tryz.call85 rfl rfl rfl rfl hGL ?_
 intro C hC
 refine xw1 ?_
 intros
 refine lp hC hGL (fun (k : Nat) => [(0, .list 2 l.length (prF l)), (1, .str s), (7, .int .i64 (l.length : Nat)), (8, .int .i64 (k : Nat))]) (fun _ => []) (fun k => k ≤ l.length ∧ ∀ j, j < k → ap 97 122 (-32) (l.getD j Pr.z).n ≠ ap 97 122 (-32) s) (fun k => l.length - k) 0 ⟨Nat.zero_le _, fun j h => absurd h (Nat.not_lt_zero _)⟩ ak rfl ?_
 rintro k ⟨hk, hI⟩
 have h2 := h1 k
 rw [fb] at h2
 refine xw ?_
 repeat' (first | exact Le.n | refine Lc.mk ?_ ?_)
 all_goals intros
 all_goals intros
 ·apply al
  rw [iK 0 (by omega) hI (by assumption), Nat.zero_add]
 ·exact nxs (k + 1) ⟨by omega, aN hI (by assumption)⟩ (by omega) ak aS
 ·apply al
  rw [ph 0 fun j hj => hI j (by omega)]
  rfl
end
section
open Go Go.RowKit
def cntB (m : Nat) (s : List UInt8) : Bool := (List.range m).any fun i => decide (Lib.decDigits (i + 1) = s)
theorem x8 {m : Nat} {s : List UInt8} : cntB m s = true ↔ ∃ n, 1 ≤ n ∧ n ≤ m ∧ Lib.decDigits n = s := by
 unfold cntB
 rw [List.any_eq_true]
 constructor
 ·rintro ⟨i, hi, h⟩
  exact ⟨i + 1, by omega, by have := List.mem_range.1 hi; omega, of_decide_eq_true h⟩
 ·rintro ⟨n, h1, h2, h3⟩
  exact ⟨n - 1, List.mem_range.2 (by omega), decide_eq_true (by rw [show n - 1 + 1 = n by omega]; exact h3)⟩
theorem px {m : Nat} {s : List UInt8} : cntB m s = false ↔ ∀ n, 1 ≤ n → n ≤ m → Lib.decDigits n ≠ s := by
 rw [← Bool.not_eq_true, x8]
 exact ⟨fun h n h1 h2 h3 => h ⟨n, h1, h2, h3⟩, fun h ⟨n, h1, h2, h3⟩ => h n h1 h2 h3⟩
def pidB (v : List UInt8) : Bool := cntB 999 (Lib.cut v [46]).1 && (!(Lib.cut v [46]).2.2 || cntB 999 (Lib.cut v [46]).2.1)
def fitN (n : List UInt8) (vs : List (List UInt8)) : Bool :=
 if n = [86, 65, 76, 85, 69] ∨ n = [65, 76, 84, 73, 68] ∨ n = [77, 69, 68, 73, 65, 84, 89, 80, 69] ∨ n = [69, 78, 67, 79, 68, 73, 78, 71] then decide (vs.length = 1)
 else if n = [76, 65, 78, 71, 85, 65, 71, 69] then decide (vs.length = 1) && (ca (vs.getD 0 [])).isNone
 else if n = [80, 82, 69, 70] then decide (vs.length = 1) && cntB 100 (vs.getD 0 [])
 else if n = [84, 89, 80, 69] then vs.all isS && decide (0 < vs.length)
 else if n = [80, 73, 68] then vs.all pidB && decide (0 < vs.length)
 else decide (0 < vs.length)
def Pr.fit (q : Pr) : Bool := fitN (ap 97 122 (-32) q.n) q.vs
def Hh (s : List UInt8) (a : AVal) : Prop := (∃ n, a = .tuple [.int .i64 n, .raw .nilIface] ∧ Lib.atoiAll s = .ok n) ∨ (∃ n t v, a = .tuple [.int .i64 n, .iface t (.raw v)] ∧ ∀ k, Lib.atoiAll s ≠ .ok k)
def rA (g : Nat) (R : Seal) : Prop := ∃ t v e fz, R g = some (.cells #[.iface t v] e fz)
def ik (G : Glo) : Prop := ∀ R, G.p R → rA 5 R ∧ rA 6 R
theorem sI {P : Program} {G : Glo} {f : FuncId} {avs : List AVal} {Qf : AVal → Prop} (hc : ∀ args w, (callFunc f args).run P w = .ok (.enter f args) w)
  (h : ∀ R args, RelV R avs args.toList → ∀ w, G.p R → cI R w → Calls P f args w fun e w' => (∃ u a, e = .returned u ∧ Qf a ∧ ∀ R, Rel R a u) ∧ Below w.heap.size w w') : ah P G f avs [] (fun r H => (∃ v, r = .ret v ∧ Qf v) ∧ H = []) := by
 intro R w args hG hm ha
 refine .inl ⟨hc args w, (h R args ha w hG hm.sealed).mono ?_⟩
 rintro e w' ⟨⟨u, a, rfl, hq, hr⟩, hb⟩
 refine ⟨.ret a, [], R, ⟨⟨a, rfl, hq⟩, rfl⟩, ⟨_, rfl, hr R⟩, ?_⟩
 refine ⟨?_, Seal.le_refl R, fun _ hb => .inl hb, ⟨fun _ h => absurd h List.not_mem_nil, List.nodup_nil, fun _ h => absurd h List.not_mem_nil⟩, fun _ h => absurd h List.not_mem_nil,
  ⟨hb.os, hb.tape, hb.output, hb.size, fun b hlt _ => hb.block b hlt⟩⟩
 intro b o ho
 have h1 := hm.sealed b o ho
 have hlt : b < w.heap.size := (Array.getElem?_eq_some_iff.1 h1).1
 rw [hb.block b hlt, h1]
theorem vr {g : Nat} {R : Seal} {w : World} (h : rA g R) (hs : cI R w) : ∃ t v, w.cell? ⟨g, 0, none⟩ = some (.iface t v) := by
 obtain ⟨t, v, e, fz, h⟩ := h
 refine ⟨t, v, ?_⟩
 unfold World.cell?
 simp [hs _ _ h]
theorem rG {G : Glo} (hE : ik G) (s : List UInt8) (hl : s.length ≤ 1000000) : ah Tryz.prog G 65 [.str s] [] (fun r H => (∃ v, r = .ret v ∧ Hh s v) ∧ H = []) := by
 refine sI Tryz.call65 ?_
 intro R args hr w hG hs
 obtain ⟨x, t, e', hx, rfl⟩ := hr
 obtain rfl := aC.1 hx
 obtain rfl := dL e'
 have hsz : (⟨s.toArray⟩ : ByteArray).size ≤ 1000000 := by rw [aY]; exact hl
 obtain ⟨⟨t1, v1, c1⟩, t2, v2, c2⟩ : (∃ t v, w.cell? ⟨5, 0, none⟩ = some (.iface t v)) ∧ ∃ t v, w.cell? ⟨6, 0, none⟩ = some (.iface t v) := ⟨vr (hE R hG).1 hs, vr (hE R hG).2 hs⟩
 cases ha : Lib.atoiAll s
 ·rename_i n
  refine (Tryz.strconv_Atoi_ok ⟨s.toArray⟩ (by omega) n (by simpa using ha) w).mono ?_
  rintro e w' ⟨rfl, hw⟩
  refine ⟨⟨_, _, rfl, .inl ⟨n, rfl, ha⟩, fun R => kI (aq.2 rfl) (ar.2 rfl)⟩, ?_⟩
  rcases hw with rfl | ⟨t, rfl⟩
  ·exact Below.refl _ _
  ·exact ⟨rfl, rfl, rfl, by rw [Lib.bytesWorld_size]; omega, fun k hk => Lib.bytesWorld_at_old _ _ _ _ hk⟩
 ·refine (Tryz.strconv_Atoi_syntax ⟨s.toArray⟩ (by omega) (by simpa using ha) _ w c1 (.inr ⟨_, _, rfl⟩)).mono ?_
  rintro e w' ⟨N, rfl, _, _, hb⟩
  exact ⟨⟨_, _, rfl, .inr ⟨0, _, _, rfl, fun k h => by rw [ha] at h; cases h⟩, fun R => kI (aq.2 rfl) ⟨⟨_, rfl, rfl, rfl⟩, rfl⟩⟩, hb⟩
 ·refine (Tryz.strconv_Atoi_range ⟨s.toArray⟩ (by omega) (by simpa using ha) _ w c2 (.inr ⟨_, _, rfl⟩)).mono ?_
  rintro e w' ⟨N, rfl, _, _, hb⟩
  exact ⟨⟨_, _, rfl, .inr ⟨_, _, _, rfl, fun k h => by rw [ha] at h; cases h⟩, fun R => kI (aq.2 rfl) ⟨⟨_, rfl, rfl, rfl⟩, rfl⟩⟩, hb⟩
theorem pI : ∀ k : Fin 1000, Lib.atoiAll (Lib.decDigits k.val) = .ok (k.val : Int) := by decide +kernel
attribute [local irreducible] AWp AOps aa az OrOk ad ah
theorem gI {G : Glo} (hE : ik G) (hP : co G) (s : List UInt8) (m : Nat) (hl : s.length ≤ 1000000) (hm : m ≤ 999) : FnIs Tryz.prog G 101 [.str s, .int .i64 (m : Int)] (.bool (cntB m s)) := by
 have hA := rG hE s hl
 have hI := fun n h => strconv_Itoa (G := G) hP n h
 have hGL : ad G [] := ab
 refine fn_x Tryz.func101 Tryz.call101 rfl rfl rfl rfl hGL ?_
 intro C hC
 refine xw1 ?_
 intros
 refine mt hA ?_
 rintro a (⟨n, rfl, h⟩ | ⟨n, t, v, rfl, h⟩)
 ·by_cases hn : 1 ≤ n ∧ n ≤ m
  ·obtain ⟨k, rfl⟩ : ∃ k : Nat, n = k := ⟨n.toNat, by omega⟩
   have hI := hI k (by omega)
   have e : seqB (Lib.decDigits k) s = cntB m s := by
    cases hc : cntB m s with
    | true =>
     obtain ⟨j, h1, h2, h3⟩ := x8.1 hc
     have := pI ⟨j, by omega⟩
     rw [h3, h] at this
     have e : (k : Int) = j := by simpa using this
     rw [Int.ofNat.inj e, h3]
     exact a7.2 rfl
    | false => exact ip.2 (px.1 hc k (by omega) (by omega))
   rw [← e]
   exact xw0
  ·have e : cntB m s = false := by
    refine px.2 fun j h1 h2 h3 => hn ?_
    have := pI ⟨j, by omega⟩
    rw [h3, h] at this
    have e : n = j := by simpa using this
    omega
   rw [e]
   exact xw0
 ·have e : cntB m s = false := by
   refine px.2 fun j h1 h2 h3 => h (j : Int) ?_
   have := pI ⟨j, by omega⟩
   rwa [h3] at this
  rw [e]
  exact xw0
end
section
open Go Go.RowKit
abbrev prA (q : Pr) : AVal := .agg [.str q.n, .list 1 q.vs.length (aG q.vs)]
abbrev nVAL : List UInt8 := [86, 65, 76, 85, 69]
abbrev nALT : List UInt8 := [65, 76, 84, 73, 68]
abbrev nMED : List UInt8 := [77, 69, 68, 73, 65, 84, 89, 80, 69]
abbrev nENC : List UInt8 := [69, 78, 67, 79, 68, 73, 78, 71]
abbrev nLAN : List UInt8 := [76, 65, 78, 71, 85, 65, 71, 69]
abbrev nPRE : List UInt8 := [80, 82, 69, 70]
abbrev nTYP : List UInt8 := [84, 89, 80, 69]
abbrev nPID : List UInt8 := [80, 73, 68]
inductive NmC (n : List UInt8) : Prop
 | one (h : n = nVAL ∨ n = nALT ∨ n = nMED ∨ n = nENC)
 | lan (h : n = nLAN)
 | pre (h : n = nPRE)
 | typ (h : n = nTYP)
 | pid (h : n = nPID)
 | els (h1 : n ≠ nVAL) (h2 : n ≠ nALT) (h3 : n ≠ nMED) (h4 : n ≠ nENC) (h5 : n ≠ nLAN) (h6 : n ≠ nPRE) (h7 : n ≠ nTYP) (h8 : n ≠ nPID)
theorem nmC (n : List UInt8) : NmC n := by
 by_cases h : n = nVAL ∨ n = nALT ∨ n = nMED ∨ n = nENC
 ·exact .one h
 simp only [not_or] at h
 obtain ⟨h1, h2, h3, h4⟩ := h
 by_cases h5 : n = nLAN
 ·exact .lan h5
 by_cases h6 : n = nPRE
 ·exact .pre h6
 by_cases h7 : n = nTYP
 ·exact .typ h7
 by_cases h8 : n = nPID
 ·exact .pid h8
 exact .els h1 h2 h3 h4 h5 h6 h7 h8
theorem pM {p : List UInt8 → Bool} {l : List (List UInt8)} (h : ∀ k, k < l.length → p (l.getD k []) = true) : l.all p = true := by
 rw [List.all_eq_true]
 intro x hx
 obtain ⟨i, hi, rfl⟩ := List.getElem_of_mem hx
 have := h i hi
 rwa [List.getD_eq_getElem?_getD, List.getElem?_eq_getElem hi] at this
theorem nG {p : List UInt8 → Bool} {l : List (List UInt8)} {k : Nat} (hk : k < l.length) (h : p (l.getD k []) = false) : l.all p = false := by
 rw [List.all_eq_false]
 refine ⟨l[k], List.getElem_mem hk, ?_⟩
 rw [List.getD_eq_getElem?_getD, List.getElem?_eq_getElem hk] at h
 simpa using h
theorem Di (s : List UInt8) (c : UInt8) : (Lib.cut s [c]).1.length ≤ s.length ∧ (Lib.cut s [c]).2.1.length ≤ s.length := by
 unfold Lib.cut
 split
 ·exact ⟨List.length_take_le' .., by dsimp only; rw [List.length_drop]; omega⟩
 ·exact ⟨Nat.le_refl _, Nat.zero_le _⟩
attribute [local irreducible] AWp AOps aa az OrOk ad ah
attribute [local irreducible] cntB ca isS pidB Lib.cut
theorem wE {G : Glo} {m : Int} (hE : ik G) (hP : co G) (hM : ad G (bI m)) (q : Pr) (h0 : q.n.length ≤ 1000000) (h1 : q.vs.length ≤ 1000000) (h2 : ∀ k, (q.vs.getD k []).length ≤ 90000) : FnIs Tryz.prog G 52 [prA q] (.bool q.fit) := by
 have hU := dH (G := G) q.n (by omega)
 unfold Pr.fit
 obtain ⟨nm, vs⟩ := q
 dsimp only at h0 h1 h2 hU ⊢
 generalize ap 97 122 (-32) nm = n at *
 cases nmC n with
 | one h =>
  have e : fitN n vs = eqB (vs.length : Int) 1 := by
   unfold fitN
   rw [if_pos h]
   unfold eqB
   exact decide_eq_decide.2 (by omega)
  rw [e]
  rcases h with rfl | rfl | rfl | rfl
  all_goals
   have hGL : ad G [] := ab
   refine fn_x Tryz.func52 Tryz.call52 rfl rfl rfl rfl hGL ?_
   intro C hC
   exact xw0
 | lan h =>
  subst h
  have hR := oQ (G := G) (vs.getD 0 []) (by have := h2 0; omega)
  have e : fitN nLAN vs = (decide (vs.length = 1) && (ca (vs.getD 0 [])).isNone) := rfl
  rw [e]
  by_cases hv : vs.length = 1
  ·rw [decide_eq_true hv]
   rcases hx : ca (vs.getD 0 []) with _ | e | ⟨e, p⟩
   all_goals
    rw [hx] at hR
    have hGL : ad G [] := ab
    refine fn_x Tryz.func52 Tryz.call52 rfl rfl rfl rfl hGL ?_
    intro C hC
    exact xw0
  ·rw [decide_eq_false hv]
   have hGL : ad G [] := ab
   refine fn_x Tryz.func52 Tryz.call52 rfl rfl rfl rfl hGL ?_
   intro C hC
   exact xw0
 | pre h =>
  subst h
  have hR := gI hE hP (vs.getD 0 []) 100 (by have := h2 0; omega) (by decide)
  have e : fitN nPRE vs = (decide (vs.length = 1) && cntB 100 (vs.getD 0 [])) := rfl
  rw [e]
  by_cases hv : vs.length = 1
  ·rw [decide_eq_true hv]
   have hGL : ad G [] := ab
   refine fn_x Tryz.func52 Tryz.call52 rfl rfl rfl rfl hGL ?_
   intro C hC
   exact xw0
  ·rw [decide_eq_false hv]
   have hGL : ad G [] := ab
   refine fn_x Tryz.func52 Tryz.call52 rfl rfl rfl rfl hGL ?_
   intro C hC
   exact xw0
 | typ h =>
  subst h
  have e : fitN nTYP vs = (vs.all isS && ltB 0 (vs.length : Int)) := by
   unfold ltB
   rw [show decide ((0 : Int) < (vs.length : Int)) = decide (0 < vs.length) from decide_eq_decide.2 (by omega)]
   rfl
  rw [e]
  have hGL : ad G [] := ab
  refine fn_x Tryz.func52 Tryz.call52 rfl rfl rfl rfl hGL ?_
  intro C hC
  refine xw1 ?_
  intros
  refine lp hC hGL (fun k : Nat => [(1, .rop [.str nm, .list 1 vs.length (aG vs)] 0), (48, .list 1 vs.length (aG vs)), (49, .int .i64 (vs.length : Int)), (50, .int .i64 (k : Int))]) (fun _ => []) (fun k => k ≤ vs.length ∧ ∀ j, j < k → isS (vs.getD j []) = true) (fun k => vs.length - k) 0 ⟨Nat.zero_le _, fun j h => absurd h (Nat.not_lt_zero _)⟩ ak rfl ?_
  rintro k ⟨hk1, hk2⟩
  by_cases hk : k < vs.length
  ·have hI := kS (G := G) (vs.getD k []) (by have := h2 k; omega)
   cases hs : isS (vs.getD k []) with
   | true =>
    rw [hs] at hI
    refine xw1 ?_
    intros
    refine nxt (k + 1) ⟨by omega, fun j hj => ?_⟩ (by omega) ak rfl
    rcases Nat.lt_or_eq_of_le (Nat.le_of_lt_succ hj) with h | rfl
    ·exact hk2 j h
    ·exact hs
   | false =>
    rw [hs] at hI
    rw [nG hk hs]
    exact xw0
  ·rw [pM fun j hj => hk2 j (by omega)]
   exact xw0
 | pid h =>
  subst h
  have e : fitN nPID vs = (vs.all pidB && ltB 0 (vs.length : Int)) := by
   unfold ltB
   rw [show decide ((0 : Int) < (vs.length : Int)) = decide (0 < vs.length) from decide_eq_decide.2 (by omega)]
   rfl
  rw [e]
  have hGL : ad G [] := ab
  refine fn_x Tryz.func52 Tryz.call52 rfl rfl rfl rfl hGL ?_
  intro C hC
  refine xw1 ?_
  intros
  refine lp hC hGL (fun k : Nat => [(1, .rop [.str nm, .list 1 vs.length (aG vs)] 0), (61, .list 1 vs.length (aG vs)), (62, .int .i64 (vs.length : Int)), (63, .int .i64 (k : Int))]) (fun _ => []) (fun k => k ≤ vs.length ∧ ∀ j, j < k → pidB (vs.getD j []) = true) (fun k => vs.length - k) 0 ⟨Nat.zero_le _, fun j h => absurd h (Nat.not_lt_zero _)⟩ ak rfl ?_
  rintro k ⟨hk1, hk2⟩
  by_cases hk : k < vs.length
  ·have hl := h2 k
   have hcut := tE (G := G) hM (vs.getD k []) 46 (by omega)
   have hcl := Di (vs.getD k []) 46
   have hp : pidB (vs.getD k []) = (cntB 999 (Lib.cut (vs.getD k []) [46]).1 && (!(Lib.cut (vs.getD k []) [46]).2.2 || cntB 999 (Lib.cut (vs.getD k []) [46]).2.1)) := by unfold pidB; rfl
   generalize Lib.cut (vs.getD k []) [46] = cu at *
   obtain ⟨a, b, tw⟩ := cu
   dsimp only at hcut hcl hp
   have hA := gI hE hP a 999 (by omega) (by decide)
   have hB := gI hE hP b 999 (by omega) (by decide)
   have go : pidB (vs.getD k []) = true → k + 1 ≤ vs.length ∧ ∀ j, j < k + 1 → pidB (vs.getD j []) = true := fun hs => ⟨by omega, fun j hj => by
    rcases Nat.lt_or_eq_of_le (Nat.le_of_lt_succ hj) with h | rfl
    ·exact hk2 j h
    ·exact hs⟩
   cases ha : cntB 999 a with
   | false =>
    rw [ha] at hA hp
    rw [nG hk hp]
    exact xw0
   | true =>
    rw [ha] at hA hp
    cases tw with
    | false =>
     refine xw1 ?_
     intros
     exact nxt (k + 1) (go hp) (by omega) ak rfl
    | true =>
     cases hb : cntB 999 b with
     | true =>
      rw [hb] at hB hp
      refine xw1 ?_
      intros
      exact nxt (k + 1) (go hp) (by omega) ak rfl
     | false =>
      rw [hb] at hB hp
      rw [nG hk hp]
      exact xw0
  ·rw [pM fun j hj => hk2 j (by omega)]
   exact xw0
 | els h3 h4 h5 h6 h7 h8 h9 h10 =>
  have e : fitN n vs = ltB 0 (vs.length : Int) := by
   unfold fitN
   rw [if_neg (by simp [*]), if_neg h7, if_neg h8, if_neg h9, if_neg h10]
   unfold ltB
   exact decide_eq_decide.2 (by omega)
  rw [e]
  have hGL : ad G [] := ab
  refine fn_x Tryz.func52 Tryz.call52 rfl rfl rfl rfl hGL ?_
  intro C hC
  exact xw0
end
section
open Go Go.RowKit
theorem CL {c : Nat} (h : c < 256) : isS (aU [(c : Int)]) = bn c := by
 have hb : aa (aU [(c : Int)]) 0 = c := by
  unfold aU aa
  simp
  omega
 rw [Bool.eq_iff_iff, isS]
 have hl : (aU [(c : Int)]).length = 1 := rfl
 rw [hl]
 simp only [Bool.and_eq_true, pN, hl, decide_eq_true_eq]
 constructor
 ·intro h; have := h.1 0 (by omega); rwa [hb] at this
 ·intro h; exact ⟨fun j hj => by rw [show j = 0 by omega, hb]; exact h, by omega, by omega⟩
theorem xd {c : Int} (h : bn c = true) (hc : c ≠ 45) : (48 ≤ c ∧ c ≤ 57) ↔ c ≤ 57 := by
 rw [me] at h; omega
theorem oR {b : Bool} {a : Nat} {x : List UInt8} {xs : List (List UInt8)} : cE b a (x :: xs) = if (ct b a x).isNone then cE false (a + x.length + 1) xs else ct b a x := by rw [cE]
theorem sk {x : List UInt8} (h : (45 : UInt8) ∉ x) {j : Nat} (hj : j < x.length) : aa x j ≠ 45 := by
 intro e
 rw [bm hj] at e
 exact h (by rw [← show x[j] = 45 from UInt8.toNat_inj.1 (by rw [e]; rfl)]; exact List.getElem_mem hj)
theorem oD {first : Bool} {a : Nat} {x : List UInt8} {i : Nat} (hi : i < x.length) (hb : lgB first (aa x i : Int) = false) (h0 : ∀ j, j < i → lgB first (aa x j : Int) = true) : ct first a x = .at 3 ((a : Int) + i) := by
 have hf : fstB (fun c => !lgB first c) x = i := gQ hi (by rw [hb]; rfl) (fun j hj => by rw [h0 j hj]; rfl)
 unfold ct
 rw [hf, if_pos (by omega)]
theorem iB {first : Bool} {a : Nat} {x : List UInt8} (h0 : ∀ j, j < x.length → lgB first (aa x j : Int) = true) : ct first a x = if x.length = 0 then .at 7 a else if 8 < x.length then .at 4 a else .none := by
 have hf : fstB (fun c => !lgB first c) x = -1 := dI (fun j hj => by rw [h0 j hj]; rfl)
 unfold ct
 rw [hf, if_neg (by omega)]
theorem iZ (c : UInt8) : ∀ s : List UInt8, (splS c s).length ≤ s.length + 1 ∧ ∀ p, p ∈ splS c s → p.length ≤ s.length
 | [] => ⟨Nat.le_refl _, fun p h => by simp [splS] at h; subst h; exact Nat.le_refl _⟩
 | x :: t => by
  obtain ⟨h1, h2⟩ := iZ c t
  by_cases hx : x = c
  ·rw [splS, if_pos hx]
   refine ⟨by simp only [List.length_cons]; omega, fun p hp => ?_⟩
   rcases List.mem_cons.1 hp with rfl | hp
   ·simp
   ·have := h2 p hp; simp only [List.length_cons]; omega
  ·rw [splS, if_neg hx]
   cases h3 : splS c t with
   | nil => exact absurd h3 (ku c t)
   | cons q qs =>
    rw [h3] at h1 h2
    refine ⟨by simp only [List.length_cons] at *; omega, fun p hp => ?_⟩
    rcases List.mem_cons.1 hp with rfl | hp
    ·have := h2 q (by simp); simp only [List.length_cons]; omega
    ·have := h2 p (by simp [hp]); simp only [List.length_cons]; omega
attribute [local irreducible] AWp AOps aa az OrOk ad ah
attribute [local irreducible] splS cE lgB isS bn ct
theorem jG {G : Glo} {m : Int} (hM : ad G (bI m)) (s : List UInt8) (hl : s.length ≤ 3000) : FnIs Tryz.prog G 82 [.str s] (.agg [.int .i64 (ca s).e, .int .i64 (ca s).p]) := by
 have h1 := nW (G := G) hM s 45 (by omega)
 have hgd := dj (G := G)
 have hmem : ∀ k, k < (splS 45 s).length → (45 : UInt8) ∉ (splS 45 s).getD k [] := fun k hk => by
  rw [List.getD_eq_getElem?_getD, List.getElem?_eq_getElem hk]
  exact kw (List.getElem_mem hk)
 have hX : ca s = cE true 0 (splS 45 s) := rfl
 have hlen : ∀ p, p ∈ splS 45 s → p.length ≤ 3000 := fun p hp => Nat.le_trans ((iZ 45 s).2 p hp) hl
 have hPl : (splS 45 s).length ≤ 3001 := by have := (iZ 45 s).1; omega
 generalize splS 45 s = P at *
 have hGL : ad G [] := ab
 refine fn_x Tryz.func82 Tryz.call82 rfl rfl rfl rfl hGL ?_
 intro C hC
 refine xw1 ?_
 intros
 rename Nat => bl0
 refine lp hC hGL (fun (x : Nat × Nat) => [(2, .own 0 (.pointer (some ⟨bl0, 0, none⟩))), (3, .int .i64 x.2), (9, .list 1 P.length (aG P)), (10, .int .i64 P.length), (11, .int .i64 x.1)]) (fun _ => [.cells bl0 (some 45) [.int .i64 0, .int .i64 0]]) (fun x => x.1 ≤ P.length ∧ x.2 ≤ 4000 * x.1 ∧ ca s = cE (decide (x.1 = 0)) x.2 (P.drop x.1)) (fun x => P.length - x.1) (0, 0) ?_ ak rfl ?_
 ·exact ⟨Nat.zero_le _, Nat.zero_le _, hX⟩
 rintro ⟨k, a⟩ ⟨g1, g2, g3⟩
 dsimp only at g1 g2 g3 ⊢
 by_cases hk : k < P.length
 ·have hx : ∃ x, P.getD k [] = x ∧ P.drop k = x :: P.drop (k + 1) ∧ (45 : UInt8) ∉ x ∧ x.length ≤ 3000 := by
   refine ⟨P.getD k [], rfl, ?_, hmem k hk, ?_⟩
   ·rw [List.drop_eq_getElem_cons hk, List.getD_eq_getElem?_getD, List.getElem?_eq_getElem hk]; rfl
   ·rw [List.getD_eq_getElem?_getD, List.getElem?_eq_getElem hk]; exact hlen _ (List.getElem_mem hk)
  obtain ⟨x, hx, hd, hm, hxl⟩ := hx
  have hxe : aG P k = .str x := by unfold aG; rw [hx]
  rw [hd, oR] at g3
  have hkl : k ≤ 4000 * k := by omega
  repeat' (first | (conv => whnf); first | refine .w ?_ | refine .v ?_ | refine sc_c ?_ ?_ <;> (intro hb; try exact dd hb) | apply ae | apply an | (apply sc_i <;> intro hb) | (apply bx_i; intro hbd) | (apply aj; first | exact hgd) | (apply am (i := 0) rfl; first | exact hgd) | (apply ab_i; intro bl) | (apply as_i; intro va vk vc hva) | (apply av_i; intro v) | (apply ac_i; intro bl cap hcap) | apply bo_l | (apply nx_i <;> intro hnx) | exact rt_w | apply dw_q mixed hC hGL (by kernel_rfl) | (apply cq; assumption; (first | exact hgd); exact rfl))
  all_goals try conv => whnf
  rw [hx] at *
  rw [hxe] at *
  refine lp hC hGL (fun (i : Nat) => [(2, .own 0 (.pointer (some ⟨bl0, 0, none⟩))), (3, .int .i64 a), (4, .int .i64 k), (5, .str x), (9, .list 1 P.length (aG P)), (10, .int .i64 P.length), (11, .int .i64 k), (17, .own 1 (.slice (some ⟨bl, 0, none⟩) x.length cap)), (18, .int .i64 x.length), (19, .int .i64 i)]) (fun _ => [.cells bl0 (some 45) [.int .i64 0, .int .i64 0], .buf bl x cap]) (fun i => i ≤ x.length ∧ ∀ j, j < i → lgB (decide (k = 0)) (aa x j : Int) = true) (fun i => x.length - i) 0 ?_ ak rfl ?_
  ·exact ⟨Nat.zero_le _, by intro j hj; omega⟩
  rintro i ⟨hi, hb0⟩
  have hI : i < x.length → FnIs Tryz.prog G 77 [.str (aU [(aa x i : Int)])] (.bool (bn (aa x i))) := fun h => by
   have := ot (G := G) (aU [(aa x i : Int)]) (by show 1 ≤ _; omega)
   rwa [CL (aL _ _)] at this
  have hW := cr (G := G) (aa x i : Int) 48 57
  refine xw ?_
  repeat' (first | exact Le.n | refine Lc.mk ?_ ?_)
  all_goals intros
  ·refine aI hC hGL (bp [_] rfl (by intro v hv; simp only [List.mem_cons, List.not_mem_nil, or_false] at hv; omega) rfl rfl rfl rfl rfl rfl) rfl rfl ?_
   repeat' (first | (conv => whnf); first | refine .w ?_ | refine .v ?_ | refine sc_c ?_ ?_ <;> (intro hb; try exact dd hb) | apply ae | apply an | (apply sc_i <;> intro hb) | (apply bx_i; intro hbd) | (apply aj; first | exact hI (by omega) | exact hW) | (apply am (i := 0) rfl; first | exact hI (by omega) | exact hW) | (apply ab_i; intro bl) | (apply as_i; intro va vk vc hva) | (apply av_i; intro v) | (apply ac_i; intro bl cap hcap) | apply bo_l | (apply nx_i <;> intro hnx) | exact rt_w | apply dw_q mixed hC hGL (by kernel_rfl) | (apply cq; assumption; (first | exact hI (by omega) | exact hW); exact rfl))
   all_goals try conv => whnf
   ·apply al
    rw [Bool.and_eq_true, decide_eq_true_eq, decide_eq_true_eq] at hb
    rw [g3, oD (by omega) (y4.2 (.inr ⟨by simp; omega, by omega⟩)) hb0]
    rfl
   ·rw [Bool.and_eq_false_iff, decide_eq_false_iff_not, decide_eq_false_iff_not] at hb
    refine nxt (i + 1) ?_ ?_ ak rfl
    ·refine ⟨by omega, bF hb0 (y3.2 ⟨by assumption, fun _ => ?_⟩)⟩
     have := (xd (c := (aa x i : Int)) (by assumption) (by have := sk hm (j := i) (by omega); omega))
     omega
    ·omega
   ·refine nxt (i + 1) ?_ ?_ ak rfl
    ·exact ⟨by omega, bF hb0 (y3.2 ⟨by assumption, fun h => by simp at h; omega⟩)⟩
    ·omega
   ·apply al
    rw [g3, oD (by omega) (y4.2 (.inl hb)) hb0]
    rfl
  ·apply al
   have hp := iB (first := decide (k = 0)) (a := a) (x := x) (fun j hj => hb0 j (by omega))
   rw [if_pos (by omega)] at hp
   rw [g3, hp]
   rfl
  ·apply al
   have hp := iB (first := decide (k = 0)) (a := a) (x := x) (fun j hj => hb0 j (by omega))
   rw [if_neg (by omega), if_pos (by omega)] at hp
   rw [g3, hp]
   rfl
  ·have hp := iB (first := decide (k = 0)) (a := a) (x := x) (fun j hj => hb0 j (by omega))
   rw [if_neg (by omega), if_neg (by omega)] at hp
   rw [hp, if_pos (show Err.none.isNone = true from rfl)] at g3
   refine nxs (k + 1, a + x.length + 1) ⟨by omega, by dsimp only; omega, ?_⟩ (by dsimp only; omega) ⟨rfl, ?_, rfl, rfl, rfl, trivial⟩ (by repeat (first | exact List.nil_sublist _ | apply List.Sublist.cons_cons | apply List.Sublist.cons))
   ·dsimp only
    rw [g3]
    simp
   ·exact congrArg (fun z => some (AVal.int .i64 z)) (by dsimp only; omega)
 ·refine xw1 ?_
  intros
  apply al
  rw [g3, List.drop_eq_nil_of_le (by omega), cE]
  rfl
end
section
open Go Go.RowKit
theorem tH (c : UInt8) (s : List UInt8) : splS c s = if (Lib.cut s [c]).2.2 then (Lib.cut s [c]).1 :: splS c (Lib.cut s [c]).2.1 else [s] := by
 have h := gz c s
 rcases Lib.index_spec s [c] with ⟨h2, _⟩ | ⟨i, h2, _⟩
 ·rw [Lib.count_miss h2] at h
  have e : Lib.cut s [c] = (s, [], false) := by unfold Lib.cut; rw [if_neg (by omega)]
  rw [e, if_neg Bool.false_ne_true, ← h]
  rfl
 ·have e : Lib.cut s [c] = (s.take i, s.drop (i + 1), true) := by unfold Lib.cut; rw [if_pos (by omega), h2]; rfl
  rw [Lib.count_hit (by simp) h2, Nat.add_comm, gA h2] at h
  rw [e, if_pos rfl, ← h]
  congr 1
  exact gz c _
theorem AM : ∀ k : Fin 1000, (46 : UInt8) ∉ Lib.decDigits k.val := by decide +kernel
theorem AR {m : Nat} {s : List UInt8} (hm : m ≤ 999) (h : (46 : UInt8) ∈ s) : cntB m s = false := by
 refine px.2 fun n h1 h2 h3 => ?_
 subst h3
 exact AM ⟨n, by omega⟩ h
theorem GF {s : List UInt8} {c : UInt8} (h : (Lib.cut s [c]).2.2 = true) : c ∈ s := by
 unfold Lib.cut at h
 split at h
 ·rename_i hi
  rw [Lib.index_one] at hi
  rcases Classical.em (c ∈ s) with g | g
  ·exact g
  ·exfalso
   have : Lib.indexByte s c = -1 := by
    have := Lib.index_spec s [c]
    rcases this with ⟨h1, _⟩ | ⟨i, h1, h2, h3, _⟩
    ·rwa [Lib.index_one] at h1
    ·exfalso
     apply g
     unfold Lib.occAt at h3
     cases hd : s.drop i with
     | nil => rw [hd] at h3; simp at h3
     | cons x t =>
      rw [hd] at h3
      have : c = x := by simpa [List.isPrefixOf] using h3
      rw [this]
      exact List.mem_of_mem_drop (by rw [hd]; exact List.mem_cons_self ..)
   omega
 ·cases h
def pidL (l : List (List UInt8)) : Bool := decide (l.length ≤ 2) && l.all (cntB 999)
theorem En (v : List UInt8) : pidL (splS 46 v) = pidB v := by
 rw [tH]
 unfold pidB pidL
 cases ht : (Lib.cut v [46]).2.2 with
 | false =>
  have e : (Lib.cut v [46]).1 = v := by
   unfold Lib.cut at ht ⊢
   split at ht
   ·cases ht
   ·rename_i h; rw [if_neg h]
  rw [e]
  simp
 | true =>
  rw [if_pos rfl, tH]
  cases ht2 : (Lib.cut (Lib.cut v [46]).2.1 [46]).2.2 with
  | false => simp
  | true =>
   have h1 := AR (m := 999) (Nat.le_refl _) (GF ht2)
   rw [h1, if_pos rfl]
   have h3 := ku 46 (Lib.cut (Lib.cut v [46]).2.1 [46]).2.1
   have h4 : 0 < (splS 46 (Lib.cut (Lib.cut v [46]).2.1 [46]).2.1).length := List.length_pos_iff.2 h3
   rw [decide_eq_false (by simp only [List.length_cons]; omega)]
   simp
abbrev sixS : List UInt8 := [32, 86, 65, 76, 85, 69, 32, 65, 76, 84, 73, 68, 32, 77, 69, 68, 73, 65, 84, 89, 80, 69, 32, 69, 78, 67, 79, 68, 73, 78, 71, 32, 76, 65, 78, 71, 85, 65, 71, 69, 32, 80, 82, 69, 70, 32]
def sixB (n : List UInt8) : Bool := decide (n = nVAL ∨ n = nALT ∨ n = nMED ∨ n = nENC ∨ n = nLAN ∨ n = nPRE)
theorem ut : ∀ {n L : List UInt8}, (n ++ [32]).isPrefixOf L = true → (32 : UInt8) ∉ n → n = L.takeWhile (· != 32)
 | [], [], h, _ => by simp at h
 | [], x :: L, h, _ => by
  simp only [List.nil_append, List.isPrefixOf, Bool.and_true, beq_iff_eq] at h
  subst h
  simp
 | a :: n, [], h, _ => by simp at h
 | a :: n, x :: L, h, hn => by
  simp only [List.cons_append, List.isPrefixOf, Bool.and_eq_true, beq_iff_eq] at h
  obtain ⟨rfl, h⟩ := h
  have ha : a ≠ 32 := fun e => hn (by rw [e]; exact List.mem_cons_self ..)
  have := ut h (fun e => hn (List.mem_cons_of_mem _ e))
  rw [List.takeWhile_cons, if_pos (by simpa using ha), ← this]
theorem zR : ∀ i : Fin 47, ∀ L, sixS.drop i.val = 32 :: L → L.takeWhile (· != 32) = [] ∨ sixB (L.takeWhile (· != 32)) = true := by
 have h : ∀ i : Fin 47, (match sixS.drop i.val with | x :: L => x != 32 || ((L.takeWhile (· != 32)).isEmpty || sixB (L.takeWhile (· != 32))) | [] => true) = true := by decide +kernel
 intro i L hL
 have := h i
 rw [hL] at this
 replace this : ((32 : UInt8) != 32 || ((L.takeWhile (· != 32)).isEmpty || sixB (L.takeWhile (· != 32)))) = true := this
 generalize L.takeWhile (· != 32) = u at *
 rw [show ((32 : UInt8) != 32) = false by decide, Bool.false_or, Bool.or_eq_true, List.isEmpty_iff] at this
 exact this
theorem FP {n : List UInt8} (h : sixB n = true) : Lib.contains sixS (32 :: n ++ [32]) = true := by
 have h : n = nVAL ∨ n = nALT ∨ n = nMED ∨ n = nENC ∨ n = nLAN ∨ n = nPRE := of_decide_eq_true h
 rcases h with rfl | rfl | rfl | rfl | rfl | rfl <;> decide +kernel
theorem FQ {n : List UInt8} (h0 : n ≠ []) (hn : (32 : UInt8) ∉ n) : Lib.contains sixS (32 :: n ++ [32]) = sixB n := by
 cases hb : sixB n with
 | true => exact FP hb
 | false =>
  unfold Lib.contains
  rcases Lib.index_spec sixS (32 :: n ++ [32]) with ⟨h1, _⟩ | ⟨i, h1, h2, h3, _⟩
  ·rw [h1]; rfl
  ·exfalso
   unfold Lib.occAt at h3
   cases hd : sixS.drop i with
   | nil => rw [hd] at h3; simp at h3
   | cons x L =>
    rw [hd] at h3
    simp only [List.cons_append, List.isPrefixOf, Bool.and_eq_true, beq_iff_eq] at h3
    obtain ⟨rfl, h3⟩ := h3
    have e := ut h3 hn
    rcases zR ⟨i, by have : sixS.length = 46 := rfl; omega⟩ L hd with h | h
    ·exact h0 (e.trans h)
    ·rw [← e, hb] at h; cases h
theorem sn {s : List UInt8} (h : isS s = true) : ap 97 122 (-32) s ≠ [] ∧ (32 : UInt8) ∉ ap 97 122 (-32) s := by
 unfold isS at h
 simp only [Bool.and_eq_true, decide_eq_true_eq] at h
 obtain ⟨h1, h2, _⟩ := h
 refine ⟨fun e => h2 ?_, fun hm => ?_⟩
 ·have := congrArg List.length e
  unfold ap at this
  rwa [List.length_map] at this
 ·unfold ap at hm
  rw [List.mem_map] at hm
  obtain ⟨c, hc, e⟩ := hm
  unfold allB at h1
  have hl := List.all_eq_true.1 h1 c hc
  unfold bn at hl
  have hl := of_decide_eq_true hl
  have e := congrArg UInt8.toNat e
  rw [UInt8.toNat_ofNat'] at e
  have hlt := UInt8.toNat_lt c
  unfold bR at e
  have e32 : (32 : UInt8).toNat = 32 := rfl
  rw [e32] at e
  split at e <;> omega
end
section
open Go Go.RowKit
theorem f6 {G : Glo} {m : Int} (hU : ad G (bI m)) (s t : List UInt8) (hl : s.length < 100000) : FnIs Tryz.prog G 81 [.str s, .str t] (.bool (Lib.contains s t)) := by
 refine bi rfl Tryz.call81 ?_
 rintro R args ⟨x, u, e, hx, y, u', e', hy, rfl⟩ w hG hs
 obtain rfl := aC.1 hx
 obtain rfl := aC.1 hy
 subst e'
 obtain rfl := dL e
 refine (Tryz.strings_Contains ⟨s.toArray⟩ ⟨t.toArray⟩ m w (by show s.toArray.size < _; simp; omega) (oJ hU hG hs)).mono ?_
 rintro e w' ⟨rfl, rfl⟩
 exact ⟨by simp [AVal.conc], Below.refl _ _⟩
end
section
open Go Go.RowKit
attribute [local irreducible] AWp AOps aa az OrOk ad ah
attribute [local irreducible] fL Lv AWpD To
theorem kN {G : Glo} (e p : Int) : FnIs Tryz.prog G 36 [.agg [.int .i64 e, .int .i64 p]] (.bool (eqB e 0)) := by
 have hGL : ad G [] := ab
 refine fn_x Tryz.func36 Tryz.call36 rfl rfl rfl rfl hGL ?_
 intro C hC
 repeat' (first | (conv => whnf); first | refine .w ?_ | refine .v ?_ | refine sc_c ?_ ?_ <;> (intro hb; try exact dd hb) | apply ae | apply an | (apply sc_i <;> intro hb) | (apply bx_i; intro hbd) | (apply aj; first | fail) | (apply am (i := 0) rfl; first | fail) | (apply ab_i; intro bl) | (apply as_i; intro va vk vc hva) | (apply av_i; intro v) | (apply ac_i; intro bl cap hcap) | apply bo_l | (apply nx_i <;> intro hnx) | exact rt_w | apply dw_q mixed hC hGL (by kernel_rfl) | (apply cq; assumption; (first | fail); exact rfl))
 all_goals try conv => whnf
 all_goals skip
end
section
open Go Go.RowKit
def okV (n : List UInt8) (v : List UInt8) : Bool := if n = nLAN then (ca v).isNone else if n = nPRE then cntB 100 v else if n = nTYP then isS v else if n = nPID then pidB v else true
theorem GA (n : List UInt8) (vs : List (List UInt8)) : fitN n vs = (decide (vs.length ≠ 0) && ((!sixB n || decide (vs.length = 1)) && vs.all (okV n))) := by
 have one : ∀ {p : List UInt8 → Bool}, vs.length = 1 → vs.all p = p (vs.getD 0 []) := fun h => by
  obtain ⟨v, rfl⟩ := List.length_eq_one_iff.1 h
  simp
 cases nmC n with
 | one h =>
  have e : ∀ v, okV n v = true := fun v => by
   unfold okV
   rcases h with rfl | rfl | rfl | rfl <;> rfl
  have e2 : vs.all (okV n) = true := List.all_eq_true.2 fun v _ => e v
  have e3 : sixB n = true := by rcases h with rfl | rfl | rfl | rfl <;> rfl
  unfold fitN
  rw [if_pos h, e2, e3]
  by_cases hv : vs.length = 1
  ·simp [hv]
  ·simp [hv]
 | lan h =>
  subst h
  show (decide (vs.length = 1) && (ca (vs.getD 0 [])).isNone) = _
  rw [show sixB nLAN = true from rfl]
  by_cases hv : vs.length = 1
  ·rw [one hv]; simp [hv, okV]
  ·simp [hv]
 | pre h =>
  subst h
  show (decide (vs.length = 1) && cntB 100 (vs.getD 0 [])) = _
  rw [show sixB nPRE = true from rfl]
  by_cases hv : vs.length = 1
  ·rw [one hv]; simp [hv, okV]
  ·simp [hv]
 | typ h =>
  subst h
  show (vs.all isS && decide (0 < vs.length)) = _
  rw [show sixB nTYP = false from rfl, show okV nTYP = isS from rfl]
  by_cases hv : vs.length = 0
  ·simp [hv]
  ·simp [hv, Nat.pos_of_ne_zero hv]
 | pid h =>
  subst h
  show (vs.all pidB && decide (0 < vs.length)) = _
  rw [show sixB nPID = false from rfl, show okV nPID = pidB from rfl]
  by_cases hv : vs.length = 0
  ·simp [hv]
  ·simp [hv, Nat.pos_of_ne_zero hv]
 | els h1 h2 h3 h4 h5 h6 h7 h8 =>
  have e : ∀ v, okV n v = true := fun v => by
   unfold okV
   rw [if_neg h5, if_neg h6, if_neg h7, if_neg h8]
  have e2 : vs.all (okV n) = true := List.all_eq_true.2 fun v _ => e v
  have e3 : sixB n = false := by
   unfold sixB
   exact decide_eq_false (by simp only [not_or]; exact ⟨h1, h2, h3, h4, h5, h6⟩)
  unfold fitN
  rw [if_neg (by simp only [not_or]; exact ⟨h1, h2, h3, h4⟩), if_neg h5, if_neg h6, if_neg h7, if_neg h8, e2, e3]
  by_cases hv : vs.length = 0
  ·simp [hv]
  ·simp [hv, Nat.pos_of_ne_zero hv]
theorem qQ : ∀ (b : Bool) (a : Nat) (l : List (List UInt8)), (cE b a l).isNone = eqB (cE b a l).e 0
 | b, a, [] => by unfold cE; exact (de.2 rfl).symm
 | b, a, x :: l => by
  unfold cE
  have ih := qQ false (a + x.length + 1) l
  have hp : ct b a x = .none ∨ ∃ e p, ct b a x = .at e p ∧ e ≠ 0 := by
   unfold ct
   split
   ·exact .inr ⟨_, _, rfl, by decide⟩
   ·split
    ·exact .inr ⟨_, _, rfl, by decide⟩
    ·split
     ·exact .inr ⟨_, _, rfl, by decide⟩
     ·exact .inl rfl
  rcases hp with h | ⟨e, p, h, he⟩
  ·rw [h]; exact ih
  ·rw [h]; exact (jO.2 he).symm
theorem Ax (s : List UInt8) : (ca s).isNone = eqB (ca s).e 0 := qQ true 0 (splS 45 s)
attribute [local irreducible] AWp AOps aa az OrOk ad ah
attribute [local irreducible] cntB ca isS pidB splS okV sixB
theorem mJ {G : Glo} (hP : co G) (s : List UInt8) (m : Nat) (hm : m ≤ 999) : FnIs Tryz.prog G 83 [.str s, .int .i64 (m : Int)] (.bool (cntB m s)) := by
 have hGL : ad G [] := ab
 refine fn_x Tryz.func83 Tryz.call83 rfl rfl rfl rfl hGL ?_
 intro C hC
 refine xw1 ?_
 intros
 refine lp hC hGL (fun k : Nat => [(0, .str s), (1, .int .i64 (m : Int)), (5, .int .i64 (k : Int))]) (fun _ => []) (fun k => 1 ≤ k ∧ k ≤ m + 1 ∧ ∀ n, 1 ≤ n → n < k → Lib.decDigits n ≠ s) (fun k => m + 1 - k) 1 ⟨Nat.le_refl _, by omega, fun n h1 h2 => by omega⟩ ak rfl ?_
 rintro k ⟨h1, h2, h3⟩
 by_cases hk : k ≤ m
 ·have hI := strconv_Itoa (G := G) hP k (by omega)
  by_cases he : Lib.decDigits k = s
  ·rw [x8.2 ⟨k, h1, hk, he⟩]
   exact xw0
  ·refine xw1 ?_
   intros
   refine nxt (k + 1) ⟨by omega, by omega, fun n g1 g2 => ?_⟩ (by omega) ak rfl
   rcases Nat.lt_or_eq_of_le (Nat.le_of_lt_succ g2) with h | rfl
   ·exact h3 n g1 h
   ·exact he
 ·rw [px.2 fun n g1 g2 => h3 n g1 (by omega)]
  exact xw0
theorem B7 {G : Glo} {m : Int} (hP : co G) (hM : ad G (bI m)) (q : Pr) (hq : isS q.n = true) (h0 : q.n.length ≤ 1000000) (h1 : q.vs.length ≤ 1000000) (h2 : ∀ k, (q.vs.getD k []).length ≤ 3000) : FnIs Tryz.prog G 45 [prA q] (.bool q.fit) := by
 have hU := Aj (G := G) q.n (by omega)
 obtain ⟨hb1, hb2⟩ := sn hq
 unfold Pr.fit
 rw [GA]
 obtain ⟨nm, vs⟩ := q
 dsimp only at h0 h1 h2 hU hb1 hb2 ⊢
 have hnl : (ap 97 122 (-32) nm).length ≤ 1000000 := by unfold ap; rw [List.length_map]; exact h0
 clear hq
 generalize ap 97 122 (-32) nm = n at *
 have hS := f6 (G := G) hM sixS (32 :: n ++ [32]) (by decide)
 rw [FQ hb1 hb2] at hS
 by_cases hv : vs.length = 0
 ·rw [decide_eq_false (by omega)]
  have hGL : ad G [] := ab
  refine fn_x Tryz.func45 Tryz.call45 rfl rfl rfl rfl hGL ?_
  intro C hC
  exact xw0
 rw [decide_eq_true hv]
 by_cases hs : sixB n = true ∧ vs.length ≠ 1
 ·rw [hs.1] at hS ⊢
  rw [decide_eq_false hs.2]
  have hGL : ad G [] := ab
  refine fn_x Tryz.func45 Tryz.call45 rfl rfl rfl rfl hGL ?_
  intro C hC
  exact xw0
 have e1 : (!sixB n || decide (vs.length = 1)) = true := by
  rcases Bool.eq_false_or_eq_true (sixB n) with h | h
  ·rw [h, decide_eq_true (Classical.not_not.1 fun g => hs ⟨h, g⟩)]; rfl
  ·rw [h]; rfl
 rw [e1, Bool.true_and, Bool.true_and]
 have ok1 : ∀ {k : Nat}, k < vs.length → okV n (vs.getD k []) = true → (∀ j, j < k → okV n (vs.getD j []) = true) → ∀ j, j < k + 1 → okV n (vs.getD j []) = true := fun hk h g j hj => by
  rcases Nat.lt_or_eq_of_le (Nat.le_of_lt_succ hj) with h' | rfl
  ·exact g j h'
  ·exact h
 have hGL : ad G [] := ab
 refine fn_a Tryz.func45 Tryz.call45 rfl rfl rfl rfl ?_
 intro C hC
 refine cut hC hGL [(1, .rop [.str nm, .list 1 vs.length (aG vs)] 0)] [] True ?_ fun _ => ?_
 ·exact xw0
 refine cut hC hGL [(1, .rop [.str nm, .list 1 vs.length (aG vs)] 0)] [] True ?_ fun _ => ?_
 ·exact xw0
 refine cut hC hGL [(1, .rop [.str nm, .list 1 vs.length (aG vs)] 0), (3, .str n)] [] True ?_ fun _ => ?_
 ·exact xw0
 refine cut hC hGL [(1, .rop [.str nm, .list 1 vs.length (aG vs)] 0), (3, .str n)] [] True ?_ fun _ => ?_
 ·cases h6 : sixB n with
  | true =>
   rw [h6] at hS hs
   have hl1 : vs.length = 1 := Classical.not_not.1 fun g => hs ⟨rfl, g⟩
   exact xw0
  | false =>
   rw [h6] at hS
   exact xw0
 refine bw hC hGL (xw1 ?_)
 intros
 refine lp hC hGL (fun k : Nat => [(3, .str n), (28, .list 1 vs.length (aG vs)), (29, .int .i64 (vs.length : Int)), (30, .int .i64 (k : Int))]) (fun _ => []) (fun k => k ≤ vs.length ∧ ∀ j, j < k → okV n (vs.getD j []) = true) (fun k => vs.length - k) 0 ⟨Nat.zero_le _, fun j h => absurd h (Nat.not_lt_zero _)⟩ ak rfl ?_
 rintro k ⟨hk1, hk2⟩
 by_cases hk : k < vs.length
 ·have hl := h2 k
  have ok2 := fun h => ok1 hk h hk2
  have bad : okV n (vs.getD k []) = false → vs.all (okV n) = false := nG hk
  have hLR := jG hM (vs.getD k []) hl
  have hFI := kN (G := G) (ca (vs.getD k [])).e (ca (vs.getD k [])).p
  have hCN := mJ hP (vs.getD k []) 100 (by decide)
  have hIS := ot (G := G) (vs.getD k []) (by omega)
  have hSP := nW (G := G) hM (vs.getD k []) 46 (by omega)
  have hCT := fun x => mJ hP x 999 (Nat.le_refl _)
  have hlE := Ax (vs.getD k [])
  have hpE := En (vs.getD k [])
  have hd : okV n (vs.getD k []) = (if n = nLAN then (ca (vs.getD k [])).isNone else if n = nPRE then cntB 100 (vs.getD k []) else if n = nTYP then isS (vs.getD k []) else if n = nPID then pidB (vs.getD k []) else true) := by unfold okV; rfl
  cases nmC n with
  | one h =>
   have e : (if n = nLAN then (ca (vs.getD k [])).isNone else if n = nPRE then cntB 100 (vs.getD k []) else if n = nTYP then isS (vs.getD k []) else if n = nPID then pidB (vs.getD k []) else true) = true := by rcases h with rfl | rfl | rfl | rfl <;> rfl
   have e := ok2 (hd.trans e)
   rcases h with rfl | rfl | rfl | rfl
   all_goals
    refine xw1 ?_
    intros
    exact nxt (k + 1) ⟨by omega, e⟩ (by omega) ak rfl
  | lan h =>
   subst h
   cases hc : (ca (vs.getD k [])).isNone with
   | true =>
    rw [hc] at hlE
    rw [← hlE] at hFI
    refine xw1 ?_
    intros
    exact nxt (k + 1) ⟨by omega, ok2 (by rw [hd]; exact hc)⟩ (by omega) ak rfl
   | false =>
    rw [hc] at hlE
    rw [← hlE] at hFI
    rw [bad (by rw [hd]; exact hc)]
    exact xw0
  | pre h =>
   subst h
   cases hc : cntB 100 (vs.getD k []) with
   | true =>
    rw [hc] at hCN
    refine xw1 ?_
    intros
    exact nxt (k + 1) ⟨by omega, ok2 (by rw [hd]; exact hc)⟩ (by omega) ak rfl
   | false =>
    rw [hc] at hCN
    rw [bad (by rw [hd]; exact hc)]
    exact xw0
  | typ h =>
   subst h
   cases hc : isS (vs.getD k []) with
   | true =>
    rw [hc] at hIS
    refine xw1 ?_
    intros
    exact nxt (k + 1) ⟨by omega, ok2 (by rw [hd]; exact hc)⟩ (by omega) ak rfl
   | false =>
    rw [hc] at hIS
    rw [bad (by rw [hd]; exact hc)]
    exact xw0
  | pid h =>
   subst h
   have hln := iZ 46 (vs.getD k [])
   have hpd : pidL (splS 46 (vs.getD k [])) = (decide ((splS 46 (vs.getD k [])).length ≤ 2) && (splS 46 (vs.getD k [])).all (cntB 999)) := by unfold pidL; rfl
   rw [hpE] at hpd
   generalize splS 46 (vs.getD k []) = l at hln hpd hSP
   refine xw1 ?_
   intros
   refine lp hC hGL (fun j : Nat => [(3, .str nPID), (6, .bool (decide (l.length ≤ 2) && (l.take j).all (cntB 999))), (28, .list 1 vs.length (aG vs)), (29, .int .i64 (vs.length : Int)), (30, .int .i64 (k : Int)), (55, .list 1 l.length (aG l)), (56, .int .i64 (l.length : Int)), (57, .int .i64 (j : Int))]) (fun _ => []) (fun j => j ≤ l.length) (fun j => l.length - j) 0 (Nat.zero_le _) ⟨rfl, ?_, rfl, rfl, rfl, rfl, rfl, rfl, trivial⟩ rfl ?_
   ·show Env.get _ 6 = _
    rw [List.take_zero, List.all_nil, Bool.and_true]
    exact congrArg (fun z => some (AVal.bool z)) (by unfold ltB; rw [← decide_not]; exact decide_eq_decide.2 (by omega))
   intro j hj
   by_cases hjl : j < l.length
   ·have hC1 := hCT (l.getD j [])
    have e2 : (l.take (j + 1)).all (cntB 999) = ((l.take j).all (cntB 999) && cntB 999 (l.getD j [])) := by
     rw [List.take_succ_eq_append_getElem hjl, List.all_append, List.getD_eq_getElem?_getD, List.getElem?_eq_getElem hjl]
     simp
    cases hb : (decide (l.length ≤ 2) && (l.take j).all (cntB 999)) with
    | true =>
     refine xw1 ?_
     intros
     refine nxt (j + 1) (by omega) (by omega) ⟨rfl, ?_, rfl, rfl, rfl, rfl, rfl, rfl, trivial⟩ rfl
     rw [e2, ← Bool.and_assoc, hb]
     rfl
    | false =>
     refine xw1 ?_
     intros
     refine nxt (j + 1) (by omega) (by omega) ⟨rfl, ?_, rfl, rfl, rfl, rfl, rfl, rfl, trivial⟩ rfl
     rw [e2, ← Bool.and_assoc, hb]
     rfl
   ·obtain rfl : j = l.length := by omega
    rw [List.take_length, ← hpd]
    cases hc : pidB (vs.getD k []) with
    | true =>
     refine xw1 ?_
     intros
     exact nxt (k + 1) ⟨by omega, ok2 (by rw [hd]; exact hc)⟩ (by omega) ak rfl
    | false =>
     rw [bad (by rw [hd]; exact hc)]
     exact xw0
  | els h3 h4 h5 h6 h7 h8 h9 h10 =>
   have e := ok2 (by rw [hd, if_neg h7, if_neg h8, if_neg h9, if_neg h10])
   refine xw1 ?_
   intros
   exact nxt (k + 1) ⟨by omega, e⟩ (by omega) ak rfl
 ·rw [pM fun j hj => hk2 j (by omega)]
  exact xw0
end
section
open Go Go.RowKit
theorem tA {t : Int} {l : List Pr} (h : bO valN l 0 = -1) : ki t l = t := by unfold ki; rw [h, if_pos (.inl (by decide))]
theorem ql {t : Int} {l : List Pr} {k : Nat} (h : bO valN l 0 = (k : Int)) (h2 : (l.getD k Pr.z).vs.length = 0) : ki t l = t := by unfold ki; rw [h, Int.toNat_natCast, if_pos (.inr h2)]
theorem tB {t : Int} {l : List Pr} {k : Nat} (h : bO valN l 0 = (k : Int)) (h2 : (l.getD k Pr.z).vs.length ≠ 0) : ki t l = tyL t (ap 65 90 32 ((l.getD k Pr.z).vs.getD 0 [])) := by unfold ki; rw [h, Int.toNat_natCast, if_neg (by rintro (h | h); omega; exact h2 h)]
attribute [local irreducible] AWp AOps aa az OrOk ad ah
attribute [local irreducible] ap bO ba
theorem wD {G : Glo} (hS : SpIs G) (v : Int) (s : List UInt8) (l : List Pr) (hs : s.length ≤ 1000000) (hl : l.length ≤ 9223372036854775807) (hn : ∀ k, (l.getD k Pr.z).n.length ≤ 9223372036854775807) (hv : ∀ k, (l.getD k Pr.z).vs.length ≤ 9223372036854775807 ∧ ((l.getD k Pr.z).vs.getD 0 []).length ≤ 9223372036854775807) :
  FnIs Tryz.prog G 55 [.str s, .list 2 l.length (prF l), .int .i64 v] (.tuple [.int .i64 (eQ v s l), (verE v).A]) := by
 have h1 := kE (G := G) hS v s hs
 have h2 : FnIs Tryz.prog G 54 [.list 2 l.length (prF l), .str [86, 65, 76, 85, 69]] (.int .i64 (bO valN l 0)) := oh (G := G) l valN hl hn (by decide)
 by_cases hver : v = 3 ∨ v = 4
 ·have e2 : verE v = .none := by unfold verE; rw [if_pos hver]
  have e3 : eQ v s l = ki (ba v s).t l := by unfold eQ; rw [if_pos hver]
  rw [e2] at h1 ⊢
  rw [e3]
  generalize ba v s = r at *
  simp only [Err.A, errA] at h1 ⊢
  rcases iJ valN l 0 with hf | ⟨k, hk, hf⟩
  ·rw [tA hf]
   rw [hf] at h2
   have hGL : ad G [] := ab
   refine fn_x Tryz.func55 Tryz.call55 rfl rfl rfl rfl hGL ?_
   intro C hC
   refine xw ?_
   repeat' (first | exact Le.n | refine Lc.mk ?_ ?_)
   all_goals intros
   all_goals intros
   all_goals first
    | (apply al; rfl)
    | (exfalso; omega)
  ·rw [Nat.zero_add] at hf
   rw [hf] at h2
   by_cases h0 : (l.getD k Pr.z).vs.length = 0
   ·rw [ql hf h0]
    have hGL : ad G [] := ab
    refine fn_x Tryz.func55 Tryz.call55 rfl rfl rfl rfl hGL ?_
    intro C hC
    refine xw ?_
    repeat' (first | exact Le.n | refine Lc.mk ?_ ?_)
    all_goals intros
    all_goals intros
    all_goals first
     | (apply al; rfl)
     | (exfalso; omega)
     | trace_state
   ·rw [tB hf h0]
    have h3 := wX (G := G) ((l.getD k Pr.z).vs.getD 0 []) (by have := (hv k).2; omega)
    have h3 : FnIs Tryz.prog G 102 [aG (l.getD k Pr.z).vs 0] _ := h3
    generalize ap 65 90 32 ((l.getD k Pr.z).vs.getD 0 []) = x at *
    have hGL : ad G [] := ab
    refine fn_x Tryz.func55 Tryz.call55 rfl rfl rfl rfl hGL ?_
    intro C hC
    refine xw ?_
    repeat' (first | exact Le.n | refine Lc.mk ?_ ?_)
    all_goals intros
    all_goals intros
    all_goals try (exfalso; omega)
    all_goals
     apply al
     refine congrArg (fun z => AVal.tuple [.int .i64 z, .raw .nilIface]) (Eq.symm ?_)
     clear h1 h2 h3 hn hv hf hC hGL
     unfold tyL
     simp [*]
 ·have e2 : verE v = .errno 1 := by unfold verE; rw [if_neg hver]
  have e3 : eQ v s l = 0 := by unfold eQ; rw [if_neg hver]
  rw [e2] at h1 ⊢
  rw [e3]
  simp only [Err.A, errA] at h1 ⊢
  have hGL : ad G [] := ab
  refine fn_x Tryz.func55 Tryz.call55 rfl rfl rfl rfl hGL ?_
  intro C hC
  refine xw ?_
  repeat' (first | exact Le.n | refine Lc.mk ?_ ?_)
  all_goals intros
  all_goals intros
  all_goals first
   | (apply al; rfl)
   | (exfalso; omega)
theorem B4 {G : Glo} (v : Int) (s : List UInt8) (l : List Pr) (hs : s.length ≤ 1000000) (hl : l.length ≤ 9223372036854775807) (hn : ∀ k, (l.getD k Pr.z).n.length ≤ 9223372036854775807) (hv : ∀ k, (l.getD k Pr.z).vs.length ≤ 9223372036854775807 ∧ ((l.getD k Pr.z).vs.getD 0 []).length ≤ 9223372036854775807) :
  FnIs Tryz.prog G 46 [.str s, .list 2 l.length (prF l), .int .i64 v] (.tuple [.int .i64 (eQ v s l), .int .i64 (verE v).e]) := by
 have h1 := kM (G := G) v s hs
 have h2 : FnIs Tryz.prog G 85 [.list 2 l.length (prF l), .str [86, 65, 76, 85, 69]] (.int .i64 (bO valN l 0)) := B8 (G := G) l valN hl hn (by decide)
 by_cases hver : v = 3 ∨ v = 4
 ·have e2 : verE v = .none := by unfold verE; rw [if_pos hver]
  have e3 : eQ v s l = ki (ba v s).t l := by unfold eQ; rw [if_pos hver]
  rw [e2] at h1 ⊢
  rw [e3]
  generalize ba v s = r at *
  simp only [Err.e] at h1 ⊢
  rcases iJ valN l 0 with hf | ⟨k, hk, hf⟩
  ·rw [tA hf]
   rw [hf] at h2
   have hGL : ad G [] := ab
   refine fn_x Tryz.func46 Tryz.call46 rfl rfl rfl rfl hGL ?_
   intro C hC
   refine xw ?_
   repeat' (first | exact Le.n | refine Lc.mk ?_ ?_)
   all_goals intros
   all_goals intros
   all_goals first
    | (apply al; rfl)
    | (exfalso; omega)
  ·rw [Nat.zero_add] at hf
   rw [hf] at h2
   by_cases h0 : (l.getD k Pr.z).vs.length = 0
   ·rw [ql hf h0]
    have hGL : ad G [] := ab
    refine fn_x Tryz.func46 Tryz.call46 rfl rfl rfl rfl hGL ?_
    intro C hC
    refine xw ?_
    repeat' (first | exact Le.n | refine Lc.mk ?_ ?_)
    all_goals intros
    all_goals intros
    all_goals first
     | (apply al; rfl)
     | (exfalso; omega)
   ·rw [tB hf h0]
    have h3 := lW (G := G) ((l.getD k Pr.z).vs.getD 0 []) (by have := (hv k).2; omega)
    have h3 : FnIs Tryz.prog G 67 [aG (l.getD k Pr.z).vs 0] _ := h3
    generalize ap 65 90 32 ((l.getD k Pr.z).vs.getD 0 []) = x at *
    have hGL : ad G [] := ab
    refine fn_x Tryz.func46 Tryz.call46 rfl rfl rfl rfl hGL ?_
    intro C hC
    refine xn ?_
    repeat' (first | exact Le.n | refine Lc.mk ?_ ?_)
    all_goals intros
    all_goals intros
    all_goals try (exfalso; omega)
    all_goals
     apply al
     refine congrArg (fun z => AVal.tuple [.int .i64 z, .int .i64 0]) (Eq.symm ?_)
     clear h1 h2 h3 hn hv hf hC hGL
     unfold tyL
     simp [*]
 ·have e2 : verE v = .errno 1 := by unfold verE; rw [if_neg hver]
  have e3 : eQ v s l = 0 := by unfold eQ; rw [if_neg hver]
  rw [e2] at h1 ⊢
  rw [e3]
  simp only [Err.e] at h1 ⊢
  have hGL : ad G [] := ab
  refine fn_x Tryz.func46 Tryz.call46 rfl rfl rfl rfl hGL ?_
  intro C hC
  refine xw ?_
  repeat' (first | exact Le.n | refine Lc.mk ?_ ?_)
  all_goals intros
  all_goals intros
  all_goals first
   | (apply al; rfl)
   | (exfalso; omega)
end
section
open Go Go.RowKit
theorem gB {P : Program} [Tab P] {G : Glo} {f : FuncId} {avs : List AVal} {b : Nat} {eT : Option TypeId} {cs cs' : List AVal} {v : AVal}
  (hrun : ∀ R w Cs e fz args, w.heap[b]? = some (.cells Cs e fz) → RelL R cs Cs.toList → ij fz Cs.size → RelV R avs args.toList → ∃ x w' Cs', (callFunc f args).run P w = .ok (.value x) w' ∧ Rel R v x ∧ OneBlk w b (.cells Cs' e fz) w' ∧ RelL R cs' Cs'.toList ∧ Cs'.size = Cs.size) :
  ah P G f avs [.cells b eT cs] (fun r H => r = .ret v ∧ H = [.cells b eT cs']) := by
 intro R w args hG hm ha
 obtain ⟨Cs, e, fz, hb, hl, hfz, het⟩ := hm.heap.holds _ (List.mem_cons_self ..)
 obtain ⟨x, w', Cs', h1, h2, h3, h4, h5⟩ := hrun R w Cs e fz args hb hl hfz ha
 refine .inr ⟨x, w', h1, .ret v, [.cells b eT cs'], R, ⟨rfl, rfl⟩, ⟨x, rfl, h2⟩, ?_⟩
 exact hm.write (i := 0) rfl rfl h3 rfl ⟨Cs', e, fz, h3.at_, h4, by rw [h5]; exact hfz, het⟩
theorem uB {w : World} {b : Nat} {o : Obj} (h : w.heap[b]? = some o) : OneBlk w b o w := ⟨rfl, rfl, rfl, rfl, h, fun _ _ => rfl⟩
theorem jZ {w : World} {b off e : Nat} {Cs : Array Value} {fz : Nat × Nat} {v : Value} (h : w.heap[b]? = some (.cells Cs e fz)) (ho : off < Cs.size) : OneBlk w b (.cells (Cs.setIfInBounds off v) e fz) (w.setCell ⟨b, off, none⟩ v) := by
 have hlt : b < w.heap.size := by
  rcases Nat.lt_or_ge b w.heap.size with h1 | h1
  ·exact h1
  ·simp [Array.getElem?_eq_none h1] at h
 refine ⟨rfl, rfl, rfl, by simp [World.setCell], ?_, fun k hk => ?_⟩
 ·simp only [World.setCell, Array.getElem?_modify, if_true, h, Option.map_some, Option.isSome_none, Bool.false_eq_true, if_false]
 ·simp only [World.setCell, Array.getElem?_modify]
  rw [if_neg (fun e => hk e.symm)]
theorem kK {R : Seal} {a : AVal} {v : Value} (ha : RelC R a [v]) : ∀ {cs : List AVal} {vs : List Value} {p : Nat}, RelL R cs vs → p < cs.length → RelL R (cs.set p a) (vs.set p v)
 | [], _, _, _, h => absurd h (Nat.not_lt_zero _)
 | c :: cs, _, 0, ⟨u, t, rfl, h1, h2⟩, _ => ⟨v, t, rfl, ha, h2⟩
 | c :: cs, _, p + 1, ⟨u, t, rfl, h1, h2⟩, hp => ⟨u, _, rfl, h1, kK ha h2 (by simpa using hp)⟩
theorem arg1 {R : Seal} {v : Value} {args : Array Value} (h : RelV R [.raw v] args.toList) : args = #[v] := by
 obtain ⟨x, t, e, hx, rfl⟩ := h
 obtain rfl := ar.1 (show Rel R (.raw v) x from hx)
 exact Array.ext' e
theorem arg2 {R : Seal} {v : Value} {k : IntKind} {n : Int} {args : Array Value} (h : RelV R [.raw v, .int k n] args.toList) : args = #[v, .int k n] := by
 obtain ⟨x, t, e, hx, y, t2, rfl, hy, rfl⟩ := h
 obtain rfl := ar.1 (show Rel R (.raw v) x from hx)
 obtain rfl := aq.1 (show Rel R (.int k n) y from hy)
 exact Array.ext' e
theorem arg3 {R : Seal} {v : Value} {k k2 : IntKind} {n m : Int} {args : Array Value} (h : RelV R [.raw v, .int k n, .int k2 m] args.toList) : args = #[v, .int k n, .int k2 m] := by
 obtain ⟨x, t, e, hx, y, t2, rfl, hy, z, t3, rfl, hz, rfl⟩ := h
 obtain rfl := ar.1 (show Rel R (.raw v) x from hx)
 obtain rfl := aq.1 (show Rel R (.int k n) y from hy)
 obtain rfl := aq.1 (show Rel R (.int k2 m) z from hz)
 exact Array.ext' e
section
variable {G : Glo} {b off : Nat} {eT : Option TypeId} {cs : List AVal}
abbrev pv (b off : Nat) : Value := .pointer (some ⟨b, off, none⟩)
theorem ll {R : Seal} {w : World} {Cs : Array Value} {e : Nat} {fz : Nat × Nat} {k : IntKind} {n : Int} (hb : w.heap[b]? = some (.cells Cs e fz)) (hl : RelL R cs Cs.toList) (hc : cs[off]? = some (.int k n)) : w.cell? ⟨b, off, none⟩ = some (.int k n) ∧ off < Cs.size := by
 obtain ⟨v, hv, hr⟩ := bX hl hc
 simp only [RelC, List.cons.injEq, and_true] at hr
 subst hr
 refine ⟨by simp only [World.cell?, hb]; simpa using hv, ?_⟩
 have := (List.getElem?_eq_some_iff.1 hv).1
 simpa using this
theorem j3 {w : World} {Cs : Array Value} {e : Nat} {fz : Nat × Nat} (hb : w.heap[b]? = some (.cells Cs e fz)) (hfz : ij fz Cs.size) (ho : off < Cs.size) : w.frozen? ⟨b, off, none⟩ = false := by
 obtain ⟨lo, hi⟩ := fz
 simp only [World.frozen?, hb, ij] at hfz ⊢
 simp
 omega
theorem Fb {n : Int} (hc : cs[off]? = some (.int .u32 n)) : ah Tryz.prog G 210 [.raw (pv b off)] [.cells b eT cs] (fun r H => r = .ret (.int .u32 n) ∧ H = [.cells b eT cs]) := by
 refine gB fun R w Cs e fz args hb hl hfz ha => ?_
 obtain rfl := arg1 ha
 obtain ⟨h1, _⟩ := ll hb hl hc
 exact ⟨_, _, Cs, run_call_load Tryz.func210 (by kernel_rfl) (by kernel_rfl) (by kernel_rfl) .u32 (by kernel_rfl) h1, aq.2 rfl, uB hb, hl, rfl⟩
theorem DH {n y : Int} (hc : cs[off]? = some (.int .u32 n)) : ah Tryz.prog G 225 [.raw (pv b off), .int .u32 y] [.cells b eT cs] (fun r H => r = .ret (.tuple []) ∧ H = [.cells b eT (cs.set off (.int .u32 y))]) := by
 refine gB fun R w Cs e fz args hb hl hfz ha => ?_
 obtain rfl := arg2 ha
 obtain ⟨h1, ho⟩ := ll hb hl hc
 have hlen := aA hl
 rw [Array.length_toList] at hlen
 refine ⟨_, _, Cs.setIfInBounds off (.int .u32 y), run_call_store Tryz.func225 (by kernel_rfl) (by kernel_rfl) (by kernel_rfl) (by kernel_rfl) h1 (j3 hb hfz ho), ⟨⟨#[], rfl, rfl⟩, rfl⟩, jZ hb ho, ?_, by simp⟩
 rw [Array.toList_setIfInBounds]
 exact kK (show RelC R (.int .u32 y) [.int .u32 y] from rfl) hl (by omega)
theorem GM {n y : Int} (hc : cs[off]? = some (.int .i32 n)) : ah Tryz.prog G 233 [.raw (pv b off), .int .i32 n, .int .i32 y] [.cells b eT cs] (fun r H => r = .ret (.bool true) ∧ H = [.cells b eT (cs.set off (.int .i32 y))]) := by
 refine gB fun R w Cs e fz args hb hl hfz ha => ?_
 obtain rfl := arg3 ha
 obtain ⟨h1, ho⟩ := ll hb hl hc
 have hlen := aA hl
 rw [Array.length_toList] at hlen
 refine ⟨_, _, Cs.setIfInBounds off (.int .i32 y), run_call_cas_hit Tryz.func233 (by kernel_rfl) (by kernel_rfl) (by kernel_rfl) .i32 (by kernel_rfl) h1 (j3 hb hfz ho), aE.2 rfl, jZ hb ho, ?_, by simp⟩
 rw [Array.toList_setIfInBounds]
 exact kK (show RelC R (.int .i32 y) [.int .i32 y] from rfl) hl (by omega)
theorem GK (hc : cs[off]? = some (.int .i32 1)) : ah Tryz.prog G 238 [.raw (pv b off), .int .i32 (-1)] [.cells b eT cs] (fun r H => r = .ret (.int .i32 0) ∧ H = [.cells b eT (cs.set off (.int .i32 0))]) := by
 refine gB fun R w Cs e fz args hb hl hfz ha => ?_
 obtain rfl := arg2 ha
 obtain ⟨h1, ho⟩ := ll hb hl hc
 have hlen := aA hl
 rw [Array.length_toList] at hlen
 refine ⟨_, _, Cs.setIfInBounds off (.int .i32 0), run_call_add Tryz.func238 (by kernel_rfl) (by kernel_rfl) (by kernel_rfl) .i32 (by kernel_rfl) (s := 0) h1 (j3 hb hfz ho) (by simp [go_sem]; rfl), aq.2 rfl, jZ hb ho, ?_, by simp⟩
 rw [Array.toList_setIfInBounds]
 exact kK (show RelC R (.int .i32 0) [.int .i32 0] from rfl) hl (by omega)
end
end
section
open Go Go.RowKit
theorem gk {P : Program} [Tab P] {G : Glo} {GL : List (Nat × List AVal)} {n : Nat} {H : Heap} {v : Value} (i : Nat) {f : FuncId} {fn : Func} {c : Code} {avs : List AVal} {Qf : ARes → Heap → Prop} {rs : List ResultVar} (hf : P.funcs[f]? = some fn)
  (hc : ∀ args w, (callFunc f args).run P w = .ok (.enter f args) w) (hb : fn.body = some c) (hn : fn.ntmps = n) (hrs : fn.results = rs.toArray) (hlen : Nat.ble (AVal.raw v :: avs).length n = true) (hGL : ad G GL) (hv : vAgg v = false)
  (h : ∀ C : Ctx, C.G = G → dB P C n G GL c ((0, .own i v) :: cY 0 (.raw v :: avs)) H (RetX P rs Qf)) : ah P G f (.raw v :: avs) H Qf :=
 k8 hf hb hc hn hrs hlen fun w0 R0 hG => (uy (C := ⟨w0, R0, blks H, G, hG, []⟩) (k := 0) i rfl hGL hv rfl (h ⟨w0, R0, blks H, G, hG, []⟩ rfl)).mono fun _ _ _ q => fK q
section
variable {P : Program} [Tab P] {C : Ctx} {n : Nat} {env : Env} {H : Heap} {G : Glo} {x : Operand} {S T u : TypeId} {xS xT xu : TI}
theorem BT {i j b off : Nat} {eT : Option TypeId} {cs : List AVal} {a : AVal} (hx : ai env x = some (.own i (pv b off))) (hj : H[j]? = some (.cells b eT cs)) (hc : cs[off]? = some a) (h1 : tab P S = some xS) (h2 : xS.desc = .pointer u) (h3 : tab P T = some xT) (h4 : xT.desc = .unsafePointer) (h5 : tab P u = some xu) (h6 : Nat.ble 1 xu.size = true) :
  RunV P C H env (.convert S T x) (.raw (pv b off)) := by
 intro R ρ w hm hf dst t p af g
 obtain ⟨Cs, el, fz, hb, hl, _⟩ := eN hm hj
 obtain ⟨v, hv, _⟩ := bX hl hc
 have hcell : w.cell? ⟨b, off, none⟩ = some v := by simp only [World.cell?, hb]; simpa using hv
 obtain ⟨iu, hiu, his, _⟩ := dh h5
 have h6 := Nat.le_of_ble_eq_true h6
 have hr := run_convert_to_unsafe (P := P) (src := S) (dst := T) (by rw [a6 h1, h2]) (by rw [a6 h3, h4]) (by rw [hiu]; simp [his]; omega) hcell
 exact ⟨_, by simp only [execOp, (aJ.1 (hf _ _ hx)).1, Sem.run_bind, hr, Result.andThen_ok, Sem.run_pure], ar.2 rfl⟩
end
section
variable {G : Glo}
theorem qN {f : FuncId} (h : ∀ w, (callFunc f #[]).run Tryz.prog w = .ok (.value (.tuple #[])) w) : FnIs Tryz.prog G f [] (.tuple []) := by
 intro R w args hG hm ha
 have e : args = #[] := by
  have : args.toList = [] := ha
  exact Array.ext' this
 subst e
 exact .inr ⟨_, w, h w, _, [], R, ⟨rfl, rfl⟩, ⟨_, rfl, ⟨#[], rfl, rfl⟩, rfl⟩, hm⟩
theorem mO {f : FuncId} {a : Addr} (h : ∀ w, (callFunc f #[.pointer (some a)]).run Tryz.prog w = .ok (.value (.tuple #[])) w) : FnIs Tryz.prog G f [.raw (.pointer (some a))] (.tuple []) := by
 intro R w args hG hm ha
 obtain rfl := arg1 ha
 exact .inr ⟨_, w, h w, _, [], R, ⟨rfl, rfl⟩, ⟨_, rfl, ⟨#[], rfl, rfl⟩, rfl⟩, hm⟩
theorem gd : FnIs Tryz.prog G 232 [] (.tuple []) := qN fun w => run_call_mark0 Tryz.func232 (by kernel_rfl) (by kernel_rfl) (by kernel_rfl) .disable (by kernel_rfl) w
theorem jb : FnIs Tryz.prog G 234 [] (.tuple []) := qN fun w => run_call_mark0 Tryz.func234 (by kernel_rfl) (by kernel_rfl) (by kernel_rfl) .enable (by kernel_rfl) w
theorem oy (a : Addr) : FnIs Tryz.prog G 235 [.raw (.pointer (some a))] (.tuple []) := mO fun w => run_call_marked Tryz.func235 (by kernel_rfl) (by kernel_rfl) (by kernel_rfl) .acquire (by kernel_rfl) a w
theorem ox (a : Addr) : FnIs Tryz.prog G 237 [.raw (.pointer (some a))] (.tuple []) := mO fun w => run_call_marked Tryz.func237 (by kernel_rfl) (by kernel_rfl) (by kernel_rfl) .releaseMerge (by kernel_rfl) a w
attribute [local irreducible] AWp AOps aa az OrOk ad ah
theorem CM {b off : Nat} {eT : Option TypeId} {cs : List AVal} (hc : cs[off]? = some (.int .i32 0)) : ah Tryz.prog G 223 [.raw (pv b off)] [.cells b eT cs] (fun r H => r = .ret (.tuple []) ∧ H = [.cells b eT (cs.set off (.int .i32 1))]) := by
 have hGL : ad G [] := ab
 have e1 := GM (G := G) (b := b) (eT := eT) (y := 1) hc
 have hlt := (List.getElem?_eq_some_iff.1 hc).1
 refine gk 0 Tryz.func223 Tryz.call223 rfl rfl rfl rfl hGL rfl ?_
 intro C hC
 repeat' (first | (conv => whnf); first | refine .w ?_ | refine .v ?_ | refine sc_c ?_ ?_ <;> (intro hb; try exact dd hb) | apply ae | apply an | (apply sc_i <;> intro hb) | (apply bx_i; intro hbd) | (apply aj; first | exact gd | exact jb | exact e1) | (apply am (i := 0) rfl; first | exact gd | exact jb | exact e1) | (apply ab_i; intro bl) | (apply as_i; intro va vk vc hva) | (apply av_i; intro v) | (apply ac_i; intro bl cap hcap) | apply bo_l | (apply nx_i <;> intro hnx) | exact rt_w | apply dw_q mixed hC hGL (by kernel_rfl) | (apply cq; assumption; (first | exact gd | exact jb | exact e1); exact rfl))
 all_goals try conv => whnf
 refine aI hC hGL (BT (j := 0) rfl rfl (List.getElem?_set_self hlt) rfl rfl rfl rfl rfl rfl) rfl rfl ?_
 repeat' (first | (conv => whnf); first | refine .w ?_ | refine .v ?_ | refine sc_c ?_ ?_ <;> (intro hb; try exact dd hb) | apply ae | apply an | (apply sc_i <;> intro hb) | (apply bx_i; intro hbd) | (apply aj; first | exact oy _) | (apply am (i := 0) rfl; first | exact oy _) | (apply ab_i; intro bl) | (apply as_i; intro va vk vc hva) | (apply av_i; intro v) | (apply ac_i; intro bl cap hcap) | apply bo_l | (apply nx_i <;> intro hnx) | exact rt_w | apply dw_q mixed hC hGL (by kernel_rfl) | (apply cq; assumption; (first | exact oy _); exact rfl))
 all_goals try conv => whnf
theorem xl {b off : Nat} {eT : Option TypeId} {cs : List AVal} (hc : cs[off]? = some (.int .i32 1)) : ah Tryz.prog G 224 [.raw (pv b off)] [.cells b eT cs] (fun r H => r = .ret (.tuple []) ∧ H = [.cells b eT (cs.set off (.int .i32 0))]) := by
 have hGL : ad G [] := ab
 have e1 := GK (G := G) (b := b) (eT := eT) hc
 refine gk 0 Tryz.func224 Tryz.call224 rfl rfl rfl rfl hGL rfl ?_
 intro C hC
 refine xw1 ?_
 intros
 erw [hc]
 refine xw1 ?_
 intros
 refine aI hC hGL (BT (j := 0) rfl rfl hc rfl rfl rfl rfl rfl rfl) rfl rfl ?_
 repeat' (first | (conv => whnf); first | refine .w ?_ | refine .v ?_ | refine sc_c ?_ ?_ <;> (intro hb; try exact dd hb) | apply ae | apply an | (apply sc_i <;> intro hb) | (apply bx_i; intro hbd) | (apply aj; first | exact ox _ | exact gd | exact jb | exact e1) | (apply am (i := 0) rfl; first | exact ox _ | exact gd | exact jb | exact e1) | (apply ab_i; intro bl) | (apply as_i; intro va vk vc hva) | (apply av_i; intro v) | (apply ac_i; intro bl cap hcap) | apply bo_l | (apply nx_i <;> intro hnx) | exact rt_w | apply dw_q mixed hC hGL (by kernel_rfl) | (apply cq; assumption; (first | exact ox _ | exact gd | exact jb | exact e1); exact rfl))
 all_goals try conv => whnf
theorem lock {b off : Nat} {eT : Option TypeId} {cs : List AVal} (hc : cs[off]? = some (.int .i32 0)) : ah Tryz.prog G 211 [.raw (pv b off)] [.cells b eT cs] (fun r H => r = .ret (.tuple []) ∧ H = [.cells b eT (cs.set off (.int .i32 1))]) := by
 have hGL : ad G [] := ab
 have e1 := CM (G := G) (b := b) (eT := eT) hc
 refine gk 0 Tryz.func211 Tryz.call211 rfl rfl rfl rfl hGL rfl ?_
 intro C hC
 exact xw0
theorem FJ {b off : Nat} {eT : Option TypeId} {cs : List AVal} (hc : cs[off]? = some (.int .i32 1)) (m : AMode) : fL Tryz.prog G 212 [.own 0 (pv b off)] m [.cells b eT cs] (fun r m' H => m' = m ∧ r = .ret (.tuple []) ∧ H = [.cells b eT (cs.set off (.int .i32 0))]) := by
 have hGL : ad G [] := ab
 have e1 := xl (G := G) (b := b) (eT := eT) hc
 refine zp (rs := []) (GL := []) Tryz.func212 rfl rfl rfl rfl hGL ?_
 intro C hC
 exact xw0
theorem rn {b off : Nat} {eT : Option TypeId} {cs : List AVal} {n : Int} (hc : cs[off]? = some (.int .u32 n)) : ah Tryz.prog G 187 [.raw (pv b off)] [.cells b eT cs] (fun r H => r = .ret (.bool (!eqB n 0)) ∧ H = [.cells b eT cs]) := by
 have hGL : ad G [] := ab
 have e1 := Fb (G := G) (b := b) (eT := eT) hc
 refine gk 0 Tryz.func187 Tryz.call187 rfl rfl rfl rfl hGL rfl ?_
 intro C hC
 exact xw0
theorem vN : FnIs Tryz.prog G 226 [.bool true] (.int .u32 1) := by
 have hGL : ad G [] := ab
 refine fn_x Tryz.func226 Tryz.call226 rfl rfl rfl rfl hGL ?_
 intro C hC
 exact xw0
theorem yi {b off : Nat} {eT : Option TypeId} {cs : List AVal} {n : Int} (hc : cs[off]? = some (.int .u32 n)) (m : AMode) : fL Tryz.prog G 213 [.own 0 (pv b off), .bool true] m [.cells b eT cs] (fun r m' H => m' = m ∧ r = .ret (.tuple []) ∧ H = [.cells b eT (cs.set off (.int .u32 1))]) := by
 have hGL : ad G [] := ab
 have e1 := DH (G := G) (b := b) (eT := eT) (y := 1) hc
 refine zp (rs := []) (GL := []) Tryz.func213 rfl rfl rfl rfl hGL ?_
 intro C hC
 refine xn1 ?_
 intros
 refine dw_p mixed hC hGL false (fun (_ : Unit) => []) (fun _ => [.cells b eT (cs.set off (.int .u32 1))]) (.take 0 (.take 1 (.take 2 (.take 3 (.br 4 (.br 5 (.done) (.nil)) (.nil)))))) (by kernel_rfl) ?_ ?_
 ·repeat' (first | (conv => whnf); first | refine .w ?_ | refine .v ?_ | refine sc_c ?_ ?_ <;> (intro hb; try exact dd hb) | apply ae | apply an | (apply sc_i <;> intro hb) | (apply bx_i; intro hbd) | (apply aj; first | exact e1 | exact vN) | (apply am (i := 0) rfl; first | exact e1 | exact vN) | (apply ab_i; intro bl) | (apply as_i; intro va vk vc hva) | (apply av_i; intro v) | (apply ac_i; intro bl cap hcap) | apply bo_l | (apply nx_i <;> intro hnx) | exact rt_w | exact True.intro | (apply bc_i; intro C hC) | apply bt_i | apply og_n | (apply og_a; exact rfl))
  all_goals try conv => whnf
  all_goals exact ⟨(), trivial, rfl⟩
 ·intro _
  exact xn0
end
end
section
open Go Go.RowKit
theorem E6 {P : Program} {C : Ctx} {n : Nat} {c : Code} {env : Env} {H : Heap} {Q : List Deferred → AExit → Env → Heap → Prop} {k : Nat} (i : Nat) {v : Value} (hv : vAgg v = false) (hk : Env.get env k = some (.raw v)) (h : AWpD P C n c ((k, .own i v) :: env) H Q) : AWpD P C n c env H Q :=
 fun R a w hm hf => h R a w hm (o9 hv hk hf)
theorem sW {P : Program} [Tab P] {G : Glo} {f : FuncId} {avs : List AVal} {H H' : Heap} {v : AVal} {K Kp : AVal → Heap → Prop} (hs : ah P G f avs H (fun r H2 => r = .ret v ∧ H2 = H')) (k : K v H') : Cx P G f avs H K Kp := by
 refine ⟨_, hs, ?_, ?_⟩
 ·rintro v' H2 ⟨e, rfl⟩; cases e; exact k
 ·rintro v' H2 ⟨e, rfl⟩; cases e
attribute [local irreducible] AWp AOps aa az OrOk ad ah
attribute [local irreducible] fL Lv AWpD To
theorem Ao {G : Glo} {b off fid : Nat} {eT : Option TypeId} {cs : List AVal} {T : Heap} {Y : Type} {cs2 : Y → List AVal} {T2 : Y → Heap} {l1 l2 : List AVal} (h0 : cs[off]? = some (.int .u32 0)) (h1 : cs[off + 1]? = some (.int .i32 0)) (k0 : ∀ y, (cs2 y)[off]? = some (.int .u32 0)) (k1 : ∀ y, (cs2 y)[off + 1]? = some (.int .i32 1))
  (hf : ah Tryz.prog G fid (dD (l1 ++ ([] ++ l2))) (.cells b eT (cs.set (off + 1) (.int .i32 1)) :: T) (fun r H => ∃ y, r = .ret (.tuple []) ∧ H = .cells b eT (cs2 y) :: T2 y)) :
  ah Tryz.prog G 188 [.raw (pv b off), .func (.func fid) l1 l2] (.cells b eT cs :: T) (fun r H => ∃ y, r = .ret (.tuple []) ∧ H = .cells b eT (((cs2 y).set off (.int .u32 1)).set (off + 1) (.int .i32 0)) :: T2 y) := by
 have hGL : ad G [] := ab
 have e1 := lock (G := G) (b := b) (eT := eT) h1
 have h0' : (cs.set (off + 1) (.int .i32 1))[off]? = some (.int .u32 0) := by rw [List.getElem?_set_ne (by omega)]; exact h0
 have e2 := rn (G := G) (b := b) (eT := eT) h0'
 refine fn_d (rs := []) Tryz.func188 Tryz.call188 rfl rfl rfl rfl ?_
 intro C hC hD
 refine E6 (k := 0) (v := pv b off) 0 rfl rfl ?_
 refine gU (iT hC hGL ?_)
 repeat' (first | (conv => whnf); first | refine .w ?_ | refine .v ?_ | refine sc_c ?_ ?_ <;> (intro hb; try exact dd hb) | apply ae | apply an | (apply sc_i <;> intro hb) | (apply bx_i; intro hbd) | (apply aj; first | exact e1) | (apply am (i := 0) rfl; first | exact e1) | (apply ab_i; intro bl) | (apply as_i; intro va vk vc hva) | (apply av_i; intro v) | (apply ac_i; intro bl cap hcap) | apply bo_l | (apply nx_i <;> intro hnx) | exact rt_w | apply dw_q mixed hC hGL (by kernel_rfl) | (apply cq; assumption; (first | exact e1); exact rfl))
 all_goals try conv => whnf
 rw [aP]
 repeat' (first | (conv => whnf); first | refine .w ?_ | refine .v ?_ | refine sc_c ?_ ?_ <;> (intro hb; try exact dd hb) | apply ae | apply an | (apply sc_i <;> intro hb) | (apply bx_i; intro hbd) | (apply aj; first | fail) | (apply am (i := 0) rfl; first | fail) | (apply ab_i; intro bl) | (apply as_i; intro va vk vc hva) | (apply av_i; intro v) | (apply ac_i; intro bl cap hcap) | apply bo_l | (apply nx_i <;> intro hnx) | exact rt_w | apply dw_q mixed hC hGL (by kernel_rfl) | (apply cq; assumption; (first | fail); exact rfl))
 all_goals try conv => whnf
 refine gU (rt hC hGL rfl ?_)
 repeat' (first | (conv => whnf); first | refine .w ?_ | refine .v ?_ | refine sc_c ?_ ?_ <;> (intro hb; try exact dd hb) | apply ae | apply an | (apply sc_i <;> intro hb) | (apply bx_i; intro hbd) | (apply aj; first | fail) | (apply am (i := 0) rfl; first | fail) | (apply ab_i; intro bl) | (apply as_i; intro va vk vc hva) | (apply av_i; intro v) | (apply ac_i; intro bl cap hcap) | apply bo_l | (apply nx_i <;> intro hnx) | exact rt_w | apply dw_q mixed hC hGL (by kernel_rfl) | (apply cq; assumption; (first | fail); exact rfl))
 all_goals try conv => whnf
 refine ⟨_, rfl, ?_⟩
 refine (fun (h : ∀ C2 : Ctx, C2.G = G → C2.D = [{ target := .fn (.func 212) #[], args := #[pv b (off + 1)] }] → AWpD Tryz.prog C2 _ _ _ _ _) => h (withD C ({ target := .fn (.func 212) #[], args := #[pv b (off + 1)] } :: C.D)) hC (by show _ :: C.D = _; rw [hD])) ?_
 clear hC hD C
 intro C hC hD
 refine gU (iT hC hGL ?_)
 repeat' (first | (conv => whnf); first | refine .w ?_ | refine .v ?_ | refine sc_c ?_ ?_ <;> (intro hb; try exact dd hb) | apply ae | apply an | (apply sc_i <;> intro hb) | (apply bx_i; intro hbd) | (apply aj; first | exact e2) | (apply am (i := 0) rfl; first | exact e2) | (apply ab_i; intro bl) | (apply as_i; intro va vk vc hva) | (apply av_i; intro v) | (apply ac_i; intro bl cap hcap) | apply bo_l | (apply nx_i <;> intro hnx) | exact rt_w | apply dw_q mixed hC hGL (by kernel_rfl) | (apply cq; assumption; (first | exact e2); exact rfl))
 all_goals try conv => whnf
 rw [aP]
 repeat' (first | (conv => whnf); first | refine .w ?_ | refine .v ?_ | refine sc_c ?_ ?_ <;> (intro hb; try exact dd hb) | apply ae | apply an | (apply sc_i <;> intro hb) | (apply bx_i; intro hbd) | (apply aj; first | exact e2) | (apply am (i := 0) rfl; first | exact e2) | (apply ab_i; intro bl) | (apply as_i; intro va vk vc hva) | (apply av_i; intro v) | (apply ac_i; intro bl cap hcap) | apply bo_l | (apply nx_i <;> intro hnx) | exact rt_w | apply dw_q mixed hC hGL (by kernel_rfl) | (apply cq; assumption; (first | exact e2); exact rfl))
 all_goals try conv => whnf
 refine DE rfl (fun _ => ?_) (fun hb => absurd hb (by simp [eqB]))
 refine gU (rt hC hGL rfl ?_)
 repeat' (first | (conv => whnf); first | refine .w ?_ | refine .v ?_ | refine sc_c ?_ ?_ <;> (intro hb; try exact dd hb) | apply ae | apply an | (apply sc_i <;> intro hb) | (apply bx_i; intro hbd) | (apply aj; first | fail) | (apply am (i := 0) rfl; first | fail) | (apply ab_i; intro bl) | (apply as_i; intro va vk vc hva) | (apply av_i; intro v) | (apply ac_i; intro bl cap hcap) | apply bo_l | (apply nx_i <;> intro hnx) | exact rt_w | apply dw_q mixed hC hGL (by kernel_rfl) | (apply cq; assumption; (first | fail); exact rfl))
 all_goals try conv => whnf
 refine ⟨_, rfl, ?_⟩
 refine iT (P := Tryz.prog) (C := withD C ({ target := .fn (.func 213) #[], args := #[pv b off, .bool true] } :: C.D)) (G := G) hC hGL ?_
 repeat' (first | (conv => whnf); first | refine .w ?_ | refine .v ?_ | refine sc_c ?_ ?_ <;> (intro hb; try exact dd hb) | apply ae | apply an | (apply sc_i <;> intro hb) | (apply bx_i; intro hbd) | (apply aj; first | fail) | (apply am (i := 0) rfl; first | fail) | (apply ab_i; intro bl) | (apply as_i; intro va vk vc hva) | (apply av_i; intro v) | (apply ac_i; intro bl cap hcap) | apply bo_l | (apply nx_i <;> intro hnx) | exact rt_w | apply dw_q mixed hC hGL (by kernel_rfl) | (apply cq; assumption; (first | fail); exact rfl))
 all_goals try conv => whnf
 rw [bC]
 refine ⟨_, hf, ?_, fun v' H2 ⟨y, e, _⟩ => by cases e⟩
 rintro v' H2 ⟨y, e, rfl⟩
 cases e
 show Lv Tryz.prog _ _ _ _ ({ target := .fn (.func 213) #[], args := #[pv b off, .bool true] } :: C.D) _ _ _
 rw [hD]
 refine yY (C7 (T2 y) (yi (k0 y) .ret)) (fun R => ⟨_, _, rfl, aJ.2 ⟨rfl, rfl⟩, _, _, rfl, aE.2 rfl, rfl⟩) Tryz.call213 ?_
 have k1' : ((cs2 y).set off (.int .u32 1))[off + 1]? = some (.int .i32 1) := by rw [List.getElem?_set_ne (by omega)]; exact k1 y
 refine yY (C7 (T2 y) (FJ k1' .ret)) (fun R => ⟨_, _, rfl, aJ.2 ⟨rfl, rfl⟩, rfl⟩) Tryz.call212 ?_
 refine Gj (P := Tryz.prog) ?_
 exact ⟨_, List.Sublist.refl _, y, rfl, rfl⟩
theorem yU {G : Glo} {b off fid : Nat} {eT : Option TypeId} {cs : List AVal} {T : Heap} {Y : Type} {cs2 : Y → List AVal} {T2 : Y → Heap} {l1 l2 : List AVal} (h0 : cs[off]? = some (.int .u32 0)) (h1 : cs[off + 1]? = some (.int .i32 0)) (k0 : ∀ y, (cs2 y)[off]? = some (.int .u32 0)) (k1 : ∀ y, (cs2 y)[off + 1]? = some (.int .i32 1))
  (hl1 : dD l1 = l1) (hl2 : dD l2 = l2)
  (hf : ah Tryz.prog G fid (dD (l1 ++ ([] ++ l2))) (.cells b eT (cs.set (off + 1) (.int .i32 1)) :: T) (fun r H => ∃ y, r = .ret (.tuple []) ∧ H = .cells b eT (cs2 y) :: T2 y)) :
  ah Tryz.prog G 157 [.raw (pv b off), .func (.func fid) l1 l2] (.cells b eT cs :: T) (fun r H => ∃ y, r = .ret (.tuple []) ∧ H = .cells b eT (((cs2 y).set off (.int .u32 1)).set (off + 1) (.int .i32 0)) :: T2 y) := by
 have hGL : ad G [] := ab
 have e1 := rn (G := G) (b := b) (eT := eT) h0
 have e2 := Ao h0 h1 k0 k1 hf
 refine gk 0 Tryz.func157 Tryz.call157 rfl rfl rfl rfl hGL rfl ?_
 intro C hC
 repeat' (first | (conv => whnf); first | refine .w ?_ | refine .v ?_ | refine sc_c ?_ ?_ <;> (intro hb; try exact dd hb) | apply ae | apply an | (apply sc_i <;> intro hb) | (apply bx_i; intro hbd) | (apply aj; first | exact e1) | (apply am (i := 0) rfl; first | exact e1) | (apply ab_i; intro bl) | (apply as_i; intro va vk vc hva) | (apply av_i; intro v) | (apply ac_i; intro bl cap hcap) | apply bo_l | (apply nx_i <;> intro hnx) | exact rt_w | apply dw_q mixed hC hGL (by kernel_rfl) | (apply cq; assumption; (first | exact e1); exact rfl))
 all_goals try conv => whnf
 rw [aP]
 repeat' (first | (conv => whnf); first | refine .w ?_ | refine .v ?_ | refine sc_c ?_ ?_ <;> (intro hb; try exact dd hb) | apply ae | apply an | (apply sc_i <;> intro hb) | (apply bx_i; intro hbd) | (apply aj; first | exact e1) | (apply am (i := 0) rfl; first | exact e1) | (apply ab_i; intro bl) | (apply as_i; intro va vk vc hva) | (apply av_i; intro v) | (apply ac_i; intro bl cap hcap) | apply bo_l | (apply nx_i <;> intro hnx) | exact rt_w | apply dw_q mixed hC hGL (by kernel_rfl) | (apply cq; assumption; (first | exact e1); exact rfl))
 all_goals try conv => whnf
 rw [show fY (.func (.func fid) l1 l2) = .func (.func fid) l1 l2 by simp [fY, hl1, hl2]]
 refine ⟨_, e2, ?_, fun v' H2 ⟨y, e, _⟩ => by cases e⟩
 rintro v' H2 ⟨y, e, rfl⟩
 cases e
 exact ⟨_, List.Sublist.refl _, y, rfl, rfl⟩
end
section
open Go Go.RowKit
theorem CB (v : Value) (n : Nat) : (madeCells #[v] n).toList = List.replicate n v := by
 unfold madeCells
 refine List.ext_getElem (by simp) (fun i h1 h2 => ?_)
 simp [Nat.mod_one]
section
variable {P : Program} [Tab P] {C : Ctx} {n : Nat} {env : Env} {H : Heap} {Q : AExit → Env → Heap → Prop} {ops : Array Oper} {rest : List Oper} {G : Glo} {GL : List (Nat × List AVal)}
variable {d : Nat} {t : TypeId} {p : String} {af : Array Edge} {g : Option (Nat × Bool)} {b : Bool}
variable {x y : Operand} {T e : TypeId} {xT xe : TI}
theorem mH {ρ : Operand → Value} {w w' : World} {a c u : Value} (ha : ρ x = a) (hc : ρ y = c) (hr : (Instr.makeSlice T a c).run P w = .ok u w') :
  (execOp ρ { dst := some d, op := .makeSlice T x y, type := t, pos := p, after := af, guard := g }).run P w = .ok (.value u) w' := by
 simp only [execOp, ha, hc, Sem.run_bind, hr, Result.andThen_ok, Sem.run_pure]
theorem dF {k1 k2 : IntKind} {m : Nat} (hC : C.G = G) (hGL : ad G GL) (hx : ai env x = some (.int k1 (m : Int))) (hy : ai env y = some (.int k2 (m : Int))) (hm0 : m ≤ 1000000000000) (ht : tab P T = some xT) (hd : xT.desc = .slice e) (he : tab P e = some xe) (hz : xe.zero = some (.int .u8 0)) (hs : xe.size = 1) (hb : xe.bytes = 1)
  (hg : aF ops env g = some (b, b)) (hdn : Nat.ble (d + 1) n = true)
  (k : ∀ bl, opsX P C n G GL ops Q rest ((d, .own H.length (.slice (some ⟨bl, 0, none⟩) m m)) :: env) (H ++ [.buf bl (List.replicate m 0) m])) :
  Op1 P C n ops ({ dst := some d, op := .makeSlice T x y, type := t, pos := p, after := af, guard := g } :: rest) env H Q := by
 refine ⟨cS (X := Nat) (av := fun bl => .raw (.slice (some ⟨bl, 0, none⟩) m m)) (H' := fun bl => .buf bl (List.replicate m 0) m :: H) hg rfl hdn (fun R ρ w hm hf => ?_)
  (fun bl => gX (cH (i := H.length) rfl (cw hC hGL _ _ _ (k bl))))⟩
 obtain ⟨i, hi, his, hib, hiz, _⟩ := dh he
 have hr := run_make (P := P) w T e i (.int .u8 0) (by rw [a6 ht, hd]) hi (by rw [hiz, hz]) k1 k2 (m : Int) (m : Int) (by omega) (by omega) (by rw [hib, hb]; omega) (by omega)
 simp only [Int.toNat_natCast] at hr
 have hrun := mH (d := d) (t := t) (p := p) (af := af) (g := g) (aq.1 (hf _ _ hx)) (aq.1 (hf _ _ hy)) hr
 refine ⟨w.heap.size, _, _, R, hrun, Seal.le_refl R, ar.2 rfl, ?_⟩
 ·rw [gO]
  refine hm.alloc _ _ rfl ⟨by simp, _, _, _, cL w _, ?_, .inl (Nat.le_refl _)⟩
  rw [his, hs, Nat.mul_one, show (Value.int .u8 0).cells = #[.int .u8 0] from rfl, CB]
  have : ownB (List.replicate m 0) m = List.replicate m (.int .u8 0) := by simp [ownB, byteA]
  rw [this]
  exact eW (show RelC R (.int .u8 0) [.int .u8 0] from rfl) _
theorem qG {k1 k2 : IntKind} {m : Nat} (hC : C.G = G) (hGL : ad G GL) (hx : ai env x = some (.int k1 0)) (hy : ai env y = some (.int k2 (m : Int))) (hm0 : m ≤ 1000000000) (ht : tab P T = some xT) (hd : xT.desc = .slice e) (he : tab P e = some xe) {z : Value} (hz : xe.zero = some z) (hb : Nat.ble xe.bytes 1024 = true)
  (hg : aF ops env g = some (b, b)) (hdn : Nat.ble (d + 1) n = true)
  (k : ∀ bl, opsX P C n G GL ops Q rest ((d, .own H.length (.slice (some ⟨bl, 0, none⟩) 0 m)) :: env) (H ++ [.row (.slice (some ⟨bl, 0, none⟩) 0 m) (some e) xe.size 0 []])) :
  Op1 P C n ops ({ dst := some d, op := .makeSlice T x y, type := t, pos := p, after := af, guard := g } :: rest) env H Q := by
 refine ⟨cS (X := Nat) (av := fun bl => .raw (.slice (some ⟨bl, 0, none⟩) 0 m)) (H' := fun bl => .row (.slice (some ⟨bl, 0, none⟩) 0 m) (some e) xe.size 0 [] :: H) hg rfl hdn (fun R ρ w hm hf => ?_)
  (fun bl => gX (cH (i := H.length) rfl (cw hC hGL _ _ _ (k bl))))⟩
 obtain ⟨i, hi, his, hib, hiz, _⟩ := dh he
 have hb := Nat.le_of_ble_eq_true hb
 have hmul : xe.bytes * m ≤ 1024 * 1000000000 := Nat.mul_le_mul hb hm0
 have hr := run_make (P := P) w T e i z (by rw [a6 ht, hd]) hi (by rw [hiz, hz]) k1 k2 0 (m : Int) (by omega) (by omega) (by rw [hib, ← Int.natCast_mul]; omega) (by omega)
 simp only [Int.toNat_natCast, Int.toNat_zero] at hr
 have hrun := mH (d := d) (t := t) (p := p) (af := af) (g := g) (aq.1 (hf _ _ hx)) (aq.1 (hf _ _ hy)) hr
 refine ⟨w.heap.size, _, _, R, hrun, Seal.le_refl R, ar.2 rfl, ?_⟩
 ·rw [gO]
  refine hm.alloc _ _ rfl ⟨by simp, .inr ⟨_, _, _, _, _, rfl, cL w _, ?_, Nat.zero_le _, ?_, .inl (Nat.le_refl _), fun t ht => by cases ht; rfl⟩⟩
  ·rw [size_madeCells, his]
  ·simp [RelL]
end
end
section
open Go Go.RowKit
section
variable {P : Program} [Tab P] {C : Ctx} {n : Nat} {env : Env} {H : Heap} {Q : AExit → Env → Heap → Prop} {ops : Array Oper} {rest : List Oper} {G : Glo} {GL : List (Nat × List AVal)}
variable {d : Nat} {t : TypeId} {p : String} {af : Array Edge} {g : Option (Nat × Bool)} {b : Bool}
variable {x y : Operand} {T T2 e : TypeId} {xT xe : TI}
theorem Cf {s s2 : List UInt8} {cap o : Nat} (ho : o + s2.length ≤ s.length) (hc : s.length ≤ cap) :
  ownB (s.take o ++ s2 ++ s.drop (o + s2.length)) cap = (ownB s cap).take o ++ s2.map byteA ++ (ownB s cap).drop (o + s2.length) := by
 have e : (s.take o ++ s2 ++ s.drop (o + s2.length)).length = s.length := by
  simp only [List.length_append, List.length_take, List.length_drop]; omega
 unfold ownB
 rw [e, List.map_append, List.map_append, List.map_take, List.map_drop]
 rw [List.take_append_of_le_length (by simp; omega), List.drop_append_of_le_length (by simp; omega), ← List.append_assoc]
theorem tZ {ρ : Operand → Value} {ty : TypeId} {w w' : World} {a c u : Value} (ha : ρ x = a) (hc : ρ y = c) (hr : (Builtin.copy_ #[T, T2] t #[a, c]).run P w = .ok u w') :
  (execOp ρ { dst := some d, op := .call { callee := .builtin .copy, args := #[x, y], argTypes := #[T, T2] }, type := t, pos := p, after := af, guard := g }).run P w = .ok (.value u) w' := by
 simp only [execOp, resolve, Sem.run_bind, Sem.run_pure, Result.andThen_ok, invoke, List.map_toArray, List.map_cons, List.map_nil, ha, hc]
 simp only [builtin, Sem.run_bind, hr, Result.andThen_ok, Sem.run_pure]
theorem aK {i j bl o l c b2 c2 cap cap2 : Nat} {s s2 : List UInt8} (hC : C.G = G) (hGL : ad G GL) (hx : ai env x = some (.own i (.slice (some ⟨bl, o, none⟩) l c))) (hy : ai env y = some (.own j (.slice (some ⟨b2, 0, none⟩) s2.length c2)))
  (hi : H[i]? = some (.buf bl s cap)) (hj : H[j]? = some (.buf b2 s2 cap2)) (ho : o + s2.length ≤ s.length) (hl : s2.length ≤ l) (ht : tab P T = some xT) (hd : xT.desc = .slice e) (he : tab P e = some xe) (hs : xe.size = 1)
  (hg : aF ops env g = some (b, b)) (hdn : Nat.ble (d + 1) n = true)
  (k : opsX P C n G GL ops Q rest ((d, .int .i64 s2.length) :: env) (H.set i (.buf bl (s.take o ++ s2 ++ s.drop (o + s2.length)) cap))) :
  Op1 P C n ops ({ dst := some d, op := .call { callee := .builtin .copy, args := #[x, y], argTypes := #[T, T2] }, type := t, pos := p, after := af, guard := g } :: rest) env H Q := by
 refine ⟨mB hg rfl hdn (av := .int .i64 s2.length) (H' := H.set i (.buf bl (s.take o ++ s2 ++ s.drop (o + s2.length)) cap)) (fun R ρ w hm hf => ?_) (cw hC hGL _ _ _ k)⟩
 obtain ⟨hcap, Cs, e1, fz, hb, hrel, hfz⟩ := hm.heap.holds _ (List.mem_of_getElem? hi)
 obtain ⟨hcap2, Cs2, e2, fz2, hb2, hrel2, hfz2⟩ := hm.heap.holds _ (List.mem_of_getElem? hj)
 have hlen := aA hrel
 have hown : (ownB s cap).length = cap := by simp [ownB]; omega
 rw [hown, Array.length_toList] at hlen
 obtain ⟨ti, hti, his, _, _, _⟩ := dh he
 have hn1 : (s2.map fun c => Value.int .u8 (c.toNat : Int)).length = s2.length := by simp
 have hone : ∀ v ∈ s2.map (fun c => Value.int .u8 (c.toNat : Int)), v.oneCell' = true := by
  intro v hv
  obtain ⟨c, _, rfl⟩ := List.mem_map.1 hv
  rfl
 have hcell : ∀ j, j < (s2.map fun c => Value.int .u8 (c.toNat : Int)).length → (w.cell? ⟨bl, o + j, none⟩).isSome = true := by
  intro j hj
  rw [hn1] at hj
  simp only [World.cell?, hb]
  simp
  omega
 have hfro : ∀ j, j < (s2.map fun c => Value.int .u8 (c.toNat : Int)).length → w.frozen? ⟨bl, o + j, none⟩ = false := by
  intro j hj
  rw [hn1] at hj
  obtain ⟨lo, hi'⟩ := fz
  simp only [World.frozen?, hb, ij] at hfz ⊢
  simp
  omega
 have hsrc : ∀ j v, (s2.map fun c => Value.int .u8 (c.toNat : Int))[j]? = some v → w.cell? ((⟨b2, 0, none⟩ : Addr).add j) = some v := by
  intro j v hv
  have hj2 : j < s2.length := by
   have := (List.getElem?_eq_some_iff.1 hv).1
   simpa using this
  rw [List.getElem?_map, List.getElem?_eq_getElem hj2] at hv
  simp only [Option.map_some, Option.some.injEq] at hv
  have hg2 : (ownB s2 cap2)[j]? = some (byteA s2[j]) := by
   unfold ownB
   rw [List.getElem?_append_left (by simpa using hj2), List.getElem?_map, List.getElem?_eq_getElem hj2]
   rfl
  obtain ⟨u, hu, hr⟩ := bX hrel2 hg2
  simp only [byteA, RelC, List.cons.injEq, and_true] at hr
  subst hr
  subst hv
  have hadd : (⟨b2, 0, none⟩ : Addr).add j = ⟨b2, j, none⟩ := by
   simp only [Addr.add]
   by_cases h0 : j = 0
   ·simp [h0]
   ·simp [h0]
  rw [hadd]
  simp only [World.cell?, hb2]
  simpa using hu
 have hr := run_copy_cells (P := P) w T T2 t e bl o l c ⟨b2, 0, none⟩ s2.length c2 _ (by rw [a6 ht, hd]) (by rw [hti]; simp [his, hs]) (by rw [hn1]; exact (Nat.min_eq_left hl).symm) hsrc hcell hfro hone
 have hrun := tZ (ty := t) (d := d) (p := p) (af := af) (g := g) (aJ.1 (hf _ _ hx)).1 (aJ.1 (hf _ _ hy)).1 hr
 obtain ⟨w', hw', ho'⟩ := cd (P := P) (s2.map fun c => Value.int .u8 (c.toNat : Int)) o 0 Cs w hb (by rw [hn1]; omega) hfz (fun u hu => by
  obtain ⟨c, _, rfl⟩ := List.mem_map.1 hu
  exact ⟨rfl, fun a h => by cases h⟩)
 have hst := run_storeCells_cells (P := P) bl o (s2.map fun c => Value.int .u8 (c.toNat : Int)) 0 w (by simpa using hcell) (by simpa using hfro) hone
 rw [hst] at hw'
 simp only [Result.ok.injEq, true_and] at hw'
 simp only [Nat.add_zero] at hw' ho'
 refine ⟨_, _, R, hrun, Seal.le_refl R, ?_, ?_⟩
 ·rw [hn1]; exact aq.2 rfl
 ·rw [hw']
  refine hm.write hi rfl ho' rfl ⟨?_, _, _, _, ho'.at_, ?_, ?_⟩
  ·simp only [List.length_append, List.length_take, List.length_drop]; omega
  ·rw [Cf ho hcap, hn1]
   exact aZ (aZ (bB _ hrel) (jW R s2)) (bQ _ hrel)
  ·have : ((Cs.toList.take o ++ (s2.map fun c => Value.int .u8 (c.toNat : Int)) ++ Cs.toList.drop (o + (s2.map fun c => Value.int .u8 (c.toNat : Int)).length)).toArray).size = Cs.size := by
    simp only [List.size_toArray, List.length_append, List.length_take, List.length_drop, Array.length_toList, hn1]; omega
   rw [this]
   exact hfz
theorem aH {i bl l c o : Nat} {k0 : IntKind} (hC : C.G = G) (hGL : ad G GL) (hx : ai env x = some (.own i (.slice (some ⟨bl, 0, none⟩) l c))) (hy : ai env y = some (.int k0 (o : Int))) (ho : o ≤ l) (hoc : o < c) (ht : tab P T = some xT) (hd : xT.desc = .slice e) (he : tab P e = some xe) (hs : xe.size = 1)
  (hg : aF ops env g = some (b, b)) (hdn : Nat.ble (d + 1) n = true)
  (k : opsX P C n G GL ops Q rest ((d, .own i (.slice (some ⟨bl, o, none⟩) (l - o) (c - o))) :: env) H) :
  Op1 P C n ops ({ dst := some d, op := .slice T x (some y) none none, type := t, pos := p, after := af, guard := g } :: rest) env H Q := by
 refine ⟨mB hg rfl hdn (av := .own i (.slice (some ⟨bl, o, none⟩) (l - o) (c - o))) (H' := H) (fun R ρ w hm hf => ?_) (cw hC hGL _ _ _ k)⟩
 have hel : P.elem T = e := by simp [Program.elem, a6 ht, hd]
 have hr := run_slice_l (P := P) w T (some ⟨bl, 0, none⟩) l c (by rw [a6 ht, hd, hel]) k0 (o : Int) (by omega) (by omega)
 have hsz := aB he w
 refine ⟨.slice (some ⟨bl, o, none⟩) (l - o) (c - o), w, R, ?_, Seal.le_refl R, aJ.2 ⟨rfl, rfl⟩, hm⟩
 simp only [execOp, (aJ.1 (hf _ _ hx)).1, Option.map_some, Option.map_none, aq.1 (hf _ _ hy), Sem.run_bind, run_sliceAt_slice w T _ _ _ _ (show P.underlying T = some (.slice (P.elem T)) by rw [a6 ht, hd, hel]), hr, hel, hsz, Result.andThen_ok, Sem.run_pure]
 simp only [sliced, Int.toNat_natCast]
 rw [if_neg (by omega)]
 simp [hs, Addr.add]
 by_cases h0 : o = 0
 ·simp [h0]
 ·simp [h0]
end
end
section
open Go Go.RowKit
attribute [local irreducible] AWp AOps az OrOk ad ah
attribute [local irreducible] fL Lv AWpD To
def eF (u : Value) : List AVal := [.int .u32 0, .int .i32 0, .int .u32 0, .raw .nilIface, .own 0 u]
theorem ni {G : Glo} (m : Nat) (f : Nat → AVal) (hm : m ≤ 1000) (h2 : m % 2 = 0) (hs : az 1 m f) : ah Tryz.prog G 113 [.list 1 m f] [] (fun r H => ∃ bl va vk vc, RowV m va vk ∧ r = .ret (.own 1 (pv bl 0)) ∧ H = [.row (.slice va vk vc) none 1 m (cg m f), .cells bl (some 214) (eF (.slice va vk vc))]) := by
 have hGL : ad G [] := ab
 refine fn_x Tryz.func113 Tryz.call113 rfl rfl rfl rfl hGL ?_
 intro C hC
 repeat' (first | (conv => whnf); first | refine .w ?_ | refine .v ?_ | refine sc_c ?_ ?_ <;> (intro hb; try exact dd hb) | apply ae | apply an | (apply sc_i <;> intro hb) | (apply bx_i; intro hbd) | (apply aj; first | fail) | (apply am (i := 0) rfl; first | fail) | (apply ab_i; intro bl) | (apply as_i; intro va vk vc hva) | (apply av_i; intro v) | (apply ac_i; intro bl cap hcap) | apply bo_r | (apply nx_i <;> intro hnx) | exact rt_w | exact True.intro | (apply bc_i; intro C hC) | apply bt_i | apply og_n | (apply og_a; exact rfl))
 all_goals try conv => whnf
 exact ⟨_, List.Sublist.refl _, bl, va, vk, vc, hva, rfl, rfl⟩
def tabC (i j k : Nat) (a b c t : AVal) : List AVal := (((List.replicate 256 (.raw (.slice none 0 0))).set i a).set j b).set k c ++ [t]
theorem AW {G : Glo} (br bl vc : Nat) : ah Tryz.prog G 189 [.raw (pv bl 0)] [.row (.slice (some ⟨br, 0, none⟩) 6 vc) none 1 6 [.str [94], .str [94, 94], .str [10], .str [94, 110], .str [34], .str [94, 39]], .cells bl (some 214) ((eF (.slice (some ⟨br, 0, none⟩) 6 vc)).set 1 (.int .i32 1))]
  (fun r H => ∃ va vk vt bz b1 c1 b2 c2 b3 c3, RowV 3 va vk ∧ r = .ret (.iface 294 (.own 3 (pv bz 0))) ∧ H = [.row (.slice (some ⟨br, 0, none⟩) 6 vc) none 1 6 [.str [94], .str [94, 94], .str [10], .str [94, 110], .str [34], .str [94, 39]], .cells bl (some 214) ((eF (.slice (some ⟨br, 0, none⟩) 6 vc)).set 1 (.int .i32 1)),
   .row (.slice va vk vt) (some 9) 1 3 [.str [34], .str [10], .str [94]], .cells bz (some 293) (tabC 34 10 94 (.own 4 (.slice (some ⟨b1, 0, none⟩) 2 c1)) (.own 5 (.slice (some ⟨b2, 0, none⟩) 2 c2)) (.own 6 (.slice (some ⟨b3, 0, none⟩) 2 c3)) (.own 2 (.slice va vk vt))), .buf b1 [94, 39] c1, .buf b2 [94, 110] c2, .buf b3 [94, 94] c3]) := by
 have hGL : ad G [] := ab
 unfold eF
 refine gk 1 Tryz.func189 Tryz.call189 rfl rfl rfl rfl hGL rfl ?_
 intro C hC
 refine xn1 ?_
 intros
 have c0 : ([.str [94], .str [94, 94], .str [10], .str [94, 110], .str [34], .str [94, 39]] : List AVal)[0]? = some (.str [94]) := rfl
 have r0 : cm (.slice (some ⟨br, 0, none⟩) 6 vc) br 6 ∧ 0 < 6 * 1 := ⟨⟨_, rfl⟩, by decide⟩
 have c1 : ([.str [94], .str [94, 94], .str [10], .str [94, 110], .str [34], .str [94, 39]] : List AVal)[1]? = some (.str [94, 94]) := rfl
 have r1 : cm (.slice (some ⟨br, 0, none⟩) 6 vc) br 6 ∧ 1 < 6 * 1 := ⟨⟨_, rfl⟩, by decide⟩
 have c2 : ([.str [94], .str [94, 94], .str [10], .str [94, 110], .str [34], .str [94, 39]] : List AVal)[2]? = some (.str [10]) := rfl
 have r2 : cm (.slice (some ⟨br, 0, none⟩) 6 vc) br 6 ∧ 2 < 6 * 1 := ⟨⟨_, rfl⟩, by decide⟩
 have c3 : ([.str [94], .str [94, 94], .str [10], .str [94, 110], .str [34], .str [94, 39]] : List AVal)[3]? = some (.str [94, 110]) := rfl
 have r3 : cm (.slice (some ⟨br, 0, none⟩) 6 vc) br 6 ∧ 3 < 6 * 1 := ⟨⟨_, rfl⟩, by decide⟩
 have c4 : ([.str [94], .str [94, 94], .str [10], .str [94, 110], .str [34], .str [94, 39]] : List AVal)[4]? = some (.str [34]) := rfl
 have r4 : cm (.slice (some ⟨br, 0, none⟩) 6 vc) br 6 ∧ 4 < 6 * 1 := ⟨⟨_, rfl⟩, by decide⟩
 have c5 : ([.str [94], .str [94, 94], .str [10], .str [94, 110], .str [34], .str [94, 39]] : List AVal)[5]? = some (.str [94, 39]) := rfl
 have r5 : cm (.slice (some ⟨br, 0, none⟩) 6 vc) br 6 ∧ 5 < 6 * 1 := ⟨⟨_, rfl⟩, by decide⟩
 refine rds hC hGL 4 ?_
 refine xn1 ?_
 intros
 refine qG (m := 3) hC hGL rfl rfl (by omega) rfl rfl rfl rfl rfl rfl rfl (fun bt => ?_)
 refine xn1 ?_
 intros
 refine rds hC hGL 4 ?_
 refine xn1 ?_
 intros
 refine aI hC hGL (bp [34] rfl (by intro v hv; simp only [List.mem_cons, List.not_mem_nil, or_false] at hv; omega) rfl rfl rfl rfl rfl rfl) rfl rfl ?_
 refine xn1 ?_
 intros
 refine aI hC hGL (bp [10] rfl (by intro v hv; simp only [List.mem_cons, List.not_mem_nil, or_false] at hv; omega) rfl rfl rfl rfl rfl rfl) rfl rfl ?_
 refine xn1 ?_
 intros
 refine aI hC hGL (bp [94] rfl (by intro v hv; simp only [List.mem_cons, List.not_mem_nil, or_false] at hv; omega) rfl rfl rfl rfl rfl rfl) rfl rfl ?_
 refine xn1 ?_
 intros
 exact ⟨_, List.Sublist.refl _, _, _, _, _, _, _, _, _, _, _, by assumption, rfl, rfl⟩
end
section
open Go Go.RowKit
attribute [local irreducible] AWp AOps aa az OrOk ad ah
abbrev encH (br bl vc : Nat) (cs : List AVal) (va : Option Addr) (vk vt bz b1 c1 b2 c2 b3 c3 : Nat) : Heap := [.row (.slice (some ⟨br, 0, none⟩) 6 vc) none 1 6 [.str [94], .str [94, 94], .str [10], .str [94, 110], .str [34], .str [94, 39]], .cells bl (some 214) cs,
   .row (.slice va vk vt) (some 9) 1 3 [.str [34], .str [10], .str [94]], .cells bz (some 293) (tabC 34 10 94 (.own 4 (.slice (some ⟨b1, 0, none⟩) 2 c1)) (.own 5 (.slice (some ⟨b2, 0, none⟩) 2 c2)) (.own 6 (.slice (some ⟨b3, 0, none⟩) 2 c3)) (.own 2 (.slice va vk vt))), .buf b1 [94, 39] c1, .buf b2 [94, 110] c2, .buf b3 [94, 94] c3]
attribute [local irreducible] tabC
theorem yh {G : Glo} (br bl vc : Nat) : ah Tryz.prog G 158 [.raw (pv bl 0)] [.row (.slice (some ⟨br, 0, none⟩) 6 vc) none 1 6 [.str [94], .str [94, 94], .str [10], .str [94, 110], .str [34], .str [94, 39]], .cells bl (some 214) ((eF (.slice (some ⟨br, 0, none⟩) 6 vc)).set 1 (.int .i32 1))]
  (fun r H => ∃ va vk vt bz b1 c1 b2 c2 b3 c3, RowV 3 va vk ∧ r = .ret (.tuple []) ∧ H = encH br bl vc [.int .u32 0, .int .i32 1, .int .u32 0, .iface 294 (.own 3 (pv bz 0)), .raw (.slice none 0 0)] va vk vt bz b1 c1 b2 c2 b3 c3) := by
 have hGL : ad G [] := ab
 have e1 := AW (G := G) br bl vc
 unfold eF at *
 refine gk 1 Tryz.func158 Tryz.call158 rfl rfl rfl rfl hGL rfl ?_
 intro C hC
 refine xn1 ?_
 intros
 refine ⟨_, e1, ?_, ?_⟩
 ·rintro v' H2 ⟨va, vk, vt, bz, b1, c1, b2, c2, b3, c3, hva, e, rfl⟩
  cases e
  refine xn1 ?_
  intros
  exact ⟨_, List.Sublist.refl _, va, vk, vt, bz, b1, c1, b2, c2, b3, c3, hva, rfl, rfl⟩
 ·rintro v' H2 ⟨va, vk, vt, bz, b1, c1, b2, c2, b3, c3, hva, e, rfl⟩
  cases e
end
section
open Go Go.RowKit
theorem eG {s : List UInt8} {j : Nat} (h : j < s.length) : aa s j = s[j].toNat := by
 simp [aa, List.getD, h]
def encF (c : UInt8) : List UInt8 := if c = 94 then [94, 94] else if c = 10 then [94, 110] else if c = 34 then [94, 39] else [c]
def encS (s : List UInt8) : List UInt8 := s.flatMap encF
theorem sP : encF 94 = [94, 94] := rfl
theorem sR : encF 10 = [94, 110] := rfl
theorem sQ : encF 34 = [94, 39] := rfl
theorem lf {c : UInt8} (h1 : c.toNat ≠ 94) (h2 : c.toNat ≠ 10) (h3 : c.toNat ≠ 34) : encF c = [c] := by
 unfold encF
 rw [if_neg (by rintro rfl; exact h1 rfl), if_neg (by rintro rfl; exact h2 rfl), if_neg (by rintro rfl; exact h3 rfl)]
theorem fi : encS [] = [] := rfl
theorem ju (c : UInt8) (s : List UInt8) : encS (c :: s) = encF c ++ encS s := rfl
theorem pk (s t : List UInt8) : encS (s ++ t) = encS s ++ encS t := by simp [encS]
theorem vu (c : UInt8) : 1 ≤ (encF c).length ∧ (encF c).length ≤ 2 := by
 unfold encF
 (repeat' split) <;> simp
theorem fj (s : List UInt8) : s.length ≤ (encS s).length ∧ (encS s).length ≤ 2 * s.length := by
 induction s with
 | nil => exact ⟨Nat.le_refl _, Nat.le_refl _⟩
 | cons c t ih =>
  have := vu c
  rw [ju, List.length_append, List.length_cons]
  omega
def nC (N : Nat) (v : AVal) (i j k : Nat) (a b c t : AVal) : List AVal := (((List.replicate N v).set i a).set j b).set k c ++ [t]
theorem vF (N : Nat) (v : AVal) (i j k : Nat) (a b c t : AVal) : (nC N v i j k a b c t)[N]? = some t := by
 unfold nC
 rw [List.getElem?_append_right (by simp)]
 simp
theorem vE {N : Nat} {v : AVal} {i j k n : Nat} {a b c t : AVal} (hn : n < N) : (nC N v i j k a b c t)[n]? = some (if n = k then c else if n = j then b else if n = i then a else v) := by
 unfold nC
 rw [List.getElem?_append_left (by simpa using hn)]
 by_cases h1 : n = k
 ·subst h1; rw [List.getElem?_set_self (by simpa using hn), if_pos rfl]
 ·rw [if_neg h1, List.getElem?_set_ne (Ne.symm h1)]
  by_cases h2 : n = j
  ·subst h2; rw [List.getElem?_set_self (by simpa using hn), if_pos rfl]
  ·rw [if_neg h2, List.getElem?_set_ne (Ne.symm h2)]
   by_cases h3 : n = i
   ·subst h3; rw [List.getElem?_set_self (by simpa using hn), if_pos rfl]
   ·rw [if_neg h3, List.getElem?_set_ne (Ne.symm h3)]
    simp [hn]
theorem BG (i j k : Nat) (a b c t : AVal) : (tabC i j k a b c t)[256]? = some t := vF 256 _ i j k a b c t
theorem BF {i j k n : Nat} {a b c t : AVal} (hn : n < 256) : (tabC i j k a b c t)[n]? = some (if n = k then c else if n = j then b else if n = i then a else .raw (.slice none 0 0)) := vE (N := 256) hn
end
end Go.Proofs.YtahebkecmlmlfaaGreatDoor
