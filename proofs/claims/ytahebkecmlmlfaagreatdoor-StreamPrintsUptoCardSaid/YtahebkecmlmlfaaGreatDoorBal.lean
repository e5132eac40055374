/- Parts of the proof of prints_root: Lna, Dc, Rf, Hdb, Lnk, Cno, Idt, Ia, Rqe, Lnd, Lnf, Wid, Vlb, Eqa, Vlc, Wha, Whb, Vld. -/
import GoSem.PinnedTables
import Derived.Laws.StructEq
import Derived.Test.YtahebkecmlmlfaaGreatDoorBaj
import Derived.Test.YtahebkecmlmlfaaGreatDoorBai
import Derived.Test.YtahebkecmlmlfaaGreatDoorBae
import Derived.Test.YtahebkecmlmlfaaGreatDoorBad
import Derived.Test.YtahebkecmlmlfaaGreatDoorBah
import Derived.Test.YtahebkecmlmlfaaGreatDoorBak
set_option linter.unusedVariables false
set_option linter.unusedSimpArgs false
set_option linter.unusedSectionVars false
namespace Go.Proofs.YtahebkecmlmlfaaGreatDoor
set_option maxRecDepth 20000
set_option maxHeartbeats 4000000
section
open Go Go.RowKit
def eIf (c : Bool) (s : List UInt8) : List UInt8 := if c then encS s else s
def mayV (c : Bool) (s : List UInt8) : Bool := hdB false (eIf c s) && decide (idxB (eIf c s) 34 < 0)
def prE (c : Bool) (q : Pr) : Int := if isS q.n = false then 5 else if q.vs.length = 0 then 8 else if q.vs.all (mayV c) then 0 else 3
def firE (c : Bool) : List Pr → Nat → Err
 | [], _ => .none
 | q :: l, i => if prE c q = 0 then firE c l (i + 1) else .at (prE c q) i
def Ln.E (c : Bool) (p : Ln) : Err := if isS p.n = false ∨ (p.g.length ≠ 0 ∧ isS p.g = false) then .errno 5
 else if 20 < p.ps.length then .errno 4
 else match firE c p.ps 0 with
  | .none => if hdB false p.v then .none else .errno 3
  | x => x
def quoC (c : Int) : Bool := decide (c = 44 ∨ c = 59 ∨ c = 58)
def quoS (c : Bool) (s : List UInt8) : List UInt8 := if fstB quoC (eIf c s) < 0 then eIf c s else 34 :: eIf c s ++ [34]
def prT (c : Bool) (q : Pr) : List UInt8 := 59 :: q.n ++ [61] ++ Lib.join (q.vs.map (quoS c)) [44]
def hdT (p : Ln) : List UInt8 := if p.g.length = 0 then p.n else p.g ++ [46] ++ p.n
def Ln.txt (c : Bool) (p : Ln) : List UInt8 := hdT p ++ p.ps.flatMap (prT c) ++ [58] ++ p.v
def Ln.T (c : Bool) (p : Ln) : List UInt8 := match p.E c with
 | .none => p.txt c
 | _ => []
theorem mr {c : Bool} : ∀ {l : List Pr} (i k : Nat), (∀ j, j < k → j < l.length → prE c (l.getD j Pr.z) = 0) → (k < l.length → prE c (l.getD k Pr.z) ≠ 0) → firE c l i = if k < l.length then .at (prE c (l.getD k Pr.z)) ((i + k : Nat) : Int) else .none
 | [], i, k, _, _ => by simp [firE]
 | q :: l, i, 0, _, h => by
  have h := h (by simp)
  rw [if_pos (by simp)]
  simp only [firE]
  rw [if_neg (by simpa using h)]
  simp
 | q :: l, i, k + 1, h1, h2 => by
  have h0 : prE c q = 0 := by simpa using h1 0 (by omega) (by simp)
  simp only [firE]
  rw [if_pos h0, mr (i + 1) k (fun j hj hl => by simpa using h1 (j + 1) (by omega) (by simpa using hl)) (fun h => by simpa using h2 (by simpa using h))]
  have e : i + 1 + k = i + (k + 1) := by omega
  simp only [List.length_cons, List.getD_cons_succ, Nat.add_lt_add_iff_right, e]
theorem EH {c : Bool} {l : List Pr} {k : Nat} (hk : k < l.length) (h : ∀ j, j < k → prE c (l.getD j Pr.z) = 0) (hb : prE c (l.getD k Pr.z) ≠ 0) : firE c l 0 = .at (prE c (l.getD k Pr.z)) k := by
 rw [mr 0 k (fun j hj _ => h j hj) (fun _ => hb), if_pos hk]
 simp
theorem rh {c : Bool} {l : List Pr} {k : Nat} (hk : l.length ≤ k) (h : ∀ j, j < k → prE c (l.getD j Pr.z) = 0) : firE c l 0 = .none := by
 rw [mr 0 k (fun j hj _ => h j hj) (fun h => absurd h (by omega)), if_neg (by omega)]
def mayJ (c : Bool) (l : List (List UInt8)) (j : Nat) : Prop := ∀ i, i < j → mayV c (l.getD i []) = true
theorem qQ {c : Bool} {l : List (List UInt8)} {j : Nat} (h : mayJ c l j) (k : mayV c (l.getD j []) = true) : mayJ c l (j + 1) := fun i hi => by
 rcases Nat.lt_or_ge i j with g | g
 ·exact h i g
 ·rw [show i = j by omega]; exact k
theorem uO {c : Bool} {l : List (List UInt8)} {j : Nat} (hj : l.length ≤ j) (h : mayJ c l j) : l.all (mayV c) = true := by
 rw [List.all_eq_true]
 intro x hx
 obtain ⟨i, hi, rfl⟩ := List.getElem_of_mem hx
 have := h i (by omega)
 rwa [List.getD_eq_getElem?_getD, List.getElem?_eq_getElem hi] at this
theorem uN {c : Bool} {l : List (List UInt8)} {j : Nat} (hj : j < l.length) (h : mayV c (l.getD j []) = false) : l.all (mayV c) = false := by
 rw [List.all_eq_false]
 refine ⟨l[j], List.getElem_mem hj, ?_⟩
 rw [List.getD_eq_getElem?_getD, List.getElem?_eq_getElem hj] at h
 simpa using h
theorem uz {c : Bool} {q : Pr} (h : isS q.n = false) : prE c q = 5 := by unfold prE; rw [if_pos h]
theorem yU {c : Bool} {q : Pr} (h : isS q.n = true) (k : q.vs.length = 0) : prE c q = 8 := by unfold prE; rw [if_neg (by rw [h]; decide), if_pos k]
theorem Fe {c : Bool} {q : Pr} (h : isS q.n = true) (k : q.vs.length ≠ 0) (m : q.vs.all (mayV c) = false) : prE c q = 3 := by unfold prE; rw [if_neg (by rw [h]; decide), if_neg k, if_neg (by rw [m]; decide)]
theorem Ff {c : Bool} {q : Pr} (h : isS q.n = true) (k : q.vs.length ≠ 0) (m : q.vs.all (mayV c) = true) : prE c q = 0 := by unfold prE; rw [if_neg (by rw [h]; decide), if_neg k, if_pos m]
theorem Aw {l : List (List UInt8)} (h : l ≠ []) (x sep : List UInt8) : Lib.join (l ++ [x]) sep = Lib.join l sep ++ sep ++ x := by
 cases l with
 | nil => exact absurd rfl h
 | cons y r =>
  rw [List.cons_append, Lib.join_cons, Lib.join_cons]
  simp [Lib.joinTail]
def vaT (c : Bool) (vs : List (List UInt8)) (j : Nat) : List UInt8 := match j with
 | 0 => []
 | j + 1 => 61 :: Lib.join ((vs.take (j + 1)).map (quoS c)) [44]
theorem tD {c : Bool} {vs : List (List UInt8)} {j : Nat} (hj : j < vs.length) : vaT c vs (j + 1) = vaT c vs j ++ (if j = 0 then [61] else [44]) ++ quoS c (vs.getD j []) := by
 have e : vs.take (j + 1) = vs.take j ++ [vs.getD j []] := by
  rw [List.take_succ_eq_append_getElem hj, List.getD_eq_getElem?_getD, List.getElem?_eq_getElem hj]
  rfl
 cases j with
 | zero =>
  simp only [vaT, e, List.take_zero, List.nil_append, List.map_cons, List.map_nil, Lib.join_one, if_true]
  rfl
 | succ j =>
  simp only [vaT]
  rw [e, List.map_append, List.map_cons, List.map_nil, Aw (fun h => by
   have := congrArg List.length h
   simp only [List.length_map, List.length_take, List.length_nil] at this
   omega), if_neg (by omega)]
  simp only [List.cons_append, List.append_assoc]
theorem DT {c : Bool} {q : Pr} (h : q.vs.length ≠ 0) : prT c q = 59 :: q.n ++ vaT c q.vs q.vs.length := by
 unfold prT
 cases hv : q.vs with
 | nil => rw [hv] at h; exact absurd rfl h
 | cons x r =>
  have e : (x :: r).take (r.length + 1) = x :: r := List.take_of_length_le (by simp)
  simp only [List.length_cons, vaT, e, List.append_assoc]
  rfl
theorem sX (c : Bool) (s : List UInt8) : (eIf c s).length ≤ 2 * s.length := by
 unfold eIf
 split
 ·exact (fh s).2
 ·omega
theorem uw (c : Bool) (s : List UInt8) : (quoS c s).length ≤ 2 * s.length + 2 := by
 have := sX c s
 unfold quoS
 split
 ·omega
 ·simp only [List.cons_append, List.length_cons, List.length_append, List.length_nil]
  omega
theorem kW (c : Bool) : ∀ l : List (List UInt8), Lib.lens (l.map (quoS c)) ≤ 2 * Lib.lens l + 2 * l.length
 | [] => by simp [Lib.lens]
 | x :: r => by
  have h1 := kW c r
  have h2 := uw c x
  have e1 : Lib.lens ((x :: r).map (quoS c)) = (quoS c x).length + Lib.lens (r.map (quoS c)) := by simp [Lib.lens]
  have e2 : Lib.lens (x :: r) = x.length + Lib.lens r := by simp [Lib.lens]
  rw [e1, e2, List.length_cons]
  omega
theorem o0 (l : List (List UInt8)) : (Lib.join l [44]).length ≤ Lib.lens l + l.length := by
 cases l with
 | nil => simp [Lib.join_nil]
 | cons x r =>
  have e2 : Lib.lens (x :: r) = x.length + Lib.lens r := by simp [Lib.lens]
  rw [Lib.join_cons, List.length_append, Lib.joinTail_length, e2, List.length_cons]
  simp only [List.length_cons, List.length_nil]
  omega
theorem DR (c : Bool) (vs : List (List UInt8)) (j : Nat) : (vaT c vs j).length ≤ 1 + 2 * Lib.lens vs + 3 * vs.length := by
 cases j with
 | zero => simp [vaT]
 | succ j =>
  simp only [vaT, List.length_cons]
  have h1 := o0 ((vs.take (j + 1)).map (quoS c))
  have h2 := kW c (vs.take (j + 1))
  have h3 := Lib.lens_take_le vs (j + 1)
  rw [List.length_map, List.length_take] at h1
  rw [List.length_take] at h2
  omega
theorem yT (c : Bool) (q : Pr) : (prT c q).length ≤ 2 + q.n.length + 2 * Lib.lens q.vs + 3 * q.vs.length := by
 unfold prT
 have h1 := o0 (q.vs.map (quoS c))
 have h2 := kW c q.vs
 rw [List.length_map] at h1
 simp only [List.length_cons, List.length_append, List.length_nil, List.cons_append]
 omega
def psT (c : Bool) (ps : List Pr) (k : Nat) : List UInt8 := (ps.take k).flatMap (prT c)
theorem oD {c : Bool} {ps : List Pr} {k : Nat} (hk : k < ps.length) : psT c ps (k + 1) = psT c ps k ++ prT c (ps.getD k Pr.z) := by
 have e : ps.take (k + 1) = ps.take k ++ [ps.getD k Pr.z] := by
  rw [List.take_succ_eq_append_getElem hk, List.getD_eq_getElem?_getD, List.getElem?_eq_getElem hk]
  rfl
 unfold psT
 rw [e, List.flatMap_append]
 simp
theorem sl {c : Bool} {ps : List Pr} {N : Nat} (h : ∀ k, (ps.getD k Pr.z).n.length ≤ N ∧ (ps.getD k Pr.z).vs.length ≤ N ∧ Lib.lens (ps.getD k Pr.z).vs ≤ N) : ∀ k, k ≤ ps.length → (psT c ps k).length ≤ k * (2 + 6 * N)
 | 0, _ => by simp [psT]
 | k + 1, hk => by
  have ih := sl (c := c) h k (by omega)
  have h1 := yT c (ps.getD k Pr.z)
  have h2 := h k
  rw [oD (by omega), List.length_append, Nat.succ_mul]
  omega
theorem yD (c : Bool) (p : Ln) : p.txt c = hdT p ++ psT c p.ps p.ps.length ++ [58] ++ p.v := by
 unfold Ln.txt psT
 rw [List.take_of_length_le (Nat.le_refl _)]
theorem Ln.E_5 {c : Bool} {p : Ln} (h : isS p.n = false ∨ (p.g.length ≠ 0 ∧ isS p.g = false)) : p.E c = .errno 5 := by unfold Ln.E; rw [if_pos h]
theorem Ln.E_4 {c : Bool} {p : Ln} (h1 : isS p.n = true) (h2 : p.g.length = 0 ∨ isS p.g = true) (h : 20 < p.ps.length) : p.E c = .errno 4 := by
 unfold Ln.E
 rw [if_neg (by rintro (k | ⟨k1, k2⟩); rw [h1] at k; cases k; rcases h2 with h2 | h2; exact k1 h2; rw [h2] at k2; cases k2), if_pos h]
theorem Ln.E_f {c : Bool} {p : Ln} (h1 : isS p.n = true) (h2 : p.g.length = 0 ∨ isS p.g = true) (h : p.ps.length ≤ 20) : p.E c = match firE c p.ps 0 with
  | .none => if hdB false p.v then .none else .errno 3
  | x => x := by
 unfold Ln.E
 rw [if_neg (by rintro (k | ⟨k1, k2⟩); rw [h1] at k; cases k; rcases h2 with h2 | h2; exact k1 h2; rw [h2] at k2; cases k2), if_neg (by omega)]
theorem Ln.E_at {c : Bool} {p : Ln} (h1 : isS p.n = true) (h2 : p.g.length = 0 ∨ isS p.g = true) (h : p.ps.length ≤ 20) {k : Nat} (hk : k < p.ps.length) (hj : ∀ j, j < k → prE c (p.ps.getD j Pr.z) = 0) (hb : prE c (p.ps.getD k Pr.z) ≠ 0) : p.E c = .at (prE c (p.ps.getD k Pr.z)) k := by
 rw [Ln.E_f h1 h2 h, EH hk hj hb]
theorem Ln.E_3 {c : Bool} {p : Ln} (h1 : isS p.n = true) (h2 : p.g.length = 0 ∨ isS p.g = true) (h : p.ps.length ≤ 20) {k : Nat} (hk : p.ps.length ≤ k) (hj : ∀ j, j < k → prE c (p.ps.getD j Pr.z) = 0) (hv : hdB false p.v = false) : p.E c = .errno 3 := by
 rw [Ln.E_f h1 h2 h, rh hk hj]
 simp only [hv, Bool.false_eq_true, if_false]
theorem Ln.E_0 {c : Bool} {p : Ln} (h1 : isS p.n = true) (h2 : p.g.length = 0 ∨ isS p.g = true) (h : p.ps.length ≤ 20) {k : Nat} (hk : p.ps.length ≤ k) (hj : ∀ j, j < k → prE c (p.ps.getD j Pr.z) = 0) (hv : hdB false p.v = true) : p.E c = .none := by
 rw [Ln.E_f h1 h2 h, rh hk hj]
 simp only [hv, if_true]
def prI (c : Bool) (q : Pr) (j : Nat) (e : Int) : Prop := (isS q.n = false ∧ e = 5) ∨ (isS q.n = true ∧ q.vs.length = 0 ∧ e = 8) ∨ (isS q.n = true ∧ q.vs.length ≠ 0 ∧ ((e = 0 ∧ mayJ c q.vs j) ∨ (e = 3 ∧ q.vs.all (mayV c) = false)))
theorem jc {c : Bool} {q : Pr} {j : Nat} {e : Int} (h : prI c q j e) (hj : q.vs.length ≤ j) : e = prE c q := by
 rcases h with ⟨h1, h2⟩ | ⟨h1, h2, h3⟩ | ⟨h1, h2, ⟨h3, h4⟩ | ⟨h3, h4⟩⟩
 ·rw [uz h1, h2]
 ·rw [yU h1 h2, h3]
 ·rw [Ff h1 h2 (uO hj h4), h3]
 ·rw [Fe h1 h2 h4, h3]
theorem oE {c : Bool} {q : Pr} {j : Nat} {e : Int} (h : prI c q j e) (he : e ≠ 0) : prI c q (j + 1) e := by
 rcases h with h | h | ⟨h1, h2, ⟨h3, h4⟩ | h3⟩
 ·exact .inl h
 ·exact .inr (.inl h)
 ·exact absurd h3 he
 ·exact .inr (.inr ⟨h1, h2, .inr h3⟩)
theorem wV {c : Bool} {q : Pr} {j : Nat} {e : Int} (h : prI c q j e) (he : e = 0) (hm : mayV c (q.vs.getD j []) = true) : prI c q (j + 1) e := by
 rcases h with h | h | ⟨h1, h2, ⟨h3, h4⟩ | h3⟩
 ·exact absurd (he.symm.trans h.2) (by decide)
 ·exact absurd (he.symm.trans h.2.2) (by decide)
 ·exact .inr (.inr ⟨h1, h2, .inl ⟨h3, qQ h4 hm⟩⟩)
 ·exact absurd (he.symm.trans h3.1) (by decide)
theorem sm {c : Bool} {q : Pr} {j : Nat} {e : Int} (h : prI c q j e) (he : e = 0) (hj : j < q.vs.length) (hm : mayV c (q.vs.getD j []) = false) : prI c q (j + 1) 3 := by
 rcases h with h | h | ⟨h1, h2, ⟨h3, h4⟩ | h3⟩
 ·exact absurd (he.symm.trans h.2) (by decide)
 ·exact absurd (he.symm.trans h.2.2) (by decide)
 ·exact .inr (.inr ⟨h1, h2, .inr ⟨rfl, uN hj hm⟩⟩)
 ·exact absurd (he.symm.trans h3.1) (by decide)
end
section
open Go
attribute [local irreducible] AWp AOps aa ax OrOk ad ae
attribute [local irreducible] aq badI badS aS cutS rngR ownB
def firstTab : List AVal := Go.Pinned.utf8FirstZ.map (fun x : Nat => AVal.int .u8 (x : Int))
def acceptTab : List AVal := [.int .u8 128, .int .u8 191, .int .u8 160, .int .u8 191, .int .u8 128, .int .u8 159, .int .u8 144, .int .u8 191, .int .u8 128, .int .u8 143, .int .u8 0, .int .u8 0, .int .u8 0, .int .u8 0, .int .u8 0, .int .u8 0, .int .u8 0, .int .u8 0, .int .u8 0, .int .u8 0, .int .u8 0, .int .u8 0, .int .u8 0, .int .u8 0, .int .u8 0, .int .u8 0, .int .u8 0, .int .u8 0, .int .u8 0, .int .u8 0, .int .u8 0, .int .u8 0]
def ke (b : Nat) : Nat :=
 if b < 128 then 240 else if b < 194 then 241 else if b < 224 then 2 else if b = 224 then 19 else if b < 237 then 3 else if b = 237 then 35 else if b < 240 then 3 else if b = 240 then 52
 else if b < 244 then 4 else if b = 244 then 68 else 241
theorem AH : ∀ b : Fin 256, Go.Pinned.utf8FirstZ[b.1]? = some (ke b.1) := by decide +kernel
theorem vm (b : Nat) (h : b < 256) : firstTab[b * 1]? = some (.int .u8 (ke b : Int)) := by
 rw [Nat.mul_one]
 simp only [firstTab, List.getElem?_map, AH ⟨b, h⟩, Option.map_some]
def cZ (s : List UInt8) : Nat × Nat := if s.length = 0 then (65533, 0) else if (aq s).2 = 0 then (65533, 1) else aq s
theorem DO (b : Int) : IntKind.wrap .i32 (BitVec.ofInt 32 (IntKind.wrap .i32 (BitVec.ofInt 32 b &&& ~~~ BitVec.ofInt 32 (IntKind.wrap .i32 (241 * 2147483648) / 2147483648)).toNat) ||| BitVec.ofInt 32 (IntKind.wrap .i32 (BitVec.ofInt 32 65533 &&& BitVec.ofInt 32 (IntKind.wrap .i32 (241 * 2147483648) / 2147483648)).toNat)).toNat = 65533 := by
 have e : (~~~ BitVec.ofInt 32 (IntKind.wrap .i32 (241 * 2147483648) / 2147483648)) = 0#32 := by decide +kernel
 rw [e, BitVec.and_zero]
 decide +kernel
attribute [local irreducible] firstTab
abbrev utfTy : List (Nat × List AVal) := [(8, firstTab), (9, acceptTab)]
theorem AL (b : Nat) (h : b < 256) (h1 : 128 ≤ b) :
  (firstTab[b * 1]? = some (.int .u8 241) ∧ (b < 194 ∨ 245 ≤ b)) ∨ (firstTab[b * 1]? = some (.int .u8 2) ∧ 194 ≤ b ∧ b < 224) ∨ (firstTab[b * 1]? = some (.int .u8 19) ∧ b = 224)
  ∨ (firstTab[b * 1]? = some (.int .u8 3) ∧ 225 ≤ b ∧ b < 240 ∧ b ≠ 237) ∨ (firstTab[b * 1]? = some (.int .u8 35) ∧ b = 237) ∨ (firstTab[b * 1]? = some (.int .u8 52) ∧ b = 240)
  ∨ (firstTab[b * 1]? = some (.int .u8 4) ∧ 241 ≤ b ∧ b < 244) ∨ (firstTab[b * 1]? = some (.int .u8 68) ∧ b = 244) := by
 have e := vm b h
 have key : ∀ c : Nat, ke b = c → firstTab[b * 1]? = some (.int .u8 (c : Int)) := fun c hc => by rw [e, hc]
 by_cases c1 : b < 194 ∨ 245 ≤ b
 ·refine .inl ⟨key 241 (by unfold ke; (repeat' split) <;> omega), c1⟩
 by_cases c2 : b < 224
 ·refine .inr (.inl ⟨key 2 (by unfold ke; (repeat' split) <;> omega), by omega, c2⟩)
 by_cases c3 : b = 224
 ·subst c3; exact .inr (.inr (.inl ⟨key 19 rfl, rfl⟩))
 by_cases c5 : b = 237
 ·subst c5; exact .inr (.inr (.inr (.inr (.inl ⟨key 35 rfl, rfl⟩))))
 by_cases c4 : b < 240
 ·refine .inr (.inr (.inr (.inl ⟨key 3 (by unfold ke; (repeat' split) <;> omega), by omega, c4, c5⟩)))
 by_cases c6 : b = 240
 ·subst c6; exact .inr (.inr (.inr (.inr (.inr (.inl ⟨key 52 rfl, rfl⟩)))))
 by_cases c7 : b < 244
 ·refine .inr (.inr (.inr (.inr (.inr (.inr (.inl ⟨key 4 (by unfold ke; (repeat' split) <;> omega), by omega, c7⟩))))))
 have c8 : b = 244 := by omega
 subst c8
 exact .inr (.inr (.inr (.inr (.inr (.inr (.inr ⟨key 68 rfl, rfl⟩))))))
theorem uf {s : List UInt8} {a b : Int} (h0 : ¬ s.length = 0) (h : ((aq s).1 : Int) = 0 ∧ ((aq s).2 : Int) = 0) (ha : a = 65533) (hb : b = 1) : ((cZ s).1 : Int) = a ∧ ((cZ s).2 : Int) = b := by
 have : (aq s).2 = 0 := by omega
 subst ha hb
 simp [cZ, h0, this]
theorem yL {s : List UInt8} {a b : Int} (h0 : ¬ s.length = 0) (h : ((aq s).1 : Int) = a ∧ ((aq s).2 : Int) = b) (hb : 0 < b) : ((cZ s).1 : Int) = a ∧ ((cZ s).2 : Int) = b := by
 have : ¬ (aq s).2 = 0 := by omega
 simpa [cZ, h0, this] using h
theorem C7 {G : Glo} (hGL : ad G utfTy) (s : List UInt8) (hs : s.length = 0 ∨ 128 ≤ aa s 0) :
    FnIs Tryz.prog G 190 [.str s] (.tuple [.int .i32 ((cZ s).1 : Int), .int .i64 ((cZ s).2 : Int)]) := by
  refine fn_x Tryz.func190 Tryz.call190 rfl rfl rfl rfl hGL ?_
  intro C hC
  by_cases h0 : s.length = 0
  · refine xw1 ?_
    intros
    refine tup2 ?_
    simp only [cZ, if_pos h0]
    exact ⟨rfl, rfl⟩
  replace hs : 128 ≤ aa s 0 := by omega
  have hdc := AL (aa s 0) (aK s 0) hs
  refine xw1 ?_
  intros
  rcases hdc with ⟨hx, hb⟩ | ⟨hx, hb⟩ | ⟨hx, hb⟩ | ⟨hx, hb⟩ | ⟨hx, hb⟩ | ⟨hx, hb⟩ | ⟨hx, hb⟩ | ⟨hx, hb⟩
  all_goals (erw [hx])
  · refine xw1 ?_
    intros
    apply ch_r
    refine xw1 ?_
    intros
    apply ch_r
    refine xw1 ?_
    intros
    apply ch_r
    refine xw1 ?_
    intros
    clear hx
    refine tup2 ?_
    refine uf h0 ?_ (DO _) rfl
    generalize hz : aq s = z
    unfold aq aV mayN cp2 cp3 cp4 at hz
    try simp only [show Int.toNat 0 = 0 from rfl, show Int.toNat 1 = 1 from rfl, show Int.toNat (1 + 1) = 2 from rfl, show Int.toNat (1 + 1 + 1) = 3 from rfl] at *
    generalize aa s 0 = b0 at *
    generalize aa s 1 = b1 at *
    generalize aa s 2 = b2 at *
    generalize aa s 3 = b3 at *
    generalize s.length = l at *
    repeat' (split at hz; try (exfalso; omega))
    all_goals (try subst z)
    all_goals (first
      | exact ⟨rfl, rfl⟩
      | (simp only [Bool.and_eq_true, Bool.or_eq_true, decide_eq_true_eq, beq_iff_eq] at *; first | (exfalso; omega) | omega))
  all_goals (repeat' (first | (conv => whnf); first | refine .w ?_ | refine .v ?_ | refine sc_c ?_ ?_ <;> (intro hb; try exact dd hb) | apply an | apply az | (apply sc_i <;> intro hb) | (apply bx_i; intro hbd) | (apply ar; first | fail) | (apply ap (i := 0) rfl; first | fail) | (apply ab_i; intro bl) | (apply as_i; intro va vk vc hva) | (apply av_i; intro v) | (apply ac_i; intro bl cap hcap) | apply bo_l | (apply nx_i <;> intro hnx) | exact rt_w | apply dw_q mixed hC hGL (by kernel_rfl) | (apply cq; assumption; (first | fail); exact rfl))
             all_goals try conv => whnf)
  all_goals (clear hx; refine tup2 ?_)
  all_goals (first
    | (refine uf h0 ?_ rfl rfl
       generalize hz : aq s = z
       unfold aq aV mayN cp2 cp3 cp4 at hz
       try simp only [show Int.toNat 0 = 0 from rfl, show Int.toNat 1 = 1 from rfl, show Int.toNat (1 + 1) = 2 from rfl, show Int.toNat (1 + 1 + 1) = 3 from rfl] at *
       generalize aa s 0 = b0 at *
       generalize aa s 1 = b1 at *
       generalize aa s 2 = b2 at *
       generalize aa s 3 = b3 at *
       generalize s.length = l at *
       repeat' (split at hz; try (exfalso; omega))
       all_goals (try subst z)
       all_goals (first
         | exact ⟨rfl, rfl⟩
         | (simp only [Bool.and_eq_true, Bool.or_eq_true, decide_eq_true_eq, beq_iff_eq] at *; first | (exfalso; omega) | omega))
       done)
    | (refine yL h0 ?_ (by decide)
       generalize hz : aq s = z
       unfold aq aV mayN cp2 cp3 cp4 at hz
       try simp only [show Int.toNat 0 = 0 from rfl, show Int.toNat 1 = 1 from rfl, show Int.toNat (1 + 1) = 2 from rfl, show Int.toNat (1 + 1 + 1) = 3 from rfl] at *
       generalize aa s 0 = b0 at *
       generalize aa s 1 = b1 at *
       generalize aa s 2 = b2 at *
       generalize aa s 3 = b3 at *
       generalize s.length = l at *
       repeat' (split at hz; try (exfalso; omega))
       all_goals (try subst z)
       all_goals (first
         | exact ⟨rfl, rfl⟩
         | (simp only [Bool.and_eq_true, Bool.or_eq_true, decide_eq_true_eq, beq_iff_eq] at *; first | (exfalso; omega) | omega))))
theorem C8 {G : Glo} (hGL : ad G utfTy) (s : List UInt8) :
    FnIs Tryz.prog G 160 [.str s] (.tuple [.int .i32 ((cZ s).1 : Int), .int .i64 ((cZ s).2 : Int)]) := by
  refine fn_x Tryz.func160 Tryz.call160 rfl rfl rfl rfl hGL ?_
  intro C hC
  by_cases h0 : s.length = 0 ∨ 128 ≤ aa s 0
  · have hd := C7 (G := G) hGL s h0
    by_cases h1 : s.length = 0
    all_goals (repeat' (first | (conv => whnf); first | refine .w ?_ | refine .v ?_ | refine sc_c ?_ ?_ <;> (intro hb; try exact dd hb) | apply an | apply az | (apply sc_i <;> intro hb) | (apply bx_i; intro hbd) | (apply ar; first | exact hd) | (apply ap (i := 0) rfl; first | exact hd) | (apply ab_i; intro bl) | (apply as_i; intro va vk vc hva) | (apply av_i; intro v) | (apply ac_i; intro bl cap hcap) | apply bo_l | (apply nx_i <;> intro hnx) | exact rt_w | apply dw_q mixed hC hGL (by kernel_rfl) | (apply cq; assumption; (first | exact hd); exact rfl))
               all_goals try conv => whnf)
    all_goals (exfalso; simp only [Int.toNat_zero] at *; omega)
  · refine xw1 ?_
    intros
    refine tup2 ?_
    refine yL (by omega) ?_ (by decide)
    generalize hz : aq s = z
    unfold aq aV mayN cp2 cp3 cp4 at hz
    try simp only [show Int.toNat 0 = 0 from rfl, show Int.toNat 1 = 1 from rfl, show Int.toNat (1 + 1) = 2 from rfl, show Int.toNat (1 + 1 + 1) = 3 from rfl] at *
    generalize aa s 0 = b0 at *
    generalize aa s 1 = b1 at *
    generalize aa s 2 = b2 at *
    generalize aa s 3 = b3 at *
    generalize s.length = l at *
    repeat' (split at hz; try (exfalso; omega))
    all_goals (try subst z)
    all_goals (first
      | exact ⟨rfl, rfl⟩
      | (simp only [Bool.and_eq_true, Bool.or_eq_true, decide_eq_true_eq, beq_iff_eq] at *; first | (exfalso; omega) | omega))
end
section
open Go
attribute [local irreducible] AWp AOps aa ax OrOk ad ae
attribute [local irreducible] aq badI badS aS cutS rngR ownB
attribute [local irreducible] firstTab cZ
theorem mP (s : List UInt8) : ((aq s).2 = 0 → (aq s).1 = 0) ∧ ((aq s).2 = 1 → (aq s).1 < 128) ∧ (s.length = 0 → (aq s).2 = 0) := by
 refine ⟨?_, ?_, ?_⟩
 ·unfold aq; (repeat' split) <;> simp
 ·unfold aq; (repeat' split) <;> simp; omega
 ·intro h; unfold aq; simp [h]
theorem zV (s : List UInt8) : (((aq s).2 : Int) = 0 → ((cZ s).2 : Int) = 0 ∧ s.length = 0 ∨ ((cZ s).1 : Int) = 65533 ∧ ((cZ s).2 : Int) = 1) ∧ (((aq s).2 : Int) ≠ 0 → ((cZ s).1 : Int) = (aq s).1 ∧ ((cZ s).2 : Int) = (aq s).2) := by
 have hf := mP s
 unfold cZ
 by_cases h0 : s.length = 0
 ·rw [if_pos h0]
  refine ⟨fun _ => .inl ⟨rfl, h0⟩, fun h => absurd (hf.2.2 h0) (by omega)⟩
 ·rw [if_neg h0]
  by_cases h1 : (aq s).2 = 0
  ·rw [if_pos h1]
   exact ⟨fun _ => .inr ⟨rfl, rfl⟩, fun h => absurd h1 (by omega)⟩
  ·rw [if_neg h1]
   exact ⟨fun h => absurd h (by omega), fun _ => ⟨rfl, rfl⟩⟩
theorem uv {G : Glo} (hU : ad G utfTy) (s : List UInt8) :
  FnIs Tryz.prog G 124 [.str s] (.tuple [.int .i64 ((aq s).1 : Int), .int .i64 ((aq s).2 : Int)]) := by
 have hGL : ad G [] := ab
 refine fn_x Tryz.func124 Tryz.call124 rfl rfl rfl rfl hGL ?_
 intro C hC
 have hd := C8 (G := G) hU s
 have hn := dZ s
 have hf := mP s
 have hr := zV s
 have hk : ((cZ s).1 : Int) ≤ 1114111 := by
  by_cases h : (aq s).2 = 0
  ·unfold cZ; rw [if_pos h]; split <;> decide
  ·omega
 repeat' (first | (conv => whnf); first | refine .w ?_ | refine .v ?_ | refine sc_c ?_ ?_ <;> (intro hb; try exact dd hb) | apply an | apply az | (apply sc_i <;> intro hb) | (apply bx_i; intro hbd) | (apply ar; first | exact hd) | (apply ap (i := 0) rfl; first | exact hd) | (apply ab_i; intro bl) | (apply as_i; intro va vk vc hva) | (apply av_i; intro v) | (apply ac_i; intro bl cap hcap) | apply bo_l | (apply nx_i <;> intro hnx) | exact rt_w | apply dw_q mixed hC hGL (by kernel_rfl) | (apply cq; assumption; (first | exact hd); exact rfl))
 all_goals try conv => whnf
 all_goals (refine tup2 ?_; omega)
theorem sk {G : Glo} (hU : ad G utfTy) (s : List UInt8) (hl : s.length ≤ 9223372036854775807) : FnIs Tryz.prog G 69 [.str s] (.int .i64 (badI s)) := by
 have hGL : ad G [] := ab
 refine fn_x Tryz.func69 Tryz.call69 rfl rfl rfl rfl hGL ?_
 intro C hC
 have hle := fun k => dZ (s.drop k)
 have hN := fun t => uv (G := G) hU t
 repeat' (first | (conv => whnf); first | refine .w ?_ | refine .v ?_ | refine sc_c ?_ ?_ <;> (intro hb; try exact dd hb) | apply an | apply az | (apply sc_i <;> intro hb) | (apply bx_i; intro hbd) | (apply ar; first | exact hN _) | (apply ap (i := 0) rfl; first | exact hN _) | (apply ab_i; intro bl) | (apply as_i; intro va vk vc hva) | (apply av_i; intro v) | (apply ac_i; intro bl cap hcap) | apply bo_l | (apply nx_i <;> intro hnx) | exact rt_w | apply dw_q mixed hC hGL (by kernel_rfl) | (apply cq; assumption; (first | exact hN _); exact rfl))
 all_goals try conv => whnf
 refine lp hC hGL (fun (i : Nat) => [(0, .str s), (7, .own 0 (.pointer (some ⟨bl, 0, none⟩)))]) (fun i => [.iter bl s i]) (fun i => i ≤ s.length ∧ badS s = (badS (s.drop i)).map (· + i)) (fun i => s.length - i) 0 ?_ ai rfl ?_
 ·exact ⟨Nat.zero_le _, by simp⟩
 rintro i ⟨hi, hb0⟩
 have hn := hle i
 rw [List.length_drop] at hn
 repeat' (first | (conv => whnf); first | refine .w ?_ | refine .v ?_ | refine sc_c ?_ ?_ <;> (intro hb; try exact dd hb) | apply an | apply az | (apply sc_i <;> intro hb) | (apply bx_i; intro hbd) | (apply ar; first | exact hN _) | (apply ap (i := 0) rfl; first | exact hN _) | (apply ab_i; intro bl) | (apply as_i; intro va vk vc hva) | (apply av_i; intro v) | (apply ac_i; intro bl cap hcap) | apply bo_l | (apply nx_i <;> intro hnx) | exact rt_w | apply dw_q mixed hC hGL (by kernel_rfl) | (apply cq; assumption; (first | exact hN _); exact rfl))
 all_goals try conv => whnf
 ·apply aj
  refine congrArg (AVal.int .i64) ?_
  have h1 := jx (s.drop i) (by rw [List.length_drop]; omega)
  rw [if_pos (by omega)] at h1
  rw [h1] at hb0
  simp only [badI, hb0, Option.map_some, Nat.zero_add]
 ·have h1 := jx (s.drop i) (by rw [List.length_drop]; omega)
  rw [if_neg (by omega)] at h1
  have h2 : aS (s.drop i) = (aq (s.drop i)).2 := by unfold aS; rw [if_neg (by omega)]
  refine nxt (i + aS (s.drop i)) ⟨by omega, ?_⟩ (by omega) ⟨rfl, rfl, trivial⟩ rfl
  rw [hb0, h1, List.drop_drop, h2]
  cases badS (s.drop (i + (aq (s.drop i)).2)) <;> simp <;> omega
 ·apply aj
  refine congrArg (AVal.int .i64) ?_
  rw [vQ (s.drop i) (by rw [List.length_drop]; omega)] at hb0
  simp only [badI, hb0, Option.map_none]
theorem Ee {G : Glo} (hU : ad G utfTy) (s : List UInt8) (n : Int) (hl : s.length ≤ 9223372036854775807) : FnIs Tryz.prog G 70 [.str s, .int .i64 n] (.int .i64 (cutS s 0 n)) := by
 have hGL : ad G [] := ab
 refine fn_x Tryz.func70 Tryz.call70 rfl rfl rfl rfl hGL ?_
 intro C hC
 have hle := fun k => dZ (s.drop k)
 have hN := fun t => uv (G := G) hU t
 repeat' (first | (conv => whnf); first | refine .w ?_ | refine .v ?_ | refine sc_c ?_ ?_ <;> (intro hb; try exact dd hb) | apply an | apply az | (apply sc_i <;> intro hb) | (apply bx_i; intro hbd) | (apply ar; first | exact hN _) | (apply ap (i := 0) rfl; first | exact hN _) | (apply ab_i; intro bl) | (apply as_i; intro va vk vc hva) | (apply av_i; intro v) | (apply ac_i; intro bl cap hcap) | apply bo_l | (apply nx_i <;> intro hnx) | exact rt_w | apply dw_q mixed hC hGL (by kernel_rfl) | (apply cq; assumption; (first | exact hN _); exact rfl))
 all_goals try conv => whnf
 refine lp hC hGL (fun (x : Nat × Nat) => [(0, .str s), (1, .int .i64 n), (5, .int .i64 x.2), (6, .int .i64 x.1)]) (fun _ => []) (fun x => x.1 ≤ s.length ∧ ((x.1 = x.2 ∧ cutS s 0 n = cutS (s.drop x.1) x.1 n) ∨ (n < x.1 ∧ cutS s 0 n = x.2))) (fun x => s.length - x.1) (0, 0) ?_ ai rfl ?_
 ·exact ⟨Nat.zero_le _, .inl ⟨rfl, by simp⟩⟩
 rintro ⟨i, j⟩ ⟨hi, hb0⟩
 dsimp only at hi hb0 ⊢
 have hn := hle i
 rw [List.length_drop] at hn
 have hst : (aS (s.drop i) : Int) = if ((aq (s.drop i)).2 : Int) = 0 then 1 else ((aq (s.drop i)).2 : Int) := by unfold aS; split <;> split <;> omega
 repeat' (first | (conv => whnf); first | refine .w ?_ | refine .v ?_ | refine sc_c ?_ ?_ <;> (intro hb; try exact dd hb) | apply an | apply az | (apply sc_i <;> intro hb) | (apply bx_i; intro hbd) | (apply ar; first | exact hN _) | (apply ap (i := 0) rfl; first | exact hN _) | (apply ab_i; intro bl) | (apply as_i; intro va vk vc hva) | (apply av_i; intro v) | (apply ac_i; intro bl cap hcap) | apply bo_l | (apply nx_i <;> intro hnx) | exact rt_w | apply dw_q mixed hC hGL (by kernel_rfl) | (apply cq; assumption; (first | exact hN _); exact rfl))
 all_goals try conv => whnf
 any_goals (
  refine F2 ?_
  have h1 := gm (s.drop i) i n (by rw [List.length_drop]; omega)
  have h2 := nY (s.drop i) (by rw [List.length_drop]; omega)
  rw [List.length_drop] at h2
  have h3 := eI (s.drop i)
  rw [List.drop_drop] at h1)
 any_goals (
  refine nxt (i + aS (s.drop i), i + aS (s.drop i)) ⟨by omega, .inl ⟨rfl, ?_⟩⟩ (by dsimp only; omega) ⟨rfl, rfl, congrArg (fun z => some (AVal.int .i64 z)) (by dsimp only; omega), congrArg (fun z => some (AVal.int .i64 z)) (by dsimp only; omega), trivial⟩ rfl
  dsimp only
  rw [if_neg (by omega)] at h1
  omega)
 any_goals (
  refine nxt (i + aS (s.drop i), j) ⟨by omega, .inr ⟨by dsimp only; omega, ?_⟩⟩ (by dsimp only; omega) ⟨rfl, rfl, rfl, congrArg (fun z => some (AVal.int .i64 z)) (by dsimp only; omega), trivial⟩ rfl
  dsimp only
  by_cases hc : n < (i : Int) + (aS (s.drop i) : Int)
  ·rw [if_pos hc] at h1; omega
  ·omega)
 all_goals (
  apply aj
  refine congrArg (AVal.int .i64) ?_
  rw [lj (s.drop i) _ _ (by rw [List.length_drop]; omega)] at hb0
  omega)
end
section
open Go Go.RowKit
theorem kZ {b : Bool} {c : Int} (h : (c < 32 ∧ c ≠ 9 ∧ c ≠ 10) ∨ c = 127 ∨ (c = 10 ∧ b = false)) : hdC b c = true := decide_eq_true (by
 rcases h with h | h | h
 ·exact .inl ⟨h.1, h.2.1, .inl h.2.2⟩
 ·exact .inr h
 ·exact .inl ⟨by omega, by omega, .inr h.2⟩)
theorem sH {b : Bool} {c : Int} (h1 : c ≠ 127) (h : 32 ≤ c ∨ c = 9 ∨ (c = 10 ∧ b = true)) : hdC b c = false := decide_eq_false (by
 rintro (k | k)
 ·rcases h with h | h | h
  ·omega
  ·omega
  ·rcases k.2.2 with m | m
   ·exact m h.1
   ·rw [h.2] at m; cases m
 ·exact h1 k)
theorem Fh {c : Int} : hdC true c = true ↔ (c < 32 ∧ c ≠ 9 ∧ c ≠ 10) ∨ c = 127 := by simp [hdC]
theorem rb {c : Int} : hdC false c = true ↔ (c < 32 ∧ c ≠ 9) ∨ c = 127 := by simp [hdC]
theorem CP {b : Bool} {s : List UInt8} {i : Nat} (hi : i < s.length) (h : hdC b (aa s i : Int) = true) (hb : ∀ j, j < i → hdC b (aa s j : Int) = false) : hdB b s = false := by
 unfold hdB
 rw [gP hi h hb]
 exact decide_eq_false (by omega)
theorem zi {b : Bool} {s : List UInt8} {i : Nat} (hi : s.length ≤ i) (hb : ∀ j, j < i → hdC b (aa s j : Int) = false) : hdB b s = ltB (badI s) 0 := by
 unfold hdB
 rw [dH (fun j hj => hb j (by omega)), Bool.eq_iff_iff, jM]
 simp
attribute [local irreducible] AWp AOps aa ax OrOk ad ae
attribute [local irreducible] hdC hdB badI
theorem mM {G : Glo} (c : Int) : FnIs Tryz.prog G 136 [.int .u8 c] (.bool (hdC false c)) := by
 have hGL : ad G [] := ab
 refine fn_x Tryz.func136 Tryz.call136 rfl rfl rfl rfl hGL ?_
 intro C hC
 refine xw ?_
 repeat' (first | exact Le.n | refine Lc.mk ?_ ?_)
 all_goals intros
 all_goals (apply aj; refine congrArg AVal.bool ?_)
 all_goals (rw [Bool.eq_iff_iff, rb]; simp only [dc, reduceCtorEq, true_iff, false_iff]; omega)
end
section
open Go Go.RowKit
attribute [local irreducible] AWp AOps aa ax OrOk ad ae
attribute [local irreducible] hdC hdB badI
theorem sA {G : Glo} (c : Int) : FnIs Tryz.prog G 149 [.int .u8 c] (.bool (hdC false c)) := by
 have hGL : ad G [] := ab
 refine fn_x Tryz.func149 Tryz.call149 rfl rfl rfl rfl hGL ?_
 intro C hC
 refine xw ?_
 repeat' (first | exact Le.n | refine Lc.mk ?_ ?_)
 all_goals intros
 all_goals (apply aj; refine congrArg AVal.bool ?_)
 all_goals (rw [Bool.eq_iff_iff, rb]; simp only [dc, reduceCtorEq, true_iff, false_iff]; omega)
end
section
open Go Go.RowKit
theorem jv {G : Glo} (s : List UInt8) (c : UInt8) : FnIs Tryz.prog G 185 [.str s, .str [c]] (.int .i64 (s.countP (· == c) : Nat)) := by
 refine bi rfl Tryz.call185 ?_
 rintro R args ⟨x, t, e, hx, y, t', e', hy, rfl⟩ w hG hs
 obtain rfl := aB.1 hx
 obtain rfl := aB.1 hy
 subst e'
 obtain rfl := dK e
 refine (Tryz.strings_Count_one ⟨s.toArray⟩ c w).mono ?_
 rintro e w' ⟨rfl, rfl⟩
 exact ⟨by simp [AVal.conc, Lib.countByte, List.count], Below.refl _ _⟩
end
section
open Go
theorem AB {a b c : UInt8} (r : Int) : (0 ≤ idxB [a, b, c] r ↔ ∃ x ∈ [a, b, c], r = x.toNat) := by
 unfold idxB
 simp only [idxF, List.mem_cons, List.not_mem_nil, or_false, exists_eq_or_imp, exists_eq_left]
 split
 ·omega
 ·split
  ·omega
  ·split <;> omega
end
section
open Go Go.RowKit
def DN (G : Glo) (cs : List UInt8) : Prop := ∀ r : Int, mayZ r = true → ∃ z : Int, FnIs Tryz.prog G 127 [.str cs, .int .i32 r] (.int .i64 z) ∧ (0 ≤ z ↔ ∃ x ∈ cs, r = x.toNat)
theorem sI {cs : List UInt8} (x : UInt8) : cs.contains x = true ↔ ∃ y ∈ cs, (x.toNat : Int) = y.toNat := by
 rw [List.contains_iff_exists_mem_beq]
 exact ⟨fun ⟨y, h, e⟩ => ⟨y, h, by rw [beq_iff_eq.1 e]⟩, fun ⟨y, h, e⟩ => ⟨y, h, beq_iff_eq.2 (UInt8.toNat_inj.1 (by omega))⟩⟩
theorem Ez {cs : List UInt8} {x : UInt8} (h : ¬ ∃ y ∈ cs, (x.toNat : Int) = y.toNat) : cs.contains x = false := by
 cases hc : cs.contains x with
 | false => rfl
 | true => exact absurd ((sI x).1 hc) h
theorem AJ {r : Int} (h1 : 128 ≤ r) (hv : mayZ r = true) : (∃ x y : UInt8, (Utf8.encode r).data.toList = [x, y] ∧ 128 ≤ y.toNat) ∨ (∃ x y z : UInt8, (Utf8.encode r).data.toList = [x, y, z] ∧ 128 ≤ z.toNat) ∨ (∃ x y z u : UInt8, (Utf8.encode r).data.toList = [x, y, z, u] ∧ 128 ≤ u.toNat) := by
 rw [gK] at hv
 rw [zq hv]
 have hb : ∀ k : Nat, 128 ≤ ((UInt8.ofNat (128 + k % 64)).toNat) := by
  intro k
  have e : 128 + k % 64 < 256 := by omega
  rw [UInt8.toNat_ofNat_of_lt' (by simpa using e)]
  omega
 split
 ·omega
 ·split
  ·exact .inl ⟨_, _, rfl, hb _⟩
  ·split
   ·exact .inr (.inl ⟨_, _, _, rfl, hb _⟩)
   ·exact .inr (.inr ⟨_, _, _, _, rfl, hb _⟩)
theorem dU {a b c : UInt8} : aa [a, b, c] 0 = a.toNat ∧ aa [a, b, c] 1 = b.toNat ∧ aa [a, b, c] 2 = c.toNat := ⟨rfl, rfl, rfl⟩
attribute [local irreducible] AWp AOps aa ax OrOk ad ae
attribute [local irreducible] aq badI badS aS cutS rngR ownB mayZ
theorem yM {a b c x y : UInt8} {p : Prop} (hb : b.toNat < 128) (hc : c.toNat < 128) (hy : 128 ≤ y.toNat) (h : (aa [a, b, c] 1 : Int) = (aa [x, y] 1 : Int)) : p := by
 rw [dU.2.1, two1] at h
 omega
theorem ue {a b c x y z : UInt8} {p : Prop} (hb : b.toNat < 128) (hc : c.toNat < 128) (hy : 128 ≤ z.toNat) (h : (aa [a, b, c] 2 : Int) = (aa [x, y, z] 2 : Int)) : p := by
 rw [dU.2.2, dU.2.2] at h
 omega
theorem qd {G : Glo} {a b c : UInt8} (ha : a.toNat < 128) (hb' : b.toNat < 128) (hc' : c.toNat < 128) (r : Int) (h1 : 128 ≤ r) (hv : mayZ r = true) (hne : r ≠ 65533) : FnIs Tryz.prog G 127 [.str [a, b, c], .int .i32 r] (.int .i64 (-1)) := by
 have hV := nS (G := G) r
 rw [hv] at hV
 obtain ⟨g0, g1, g2⟩ := dU (a := a) (b := b) (c := c)
 have hix : ∀ q : Int, 128 ≤ q → q ≤ 255 → FnIs Tryz.prog G 121 [.str [c], .int .u8 q] (.int .i64 (-1)) := fun q h0 h1 => by
  have := aL (G := G) [c] q (by omega) h1
  rwa [show idxB [c] q = -1 by unfold idxB; simp only [idxF]; split <;> omega] at this
 have hix0 : ∀ q : Int, 0 ≤ q → q ≤ 255 → FnIs Tryz.prog G 121 [.str [], .int .u8 q] (.int .i64 (-1)) := fun q h0 h1 => aL [] q h0 h1
 have hcall := Tryz.call121
 rcases AJ h1 hv with ⟨x, y, he, hy⟩ | ⟨x, y, z, he, hy⟩ | ⟨x, y, z, u, he, hy⟩
 ·have f1 : aa [x, y] 1 = y.toNat := two1
  have e1 : aa [a, b, c] ([x, y].length - Nat.succ 0) = b.toNat := dU.2.1
  have e2 : aa [x, y] ([x, y].length - Nat.succ 0) = y.toNat := two1
  have f2 := hix (aa [x, y] 1) (by omega) (by have := aK [x, y] 1; omega)
  have hGL : ad G [] := ab
  refine fn_x Tryz.func127 Tryz.call127 rfl rfl rfl rfl hGL ?_
  intro C hC
  refine xw1 ?_
  intros
  apply fj hC hGL
  refine xw1 ?_
  intros
  refine aH hC hGL (nt rfl rfl rfl rfl) rfl rfl ?_
  rw [he]
  refine xw1 ?_
  intros
  refine rds hC hGL 1 ?_
  repeat' (first | (conv => whnf); first | refine .w ?_ | refine .v ?_ | refine sc_c ?_ ?_ <;> (intro hb; try exact dd hb) | apply an | apply az | (apply sc_i <;> intro hb) | (apply bx_i; intro hbd) | (apply ar; first | exact hV | exact f2) | (apply ap (i := 0) rfl; first | exact hV | exact f2) | (apply ab_i; intro bl) | (apply as_i; intro va vk vc hva) | (apply av_i; intro v) | (apply ac_i; intro bl cap hcap) | apply bo_l | (apply nx_i <;> intro hnx) | exact rt_w | apply dw_q mixed hC hGL (by kernel_rfl) | (apply cq; assumption; (first | exact hV | exact f2); exact rfl))
  all_goals try conv => whnf
  all_goals first | exact yM hb' hc' hy hb | skip
  apply fj hC hGL
  repeat' (first | (conv => whnf); first | refine .w ?_ | refine .v ?_ | refine sc_c ?_ ?_ <;> (intro hb; try exact dd hb) | apply an | apply az | (apply sc_i <;> intro hb) | (apply bx_i; intro hbd) | (apply ar; first | exact hV | exact f2) | (apply ap (i := 0) rfl; first | exact hV | exact f2) | (apply ab_i; intro bl) | (apply as_i; intro va vk vc hva) | (apply av_i; intro v) | (apply ac_i; intro bl cap hcap) | apply bo_l | (apply nx_i <;> intro hnx) | exact rt_w | apply dw_q mixed hC hGL (by kernel_rfl) | (apply cq; assumption; (first | exact hV | exact f2); exact rfl))
  all_goals try conv => whnf
  all_goals first | exact yM hb' hc' hy hb | skip
 ·have f1 : aa [x, y, z] 2 = z.toNat := dU.2.2
  have e1 : aa [a, b, c] ([x, y, z].length - Nat.succ 0) = c.toNat := dU.2.2
  have e2 : aa [x, y, z] ([x, y, z].length - Nat.succ 0) = z.toNat := dU.2.2
  have f2 := hix0 (aa [x, y, z] 2) (by omega) (by have := aK [x, y, z] 2; omega)
  have hGL : ad G [] := ab
  refine fn_x Tryz.func127 Tryz.call127 rfl rfl rfl rfl hGL ?_
  intro C hC
  refine xw1 ?_
  intros
  apply fj hC hGL
  refine xw1 ?_
  intros
  refine aH hC hGL (nt rfl rfl rfl rfl) rfl rfl ?_
  rw [he]
  refine xw1 ?_
  intros
  refine rds hC hGL 1 ?_
  repeat' (first | (conv => whnf); first | refine .w ?_ | refine .v ?_ | refine sc_c ?_ ?_ <;> (intro hb; try exact dd hb) | apply an | apply az | (apply sc_i <;> intro hb) | (apply bx_i; intro hbd) | (apply ar; first | exact hV | exact f2) | (apply ap (i := 0) rfl; first | exact hV | exact f2) | (apply ab_i; intro bl) | (apply as_i; intro va vk vc hva) | (apply av_i; intro v) | (apply ac_i; intro bl cap hcap) | apply bo_l | (apply nx_i <;> intro hnx) | exact rt_w | apply dw_q mixed hC hGL (by kernel_rfl) | (apply cq; assumption; (first | exact hV | exact f2); exact rfl))
  all_goals try conv => whnf
  all_goals first | exact ue hb' hc' hy hb | skip
  apply fj hC hGL
  repeat' (first | (conv => whnf); first | refine .w ?_ | refine .v ?_ | refine sc_c ?_ ?_ <;> (intro hb; try exact dd hb) | apply an | apply az | (apply sc_i <;> intro hb) | (apply bx_i; intro hbd) | (apply ar; first | exact hV | exact f2) | (apply ap (i := 0) rfl; first | exact hV | exact f2) | (apply ab_i; intro bl) | (apply as_i; intro va vk vc hva) | (apply av_i; intro v) | (apply ac_i; intro bl cap hcap) | apply bo_l | (apply nx_i <;> intro hnx) | exact rt_w | apply dw_q mixed hC hGL (by kernel_rfl) | (apply cq; assumption; (first | exact hV | exact f2); exact rfl))
  all_goals try conv => whnf
  all_goals first | exact ue hb' hc' hy hb | skip
 ·have hGL : ad G [] := ab
  refine fn_x Tryz.func127 Tryz.call127 rfl rfl rfl rfl hGL ?_
  intro C hC
  refine xw1 ?_
  intros
  apply fj hC hGL
  refine xw1 ?_
  intros
  refine aH hC hGL (nt rfl rfl rfl rfl) rfl rfl ?_
  rw [he]
  refine xw1 ?_
  intros
  refine rds hC hGL 1 ?_
  exact xw0
theorem o7 {G : Glo} {a b c : UInt8} (ha : a.toNat < 128) (hb' : b.toNat < 128) (hc' : c.toNat < 128) : FnIs Tryz.prog G 127 [.str [a, b, c], .int .i32 65533] (.int .i64 (-1)) := by
 have hGL : ad G [] := ab
 refine fn_x Tryz.func127 Tryz.call127 rfl rfl rfl rfl hGL ?_
 intro C hC
 refine xw1 ?_
 intros
 refine rds hC hGL 4 ?_
 refine xw ?_
 repeat' (first | exact Le.n | refine Lc.mk ?_ ?_)
 all_goals intros
 all_goals (
  exfalso
  have f1 := jW (x := a) (t := [b, c]) ha
  have f2 := jW (x := b) (t := [c]) hb'
  have f3 := jW (x := c) (t := []) hc'
  simp only [List.drop_zero, f1, f2, f3, Nat.zero_add, List.drop_succ_cons, List.length_cons, List.length_nil] at *
  omega)
theorem qc {G : Glo} {a b c : UInt8} (r : Int) (h0 : 0 ≤ r) (h1 : r < 128) : FnIs Tryz.prog G 127 [.str [a, b, c], .int .i32 r] (.int .i64 (idxB [a, b, c] r)) := by
 have hGL : ad G [] := ab
 refine fn_x Tryz.func127 Tryz.call127 rfl rfl rfl rfl hGL ?_
 intro C hC
 have hI := aL (G := G) [a, b, c] r h0 (by omega)
 exact xw0
theorem A5 {G : Glo} {a b c : UInt8} (ha : a.toNat < 128) (hb' : b.toNat < 128) (hc' : c.toNat < 128) : DN G [a, b, c] := by
 intro r hv
 have hm := hv
 rw [gK] at hm
 have key : 128 ≤ r → ¬ ∃ x ∈ [a, b, c], r = x.toNat := by
  rintro h ⟨x, hx, e⟩
  simp only [List.mem_cons, List.not_mem_nil, or_false] at hx
  rcases hx with rfl | rfl | rfl <;> omega
 by_cases h1 : r < 128
 ·exact ⟨_, qc r hm.1 h1, AB r⟩
 ·by_cases h2 : r = 65533
  ·subst h2; exact ⟨-1, o7 ha hb' hc', by omega, fun h => absurd h (key (by omega))⟩
  ·exact ⟨-1, qd ha hb' hc' r (by omega) hv h2, by omega, fun h => absurd h (key (by omega))⟩
theorem nf {G : Glo} {cs : List UInt8} (hA : DN G cs) (hlo : ∀ c ∈ cs, c.toNat < 128) (hc2 : 2 ≤ cs.length) (hc9 : cs.length ≤ 1000) (s : List UInt8) (hl : s.length ≤ 8) : FnIs Tryz.prog G 73 [.str s, .str cs] (.int .i64 (Lib.indexAny s cs)) := by
 have hGL : ad G [] := ab
 refine fn_x Tryz.func73 Tryz.call73 rfl rfl rfl rfl hGL ?_
 intro C hC
 have hS := oc (G := G) s.length
 repeat' (first | (conv => whnf); first | refine .w ?_ | refine .v ?_ | refine sc_c ?_ ?_ <;> (intro hb; try exact dd hb) | apply an | apply az | (apply sc_i <;> intro hb) | (apply bx_i; intro hbd) | (apply ar; first | exact hS) | (apply ap (i := 0) rfl; first | exact hS) | (apply ab_i; intro bl) | (apply as_i; intro va vk vc hva) | (apply av_i; intro v) | (apply ac_i; intro bl cap hcap) | apply bo_l | (apply nx_i <;> intro hnx) | exact rt_w | apply dw_q mixed hC hGL (by kernel_rfl) | (apply cq; assumption; (first | exact hS); exact rfl))
 all_goals try conv => whnf
 refine lp hC hGL (fun (i : Nat) => [(1, .str cs), (45, .own 0 (.pointer (some ⟨bl, 0, none⟩)))]) (fun i => [.iter bl s i]) (fun i => i ≤ s.length ∧ Lib.NoAny s cs i) (fun i => s.length - i) 0 ?_ ai rfl ?_
 ·exact ⟨Nat.zero_le _, Lib.NoAny.zero _ _⟩
 rintro i ⟨hi, hno⟩
 have hz := fun (h : i < s.length) => qC (s.drop i) (by rw [List.length_drop]; omega)
 have hR : ∃ z : Int, i < s.length → FnIs Tryz.prog G 127 [.str cs, .int .i32 (rngR (s.drop i))] (.int .i64 z) ∧ (0 ≤ z ↔ ∃ x ∈ cs, (rngR (s.drop i) : Int) = x.toNat) := by
  by_cases h : i < s.length
  ·obtain ⟨z, h1, h2⟩ := hA (rngR (s.drop i)) (hz h).1
   exact ⟨z, fun _ => ⟨h1, h2⟩⟩
  ·exact ⟨0, fun h' => absurd h' h⟩
 obtain ⟨z, hR⟩ := hR
 repeat' (first | (conv => whnf); first | refine .w ?_ | refine .v ?_ | refine sc_c ?_ ?_ <;> (intro hb; try exact dd hb) | apply an | apply az | (apply sc_i <;> intro hb) | (apply bx_i; intro hbd) | (apply ar; first | exact (hR (by omega)).1) | (apply ap (i := 0) rfl; first | exact (hR (by omega)).1) | (apply ab_i; intro bl) | (apply as_i; intro va vk vc hva) | (apply av_i; intro v) | (apply ac_i; intro bl cap hcap) | apply bo_l | (apply nx_i <;> intro hnx) | exact rt_w | apply dw_q mixed hC hGL (by kernel_rfl) | (apply cq; assumption; (first | exact (hR (by omega)).1); exact rfl))
 all_goals try conv => whnf
 ·obtain ⟨z1, z2, z3, z4, z5⟩ := hz hnx
  obtain ⟨y, hy, hr⟩ := (hR hnx).2.1 hb
  have hy' := hlo y hy
  have h1 := z4 (by omega)
  have hx : s[i]? = some s[i] := List.getElem?_eq_getElem hnx
  have h2 := bu hx
  rw [bA, Nat.add_zero] at h1
  refine aj ?_
  rw [Lib.indexAny_hit hno hx ((sI _).2 ⟨y, hy, by omega⟩)]
 ·obtain ⟨z1, z2, z3, z4, z5⟩ := hz hnx
  rw [List.length_drop] at z3
  have hr : ¬ ∃ x ∈ cs, (rngR (s.drop i) : Int) = x.toNat := fun h => by have := (hR hnx).2.2 h; omega
  refine nxt (i + aS (s.drop i)) ⟨by omega, ?_⟩ (by omega) ⟨rfl, rfl, trivial⟩ rfl
  intro j x hj hx
  by_cases h : j < i
  ·exact hno j x h hx
  ·have h2 := bu hx
   refine Ez fun ⟨y, hy, e⟩ => ?_
   have hy' := hlo y hy
   by_cases h128 : (rngR (s.drop i) : Int) < 128
   ·have h3 := z4 h128
    rw [bA, Nat.add_zero] at h3
    have : j = i := by omega
    subst this
    exact hr ⟨y, hy, by omega⟩
   ·have h3 := z5 (by omega) (j - i) (by omega)
    rw [bA, show i + (j - i) = j by omega] at h3
    omega
 ·have : i = s.length := by omega
  subst this
  refine aj ?_
  rw [Lib.indexAny_none hno]
  rfl
theorem o9 {G : Glo} {cs : List UInt8} (hlo : ∀ c ∈ cs, c.toNat < 128) (hc2 : 2 ≤ cs.length) (hc9 : cs.length ≤ 1000) (s : List UInt8) (h8 : 8 < s.length) (hl : s.length < 4294967281) : FnIs Tryz.prog G 73 [.str s, .str cs] (.int .i64 (Lib.indexAny s cs)) := by
 refine bi rfl Tryz.call73 ?_
 rintro R args ⟨x, t, e, hx, y, t', e', hy, rfl⟩ w _ _
 obtain rfl := aB.1 hx
 obtain rfl := aB.1 hy
 subst e'
 obtain rfl := dK e
 refine (Tryz.strings_IndexAny_long (fun w => by kernel_rfl) ⟨s.toArray⟩ ⟨cs.toArray⟩ w (by rw [aY]; omega) (by rw [aY]; exact h8) (by rw [aY]; omega) (by rw [aY]; omega) ?_).mono ?_
 ·intro j x hx
  exact hlo x (List.mem_of_getElem? (by simpa using hx))
 ·rintro e w' ⟨rfl, rfl⟩
  exact ⟨by simp [AVal.conc], ((Below.refl w.heap.size w).alloc (Nat.le_refl _) _).alloc (by show w.heap.size ≤ (w.heap.push _).size; simp) _⟩
theorem xz {G : Glo} {cs : List UInt8} (hA : DN G cs) (hlo : ∀ c ∈ cs, c.toNat < 128) (hc2 : 2 ≤ cs.length) (hc9 : cs.length ≤ 1000) (s : List UInt8) (hl : s.length < 4294967281) : FnIs Tryz.prog G 73 [.str s, .str cs] (.int .i64 (Lib.indexAny s cs)) := by
 by_cases h : s.length ≤ 8
 ·exact nf hA hlo hc2 hc9 s h
 ·exact o9 hlo hc2 hc9 s (by omega) hl
end
section
open Go Go.RowKit
theorem xQ {s : List UInt8} {i : Nat} (h : i < s.length) : encS (s.take (i + 1)) = encS (s.take i) ++ encF s[i] := by
 rw [List.take_succ_eq_append_getElem h, pr]
 simp [encS]
theorem u8_l {c : UInt8} {k : Nat} (hk : k < 256) (h : c.toNat = k) : c = UInt8.ofNat k := by
 rw [← h, UInt8.ofNat_toNat]
attribute [local irreducible] AWp AOps aa ax OrOk ad ae
attribute [local irreducible] encF encS
theorem oz {G : Glo} (s : List UInt8) (hl : s.length ≤ 1000000) : FnIs Tryz.prog G 94 [.str s] (.str (encS s)) := by
 have hGL : ad G [] := ab
 refine fn_x Tryz.func94 Tryz.call94 rfl rfl rfl rfl hGL ?_
 intro C hC
 refine xw1 ?_
 intro bl cap hcap
 intros
 refine lp hC hGL (fun i : Nat => [(3, .str (encS (s.take i))), (7, .own 0 (.slice (some ⟨bl, 0, none⟩) s.length cap)), (8, .int .i64 (s.length : Nat)), (9, .int .i64 (i : Nat))]) (fun _ => [.buf bl s cap]) (fun i => i ≤ s.length) (fun i => s.length - i) 0 (Nat.zero_le _) ⟨?_, rfl, rfl, rfl, trivial⟩ rfl ?_
 ·show some (AVal.str []) = some (AVal.str (encS (s.take 0)))
  rw [List.take_zero, fg]
 ·intro i hi
  have e1 := (fh (s.take i)).2
  rw [List.length_take, Nat.min_eq_left hi] at e1
  by_cases hlt : i < s.length
  ·have et := xQ hlt
   have hb0 := eE hlt
   have hby := aK s i
   rcases (show aa s i = 94 ∨ aa s i = 10 ∨ aa s i = 34 ∨ (aa s i ≠ 94 ∧ aa s i ≠ 10 ∧ aa s i ≠ 34) by omega) with hk | hk | hk | ⟨k1, k2, k3⟩
   ·have he : encF s[i] = [94, 94] := by rw [u8_l (by decide) (hb0.symm.trans hk)]; exact sU
    refine xw1 ?_
    intros
    refine nxt (i + 1) ?_ ?_ ⟨?_, rfl, rfl, rfl, trivial⟩ rfl
    ·exact hlt
    ·show s.length - (i + 1) < s.length - i; omega
    ·rw [et, he]; rfl
   ·have he : encF s[i] = [94, 110] := by rw [u8_l (by decide) (hb0.symm.trans hk)]; exact sW
    refine xw1 ?_
    intros
    refine nxt (i + 1) ?_ ?_ ⟨?_, rfl, rfl, rfl, trivial⟩ rfl
    ·exact hlt
    ·show s.length - (i + 1) < s.length - i; omega
    ·rw [et, he]; rfl
   ·have he : encF s[i] = [94, 39] := by rw [u8_l (by decide) (hb0.symm.trans hk)]; exact sV
    refine xw1 ?_
    intros
    refine nxt (i + 1) ?_ ?_ ⟨?_, rfl, rfl, rfl, trivial⟩ rfl
    ·exact hlt
    ·show s.length - (i + 1) < s.length - i; omega
    ·rw [et, he]; rfl
   ·have he : encF s[i] = aT [(aa s i : Int)] := by
     rw [lh (by rw [← hb0]; exact k1) (by rw [← hb0]; exact k2) (by rw [← hb0]; exact k3), hb0]
     simp [aT]
    refine xw1 ?_
    intros
    refine aH hC hGL (bp [(aa s i : Int)] rfl (by intro v hv; simp only [List.mem_cons, List.not_mem_nil, or_false] at hv; omega) rfl rfl rfl rfl rfl rfl) rfl rfl ?_
    have hl9 : (aT [(aa s i : Int)]).length = 1 := rfl
    refine xw1 ?_
    intros
    refine nxt (i + 1) ?_ ?_ ⟨?_, rfl, rfl, rfl, trivial⟩ rfl
    ·exact hlt
    ·show s.length - (i + 1) < s.length - i; omega
    ·rw [et, he]; rfl
  ·have h9 : encS (s.take i) = encS s := by rw [List.take_of_length_le (by omega)]
   refine xw1 ?_
   intros
   apply aj
   rw [h9]
end
section
open Go Go.RowKit
theorem uZ (c : UInt8) : ∀ (l : List UInt8) (k : Nat), (0 ≤ idxF (c.toNat : Int) l k ∧ c ∈ l) ∨ (idxF (c.toNat : Int) l k < 0 ∧ c ∉ l)
 | [], k => .inr ⟨by simp [idxF], by simp⟩
 | x :: t, k => by
  unfold idxF
  by_cases h : (x.toNat : Int) = c.toNat
  ·have : x = c := UInt8.toNat_inj.1 (by omega)
   rw [if_pos h]
   exact .inl ⟨by omega, by simp [this]⟩
  ·have hne : c ≠ x := fun e => h (by rw [e])
   rw [if_neg h]
   rcases uZ c t (k + 1) with ⟨h1, h2⟩ | ⟨h1, h2⟩
   ·exact .inl ⟨h1, List.mem_cons_of_mem _ h2⟩
   ·exact .inr ⟨h1, fun h3 => (List.mem_cons.1 h3).elim hne h2⟩
theorem CL {s : List UInt8} {c : UInt8} : 0 ≤ idxB s (c.toNat : Int) ↔ c ∈ s := by
 unfold idxB
 rcases uZ c s 0 with ⟨h1, h2⟩ | ⟨h1, h2⟩
 ·exact ⟨fun _ => h2, fun _ => h1⟩
 ·exact ⟨fun h => by omega, fun h => absurd h h2⟩
theorem Ay {s : List UInt8} {c : UInt8} : 0 ≤ Lib.indexByte s c ↔ c ∈ s := by
 induction s with
 | nil => simp [Lib.indexByte]
 | cons x t ih =>
  have hge := Lib.indexByte_ge t c
  unfold Lib.indexByte
  by_cases h : (x == c) = true
  ·rw [if_pos h]
   have := beq_iff_eq.1 h
   simp [this]
  ·rw [if_neg h]
   have hn : c ≠ x := fun e => h (beq_iff_eq.2 e.symm)
   simp only [List.mem_cons, hn, false_or]
   rw [← ih]
   split
   ·rename_i h2
    have := beq_iff_eq.1 h2
    omega
   ·rename_i h2
    have : Lib.indexByte t c ≠ -1 := fun e => h2 (beq_iff_eq.2 e)
    omega
attribute [local irreducible] AWp AOps aa ax OrOk ad ae
attribute [local irreducible] hdC hdB badI isS mayV encS idxB
theorem iN {G : Glo} (s : List UInt8) : FnIs Tryz.prog G 81 [.str s, .str [34]] (.bool (decide (0 ≤ idxB s 34))) := by
 refine bi rfl Tryz.call81 ?_
 rintro R args ⟨x, t, e, hx, y, t', e', hy, rfl⟩ w hG hs
 obtain rfl := aB.1 hx
 obtain rfl := aB.1 hy
 subst e'
 obtain rfl := dK e
 refine (Tryz.strings_Contains_one ⟨s.toArray⟩ 34 w).mono ?_
 rintro e w' ⟨rfl, rfl⟩
 have e : decide (0 ≤ Lib.indexByte s 34) = decide (0 ≤ idxB s 34) := by
  have h1 := Ay (s := s) (c := 34)
  have h2 := CL (s := s) (c := 34)
  have h3 : ((34 : UInt8).toNat : Int) = 34 := rfl
  rw [h3] at h2
  simp only [h1, h2]
 exact ⟨by simp [AVal.conc, e], Below.refl _ _⟩
theorem lX {G : Glo} (hU : ad G utfTy) (s : List UInt8) (hl : s.length ≤ 9223372036854775807) : FnIs Tryz.prog G 79 [.str s] (.bool (hdB false s)) := by
 have h1 := sk hU s hl
 have h2 := iw (G := G) s 136 (hdC false) hl (fun c _ => mM c)
 have hGL : ad G [] := ab
 refine fn_x Tryz.func79 Tryz.call79 rfl rfl rfl rfl hGL ?_
 intro C hC
 refine xw ?_; refine ⟨fun h => ?_, fun h => ?_, .n⟩
 all_goals (apply aj; refine congrArg AVal.bool ?_; unfold hdB; rw [Bool.eq_iff_iff]; simp only [jM, decide_eq_true_eq, reduceCtorEq, false_iff]; omega)
theorem p9 {G : Glo} (hU : ad G utfTy) (s : List UInt8) (c : Bool) (hl : s.length ≤ 1000000) : FnIs Tryz.prog G 78 [.str s, .bool c] (.bool (mayV c s)) := by
 cases c with
 | true =>
  have hE := oz (G := G) s hl
  have hC1 := lX hU (encS s) (by have := (fh s).2; omega)
  have hq1 := iN (G := G) (encS s)
  have e : mayV true s = (hdB false (encS s) && decide (idxB (encS s) 34 < 0)) := by unfold mayV eIf; rfl
  rw [e]
  have hGL : ad G [] := ab
  refine fn_x Tryz.func78 Tryz.call78 rfl rfl rfl rfl hGL ?_
  intro C hC
  refine xw ?_
  repeat' (first | exact Le.n | refine Lc.mk ?_ ?_)
  all_goals intros
  all_goals (apply aj; refine congrArg AVal.bool ?_; rw [show hdB false (encS s) = _ by assumption])
  all_goals (rw [Bool.eq_iff_iff]; simp)
 | false =>
  have hC1 := lX hU s (by omega)
  have hq1 := iN (G := G) s
  have e : mayV false s = (hdB false s && decide (idxB s 34 < 0)) := by unfold mayV eIf; rfl
  rw [e]
  have hGL : ad G [] := ab
  refine fn_x Tryz.func78 Tryz.call78 rfl rfl rfl rfl hGL ?_
  intro C hC
  refine xw ?_
  repeat' (first | exact Le.n | refine Lc.mk ?_ ?_)
  all_goals intros
  all_goals (apply aj; refine congrArg AVal.bool ?_; rw [show hdB false s = _ by assumption])
  all_goals (rw [Bool.eq_iff_iff]; simp)
theorem jG {G : Glo} (hU : ad G utfTy) (p : Ln) (c : Bool) (ho : p.Fit) : FnIs Tryz.prog G 44 [p.A, .bool c] (.agg [.int .i64 (p.E c).e, .int .i64 (p.E c).p]) := by
  have n1 := ox (G := G) p.n (by have := ho.n; omega)
  have n2 := ox (G := G) p.g (by have := ho.g; omega)
  have hv := lX hU p.v (by have := ho.v; omega)
  have hps := ho.ps
  have b5 := dj (G := G) 5
  have b4 := dj (G := G) 4
  have b3 := dj (G := G) 3
  have b0 := di (G := G)
  have hGL : ad G [] := ab
  refine fn_x Tryz.func44 Tryz.call44 rfl rfl rfl rfl hGL ?_
  intro C hC
  refine xw ?_
  repeat' (first | exact Le.n | refine Lc.mk ?_ ?_)
  all_goals intros
  all_goals try (apply aj; first | (rw [Ln.E_5 (.inl (by assumption))]; rfl) | (rw [Ln.E_5 (.inr ⟨by assumption, by assumption⟩)]; rfl) | (rw [Ln.E_4 (by assumption) (.inl (by assumption)) (by omega)]; rfl) | (rw [Ln.E_4 (by assumption) (.inr (by assumption)) (by omega)]; rfl); done)
  all_goals
    have q1 : isS p.n = true := by assumption
    have q2 : p.g.length = 0 ∨ isS p.g = true := by first | exact .inl (by assumption) | exact .inr (by assumption)
    have q3 : p.ps.length ≤ 20 := by omega
    refine lp hC hGL (fun k : Nat => [(1, .bool c), (2, .rop [.str p.g, .str p.n, .list 2 p.ps.length (prF p.ps), .str p.v] 0), (4, .own 0 (.pointer (some ⟨_, 0, none⟩))), (31, .list 2 p.ps.length (prF p.ps)), (32, .int .i64 (p.ps.length : Nat)), (33, .int .i64 (k : Nat))]) (fun _ => [.cells _ (some 45) [.int .i64 0, .int .i64 0]]) (fun k => k ≤ p.ps.length ∧ ∀ j, j < k → prE c (p.ps.getD j Pr.z) = 0) (fun k => p.ps.length - k) 0 ?_ ai rfl ?_
    · exact ⟨Nat.zero_le _, fun j h => absurd h (Nat.not_lt_zero _)⟩
    rintro k ⟨h1, h2⟩
    have hq := ho.q k
    have n3 := ox (G := G) (p.ps.getD k Pr.z).n (by omega)
    refine xw ?_
    repeat' (first | exact Le.n | refine Lc.mk ?_ ?_)
    all_goals intros
    all_goals try (apply aj; first | (rw [Ln.E_3 q1 q2 q3 (by omega) h2 (by assumption)]; rfl) | (rw [Ln.E_0 q1 q2 q3 (by omega) h2 (by assumption)]; rfl); done)
    all_goals try (apply aj; first | (rw [Ln.E_at q1 q2 q3 (by omega) h2 (by rw [uz (by assumption)]; decide), uz (by assumption)]; rfl) | (rw [Ln.E_at q1 q2 q3 (by omega) h2 (by rw [yU (by assumption) (by omega)]; decide), yU (by assumption) (by omega)]; rfl); done)
    refine lp hC hGL (fun j : Nat => [(1, .bool c), (2, .rop [.str p.g, .str p.n, .list 2 p.ps.length (prF p.ps), .str p.v] 0), (4, .own 0 (.pointer (some ⟨_, 0, none⟩))), (5, .int .i64 (k : Nat)), (31, .list 2 p.ps.length (prF p.ps)), (32, .int .i64 (p.ps.length : Nat)), (33, .int .i64 (k : Nat)), (51, .list 1 (p.ps.getD k Pr.z).vs.length (aF (p.ps.getD k Pr.z).vs)), (52, .int .i64 ((p.ps.getD k Pr.z).vs.length : Nat)), (53, .int .i64 (j : Nat))]) (fun _ => [.cells _ (some 45) [.int .i64 0, .int .i64 0], .cells _ (some 103) [.str (p.ps.getD k Pr.z).n, .list 1 (p.ps.getD k Pr.z).vs.length (aF (p.ps.getD k Pr.z).vs)]]) (fun j => j ≤ (p.ps.getD k Pr.z).vs.length ∧ mayJ c (p.ps.getD k Pr.z).vs j) (fun j => (p.ps.getD k Pr.z).vs.length - j) 0 ?_ ai rfl ?_
    · exact ⟨Nat.zero_le _, fun i hi => absurd hi (Nat.not_lt_zero _)⟩
    rintro j ⟨g1, g2⟩
    have hj := p9 hU ((p.ps.getD k Pr.z).vs.getD j []) c (by have := cI (l := (p.ps.getD k Pr.z).vs) (k := j); omega)
    refine xw ?_
    repeat' (first | exact Le.n | refine Lc.mk ?_ ?_)
    all_goals intros
    all_goals first
      | exact nxt (j + 1) ⟨by omega, qQ g2 (by assumption)⟩ (by omega) ai rfl
      | exact nxs (k + 1) ⟨by omega, aM h2 (Ff (by assumption) (by omega) (uO (by omega) g2))⟩ (by omega) ai aR
      | (apply aj
         have e1 := Fe (c := c) (q := p.ps.getD k Pr.z) (by assumption) (by omega) (uN (j := j) (by omega) (by assumption))
         rw [Ln.E_at q1 q2 q3 (by omega) h2 (by rw [e1]; decide), e1]
         rfl)
end
section
open Go Go.RowKit
theorem zn {c : Bool} : ∀ {l : List Pr} {i : Nat}, (firE c l i).e = 0 → firE c l i = .none
 | [], _, _ => rfl
 | x :: l, i, h => by
  simp only [firE] at h ⊢
  split at h
  ·rename_i h0
   rw [if_pos h0]
   exact zn h
  ·rename_i h0
   exact absurd h h0
theorem Ln.E_zero {c : Bool} {p : Ln} (h : (p.E c).e = 0) : p.E c = .none := by
 unfold Ln.E at h ⊢
 split at h
 ·cases h
 ·rename_i h1
  rw [if_neg h1]
  split at h
  ·cases h
  ·rename_i h2
   rw [if_neg h2]
   have := zn (c := c) (l := p.ps) (i := 0)
   cases hf : firE c p.ps 0 with
   | none =>
    rw [hf] at h
    simp only at h ⊢
    split at h
    ·rename_i h3
     rw [if_pos h3]
    ·cases h
   | errno e =>
    rw [hf] at h this
    exact absurd (this h) (by simp)
   | «at» e q =>
    rw [hf] at h this
    exact absurd (this h) (by simp)
attribute [local irreducible] AWp AOps aa ax OrOk ad ae
attribute [local irreducible] hdC hdB badI isS mayV encS quoS psT hdT eIf quoC
theorem Ed {G : Glo} (c : Int) : FnIs Tryz.prog G 96 [.int .u8 c] (.bool (quoC c)) := by
 have hGL : ad G [] := ab
 refine fn_x Tryz.func96 Tryz.call96 rfl rfl rfl rfl hGL ?_
 intro C hC
 refine xw ?_
 repeat' (first | exact Le.n | refine Lc.mk ?_ ?_)
 all_goals intros
 all_goals (apply aj; refine congrArg AVal.bool ?_)
 all_goals (unfold quoC; rw [Bool.eq_iff_iff]; simp only [dc, decide_eq_true_eq, reduceCtorEq, true_iff, false_iff]; omega)
theorem Bn {c : Bool} {vs : List (List UInt8)} {j : Nat} (hj : j < vs.length) : (vs.map (quoS c)).take (j + 1) = (vs.map (quoS c)).take j ++ [quoS c (vs.getD j [])] := by
 rw [List.take_succ_eq_append_getElem (by simpa using hj), List.getElem_map, List.getD_eq_getElem?_getD, List.getElem?_eq_getElem hj]
 rfl
theorem p8 {G : Glo} (hU : ad G utfTy) (p : Ln) (c : Bool) (ho : p.Fit) : FnIs Tryz.prog G 49 [p.A, .bool c] (.tuple [.str (p.T c), .agg [.int .i64 (p.E c).e, .int .i64 (p.E c).p]]) := by
  have h0 := jG hU p c ho
  have hI := kP (G := G) (p.E c).e (p.E c).p
  by_cases hz : (p.E c).e = 0
  case neg =>
    rw [jP.2 hz] at hI
    rw [show p.T c = [] by
      unfold Ln.T
      split
      · rename_i hq; rw [hq] at hz; exact absurd rfl hz
      · rfl]
    have hGL : ad G [] := ab
    refine fn_x Tryz.func49 Tryz.call49 rfl rfl rfl rfl hGL ?_
    intro C hC
    refine xn1 ?_
    intro b1 b2
    refine dw_p mixed hC hGL false (fun (_ : Unit) => [(4, .str []), (5, .own 0 (.pointer (some ⟨b1, 0, none⟩)))]) (fun _ => [.cells b1 (some 45) [.int .i64 (p.E c).e, .int .i64 (p.E c).p], .cells b2 (some 45) [.int .i64 (p.E c).e, .int .i64 (p.E c).p]]) (.br 0 (.take 1 (.br 2 (.done) (.nil))) (.br 1 (.br 0 (.br 2 (.done) (.nil)) (.nil)) (.nil))) (by kernel_rfl) ?_ ?_
    · refine xn ?_
      repeat' (first | exact Le.n | refine Lc.mk ?_ ?_)
      all_goals intros
      all_goals exact ⟨(), ⟨rfl, rfl, trivial⟩, rfl⟩
    · intro _
      exact xn0
  have hq := Ln.E_zero hz
  rw [hq] at h0 hI
  rw [hq]
  simp only [Err.e, Err.p] at h0 hI ⊢
  rw [dc.2 rfl] at hI
  rw [show p.T c = p.txt c by unfold Ln.T; rw [hq], yD]
  have hb0 := di (G := G)
  have i1 : p.ps.length ≤ 20 := by
    have h := hq
    unfold Ln.E at h
    split at h
    · cases h
    · split at h
      · cases h
      · omega
  have i2 : ∀ k, k < p.ps.length → (p.ps.getD k Pr.z).vs.length ≠ 0 ∨ True := fun _ _ => .inr trivial
  have o1 := ho.g
  have o2 := ho.n
  have o3 := ho.v
  have o4 : ∀ k, k ≤ p.ps.length → (psT c p.ps k).length ≤ 20 * 15002 := fun k hk => by
    have h1 := sl (c := c) ho.q k hk
    rw [show 2 + 6 * 2500 = 15002 by decide] at h1
    have h2 := Nat.mul_le_mul_right 15002 (show k ≤ 20 by omega)
    exact Nat.le_trans h1 h2
  have hd1 : p.g.length ≠ 0 → p.g ++ [46] ++ p.n = hdT p := fun h => by unfold hdT; rw [if_neg h]
  have hd0 : p.g.length = 0 → p.n = hdT p := fun h => by unfold hdT; rw [if_pos h]
  have hdl : (hdT p).length ≤ 5001 := by
    unfold hdT
    split
    · omega
    · simp only [List.length_append, List.length_cons, List.length_nil]; omega
  have hGL : ad G [] := ab
  refine fn_a Tryz.func49 Tryz.call49 rfl rfl rfl rfl ?_
  intro C hC
  refine cuty hC hGL (fun bl : Nat => [(1, .bool c), (2, .rop [.str p.g, .str p.n, .list 2 p.ps.length (prF p.ps), .str p.v] 0), (5, .own 0 (.pointer (some ⟨bl, 0, none⟩)))]) (fun bl => [.cells bl (some 45) [.int .i64 0, .int .i64 0]]) (fun _ => True) ?_ fun b1 _ => ?_
  · refine xw1 ?_
    intro bl
    exact cy bl trivial
  refine cuty hC hGL (fun bl : Nat => [(1, .bool c), (2, .rop [.str p.g, .str p.n, .list 2 p.ps.length (prF p.ps), .str p.v] 0), (5, .own 0 (.pointer (some ⟨b1, 0, none⟩)))]) (fun bl => [.cells b1 (some 45) [.int .i64 0, .int .i64 0], .cells bl (some 45) [.int .i64 0, .int .i64 (-1)]]) (fun _ => True) ?_ fun b2 _ => ?_
  · refine xw1 ?_
    intro bl
    exact cy bl trivial
  refine cut hC hGL [(1, .bool c), (2, .rop [.str p.g, .str p.n, .list 2 p.ps.length (prF p.ps), .str p.v] 0), (5, .own 0 (.pointer (some ⟨b1, 0, none⟩))), (7, .str p.n)] [.cells b1 (some 45) [.int .i64 0, .int .i64 0], .cells b2 (some 45) [.int .i64 0, .int .i64 (-1)]] True ?_ fun _ => ?_
  · exact xw0
  refine cuty hC hGL (fun q : List UInt8 => [(1, .bool c), (2, .rop [.str p.g, .str p.n, .list 2 p.ps.length (prF p.ps), .str p.v] 0), (5, .own 0 (.pointer (some ⟨b1, 0, none⟩))), (7, .str q)]) (fun _ => [.cells b1 (some 45) [.int .i64 0, .int .i64 0], .cells b2 (some 45) [.int .i64 0, .int .i64 (-1)]]) (fun q => q = hdT p ++ psT c p.ps 0) ?_ fun q hq => ?_
  · rw [show psT c p.ps 0 = [] by unfold psT; rfl, List.append_nil]
    refine xn ?_
    repeat' (first | exact Le.n | refine Lc.mk ?_ ?_)
    all_goals intros
    all_goals first
      | exact cy _ (hd1 (by assumption))
      | exact cy _ (hd0 (by assumption))
  subst hq
  refine bw hC hGL ?_
  refine xn1 ?_
  refine lp hC hGL (fun k : Nat => [(1, .bool c), (2, .rop [.str p.g, .str p.n, .list 2 p.ps.length (prF p.ps), .str p.v] 0), (5, .own 0 (.pointer (some ⟨b1, 0, none⟩))), (7, .str (hdT p ++ psT c p.ps k)), (31, .list 2 p.ps.length (prF p.ps)), (32, .int .i64 (p.ps.length : Nat)), (33, .int .i64 (k : Nat))]) (fun _ => [.cells b1 (some 45) [.int .i64 0, .int .i64 0], .cells b2 (some 45) [.int .i64 0, .int .i64 (-1)]]) (fun k => k ≤ p.ps.length) (fun k => p.ps.length - k) 0 ?_ ai rfl ?_
  · exact Nat.zero_le _
  intro k h1
  have ol := o4 k h1
  have hqk := ho.q k
  refine xn ?_
  repeat' (first | exact Le.n | refine Lc.mk ?_ ?_)
  all_goals intros
  · rename_i b9 hkl
    have hkn : k < p.ps.length := by omega
    have hsucc := oD (c := c) hkn
    have hpl := yT c (p.ps.getD k Pr.z)
    have hjl : (Lib.join ((p.ps.getD k Pr.z).vs.map (quoS c)) [44]).length ≤ 100000 := by
      have h2 := o0 ((p.ps.getD k Pr.z).vs.map (quoS c))
      have h3 := kW c (p.ps.getD k Pr.z).vs
      rw [List.length_map] at h2
      omega
    refine oR 10 1 rfl ?_
    refine lp hC hGL (fun y : List (List UInt8) × Value => [(1, .bool c), (2, .rop [.str p.g, .str p.n, .list 2 p.ps.length (prF p.ps), .str p.v] 0), (5, .own 0 (.pointer (some ⟨b1, 0, none⟩))), (7, .str (hdT p ++ psT c p.ps k)), (9, .own 2 (.pointer (some ⟨b9, 0, none⟩))), (10, .own 3 y.2), (31, .list 2 p.ps.length (prF p.ps)), (32, .int .i64 (p.ps.length : Nat)), (33, .int .i64 (k : Nat)), (38, .list 1 (p.ps.getD k Pr.z).vs.length (aF (p.ps.getD k Pr.z).vs)), (39, .int .i64 ((p.ps.getD k Pr.z).vs.length : Nat)), (40, .int .i64 (y.1.length : Nat))]) (fun y => [.cells b1 (some 45) [.int .i64 0, .int .i64 0], .cells b2 (some 45) [.int .i64 0, .int .i64 (-1)], .cells b9 (some 103) [.str (p.ps.getD k Pr.z).n, .list 1 (p.ps.getD k Pr.z).vs.length (aF (p.ps.getD k Pr.z).vs)], .row y.2 none 1 y.1.length (aN y.1)]) (fun y => y.1.length ≤ (p.ps.getD k Pr.z).vs.length ∧ y.1 = ((p.ps.getD k Pr.z).vs.map (quoS c)).take y.1.length) (fun y => (p.ps.getD k Pr.z).vs.length - y.1.length) ([], .slice none 0 0) ?_ ai rfl ?_
    · exact ⟨Nat.zero_le _, rfl⟩
    rintro ⟨l, v⟩ ⟨g1, g2⟩
    dsimp only at g1 g2
    have hj1 := cI (l := (p.ps.getD k Pr.z).vs) (k := l.length)
    have hel := sX c ((p.ps.getD k Pr.z).vs.getD l.length [])
    have hE := oz (G := G) ((p.ps.getD k Pr.z).vs.getD l.length []) (by omega)
    have hQ := iw (G := G) (eIf c ((p.ps.getD k Pr.z).vs.getD l.length [])) 96 quoC (by omega) (fun c _ => Ed c)
    have hY : 0 ≤ fstB quoC (eIf c ((p.ps.getD k Pr.z).vs.getD l.length [])) → quoS c ((p.ps.getD k Pr.z).vs.getD l.length []) = 34 :: eIf c ((p.ps.getD k Pr.z).vs.getD l.length []) ++ [34] := fun h => by unfold quoS; rw [if_neg (by omega)]
    have hN : fstB quoC (eIf c ((p.ps.getD k Pr.z).vs.getD l.length [])) < 0 → quoS c ((p.ps.getD k Pr.z).vs.getD l.length []) = eIf c ((p.ps.getD k Pr.z).vs.getD l.length []) := fun h => by unfold quoS; rw [if_pos h]
    have hT := fun (h : l.length < (p.ps.getD k Pr.z).vs.length) => Bn (c := c) h
    have hx1 : eIf true ((p.ps.getD k Pr.z).vs.getD l.length []) = encS ((p.ps.getD k Pr.z).vs.getD l.length []) := by unfold eIf; rfl
    have hx2 : eIf false ((p.ps.getD k Pr.z).vs.getD l.length []) = (p.ps.getD k Pr.z).vs.getD l.length [] := by unfold eIf; rfl
    have fin : (p.ps.getD k Pr.z).vs.length ≤ l.length → l = (p.ps.getD k Pr.z).vs.map (quoS c) := fun h => by rw [g2, List.take_of_length_le (by rw [List.length_map]; omega)]
    have go : ∀ (w : List UInt8), w = quoS c ((p.ps.getD k Pr.z).vs.getD l.length []) → l.length < (p.ps.getD k Pr.z).vs.length → (l ++ [w]).length ≤ (p.ps.getD k Pr.z).vs.length ∧ l ++ [w] = ((p.ps.getD k Pr.z).vs.map (quoS c)).take (l ++ [w]).length := fun w hw h => by
      rw [List.length_append, List.length_singleton, hT h, ← g2, hw]
      exact ⟨by omega, rfl⟩
    cases c
    all_goals
      simp only [hx1, hx2] at hQ hY hN hel
      refine xn ?_
      repeat' (first | exact Le.n | refine Lc.mk ?_ ?_)
      all_goals intros
      all_goals try dsimp only at *
    all_goals first
      | (refine nxt (l ++ [_], .slice _ _ _) (go _ (hY (by assumption)).symm (by omega)) (by dsimp only; rw [List.length_append, List.length_singleton]; omega) ⟨rfl, rfl, rfl, rfl, rfl, rfl, rfl, rfl, rfl, rfl, rfl, ?_, trivial⟩ ?_
         · show some (AVal.int .i64 (((l.length : Nat) : Int) + 1)) = some (AVal.int .i64 ((l ++ [_]).length : Nat))
           rw [List.length_append]; rfl
         · dsimp only
           rw [← bS, List.length_append]
           rfl)
      | (refine nxt (l ++ [_], .slice _ _ _) (go _ (hN (by assumption)).symm (by omega)) (by dsimp only; rw [List.length_append, List.length_singleton]; omega) ⟨rfl, rfl, rfl, rfl, rfl, rfl, rfl, rfl, rfl, rfl, rfl, ?_, trivial⟩ ?_
         · show some (AVal.int .i64 (((l.length : Nat) : Int) + 1)) = some (AVal.int .i64 ((l ++ [_]).length : Nat))
           rw [List.length_append]; rfl
         · dsimp only
           rw [← bS, List.length_append]
           rfl)
      | skip
    · obtain rfl := fin (by omega)
      refine dw_p mixed hC hGL true (fun (_ : Unit) => [(1, .bool false), (2, .rop [.str p.g, .str p.n, .list 2 p.ps.length (prF p.ps), .str p.v] 0), (5, .own 0 (.pointer (some ⟨b1, 0, none⟩))), (7, .str (hdT p ++ psT false p.ps (k + 1))), (31, .list 2 p.ps.length (prF p.ps)), (32, .int .i64 (p.ps.length : Nat)), (33, .int .i64 (k : Nat))]) (fun _ => [.cells b1 (some 45) [.int .i64 0, .int .i64 0], .cells b2 (some 45) [.int .i64 0, .int .i64 (-1)], .cells b9 (some 103) [.str (p.ps.getD k Pr.z).n, .list 1 (p.ps.getD k Pr.z).vs.length (aF (p.ps.getD k Pr.z).vs)], .row v none 1 ((p.ps.getD k Pr.z).vs.map (quoS false)).length (aN ((p.ps.getD k Pr.z).vs.map (quoS false)))]) (.take 0 (.take 1 (.take 2 (.take 3 (.take 4 (.take 5 (.br 6 (.take 7 (.take 8 (.take 9 (.done)))) (.nil)))))))) (by kernel_rfl) ?_ ?_
      · refine xn1 ?_
        intro C hC
        refine ap (i := 3) rfl (bP ((p.ps.getD k Pr.z).vs.map (quoS false)) [44] v (by rw [List.length_map]; omega) (by omega)) ?_
        have hlen : (hdT p ++ psT false p.ps k).length ≤ 400000 := by rw [List.length_append]; omega
        refine xn ?_
        repeat' (first | exact Le.n | refine Lc.mk ?_ ?_)
        all_goals intros
        all_goals
          refine ⟨(), ⟨rfl, rfl, rfl, ?_, rfl, rfl, rfl, trivial⟩, rfl⟩
          rw [hsucc]
          unfold prT
          simp only [List.append_assoc, List.cons_append, List.nil_append]
          rfl
      · intro _
        refine xn1 ?_
        exact nxs (k + 1) (by omega) (by omega) ai aR
    · obtain rfl := fin (by omega)
      refine dw_p mixed hC hGL true (fun (_ : Unit) => [(1, .bool true), (2, .rop [.str p.g, .str p.n, .list 2 p.ps.length (prF p.ps), .str p.v] 0), (5, .own 0 (.pointer (some ⟨b1, 0, none⟩))), (7, .str (hdT p ++ psT true p.ps (k + 1))), (31, .list 2 p.ps.length (prF p.ps)), (32, .int .i64 (p.ps.length : Nat)), (33, .int .i64 (k : Nat))]) (fun _ => [.cells b1 (some 45) [.int .i64 0, .int .i64 0], .cells b2 (some 45) [.int .i64 0, .int .i64 (-1)], .cells b9 (some 103) [.str (p.ps.getD k Pr.z).n, .list 1 (p.ps.getD k Pr.z).vs.length (aF (p.ps.getD k Pr.z).vs)], .row v none 1 ((p.ps.getD k Pr.z).vs.map (quoS true)).length (aN ((p.ps.getD k Pr.z).vs.map (quoS true)))]) (.take 0 (.take 1 (.take 2 (.take 3 (.take 4 (.take 5 (.br 6 (.take 7 (.take 8 (.take 9 (.done)))) (.nil)))))))) (by kernel_rfl) ?_ ?_
      · refine xn1 ?_
        intro C hC
        refine ap (i := 3) rfl (bP ((p.ps.getD k Pr.z).vs.map (quoS true)) [44] v (by rw [List.length_map]; omega) (by omega)) ?_
        have hlen : (hdT p ++ psT true p.ps k).length ≤ 400000 := by rw [List.length_append]; omega
        refine xn ?_
        repeat' (first | exact Le.n | refine Lc.mk ?_ ?_)
        all_goals intros
        all_goals
          refine ⟨(), ⟨rfl, rfl, rfl, ?_, rfl, rfl, rfl, trivial⟩, rfl⟩
          rw [hsucc]
          unfold prT
          simp only [List.append_assoc, List.cons_append, List.nil_append]
          rfl
      · intro _
        refine xn1 ?_
        exact nxs (k + 1) (by omega) (by omega) ai aR
  · have hkk : k = p.ps.length := by omega
    subst hkk
    refine dw_p mixed hC hGL false (fun (_ : Unit) => [(4, .str (hdT p ++ psT c p.ps p.ps.length ++ [58] ++ p.v)), (5, .own 0 (.pointer (some ⟨b1, 0, none⟩)))]) (fun _ => [.cells b1 (some 45) [.int .i64 0, .int .i64 (-1)], .cells b2 (some 45) [.int .i64 0, .int .i64 (-1)]]) (.take 0 (.take 1 (.take 2 (.take 3 (.take 4 (.br 5 (.take 6 (.br 7 (.done) (.nil))) (.nil))))))) (by kernel_rfl) ?_ ?_
    · refine xn ?_
      repeat' (first | exact Le.n | refine Lc.mk ?_ ?_)
      all_goals intros
      all_goals exact ⟨(), ⟨rfl, rfl, trivial⟩, rfl⟩
    · intro _
      exact xn0
end
section
open Go Go.RowKit
theorem Ap {l : List (List UInt8)} {j : Nat} (h : j < l.length) : Lib.lens (l.take (j + 1)) = Lib.lens (l.take j) + (l.getD j []).length :=
 Lib.lens_take_succ l j _ (by rw [List.getD_eq_getElem?_getD, List.getElem?_eq_getElem h]; rfl)
theorem Aq {l : List (List UInt8)} {j : Nat} (h : l.length ≤ j) : Lib.lens (l.take j) = Lib.lens l := by rw [List.take_of_length_le h]
def Pr.w (q : Pr) : Nat := q.n.length + q.vs.length + Lib.lens q.vs
def Ln.b (p : Ln) : Nat := p.ps.length + p.g.length + p.n.length + p.v.length
attribute [local irreducible] AWp AOps aa ax OrOk ad ae
theorem CD {G : Glo} (p : Ln) (ho : p.OK 1048576) : ae Tryz.prog G 17 [p.A] [] (fun r H => (∃ a, r = .ret a ∧ ∃ b, a = .bool b ∧ (b = false → p.OK 2500)) ∧ H = []) := by
 have o1 := ho.g
 have o2 := ho.n
 have o3 := ho.v
 have o4 := ho.ps
 have hGL : ad G [] := ab
 refine fn_x Tryz.func17 Tryz.call17 rfl rfl rfl rfl hGL ?_
 intro C hC
 refine xw1 ?_
 refine lp hC hGL (fun x : Nat × Nat => [(3, .int .i64 (x.2 : Nat)), (24, .list 2 p.ps.length (prF p.ps)), (25, .int .i64 (p.ps.length : Nat)), (26, .int .i64 (x.1 : Nat))]) (fun _ => []) (fun x => x.1 ≤ p.ps.length ∧ p.b ≤ x.2 ∧ (∀ j, j < x.1 → p.b + (p.ps.getD j Pr.z).w ≤ x.2) ∧ x.2 ≤ p.b + x.1 * 3145728) (fun x => p.ps.length - x.1) (0, p.b) ?_ ai rfl ?_
 ·exact ⟨Nat.zero_le _, Nat.le_refl _, fun j h => absurd h (Nat.not_lt_zero _), by simp⟩
 rintro ⟨k, n⟩ ⟨h1, h2, h3, h4⟩
 dsimp only at h1 h2 h3 h4
 have hq := ho.q k
 have hbl : p.b ≤ 4194304 := by unfold Ln.b; omega
 refine xw ?_
 repeat' (first | exact Le.n | refine Lc.mk ?_ ?_)
 all_goals intros
 ·refine lp hC hGL (fun x : Nat × Nat => [(3, .int .i64 (x.2 : Nat)), (24, .list 2 p.ps.length (prF p.ps)), (25, .int .i64 (p.ps.length : Nat)), (26, .int .i64 (k : Nat)), (40, .list 1 (p.ps.getD k Pr.z).vs.length (aF (p.ps.getD k Pr.z).vs)), (41, .int .i64 ((p.ps.getD k Pr.z).vs.length : Nat)), (42, .int .i64 (x.1 : Nat))]) (fun _ => [.cells _ (some 103) [.str (p.ps.getD k Pr.z).n, .list 1 (p.ps.getD k Pr.z).vs.length (aF (p.ps.getD k Pr.z).vs)]]) (fun x => x.1 ≤ (p.ps.getD k Pr.z).vs.length ∧ x.2 = n + ((p.ps.getD k Pr.z).n.length + (p.ps.getD k Pr.z).vs.length) + Lib.lens ((p.ps.getD k Pr.z).vs.take x.1)) (fun x => (p.ps.getD k Pr.z).vs.length - x.1) (0, n + ((p.ps.getD k Pr.z).n.length + (p.ps.getD k Pr.z).vs.length)) ?_ ai rfl ?_
  ·exact ⟨Nat.zero_le _, by simp [Lib.lens]⟩
  rintro ⟨j, m⟩ ⟨g1, g2⟩
  dsimp only at g1 g2
  have hj1 := Lib.lens_take_le (p.ps.getD k Pr.z).vs j
  have hj2 := Lib.lens_take_le (p.ps.getD k Pr.z).vs (j + 1)
  have hj3 : j < (p.ps.getD k Pr.z).vs.length → _ := fun h => Ap h
  have hj4 : (p.ps.getD k Pr.z).vs.length ≤ j → _ := fun h => Aq h
  refine xw ?_
  repeat' (first | exact Le.n | refine Lc.mk ?_ ?_)
  all_goals intros
  all_goals try dsimp only at *
  ·refine nxt (j + 1, m + ((p.ps.getD k Pr.z).vs.getD j []).length) ⟨by dsimp only; omega, ?_⟩ (by dsimp only; omega) ai rfl
   dsimp only
   rw [hj3 (by omega)]
   omega
  ·have e := hj4 (by omega)
   have hw : (p.ps.getD k Pr.z).w = (p.ps.getD k Pr.z).n.length + (p.ps.getD k Pr.z).vs.length + Lib.lens (p.ps.getD k Pr.z).vs := rfl
   refine nxs (k + 1, m) ⟨by dsimp only; omega, by dsimp only; omega, aM (fun j hj => by have := h3 j hj; dsimp only; omega) (by dsimp only; omega), by dsimp only; omega⟩ (by dsimp only; omega) ai aR
 ·refine ⟨[], List.nil_sublist _, ⟨_, rfl, _, rfl, fun h => ?_⟩, rfl⟩
  have h := g8.1 h
  dsimp only at h
  have hn : n ≤ 2500 := by omega
  unfold Ln.b at h2 h3
  refine ⟨by omega, by omega, by omega, by omega, fun j => ?_⟩
  by_cases hj : j < p.ps.length
  ·have := h3 j (by omega)
   unfold Pr.w at this
   omega
  ·rw [List.getD_eq_getElem?_getD, List.getElem?_eq_none (by omega)]
   exact ⟨by simp [Pr.z], by simp [Pr.z], by simp [Pr.z, Lib.lens]⟩
end
section
open Go Go.RowKit
attribute [local irreducible] AWp AOps aa ax OrOk ad ae
attribute [local irreducible] hdC hdB badI
theorem mG {G : Glo} (s : List UInt8) (b : Bool) (hl : s.length ≤ 9223372036854775807) : FnIs Tryz.prog G 104 [.str s, .bool b] (.bool (hdB b s)) := by
 have hB := nr (G := G) s hl
 have hGL : ad G [] := ab
 refine fn_x Tryz.func104 Tryz.call104 rfl rfl rfl rfl hGL ?_
 intro C hC
 refine xw1 ?_
 refine lp hC hGL (fun i : Nat => [(0, .str s), (1, .bool b), (8, .int .i64 (s.length : Nat)), (9, .int .i64 (i : Nat))]) (fun _ => []) (fun i => i ≤ s.length ∧ ∀ j, j < i → hdC b (aa s j : Int) = false) (fun i => s.length - i) 0 ?_ ai rfl ?_
 ·exact ⟨Nat.zero_le _, fun j h => absurd h (Nat.not_lt_zero _)⟩
 rintro i ⟨h1, h2⟩
 refine xw ?_
 repeat' (first | exact Le.n | refine Lc.mk ?_ ?_)
 all_goals intros
 all_goals first
  | (apply aj; rw [CP (i := i) (by omega) (by first | exact kZ (.inl (by omega)) | exact kZ (.inr (.inl (by omega))) | exact kZ (.inr (.inr ⟨by omega, by assumption⟩))) h2]; rfl)
  | (refine nxt (i + 1) ⟨by omega, bF h2 (by first | exact sH (by omega) (.inl (by omega)) | exact sH (by omega) (.inr (.inl (by omega))) | exact sH (by omega) (.inr (.inr ⟨by omega, by assumption⟩)))⟩ (by omega) ai rfl)
  | (apply aj; rw [zi (i := i) (by omega) h2])
theorem sh {G : Glo} (s : List UInt8) (f : Nat) (cs : List AVal) (p : Int → Bool) (hl : s.length ≤ 9223372036854775807) (hp : ∀ c : Nat, c < 256 → FnIs Tryz.prog G f [.int .u8 (c : Int), .rop cs 0] (.bool (p c))) : FnIs Tryz.prog G 95 [.str s, .func (.func f) [] [.rop cs 0]] (.int .i64 (fstB p s)) := by
 have k1 := fun i (_ : 0 ≤ (aa s i : Int)) => hp (aa s i) (aK s i)
 have hGL : ad G [] := ab
 refine fn_x Tryz.func95 Tryz.call95 rfl rfl rfl rfl hGL ?_
 intro C hC
 refine xw1 ?_
 intro bl cap hcap
 refine lp hC hGL (fun (i : Nat) => [(1, .func (.func f) [] [.rop cs 0]), (8, .own 0 (.slice (some ⟨bl, 0, none⟩) s.length cap)), (9, .int .i64 s.length), (10, .int .i64 i)]) (fun _ => [.buf bl s cap]) (fun i => i ≤ s.length ∧ ∀ j, j < i → p (aa s j : Int) = false) (fun i => s.length - i) 0 ?_ ai rfl ?_
 ·exact ⟨Nat.zero_le _, fun j h => absurd h (Nat.not_lt_zero _)⟩
 rintro i ⟨hi, hb0⟩
 refine xw ?_
 repeat' (first | exact Le.n | refine Lc.mk ?_ ?_)
 all_goals intros
 all_goals first
  | (apply aj; rw [gP (i := i) (by omega) (by assumption) hb0])
  | (refine nxt (i + 1) ⟨by omega, bF hb0 (by assumption)⟩ (by omega) ai rfl)
  | (apply aj; rw [dH (fun j hj => hb0 j (by omega))]; rfl)
theorem wS {G : Glo} (b : Bool) (c : Int) : FnIs Tryz.prog G 139 [.int .u8 c, .rop [.bool b] 0] (.bool (hdC b c)) := by
 have h := mM (G := G) c
 have hGL : ad G [] := ab
 refine fn_x Tryz.func139 Tryz.call139 rfl rfl rfl rfl hGL ?_
 intro C hC
 refine xw ?_; refine ⟨fun h1 h2 => ?_, fun h1 h2 => ?_, fun h1 => ?_, .n⟩
 all_goals (apply aj; refine congrArg AVal.bool ?_; first | rw [rb] at h1 | rw [← Bool.not_eq_true, rb] at h1)
 ·rcases h1 with h1 | h1
  ·exact (kZ (.inl ⟨h1.1, h1.2, h2⟩)).symm
  ·exact (kZ (.inr (.inl h1))).symm
 ·rw [Bool.eq_iff_iff]; cases b
  ·rw [rb]; simp; omega
  ·rw [Fh]; simp; omega
 ·cases b
  ·rw [Bool.eq_iff_iff, rb]; simp; omega
  ·rw [Bool.eq_iff_iff, Fh]; simp; omega
theorem lZ {G : Glo} (hU : ad G utfTy) (s : List UInt8) (b : Bool) (hl : s.length ≤ 9223372036854775807) : FnIs Tryz.prog G 86 [.str s, .bool b] (.bool (hdB b s)) := by
 have h1 := sk hU s hl
 have h2 := sh (G := G) s 139 [.bool b] (hdC b) hl (fun c _ => wS b c)
 have hGL : ad G [] := ab
 refine fn_x Tryz.func86 Tryz.call86 rfl rfl rfl rfl hGL ?_
 intro C hC
 refine xw ?_; refine ⟨fun h => ?_, fun h => ?_, .n⟩
 all_goals (apply aj; refine congrArg AVal.bool ?_; unfold hdB; rw [Bool.eq_iff_iff]; simp only [jM, decide_eq_true_eq, reduceCtorEq, false_iff]; omega)
end
section
open Go
def andL : List Bool → Bool
 | [] => true
 | b :: l => b && andL l
def rg (P : Program) [Tab P] (cs ds : List AVal) : List Field → Option (List Bool)
 | [] => some []
 | f :: fs => match tab P f.type, cs[f.offset]?, ds[f.offset]?, rg P cs ds fs with
  | some x, some a, some b, some l => match x.desc, a, b with
   | .int _, .int k m, .int j q => match Nat.beq (kix k) (kix j) with
    | true => some (eqB m q :: l)
    | false => none
   | .string, .str s, .str t => some (seqB s t :: l)
   | .bool, .bool s, .bool t => some ((s == t) :: l)
   | _, _, _ => none
  | _, _, _, _ => none
theorem uB {P : Program} [Tab P] {xs : Array Value} {v : Value} {t : TypeId} {x : TI} {o : Nat} (ht : tab P t = some x) (hd : a8 x.desc = false) (hv : xs[o]? = some v) (w : World) : (part t xs o).run P w = .ok v w := by
 simp only [part, Sem.run_bind, bM ht, hd, Result.andThen_ok, Bool.false_eq_true, if_false, hv, Sem.run_pure]
theorem gR {P : Program} [Tab P] {R : Seal} {cs ds : List AVal} {xs ys : Array Value} (ha : RelL R cs xs.toList) (hb : RelL R ds ys.toList) (d : Nat) (w : World) :
  ∀ (fs : List Field) (l : List Bool), (fs.all fun f => f.name != "_") = true → rg P cs ds fs = some l → (Op.eqFields (d + 1) xs ys fs).run P w = .ok (andL l) w
 | [], l, _, h => by
  simp only [rg, Option.some.injEq] at h
  subst h
  rfl
 | f :: fs, l, hn, h => by
  simp only [List.all_cons, Bool.and_eq_true, bne_iff_ne, ne_eq] at hn
  simp only [rg] at h
  split at h
  ·rename_i x a b l' ht h1 h2 h3
   have ih := gR ha hb d w fs l' hn.2 h3
   obtain ⟨va, e1, r1⟩ := bX ha h1
   obtain ⟨vb, e2, r2⟩ := bX hb h2
   have e1 : xs[f.offset]? = some va := by simpa using e1
   have e2 : ys[f.offset]? = some vb := by simpa using e2
   have fin : ∀ r : Bool, a8 x.desc = false → (Op.equalIn (d + 1) f.type va vb).run P w = .ok r w → (Op.eqFields (d + 1) xs ys (f :: fs)).run P w = .ok (andL (r :: l')) w := by
    intro r hd hr
    simp only [Op.eqFields, ne_eq, hn.1, not_false_eq_true, if_true, Sem.run_bind, uB ht hd e1, uB ht hd e2, Result.andThen_ok, hr]
    cases r
    ·rfl
    ·exact ih
   split at h
   ·rename_i q1 k m j q hd
    split at h
    ·rename_i hk
     cases h
     obtain rfl := oX hk
     obtain rfl := am.1 (bG r1 rfl)
     obtain rfl := am.1 (bG r2 rfl)
     refine fin _ (by rw [hd]; rfl) ?_
     rw [run_equalIn_int w d f.type _ _ _ _ (by rw [a6 ht, hd])]
     unfold eqB
     rfl
    ·cases h
   ·rename_i s t hd
    cases h
    obtain rfl := aB.1 (bG r1 rfl)
    obtain rfl := aB.1 (bG r2 rfl)
    refine fin _ (by rw [hd]; rfl) ?_
    rw [run_equalIn_string w d f.type _ _ (by rw [a6 ht, hd])]
    rw [ByteArray.toList_eq, ByteArray.toList_eq]
    unfold seqB
    simp
   ·rename_i s t hd
    cases h
    obtain rfl := aD.1 (bG r1 rfl)
    obtain rfl := aD.1 (bG r2 rfl)
    exact fin _ (by rw [hd]; rfl) (run_equalIn_bool' w d f.type _ _ (by rw [a6 ht, hd]))
   ·cases h
  ·cases h
section
variable {P : Program} [Tab P] {C : Ctx} {env : Env} {H : Heap} {x y : Operand} {T ty : TypeId}
theorem tr {R : Seal} {cs : List AVal} {v : Value} (h : Rel R (.agg cs) v) : ∃ vs, v = .agg vs ∧ RelL R cs vs.toList := by
 obtain ⟨h1, h2⟩ := h
 cases v <;> first | exact ⟨_, rfl, h1⟩ | (simp [AVal.isAgg, vAgg] at h2)
theorem BS {cs ds : List AVal} {fs : Array Field} {l : List Bool} {xT : TI} (b : Bool) (hx : ah env x = some (.agg cs)) (hy : ah env y = some (.agg ds)) (h1 : tab P T = some xT) (h2 : xT.desc = .struct fs)
  (h3 : P.stoodInHeld T = false) (h4 : P.eqGuardType P.depth T = false) (h5 : (fs.toList.all fun f => f.name != "_") = true) (h6 : rg P cs ds fs.toList = some l) (hb : andL l = b) : RunV P C H env (.binOp .eql T x y ty) (.bool b) := by
 intro R ρ w hm hf dst t p af g
 refine ⟨_, ?_, aD.2 rfl⟩
 obtain ⟨xs, ex, rx⟩ := tr (hf _ _ hx)
 obtain ⟨ys, ey, ry⟩ := tr (hf _ _ hy)
 have hu : P.underlying T = some (.struct fs) := by rw [a6 h1, h2]
 have hfo : P.fieldsOf T = fs := by unfold Program.fieldsOf; rw [hu]
 have e1 : (Op.equalIn 10000 T (.agg xs) (.agg ys)).run P w = .ok b w := by
  rw [show (10000 : Nat) = 9999 + 1 from rfl, run_equalIn_agg w 9999 T xs ys (by rw [hfo]; exact hu) h3, hfo]
  subst hb
  exact gR rx ry 9998 w _ _ h5 h6
 simp only [execOp, ex, ey, Sem.run_bind, run_eql_struct, e1, run_eqGuard_agg w .eql T x y xs ys h4, Result.andThen_ok, Sem.run_pure]
theorem qA {cs ds : List AVal} {fs : Array Field} {l : List Bool} {xT : TI} (b : Bool) (hx : ah env x = some (.agg cs)) (hy : ah env y = some (.agg ds)) (h1 : tab P T = some xT) (h2 : xT.desc = .struct fs)
  (h3 : P.stoodInHeld T = false) (h4 : P.eqGuardType P.depth T = false) (h5 : (fs.toList.all fun f => f.name != "_") = true) (h6 : rg P cs ds fs.toList = some l) (hb : andL l = b) : RunV P C H env (.binOp .neq T x y ty) (.bool (!b)) := by
 intro R ρ w hm hf dst t p af g
 refine ⟨_, ?_, aD.2 rfl⟩
 obtain ⟨xs, ex, rx⟩ := tr (hf _ _ hx)
 obtain ⟨ys, ey, ry⟩ := tr (hf _ _ hy)
 have hu : P.underlying T = some (.struct fs) := by rw [a6 h1, h2]
 have hfo : P.fieldsOf T = fs := by unfold Program.fieldsOf; rw [hu]
 have e1 : (Op.equalIn 10000 T (.agg xs) (.agg ys)).run P w = .ok b w := by
  rw [show (10000 : Nat) = 9999 + 1 from rfl, run_equalIn_agg w 9999 T xs ys (by rw [hfo]; exact hu) h3, hfo]
  subst hb
  exact gR rx ry 9998 w _ _ h5 h6
 simp only [execOp, ex, ey, Sem.run_bind, run_neq_struct, e1, run_eqGuard_agg w .neq T x y xs ys h4, Result.andThen_ok, Sem.run_pure]
end
end
section
open Go Go.RowKit
attribute [local irreducible] AWp AOps aa ax OrOk ad ae
attribute [local irreducible] hdC hdB badI fU
theorem nR {G : Glo} (hGL : ad G errTy) (x : Err) : FnIs Tryz.prog G 105 [x.A] x.b.A := by
 have h := lz hGL x
 cases x
 all_goals
  refine fn_x Tryz.func105 Tryz.call105 rfl rfl rfl rfl hGL ?_
  intro C hC
  exact xw0
theorem nM (t : Stm) : andL [eqB t.y 0, eqB t.m 0, eqB t.d 0, eqB t.h 0, eqB t.i 0, eqB t.s 0, t.z == false, eqB t.o 0] = fU t := by
 unfold fU
 rw [Bool.eq_iff_iff]
 simp only [andL, Bool.and_eq_true, dc, Bool.and_true, decide_eq_true_eq, beq_iff_eq]
theorem wd {G : Glo} (v : Vl) : FnIs Tryz.prog G 103 [v.A] (.bool v.only) := by
 have hz := nM v.st
 have hGL : ad G [] := ab
 refine fn_x Tryz.func103 Tryz.call103 rfl rfl rfl rfl hGL ?_
 intro C hC
 refine xw ?_
 repeat' (first | exact Le.n | refine Lc.mk ?_ ?_)
 all_goals intros
 all_goals try (refine aH hC hGL (BS (fU v.st) rfl rfl rfl rfl (by kernel_rfl) (by kernel_rfl) (by kernel_rfl) rfl hz) rfl rfl ?_; refine xw ?_)
 repeat' (first | exact Le.n | refine Lc.mk ?_ ?_)
 all_goals intros
 all_goals (apply aj; refine congrArg AVal.bool ?_; rw [Bool.eq_iff_iff]; unfold Vl.only; rw [decide_eq_true_eq]; cases hq : fU v.st <;> first | exact absurd (hq.symm.trans (show fU v.st = true by assumption)) (by decide) | exact absurd (hq.symm.trans (show fU v.st = false by assumption)) (by decide) | (simp only [hq, dc, reduceCtorEq, true_iff, false_iff, true_or, false_or, iff_true, true_and, and_true]; omega))
theorem yZ {L : List (List (List UInt8))} {k : Nat} (hk : k < L.length) (h1 : k ≤ bV L) (h0 : (L.getD k []).length = 0) : bV L < L.length := by
 rw [me hk h1 (List.eq_nil_of_length_eq_zero h0)]
 exact hk
theorem uI {L : List (List (List UInt8))} {k : Nat} (hk : k < L.length) (h1 : k ≤ bV L) (h0 : (L.getD k []).length ≠ 0) : k + 1 ≤ bV L := j5 hk h1 (fun h => h0 (by rw [h]; rfl))
def hdK (L : List (List (List UInt8))) (k : Nat) : Prop := ∀ i, i < k → (L.getD i []).all (hdB true) = true
def hdJ (l : List (List UInt8)) (j : Nat) : Prop := ∀ i, i < j → hdB true (l.getD i []) = true
theorem zh {l : List (List UInt8)} {j : Nat} (hj : l.length ≤ j) (h : hdJ l j) : l.all (hdB true) = true := by
 rw [List.all_eq_true]
 intro x hx
 obtain ⟨i, hi, rfl⟩ := List.getElem_of_mem hx
 have := h i (by omega)
 rwa [List.getD_eq_getElem?_getD, List.getElem?_eq_getElem hi] at this
theorem zg {l : List (List UInt8)} {j : Nat} (hj : j < l.length) (h : hdB true (l.getD j []) = false) : l.all (hdB true) = false := by
 rw [List.all_eq_false]
 refine ⟨l[j], List.getElem_mem hj, ?_⟩
 rw [List.getD_eq_getElem?_getD, List.getElem?_eq_getElem hj] at h
 simpa using h
theorem zf {L : List (List (List UInt8))} {k : Nat} (hk : L.length ≤ k) (h : hdK L k) : hdL L = true := by
 unfold hdL
 rw [List.all_eq_true]
 intro x hx
 obtain ⟨i, hi, rfl⟩ := List.getElem_of_mem hx
 have := h i (by omega)
 rwa [List.getD_eq_getElem?_getD, List.getElem?_eq_getElem hi] at this
theorem ze {L : List (List (List UInt8))} {k : Nat} (hk : k < L.length) (h : (L.getD k []).all (hdB true) = false) : hdL L = false := by
 unfold hdL
 rw [List.all_eq_false]
 refine ⟨L[k], List.getElem_mem hk, ?_⟩
 rw [List.getD_eq_getElem?_getD, List.getElem?_eq_getElem hk] at h
 simpa using h
theorem vf {l : List (List UInt8)} {j : Nat} (h : hdJ l j) (k : hdB true (l.getD j []) = true) : hdJ l (j + 1) := fun i hi => by
 rcases Nat.lt_succ_iff_lt_or_eq.1 hi with h1 | rfl
 ·exact h i h1
 ·exact k
theorem ve {L : List (List (List UInt8))} {j : Nat} (h : hdK L j) (k : (L.getD j []).all (hdB true) = true) : hdK L (j + 1) := fun i hi => by
 rcases Nat.lt_succ_iff_lt_or_eq.1 hi with h1 | rfl
 ·exact h i h1
 ·exact k
end
section
open Go Go.RowKit
attribute [local irreducible] AWp AOps ax OrOk ad ae aa
abbrev Bm (a b c : Int) : AVal := .list 1 3 (bH [(0, .int .i64 a), (1, .int .i64 b), (2, .int .i64 c)])
theorem iX {G : Glo} (a b c : Int) : FnIs Tryz.prog G 151 [Bm a b c] (.str (fmS (tlB a) (tlB b) (tlB c))) := by
 by_cases h1 : a = -1
 all_goals by_cases h2 : b = -1
 all_goals by_cases h3 : c = -1
 all_goals
  have hGL : ad G [] := ab
  refine fn_x Tryz.func151 Tryz.call151 rfl rfl rfl rfl hGL ?_
  intro C hC
  refine xw1 ?_
  intros
  refine dE (m := 3) hC hGL rfl rfl (by omega) rfl rfl rfl rfl rfl rfl rfl rfl (fun bo => ?_)
  refine xw1 ?_
  intros
  refine rds hC hGL 4 ?_
  refine xw1 ?_
  intros
  refine sp_i ⟨rfl, rfl⟩ ?_
  apply aj
  simp only [tlB, h1, h2, h3, ne_eq, not_true_eq_false, not_false_eq_true, decide_true, decide_false]
  rfl
theorem tA {G : Glo} (n lo hi : Int) : FnIs Tryz.prog G 153 [.int .i64 n, .int .i64 lo, .int .i64 hi] (.bool (witB n lo hi)) := by
 have hGL : ad G [] := ab
 refine fn_x Tryz.func153 Tryz.call153 rfl rfl rfl rfl hGL ?_
 intro C hC
 refine xw ?_
 repeat' (first | exact Le.n | refine Lc.mk ?_ ?_)
 all_goals intros
 all_goals (apply aj; refine congrArg AVal.bool ?_; rw [Bool.eq_iff_iff]; simp only [nO, reduceCtorEq, false_iff, true_iff, Bool.not_eq_true', g8]; omega)
theorem zG {G : Glo} (y m : Int) : FnIs Tryz.prog G 152 [.int .i64 y, .int .i64 m] (.int .i64 (dayN y m)) := by
 have hGL : ad G [] := ab
 refine fn_x Tryz.func152 Tryz.call152 rfl rfl rfl rfl hGL ?_
 intro C hC
 refine xw ?_
 repeat' (first | exact Le.n | refine Lc.mk ?_ ?_)
 all_goals intros
 all_goals (apply aj; refine congrArg (AVal.int .i64) ?_; unfold dayN; (repeat' split) <;> omega)
theorem Ba {G : Glo} (n : Int) (h0 : 0 ≤ n) (h1 : n < 100) : FnIs Tryz.prog G 155 [.int .i64 n, .int .i64 2] (.str (twoS n)) := by
 have hGL : ad G [] := ab
 refine fn_x Tryz.func155 Tryz.call155 rfl rfl rfl rfl hGL ?_
 intro C hC
 refine xw1 ?_
 intros
 refine dE (m := 2) hC hGL rfl rfl (by omega) rfl rfl rfl rfl rfl rfl rfl rfl (fun bo => ?_)
 refine xw1 ?_
 intros
 refine rds hC hGL 3 ?_
 refine xw1 ?_
 intros
 refine sp_i ⟨rfl, rfl⟩ ?_
 apply aj
 refine congrArg AVal.str ?_
 show [UInt8.ofNat (48 + n / 10 % 10).toNat, UInt8.ofNat (48 + n % 10).toNat] = twoS n
 rw [show n / 10 % 10 = n / 10 by omega]
 rfl
theorem zF {G : Glo} (n : Int) (h0 : 0 ≤ n) (h1 : n < 10000) : FnIs Tryz.prog G 155 [.int .i64 n, .int .i64 4] (.str (d9 n)) := by
 have hGL : ad G [] := ab
 refine fn_x Tryz.func155 Tryz.call155 rfl rfl rfl rfl hGL ?_
 intro C hC
 refine xw1 ?_
 intros
 refine dE (m := 4) hC hGL rfl rfl (by omega) rfl rfl rfl rfl rfl rfl rfl rfl (fun bo => ?_)
 refine xw1 ?_
 intros
 refine rds hC hGL 5 ?_
 refine xw1 ?_
 intros
 refine sp_i ⟨rfl, rfl⟩ ?_
 apply aj
 refine congrArg AVal.str ?_
 unfold d9 aT
 rw [show n / 1000 = n / 10 / 10 / 10 % 10 by omega, show n / 100 % 10 = n / 10 / 10 % 10 by omega]
 rfl
theorem B5 {G : Glo} (y m : Int) : FnIs Tryz.prog G 144 [.int .i64 y, .int .i64 m] (.int .i64 (dayN y m)) := by
 have hw := cr (G := G) m 1 12
 have h4 : y.tmod 400 = 0 → y.tmod 4 = 0 ∧ y.tmod 100 = 0 := fun h => by
  have hd := Int.dvd_of_tmod_eq_zero h
  exact ⟨Int.tmod_eq_zero_of_dvd (Int.dvd_trans (by decide) hd), Int.tmod_eq_zero_of_dvd (Int.dvd_trans (by decide) hd)⟩
 by_cases hm : 1 ≤ m ∧ m ≤ 12
 ·rw [show (decide (1 ≤ m) && decide (m ≤ 12)) = true by simp [hm]] at hw
  rcases (show m = 1 ∨ m = 2 ∨ m = 3 ∨ m = 4 ∨ m = 5 ∨ m = 6 ∨ m = 7 ∨ m = 8 ∨ m = 9 ∨ m = 10 ∨ m = 11 ∨ m = 12 by omega) with rfl | rfl | rfl | rfl | rfl | rfl | rfl | rfl | rfl | rfl | rfl | rfl
  all_goals
   have hGL : ad G [] := ab
   refine fn_x Tryz.func144 Tryz.call144 rfl rfl rfl rfl hGL ?_
   intro C hC
   refine xw ?_
   repeat' (first | exact Le.n | refine Lc.mk ?_ ?_)
   all_goals intros
   all_goals (apply aj; refine congrArg (AVal.int .i64) ?_; unfold dayN; (repeat' split) <;> first | rfl | omega)
 ·rw [show (decide (1 ≤ m) && decide (m ≤ 12)) = false by simp; omega] at hw
  have hGL : ad G [] := ab
  refine fn_x Tryz.func144 Tryz.call144 rfl rfl rfl rfl hGL ?_
  intro C hC
  refine xw1 ?_
  intros
  apply aj
  refine congrArg (AVal.int .i64) ?_
  unfold dayN
  rw [if_pos (by omega)]
end
section
open Go Go.RowKit
def datA : List UInt8 := [32, 45, 45, 45, 32, 57, 45, 45, 32, 57, 57, 45, 32, 57, 57, 57, 32, 45, 57, 45, 32, 45, 57, 57, 32, 45, 45, 57, 32]
def datB : List UInt8 := [32, 57, 57, 57, 32, 45, 57, 57, 32, 45, 45, 57, 32]
def timB : List UInt8 := [32, 57, 45, 45, 32, 57, 57, 45, 32, 57, 57, 57, 32]
def cnB (l : List UInt8) (a b c : Bool) : Bool := Lib.contains l (([32] ++ fmS a b c) ++ [32])
theorem cnA : ∀ a b c : Bool, cnB datA a b c = decide (0 ≤ whN a b c) := by decide
theorem cnD : ∀ a b c : Bool, cnB datB a b c = decide (whN a b c = 3 ∨ whN a b c = 5 ∨ whN a b c = 6) := by decide
theorem cnT : ∀ a b c : Bool, cnB timB a b c = decide (1 ≤ whN a b c ∧ whN a b c ≤ 3) := by decide
theorem xG : ∀ a b c : Bool, fmS a b c = [45, 45, 45] ↔ whN a b c = 0 := by decide
theorem Fk : ∀ a b c d e f : Bool, fmS a b c = fmS d e f ↔ whN a b c = whN d e f := by decide
theorem yz : ∀ a b c : Bool, -1 ≤ whN a b c ∧ whN a b c ≤ 6 := by decide
def FrmP (d t : Int) (z : Bool) (h o : Int) : Prop := (0 ≤ d ∧ 0 ≤ t ∧ ¬ (d = 0 ∧ t = 0) ∧ (0 < d ∧ 0 < t → (d = 3 ∨ d = 5 ∨ d = 6) ∧ t ≤ 3)) ∧ (if z then h ≠ -1 else o = 0)
theorem fC (t : Stm) : t.frm = true ↔ FrmP t.dn t.tn t.z t.h t.o := by
 unfold Stm.frm FrmP okN
 rw [Bool.and_eq_true, decide_eq_true_eq]
 refine and_congr Iff.rfl ?_
 cases t.z <;> simp [gY]
theorem nD {G : Glo} {m : Int} (hU : ad G (bI m)) (l : List UInt8) (hl : l.length < 100000) (a b c : Bool) : FnIs Tryz.prog G 81 [.str l, .str (([32] ++ fmS a b c) ++ [32])] (.bool (cnB l a b c)) := fZ hU l _ hl
theorem E_3 {t : Stm} (h : ¬ FrmP t.dn t.tn t.z t.h t.o) : t.E = .errno 3 := by
 unfold Stm.E
 rw [if_neg (fun k => h ((fC t).1 k))]
theorem E_2 {t : Stm} (h : FrmP t.dn t.tn t.z t.h t.o) (k : t.rng = false) : t.E = .errno 2 := by
 unfold Stm.E
 rw [if_pos ((fC t).2 h), k]
 rfl
theorem E_0 {t : Stm} (h : FrmP t.dn t.tn t.z t.h t.o) (k : t.rng = true) : t.E = .none := by
 unfold Stm.E
 rw [if_pos ((fC t).2 h), k]
 rfl
attribute [local irreducible] AWp AOps ax OrOk ad ae aa
attribute [local irreducible] fmS cnB witB tlB dayN zrB
theorem gv {G : Glo} {m : Int} (hU : ad G (bI m)) (t : Stm) : FnIs Tryz.prog G 107 [t.A] t.E.A := by
 have h1 := iX (G := G) t.y t.m t.d
 have h2 := iX (G := G) t.h t.i t.s
 have h3a := nD (G := G) hU datA (by decide) (tlB t.y) (tlB t.m) (tlB t.d)
 have h3b := nD (G := G) hU datB (by decide) (tlB t.y) (tlB t.m) (tlB t.d)
 have h4a := nD (G := G) hU datA (by decide) (tlB t.h) (tlB t.i) (tlB t.s)
 have h4b := nD (G := G) hU timB (by decide) (tlB t.h) (tlB t.i) (tlB t.s)
 rw [cnA] at h3a h4a
 rw [cnD] at h3b
 rw [cnT] at h4b
 have k1 := xG (tlB t.y) (tlB t.m) (tlB t.d)
 have k2 := xG (tlB t.h) (tlB t.i) (tlB t.s)
 have k3 := Fk (tlB t.y) (tlB t.m) (tlB t.d) (tlB t.h) (tlB t.i) (tlB t.s)
 have k4 := yz (tlB t.y) (tlB t.m) (tlB t.d)
 have k5 := yz (tlB t.h) (tlB t.i) (tlB t.s)
 have h5 := zG (G := G) t.y t.m
 have h6 := fun n lo hi => tA (G := G) n lo hi
 have h7 := jS (G := G) t.o
 have l1 : (fmS (tlB t.y) (tlB t.m) (tlB t.d)).length = 3 := by unfold fmS; rfl
 have l2 : (fmS (tlB t.h) (tlB t.i) (tlB t.s)).length = 3 := by unfold fmS; rfl
 have hGL : ad G [] := ab
 refine fn_x Tryz.func107 Tryz.call107 rfl rfl rfl rfl hGL ?_
 intro C hC
 repeat' (first | (conv => whnf); first | refine .w ?_ | refine .v ?_ | refine sc_c ?_ ?_ <;> (intro hb; try exact dd hb) | apply an | apply az | (apply sc_i <;> intro hb) | (apply bx_i; intro hbd) | (apply ar; first | fail) | (apply ap (i := 0) rfl; first | fail) | (apply ab_i; intro bl) | (apply as_i; intro va vk vc hva) | (apply av_i; intro v) | (apply ac_i; intro bl cap hcap) | apply bo_l | (apply nx_i <;> intro hnx) | exact rt_w | exact True.intro | (apply bc_i; intro C hC) | apply bt_i | apply og_n | (apply og_a; exact rfl))
 all_goals try conv => whnf
 refine dw_p mixed hC hGL false (fun (_ : Unit) => [(1, .rop [.int .i64 t.y, .int .i64 t.m, .int .i64 t.d, .int .i64 t.h, .int .i64 t.i, .int .i64 t.s, .bool t.z, .int .i64 t.o] 0), (2, .raw .nilIface), (3, .str (fmS (tlB t.y) (tlB t.m) (tlB t.d))), (4, .str (fmS (tlB t.h) (tlB t.i) (tlB t.s)))]) (fun _ => []) (.take 0 (.take 1 (.take 2 (.take 3 (.take 4 (.take 5 (.take 8 (.take 9 (.take 10 (.take 11 (.take 12 (.take 13 (.br 6 (.br 7 (.br 14 (.br 15 (.take 16 (.take 17 (.done))) (.nil)) (.nil)) (.br 14 (.br 7 (.br 15 (.take 16 (.take 17 (.done))) (.nil)) (.nil)) (.nil))) (.br 14 (.br 6 (.br 7 (.br 15 (.take 16 (.take 17 (.done))) (.nil)) (.nil)) (.nil)) (.nil))))))))))))))) (by kernel_rfl) ?_ ?_
 ·repeat' (first | (conv => whnf); first | refine .w ?_ | refine .v ?_ | refine sc_c ?_ ?_ <;> (intro hb; try exact dd hb) | apply an | apply az | (apply sc_i <;> intro hb) | (apply bx_i; intro hbd) | (apply ar; first | exact h1 | exact h2) | (apply ap (i := 0) rfl; first | exact h1 | exact h2) | (apply ab_i; intro bl) | (apply as_i; intro va vk vc hva) | (apply av_i; intro v) | (apply ac_i; intro bl cap hcap) | apply bo_l | (apply nx_i <;> intro hnx) | exact rt_w | exact True.intro | (apply bc_i; intro C hC) | apply bt_i | apply og_n | (apply og_a; exact rfl))
  all_goals try conv => whnf
  all_goals exact ⟨(), ⟨rfl, rfl, rfl, rfl, trivial⟩, rfl⟩
 intro _
 clear h1 h2
 have hE3 := fun h => E_3 (t := t) h
 have hE2 := fun h k => E_2 (t := t) h k
 have hE0 := fun h k => E_0 (t := t) h k
 unfold FrmP Stm.dn Stm.tn at hE3 hE2 hE0
 unfold Stm.rng Stm.day at hE2 hE0
 cases hz : t.z
 all_goals
  rw [hz] at hE3 hE2 hE0
  simp only [Bool.false_eq_true, if_false, if_true] at hE3 hE2 hE0
  repeat' (first | (conv => whnf); first | refine .w ?_ | refine .v ?_ | refine sc_c ?_ ?_ <;> (intro hb; try exact dd hb) | apply an | apply az | (apply sc_i <;> intro hb) | (apply bx_i; intro hbd) | (apply ar; first | exact h3a | exact h3b | exact h4a | exact h4b | exact h5 | exact h6 _ _ _ | exact h7) | (apply ap (i := 0) rfl; first | exact h3a | exact h3b | exact h4a | exact h4b | exact h5 | exact h6 _ _ _ | exact h7) | (apply ab_i; intro bl) | (apply as_i; intro va vk vc hva) | (apply av_i; intro v) | (apply ac_i; intro bl cap hcap) | apply bo_l | (apply nx_i <;> intro hnx) | exact rt_w | exact True.intro | (apply bc_i; intro C hC) | apply bt_i | apply og_n | (apply og_a; exact rfl))
  all_goals try conv => whnf
  all_goals
   clear h3a h3b h4a h4b h5 h6 h7
   simp only [ne_eq, xG, Fk, decide_eq_true_eq, decide_eq_false_iff_not] at *
   apply aj
   generalize whN (tlB t.y) (tlB t.m) (tlB t.d) = dn at *
   generalize whN (tlB t.h) (tlB t.i) (tlB t.s) = tn at *
   generalize zrB t.o = zr at *
   first | rw [if_neg (by assumption)] at hE2 hE0 | rw [if_pos (by assumption)] at hE2 hE0 | skip
   generalize witB t.m 1 12 = w1 at *
   generalize witB t.d 1 (dayN t.y t.m) = w2 at *
   generalize witB t.d 1 31 = w8 at *
   generalize witB t.h 0 23 = w3 at *
   generalize witB t.i 0 59 = w4 at *
   generalize witB t.s 0 59 = w5 at *
   generalize witB t.y 0 9999 = w6 at *
   first
    | (rw [hE3 (by omega)]; rfl)
    | (rw [hE2 (by omega) (by simp [*])]; rfl)
    | (rw [hE0 (by omega) (by simp [*])]; rfl)
end
section
open Go Go.RowKit
attribute [local irreducible] AWp AOps aa ax OrOk ad ae
theorem EK {a b : Int} : eqB a b = decide (a = b) := by rw [Bool.eq_iff_iff, dc, decide_eq_true_eq]
theorem Vl.E_bad {v : Vl} (h : v.t < 1 ∨ 9 ≤ v.t ∨ v.only = false) : v.E = .errno 1 := if_pos h
theorem Vl.E_ok {v : Vl} (h1 : 1 ≤ v.t) (h2 : v.t < 9) (h3 : v.only = true) : v.E = if v.t = 2 ∨ v.t = 3 then ptsE v.t v.L
  else if v.t = 4 then (uriE v.s).b else if v.t = 5 then v.st.E else if v.t = 6 then zprE v.n else if v.t = 7 then (ca v.s).b else if hdB (decide (v.t = 1)) v.s then .none else .errno 3 := by
 unfold Vl.E
 rw [if_neg]
 rintro (h | h | h)
 ·omega
 ·omega
 ·rw [h3] at h; cases h
theorem Vl.E_rest {v : Vl} (h : v.only = true) (h1 : 1 ≤ v.t) (h2 : v.t < 9) (a : v.t ≠ 2) (b : v.t ≠ 3) (c : v.t ≠ 4) (d : v.t ≠ 5) (e : v.t ≠ 6) (f : v.t ≠ 7) : v.E = if hdB (decide (v.t = 1)) v.s then .none else .errno 3 := by
 rw [Vl.E_ok h1 h2 h, if_neg (by omega), if_neg c, if_neg d, if_neg e, if_neg f]
theorem Vl.E_p {v : Vl} (h : v.only = true) (a : v.t = 2 ∨ v.t = 3) : v.E = ptsE v.t v.L := by rw [Vl.E_ok (by omega) (by omega) h, if_pos a]
theorem Vl.E_4 {v : Vl} (h : v.only = true) (a : v.t = 4) : v.E = (uriE v.s).b := by rw [Vl.E_ok (by omega) (by omega) h, if_neg (by omega), if_pos a]
theorem Vl.E_5 {v : Vl} (h : v.only = true) (a : v.t = 5) : v.E = v.st.E := by rw [Vl.E_ok (by omega) (by omega) h, if_neg (by omega), if_neg (by omega), if_pos a]
theorem Vl.E_6 {v : Vl} (h : v.only = true) (a : v.t = 6) : v.E = zprE v.n := by rw [Vl.E_ok (by omega) (by omega) h, if_neg (by omega), if_neg (by omega), if_neg (by omega), if_pos a]
theorem Vl.E_7 {v : Vl} (h : v.only = true) (a : v.t = 7) : v.E = (ca v.s).b := by rw [Vl.E_ok (by omega) (by omega) h, if_neg (by omega), if_neg (by omega), if_neg (by omega), if_neg (by omega), if_pos a]
theorem yR {t : Int} {L : List (List (List UInt8))} (h : L.length = 0 ∨ (t = 2 ∧ L.length ≠ 1)) : ptsE t L = .errno 8 := if_pos h
theorem yS {t : Int} {L : List (List (List UInt8))} (h : ¬ (L.length = 0 ∨ (t = 2 ∧ L.length ≠ 1))) : ptsE t L = if bV L < L.length then .errno 8 else if hdL L then .none else .errno 3 := if_neg h
structure Vl.OK (v : Vl) : Prop where
 s : v.s.length ≤ 9223372036854775000
 n : v.L.length ≤ 2000000
 r : ∀ k, (v.L.getD k []).length ≤ 2000000
 l : ∀ k j, ((v.L.getD k []).getD j []).length ≤ 9223372036854775807
attribute [local irreducible] hdC hdB badI fU Vl.only uriE ca Stm.E zrB bV hdL
theorem mF {G : Glo} {m : Int} (hU : ad G errTy) (hM : ad G (bI m)) (v : Vl) (hv : v.OK) : FnIs Tryz.prog G 56 [v.A] v.E.A := by
 have h0 := wd (G := G) v
 have h1 := zH (G := G) v.s (by have := hv.s; omega)
 have h2 := nR hU (uriE v.s)
 rw [← qp (uriE v.s)] at h2
 have h3 := gv hM v.st
 have h4 := jS (G := G) v.n
 have h5 := oV (G := G) v.s (by have := hv.s; omega)
 have h6 := nR hU (ca v.s)
 rw [← qp (ca v.s)] at h6
 have h7 := mG (G := G) v.s (eqB v.t 1) (by have := hv.s; omega)
 have h8 := fun k j => mG (G := G) ((v.L.getD k []).getD j []) true (hv.l k j)
 rw [show hdB (eqB v.t 1) v.s = hdB (decide (v.t = 1)) v.s by rw [EK]] at h7
 have k1 := fun k j (_ : (0 : Int) ≤ 0) => h8 k j
 have hn := hv.n
 have hr := hv.r
 obtain ⟨t, s, L, st, n⟩ := v
 dsimp only at *
 by_cases ht : t < 1 ∨ 9 ≤ t
 ·rw [Vl.E_bad (v := ⟨t, s, L, st, n⟩) (ht.elim .inl (fun h => .inr (.inl h)))]
  have hGL : ad G [] := ab
  refine fn_x Tryz.func56 Tryz.call56 rfl rfl rfl rfl hGL ?_
  intro C hC
  refine xw ?_
  repeat' (first | exact Le.n | refine Lc.mk ?_ ?_)
  all_goals intros
  all_goals dsimp only at *
  all_goals first | exact aj rfl | (exfalso; omega)
 cases ho : Vl.only ⟨t, s, L, st, n⟩
 ·rw [Vl.E_bad (.inr (.inr ho))]
  rw [ho] at h0
  have hGL : ad G [] := ab
  refine fn_x Tryz.func56 Tryz.call56 rfl rfl rfl rfl hGL ?_
  intro C hC
  exact xw0
 ·rw [ho] at h0
  have hGL : ad G [] := ab
  refine fn_x Tryz.func56 Tryz.call56 rfl rfl rfl rfl hGL ?_
  intro C hC
  refine xw ?_
  repeat' (first | exact Le.n | refine Lc.mk ?_ ?_)
  all_goals intros
  all_goals dsimp only at *
  all_goals try first
   | (apply aj; rw [Vl.E_4 ho (by assumption)]; done)
   | (apply aj; rw [Vl.E_5 ho (by assumption)]; done)
   | (apply aj; rw [Vl.E_7 ho (by assumption)]; done)
   | (apply aj; rw [Vl.E_6 ho (by assumption)]; unfold zprE; dsimp only; rw [show zrB n = true by assumption]; rfl)
   | (apply aj; rw [Vl.E_6 ho (by assumption)]; unfold zprE; dsimp only; rw [show zrB n = false by assumption]; rfl)
   | (apply aj; rw [Vl.E_p ho (by first | exact .inl (by assumption) | exact .inr (by assumption)), yR (by dsimp only; omega)]; rfl)
   | (apply aj; rw [Vl.E_rest ho (by assumption) (by assumption) (by assumption) (by assumption) (by assumption) (by assumption) (by assumption) (by assumption)]; dsimp only; rw [show hdB (decide (t = 1)) s = true by assumption]; rfl)
   | (apply aj; rw [Vl.E_rest ho (by assumption) (by assumption) (by assumption) (by assumption) (by assumption) (by assumption) (by assumption) (by assumption)]; dsimp only; rw [show hdB (decide (t = 1)) s = false by assumption]; rfl)
  all_goals
   rw [Vl.E_p ho (by first | exact .inl (by assumption) | exact .inr (by assumption)), yS (by dsimp only; omega)]
   dsimp only
   refine lp hC hGL (fun k : Nat => [(1, .rop [.int .i64 t, .str s, .list 1 L.length (cB L), .int .i64 st.y, .int .i64 st.m, .int .i64 st.d, .int .i64 st.h, .int .i64 st.i, .int .i64 st.s, .bool st.z, .int .i64 st.o, .int .i64 n] 0), (45, .list 1 L.length (cB L)), (46, .int .i64 (L.length : Nat)), (47, .int .i64 (k : Nat))]) (fun _ => []) (fun k => k ≤ bV L) (fun k => L.length - k) 0 ?_ ai rfl ?_
   ·exact Nat.zero_le _
   intro k hk
   have hnl := kT L
   refine xw ?_
   repeat' (first | exact Le.n | refine Lc.mk ?_ ?_)
   all_goals intros
   all_goals try first
    | (apply aj; rw [if_pos (yZ (by omega) hk (by omega))]; rfl)
    | exact nxt (k + 1) (uI (by omega) hk (by omega)) (by omega) ai rfl
   rw [if_neg (by omega)]
   refine lp hC hGL (fun k : Nat => [(57, .list 1 L.length (cB L)), (58, .int .i64 (L.length : Nat)), (59, .int .i64 (k : Nat))]) (fun _ => []) (fun k => k ≤ L.length ∧ hdK L k) (fun k => L.length - k) 0 ?_ ai rfl ?_
   ·exact ⟨Nat.zero_le _, fun i hi => absurd hi (Nat.not_lt_zero _)⟩
   rintro i ⟨hi, hK⟩
   refine xw ?_
   repeat' (first | exact Le.n | refine Lc.mk ?_ ?_)
   all_goals intros
   all_goals try (apply aj; rw [zf (by omega) hK]; rfl)
   ·refine lp hC hGL (fun j : Nat => [(57, .list 1 L.length (cB L)), (58, .int .i64 (L.length : Nat)), (59, .int .i64 (i : Nat)), (63, .list 1 (L.getD i []).length (aF (L.getD i []))), (64, .int .i64 ((L.getD i []).length : Nat)), (65, .int .i64 (j : Nat))]) (fun _ => []) (fun j => j ≤ (L.getD i []).length ∧ hdJ (L.getD i []) j) (fun j => (L.getD i []).length - j) 0 ?_ ai rfl ?_
    ·exact ⟨Nat.zero_le _, fun i hi => absurd hi (Nat.not_lt_zero _)⟩
    rintro j ⟨hj, hJ⟩
    have hri := hr i
    refine xw ?_
    repeat' (first | exact Le.n | refine Lc.mk ?_ ?_)
    all_goals intros
    all_goals first
     | (apply aj; rw [ze (k := i) (by omega) (zg (j := j) (by omega) (by assumption))]; rfl)
     | exact nxt (j + 1) ⟨by omega, vf hJ (by assumption)⟩ (by omega) ai rfl
     | exact nxt (i + 1) ⟨by omega, ve hK (zh (by omega) hJ)⟩ (by omega) ai rfl
end
end Go.Proofs.YtahebkecmlmlfaaGreatDoor
