/- Parts of the proof of prints_root: Lna, Dc, Rf, Hdb, Lnk, Cno, Wm, Idt, Ia, Rqe, Lnd, Lnf, Wid, Vlb, Eqa, Vlc, Wha. -/
import GoSem.PinnedTables
import Derived.Laws.StructEq
import Derived.Test.YtahebkecmlmlfaaGreatDoorBag
import Derived.Test.YtahebkecmlmlfaaGreatDoorBaf
import Derived.Test.YtahebkecmlmlfaaGreatDoorBai
import Derived.Test.YtahebkecmlmlfaaGreatDoorBae
import Derived.Test.YtahebkecmlmlfaaGreatDoorBad
set_option linter.unusedVariables false
set_option linter.unusedSimpArgs false
set_option linter.unusedSectionVars false
namespace Go.Proofs.YtahebkecmlmlfaaGreatDoor
set_option maxRecDepth 20000
set_option maxHeartbeats 4000000
section
open Go Go.RowKit
def eIf (c : Bool) (s : List UInt8) : List UInt8 := if c then encS s else s
def mayV (c : Bool) (s : List UInt8) : Bool := hdB false (eIf c s) && decide (idxB (eIf c s) 34 < 0)
def prE (c : Bool) (q : Pr) : Int := if isS q.n = false then 5 else if q.vs.length = 0 then 8 else if q.vs.all (mayV c) then 0 else 3
def firE (c : Bool) : List Pr → Nat → Err
 | [], _ => .none
 | q :: l, i => if prE c q = 0 then firE c l (i + 1) else .at (prE c q) i
def Ln.E (c : Bool) (p : Ln) : Err := if isS p.n = false ∨ (p.g.length ≠ 0 ∧ isS p.g = false) then .errno 5
 else if 20 < p.ps.length then .errno 4
 else match firE c p.ps 0 with
  | .none => if hdB false p.v then .none else .errno 3
  | x => x
def quoC (c : Int) : Bool := decide (c = 44 ∨ c = 59 ∨ c = 58)
def quoS (c : Bool) (s : List UInt8) : List UInt8 := if fstB quoC (eIf c s) < 0 then eIf c s else 34 :: eIf c s ++ [34]
def prT (c : Bool) (q : Pr) : List UInt8 := 59 :: q.n ++ [61] ++ Lib.join (q.vs.map (quoS c)) [44]
def hdT (p : Ln) : List UInt8 := if p.g.length = 0 then p.n else p.g ++ [46] ++ p.n
def Ln.txt (c : Bool) (p : Ln) : List UInt8 := hdT p ++ p.ps.flatMap (prT c) ++ [58] ++ p.v
def Ln.T (c : Bool) (p : Ln) : List UInt8 := match p.E c with
 | .none => p.txt c
 | _ => []
theorem mo {c : Bool} : ∀ {l : List Pr} (i k : Nat), (∀ j, j < k → j < l.length → prE c (l.getD j Pr.z) = 0) → (k < l.length → prE c (l.getD k Pr.z) ≠ 0) → firE c l i = if k < l.length then .at (prE c (l.getD k Pr.z)) ((i + k : Nat) : Int) else .none
 | [], i, k, _, _ => by simp [firE]
 | q :: l, i, 0, _, h => by
  have h := h (by simp)
  rw [if_pos (by simp)]
  simp only [firE]
  rw [if_neg (by simpa using h)]
  simp
 | q :: l, i, k + 1, h1, h2 => by
  have h0 : prE c q = 0 := by simpa using h1 0 (by omega) (by simp)
  simp only [firE]
  rw [if_pos h0, mo (i + 1) k (fun j hj hl => by simpa using h1 (j + 1) (by omega) (by simpa using hl)) (fun h => by simpa using h2 (by simpa using h))]
  have e : i + 1 + k = i + (k + 1) := by omega
  simp only [List.length_cons, List.getD_cons_succ, Nat.add_lt_add_iff_right, e]
theorem EP {c : Bool} {l : List Pr} {k : Nat} (hk : k < l.length) (h : ∀ j, j < k → prE c (l.getD j Pr.z) = 0) (hb : prE c (l.getD k Pr.z) ≠ 0) : firE c l 0 = .at (prE c (l.getD k Pr.z)) k := by
 rw [mo 0 k (fun j hj _ => h j hj) (fun _ => hb), if_pos hk]
 simp
theorem ra {c : Bool} {l : List Pr} {k : Nat} (hk : l.length ≤ k) (h : ∀ j, j < k → prE c (l.getD j Pr.z) = 0) : firE c l 0 = .none := by
 rw [mo 0 k (fun j hj _ => h j hj) (fun h => absurd h (by omega)), if_neg (by omega)]
def mayJ (c : Bool) (l : List (List UInt8)) (j : Nat) : Prop := ∀ i, i < j → mayV c (l.getD i []) = true
theorem qL {c : Bool} {l : List (List UInt8)} {j : Nat} (h : mayJ c l j) (k : mayV c (l.getD j []) = true) : mayJ c l (j + 1) := fun i hi => by
 rcases Nat.lt_or_ge i j with g | g
 ·exact h i g
 ·rw [show i = j by omega]; exact k
theorem uJ {c : Bool} {l : List (List UInt8)} {j : Nat} (hj : l.length ≤ j) (h : mayJ c l j) : l.all (mayV c) = true := by
 rw [List.all_eq_true]
 intro x hx
 obtain ⟨i, hi, rfl⟩ := List.getElem_of_mem hx
 have := h i (by omega)
 rwa [List.getD_eq_getElem?_getD, List.getElem?_eq_getElem hi] at this
theorem uI {c : Bool} {l : List (List UInt8)} {j : Nat} (hj : j < l.length) (h : mayV c (l.getD j []) = false) : l.all (mayV c) = false := by
 rw [List.all_eq_false]
 refine ⟨l[j], List.getElem_mem hj, ?_⟩
 rw [List.getD_eq_getElem?_getD, List.getElem?_eq_getElem hj] at h
 simpa using h
theorem uu {c : Bool} {q : Pr} (h : isS q.n = false) : prE c q = 5 := by unfold prE; rw [if_pos h]
theorem yR {c : Bool} {q : Pr} (h : isS q.n = true) (k : q.vs.length = 0) : prE c q = 8 := by unfold prE; rw [if_neg (by rw [h]; decide), if_pos k]
theorem Fm {c : Bool} {q : Pr} (h : isS q.n = true) (k : q.vs.length ≠ 0) (m : q.vs.all (mayV c) = false) : prE c q = 3 := by unfold prE; rw [if_neg (by rw [h]; decide), if_neg k, if_neg (by rw [m]; decide)]
theorem Fp {c : Bool} {q : Pr} (h : isS q.n = true) (k : q.vs.length ≠ 0) (m : q.vs.all (mayV c) = true) : prE c q = 0 := by unfold prE; rw [if_neg (by rw [h]; decide), if_neg k, if_pos m]
theorem Ay {l : List (List UInt8)} (h : l ≠ []) (x sep : List UInt8) : Lib.join (l ++ [x]) sep = Lib.join l sep ++ sep ++ x := by
 cases l with
 | nil => exact absurd rfl h
 | cons y r =>
  rw [List.cons_append, Lib.join_cons, Lib.join_cons]
  simp [Lib.joinTail]
def vaT (c : Bool) (vs : List (List UInt8)) (j : Nat) : List UInt8 := match j with
 | 0 => []
 | j + 1 => 61 :: Lib.join ((vs.take (j + 1)).map (quoS c)) [44]
theorem tv {c : Bool} {vs : List (List UInt8)} {j : Nat} (hj : j < vs.length) : vaT c vs (j + 1) = vaT c vs j ++ (if j = 0 then [61] else [44]) ++ quoS c (vs.getD j []) := by
 have e : vs.take (j + 1) = vs.take j ++ [vs.getD j []] := by
  rw [List.take_succ_eq_append_getElem hj, List.getD_eq_getElem?_getD, List.getElem?_eq_getElem hj]
  rfl
 cases j with
 | zero =>
  simp only [vaT, e, List.take_zero, List.nil_append, List.map_cons, List.map_nil, Lib.join_one, if_true]
  rfl
 | succ j =>
  simp only [vaT]
  rw [e, List.map_append, List.map_cons, List.map_nil, Ay (fun h => by
   have := congrArg List.length h
   simp only [List.length_map, List.length_take, List.length_nil] at this
   omega), if_neg (by omega)]
  simp only [List.cons_append, List.append_assoc]
theorem DX {c : Bool} {q : Pr} (h : q.vs.length ≠ 0) : prT c q = 59 :: q.n ++ vaT c q.vs q.vs.length := by
 unfold prT
 cases hv : q.vs with
 | nil => rw [hv] at h; exact absurd rfl h
 | cons x r =>
  have e : (x :: r).take (r.length + 1) = x :: r := List.take_of_length_le (by simp)
  simp only [List.length_cons, vaT, e, List.append_assoc]
  rfl
theorem sS (c : Bool) (s : List UInt8) : (eIf c s).length ≤ 2 * s.length := by
 unfold eIf
 split
 ·exact (fj s).2
 ·omega
theorem ur (c : Bool) (s : List UInt8) : (quoS c s).length ≤ 2 * s.length + 2 := by
 have := sS c s
 unfold quoS
 split
 ·omega
 ·simp only [List.cons_append, List.length_cons, List.length_append, List.length_nil]
  omega
theorem kU (c : Bool) : ∀ l : List (List UInt8), Lib.lens (l.map (quoS c)) ≤ 2 * Lib.lens l + 2 * l.length
 | [] => by simp [Lib.lens]
 | x :: r => by
  have h1 := kU c r
  have h2 := ur c x
  have e1 : Lib.lens ((x :: r).map (quoS c)) = (quoS c x).length + Lib.lens (r.map (quoS c)) := by simp [Lib.lens]
  have e2 : Lib.lens (x :: r) = x.length + Lib.lens r := by simp [Lib.lens]
  rw [e1, e2, List.length_cons]
  omega
theorem oV (l : List (List UInt8)) : (Lib.join l [44]).length ≤ Lib.lens l + l.length := by
 cases l with
 | nil => simp [Lib.join_nil]
 | cons x r =>
  have e2 : Lib.lens (x :: r) = x.length + Lib.lens r := by simp [Lib.lens]
  rw [Lib.join_cons, List.length_append, Lib.joinTail_length, e2, List.length_cons]
  simp only [List.length_cons, List.length_nil]
  omega
theorem DW (c : Bool) (vs : List (List UInt8)) (j : Nat) : (vaT c vs j).length ≤ 1 + 2 * Lib.lens vs + 3 * vs.length := by
 cases j with
 | zero => simp [vaT]
 | succ j =>
  simp only [vaT, List.length_cons]
  have h1 := oV ((vs.take (j + 1)).map (quoS c))
  have h2 := kU c (vs.take (j + 1))
  have h3 := Lib.lens_take_le vs (j + 1)
  rw [List.length_map, List.length_take] at h1
  rw [List.length_take] at h2
  omega
theorem yP (c : Bool) (q : Pr) : (prT c q).length ≤ 2 + q.n.length + 2 * Lib.lens q.vs + 3 * q.vs.length := by
 unfold prT
 have h1 := oV (q.vs.map (quoS c))
 have h2 := kU c q.vs
 rw [List.length_map] at h1
 simp only [List.length_cons, List.length_append, List.length_nil, List.cons_append]
 omega
def psT (c : Bool) (ps : List Pr) (k : Nat) : List UInt8 := (ps.take k).flatMap (prT c)
theorem oz {c : Bool} {ps : List Pr} {k : Nat} (hk : k < ps.length) : psT c ps (k + 1) = psT c ps k ++ prT c (ps.getD k Pr.z) := by
 have e : ps.take (k + 1) = ps.take k ++ [ps.getD k Pr.z] := by
  rw [List.take_succ_eq_append_getElem hk, List.getD_eq_getElem?_getD, List.getElem?_eq_getElem hk]
  rfl
 unfold psT
 rw [e, List.flatMap_append]
 simp
theorem sg {c : Bool} {ps : List Pr} {N : Nat} (h : ∀ k, (ps.getD k Pr.z).n.length ≤ N ∧ (ps.getD k Pr.z).vs.length ≤ N ∧ Lib.lens (ps.getD k Pr.z).vs ≤ N) : ∀ k, k ≤ ps.length → (psT c ps k).length ≤ k * (2 + 6 * N)
 | 0, _ => by simp [psT]
 | k + 1, hk => by
  have ih := sg (c := c) h k (by omega)
  have h1 := yP c (ps.getD k Pr.z)
  have h2 := h k
  rw [oz (by omega), List.length_append, Nat.succ_mul]
  omega
theorem yA (c : Bool) (p : Ln) : p.txt c = hdT p ++ psT c p.ps p.ps.length ++ [58] ++ p.v := by
 unfold Ln.txt psT
 rw [List.take_of_length_le (Nat.le_refl _)]
theorem Ln.E_5 {c : Bool} {p : Ln} (h : isS p.n = false ∨ (p.g.length ≠ 0 ∧ isS p.g = false)) : p.E c = .errno 5 := by unfold Ln.E; rw [if_pos h]
theorem Ln.E_4 {c : Bool} {p : Ln} (h1 : isS p.n = true) (h2 : p.g.length = 0 ∨ isS p.g = true) (h : 20 < p.ps.length) : p.E c = .errno 4 := by
 unfold Ln.E
 rw [if_neg (by rintro (k | ⟨k1, k2⟩); rw [h1] at k; cases k; rcases h2 with h2 | h2; exact k1 h2; rw [h2] at k2; cases k2), if_pos h]
theorem Ln.E_f {c : Bool} {p : Ln} (h1 : isS p.n = true) (h2 : p.g.length = 0 ∨ isS p.g = true) (h : p.ps.length ≤ 20) : p.E c = match firE c p.ps 0 with
  | .none => if hdB false p.v then .none else .errno 3
  | x => x := by
 unfold Ln.E
 rw [if_neg (by rintro (k | ⟨k1, k2⟩); rw [h1] at k; cases k; rcases h2 with h2 | h2; exact k1 h2; rw [h2] at k2; cases k2), if_neg (by omega)]
theorem Ln.E_at {c : Bool} {p : Ln} (h1 : isS p.n = true) (h2 : p.g.length = 0 ∨ isS p.g = true) (h : p.ps.length ≤ 20) {k : Nat} (hk : k < p.ps.length) (hj : ∀ j, j < k → prE c (p.ps.getD j Pr.z) = 0) (hb : prE c (p.ps.getD k Pr.z) ≠ 0) : p.E c = .at (prE c (p.ps.getD k Pr.z)) k := by
 rw [Ln.E_f h1 h2 h, EP hk hj hb]
theorem Ln.E_3 {c : Bool} {p : Ln} (h1 : isS p.n = true) (h2 : p.g.length = 0 ∨ isS p.g = true) (h : p.ps.length ≤ 20) {k : Nat} (hk : p.ps.length ≤ k) (hj : ∀ j, j < k → prE c (p.ps.getD j Pr.z) = 0) (hv : hdB false p.v = false) : p.E c = .errno 3 := by
 rw [Ln.E_f h1 h2 h, ra hk hj]
 simp only [hv, Bool.false_eq_true, if_false]
theorem Ln.E_0 {c : Bool} {p : Ln} (h1 : isS p.n = true) (h2 : p.g.length = 0 ∨ isS p.g = true) (h : p.ps.length ≤ 20) {k : Nat} (hk : p.ps.length ≤ k) (hj : ∀ j, j < k → prE c (p.ps.getD j Pr.z) = 0) (hv : hdB false p.v = true) : p.E c = .none := by
 rw [Ln.E_f h1 h2 h, ra hk hj]
 simp only [hv, if_true]
def prI (c : Bool) (q : Pr) (j : Nat) (e : Int) : Prop := (isS q.n = false ∧ e = 5) ∨ (isS q.n = true ∧ q.vs.length = 0 ∧ e = 8) ∨ (isS q.n = true ∧ q.vs.length ≠ 0 ∧ ((e = 0 ∧ mayJ c q.vs j) ∨ (e = 3 ∧ q.vs.all (mayV c) = false)))
theorem jc {c : Bool} {q : Pr} {j : Nat} {e : Int} (h : prI c q j e) (hj : q.vs.length ≤ j) : e = prE c q := by
 rcases h with ⟨h1, h2⟩ | ⟨h1, h2, h3⟩ | ⟨h1, h2, ⟨h3, h4⟩ | ⟨h3, h4⟩⟩
 ·rw [uu h1, h2]
 ·rw [yR h1 h2, h3]
 ·rw [Fp h1 h2 (uJ hj h4), h3]
 ·rw [Fm h1 h2 h4, h3]
theorem oA {c : Bool} {q : Pr} {j : Nat} {e : Int} (h : prI c q j e) (he : e ≠ 0) : prI c q (j + 1) e := by
 rcases h with h | h | ⟨h1, h2, ⟨h3, h4⟩ | h3⟩
 ·exact .inl h
 ·exact .inr (.inl h)
 ·exact absurd h3 he
 ·exact .inr (.inr ⟨h1, h2, .inr h3⟩)
theorem wR {c : Bool} {q : Pr} {j : Nat} {e : Int} (h : prI c q j e) (he : e = 0) (hm : mayV c (q.vs.getD j []) = true) : prI c q (j + 1) e := by
 rcases h with h | h | ⟨h1, h2, ⟨h3, h4⟩ | h3⟩
 ·exact absurd (he.symm.trans h.2) (by decide)
 ·exact absurd (he.symm.trans h.2.2) (by decide)
 ·exact .inr (.inr ⟨h1, h2, .inl ⟨h3, qL h4 hm⟩⟩)
 ·exact absurd (he.symm.trans h3.1) (by decide)
theorem sh {c : Bool} {q : Pr} {j : Nat} {e : Int} (h : prI c q j e) (he : e = 0) (hj : j < q.vs.length) (hm : mayV c (q.vs.getD j []) = false) : prI c q (j + 1) 3 := by
 rcases h with h | h | ⟨h1, h2, ⟨h3, h4⟩ | h3⟩
 ·exact absurd (he.symm.trans h.2) (by decide)
 ·exact absurd (he.symm.trans h.2.2) (by decide)
 ·exact .inr (.inr ⟨h1, h2, .inr ⟨rfl, uI hj hm⟩⟩)
 ·exact absurd (he.symm.trans h3.1) (by decide)
end
section
open Go
attribute [local irreducible] AWp AOps aa az OrOk ad ah
attribute [local irreducible] aw badI badS aT cutS rngR ownB
def firstTab : List AVal := Go.Pinned.utf8FirstZ.map (fun x : Nat => AVal.int .u8 (x : Int))
def acceptTab : List AVal := [.int .u8 128, .int .u8 191, .int .u8 160, .int .u8 191, .int .u8 128, .int .u8 159, .int .u8 144, .int .u8 191, .int .u8 128, .int .u8 143, .int .u8 0, .int .u8 0, .int .u8 0, .int .u8 0, .int .u8 0, .int .u8 0, .int .u8 0, .int .u8 0, .int .u8 0, .int .u8 0, .int .u8 0, .int .u8 0, .int .u8 0, .int .u8 0, .int .u8 0, .int .u8 0, .int .u8 0, .int .u8 0, .int .u8 0, .int .u8 0, .int .u8 0, .int .u8 0]
def kc (b : Nat) : Nat :=
 if b < 128 then 240 else if b < 194 then 241 else if b < 224 then 2 else if b = 224 then 19 else if b < 237 then 3 else if b = 237 then 35 else if b < 240 then 3 else if b = 240 then 52
 else if b < 244 then 4 else if b = 244 then 68 else 241
theorem AJ : ∀ b : Fin 256, Go.Pinned.utf8FirstZ[b.1]? = some (kc b.1) := by decide +kernel
theorem vg (b : Nat) (h : b < 256) : firstTab[b * 1]? = some (.int .u8 (kc b : Int)) := by
 rw [Nat.mul_one]
 simp only [firstTab, List.getElem?_map, AJ ⟨b, h⟩, Option.map_some]
def da (s : List UInt8) : Nat × Nat := if s.length = 0 then (65533, 0) else if (aw s).2 = 0 then (65533, 1) else aw s
theorem DT (b : Int) : IntKind.wrap .i32 (BitVec.ofInt 32 (IntKind.wrap .i32 (BitVec.ofInt 32 b &&& ~~~ BitVec.ofInt 32 (IntKind.wrap .i32 (241 * 2147483648) / 2147483648)).toNat) ||| BitVec.ofInt 32 (IntKind.wrap .i32 (BitVec.ofInt 32 65533 &&& BitVec.ofInt 32 (IntKind.wrap .i32 (241 * 2147483648) / 2147483648)).toNat)).toNat = 65533 := by
 have e : (~~~ BitVec.ofInt 32 (IntKind.wrap .i32 (241 * 2147483648) / 2147483648)) = 0#32 := by decide +kernel
 rw [e, BitVec.and_zero]
 decide +kernel
attribute [local irreducible] firstTab
abbrev utfTy : List (Nat × List AVal) := [(8, firstTab), (9, acceptTab)]
theorem AN (b : Nat) (h : b < 256) (h1 : 128 ≤ b) :
  (firstTab[b * 1]? = some (.int .u8 241) ∧ (b < 194 ∨ 245 ≤ b)) ∨ (firstTab[b * 1]? = some (.int .u8 2) ∧ 194 ≤ b ∧ b < 224) ∨ (firstTab[b * 1]? = some (.int .u8 19) ∧ b = 224)
  ∨ (firstTab[b * 1]? = some (.int .u8 3) ∧ 225 ≤ b ∧ b < 240 ∧ b ≠ 237) ∨ (firstTab[b * 1]? = some (.int .u8 35) ∧ b = 237) ∨ (firstTab[b * 1]? = some (.int .u8 52) ∧ b = 240)
  ∨ (firstTab[b * 1]? = some (.int .u8 4) ∧ 241 ≤ b ∧ b < 244) ∨ (firstTab[b * 1]? = some (.int .u8 68) ∧ b = 244) := by
 have e := vg b h
 have key : ∀ c : Nat, kc b = c → firstTab[b * 1]? = some (.int .u8 (c : Int)) := fun c hc => by rw [e, hc]
 by_cases c1 : b < 194 ∨ 245 ≤ b
 ·refine .inl ⟨key 241 (by unfold kc; (repeat' split) <;> omega), c1⟩
 by_cases c2 : b < 224
 ·refine .inr (.inl ⟨key 2 (by unfold kc; (repeat' split) <;> omega), by omega, c2⟩)
 by_cases c3 : b = 224
 ·subst c3; exact .inr (.inr (.inl ⟨key 19 rfl, rfl⟩))
 by_cases c5 : b = 237
 ·subst c5; exact .inr (.inr (.inr (.inr (.inl ⟨key 35 rfl, rfl⟩))))
 by_cases c4 : b < 240
 ·refine .inr (.inr (.inr (.inl ⟨key 3 (by unfold kc; (repeat' split) <;> omega), by omega, c4, c5⟩)))
 by_cases c6 : b = 240
 ·subst c6; exact .inr (.inr (.inr (.inr (.inr (.inl ⟨key 52 rfl, rfl⟩)))))
 by_cases c7 : b < 244
 ·refine .inr (.inr (.inr (.inr (.inr (.inr (.inl ⟨key 4 (by unfold kc; (repeat' split) <;> omega), by omega, c7⟩))))))
 have c8 : b = 244 := by omega
 subst c8
 exact .inr (.inr (.inr (.inr (.inr (.inr (.inr ⟨key 68 rfl, rfl⟩))))))
theorem tY {s : List UInt8} {a b : Int} (h0 : ¬ s.length = 0) (h : ((aw s).1 : Int) = 0 ∧ ((aw s).2 : Int) = 0) (ha : a = 65533) (hb : b = 1) : ((da s).1 : Int) = a ∧ ((da s).2 : Int) = b := by
 have : (aw s).2 = 0 := by omega
 subst ha hb
 simp [da, h0, this]
theorem yI {s : List UInt8} {a b : Int} (h0 : ¬ s.length = 0) (h : ((aw s).1 : Int) = a ∧ ((aw s).2 : Int) = b) (hb : 0 < b) : ((da s).1 : Int) = a ∧ ((da s).2 : Int) = b := by
 have : ¬ (aw s).2 = 0 := by omega
 simpa [da, h0, this] using h
theorem Db {G : Glo} (hGL : ad G utfTy) (s : List UInt8) (hs : s.length = 0 ∨ 128 ≤ aa s 0) :
    FnIs Tryz.prog G 190 [.str s] (.tuple [.int .i32 ((da s).1 : Int), .int .i64 ((da s).2 : Int)]) := by
  refine fn_x Tryz.func190 Tryz.call190 rfl rfl rfl rfl hGL ?_
  intro C hC
  by_cases h0 : s.length = 0
  · repeat' (first | (conv => whnf); first | refine .w ?_ | refine .v ?_ | refine sc_c ?_ ?_ <;> (intro hb; try exact dd hb) | apply ae | apply an | (apply sc_i <;> intro hb) | (apply bx_i; intro hbd) | (apply aj; first | fail) | (apply am (i := 0) rfl; first | fail) | (apply ab_i; intro bl) | (apply as_i; intro va vk vc hva) | (apply av_i; intro v) | (apply ac_i; intro bl cap hcap) | apply bo_l | (apply nx_i <;> intro hnx) | exact rt_w | apply dw_q mixed hC hGL (by kernel_rfl) | (apply cq; assumption; (first | fail); exact rfl))
    all_goals try conv => whnf
    refine tup2 ?_
    simp only [da, if_pos h0]
    exact ⟨rfl, rfl⟩
  replace hs : 128 ≤ aa s 0 := by omega
  have hdc := AN (aa s 0) (aL s 0) hs
  repeat' (first | (conv => whnf); first | refine .w ?_ | refine .v ?_ | refine sc_c ?_ ?_ <;> (intro hb; try exact dd hb) | apply ae | apply an | (apply sc_i <;> intro hb) | (apply bx_i; intro hbd) | (apply aj; first | fail) | (apply am (i := 0) rfl; first | fail) | (apply ab_i; intro bl) | (apply as_i; intro va vk vc hva) | (apply av_i; intro v) | (apply ac_i; intro bl cap hcap) | apply bo_l | (apply nx_i <;> intro hnx) | exact rt_w | apply dw_q mixed hC hGL (by kernel_rfl) | (apply cq; assumption; (first | fail); exact rfl))
  all_goals try conv => whnf
  rcases hdc with ⟨hx, hb⟩ | ⟨hx, hb⟩ | ⟨hx, hb⟩ | ⟨hx, hb⟩ | ⟨hx, hb⟩ | ⟨hx, hb⟩ | ⟨hx, hb⟩ | ⟨hx, hb⟩
  all_goals (erw [hx])
  · repeat' (first | (conv => whnf); first | refine .w ?_ | refine .v ?_ | refine sc_c ?_ ?_ <;> (intro hb; try exact dd hb) | apply ae | apply an | (apply sc_i <;> intro hb) | (apply bx_i; intro hbd) | (apply aj; first | fail) | (apply am (i := 0) rfl; first | fail) | (apply ab_i; intro bl) | (apply as_i; intro va vk vc hva) | (apply av_i; intro v) | (apply ac_i; intro bl cap hcap) | apply bo_l | (apply nx_i <;> intro hnx) | exact rt_w | apply dw_q mixed hC hGL (by kernel_rfl) | (apply cq; assumption; (first | fail); exact rfl))
    all_goals try conv => whnf
    apply ch_r
    repeat' (first | (conv => whnf); first | refine .w ?_ | refine .v ?_ | refine sc_c ?_ ?_ <;> (intro hb; try exact dd hb) | apply ae | apply an | (apply sc_i <;> intro hb) | (apply bx_i; intro hbd) | (apply aj; first | fail) | (apply am (i := 0) rfl; first | fail) | (apply ab_i; intro bl) | (apply as_i; intro va vk vc hva) | (apply av_i; intro v) | (apply ac_i; intro bl cap hcap) | apply bo_l | (apply nx_i <;> intro hnx) | exact rt_w | apply dw_q mixed hC hGL (by kernel_rfl) | (apply cq; assumption; (first | fail); exact rfl))
    all_goals try conv => whnf
    apply ch_r
    repeat' (first | (conv => whnf); first | refine .w ?_ | refine .v ?_ | refine sc_c ?_ ?_ <;> (intro hb; try exact dd hb) | apply ae | apply an | (apply sc_i <;> intro hb) | (apply bx_i; intro hbd) | (apply aj; first | fail) | (apply am (i := 0) rfl; first | fail) | (apply ab_i; intro bl) | (apply as_i; intro va vk vc hva) | (apply av_i; intro v) | (apply ac_i; intro bl cap hcap) | apply bo_l | (apply nx_i <;> intro hnx) | exact rt_w | apply dw_q mixed hC hGL (by kernel_rfl) | (apply cq; assumption; (first | fail); exact rfl))
    all_goals try conv => whnf
    apply ch_r
    repeat' (first | (conv => whnf); first | refine .w ?_ | refine .v ?_ | refine sc_c ?_ ?_ <;> (intro hb; try exact dd hb) | apply ae | apply an | (apply sc_i <;> intro hb) | (apply bx_i; intro hbd) | (apply aj; first | fail) | (apply am (i := 0) rfl; first | fail) | (apply ab_i; intro bl) | (apply as_i; intro va vk vc hva) | (apply av_i; intro v) | (apply ac_i; intro bl cap hcap) | apply bo_l | (apply nx_i <;> intro hnx) | exact rt_w | apply dw_q mixed hC hGL (by kernel_rfl) | (apply cq; assumption; (first | fail); exact rfl))
    all_goals try conv => whnf
    clear hx
    refine tup2 ?_
    refine tY h0 ?_ (DT _) rfl
    generalize hz : aw s = z
    unfold aw aW mayN cp2 cp3 cp4 at hz
    try simp only [show Int.toNat 0 = 0 from rfl, show Int.toNat 1 = 1 from rfl, show Int.toNat (1 + 1) = 2 from rfl, show Int.toNat (1 + 1 + 1) = 3 from rfl] at *
    generalize aa s 0 = b0 at *
    generalize aa s 1 = b1 at *
    generalize aa s 2 = b2 at *
    generalize aa s 3 = b3 at *
    generalize s.length = l at *
    repeat' (split at hz; try (exfalso; omega))
    all_goals (try subst z)
    all_goals (first
      | exact ⟨rfl, rfl⟩
      | (simp only [Bool.and_eq_true, Bool.or_eq_true, decide_eq_true_eq, beq_iff_eq] at *; first | (exfalso; omega) | omega))
  all_goals (repeat' (first | (conv => whnf); first | refine .w ?_ | refine .v ?_ | refine sc_c ?_ ?_ <;> (intro hb; try exact dd hb) | apply ae | apply an | (apply sc_i <;> intro hb) | (apply bx_i; intro hbd) | (apply aj; first | fail) | (apply am (i := 0) rfl; first | fail) | (apply ab_i; intro bl) | (apply as_i; intro va vk vc hva) | (apply av_i; intro v) | (apply ac_i; intro bl cap hcap) | apply bo_l | (apply nx_i <;> intro hnx) | exact rt_w | apply dw_q mixed hC hGL (by kernel_rfl) | (apply cq; assumption; (first | fail); exact rfl))
             all_goals try conv => whnf)
  all_goals (clear hx; refine tup2 ?_)
  all_goals (first
    | (refine tY h0 ?_ rfl rfl
       generalize hz : aw s = z
       unfold aw aW mayN cp2 cp3 cp4 at hz
       try simp only [show Int.toNat 0 = 0 from rfl, show Int.toNat 1 = 1 from rfl, show Int.toNat (1 + 1) = 2 from rfl, show Int.toNat (1 + 1 + 1) = 3 from rfl] at *
       generalize aa s 0 = b0 at *
       generalize aa s 1 = b1 at *
       generalize aa s 2 = b2 at *
       generalize aa s 3 = b3 at *
       generalize s.length = l at *
       repeat' (split at hz; try (exfalso; omega))
       all_goals (try subst z)
       all_goals (first
         | exact ⟨rfl, rfl⟩
         | (simp only [Bool.and_eq_true, Bool.or_eq_true, decide_eq_true_eq, beq_iff_eq] at *; first | (exfalso; omega) | omega))
       done)
    | (refine yI h0 ?_ (by decide)
       generalize hz : aw s = z
       unfold aw aW mayN cp2 cp3 cp4 at hz
       try simp only [show Int.toNat 0 = 0 from rfl, show Int.toNat 1 = 1 from rfl, show Int.toNat (1 + 1) = 2 from rfl, show Int.toNat (1 + 1 + 1) = 3 from rfl] at *
       generalize aa s 0 = b0 at *
       generalize aa s 1 = b1 at *
       generalize aa s 2 = b2 at *
       generalize aa s 3 = b3 at *
       generalize s.length = l at *
       repeat' (split at hz; try (exfalso; omega))
       all_goals (try subst z)
       all_goals (first
         | exact ⟨rfl, rfl⟩
         | (simp only [Bool.and_eq_true, Bool.or_eq_true, decide_eq_true_eq, beq_iff_eq] at *; first | (exfalso; omega) | omega))))
theorem Dd {G : Glo} (hGL : ad G utfTy) (s : List UInt8) :
    FnIs Tryz.prog G 160 [.str s] (.tuple [.int .i32 ((da s).1 : Int), .int .i64 ((da s).2 : Int)]) := by
  refine fn_x Tryz.func160 Tryz.call160 rfl rfl rfl rfl hGL ?_
  intro C hC
  by_cases h0 : s.length = 0 ∨ 128 ≤ aa s 0
  · have hd := Db (G := G) hGL s h0
    by_cases h1 : s.length = 0
    all_goals (repeat' (first | (conv => whnf); first | refine .w ?_ | refine .v ?_ | refine sc_c ?_ ?_ <;> (intro hb; try exact dd hb) | apply ae | apply an | (apply sc_i <;> intro hb) | (apply bx_i; intro hbd) | (apply aj; first | exact hd) | (apply am (i := 0) rfl; first | exact hd) | (apply ab_i; intro bl) | (apply as_i; intro va vk vc hva) | (apply av_i; intro v) | (apply ac_i; intro bl cap hcap) | apply bo_l | (apply nx_i <;> intro hnx) | exact rt_w | apply dw_q mixed hC hGL (by kernel_rfl) | (apply cq; assumption; (first | exact hd); exact rfl))
               all_goals try conv => whnf)
    all_goals (exfalso; simp only [Int.toNat_zero] at *; omega)
  · repeat' (first | (conv => whnf); first | refine .w ?_ | refine .v ?_ | refine sc_c ?_ ?_ <;> (intro hb; try exact dd hb) | apply ae | apply an | (apply sc_i <;> intro hb) | (apply bx_i; intro hbd) | (apply aj; first | fail) | (apply am (i := 0) rfl; first | fail) | (apply ab_i; intro bl) | (apply as_i; intro va vk vc hva) | (apply av_i; intro v) | (apply ac_i; intro bl cap hcap) | apply bo_l | (apply nx_i <;> intro hnx) | exact rt_w | apply dw_q mixed hC hGL (by kernel_rfl) | (apply cq; assumption; (first | fail); exact rfl))
    all_goals try conv => whnf
    refine tup2 ?_
    refine yI (by omega) ?_ (by decide)
    generalize hz : aw s = z
    unfold aw aW mayN cp2 cp3 cp4 at hz
    try simp only [show Int.toNat 0 = 0 from rfl, show Int.toNat 1 = 1 from rfl, show Int.toNat (1 + 1) = 2 from rfl, show Int.toNat (1 + 1 + 1) = 3 from rfl] at *
    generalize aa s 0 = b0 at *
    generalize aa s 1 = b1 at *
    generalize aa s 2 = b2 at *
    generalize aa s 3 = b3 at *
    generalize s.length = l at *
    repeat' (split at hz; try (exfalso; omega))
    all_goals (try subst z)
    all_goals (first
      | exact ⟨rfl, rfl⟩
      | (simp only [Bool.and_eq_true, Bool.or_eq_true, decide_eq_true_eq, beq_iff_eq] at *; first | (exfalso; omega) | omega))
end
section
open Go
attribute [local irreducible] AWp AOps aa az OrOk ad ah
attribute [local irreducible] aw badI badS aT cutS rngR ownB
attribute [local irreducible] firstTab da
theorem mN (s : List UInt8) : ((aw s).2 = 0 → (aw s).1 = 0) ∧ ((aw s).2 = 1 → (aw s).1 < 128) ∧ (s.length = 0 → (aw s).2 = 0) := by
 refine ⟨?_, ?_, ?_⟩
 ·unfold aw; (repeat' split) <;> simp
 ·unfold aw; (repeat' split) <;> simp; omega
 ·intro h; unfold aw; simp [h]
theorem zX (s : List UInt8) : (((aw s).2 : Int) = 0 → ((da s).2 : Int) = 0 ∧ s.length = 0 ∨ ((da s).1 : Int) = 65533 ∧ ((da s).2 : Int) = 1) ∧ (((aw s).2 : Int) ≠ 0 → ((da s).1 : Int) = (aw s).1 ∧ ((da s).2 : Int) = (aw s).2) := by
 have hf := mN s
 unfold da
 by_cases h0 : s.length = 0
 ·rw [if_pos h0]
  refine ⟨fun _ => .inl ⟨rfl, h0⟩, fun h => absurd (hf.2.2 h0) (by omega)⟩
 ·rw [if_neg h0]
  by_cases h1 : (aw s).2 = 0
  ·rw [if_pos h1]
   exact ⟨fun _ => .inr ⟨rfl, rfl⟩, fun h => absurd h1 (by omega)⟩
  ·rw [if_neg h1]
   exact ⟨fun h => absurd h (by omega), fun _ => ⟨rfl, rfl⟩⟩
theorem uq {G : Glo} (hU : ad G utfTy) (s : List UInt8) :
  FnIs Tryz.prog G 124 [.str s] (.tuple [.int .i64 ((aw s).1 : Int), .int .i64 ((aw s).2 : Int)]) := by
 have hGL : ad G [] := ab
 refine fn_x Tryz.func124 Tryz.call124 rfl rfl rfl rfl hGL ?_
 intro C hC
 have hd := Dd (G := G) hU s
 have hn := d9 s
 have hf := mN s
 have hr := zX s
 have hk : ((da s).1 : Int) ≤ 1114111 := by
  by_cases h : (aw s).2 = 0
  ·unfold da; rw [if_pos h]; split <;> decide
  ·omega
 repeat' (first | (conv => whnf); first | refine .w ?_ | refine .v ?_ | refine sc_c ?_ ?_ <;> (intro hb; try exact dd hb) | apply ae | apply an | (apply sc_i <;> intro hb) | (apply bx_i; intro hbd) | (apply aj; first | exact hd) | (apply am (i := 0) rfl; first | exact hd) | (apply ab_i; intro bl) | (apply as_i; intro va vk vc hva) | (apply av_i; intro v) | (apply ac_i; intro bl cap hcap) | apply bo_l | (apply nx_i <;> intro hnx) | exact rt_w | apply dw_q mixed hC hGL (by kernel_rfl) | (apply cq; assumption; (first | exact hd); exact rfl))
 all_goals try conv => whnf
 all_goals (refine tup2 ?_; omega)
theorem sf {G : Glo} (hU : ad G utfTy) (s : List UInt8) (hl : s.length ≤ 9223372036854775807) : FnIs Tryz.prog G 69 [.str s] (.int .i64 (badI s)) := by
 have hGL : ad G [] := ab
 refine fn_x Tryz.func69 Tryz.call69 rfl rfl rfl rfl hGL ?_
 intro C hC
 have hle := fun k => d9 (s.drop k)
 have hN := fun t => uq (G := G) hU t
 repeat' (first | (conv => whnf); first | refine .w ?_ | refine .v ?_ | refine sc_c ?_ ?_ <;> (intro hb; try exact dd hb) | apply ae | apply an | (apply sc_i <;> intro hb) | (apply bx_i; intro hbd) | (apply aj; first | exact hN _) | (apply am (i := 0) rfl; first | exact hN _) | (apply ab_i; intro bl) | (apply as_i; intro va vk vc hva) | (apply av_i; intro v) | (apply ac_i; intro bl cap hcap) | apply bo_l | (apply nx_i <;> intro hnx) | exact rt_w | apply dw_q mixed hC hGL (by kernel_rfl) | (apply cq; assumption; (first | exact hN _); exact rfl))
 all_goals try conv => whnf
 refine lp hC hGL (fun (i : Nat) => [(0, .str s), (7, .own 0 (.pointer (some ⟨bl, 0, none⟩)))]) (fun i => [.iter bl s i]) (fun i => i ≤ s.length ∧ badS s = (badS (s.drop i)).map (· + i)) (fun i => s.length - i) 0 ?_ ak rfl ?_
 ·exact ⟨Nat.zero_le _, by simp⟩
 rintro i ⟨hi, hb0⟩
 have hn := hle i
 rw [List.length_drop] at hn
 repeat' (first | (conv => whnf); first | refine .w ?_ | refine .v ?_ | refine sc_c ?_ ?_ <;> (intro hb; try exact dd hb) | apply ae | apply an | (apply sc_i <;> intro hb) | (apply bx_i; intro hbd) | (apply aj; first | exact hN _) | (apply am (i := 0) rfl; first | exact hN _) | (apply ab_i; intro bl) | (apply as_i; intro va vk vc hva) | (apply av_i; intro v) | (apply ac_i; intro bl cap hcap) | apply bo_l | (apply nx_i <;> intro hnx) | exact rt_w | apply dw_q mixed hC hGL (by kernel_rfl) | (apply cq; assumption; (first | exact hN _); exact rfl))
 all_goals try conv => whnf
 ·apply al
  refine congrArg (AVal.int .i64) ?_
  have h1 := jx (s.drop i) (by rw [List.length_drop]; omega)
  rw [if_pos (by omega)] at h1
  rw [h1] at hb0
  simp only [badI, hb0, Option.map_some, Nat.zero_add]
 ·have h1 := jx (s.drop i) (by rw [List.length_drop]; omega)
  rw [if_neg (by omega)] at h1
  have h2 : aT (s.drop i) = (aw (s.drop i)).2 := by unfold aT; rw [if_neg (by omega)]
  refine nxt (i + aT (s.drop i)) ⟨by omega, ?_⟩ (by omega) ⟨rfl, rfl, trivial⟩ rfl
  rw [hb0, h1, List.drop_drop, h2]
  cases badS (s.drop (i + (aw (s.drop i)).2)) <;> simp <;> omega
 ·apply al
  refine congrArg (AVal.int .i64) ?_
  rw [vL (s.drop i) (by rw [List.length_drop]; omega)] at hb0
  simp only [badI, hb0, Option.map_none]
theorem Em {G : Glo} (hU : ad G utfTy) (s : List UInt8) (n : Int) (hl : s.length ≤ 9223372036854775807) : FnIs Tryz.prog G 70 [.str s, .int .i64 n] (.int .i64 (cutS s 0 n)) := by
 have hGL : ad G [] := ab
 refine fn_x Tryz.func70 Tryz.call70 rfl rfl rfl rfl hGL ?_
 intro C hC
 have hle := fun k => d9 (s.drop k)
 have hN := fun t => uq (G := G) hU t
 repeat' (first | (conv => whnf); first | refine .w ?_ | refine .v ?_ | refine sc_c ?_ ?_ <;> (intro hb; try exact dd hb) | apply ae | apply an | (apply sc_i <;> intro hb) | (apply bx_i; intro hbd) | (apply aj; first | exact hN _) | (apply am (i := 0) rfl; first | exact hN _) | (apply ab_i; intro bl) | (apply as_i; intro va vk vc hva) | (apply av_i; intro v) | (apply ac_i; intro bl cap hcap) | apply bo_l | (apply nx_i <;> intro hnx) | exact rt_w | apply dw_q mixed hC hGL (by kernel_rfl) | (apply cq; assumption; (first | exact hN _); exact rfl))
 all_goals try conv => whnf
 refine lp hC hGL (fun (x : Nat × Nat) => [(0, .str s), (1, .int .i64 n), (5, .int .i64 x.2), (6, .int .i64 x.1)]) (fun _ => []) (fun x => x.1 ≤ s.length ∧ ((x.1 = x.2 ∧ cutS s 0 n = cutS (s.drop x.1) x.1 n) ∨ (n < x.1 ∧ cutS s 0 n = x.2))) (fun x => s.length - x.1) (0, 0) ?_ ak rfl ?_
 ·exact ⟨Nat.zero_le _, .inl ⟨rfl, by simp⟩⟩
 rintro ⟨i, j⟩ ⟨hi, hb0⟩
 dsimp only at hi hb0 ⊢
 have hn := hle i
 rw [List.length_drop] at hn
 have hst : (aT (s.drop i) : Int) = if ((aw (s.drop i)).2 : Int) = 0 then 1 else ((aw (s.drop i)).2 : Int) := by unfold aT; split <;> split <;> omega
 repeat' (first | (conv => whnf); first | refine .w ?_ | refine .v ?_ | refine sc_c ?_ ?_ <;> (intro hb; try exact dd hb) | apply ae | apply an | (apply sc_i <;> intro hb) | (apply bx_i; intro hbd) | (apply aj; first | exact hN _) | (apply am (i := 0) rfl; first | exact hN _) | (apply ab_i; intro bl) | (apply as_i; intro va vk vc hva) | (apply av_i; intro v) | (apply ac_i; intro bl cap hcap) | apply bo_l | (apply nx_i <;> intro hnx) | exact rt_w | apply dw_q mixed hC hGL (by kernel_rfl) | (apply cq; assumption; (first | exact hN _); exact rfl))
 all_goals try conv => whnf
 any_goals (
  refine Gc ?_
  have h1 := gn (s.drop i) i n (by rw [List.length_drop]; omega)
  have h2 := nU (s.drop i) (by rw [List.length_drop]; omega)
  rw [List.length_drop] at h2
  have h3 := eK (s.drop i)
  rw [List.drop_drop] at h1)
 any_goals (
  refine nxt (i + aT (s.drop i), i + aT (s.drop i)) ⟨by omega, .inl ⟨rfl, ?_⟩⟩ (by dsimp only; omega) ⟨rfl, rfl, congrArg (fun z => some (AVal.int .i64 z)) (by dsimp only; omega), congrArg (fun z => some (AVal.int .i64 z)) (by dsimp only; omega), trivial⟩ rfl
  dsimp only
  rw [if_neg (by omega)] at h1
  omega)
 any_goals (
  refine nxt (i + aT (s.drop i), j) ⟨by omega, .inr ⟨by dsimp only; omega, ?_⟩⟩ (by dsimp only; omega) ⟨rfl, rfl, rfl, congrArg (fun z => some (AVal.int .i64 z)) (by dsimp only; omega), trivial⟩ rfl
  dsimp only
  by_cases hc : n < (i : Int) + (aT (s.drop i) : Int)
  ·rw [if_pos hc] at h1; omega
  ·omega)
 all_goals (
  apply al
  refine congrArg (AVal.int .i64) ?_
  rw [lh (s.drop i) _ _ (by rw [List.length_drop]; omega)] at hb0
  omega)
end
section
open Go Go.RowKit
theorem kX {b : Bool} {c : Int} (h : (c < 32 ∧ c ≠ 9 ∧ c ≠ 10) ∨ c = 127 ∨ (c = 10 ∧ b = false)) : hdC b c = true := decide_eq_true (by
 rcases h with h | h | h
 ·exact .inl ⟨h.1, h.2.1, .inl h.2.2⟩
 ·exact .inr h
 ·exact .inl ⟨by omega, by omega, .inr h.2⟩)
theorem sC {b : Bool} {c : Int} (h1 : c ≠ 127) (h : 32 ≤ c ∨ c = 9 ∨ (c = 10 ∧ b = true)) : hdC b c = false := decide_eq_false (by
 rintro (k | k)
 ·rcases h with h | h | h
  ·omega
  ·omega
  ·rcases k.2.2 with m | m
   ·exact m h.1
   ·rw [h.2] at m; cases m
 ·exact h1 k)
theorem Fr {c : Int} : hdC true c = true ↔ (c < 32 ∧ c ≠ 9 ∧ c ≠ 10) ∨ c = 127 := by simp [hdC]
theorem qY {c : Int} : hdC false c = true ↔ (c < 32 ∧ c ≠ 9) ∨ c = 127 := by simp [hdC]
theorem CT {b : Bool} {s : List UInt8} {i : Nat} (hi : i < s.length) (h : hdC b (aa s i : Int) = true) (hb : ∀ j, j < i → hdC b (aa s j : Int) = false) : hdB b s = false := by
 unfold hdB
 rw [gQ hi h hb]
 exact decide_eq_false (by omega)
theorem zf {b : Bool} {s : List UInt8} {i : Nat} (hi : s.length ≤ i) (hb : ∀ j, j < i → hdC b (aa s j : Int) = false) : hdB b s = ltB (badI s) 0 := by
 unfold hdB
 rw [dI (fun j hj => hb j (by omega)), Bool.eq_iff_iff, jL]
 simp
attribute [local irreducible] AWp AOps aa az OrOk ad ah
attribute [local irreducible] hdC hdB badI
theorem mK {G : Glo} (c : Int) : FnIs Tryz.prog G 136 [.int .u8 c] (.bool (hdC false c)) := by
 have hGL : ad G [] := ab
 refine fn_x Tryz.func136 Tryz.call136 rfl rfl rfl rfl hGL ?_
 intro C hC
 refine xw ?_
 repeat' (first | exact Le.n | refine Lc.mk ?_ ?_)
 all_goals intros
 all_goals (apply al; refine congrArg AVal.bool ?_)
 all_goals (rw [Bool.eq_iff_iff, qY]; simp only [de, reduceCtorEq, true_iff, false_iff]; omega)
end
section
open Go Go.RowKit
attribute [local irreducible] AWp AOps aa az OrOk ad ah
attribute [local irreducible] hdC hdB badI
theorem su {G : Glo} (c : Int) : FnIs Tryz.prog G 149 [.int .u8 c] (.bool (hdC false c)) := by
 have hGL : ad G [] := ab
 refine fn_x Tryz.func149 Tryz.call149 rfl rfl rfl rfl hGL ?_
 intro C hC
 refine xw ?_
 repeat' (first | exact Le.n | refine Lc.mk ?_ ?_)
 all_goals intros
 all_goals (apply al; refine congrArg AVal.bool ?_)
 all_goals (rw [Bool.eq_iff_iff, qY]; simp only [de, reduceCtorEq, true_iff, false_iff]; omega)
end
section
open Go Go.RowKit
theorem jv {G : Glo} (s : List UInt8) (c : UInt8) : FnIs Tryz.prog G 185 [.str s, .str [c]] (.int .i64 (s.countP (· == c) : Nat)) := by
 refine bi rfl Tryz.call185 ?_
 rintro R args ⟨x, t, e, hx, y, t', e', hy, rfl⟩ w hG hs
 obtain rfl := aC.1 hx
 obtain rfl := aC.1 hy
 subst e'
 obtain rfl := dL e
 refine (Tryz.strings_Count_one ⟨s.toArray⟩ c w).mono ?_
 rintro e w' ⟨rfl, rfl⟩
 exact ⟨by simp [AVal.conc, Lib.countByte, List.count], Below.refl _ _⟩
end
section
open Go Go.RowKit
theorem xm0 {P : Prop} (h : P := by
  repeat' (first
   | (conv => whnf); first
    | refine .w ?_ | refine Ix.v ?_ | refine Sd.v ?_ | refine Sl.v ?_ | apply cP | apply au
    | refine sc_c ?_ ?_ <;> (intro wb; try exact dd wb)
    | apply ae | (apply sc_i <;> intro wb) | (apply bx_i; intro wb) | (apply gt_i; assumption; exact rfl)
    | (apply aj; first | assumption | (apply k1 <;> omega)) | (apply ab_i; intro wl) | (apply al; exact rfl) | exact rt_w
    | exact True.intro | (apply bc_i; intro wC whC) | apply bt_i | apply og_n | (apply og_a; exact rfl))
  all_goals (try conv => whnf)) : P := h
theorem xm1 {P Q : Prop} (hQ : Q) (h : Lf Q → P := by
  intro ww
  repeat' (first
   | (conv => whnf); first
    | refine .w ?_ | refine Ix.v ?_ | refine Sd.v ?_ | refine Sl.v ?_ | apply cP | apply au
    | refine sc_c ?_ ?_ <;> (intro wb; try exact dd wb)
    | apply ae | (apply sc_i <;> intro wb) | (apply bx_i; intro wb) | (apply gt_i; assumption; exact rfl)
    | (apply aj; first | assumption | (apply k1 <;> omega)) | (apply ab_i; intro wl) | (apply al; exact rfl) | exact rt_w
    | exact True.intro | (apply bc_i; intro wC whC) | apply bt_i | apply og_n | (apply og_a; exact rfl))
  all_goals (try conv => whnf)
  all_goals (repeat (first | revert wb | revert wl | revert whC | revert wC))
  all_goals (apply Lf.h; apply ww)) : P := h ⟨hQ⟩
theorem xm {P Q : Prop} (hQ : Q) (h : Lf Q → P := by
  intro ww
  repeat' (first
   | (conv => whnf); first
    | refine .w ?_ | refine Ix.v ?_ | refine Sd.v ?_ | refine Sl.v ?_ | apply cP | apply au
    | refine sc_c ?_ ?_ <;> (intro wb; try exact dd wb)
    | apply ae | (apply sc_i <;> intro wb) | (apply bx_i; intro wb) | (apply gt_i; assumption; exact rfl)
    | (apply aj; first | assumption | (apply k1 <;> omega)) | (apply ab_i; intro wl) | (apply al; exact rfl) | exact rt_w
    | exact True.intro | (apply bc_i; intro wC whC) | apply bt_i | apply og_n | (apply og_a; exact rfl))
  all_goals (try conv => whnf)
  all_goals (repeat (first | revert wb | revert wl | revert whC | revert wC))
  all_goals (apply Lf.l; with_reducible (repeat (first | apply ww | apply Lf.r)))) (e : Lz Q := by repeat (first | exact Lz.n | apply Lz.c)) : P := h ⟨hQ⟩
end
section
open Go
theorem AD {a b c : UInt8} (r : Int) : (0 ≤ idxB [a, b, c] r ↔ ∃ x ∈ [a, b, c], r = x.toNat) := by
 unfold idxB
 simp only [idxF, List.mem_cons, List.not_mem_nil, or_false, exists_eq_or_imp, exists_eq_left]
 split
 ·omega
 ·split
  ·omega
  ·split <;> omega
end
section
open Go Go.RowKit
def DR (G : Glo) (cs : List UInt8) : Prop := ∀ r : Int, mayZ r = true → ∃ z : Int, FnIs Tryz.prog G 127 [.str cs, .int .i32 r] (.int .i64 z) ∧ (0 ≤ z ↔ ∃ x ∈ cs, r = x.toNat)
theorem sD {cs : List UInt8} (x : UInt8) : cs.contains x = true ↔ ∃ y ∈ cs, (x.toNat : Int) = y.toNat := by
 rw [List.contains_iff_exists_mem_beq]
 exact ⟨fun ⟨y, h, e⟩ => ⟨y, h, by rw [beq_iff_eq.1 e]⟩, fun ⟨y, h, e⟩ => ⟨y, h, beq_iff_eq.2 (UInt8.toNat_inj.1 (by omega))⟩⟩
theorem EH {cs : List UInt8} {x : UInt8} (h : ¬ ∃ y ∈ cs, (x.toNat : Int) = y.toNat) : cs.contains x = false := by
 cases hc : cs.contains x with
 | false => rfl
 | true => exact absurd ((sD x).1 hc) h
theorem AL {r : Int} (h1 : 128 ≤ r) (hv : mayZ r = true) : (∃ x y : UInt8, (Utf8.encode r).data.toList = [x, y] ∧ 128 ≤ y.toNat) ∨ (∃ x y z : UInt8, (Utf8.encode r).data.toList = [x, y, z] ∧ 128 ≤ z.toNat) ∨ (∃ x y z u : UInt8, (Utf8.encode r).data.toList = [x, y, z, u] ∧ 128 ≤ u.toNat) := by
 rw [gL] at hv
 rw [zn hv]
 have hb : ∀ k : Nat, 128 ≤ ((UInt8.ofNat (128 + k % 64)).toNat) := by
  intro k
  have e : 128 + k % 64 < 256 := by omega
  rw [UInt8.toNat_ofNat_of_lt' (by simpa using e)]
  omega
 split
 ·omega
 ·split
  ·exact .inl ⟨_, _, rfl, hb _⟩
  ·split
   ·exact .inr (.inl ⟨_, _, _, rfl, hb _⟩)
   ·exact .inr (.inr ⟨_, _, _, _, rfl, hb _⟩)
theorem dW {a b c : UInt8} : aa [a, b, c] 0 = a.toNat ∧ aa [a, b, c] 1 = b.toNat ∧ aa [a, b, c] 2 = c.toNat := ⟨rfl, rfl, rfl⟩
attribute [local irreducible] AWp AOps aa az OrOk ad ah
attribute [local irreducible] aw badI badS aT cutS rngR ownB mayZ
theorem yJ {a b c x y : UInt8} {p : Prop} (hb : b.toNat < 128) (hc : c.toNat < 128) (hy : 128 ≤ y.toNat) (h : (aa [a, b, c] 1 : Int) = (aa [x, y] 1 : Int)) : p := by
 rw [dW.2.1, two1] at h
 omega
theorem tX {a b c x y z : UInt8} {p : Prop} (hb : b.toNat < 128) (hc : c.toNat < 128) (hy : 128 ≤ z.toNat) (h : (aa [a, b, c] 2 : Int) = (aa [x, y, z] 2 : Int)) : p := by
 rw [dW.2.2, dW.2.2] at h
 omega
theorem p8 {G : Glo} {a b c : UInt8} (ha : a.toNat < 128) (hb' : b.toNat < 128) (hc' : c.toNat < 128) (r : Int) (h1 : 128 ≤ r) (hv : mayZ r = true) (hne : r ≠ 65533) : FnIs Tryz.prog G 127 [.str [a, b, c], .int .i32 r] (.int .i64 (-1)) := by
 have hV := nQ (G := G) r
 rw [hv] at hV
 obtain ⟨g0, g1, g2⟩ := dW (a := a) (b := b) (c := c)
 have hix : ∀ q : Int, 128 ≤ q → q ≤ 255 → FnIs Tryz.prog G 121 [.str [c], .int .u8 q] (.int .i64 (-1)) := fun q h0 h1 => by
  have := aM (G := G) [c] q (by omega) h1
  rwa [show idxB [c] q = -1 by unfold idxB; simp only [idxF]; split <;> omega] at this
 have hix0 : ∀ q : Int, 0 ≤ q → q ≤ 255 → FnIs Tryz.prog G 121 [.str [], .int .u8 q] (.int .i64 (-1)) := fun q h0 h1 => aM [] q h0 h1
 have hcall := Tryz.call121
 rcases AL h1 hv with ⟨x, y, he, hy⟩ | ⟨x, y, z, he, hy⟩ | ⟨x, y, z, u, he, hy⟩
 ·have f1 : aa [x, y] 1 = y.toNat := two1
  have e1 : aa [a, b, c] ([x, y].length - Nat.succ 0) = b.toNat := dW.2.1
  have e2 : aa [x, y] ([x, y].length - Nat.succ 0) = y.toNat := two1
  have f2 := hix (aa [x, y] 1) (by omega) (by have := aL [x, y] 1; omega)
  have hGL : ad G [] := ab
  refine fn_x Tryz.func127 Tryz.call127 rfl rfl rfl rfl hGL ?_
  intro C hC
  repeat' (first | (conv => whnf); first | refine .w ?_ | refine .v ?_ | refine sc_c ?_ ?_ <;> (intro hb; try exact dd hb) | apply ae | apply an | (apply sc_i <;> intro hb) | (apply bx_i; intro hbd) | (apply aj; first | exact hV) | (apply am (i := 0) rfl; first | exact hV) | (apply ab_i; intro bl) | (apply as_i; intro va vk vc hva) | (apply av_i; intro v) | (apply ac_i; intro bl cap hcap) | apply bo_l | (apply nx_i <;> intro hnx) | exact rt_w | apply dw_q mixed hC hGL (by kernel_rfl) | (apply cq; assumption; (first | exact hV); exact rfl))
  all_goals try conv => whnf
  apply fm hC hGL
  repeat' (first | (conv => whnf); first | refine .w ?_ | refine .v ?_ | refine sc_c ?_ ?_ <;> (intro hb; try exact dd hb) | apply ae | apply an | (apply sc_i <;> intro hb) | (apply bx_i; intro hbd) | (apply aj; first | exact hV) | (apply am (i := 0) rfl; first | exact hV) | (apply ab_i; intro bl) | (apply as_i; intro va vk vc hva) | (apply av_i; intro v) | (apply ac_i; intro bl cap hcap) | apply bo_l | (apply nx_i <;> intro hnx) | exact rt_w | apply dw_q mixed hC hGL (by kernel_rfl) | (apply cq; assumption; (first | exact hV); exact rfl))
  all_goals try conv => whnf
  refine aI hC hGL (nq rfl rfl rfl rfl) rfl rfl ?_
  rw [he]
  repeat' (first | (conv => whnf); first | refine .w ?_ | refine .v ?_ | refine sc_c ?_ ?_ <;> (intro hb; try exact dd hb) | apply ae | apply an | (apply sc_i <;> intro hb) | (apply bx_i; intro hbd) | (apply aj; first | exact hV) | (apply am (i := 0) rfl; first | exact hV) | (apply ab_i; intro bl) | (apply as_i; intro va vk vc hva) | (apply av_i; intro v) | (apply ac_i; intro bl cap hcap) | apply bo_l | (apply nx_i <;> intro hnx) | exact rt_w | apply dw_q mixed hC hGL (by kernel_rfl) | (apply cq; assumption; (first | exact hV); exact rfl))
  all_goals try conv => whnf
  refine rds hC hGL 1 ?_
  repeat' (first | (conv => whnf); first | refine .w ?_ | refine .v ?_ | refine sc_c ?_ ?_ <;> (intro hb; try exact dd hb) | apply ae | apply an | (apply sc_i <;> intro hb) | (apply bx_i; intro hbd) | (apply aj; first | exact hV | exact f2) | (apply am (i := 0) rfl; first | exact hV | exact f2) | (apply ab_i; intro bl) | (apply as_i; intro va vk vc hva) | (apply av_i; intro v) | (apply ac_i; intro bl cap hcap) | apply bo_l | (apply nx_i <;> intro hnx) | exact rt_w | apply dw_q mixed hC hGL (by kernel_rfl) | (apply cq; assumption; (first | exact hV | exact f2); exact rfl))
  all_goals try conv => whnf
  all_goals first | exact yJ hb' hc' hy hb | skip
  apply fm hC hGL
  repeat' (first | (conv => whnf); first | refine .w ?_ | refine .v ?_ | refine sc_c ?_ ?_ <;> (intro hb; try exact dd hb) | apply ae | apply an | (apply sc_i <;> intro hb) | (apply bx_i; intro hbd) | (apply aj; first | exact hV | exact f2) | (apply am (i := 0) rfl; first | exact hV | exact f2) | (apply ab_i; intro bl) | (apply as_i; intro va vk vc hva) | (apply av_i; intro v) | (apply ac_i; intro bl cap hcap) | apply bo_l | (apply nx_i <;> intro hnx) | exact rt_w | apply dw_q mixed hC hGL (by kernel_rfl) | (apply cq; assumption; (first | exact hV | exact f2); exact rfl))
  all_goals try conv => whnf
  all_goals first | exact yJ hb' hc' hy hb | skip
 ·have f1 : aa [x, y, z] 2 = z.toNat := dW.2.2
  have e1 : aa [a, b, c] ([x, y, z].length - Nat.succ 0) = c.toNat := dW.2.2
  have e2 : aa [x, y, z] ([x, y, z].length - Nat.succ 0) = z.toNat := dW.2.2
  have f2 := hix0 (aa [x, y, z] 2) (by omega) (by have := aL [x, y, z] 2; omega)
  have hGL : ad G [] := ab
  refine fn_x Tryz.func127 Tryz.call127 rfl rfl rfl rfl hGL ?_
  intro C hC
  repeat' (first | (conv => whnf); first | refine .w ?_ | refine .v ?_ | refine sc_c ?_ ?_ <;> (intro hb; try exact dd hb) | apply ae | apply an | (apply sc_i <;> intro hb) | (apply bx_i; intro hbd) | (apply aj; first | exact hV) | (apply am (i := 0) rfl; first | exact hV) | (apply ab_i; intro bl) | (apply as_i; intro va vk vc hva) | (apply av_i; intro v) | (apply ac_i; intro bl cap hcap) | apply bo_l | (apply nx_i <;> intro hnx) | exact rt_w | apply dw_q mixed hC hGL (by kernel_rfl) | (apply cq; assumption; (first | exact hV); exact rfl))
  all_goals try conv => whnf
  apply fm hC hGL
  repeat' (first | (conv => whnf); first | refine .w ?_ | refine .v ?_ | refine sc_c ?_ ?_ <;> (intro hb; try exact dd hb) | apply ae | apply an | (apply sc_i <;> intro hb) | (apply bx_i; intro hbd) | (apply aj; first | exact hV) | (apply am (i := 0) rfl; first | exact hV) | (apply ab_i; intro bl) | (apply as_i; intro va vk vc hva) | (apply av_i; intro v) | (apply ac_i; intro bl cap hcap) | apply bo_l | (apply nx_i <;> intro hnx) | exact rt_w | apply dw_q mixed hC hGL (by kernel_rfl) | (apply cq; assumption; (first | exact hV); exact rfl))
  all_goals try conv => whnf
  refine aI hC hGL (nq rfl rfl rfl rfl) rfl rfl ?_
  rw [he]
  repeat' (first | (conv => whnf); first | refine .w ?_ | refine .v ?_ | refine sc_c ?_ ?_ <;> (intro hb; try exact dd hb) | apply ae | apply an | (apply sc_i <;> intro hb) | (apply bx_i; intro hbd) | (apply aj; first | exact hV) | (apply am (i := 0) rfl; first | exact hV) | (apply ab_i; intro bl) | (apply as_i; intro va vk vc hva) | (apply av_i; intro v) | (apply ac_i; intro bl cap hcap) | apply bo_l | (apply nx_i <;> intro hnx) | exact rt_w | apply dw_q mixed hC hGL (by kernel_rfl) | (apply cq; assumption; (first | exact hV); exact rfl))
  all_goals try conv => whnf
  refine rds hC hGL 1 ?_
  repeat' (first | (conv => whnf); first | refine .w ?_ | refine .v ?_ | refine sc_c ?_ ?_ <;> (intro hb; try exact dd hb) | apply ae | apply an | (apply sc_i <;> intro hb) | (apply bx_i; intro hbd) | (apply aj; first | exact hV | exact f2) | (apply am (i := 0) rfl; first | exact hV | exact f2) | (apply ab_i; intro bl) | (apply as_i; intro va vk vc hva) | (apply av_i; intro v) | (apply ac_i; intro bl cap hcap) | apply bo_l | (apply nx_i <;> intro hnx) | exact rt_w | apply dw_q mixed hC hGL (by kernel_rfl) | (apply cq; assumption; (first | exact hV | exact f2); exact rfl))
  all_goals try conv => whnf
  all_goals first | exact tX hb' hc' hy hb | skip
  apply fm hC hGL
  repeat' (first | (conv => whnf); first | refine .w ?_ | refine .v ?_ | refine sc_c ?_ ?_ <;> (intro hb; try exact dd hb) | apply ae | apply an | (apply sc_i <;> intro hb) | (apply bx_i; intro hbd) | (apply aj; first | exact hV | exact f2) | (apply am (i := 0) rfl; first | exact hV | exact f2) | (apply ab_i; intro bl) | (apply as_i; intro va vk vc hva) | (apply av_i; intro v) | (apply ac_i; intro bl cap hcap) | apply bo_l | (apply nx_i <;> intro hnx) | exact rt_w | apply dw_q mixed hC hGL (by kernel_rfl) | (apply cq; assumption; (first | exact hV | exact f2); exact rfl))
  all_goals try conv => whnf
  all_goals first | exact tX hb' hc' hy hb | skip
 ·have hGL : ad G [] := ab
  refine fn_x Tryz.func127 Tryz.call127 rfl rfl rfl rfl hGL ?_
  intro C hC
  repeat' (first | (conv => whnf); first | refine .w ?_ | refine .v ?_ | refine sc_c ?_ ?_ <;> (intro hb; try exact dd hb) | apply ae | apply an | (apply sc_i <;> intro hb) | (apply bx_i; intro hbd) | (apply aj; first | exact hV) | (apply am (i := 0) rfl; first | exact hV) | (apply ab_i; intro bl) | (apply as_i; intro va vk vc hva) | (apply av_i; intro v) | (apply ac_i; intro bl cap hcap) | apply bo_l | (apply nx_i <;> intro hnx) | exact rt_w | apply dw_q mixed hC hGL (by kernel_rfl) | (apply cq; assumption; (first | exact hV); exact rfl))
  all_goals try conv => whnf
  apply fm hC hGL
  repeat' (first | (conv => whnf); first | refine .w ?_ | refine .v ?_ | refine sc_c ?_ ?_ <;> (intro hb; try exact dd hb) | apply ae | apply an | (apply sc_i <;> intro hb) | (apply bx_i; intro hbd) | (apply aj; first | exact hV) | (apply am (i := 0) rfl; first | exact hV) | (apply ab_i; intro bl) | (apply as_i; intro va vk vc hva) | (apply av_i; intro v) | (apply ac_i; intro bl cap hcap) | apply bo_l | (apply nx_i <;> intro hnx) | exact rt_w | apply dw_q mixed hC hGL (by kernel_rfl) | (apply cq; assumption; (first | exact hV); exact rfl))
  all_goals try conv => whnf
  refine aI hC hGL (nq rfl rfl rfl rfl) rfl rfl ?_
  rw [he]
  repeat' (first | (conv => whnf); first | refine .w ?_ | refine .v ?_ | refine sc_c ?_ ?_ <;> (intro hb; try exact dd hb) | apply ae | apply an | (apply sc_i <;> intro hb) | (apply bx_i; intro hbd) | (apply aj; first | exact hV) | (apply am (i := 0) rfl; first | exact hV) | (apply ab_i; intro bl) | (apply as_i; intro va vk vc hva) | (apply av_i; intro v) | (apply ac_i; intro bl cap hcap) | apply bo_l | (apply nx_i <;> intro hnx) | exact rt_w | apply dw_q mixed hC hGL (by kernel_rfl) | (apply cq; assumption; (first | exact hV); exact rfl))
  all_goals try conv => whnf
  refine rds hC hGL 1 ?_
  repeat' (first | (conv => whnf); first | refine .w ?_ | refine .v ?_ | refine sc_c ?_ ?_ <;> (intro hb; try exact dd hb) | apply ae | apply an | (apply sc_i <;> intro hb) | (apply bx_i; intro hbd) | (apply aj; first | exact hV) | (apply am (i := 0) rfl; first | exact hV) | (apply ab_i; intro bl) | (apply as_i; intro va vk vc hva) | (apply av_i; intro v) | (apply ac_i; intro bl cap hcap) | apply bo_l | (apply nx_i <;> intro hnx) | exact rt_w | apply dw_q mixed hC hGL (by kernel_rfl) | (apply cq; assumption; (first | exact hV); exact rfl))
  all_goals try conv => whnf
theorem oY {G : Glo} {a b c : UInt8} (ha : a.toNat < 128) (hb' : b.toNat < 128) (hc' : c.toNat < 128) : FnIs Tryz.prog G 127 [.str [a, b, c], .int .i32 65533] (.int .i64 (-1)) := by
 have hGL : ad G [] := ab
 refine fn_x Tryz.func127 Tryz.call127 rfl rfl rfl rfl hGL ?_
 intro C hC
 repeat' (first | (conv => whnf); first | refine .w ?_ | refine .v ?_ | refine sc_c ?_ ?_ <;> (intro hb; try exact dd hb) | apply ae | apply an | (apply sc_i <;> intro hb) | (apply bx_i; intro hbd) | (apply aj; first | fail) | (apply am (i := 0) rfl; first | fail) | (apply ab_i; intro bl) | (apply as_i; intro va vk vc hva) | (apply av_i; intro v) | (apply ac_i; intro bl cap hcap) | apply bo_l | (apply nx_i <;> intro hnx) | exact rt_w | apply dw_q mixed hC hGL (by kernel_rfl) | (apply cq; assumption; (first | fail); exact rfl))
 all_goals try conv => whnf
 refine rds hC hGL 4 ?_
 repeat' (first | (conv => whnf); first | refine .w ?_ | refine .v ?_ | refine sc_c ?_ ?_ <;> (intro hb; try exact dd hb) | apply ae | apply an | (apply sc_i <;> intro hb) | (apply bx_i; intro hbd) | (apply aj; first | fail) | (apply am (i := 0) rfl; first | fail) | (apply ab_i; intro bl) | (apply as_i; intro va vk vc hva) | (apply av_i; intro v) | (apply ac_i; intro bl cap hcap) | apply bo_l | (apply nx_i <;> intro hnx) | exact rt_w | apply dw_q mixed hC hGL (by kernel_rfl) | (apply cq; assumption; (first | fail); exact rfl))
 all_goals try conv => whnf
 all_goals (
  exfalso
  have f1 := jV (x := a) (t := [b, c]) ha
  have f2 := jV (x := b) (t := [c]) hb'
  have f3 := jV (x := c) (t := []) hc'
  simp only [List.drop_zero, f1, f2, f3, Nat.zero_add, List.drop_succ_cons, List.length_cons, List.length_nil] at *
  omega)
theorem p7 {G : Glo} {a b c : UInt8} (r : Int) (h0 : 0 ≤ r) (h1 : r < 128) : FnIs Tryz.prog G 127 [.str [a, b, c], .int .i32 r] (.int .i64 (idxB [a, b, c] r)) := by
 have hGL : ad G [] := ab
 refine fn_x Tryz.func127 Tryz.call127 rfl rfl rfl rfl hGL ?_
 intro C hC
 have hI := aM (G := G) [a, b, c] r h0 (by omega)
 repeat' (first | (conv => whnf); first | refine .w ?_ | refine .v ?_ | refine sc_c ?_ ?_ <;> (intro hb; try exact dd hb) | apply ae | apply an | (apply sc_i <;> intro hb) | (apply bx_i; intro hbd) | (apply aj; first | exact hI) | (apply am (i := 0) rfl; first | exact hI) | (apply ab_i; intro bl) | (apply as_i; intro va vk vc hva) | (apply av_i; intro v) | (apply ac_i; intro bl cap hcap) | apply bo_l | (apply nx_i <;> intro hnx) | exact rt_w | apply dw_q mixed hC hGL (by kernel_rfl) | (apply cq; assumption; (first | exact hI); exact rfl))
 all_goals try conv => whnf
theorem A7 {G : Glo} {a b c : UInt8} (ha : a.toNat < 128) (hb' : b.toNat < 128) (hc' : c.toNat < 128) : DR G [a, b, c] := by
 intro r hv
 have hm := hv
 rw [gL] at hm
 have key : 128 ≤ r → ¬ ∃ x ∈ [a, b, c], r = x.toNat := by
  rintro h ⟨x, hx, e⟩
  simp only [List.mem_cons, List.not_mem_nil, or_false] at hx
  rcases hx with rfl | rfl | rfl <;> omega
 by_cases h1 : r < 128
 ·exact ⟨_, p7 r hm.1 h1, AD r⟩
 ·by_cases h2 : r = 65533
  ·subst h2; exact ⟨-1, oY ha hb' hc', by omega, fun h => absurd h (key (by omega))⟩
  ·exact ⟨-1, p8 ha hb' hc' r (by omega) hv h2, by omega, fun h => absurd h (key (by omega))⟩
theorem nc {G : Glo} {cs : List UInt8} (hA : DR G cs) (hlo : ∀ c ∈ cs, c.toNat < 128) (hc2 : 2 ≤ cs.length) (hc9 : cs.length ≤ 1000) (s : List UInt8) (hl : s.length ≤ 8) : FnIs Tryz.prog G 73 [.str s, .str cs] (.int .i64 (Lib.indexAny s cs)) := by
 have hGL : ad G [] := ab
 refine fn_x Tryz.func73 Tryz.call73 rfl rfl rfl rfl hGL ?_
 intro C hC
 have hS := nZ (G := G) s.length
 repeat' (first | (conv => whnf); first | refine .w ?_ | refine .v ?_ | refine sc_c ?_ ?_ <;> (intro hb; try exact dd hb) | apply ae | apply an | (apply sc_i <;> intro hb) | (apply bx_i; intro hbd) | (apply aj; first | exact hS) | (apply am (i := 0) rfl; first | exact hS) | (apply ab_i; intro bl) | (apply as_i; intro va vk vc hva) | (apply av_i; intro v) | (apply ac_i; intro bl cap hcap) | apply bo_l | (apply nx_i <;> intro hnx) | exact rt_w | apply dw_q mixed hC hGL (by kernel_rfl) | (apply cq; assumption; (first | exact hS); exact rfl))
 all_goals try conv => whnf
 refine lp hC hGL (fun (i : Nat) => [(1, .str cs), (45, .own 0 (.pointer (some ⟨bl, 0, none⟩)))]) (fun i => [.iter bl s i]) (fun i => i ≤ s.length ∧ Lib.NoAny s cs i) (fun i => s.length - i) 0 ?_ ak rfl ?_
 ·exact ⟨Nat.zero_le _, Lib.NoAny.zero _ _⟩
 rintro i ⟨hi, hno⟩
 have hz := fun (h : i < s.length) => qx (s.drop i) (by rw [List.length_drop]; omega)
 have hR : ∃ z : Int, i < s.length → FnIs Tryz.prog G 127 [.str cs, .int .i32 (rngR (s.drop i))] (.int .i64 z) ∧ (0 ≤ z ↔ ∃ x ∈ cs, (rngR (s.drop i) : Int) = x.toNat) := by
  by_cases h : i < s.length
  ·obtain ⟨z, h1, h2⟩ := hA (rngR (s.drop i)) (hz h).1
   exact ⟨z, fun _ => ⟨h1, h2⟩⟩
  ·exact ⟨0, fun h' => absurd h' h⟩
 obtain ⟨z, hR⟩ := hR
 repeat' (first | (conv => whnf); first | refine .w ?_ | refine .v ?_ | refine sc_c ?_ ?_ <;> (intro hb; try exact dd hb) | apply ae | apply an | (apply sc_i <;> intro hb) | (apply bx_i; intro hbd) | (apply aj; first | exact (hR (by omega)).1) | (apply am (i := 0) rfl; first | exact (hR (by omega)).1) | (apply ab_i; intro bl) | (apply as_i; intro va vk vc hva) | (apply av_i; intro v) | (apply ac_i; intro bl cap hcap) | apply bo_l | (apply nx_i <;> intro hnx) | exact rt_w | apply dw_q mixed hC hGL (by kernel_rfl) | (apply cq; assumption; (first | exact (hR (by omega)).1); exact rfl))
 all_goals try conv => whnf
 ·obtain ⟨z1, z2, z3, z4, z5⟩ := hz hnx
  obtain ⟨y, hy, hr⟩ := (hR hnx).2.1 hb
  have hy' := hlo y hy
  have h1 := z4 (by omega)
  have hx : s[i]? = some s[i] := List.getElem?_eq_getElem hnx
  have h2 := bu hx
  rw [bA, Nat.add_zero] at h1
  refine al ?_
  rw [Lib.indexAny_hit hno hx ((sD _).2 ⟨y, hy, by omega⟩)]
 ·obtain ⟨z1, z2, z3, z4, z5⟩ := hz hnx
  rw [List.length_drop] at z3
  have hr : ¬ ∃ x ∈ cs, (rngR (s.drop i) : Int) = x.toNat := fun h => by have := (hR hnx).2.2 h; omega
  refine nxt (i + aT (s.drop i)) ⟨by omega, ?_⟩ (by omega) ⟨rfl, rfl, trivial⟩ rfl
  intro j x hj hx
  by_cases h : j < i
  ·exact hno j x h hx
  ·have h2 := bu hx
   refine EH fun ⟨y, hy, e⟩ => ?_
   have hy' := hlo y hy
   by_cases h128 : (rngR (s.drop i) : Int) < 128
   ·have h3 := z4 h128
    rw [bA, Nat.add_zero] at h3
    have : j = i := by omega
    subst this
    exact hr ⟨y, hy, by omega⟩
   ·have h3 := z5 (by omega) (j - i) (by omega)
    rw [bA, show i + (j - i) = j by omega] at h3
    omega
 ·have : i = s.length := by omega
  subst this
  refine al ?_
  rw [Lib.indexAny_none hno]
  rfl
theorem o0 {G : Glo} {cs : List UInt8} (hlo : ∀ c ∈ cs, c.toNat < 128) (hc2 : 2 ≤ cs.length) (hc9 : cs.length ≤ 1000) (s : List UInt8) (h8 : 8 < s.length) (hl : s.length < 4294967281) : FnIs Tryz.prog G 73 [.str s, .str cs] (.int .i64 (Lib.indexAny s cs)) := by
 refine bi rfl Tryz.call73 ?_
 rintro R args ⟨x, t, e, hx, y, t', e', hy, rfl⟩ w _ _
 obtain rfl := aC.1 hx
 obtain rfl := aC.1 hy
 subst e'
 obtain rfl := dL e
 refine (Tryz.strings_IndexAny_long (fun w => by kernel_rfl) ⟨s.toArray⟩ ⟨cs.toArray⟩ w (by rw [aY]; omega) (by rw [aY]; exact h8) (by rw [aY]; omega) (by rw [aY]; omega) ?_).mono ?_
 ·intro j x hx
  exact hlo x (List.mem_of_getElem? (by simpa using hx))
 ·rintro e w' ⟨rfl, rfl⟩
  exact ⟨by simp [AVal.conc], ((Below.refl w.heap.size w).alloc (Nat.le_refl _) _).alloc (by show w.heap.size ≤ (w.heap.push _).size; simp) _⟩
theorem xr {G : Glo} {cs : List UInt8} (hA : DR G cs) (hlo : ∀ c ∈ cs, c.toNat < 128) (hc2 : 2 ≤ cs.length) (hc9 : cs.length ≤ 1000) (s : List UInt8) (hl : s.length < 4294967281) : FnIs Tryz.prog G 73 [.str s, .str cs] (.int .i64 (Lib.indexAny s cs)) := by
 by_cases h : s.length ≤ 8
 ·exact nc hA hlo hc2 hc9 s h
 ·exact o0 hlo hc2 hc9 s (by omega) hl
end
section
open Go Go.RowKit
theorem xN {s : List UInt8} {i : Nat} (h : i < s.length) : encS (s.take (i + 1)) = encS (s.take i) ++ encF s[i] := by
 rw [List.take_succ_eq_append_getElem h, pk]
 simp [encS]
theorem u8_l {c : UInt8} {k : Nat} (hk : k < 256) (h : c.toNat = k) : c = UInt8.ofNat k := by
 rw [← h, UInt8.ofNat_toNat]
attribute [local irreducible] AWp AOps aa az OrOk ad ah
attribute [local irreducible] encF encS
theorem ov {G : Glo} (s : List UInt8) (hl : s.length ≤ 1000000) : FnIs Tryz.prog G 94 [.str s] (.str (encS s)) := by
 have hGL : ad G [] := ab
 refine fn_x Tryz.func94 Tryz.call94 rfl rfl rfl rfl hGL ?_
 intro C hC
 refine xw1 ?_
 intro bl cap hcap
 intros
 refine lp hC hGL (fun i : Nat => [(3, .str (encS (s.take i))), (7, .own 0 (.slice (some ⟨bl, 0, none⟩) s.length cap)), (8, .int .i64 (s.length : Nat)), (9, .int .i64 (i : Nat))]) (fun _ => [.buf bl s cap]) (fun i => i ≤ s.length) (fun i => s.length - i) 0 (Nat.zero_le _) ⟨?_, rfl, rfl, rfl, trivial⟩ rfl ?_
 ·show some (AVal.str []) = some (AVal.str (encS (s.take 0)))
  rw [List.take_zero, fi]
 ·intro i hi
  have e1 := (fj (s.take i)).2
  rw [List.length_take, Nat.min_eq_left hi] at e1
  by_cases hlt : i < s.length
  ·have et := xN hlt
   have hb0 := eG hlt
   have hby := aL s i
   rcases (show aa s i = 94 ∨ aa s i = 10 ∨ aa s i = 34 ∨ (aa s i ≠ 94 ∧ aa s i ≠ 10 ∧ aa s i ≠ 34) by omega) with hk | hk | hk | ⟨k1, k2, k3⟩
   ·have he : encF s[i] = [94, 94] := by rw [u8_l (by decide) (hb0.symm.trans hk)]; exact sP
    refine xw1 ?_
    intros
    refine nxt (i + 1) ?_ ?_ ⟨?_, rfl, rfl, rfl, trivial⟩ rfl
    ·exact hlt
    ·show s.length - (i + 1) < s.length - i; omega
    ·rw [et, he]; rfl
   ·have he : encF s[i] = [94, 110] := by rw [u8_l (by decide) (hb0.symm.trans hk)]; exact sR
    refine xw1 ?_
    intros
    refine nxt (i + 1) ?_ ?_ ⟨?_, rfl, rfl, rfl, trivial⟩ rfl
    ·exact hlt
    ·show s.length - (i + 1) < s.length - i; omega
    ·rw [et, he]; rfl
   ·have he : encF s[i] = [94, 39] := by rw [u8_l (by decide) (hb0.symm.trans hk)]; exact sQ
    refine xw1 ?_
    intros
    refine nxt (i + 1) ?_ ?_ ⟨?_, rfl, rfl, rfl, trivial⟩ rfl
    ·exact hlt
    ·show s.length - (i + 1) < s.length - i; omega
    ·rw [et, he]; rfl
   ·have he : encF s[i] = aU [(aa s i : Int)] := by
     rw [lf (by rw [← hb0]; exact k1) (by rw [← hb0]; exact k2) (by rw [← hb0]; exact k3), hb0]
     simp [aU]
    refine xw1 ?_
    intros
    refine aI hC hGL (bp [(aa s i : Int)] rfl (by intro v hv; simp only [List.mem_cons, List.not_mem_nil, or_false] at hv; omega) rfl rfl rfl rfl rfl rfl) rfl rfl ?_
    have hl9 : (aU [(aa s i : Int)]).length = 1 := rfl
    refine xw1 ?_
    intros
    refine nxt (i + 1) ?_ ?_ ⟨?_, rfl, rfl, rfl, trivial⟩ rfl
    ·exact hlt
    ·show s.length - (i + 1) < s.length - i; omega
    ·rw [et, he]; rfl
  ·have h9 : encS (s.take i) = encS s := by rw [List.take_of_length_le (by omega)]
   refine xw1 ?_
   intros
   apply al
   rw [h9]
end
section
open Go Go.RowKit
theorem uU (c : UInt8) : ∀ (l : List UInt8) (k : Nat), (0 ≤ idxF (c.toNat : Int) l k ∧ c ∈ l) ∨ (idxF (c.toNat : Int) l k < 0 ∧ c ∉ l)
 | [], k => .inr ⟨by simp [idxF], by simp⟩
 | x :: t, k => by
  unfold idxF
  by_cases h : (x.toNat : Int) = c.toNat
  ·have : x = c := UInt8.toNat_inj.1 (by omega)
   rw [if_pos h]
   exact .inl ⟨by omega, by simp [this]⟩
  ·have hne : c ≠ x := fun e => h (by rw [e])
   rw [if_neg h]
   rcases uU c t (k + 1) with ⟨h1, h2⟩ | ⟨h1, h2⟩
   ·exact .inl ⟨h1, List.mem_cons_of_mem _ h2⟩
   ·exact .inr ⟨h1, fun h3 => (List.mem_cons.1 h3).elim hne h2⟩
theorem CP {s : List UInt8} {c : UInt8} : 0 ≤ idxB s (c.toNat : Int) ↔ c ∈ s := by
 unfold idxB
 rcases uU c s 0 with ⟨h1, h2⟩ | ⟨h1, h2⟩
 ·exact ⟨fun _ => h2, fun _ => h1⟩
 ·exact ⟨fun h => by omega, fun h => absurd h h2⟩
theorem AA {s : List UInt8} {c : UInt8} : 0 ≤ Lib.indexByte s c ↔ c ∈ s := by
 induction s with
 | nil => simp [Lib.indexByte]
 | cons x t ih =>
  have hge := Lib.indexByte_ge t c
  unfold Lib.indexByte
  by_cases h : (x == c) = true
  ·rw [if_pos h]
   have := beq_iff_eq.1 h
   simp [this]
  ·rw [if_neg h]
   have hn : c ≠ x := fun e => h (beq_iff_eq.2 e.symm)
   simp only [List.mem_cons, hn, false_or]
   rw [← ih]
   split
   ·rename_i h2
    have := beq_iff_eq.1 h2
    omega
   ·rename_i h2
    have : Lib.indexByte t c ≠ -1 := fun e => h2 (beq_iff_eq.2 e)
    omega
attribute [local irreducible] AWp AOps aa az OrOk ad ah
attribute [local irreducible] hdC hdB badI isS mayV encS idxB
theorem iN {G : Glo} (s : List UInt8) : FnIs Tryz.prog G 81 [.str s, .str [34]] (.bool (decide (0 ≤ idxB s 34))) := by
 refine bi rfl Tryz.call81 ?_
 rintro R args ⟨x, t, e, hx, y, t', e', hy, rfl⟩ w hG hs
 obtain rfl := aC.1 hx
 obtain rfl := aC.1 hy
 subst e'
 obtain rfl := dL e
 refine (Tryz.strings_Contains_one ⟨s.toArray⟩ 34 w).mono ?_
 rintro e w' ⟨rfl, rfl⟩
 have e : decide (0 ≤ Lib.indexByte s 34) = decide (0 ≤ idxB s 34) := by
  have h1 := AA (s := s) (c := 34)
  have h2 := CP (s := s) (c := 34)
  have h3 : ((34 : UInt8).toNat : Int) = 34 := rfl
  rw [h3] at h2
  simp only [h1, h2]
 exact ⟨by simp [AVal.conc, e], Below.refl _ _⟩
theorem lV {G : Glo} (hU : ad G utfTy) (s : List UInt8) (hl : s.length ≤ 9223372036854775807) : FnIs Tryz.prog G 79 [.str s] (.bool (hdB false s)) := by
 have h1 := sf hU s hl
 have h2 := ir (G := G) s 136 (hdC false) hl (fun c _ => mK c)
 have hGL : ad G [] := ab
 refine fn_x Tryz.func79 Tryz.call79 rfl rfl rfl rfl hGL ?_
 intro C hC
 refine xw ?_; refine ⟨fun h => ?_, fun h => ?_, .n⟩
 all_goals (apply al; refine congrArg AVal.bool ?_; unfold hdB; rw [Bool.eq_iff_iff]; simp only [jL, decide_eq_true_eq, reduceCtorEq, false_iff]; omega)
theorem p4 {G : Glo} (hU : ad G utfTy) (s : List UInt8) (c : Bool) (hl : s.length ≤ 1000000) : FnIs Tryz.prog G 78 [.str s, .bool c] (.bool (mayV c s)) := by
 cases c with
 | true =>
  have hE := ov (G := G) s hl
  have hC1 := lV hU (encS s) (by have := (fj s).2; omega)
  have hq1 := iN (G := G) (encS s)
  have e : mayV true s = (hdB false (encS s) && decide (idxB (encS s) 34 < 0)) := by unfold mayV eIf; rfl
  rw [e]
  have hGL : ad G [] := ab
  refine fn_x Tryz.func78 Tryz.call78 rfl rfl rfl rfl hGL ?_
  intro C hC
  refine xw ?_
  repeat' (first | exact Le.n | refine Lc.mk ?_ ?_)
  all_goals intros
  all_goals (apply al; refine congrArg AVal.bool ?_; rw [show hdB false (encS s) = _ by assumption])
  all_goals (rw [Bool.eq_iff_iff]; simp)
 | false =>
  have hC1 := lV hU s (by omega)
  have hq1 := iN (G := G) s
  have e : mayV false s = (hdB false s && decide (idxB s 34 < 0)) := by unfold mayV eIf; rfl
  rw [e]
  have hGL : ad G [] := ab
  refine fn_x Tryz.func78 Tryz.call78 rfl rfl rfl rfl hGL ?_
  intro C hC
  refine xw ?_
  repeat' (first | exact Le.n | refine Lc.mk ?_ ?_)
  all_goals intros
  all_goals (apply al; refine congrArg AVal.bool ?_; rw [show hdB false s = _ by assumption])
  all_goals (rw [Bool.eq_iff_iff]; simp)
theorem jF {G : Glo} (hU : ad G utfTy) (p : Ln) (c : Bool) (ho : p.Fit) : FnIs Tryz.prog G 44 [p.A, .bool c] (.agg [.int .i64 (p.E c).e, .int .i64 (p.E c).p]) := by
  have n1 := ot (G := G) p.n (by have := ho.n; omega)
  have n2 := ot (G := G) p.g (by have := ho.g; omega)
  have hv := lV hU p.v (by have := ho.v; omega)
  have hps := ho.ps
  have b5 := dk (G := G) 5
  have b4 := dk (G := G) 4
  have b3 := dk (G := G) 3
  have b0 := dj (G := G)
  have hGL : ad G [] := ab
  refine fn_x Tryz.func44 Tryz.call44 rfl rfl rfl rfl hGL ?_
  intro C hC
  refine xw ?_
  repeat' (first | exact Le.n | refine Lc.mk ?_ ?_)
  all_goals intros
  all_goals try (apply al; first | (rw [Ln.E_5 (.inl (by assumption))]; rfl) | (rw [Ln.E_5 (.inr ⟨by assumption, by assumption⟩)]; rfl) | (rw [Ln.E_4 (by assumption) (.inl (by assumption)) (by omega)]; rfl) | (rw [Ln.E_4 (by assumption) (.inr (by assumption)) (by omega)]; rfl); done)
  all_goals
    have q1 : isS p.n = true := by assumption
    have q2 : p.g.length = 0 ∨ isS p.g = true := by first | exact .inl (by assumption) | exact .inr (by assumption)
    have q3 : p.ps.length ≤ 20 := by omega
    refine lp hC hGL (fun k : Nat => [(1, .bool c), (2, .rop [.str p.g, .str p.n, .list 2 p.ps.length (prF p.ps), .str p.v] 0), (4, .own 0 (.pointer (some ⟨_, 0, none⟩))), (31, .list 2 p.ps.length (prF p.ps)), (32, .int .i64 (p.ps.length : Nat)), (33, .int .i64 (k : Nat))]) (fun _ => [.cells _ (some 45) [.int .i64 0, .int .i64 0]]) (fun k => k ≤ p.ps.length ∧ ∀ j, j < k → prE c (p.ps.getD j Pr.z) = 0) (fun k => p.ps.length - k) 0 ?_ ak rfl ?_
    · exact ⟨Nat.zero_le _, fun j h => absurd h (Nat.not_lt_zero _)⟩
    rintro k ⟨h1, h2⟩
    have hq := ho.q k
    have n3 := ot (G := G) (p.ps.getD k Pr.z).n (by omega)
    refine xw ?_
    repeat' (first | exact Le.n | refine Lc.mk ?_ ?_)
    all_goals intros
    all_goals try (apply al; first | (rw [Ln.E_3 q1 q2 q3 (by omega) h2 (by assumption)]; rfl) | (rw [Ln.E_0 q1 q2 q3 (by omega) h2 (by assumption)]; rfl); done)
    all_goals try (apply al; first | (rw [Ln.E_at q1 q2 q3 (by omega) h2 (by rw [uu (by assumption)]; decide), uu (by assumption)]; rfl) | (rw [Ln.E_at q1 q2 q3 (by omega) h2 (by rw [yR (by assumption) (by omega)]; decide), yR (by assumption) (by omega)]; rfl); done)
    refine lp hC hGL (fun j : Nat => [(1, .bool c), (2, .rop [.str p.g, .str p.n, .list 2 p.ps.length (prF p.ps), .str p.v] 0), (4, .own 0 (.pointer (some ⟨_, 0, none⟩))), (5, .int .i64 (k : Nat)), (31, .list 2 p.ps.length (prF p.ps)), (32, .int .i64 (p.ps.length : Nat)), (33, .int .i64 (k : Nat)), (51, .list 1 (p.ps.getD k Pr.z).vs.length (aG (p.ps.getD k Pr.z).vs)), (52, .int .i64 ((p.ps.getD k Pr.z).vs.length : Nat)), (53, .int .i64 (j : Nat))]) (fun _ => [.cells _ (some 45) [.int .i64 0, .int .i64 0], .cells _ (some 103) [.str (p.ps.getD k Pr.z).n, .list 1 (p.ps.getD k Pr.z).vs.length (aG (p.ps.getD k Pr.z).vs)]]) (fun j => j ≤ (p.ps.getD k Pr.z).vs.length ∧ mayJ c (p.ps.getD k Pr.z).vs j) (fun j => (p.ps.getD k Pr.z).vs.length - j) 0 ?_ ak rfl ?_
    · exact ⟨Nat.zero_le _, fun i hi => absurd hi (Nat.not_lt_zero _)⟩
    rintro j ⟨g1, g2⟩
    have hj := p4 hU ((p.ps.getD k Pr.z).vs.getD j []) c (by have := cJ (l := (p.ps.getD k Pr.z).vs) (k := j); omega)
    refine xw ?_
    repeat' (first | exact Le.n | refine Lc.mk ?_ ?_)
    all_goals intros
    all_goals first
      | exact nxt (j + 1) ⟨by omega, qL g2 (by assumption)⟩ (by omega) ak rfl
      | exact nxs (k + 1) ⟨by omega, aN h2 (Fp (by assumption) (by omega) (uJ (by omega) g2))⟩ (by omega) ak aS
      | (apply al
         have e1 := Fm (c := c) (q := p.ps.getD k Pr.z) (by assumption) (by omega) (uI (j := j) (by omega) (by assumption))
         rw [Ln.E_at q1 q2 q3 (by omega) h2 (by rw [e1]; decide), e1]
         rfl)
end
section
open Go Go.RowKit
theorem zk {c : Bool} : ∀ {l : List Pr} {i : Nat}, (firE c l i).e = 0 → firE c l i = .none
 | [], _, _ => rfl
 | x :: l, i, h => by
  simp only [firE] at h ⊢
  split at h
  ·rename_i h0
   rw [if_pos h0]
   exact zk h
  ·rename_i h0
   exact absurd h h0
theorem Ln.E_zero {c : Bool} {p : Ln} (h : (p.E c).e = 0) : p.E c = .none := by
 unfold Ln.E at h ⊢
 split at h
 ·cases h
 ·rename_i h1
  rw [if_neg h1]
  split at h
  ·cases h
  ·rename_i h2
   rw [if_neg h2]
   have := zk (c := c) (l := p.ps) (i := 0)
   cases hf : firE c p.ps 0 with
   | none =>
    rw [hf] at h
    simp only at h ⊢
    split at h
    ·rename_i h3
     rw [if_pos h3]
    ·cases h
   | errno e =>
    rw [hf] at h this
    exact absurd (this h) (by simp)
   | «at» e q =>
    rw [hf] at h this
    exact absurd (this h) (by simp)
attribute [local irreducible] AWp AOps aa az OrOk ad ah
attribute [local irreducible] hdC hdB badI isS mayV encS quoS psT hdT eIf quoC
theorem El {G : Glo} (c : Int) : FnIs Tryz.prog G 96 [.int .u8 c] (.bool (quoC c)) := by
 have hGL : ad G [] := ab
 refine fn_x Tryz.func96 Tryz.call96 rfl rfl rfl rfl hGL ?_
 intro C hC
 refine xw ?_
 repeat' (first | exact Le.n | refine Lc.mk ?_ ?_)
 all_goals intros
 all_goals (apply al; refine congrArg AVal.bool ?_)
 all_goals (unfold quoC; rw [Bool.eq_iff_iff]; simp only [de, decide_eq_true_eq, reduceCtorEq, true_iff, false_iff]; omega)
theorem Bs {c : Bool} {vs : List (List UInt8)} {j : Nat} (hj : j < vs.length) : (vs.map (quoS c)).take (j + 1) = (vs.map (quoS c)).take j ++ [quoS c (vs.getD j [])] := by
 rw [List.take_succ_eq_append_getElem (by simpa using hj), List.getElem_map, List.getD_eq_getElem?_getD, List.getElem?_eq_getElem hj]
 rfl
theorem pZ {G : Glo} (hU : ad G utfTy) (p : Ln) (c : Bool) (ho : p.Fit) : FnIs Tryz.prog G 49 [p.A, .bool c] (.tuple [.str (p.T c), .agg [.int .i64 (p.E c).e, .int .i64 (p.E c).p]]) := by
  have h0 := jF hU p c ho
  have hI := kN (G := G) (p.E c).e (p.E c).p
  by_cases hz : (p.E c).e = 0
  case neg =>
    rw [jO.2 hz] at hI
    rw [show p.T c = [] by
      unfold Ln.T
      split
      · rename_i hq; rw [hq] at hz; exact absurd rfl hz
      · rfl]
    have hGL : ad G [] := ab
    refine fn_x Tryz.func49 Tryz.call49 rfl rfl rfl rfl hGL ?_
    intro C hC
    refine xn1 ?_
    intro b1 b2
    refine dw_p mixed hC hGL false (fun (_ : Unit) => [(4, .str []), (5, .own 0 (.pointer (some ⟨b1, 0, none⟩)))]) (fun _ => [.cells b1 (some 45) [.int .i64 (p.E c).e, .int .i64 (p.E c).p], .cells b2 (some 45) [.int .i64 (p.E c).e, .int .i64 (p.E c).p]]) (.br 0 (.take 1 (.br 2 (.done) (.nil))) (.br 1 (.br 0 (.br 2 (.done) (.nil)) (.nil)) (.nil))) (by kernel_rfl) ?_ ?_
    · refine xn ?_
      repeat' (first | exact Le.n | refine Lc.mk ?_ ?_)
      all_goals intros
      all_goals exact ⟨(), ⟨rfl, rfl, trivial⟩, rfl⟩
    · intro _
      exact xn0
  have hq := Ln.E_zero hz
  rw [hq] at h0 hI
  rw [hq]
  simp only [Err.e, Err.p] at h0 hI ⊢
  rw [de.2 rfl] at hI
  rw [show p.T c = p.txt c by unfold Ln.T; rw [hq], yA]
  have hb0 := dj (G := G)
  have i1 : p.ps.length ≤ 20 := by
    have h := hq
    unfold Ln.E at h
    split at h
    · cases h
    · split at h
      · cases h
      · omega
  have i2 : ∀ k, k < p.ps.length → (p.ps.getD k Pr.z).vs.length ≠ 0 ∨ True := fun _ _ => .inr trivial
  have o1 := ho.g
  have o2 := ho.n
  have o3 := ho.v
  have o4 : ∀ k, k ≤ p.ps.length → (psT c p.ps k).length ≤ 20 * 15002 := fun k hk => by
    have h1 := sg (c := c) ho.q k hk
    rw [show 2 + 6 * 2500 = 15002 by decide] at h1
    have h2 := Nat.mul_le_mul_right 15002 (show k ≤ 20 by omega)
    exact Nat.le_trans h1 h2
  have hd1 : p.g.length ≠ 0 → p.g ++ [46] ++ p.n = hdT p := fun h => by unfold hdT; rw [if_neg h]
  have hd0 : p.g.length = 0 → p.n = hdT p := fun h => by unfold hdT; rw [if_pos h]
  have hdl : (hdT p).length ≤ 5001 := by
    unfold hdT
    split
    · omega
    · simp only [List.length_append, List.length_cons, List.length_nil]; omega
  have hGL : ad G [] := ab
  refine fn_a Tryz.func49 Tryz.call49 rfl rfl rfl rfl ?_
  intro C hC
  refine cuty hC hGL (fun bl : Nat => [(1, .bool c), (2, .rop [.str p.g, .str p.n, .list 2 p.ps.length (prF p.ps), .str p.v] 0), (5, .own 0 (.pointer (some ⟨bl, 0, none⟩)))]) (fun bl => [.cells bl (some 45) [.int .i64 0, .int .i64 0]]) (fun _ => True) ?_ fun b1 _ => ?_
  · refine xw1 ?_
    intro bl
    exact cy bl trivial
  refine cuty hC hGL (fun bl : Nat => [(1, .bool c), (2, .rop [.str p.g, .str p.n, .list 2 p.ps.length (prF p.ps), .str p.v] 0), (5, .own 0 (.pointer (some ⟨b1, 0, none⟩)))]) (fun bl => [.cells b1 (some 45) [.int .i64 0, .int .i64 0], .cells bl (some 45) [.int .i64 0, .int .i64 (-1)]]) (fun _ => True) ?_ fun b2 _ => ?_
  · refine xw1 ?_
    intro bl
    exact cy bl trivial
  refine cut hC hGL [(1, .bool c), (2, .rop [.str p.g, .str p.n, .list 2 p.ps.length (prF p.ps), .str p.v] 0), (5, .own 0 (.pointer (some ⟨b1, 0, none⟩))), (7, .str p.n)] [.cells b1 (some 45) [.int .i64 0, .int .i64 0], .cells b2 (some 45) [.int .i64 0, .int .i64 (-1)]] True ?_ fun _ => ?_
  · exact xw0
  refine cuty hC hGL (fun q : List UInt8 => [(1, .bool c), (2, .rop [.str p.g, .str p.n, .list 2 p.ps.length (prF p.ps), .str p.v] 0), (5, .own 0 (.pointer (some ⟨b1, 0, none⟩))), (7, .str q)]) (fun _ => [.cells b1 (some 45) [.int .i64 0, .int .i64 0], .cells b2 (some 45) [.int .i64 0, .int .i64 (-1)]]) (fun q => q = hdT p ++ psT c p.ps 0) ?_ fun q hq => ?_
  · rw [show psT c p.ps 0 = [] by unfold psT; rfl, List.append_nil]
    refine xn ?_
    repeat' (first | exact Le.n | refine Lc.mk ?_ ?_)
    all_goals intros
    all_goals first
      | exact cy _ (hd1 (by assumption))
      | exact cy _ (hd0 (by assumption))
  subst hq
  refine bw hC hGL ?_
  refine xn1 ?_
  refine lp hC hGL (fun k : Nat => [(1, .bool c), (2, .rop [.str p.g, .str p.n, .list 2 p.ps.length (prF p.ps), .str p.v] 0), (5, .own 0 (.pointer (some ⟨b1, 0, none⟩))), (7, .str (hdT p ++ psT c p.ps k)), (31, .list 2 p.ps.length (prF p.ps)), (32, .int .i64 (p.ps.length : Nat)), (33, .int .i64 (k : Nat))]) (fun _ => [.cells b1 (some 45) [.int .i64 0, .int .i64 0], .cells b2 (some 45) [.int .i64 0, .int .i64 (-1)]]) (fun k => k ≤ p.ps.length) (fun k => p.ps.length - k) 0 ?_ ak rfl ?_
  · exact Nat.zero_le _
  intro k h1
  have ol := o4 k h1
  have hqk := ho.q k
  refine xn ?_
  repeat' (first | exact Le.n | refine Lc.mk ?_ ?_)
  all_goals intros
  · rename_i b9 hkl
    have hkn : k < p.ps.length := by omega
    have hsucc := oz (c := c) hkn
    have hpl := yP c (p.ps.getD k Pr.z)
    have hjl : (Lib.join ((p.ps.getD k Pr.z).vs.map (quoS c)) [44]).length ≤ 100000 := by
      have h2 := oV ((p.ps.getD k Pr.z).vs.map (quoS c))
      have h3 := kU c (p.ps.getD k Pr.z).vs
      rw [List.length_map] at h2
      omega
    refine oN 10 1 rfl ?_
    refine lp hC hGL (fun y : List (List UInt8) × Value => [(1, .bool c), (2, .rop [.str p.g, .str p.n, .list 2 p.ps.length (prF p.ps), .str p.v] 0), (5, .own 0 (.pointer (some ⟨b1, 0, none⟩))), (7, .str (hdT p ++ psT c p.ps k)), (9, .own 2 (.pointer (some ⟨b9, 0, none⟩))), (10, .own 3 y.2), (31, .list 2 p.ps.length (prF p.ps)), (32, .int .i64 (p.ps.length : Nat)), (33, .int .i64 (k : Nat)), (38, .list 1 (p.ps.getD k Pr.z).vs.length (aG (p.ps.getD k Pr.z).vs)), (39, .int .i64 ((p.ps.getD k Pr.z).vs.length : Nat)), (40, .int .i64 (y.1.length : Nat))]) (fun y => [.cells b1 (some 45) [.int .i64 0, .int .i64 0], .cells b2 (some 45) [.int .i64 0, .int .i64 (-1)], .cells b9 (some 103) [.str (p.ps.getD k Pr.z).n, .list 1 (p.ps.getD k Pr.z).vs.length (aG (p.ps.getD k Pr.z).vs)], .row y.2 none 1 y.1.length (aO y.1)]) (fun y => y.1.length ≤ (p.ps.getD k Pr.z).vs.length ∧ y.1 = ((p.ps.getD k Pr.z).vs.map (quoS c)).take y.1.length) (fun y => (p.ps.getD k Pr.z).vs.length - y.1.length) ([], .slice none 0 0) ?_ ak rfl ?_
    · exact ⟨Nat.zero_le _, rfl⟩
    rintro ⟨l, v⟩ ⟨g1, g2⟩
    dsimp only at g1 g2
    have hj1 := cJ (l := (p.ps.getD k Pr.z).vs) (k := l.length)
    have hel := sS c ((p.ps.getD k Pr.z).vs.getD l.length [])
    have hE := ov (G := G) ((p.ps.getD k Pr.z).vs.getD l.length []) (by omega)
    have hQ := ir (G := G) (eIf c ((p.ps.getD k Pr.z).vs.getD l.length [])) 96 quoC (by omega) (fun c _ => El c)
    have hY : 0 ≤ fstB quoC (eIf c ((p.ps.getD k Pr.z).vs.getD l.length [])) → quoS c ((p.ps.getD k Pr.z).vs.getD l.length []) = 34 :: eIf c ((p.ps.getD k Pr.z).vs.getD l.length []) ++ [34] := fun h => by unfold quoS; rw [if_neg (by omega)]
    have hN : fstB quoC (eIf c ((p.ps.getD k Pr.z).vs.getD l.length [])) < 0 → quoS c ((p.ps.getD k Pr.z).vs.getD l.length []) = eIf c ((p.ps.getD k Pr.z).vs.getD l.length []) := fun h => by unfold quoS; rw [if_pos h]
    have hT := fun (h : l.length < (p.ps.getD k Pr.z).vs.length) => Bs (c := c) h
    have hx1 : eIf true ((p.ps.getD k Pr.z).vs.getD l.length []) = encS ((p.ps.getD k Pr.z).vs.getD l.length []) := by unfold eIf; rfl
    have hx2 : eIf false ((p.ps.getD k Pr.z).vs.getD l.length []) = (p.ps.getD k Pr.z).vs.getD l.length [] := by unfold eIf; rfl
    have fin : (p.ps.getD k Pr.z).vs.length ≤ l.length → l = (p.ps.getD k Pr.z).vs.map (quoS c) := fun h => by rw [g2, List.take_of_length_le (by rw [List.length_map]; omega)]
    have go : ∀ (w : List UInt8), w = quoS c ((p.ps.getD k Pr.z).vs.getD l.length []) → l.length < (p.ps.getD k Pr.z).vs.length → (l ++ [w]).length ≤ (p.ps.getD k Pr.z).vs.length ∧ l ++ [w] = ((p.ps.getD k Pr.z).vs.map (quoS c)).take (l ++ [w]).length := fun w hw h => by
      rw [List.length_append, List.length_singleton, hT h, ← g2, hw]
      exact ⟨by omega, rfl⟩
    cases c
    all_goals
      simp only [hx1, hx2] at hQ hY hN hel
      refine xn ?_
      repeat' (first | exact Le.n | refine Lc.mk ?_ ?_)
      all_goals intros
      all_goals try dsimp only at *
    all_goals first
      | (refine nxt (l ++ [_], .slice _ _ _) (go _ (hY (by assumption)).symm (by omega)) (by dsimp only; rw [List.length_append, List.length_singleton]; omega) ⟨rfl, rfl, rfl, rfl, rfl, rfl, rfl, rfl, rfl, rfl, rfl, ?_, trivial⟩ ?_
         · show some (AVal.int .i64 (((l.length : Nat) : Int) + 1)) = some (AVal.int .i64 ((l ++ [_]).length : Nat))
           rw [List.length_append]; rfl
         · dsimp only
           rw [← bS, List.length_append]
           rfl)
      | (refine nxt (l ++ [_], .slice _ _ _) (go _ (hN (by assumption)).symm (by omega)) (by dsimp only; rw [List.length_append, List.length_singleton]; omega) ⟨rfl, rfl, rfl, rfl, rfl, rfl, rfl, rfl, rfl, rfl, rfl, ?_, trivial⟩ ?_
         · show some (AVal.int .i64 (((l.length : Nat) : Int) + 1)) = some (AVal.int .i64 ((l ++ [_]).length : Nat))
           rw [List.length_append]; rfl
         · dsimp only
           rw [← bS, List.length_append]
           rfl)
      | skip
    · obtain rfl := fin (by omega)
      refine dw_p mixed hC hGL true (fun (_ : Unit) => [(1, .bool false), (2, .rop [.str p.g, .str p.n, .list 2 p.ps.length (prF p.ps), .str p.v] 0), (5, .own 0 (.pointer (some ⟨b1, 0, none⟩))), (7, .str (hdT p ++ psT false p.ps (k + 1))), (31, .list 2 p.ps.length (prF p.ps)), (32, .int .i64 (p.ps.length : Nat)), (33, .int .i64 (k : Nat))]) (fun _ => [.cells b1 (some 45) [.int .i64 0, .int .i64 0], .cells b2 (some 45) [.int .i64 0, .int .i64 (-1)], .cells b9 (some 103) [.str (p.ps.getD k Pr.z).n, .list 1 (p.ps.getD k Pr.z).vs.length (aG (p.ps.getD k Pr.z).vs)], .row v none 1 ((p.ps.getD k Pr.z).vs.map (quoS false)).length (aO ((p.ps.getD k Pr.z).vs.map (quoS false)))]) (.take 0 (.take 1 (.take 2 (.take 3 (.take 4 (.take 5 (.br 6 (.take 7 (.take 8 (.take 9 (.done)))) (.nil)))))))) (by kernel_rfl) ?_ ?_
      · refine xn1 ?_
        intro C hC
        refine am (i := 3) rfl (bP ((p.ps.getD k Pr.z).vs.map (quoS false)) [44] v (by rw [List.length_map]; omega) (by omega)) ?_
        have hlen : (hdT p ++ psT false p.ps k).length ≤ 400000 := by rw [List.length_append]; omega
        refine xn ?_
        repeat' (first | exact Le.n | refine Lc.mk ?_ ?_)
        all_goals intros
        all_goals
          refine ⟨(), ⟨rfl, rfl, rfl, ?_, rfl, rfl, rfl, trivial⟩, rfl⟩
          rw [hsucc]
          unfold prT
          simp only [List.append_assoc, List.cons_append, List.nil_append]
          rfl
      · intro _
        refine xn1 ?_
        exact nxs (k + 1) (by omega) (by omega) ak aS
    · obtain rfl := fin (by omega)
      refine dw_p mixed hC hGL true (fun (_ : Unit) => [(1, .bool true), (2, .rop [.str p.g, .str p.n, .list 2 p.ps.length (prF p.ps), .str p.v] 0), (5, .own 0 (.pointer (some ⟨b1, 0, none⟩))), (7, .str (hdT p ++ psT true p.ps (k + 1))), (31, .list 2 p.ps.length (prF p.ps)), (32, .int .i64 (p.ps.length : Nat)), (33, .int .i64 (k : Nat))]) (fun _ => [.cells b1 (some 45) [.int .i64 0, .int .i64 0], .cells b2 (some 45) [.int .i64 0, .int .i64 (-1)], .cells b9 (some 103) [.str (p.ps.getD k Pr.z).n, .list 1 (p.ps.getD k Pr.z).vs.length (aG (p.ps.getD k Pr.z).vs)], .row v none 1 ((p.ps.getD k Pr.z).vs.map (quoS true)).length (aO ((p.ps.getD k Pr.z).vs.map (quoS true)))]) (.take 0 (.take 1 (.take 2 (.take 3 (.take 4 (.take 5 (.br 6 (.take 7 (.take 8 (.take 9 (.done)))) (.nil)))))))) (by kernel_rfl) ?_ ?_
      · refine xn1 ?_
        intro C hC
        refine am (i := 3) rfl (bP ((p.ps.getD k Pr.z).vs.map (quoS true)) [44] v (by rw [List.length_map]; omega) (by omega)) ?_
        have hlen : (hdT p ++ psT true p.ps k).length ≤ 400000 := by rw [List.length_append]; omega
        refine xn ?_
        repeat' (first | exact Le.n | refine Lc.mk ?_ ?_)
        all_goals intros
        all_goals
          refine ⟨(), ⟨rfl, rfl, rfl, ?_, rfl, rfl, rfl, trivial⟩, rfl⟩
          rw [hsucc]
          unfold prT
          simp only [List.append_assoc, List.cons_append, List.nil_append]
          rfl
      · intro _
        refine xn1 ?_
        exact nxs (k + 1) (by omega) (by omega) ak aS
  · have hkk : k = p.ps.length := by omega
    subst hkk
    refine dw_p mixed hC hGL false (fun (_ : Unit) => [(4, .str (hdT p ++ psT c p.ps p.ps.length ++ [58] ++ p.v)), (5, .own 0 (.pointer (some ⟨b1, 0, none⟩)))]) (fun _ => [.cells b1 (some 45) [.int .i64 0, .int .i64 (-1)], .cells b2 (some 45) [.int .i64 0, .int .i64 (-1)]]) (.take 0 (.take 1 (.take 2 (.take 3 (.take 4 (.br 5 (.take 6 (.br 7 (.done) (.nil))) (.nil))))))) (by kernel_rfl) ?_ ?_
    · refine xn ?_
      repeat' (first | exact Le.n | refine Lc.mk ?_ ?_)
      all_goals intros
      all_goals exact ⟨(), ⟨rfl, rfl, trivial⟩, rfl⟩
    · intro _
      exact xn0
end
section
open Go Go.RowKit
theorem Ar {l : List (List UInt8)} {j : Nat} (h : j < l.length) : Lib.lens (l.take (j + 1)) = Lib.lens (l.take j) + (l.getD j []).length :=
 Lib.lens_take_succ l j _ (by rw [List.getD_eq_getElem?_getD, List.getElem?_eq_getElem h]; rfl)
theorem Au {l : List (List UInt8)} {j : Nat} (h : l.length ≤ j) : Lib.lens (l.take j) = Lib.lens l := by rw [List.take_of_length_le h]
def Pr.w (q : Pr) : Nat := q.n.length + q.vs.length + Lib.lens q.vs
def Ln.b (p : Ln) : Nat := p.ps.length + p.g.length + p.n.length + p.v.length
attribute [local irreducible] AWp AOps aa az OrOk ad ah
theorem CH {G : Glo} (p : Ln) (ho : p.OK 1048576) : ah Tryz.prog G 17 [p.A] [] (fun r H => (∃ a, r = .ret a ∧ ∃ b, a = .bool b ∧ (b = false → p.OK 2500)) ∧ H = []) := by
 have o1 := ho.g
 have o2 := ho.n
 have o3 := ho.v
 have o4 := ho.ps
 have hGL : ad G [] := ab
 refine fn_x Tryz.func17 Tryz.call17 rfl rfl rfl rfl hGL ?_
 intro C hC
 refine xw1 ?_
 refine lp hC hGL (fun x : Nat × Nat => [(3, .int .i64 (x.2 : Nat)), (24, .list 2 p.ps.length (prF p.ps)), (25, .int .i64 (p.ps.length : Nat)), (26, .int .i64 (x.1 : Nat))]) (fun _ => []) (fun x => x.1 ≤ p.ps.length ∧ p.b ≤ x.2 ∧ (∀ j, j < x.1 → p.b + (p.ps.getD j Pr.z).w ≤ x.2) ∧ x.2 ≤ p.b + x.1 * 3145728) (fun x => p.ps.length - x.1) (0, p.b) ?_ ak rfl ?_
 ·exact ⟨Nat.zero_le _, Nat.le_refl _, fun j h => absurd h (Nat.not_lt_zero _), by simp⟩
 rintro ⟨k, n⟩ ⟨h1, h2, h3, h4⟩
 dsimp only at h1 h2 h3 h4
 have hq := ho.q k
 have hbl : p.b ≤ 4194304 := by unfold Ln.b; omega
 refine xw ?_
 repeat' (first | exact Le.n | refine Lc.mk ?_ ?_)
 all_goals intros
 ·refine lp hC hGL (fun x : Nat × Nat => [(3, .int .i64 (x.2 : Nat)), (24, .list 2 p.ps.length (prF p.ps)), (25, .int .i64 (p.ps.length : Nat)), (26, .int .i64 (k : Nat)), (40, .list 1 (p.ps.getD k Pr.z).vs.length (aG (p.ps.getD k Pr.z).vs)), (41, .int .i64 ((p.ps.getD k Pr.z).vs.length : Nat)), (42, .int .i64 (x.1 : Nat))]) (fun _ => [.cells _ (some 103) [.str (p.ps.getD k Pr.z).n, .list 1 (p.ps.getD k Pr.z).vs.length (aG (p.ps.getD k Pr.z).vs)]]) (fun x => x.1 ≤ (p.ps.getD k Pr.z).vs.length ∧ x.2 = n + ((p.ps.getD k Pr.z).n.length + (p.ps.getD k Pr.z).vs.length) + Lib.lens ((p.ps.getD k Pr.z).vs.take x.1)) (fun x => (p.ps.getD k Pr.z).vs.length - x.1) (0, n + ((p.ps.getD k Pr.z).n.length + (p.ps.getD k Pr.z).vs.length)) ?_ ak rfl ?_
  ·exact ⟨Nat.zero_le _, by simp [Lib.lens]⟩
  rintro ⟨j, m⟩ ⟨g1, g2⟩
  dsimp only at g1 g2
  have hj1 := Lib.lens_take_le (p.ps.getD k Pr.z).vs j
  have hj2 := Lib.lens_take_le (p.ps.getD k Pr.z).vs (j + 1)
  have hj3 : j < (p.ps.getD k Pr.z).vs.length → _ := fun h => Ar h
  have hj4 : (p.ps.getD k Pr.z).vs.length ≤ j → _ := fun h => Au h
  refine xw ?_
  repeat' (first | exact Le.n | refine Lc.mk ?_ ?_)
  all_goals intros
  all_goals try dsimp only at *
  ·refine nxt (j + 1, m + ((p.ps.getD k Pr.z).vs.getD j []).length) ⟨by dsimp only; omega, ?_⟩ (by dsimp only; omega) ak rfl
   dsimp only
   rw [hj3 (by omega)]
   omega
  ·have e := hj4 (by omega)
   have hw : (p.ps.getD k Pr.z).w = (p.ps.getD k Pr.z).n.length + (p.ps.getD k Pr.z).vs.length + Lib.lens (p.ps.getD k Pr.z).vs := rfl
   refine nxs (k + 1, m) ⟨by dsimp only; omega, by dsimp only; omega, aN (fun j hj => by have := h3 j hj; dsimp only; omega) (by dsimp only; omega), by dsimp only; omega⟩ (by dsimp only; omega) ak aS
 ·refine ⟨[], List.nil_sublist _, ⟨_, rfl, _, rfl, fun h => ?_⟩, rfl⟩
  have h := g9.1 h
  dsimp only at h
  have hn : n ≤ 2500 := by omega
  unfold Ln.b at h2 h3
  refine ⟨by omega, by omega, by omega, by omega, fun j => ?_⟩
  by_cases hj : j < p.ps.length
  ·have := h3 j (by omega)
   unfold Pr.w at this
   omega
  ·rw [List.getD_eq_getElem?_getD, List.getElem?_eq_none (by omega)]
   exact ⟨by simp [Pr.z], by simp [Pr.z], by simp [Pr.z, Lib.lens]⟩
end
section
open Go Go.RowKit
attribute [local irreducible] AWp AOps aa az OrOk ad ah
attribute [local irreducible] hdC hdB badI
theorem mE {G : Glo} (s : List UInt8) (b : Bool) (hl : s.length ≤ 9223372036854775807) : FnIs Tryz.prog G 104 [.str s, .bool b] (.bool (hdB b s)) := by
 have hB := np (G := G) s hl
 have hGL : ad G [] := ab
 refine fn_x Tryz.func104 Tryz.call104 rfl rfl rfl rfl hGL ?_
 intro C hC
 refine xw1 ?_
 refine lp hC hGL (fun i : Nat => [(0, .str s), (1, .bool b), (8, .int .i64 (s.length : Nat)), (9, .int .i64 (i : Nat))]) (fun _ => []) (fun i => i ≤ s.length ∧ ∀ j, j < i → hdC b (aa s j : Int) = false) (fun i => s.length - i) 0 ?_ ak rfl ?_
 ·exact ⟨Nat.zero_le _, fun j h => absurd h (Nat.not_lt_zero _)⟩
 rintro i ⟨h1, h2⟩
 refine xw ?_
 repeat' (first | exact Le.n | refine Lc.mk ?_ ?_)
 all_goals intros
 all_goals first
  | (apply al; rw [CT (i := i) (by omega) (by first | exact kX (.inl (by omega)) | exact kX (.inr (.inl (by omega))) | exact kX (.inr (.inr ⟨by omega, by assumption⟩))) h2]; rfl)
  | (refine nxt (i + 1) ⟨by omega, bF h2 (by first | exact sC (by omega) (.inl (by omega)) | exact sC (by omega) (.inr (.inl (by omega))) | exact sC (by omega) (.inr (.inr ⟨by omega, by assumption⟩)))⟩ (by omega) ak rfl)
  | (apply al; rw [zf (i := i) (by omega) h2])
theorem sc {G : Glo} (s : List UInt8) (f : Nat) (cs : List AVal) (p : Int → Bool) (hl : s.length ≤ 9223372036854775807) (hp : ∀ c : Nat, c < 256 → FnIs Tryz.prog G f [.int .u8 (c : Int), .rop cs 0] (.bool (p c))) : FnIs Tryz.prog G 95 [.str s, .func (.func f) [] [.rop cs 0]] (.int .i64 (fstB p s)) := by
 have k1 := fun i (_ : 0 ≤ (aa s i : Int)) => hp (aa s i) (aL s i)
 have hGL : ad G [] := ab
 refine fn_x Tryz.func95 Tryz.call95 rfl rfl rfl rfl hGL ?_
 intro C hC
 refine xw1 ?_
 intro bl cap hcap
 refine lp hC hGL (fun (i : Nat) => [(1, .func (.func f) [] [.rop cs 0]), (8, .own 0 (.slice (some ⟨bl, 0, none⟩) s.length cap)), (9, .int .i64 s.length), (10, .int .i64 i)]) (fun _ => [.buf bl s cap]) (fun i => i ≤ s.length ∧ ∀ j, j < i → p (aa s j : Int) = false) (fun i => s.length - i) 0 ?_ ak rfl ?_
 ·exact ⟨Nat.zero_le _, fun j h => absurd h (Nat.not_lt_zero _)⟩
 rintro i ⟨hi, hb0⟩
 refine xw ?_
 repeat' (first | exact Le.n | refine Lc.mk ?_ ?_)
 all_goals intros
 all_goals first
  | (apply al; rw [gQ (i := i) (by omega) (by assumption) hb0])
  | (refine nxt (i + 1) ⟨by omega, bF hb0 (by assumption)⟩ (by omega) ak rfl)
  | (apply al; rw [dI (fun j hj => hb0 j (by omega))]; rfl)
theorem wP {G : Glo} (b : Bool) (c : Int) : FnIs Tryz.prog G 139 [.int .u8 c, .rop [.bool b] 0] (.bool (hdC b c)) := by
 have h := mK (G := G) c
 have hGL : ad G [] := ab
 refine fn_x Tryz.func139 Tryz.call139 rfl rfl rfl rfl hGL ?_
 intro C hC
 refine xw ?_; refine ⟨fun h1 h2 => ?_, fun h1 h2 => ?_, fun h1 => ?_, .n⟩
 all_goals (apply al; refine congrArg AVal.bool ?_; first | rw [qY] at h1 | rw [← Bool.not_eq_true, qY] at h1)
 ·rcases h1 with h1 | h1
  ·exact (kX (.inl ⟨h1.1, h1.2, h2⟩)).symm
  ·exact (kX (.inr (.inl h1))).symm
 ·rw [Bool.eq_iff_iff]; cases b
  ·rw [qY]; simp; omega
  ·rw [Fr]; simp; omega
 ·cases b
  ·rw [Bool.eq_iff_iff, qY]; simp; omega
  ·rw [Bool.eq_iff_iff, Fr]; simp; omega
theorem lX {G : Glo} (hU : ad G utfTy) (s : List UInt8) (b : Bool) (hl : s.length ≤ 9223372036854775807) : FnIs Tryz.prog G 86 [.str s, .bool b] (.bool (hdB b s)) := by
 have h1 := sf hU s hl
 have h2 := sc (G := G) s 139 [.bool b] (hdC b) hl (fun c _ => wP b c)
 have hGL : ad G [] := ab
 refine fn_x Tryz.func86 Tryz.call86 rfl rfl rfl rfl hGL ?_
 intro C hC
 refine xw ?_; refine ⟨fun h => ?_, fun h => ?_, .n⟩
 all_goals (apply al; refine congrArg AVal.bool ?_; unfold hdB; rw [Bool.eq_iff_iff]; simp only [jL, decide_eq_true_eq, reduceCtorEq, false_iff]; omega)
end
section
open Go
def andL : List Bool → Bool
 | [] => true
 | b :: l => b && andL l
def q9 (P : Program) [Tab P] (cs ds : List AVal) : List Field → Option (List Bool)
 | [] => some []
 | f :: fs => match tab P f.type, cs[f.offset]?, ds[f.offset]?, q9 P cs ds fs with
  | some x, some a, some b, some l => match x.desc, a, b with
   | .int _, .int k m, .int j q => match Nat.beq (kix k) (kix j) with
    | true => some (eqB m q :: l)
    | false => none
   | .string, .str s, .str t => some (seqB s t :: l)
   | .bool, .bool s, .bool t => some ((s == t) :: l)
   | _, _, _ => none
  | _, _, _, _ => none
theorem uw {P : Program} [Tab P] {xs : Array Value} {v : Value} {t : TypeId} {x : TI} {o : Nat} (ht : tab P t = some x) (hd : a8 x.desc = false) (hv : xs[o]? = some v) (w : World) : (part t xs o).run P w = .ok v w := by
 simp only [part, Sem.run_bind, bM ht, hd, Result.andThen_ok, Bool.false_eq_true, if_false, hv, Sem.run_pure]
theorem gS {P : Program} [Tab P] {R : Seal} {cs ds : List AVal} {xs ys : Array Value} (ha : RelL R cs xs.toList) (hb : RelL R ds ys.toList) (d : Nat) (w : World) :
  ∀ (fs : List Field) (l : List Bool), (fs.all fun f => f.name != "_") = true → q9 P cs ds fs = some l → (Op.eqFields (d + 1) xs ys fs).run P w = .ok (andL l) w
 | [], l, _, h => by
  simp only [q9, Option.some.injEq] at h
  subst h
  rfl
 | f :: fs, l, hn, h => by
  simp only [List.all_cons, Bool.and_eq_true, bne_iff_ne, ne_eq] at hn
  simp only [q9] at h
  split at h
  ·rename_i x a b l' ht h1 h2 h3
   have ih := gS ha hb d w fs l' hn.2 h3
   obtain ⟨va, e1, r1⟩ := bX ha h1
   obtain ⟨vb, e2, r2⟩ := bX hb h2
   have e1 : xs[f.offset]? = some va := by simpa using e1
   have e2 : ys[f.offset]? = some vb := by simpa using e2
   have fin : ∀ r : Bool, a8 x.desc = false → (Op.equalIn (d + 1) f.type va vb).run P w = .ok r w → (Op.eqFields (d + 1) xs ys (f :: fs)).run P w = .ok (andL (r :: l')) w := by
    intro r hd hr
    simp only [Op.eqFields, ne_eq, hn.1, not_false_eq_true, if_true, Sem.run_bind, uw ht hd e1, uw ht hd e2, Result.andThen_ok, hr]
    cases r
    ·rfl
    ·exact ih
   split at h
   ·rename_i q1 k m j q hd
    split at h
    ·rename_i hk
     cases h
     obtain rfl := oS hk
     obtain rfl := aq.1 (bG r1 rfl)
     obtain rfl := aq.1 (bG r2 rfl)
     refine fin _ (by rw [hd]; rfl) ?_
     rw [run_equalIn_int w d f.type _ _ _ _ (by rw [a6 ht, hd])]
     unfold eqB
     rfl
    ·cases h
   ·rename_i s t hd
    cases h
    obtain rfl := aC.1 (bG r1 rfl)
    obtain rfl := aC.1 (bG r2 rfl)
    refine fin _ (by rw [hd]; rfl) ?_
    rw [run_equalIn_string w d f.type _ _ (by rw [a6 ht, hd])]
    rw [ByteArray.toList_eq, ByteArray.toList_eq]
    unfold seqB
    simp
   ·rename_i s t hd
    cases h
    obtain rfl := aE.1 (bG r1 rfl)
    obtain rfl := aE.1 (bG r2 rfl)
    exact fin _ (by rw [hd]; rfl) (run_equalIn_bool' w d f.type _ _ (by rw [a6 ht, hd]))
   ·cases h
  ·cases h
section
variable {P : Program} [Tab P] {C : Ctx} {env : Env} {H : Heap} {x y : Operand} {T ty : TypeId}
theorem th {R : Seal} {cs : List AVal} {v : Value} (h : Rel R (.agg cs) v) : ∃ vs, v = .agg vs ∧ RelL R cs vs.toList := by
 obtain ⟨h1, h2⟩ := h
 cases v <;> first | exact ⟨_, rfl, h1⟩ | (simp [AVal.isAgg, vAgg] at h2)
theorem BW {cs ds : List AVal} {fs : Array Field} {l : List Bool} {xT : TI} (b : Bool) (hx : ai env x = some (.agg cs)) (hy : ai env y = some (.agg ds)) (h1 : tab P T = some xT) (h2 : xT.desc = .struct fs)
  (h3 : P.stoodInHeld T = false) (h4 : P.eqGuardType P.depth T = false) (h5 : (fs.toList.all fun f => f.name != "_") = true) (h6 : q9 P cs ds fs.toList = some l) (hb : andL l = b) : RunV P C H env (.binOp .eql T x y ty) (.bool b) := by
 intro R ρ w hm hf dst t p af g
 refine ⟨_, ?_, aE.2 rfl⟩
 obtain ⟨xs, ex, rx⟩ := th (hf _ _ hx)
 obtain ⟨ys, ey, ry⟩ := th (hf _ _ hy)
 have hu : P.underlying T = some (.struct fs) := by rw [a6 h1, h2]
 have hfo : P.fieldsOf T = fs := by unfold Program.fieldsOf; rw [hu]
 have e1 : (Op.equalIn 10000 T (.agg xs) (.agg ys)).run P w = .ok b w := by
  rw [show (10000 : Nat) = 9999 + 1 from rfl, run_equalIn_agg w 9999 T xs ys (by rw [hfo]; exact hu) h3, hfo]
  subst hb
  exact gS rx ry 9998 w _ _ h5 h6
 simp only [execOp, ex, ey, Sem.run_bind, run_eql_struct, e1, run_eqGuard_agg w .eql T x y xs ys h4, Result.andThen_ok, Sem.run_pure]
theorem qv {cs ds : List AVal} {fs : Array Field} {l : List Bool} {xT : TI} (b : Bool) (hx : ai env x = some (.agg cs)) (hy : ai env y = some (.agg ds)) (h1 : tab P T = some xT) (h2 : xT.desc = .struct fs)
  (h3 : P.stoodInHeld T = false) (h4 : P.eqGuardType P.depth T = false) (h5 : (fs.toList.all fun f => f.name != "_") = true) (h6 : q9 P cs ds fs.toList = some l) (hb : andL l = b) : RunV P C H env (.binOp .neq T x y ty) (.bool (!b)) := by
 intro R ρ w hm hf dst t p af g
 refine ⟨_, ?_, aE.2 rfl⟩
 obtain ⟨xs, ex, rx⟩ := th (hf _ _ hx)
 obtain ⟨ys, ey, ry⟩ := th (hf _ _ hy)
 have hu : P.underlying T = some (.struct fs) := by rw [a6 h1, h2]
 have hfo : P.fieldsOf T = fs := by unfold Program.fieldsOf; rw [hu]
 have e1 : (Op.equalIn 10000 T (.agg xs) (.agg ys)).run P w = .ok b w := by
  rw [show (10000 : Nat) = 9999 + 1 from rfl, run_equalIn_agg w 9999 T xs ys (by rw [hfo]; exact hu) h3, hfo]
  subst hb
  exact gS rx ry 9998 w _ _ h5 h6
 simp only [execOp, ex, ey, Sem.run_bind, run_neq_struct, e1, run_eqGuard_agg w .neq T x y xs ys h4, Result.andThen_ok, Sem.run_pure]
end
end
section
open Go Go.RowKit
attribute [local irreducible] AWp AOps aa az OrOk ad ah
attribute [local irreducible] hdC hdB badI fW
theorem nP {G : Glo} (hGL : ad G errTy) (x : Err) : FnIs Tryz.prog G 105 [x.A] x.b.A := by
 have h := lx hGL x
 cases x
 all_goals
  refine fn_x Tryz.func105 Tryz.call105 rfl rfl rfl rfl hGL ?_
  intro C hC
  exact xw0
theorem nK (t : Stm) : andL [eqB t.y 0, eqB t.m 0, eqB t.d 0, eqB t.h 0, eqB t.i 0, eqB t.s 0, t.z == false, eqB t.o 0] = fW t := by
 unfold fW
 rw [Bool.eq_iff_iff]
 simp only [andL, Bool.and_eq_true, de, Bool.and_true, decide_eq_true_eq, beq_iff_eq]
theorem vY {G : Glo} (v : Vl) : FnIs Tryz.prog G 103 [v.A] (.bool v.only) := by
 have hz := nK v.st
 have hGL : ad G [] := ab
 refine fn_x Tryz.func103 Tryz.call103 rfl rfl rfl rfl hGL ?_
 intro C hC
 refine xw ?_
 repeat' (first | exact Le.n | refine Lc.mk ?_ ?_)
 all_goals intros
 all_goals try (refine aI hC hGL (BW (fW v.st) rfl rfl rfl rfl (by kernel_rfl) (by kernel_rfl) (by kernel_rfl) rfl hz) rfl rfl ?_; refine xw ?_)
 repeat' (first | exact Le.n | refine Lc.mk ?_ ?_)
 all_goals intros
 all_goals (apply al; refine congrArg AVal.bool ?_; rw [Bool.eq_iff_iff]; unfold Vl.only; rw [decide_eq_true_eq]; cases hq : fW v.st <;> first | exact absurd (hq.symm.trans (show fW v.st = true by assumption)) (by decide) | exact absurd (hq.symm.trans (show fW v.st = false by assumption)) (by decide) | (simp only [hq, de, reduceCtorEq, true_iff, false_iff, true_or, false_or, iff_true, true_and, and_true]; omega))
theorem yW {L : List (List (List UInt8))} {k : Nat} (hk : k < L.length) (h1 : k ≤ bV L) (h0 : (L.getD k []).length = 0) : bV L < L.length := by
 rw [mb hk h1 (List.eq_nil_of_length_eq_zero h0)]
 exact hk
theorem uD {L : List (List (List UInt8))} {k : Nat} (hk : k < L.length) (h1 : k ≤ bV L) (h0 : (L.getD k []).length ≠ 0) : k + 1 ≤ bV L := j4 hk h1 (fun h => h0 (by rw [h]; rfl))
def hdK (L : List (List (List UInt8))) (k : Nat) : Prop := ∀ i, i < k → (L.getD i []).all (hdB true) = true
def hdJ (l : List (List UInt8)) (j : Nat) : Prop := ∀ i, i < j → hdB true (l.getD i []) = true
theorem ze {l : List (List UInt8)} {j : Nat} (hj : l.length ≤ j) (h : hdJ l j) : l.all (hdB true) = true := by
 rw [List.all_eq_true]
 intro x hx
 obtain ⟨i, hi, rfl⟩ := List.getElem_of_mem hx
 have := h i (by omega)
 rwa [List.getD_eq_getElem?_getD, List.getElem?_eq_getElem hi] at this
theorem zd {l : List (List UInt8)} {j : Nat} (hj : j < l.length) (h : hdB true (l.getD j []) = false) : l.all (hdB true) = false := by
 rw [List.all_eq_false]
 refine ⟨l[j], List.getElem_mem hj, ?_⟩
 rw [List.getD_eq_getElem?_getD, List.getElem?_eq_getElem hj] at h
 simpa using h
theorem zc {L : List (List (List UInt8))} {k : Nat} (hk : L.length ≤ k) (h : hdK L k) : hdL L = true := by
 unfold hdL
 rw [List.all_eq_true]
 intro x hx
 obtain ⟨i, hi, rfl⟩ := List.getElem_of_mem hx
 have := h i (by omega)
 rwa [List.getD_eq_getElem?_getD, List.getElem?_eq_getElem hi] at this
theorem zb {L : List (List (List UInt8))} {k : Nat} (hk : k < L.length) (h : (L.getD k []).all (hdB true) = false) : hdL L = false := by
 unfold hdL
 rw [List.all_eq_false]
 refine ⟨L[k], List.getElem_mem hk, ?_⟩
 rw [List.getD_eq_getElem?_getD, List.getElem?_eq_getElem hk] at h
 simpa using h
theorem uX {l : List (List UInt8)} {j : Nat} (h : hdJ l j) (k : hdB true (l.getD j []) = true) : hdJ l (j + 1) := fun i hi => by
 rcases Nat.lt_succ_iff_lt_or_eq.1 hi with h1 | rfl
 ·exact h i h1
 ·exact k
theorem uW {L : List (List (List UInt8))} {j : Nat} (h : hdK L j) (k : (L.getD j []).all (hdB true) = true) : hdK L (j + 1) := fun i hi => by
 rcases Nat.lt_succ_iff_lt_or_eq.1 hi with h1 | rfl
 ·exact h i h1
 ·exact k
end
section
open Go Go.RowKit
attribute [local irreducible] AWp AOps az OrOk ad ah aa
abbrev Br (a b c : Int) : AVal := .list 1 3 (bH [(0, .int .i64 a), (1, .int .i64 b), (2, .int .i64 c)])
theorem iX {G : Glo} (a b c : Int) : FnIs Tryz.prog G 151 [Br a b c] (.str (fmS (tlB a) (tlB b) (tlB c))) := by
 by_cases h1 : a = -1
 all_goals by_cases h2 : b = -1
 all_goals by_cases h3 : c = -1
 all_goals
  have hGL : ad G [] := ab
  refine fn_x Tryz.func151 Tryz.call151 rfl rfl rfl rfl hGL ?_
  intro C hC
  refine xw1 ?_
  intros
  refine dF (m := 3) hC hGL rfl rfl (by omega) rfl rfl rfl rfl rfl rfl rfl rfl (fun bo => ?_)
  refine xw1 ?_
  intros
  refine rds hC hGL 4 ?_
  refine xw1 ?_
  intros
  refine sp_i ⟨rfl, rfl⟩ ?_
  apply al
  simp only [tlB, h1, h2, h3, ne_eq, not_true_eq_false, not_false_eq_true, decide_true, decide_false]
  rfl
theorem tr {G : Glo} (n lo hi : Int) : FnIs Tryz.prog G 153 [.int .i64 n, .int .i64 lo, .int .i64 hi] (.bool (witB n lo hi)) := by
 have hGL : ad G [] := ab
 refine fn_x Tryz.func153 Tryz.call153 rfl rfl rfl rfl hGL ?_
 intro C hC
 refine xw ?_
 repeat' (first | exact Le.n | refine Lc.mk ?_ ?_)
 all_goals intros
 all_goals (apply al; refine congrArg AVal.bool ?_; rw [Bool.eq_iff_iff]; simp only [nM, reduceCtorEq, false_iff, true_iff, Bool.not_eq_true', g9]; omega)
theorem zD {G : Glo} (y m : Int) : FnIs Tryz.prog G 152 [.int .i64 y, .int .i64 m] (.int .i64 (dayN y m)) := by
 have hGL : ad G [] := ab
 refine fn_x Tryz.func152 Tryz.call152 rfl rfl rfl rfl hGL ?_
 intro C hC
 refine xw ?_
 repeat' (first | exact Le.n | refine Lc.mk ?_ ?_)
 all_goals intros
 all_goals (apply al; refine congrArg (AVal.int .i64) ?_; unfold dayN; (repeat' split) <;> omega)
theorem Bd {G : Glo} (n : Int) (h0 : 0 ≤ n) (h1 : n < 100) : FnIs Tryz.prog G 155 [.int .i64 n, .int .i64 2] (.str (twoS n)) := by
 have hGL : ad G [] := ab
 refine fn_x Tryz.func155 Tryz.call155 rfl rfl rfl rfl hGL ?_
 intro C hC
 refine xw1 ?_
 intros
 refine dF (m := 2) hC hGL rfl rfl (by omega) rfl rfl rfl rfl rfl rfl rfl rfl (fun bo => ?_)
 refine xw1 ?_
 intros
 refine rds hC hGL 3 ?_
 refine xw1 ?_
 intros
 refine sp_i ⟨rfl, rfl⟩ ?_
 apply al
 refine congrArg AVal.str ?_
 show [UInt8.ofNat (48 + n / 10 % 10).toNat, UInt8.ofNat (48 + n % 10).toNat] = twoS n
 rw [show n / 10 % 10 = n / 10 by omega]
 rfl
theorem zC {G : Glo} (n : Int) (h0 : 0 ≤ n) (h1 : n < 10000) : FnIs Tryz.prog G 155 [.int .i64 n, .int .i64 4] (.str (eb n)) := by
 have hGL : ad G [] := ab
 refine fn_x Tryz.func155 Tryz.call155 rfl rfl rfl rfl hGL ?_
 intro C hC
 refine xw1 ?_
 intros
 refine dF (m := 4) hC hGL rfl rfl (by omega) rfl rfl rfl rfl rfl rfl rfl rfl (fun bo => ?_)
 refine xw1 ?_
 intros
 refine rds hC hGL 5 ?_
 refine xw1 ?_
 intros
 refine sp_i ⟨rfl, rfl⟩ ?_
 apply al
 refine congrArg AVal.str ?_
 unfold eb aU
 rw [show n / 1000 = n / 10 / 10 / 10 % 10 by omega, show n / 100 % 10 = n / 10 / 10 % 10 by omega]
 rfl
theorem B9 {G : Glo} (y m : Int) : FnIs Tryz.prog G 144 [.int .i64 y, .int .i64 m] (.int .i64 (dayN y m)) := by
 have hw := cr (G := G) m 1 12
 have h4 : y.tmod 400 = 0 → y.tmod 4 = 0 ∧ y.tmod 100 = 0 := fun h => by
  have hd := Int.dvd_of_tmod_eq_zero h
  exact ⟨Int.tmod_eq_zero_of_dvd (Int.dvd_trans (by decide) hd), Int.tmod_eq_zero_of_dvd (Int.dvd_trans (by decide) hd)⟩
 by_cases hm : 1 ≤ m ∧ m ≤ 12
 ·rw [show (decide (1 ≤ m) && decide (m ≤ 12)) = true by simp [hm]] at hw
  rcases (show m = 1 ∨ m = 2 ∨ m = 3 ∨ m = 4 ∨ m = 5 ∨ m = 6 ∨ m = 7 ∨ m = 8 ∨ m = 9 ∨ m = 10 ∨ m = 11 ∨ m = 12 by omega) with rfl | rfl | rfl | rfl | rfl | rfl | rfl | rfl | rfl | rfl | rfl | rfl
  all_goals
   have hGL : ad G [] := ab
   refine fn_x Tryz.func144 Tryz.call144 rfl rfl rfl rfl hGL ?_
   intro C hC
   refine xw ?_
   repeat' (first | exact Le.n | refine Lc.mk ?_ ?_)
   all_goals intros
   all_goals (apply al; refine congrArg (AVal.int .i64) ?_; unfold dayN; (repeat' split) <;> first | rfl | omega)
 ·rw [show (decide (1 ≤ m) && decide (m ≤ 12)) = false by simp; omega] at hw
  have hGL : ad G [] := ab
  refine fn_x Tryz.func144 Tryz.call144 rfl rfl rfl rfl hGL ?_
  intro C hC
  refine xw1 ?_
  intros
  apply al
  refine congrArg (AVal.int .i64) ?_
  unfold dayN
  rw [if_pos (by omega)]
end
end Go.Proofs.YtahebkecmlmlfaaGreatDoor
