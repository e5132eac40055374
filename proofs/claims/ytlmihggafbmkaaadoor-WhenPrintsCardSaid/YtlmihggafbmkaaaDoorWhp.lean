/- The plain law of dates and times (8.1, 8.2): what is told of three, what is wrong, the text. -/
import Derived.Test.YtlmihggafbmkaaaDoorZon
namespace Go.Proofs.YtlmihggafbmkaaaDoor
open Go Go.RowKit
/-- Told. -/
def tlB (n : Int) : Bool := decide (n ≠ -1)
theorem tlB_t {n : Int} : tlB n = true ↔ n ≠ -1 := by simp [tlB]
theorem tlB_f {n : Int} : tlB n = false ↔ n = -1 := by simp [tlB]
/-- What of three is told, in letters. -/
def fmB (b : Bool) : UInt8 := if b then 57 else 45
def fmS (a b c : Bool) : List UInt8 := [fmB a, fmB b, fmB c]
/-- Which of three are told. -/
def whN : Bool → Bool → Bool → Int
  | false, false, false => 0
  | true, false, false => 1
  | true, true, false => 2
  | true, true, true => 3
  | false, true, false => 4
  | false, true, true => 5
  | false, false, true => 6
  | true, false, true => -1
def abcS (a b c : Bool) : List UInt8 := (if a then [97] else []) ++ (if b then [98] else []) ++ (if c then [99] else [])
/-- How many days a month has. -/
def dayN (y m : Int) : Int :=
  if m < 1 ∨ 12 < m then 0
  else if m = 2 then (if y ≠ -1 ∧ (y.tmod 4 ≠ 0 ∨ y.tmod 100 = 0 ∧ y.tmod 400 ≠ 0) then 28 else 29)
  else if m = 4 ∨ m = 6 ∨ m = 9 ∨ m = 11 then 30 else 31
def witB (n lo hi : Int) : Bool := decide (n = -1 ∨ lo ≤ n ∧ n ≤ hi)
theorem witB_t {n lo hi : Int} : witB n lo hi = true ↔ (n = -1 ∨ lo ≤ n ∧ n ≤ hi) := by simp [witB]
theorem witB_f {n lo hi : Int} : witB n lo hi = false ↔ ¬ (n = -1 ∨ lo ≤ n ∧ n ≤ hi) := by simp [witB]
/-- A stamp. -/
structure Stm where
  y : Int
  m : Int
  d : Int
  h : Int
  i : Int
  s : Int
  z : Bool
  o : Int
def Stm.A (t : Stm) : AVal := .agg [.int .i64 t.y, .int .i64 t.m, .int .i64 t.d, .int .i64 t.h, .int .i64 t.i, .int .i64 t.s, .bool t.z, .int .i64 t.o]
/-- Forms that go together. -/
def okN (d t : Int) : Bool := decide (0 ≤ d ∧ 0 ≤ t ∧ ¬ (d = 0 ∧ t = 0) ∧ (0 < d ∧ 0 < t → (d = 3 ∨ d = 5 ∨ d = 6) ∧ t ≤ 3))
def Stm.dn (t : Stm) : Int := whN (tlB t.y) (tlB t.m) (tlB t.d)
def Stm.tn (t : Stm) : Int := whN (tlB t.h) (tlB t.i) (tlB t.s)
def Stm.frm (t : Stm) : Bool := okN t.dn t.tn && (if t.z then tlB t.h else decide (t.o = 0))
def Stm.day (t : Stm) : Int := if t.m = -1 then 31 else dayN t.y t.m
def Stm.rng (t : Stm) : Bool := witB t.y 0 9999 && (witB t.m 1 12 && (witB t.d 1 t.day && (witB t.h 0 23 && (witB t.i 0 59 && (witB t.s 0 59 && zrB t.o)))))
def Stm.e (t : Stm) : Int := if t.frm then (if t.rng then 0 else 2) else 3
def Stm.E (t : Stm) : Err := if t.frm then (if t.rng then .none else .errno 2) else .errno 3
theorem Stm.E_e (t : Stm) : t.E.e = t.e := by unfold Stm.E Stm.e; (repeat' split) <;> rfl
theorem Stm.E_p (t : Stm) : t.E.p = -1 := by unfold Stm.E; (repeat' split) <;> rfl
/-- Four digits. -/
def fourS (n : Int) : List UInt8 := bytesI [48 + n / 1000, 48 + n / 100 % 10, 48 + n / 10 % 10, 48 + n % 10]
def dateS (a b c : Bool) (y m d : Int) : List UInt8 := match a, b, c with
  | true, false, false => fourS y
  | true, true, false => (fourS y ++ [45]) ++ twoS m
  | true, true, true => (fourS y ++ twoS m) ++ twoS d
  | false, true, false => [45, 45] ++ twoS m
  | false, true, true => ([45, 45] ++ twoS m) ++ twoS d
  | false, false, true => [45, 45, 45] ++ twoS d
  | _, _, _ => []
def timeS (a b c : Bool) (h m s : Int) : List UInt8 := match a, b, c with
  | true, false, false => [84] ++ twoS h
  | true, true, false => ([84] ++ twoS h) ++ twoS m
  | true, true, true => (([84] ++ twoS h) ++ twoS m) ++ twoS s
  | false, true, false => ([84] ++ [45]) ++ twoS m
  | false, true, true => (([84] ++ [45]) ++ twoS m) ++ twoS s
  | false, false, true => (([84] ++ [45]) ++ [45]) ++ twoS s
  | _, _, _ => []
def Stm.txt (t : Stm) : List UInt8 := dateS (tlB t.y) (tlB t.m) (tlB t.d) t.y t.m t.d ++ timeS (tlB t.h) (tlB t.i) (tlB t.s) t.h t.i t.s ++ (if t.z then zprS t.o else [])
/-- The stamp as text; none where it isn't right. -/
def Stm.T (t : Stm) : List UInt8 := if t.frm then (if t.rng then t.txt else []) else []
/-- A form filled with digits. -/
def fillS : List UInt8 → List UInt8 → List UInt8
  | [], _ => []
  | c :: r, all => if c = 57 then (match all with | x :: t => x :: fillS r t | [] => []) else c :: fillS r all
end Go.Proofs.YtlmihggafbmkaaaDoor
