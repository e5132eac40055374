/- My own layer over the kit's calculus: abstract values, sealed memory, owned memory, and what it is for a code to go from one abstract state to another. No program is named here. -/
import Derived.WalkKit
import Derived.Below
import Derived.Deep.LoopGhost
import Derived.LoopN
namespace Go.Proofs.YtlmihggafbmkaaaGreatDoor
open Go

/-! ## Abstract values -/
inductive AVal where
  | bool (b : Bool)
  | int (k : IntKind) (n : Int)
  | str (s : List UInt8)
  | raw (v : Value)
  | list (sz n : Nat) (f : Nat → AVal)
  | rop (cs : List AVal) (off : Nat)
  | agg (cs : List AVal)
  | tuple (cs : List AVal)
  | iface (t : TypeId) (v : AVal)
  | func (fn : Fn) (first captured : List AVal)
  | own (i : Nat) (v : Value)

def AVal.isAgg : AVal → Bool
  | .agg _ => true
  | .raw (.agg _) => true
  | _ => false

def vAgg : Value → Bool
  | .agg _ => true
  | _ => false

def AVal.cells : AVal → List AVal
  | .agg cs => cs
  | v => [v]

abbrev Seal := Nat → Option Obj

mutual
def RelC (R : Seal) : AVal → List Value → Prop
  | .bool b, vs => vs = [.bool b]
  | .int k n, vs => vs = [.int k n]
  | .str s, vs => vs = [.string ⟨s.toArray⟩]
  | .raw x, vs => vs = x.cells.toList
  | .list sz n f, vs => ∃ a cap, vs = [.slice a n cap] ∧ n ≤ cap ∧ (n = 0 ∨ ∃ b o C e fz, a = some ⟨b, o, none⟩ ∧ R b = some (.cells C e fz) ∧
      ∀ i, i < n → RelC R (f i) ((C.toList.drop (o + i * sz)).take sz))
  | .rop cs off, vs => ∃ b o C e fz, vs = [.pointer (some ⟨b, o, none⟩)] ∧ off ≤ o ∧ R b = some (.cells C e fz) ∧
      RelL R cs ((C.toList.drop (o - off)).take cs.length)
  | .agg cs, vs => RelL R cs vs
  | .tuple cs, vs => ∃ ws, vs = [.tuple ws] ∧ RelV R cs ws.toList
  | .iface t v, vs => ∃ w, vs = [.iface t w] ∧ RelC R v w.cells.toList ∧ v.isAgg = vAgg w
  | .func fn l1 l2, vs => ∃ a b, vs = [.func fn a b] ∧ RelV R l1 a.toList ∧ RelV R l2 b.toList
  | .own _ x, vs => vs = [x] ∧ vAgg x = false
def RelL (R : Seal) : List AVal → List Value → Prop
  | [], vs => vs = []
  | c :: cs, vs => ∃ v t, vs = v :: t ∧ RelC R c [v] ∧ RelL R cs t
def RelV (R : Seal) : List AVal → List Value → Prop
  | [], vs => vs = []
  | c :: cs, vs => ∃ v t, vs = v :: t ∧ (RelC R c v.cells.toList ∧ c.isAgg = vAgg v) ∧ RelV R cs t
end

def Rel (R : Seal) (a : AVal) (v : Value) : Prop := RelC R a v.cells.toList ∧ a.isAgg = vAgg v

def Seal.le (R R' : Seal) : Prop := ∀ b o, R b = some o → R' b = some o
theorem Seal.le_refl (R : Seal) : R.le R := fun _ _ h => h
theorem Seal.le_trans {R R' R'' : Seal} (h : R.le R') (k : R'.le R'') : R.le R'' := fun b o x => k b o (h b o x)

mutual
theorem relC_mono {R R' : Seal} (h : R.le R') : ∀ (a : AVal) (vs : List Value), RelC R a vs → RelC R' a vs
  | .bool _, _, x => x
  | .int _ _, _, x => x
  | .str _, _, x => x
  | .raw _, _, x => x
  | .list sz n f, vs, x => by
    obtain ⟨a, cap, e, hle, y⟩ := x
    refine ⟨a, cap, e, hle, ?_⟩
    rcases y with y | ⟨b, o, C, el, fz, ha, hR, hi⟩
    · exact .inl y
    · exact .inr ⟨b, o, C, el, fz, ha, h _ _ hR, fun i hn => relC_mono h (f i) _ (hi i hn)⟩
  | .rop cs off, vs, x => by
    obtain ⟨b, o, C, e, fz, hv, ho, hR, hl⟩ := x
    exact ⟨b, o, C, e, fz, hv, ho, h _ _ hR, relL_mono h cs _ hl⟩
  | .agg cs, vs, x => relL_mono h cs vs x
  | .tuple cs, vs, x => by
    obtain ⟨ws, e, y⟩ := x
    exact ⟨ws, e, relV_mono h cs _ y⟩
  | .iface t v, vs, x => by
    obtain ⟨w, e, y, z⟩ := x
    exact ⟨w, e, relC_mono h v _ y, z⟩
  | .func fn l1 l2, vs, x => by
    obtain ⟨a, b, e, y, z⟩ := x
    exact ⟨a, b, e, relV_mono h l1 _ y, relV_mono h l2 _ z⟩
  | .own _ _, _, x => x
theorem relL_mono {R R' : Seal} (h : R.le R') : ∀ (a : List AVal) (vs : List Value), RelL R a vs → RelL R' a vs
  | [], _, x => x
  | c :: cs, _, x => by
    obtain ⟨v, t, e, y, z⟩ := x
    exact ⟨v, t, e, relC_mono h c _ y, relL_mono h cs _ z⟩
theorem relV_mono {R R' : Seal} (h : R.le R') : ∀ (a : List AVal) (vs : List Value), RelV R a vs → RelV R' a vs
  | [], _, x => x
  | c :: cs, _, x => by
    obtain ⟨v, t, e, y, z⟩ := x
    exact ⟨v, t, e, ⟨relC_mono h c _ y.1, y.2⟩, relV_mono h cs _ z⟩
end
theorem rel_mono {R R' : Seal} (h : R.le R') {a : AVal} {v : Value} (x : Rel R a v) : Rel R' a v := ⟨relC_mono h a _ x.1, x.2⟩

/-- A scalar: one cell, no aggregate. -/
theorem rel_one {R : Seal} {a : AVal} {v : Value} (x : Rel R a v) (ha : a.isAgg = false) : RelC R a [v] := by
  obtain ⟨x, y⟩ := x
  rw [ha] at y
  cases v <;> first | exact x | (simp [vAgg] at y)
theorem rel_of_one {R : Seal} {a : AVal} {v : Value} (x : RelC R a [v]) (ha : a.isAgg = false) (hv : vAgg v = false) : Rel R a v := by
  refine ⟨?_, by rw [ha, hv]⟩
  cases v <;> first | exact x | (simp [vAgg] at hv)

/-! What a related value is. -/
theorem rel_bool {R : Seal} {b : Bool} {v : Value} : Rel R (.bool b) v ↔ v = .bool b := by
  constructor
  · intro x; have := rel_one x rfl; simpa [RelC] using this
  · rintro rfl; exact ⟨rfl, rfl⟩
theorem rel_int {R : Seal} {k : IntKind} {n : Int} {v : Value} : Rel R (.int k n) v ↔ v = .int k n := by
  constructor
  · intro x; have := rel_one x rfl; simpa [RelC] using this
  · rintro rfl; exact ⟨rfl, rfl⟩
theorem rel_str {R : Seal} {s : List UInt8} {v : Value} : Rel R (.str s) v ↔ v = .string ⟨s.toArray⟩ := by
  constructor
  · intro x; have := rel_one x rfl; simpa [RelC] using this
  · rintro rfl; exact ⟨rfl, rfl⟩
theorem rel_raw {R : Seal} {x v : Value} : Rel R (.raw x) v ↔ v = x := by
  constructor
  · rintro ⟨h, k⟩
    cases v <;> cases x <;> simp_all [RelC, AVal.isAgg, vAgg, Value.cells]
  · rintro rfl; exact ⟨rfl, by cases v <;> rfl⟩

/-- A value at the place i of what is owned: the number is a hint alone. -/
theorem rel_own {R : Seal} {i : Nat} {x v : Value} : Rel R (.own i x) v ↔ v = x ∧ vAgg x = false := by
  constructor
  · intro h
    have := rel_one h rfl
    simp only [RelC, List.cons.injEq, and_true] at this
    exact this
  · rintro ⟨rfl, h⟩
    refine ⟨?_, h.symm⟩
    cases v <;> first | exact ⟨rfl, rfl⟩ | (simp [vAgg] at h)
/-- Bytes of the call's own, and room behind them. -/
def byteA (c : UInt8) : AVal := .int .u8 (c.toNat : Int)
def ownB (s : List UInt8) (cap : Nat) : List AVal := s.map byteA ++ List.replicate (cap - s.length) (.int .u8 0)

/-! ## Memory -/
def Sealed (R : Seal) (w : World) : Prop := ∀ b o, R b = some o → w.heap[b]? = some o

/-- No cell of the block lies in its frozen range. -/
def Loose (fz : Nat × Nat) (n : Nat) : Prop := fz.2 ≤ fz.1 ∨ n ≤ fz.1

inductive HEnt where
  | cells (b : Nat) (e : Option TypeId) (cs : List AVal)
  | row (v : Value) (e : Option TypeId) (sz n : Nat) (cs : List AVal)
  | iter (b : Nat) (s : List UInt8) (pos : Nat)
  | buf (b : Nat) (s : List UInt8) (cap : Nat)

def HEnt.blk : HEnt → Option Nat
  | .cells b _ _ => some b
  | .row (.slice (some a) _ _) _ _ _ _ => some a.block
  | .row _ _ _ _ _ => none
  | .iter b _ _ => some b
  | .buf b _ _ => some b

def HEnt.holds (R : Seal) (w : World) : HEnt → Prop
  | .cells b eT cs => ∃ C e fz, w.heap[b]? = some (.cells C e fz) ∧ RelL R cs C.toList ∧ Loose fz C.size ∧ ∀ t, eT = some t → e = t
  | .row v eT sz n cs => cs.length = n * sz ∧ ((v = .slice none 0 0 ∧ n = 0) ∨
      ∃ b cap C e fz, v = .slice (some ⟨b, 0, none⟩) n cap ∧ w.heap[b]? = some (.cells C e fz) ∧ C.size = cap * sz ∧ n ≤ cap ∧
        RelL R cs (C.toList.take (n * sz)) ∧ Loose fz C.size ∧ ∀ t, eT = some t → e = t)
  | .iter b s pos => w.heap[b]? = some (.stringIter ⟨s.toArray⟩ pos)
  | .buf b s cap => s.length ≤ cap ∧ ∃ C e fz, w.heap[b]? = some (.cells C e fz) ∧ RelL R (ownB s cap) C.toList ∧ Loose fz C.size

abbrev Heap := List HEnt

structure HeapRel (R : Seal) (w : World) (H : Heap) : Prop where
  holds : ∀ h ∈ H, h.holds R w
  nodup : (H.filterMap HEnt.blk).Nodup
  apart : ∀ h ∈ H, ∀ b, h.blk = some b → R b = none

theorem HEnt.holds_mono {R R' : Seal} {w w' : World} {h : HEnt} (x : h.holds R w) (hR : R.le R')
    (hw : ∀ b, h.blk = some b → w'.heap[b]? = w.heap[b]?) : h.holds R' w' := by
  cases h with
  | cells b eT cs =>
    obtain ⟨C, e, fz, hb, hl, hf⟩ := x
    exact ⟨C, e, fz, by rw [hw b rfl]; exact hb, relL_mono hR _ _ hl, hf⟩
  | row v eT sz n cs =>
    obtain ⟨hlen, y⟩ := x
    refine ⟨hlen, ?_⟩
    rcases y with y | ⟨b, cap, C, e, fz, rfl, hb, hs, hn, hl, hf⟩
    · exact .inl y
    · exact .inr ⟨b, cap, C, e, fz, rfl, by rw [hw b rfl]; exact hb, hs, hn, relL_mono hR _ _ hl, hf⟩
  | iter b s pos => simp only [HEnt.holds] at *; rw [hw b rfl]; exact x
  | buf b s cap =>
    obtain ⟨hc, C, e, fz, hb, hl, hf⟩ := x
    exact ⟨hc, C, e, fz, by rw [hw b rfl]; exact hb, relL_mono hR _ _ hl, hf⟩
/-- A block that holds something is there. -/
theorem HEnt.blk_lt {R : Seal} {w : World} {h : HEnt} (x : h.holds R w) {b : Nat} (hb : h.blk = some b) : b < w.heap.size := by
  have key : ∀ (o : Obj), w.heap[b]? = some o → b < w.heap.size := by
    intro o ho
    rcases Nat.lt_or_ge b w.heap.size with h | h
    · exact h
    · simp [Array.getElem?_eq_none h] at ho
  cases h with
  | cells b' eT cs =>
    obtain ⟨C, e, fz, hb', _⟩ := x
    simp only [HEnt.blk, Option.some.injEq] at hb; subst hb
    exact key _ hb'
  | row v eT sz n cs =>
    obtain ⟨_, y⟩ := x
    rcases y with ⟨rfl, _⟩ | ⟨b', cap, C, e, fz, rfl, hb', _⟩
    · simp [HEnt.blk] at hb
    · simp only [HEnt.blk, Option.some.injEq] at hb; subst hb
      exact key _ hb'
  | iter b' s pos =>
    simp only [HEnt.blk, Option.some.injEq] at hb; subst hb
    exact key _ x
  | buf b' s cap =>
    obtain ⟨_, C, e, fz, hb', _⟩ := x
    simp only [HEnt.blk, Option.some.injEq] at hb; subst hb
    exact key _ hb'

/-! ## The state -/
/-- What is known of the package-level variables: it stays true as more is sealed. -/
structure Glo where
  p : Seal → Prop
  mono : ∀ R R' : Seal, R.le R' → p R → p R'
structure Ctx where
  w0 : World
  R0 : Seal
  B0 : List Nat
  G : Glo
  hG : G.p R0
  D : List Deferred

structure Ext (w0 : World) (B0 : List Nat) (w : World) : Prop where
  os : w.os = w0.os
  tape : w.tape = w0.tape
  output : w.output = w0.output
  size : w0.heap.size ≤ w.heap.size
  block : ∀ b, b < w0.heap.size → b ∉ B0 → w.heap[b]? = w0.heap[b]?
theorem Ext.refl (w : World) (B : List Nat) : Ext w B w := ⟨rfl, rfl, rfl, Nat.le_refl _, fun _ _ _ => rfl⟩

/-- The memory's side. -/
structure MS (C : Ctx) (R : Seal) (H : Heap) (w : World) : Prop where
  sealed : Sealed R w
  ge : C.R0.le R
  fresh : ∀ b, R b ≠ none → C.R0 b ≠ none ∨ C.w0.heap.size ≤ b ∨ b ∈ C.B0
  heap : HeapRel R w H
  own : ∀ h ∈ H, ∀ b, h.blk = some b → C.w0.heap.size ≤ b ∨ b ∈ C.B0
  ext : Ext C.w0 C.B0 w

abbrev Env := List (Nat × AVal)
def Env.get : Env → Nat → Option AVal
  | [], _ => none
  | (k, v) :: t, n => match Nat.beq k n with
    | true => some v
    | false => Env.get t n

/-- The frame's side. -/
structure FS (D : List Deferred) (n : Nat) (R : Seal) (env : Env) (a : Act) : Prop where
  fr : ∀ k v, Env.get env k = some v → ∃ x, a.tmps[k]? = some x ∧ Rel R v x
  size : a.tmps.size = n
  defers : a.defers = D

theorem FS.mono {D : List Deferred} {n : Nat} {R R' : Seal} {env : Env} {a : Act} (h : FS D n R env a) (hR : R.le R') : FS D n R' env a :=
  ⟨fun k v x => let ⟨y, hy, hr⟩ := h.fr k v x; ⟨y, hy, rel_mono hR hr⟩, h.size, h.defers⟩
theorem FS.put {D : List Deferred} {n : Nat} {R : Seal} {env : Env} {a : Act} (h : FS D n R env a) {d : Nat} (hd : Nat.ble (d + 1) n = true) {av : AVal} {v : Value} (hv : Rel R av v) :
    FS D n R ((d, av) :: env) (a.put (some d) v) := by
  have hd : d < n := by have := Nat.le_of_ble_eq_true hd; omega
  refine ⟨fun k x hk => ?_, by simp [Act.put, h.size], h.defers⟩
  simp only [Env.get] at hk
  by_cases e : d = k
  · subst e
    rw [Nat.beq_refl] at hk
    simp only [Option.some.injEq] at hk
    subst hk
    exact ⟨v, by simp [Act.put, h.size, hd], hv⟩
  · have hb : Nat.beq d k = false := by
      cases hb : Nat.beq d k with
      | false => rfl
      | true => exact absurd (Nat.eq_of_beq_eq_true hb) e
    rw [hb] at hk
    obtain ⟨y, hy, hr⟩ := h.fr k x hk
    refine ⟨y, ?_, hr⟩
    simp only [Act.put]
    rw [Array.getElem?_setIfInBounds_ne e]
    exact hy

/-- The operand's abstract value. -/
def ofV : Value → AVal
  | .bool b => .bool b
  | .int k n => .int k n
  | .string s => .str s.data.toList
  | v => .raw v
def forceB {β : Type} : List UInt8 → (List UInt8 → β) → β
  | [], k => k []
  | c :: cs, k => forceB cs (fun r => k (c :: r))
theorem forceB_eq {β : Type} : ∀ (l : List UInt8) (k : List UInt8 → β), forceB l k = k l
  | [], _ => rfl
  | _ :: cs, k => forceB_eq cs _
def evalA (env : Env) : Operand → Option AVal
  | .tmp t => Env.get env t
  | .const (.string s) => forceB s.data.toList fun l => some (.str l)
  | .const v => some (ofV v)
  | .global g => some (.raw (.pointer (some ⟨g, 0, none⟩)))
  | .func f => some (.func (.func f) [] [])
theorem rel_ofV (R : Seal) (v : Value) : Rel R (ofV v) v := by
  cases v <;> first | exact rel_raw.2 rfl | exact rel_bool.2 rfl | exact rel_int.2 rfl | skip
  exact rel_str.2 rfl
theorem evalA_const (env : Env) (v : Value) : evalA env (.const v) = some (ofV v) := by cases v <;> first | rfl | (simp only [evalA, forceB_eq]; rfl)
theorem FS.eval {D : List Deferred} {n : Nat} {R : Seal} {env : Env} {a : Act} (h : FS D n R env a) {x : Operand} {av : AVal} (hx : evalA env x = some av) : Rel R av (a.eval x) := by
  cases x with
  | tmp t =>
    obtain ⟨y, hy, hr⟩ := h.fr t av hx
    simp only [Act.eval, Array.getD_eq_getD_getElem?, hy]
    exact hr
  | const v =>
    rw [evalA_const] at hx
    simp only [Option.some.injEq] at hx; subst hx; exact rel_ofV R v
  | global g => simp only [evalA, Option.some.injEq] at hx; subst hx; exact rel_raw.2 rfl
  | func f =>
    simp only [evalA, Option.some.injEq] at hx; subst hx
    exact ⟨⟨#[], #[], rfl, rfl, rfl⟩, rfl⟩

inductive AExit where
  | normal
  | exit (id : Nat)
  | goto (l : Nat)
  | ret
  | panic (v : AVal)

def ExitRel (R : Seal) : AExit → Exit → Prop
  | .normal, e => e = .normal
  | .exit i, e => e = .exit i
  | .goto i, e => e = .goto i
  | .ret, e => e = .ret
  | .panic v, e => ∃ x, e = .panic [{ v := x, recovered := false }] ∧ Rel R v x

/-- What the concrete post says. -/
def Post (C : Ctx) (n : Nat) (Q : AExit → Env → Heap → Prop) (e : Exit) (a : Act) (w : World) : Prop :=
  ∃ x env H R, Q x env H ∧ ExitRel R x e ∧ MS C R H w ∧ FS C.D n R env a

/-- From each state that fits, the code comes to one that meets Q. -/
def AWp (P : Program) (C : Ctx) (n : Nat) (c : Code) (env : Env) (H : Heap) (Q : AExit → Env → Heap → Prop) : Prop :=
  ∀ R a w, MS C R H w → FS C.D n R env a → c.wp P (Post C n Q) a w
def AOps (P : Program) (C : Ctx) (n : Nat) (ops : Array Oper) (l : List Oper) (env : Env) (H : Heap) (Q : AExit → Env → Heap → Prop) : Prop :=
  ∀ R a w, MS C R H w → FS C.D n R env a → wpList P ops (Post C n Q) l a w

section
variable {P : Program} {C : Ctx} {n : Nat} {env : Env} {H : Heap} {Q : AExit → Env → Heap → Prop}

theorem AWp.mono {c : Code} {Q' : AExit → Env → Heap → Prop} (h : AWp P C n c env H Q) (hq : ∀ x e h, Q x e h → Q' x e h) : AWp P C n c env H Q' :=
  fun R a w hm hf => wp_mono (h R a w hm hf) fun _ _ _ ⟨x, en, H', R', q, r⟩ => ⟨x, en, H', R', hq _ _ _ q, r⟩

theorem aw_skip (h : Q .normal env H) : AWp P C n .skip env H Q :=
  fun R _ _ hm hf => wp_skip ⟨.normal, env, H, R, h, rfl, hm, hf⟩
theorem aw_exit {id : Nat} (h : Q (.exit id) env H) : AWp P C n (.exit id) env H Q :=
  fun R _ _ hm hf => wp_exit ⟨.exit id, env, H, R, h, rfl, hm, hf⟩
theorem aw_ret (h : Q .ret env H) : AWp P C n .ret env H Q :=
  fun R _ _ hm hf => wp_ret ⟨.ret, env, H, R, h, rfl, hm, hf⟩

def thenQ (K : Env → Heap → Prop) (Q : AExit → Env → Heap → Prop) : AExit → Env → Heap → Prop
  | .normal, e, h => K e h
  | x, e, h => Q x e h
theorem aw_seq {x y : Code} (h : AWp P C n x env H (thenQ (fun e h => AWp P C n y e h Q) Q)) : AWp P C n (.seq x y) env H Q := by
  intro R a w hm hf
  refine wp_seq (wp_mono (h R a w hm hf) ?_)
  rintro e a' w' ⟨x', en, H', R', q, er, hm', hf'⟩
  cases x' with
  | normal => simp only [ExitRel] at er; subst er; exact q R' a' w' hm' hf'
  | exit i => simp only [ExitRel] at er; subst er; exact ⟨.exit i, en, H', R', q, rfl, hm', hf'⟩
  | goto i => simp only [ExitRel] at er; subst er; exact ⟨.goto i, en, H', R', q, rfl, hm', hf'⟩
  | ret => simp only [ExitRel] at er; subst er; exact ⟨.ret, en, H', R', q, rfl, hm', hf'⟩
  | panic v => obtain ⟨y, rfl, hr⟩ := er; exact ⟨.panic v, en, H', R', q, ⟨y, rfl, hr⟩, hm', hf'⟩
theorem thenQ_aw {y : Code} {Q' : AExit → Env → Heap → Prop} (h : AWp P C n y env H Q) : thenQ (fun e h => AWp P C n y e h Q) Q' .normal env H := h
theorem thenQ_normal {K : Env → Heap → Prop} (h : K env H) : thenQ K Q .normal env H := h
theorem thenQ_ret {K : Env → Heap → Prop} (h : Q .ret env H) : thenQ K Q .ret env H := h
theorem thenQ_exit {K : Env → Heap → Prop} {i : Nat} (h : Q (.exit i) env H) : thenQ K Q (.exit i) env H := h
theorem thenQ_panic {K : Env → Heap → Prop} {v : AVal} (h : Q (.panic v) env H) : thenQ K Q (.panic v) env H := h

theorem aw_cond {c : Operand} {x y : Code} {b : Bool} (hc : evalA env c = some (.bool b)) (ht : b = true → AWp P C n x env H Q) (hf : b = false → AWp P C n y env H Q) :
    AWp P C n (.cond c x y) env H Q := by
  intro R a w hm hfr
  exact wp_cond_split (rel_bool.1 (hfr.eval hc)) (fun e => ht e R a w hm hfr) (fun e => hf e R a w hm hfr)
theorem aw_cond_true {c : Operand} {x y : Code} (hc : evalA env c = some (.bool true)) (h : AWp P C n x env H Q) : AWp P C n (.cond c x y) env H Q :=
  aw_cond hc (fun _ => h) (fun e => by cases e)
theorem aw_cond_false {c : Operand} {x y : Code} (hc : evalA env c = some (.bool false)) (h : AWp P C n y env H Q) : AWp P C n (.cond c x y) env H Q :=
  aw_cond hc (fun e => by cases e) (fun _ => h)

def blockQ (id : Nat) (Q : AExit → Env → Heap → Prop) : AExit → Env → Heap → Prop
  | .exit i, e, h => (i = id → Q .normal e h) ∧ (i ≠ id → Q (.exit i) e h)
  | x, e, h => Q x e h
theorem aw_block {id : Nat} {c : Code} (h : AWp P C n c env H (blockQ id Q)) : AWp P C n (.block id c) env H Q := by
  intro R a w hm hf
  refine wp_block (wp_mono (h R a w hm hf) ?_)
  rintro e a' w' ⟨x', en, H', R', q, er, hm', hf'⟩
  cases x' with
  | normal => simp only [ExitRel] at er; subst er; exact ⟨.normal, en, H', R', q, rfl, hm', hf'⟩
  | exit i =>
    simp only [ExitRel] at er; subst er
    simp only [Exit.inBlock]
    by_cases e : i = id
    · rw [if_pos e]; exact ⟨.normal, en, H', R', q.1 e, rfl, hm', hf'⟩
    · rw [if_neg e]; exact ⟨.exit i, en, H', R', q.2 e, rfl, hm', hf'⟩
  | goto i => simp only [ExitRel] at er; subst er; exact ⟨.goto i, en, H', R', q, rfl, hm', hf'⟩
  | ret => simp only [ExitRel] at er; subst er; exact ⟨.ret, en, H', R', q, rfl, hm', hf'⟩
  | panic v => obtain ⟨y, rfl, hr⟩ := er; exact ⟨.panic v, en, H', R', q, ⟨y, rfl, hr⟩, hm', hf'⟩
theorem blockQ_normal {id : Nat} (h : Q .normal env H) : blockQ id Q .normal env H := h
theorem blockQ_ret {id : Nat} (h : Q .ret env H) : blockQ id Q .ret env H := h
theorem blockQ_panic {id : Nat} {v : AVal} (h : Q (.panic v) env H) : blockQ id Q (.panic v) env H := h
theorem blockQ_hit {id : Nat} {e : Env} {h : Heap} (q : Q .normal e h) : blockQ id Q (.exit id) e h := ⟨fun _ => q, fun x => absurd rfl x⟩
theorem blockQ_miss {id i : Nat} (hi : Nat.beq i id = false) {e : Env} {h : Heap} (q : Q (.exit i) e h) : blockQ id Q (.exit i) e h :=
  ⟨fun x => (by subst x; rw [Nat.beq_refl] at hi; cases hi), fun _ => q⟩

/-- The state that is asked for says no more than the one at hand. -/
def Env.sub (env : Env) : Env → Prop
  | [] => True
  | (k, v) :: t => Env.get env k = some v ∧ Env.sub env t
theorem Env.sub_get {env : Env} : ∀ {t : Env}, Env.sub env t → ∀ k v, Env.get t k = some v → Env.get env k = some v
  | [], _, k, v, h => by simp [Env.get] at h
  | (j, x) :: t, hs, k, v, h => by
    simp only [Env.get] at h
    cases hb : Nat.beq j k with
    | true =>
      rw [hb] at h
      simp only [Option.some.injEq] at h
      subst h
      have := Nat.eq_of_beq_eq_true hb
      subst this
      exact hs.1
    | false => rw [hb] at h; exact Env.sub_get hs.2 k v h
theorem FS.sub {D : List Deferred} {R : Seal} {a : Act} {t : Env} (h : FS D n R env a) (hs : Env.sub env t) : FS D n R t a :=
  ⟨fun k v x => h.fr k v (Env.sub_get hs k v x), h.size, h.defers⟩
theorem aw_sub {c : Code} {env' : Env} (hs : Env.sub env env') (h : AWp P C n c env' H Q) : AWp P C n c env H Q :=
  fun R a w hm hf => h R a w hm (hf.sub hs)

/-- A loop: 'I' tells the state by what runs along, 'Inv' what holds of it, 'μ' goes down. -/
theorem aw_loop {c : Code} {X : Type} (I : X → Env) (J : X → Heap) (Inv : X → Prop) (μ : X → Nat) (x0 : X) (h0 : Inv x0) (hs : Env.sub env (I x0)) (hH : H = J x0)
    (round : ∀ x, Inv x → AWp P C n c (I x) (J x) (thenQ (fun e h => ∃ x', Inv x' ∧ μ x' < μ x ∧ Env.sub e (I x') ∧ h = J x') Q)) :
    AWp P C n (.loop c) env H Q := by
  subst hH
  intro R a w hm hf
  refine wp_loop_ghost (fun m a w => ∃ x R, Inv x ∧ μ x = m ∧ MS C R (J x) w ∧ FS C.D n R (I x) a) (μ x0) ⟨x0, R, h0, rfl, hm, hf.sub hs⟩ ?_
  rintro m a w ⟨x, R, hx, rfl, hm, hf⟩
  refine wp_mono (round x hx R a w hm hf) ?_
  rintro e a' w' ⟨x', en, H', R', q, er, hm', hf'⟩
  cases x' with
  | normal =>
    simp only [ExitRel] at er; subst er
    obtain ⟨x', hx', hlt, hs', rfl⟩ := q
    exact ⟨μ x', hlt, x', R', hx', rfl, hm', hf'.sub hs'⟩
  | exit i => simp only [ExitRel] at er; subst er; exact ⟨.exit i, en, H', R', q, rfl, hm', hf'⟩
  | goto i => simp only [ExitRel] at er; subst er; exact ⟨.goto i, en, H', R', q, rfl, hm', hf'⟩
  | ret => simp only [ExitRel] at er; subst er; exact ⟨.ret, en, H', R', q, rfl, hm', hf'⟩
  | panic v => obtain ⟨y, rfl, hr⟩ := er; exact ⟨.panic v, en, H', R', q, ⟨y, rfl, hr⟩, hm', hf'⟩

/-- So many rounds at most. -/
def ARounds (P : Program) (C : Ctx) (n : Nat) (c : Code) (Q : AExit → Env → Heap → Prop) : Nat → Env → Heap → Prop
  | 0, _, _ => False
  | k + 1, e, h => AWp P C n c e h (thenQ (ARounds P C n c Q k) Q)
theorem aw_rounds {c : Code} (k : Nat) (h : ARounds P C n c Q k env H) : AWp P C n (.loop c) env H Q := by
  intro R a w hm hf
  refine wp_loop_rounds k ?_
  induction k generalizing env H R a w with
  | zero => exact h.elim
  | succ k ih =>
    rw [rounds_succ]
    refine wp_mono (h R a w hm hf) ?_
    rintro e a' w' ⟨x', en, H', R', q, er, hm', hf'⟩
    cases x' with
    | normal => simp only [ExitRel] at er; subst er; exact ih q R' a' w' hm' hf'
    | exit i => simp only [ExitRel] at er; subst er; exact ⟨.exit i, en, H', R', q, rfl, hm', hf'⟩
    | goto i => simp only [ExitRel] at er; subst er; exact ⟨.goto i, en, H', R', q, rfl, hm', hf'⟩
    | ret => simp only [ExitRel] at er; subst er; exact ⟨.ret, en, H', R', q, rfl, hm', hf'⟩
    | panic v => obtain ⟨y, rfl, hr⟩ := er; exact ⟨.panic v, en, H', R', q, ⟨y, rfl, hr⟩, hm', hf'⟩
theorem ar_succ {c : Code} {k : Nat} (h : AWp P C n c env H (thenQ (ARounds P C n c Q k) Q)) : ARounds P C n c Q (k + 1) env H := h
theorem thenQ_ar {c : Code} {k : Nat} (h : ARounds P C n c Q k env H) : thenQ (ARounds P C n c Q k) Q .normal env H := h
end
end Go.Proofs.YtlmihggafbmkaaaGreatDoor
