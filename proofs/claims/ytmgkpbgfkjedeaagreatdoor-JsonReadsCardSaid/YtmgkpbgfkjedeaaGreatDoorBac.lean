/- Parts of the proof of jsonReads_card: Exe, Mp, Exf. -/
import Derived.Carry
import Derived.Test.YtmgkpbgfkjedeaaGreatDoorBab
set_option linter.unusedVariables false
set_option linter.unusedSimpArgs false
namespace Go.Proofs.YtmgkpbgfkjedeaaGreatDoor
open Go
set_option linter.unusedSimpArgs false
set_option linter.unusedSectionVars false
set_option linter.unusedVariables false
/-! ## What is left to be shown, at the walk's stops -/
/-- p is to be shown. -/
structure Sp (p k : Prop) : Prop where
  p : p
  k : k
/-- The way parts. -/
structure Sc (b : Bool) (t f : Prop) : Prop where
  t : b = true → t
  f : b = false → f
theorem sc_true {t f : Prop} (h : t) : Sc true t f := ⟨fun _ => h, fun e => by cases e⟩
theorem sc_false {t f : Prop} (h : f) : Sc false t f := ⟨fun e => (by cases e), fun _ => h⟩
theorem sc_lt {x y : Int} {t f : Prop} (ht : x < y → t) (hf : y ≤ x → f) : Sc (ltB x y) t f := ⟨fun e => ht (ltB_t.1 e), fun e => hf (ltB_f.1 e)⟩
theorem sc_nlt {x y : Int} {t f : Prop} (ht : y ≤ x → t) (hf : x < y → f) : Sc (!ltB x y) t f := ⟨fun e => ht (ltB_f.1 (by simpa using e)), fun e => hf (ltB_t.1 (by simpa using e))⟩
theorem sc_eq {x y : Int} {t f : Prop} (ht : x = y → t) (hf : x ≠ y → f) : Sc (eqB x y) t f := ⟨fun e => ht (eqB_t.1 e), fun e => hf (eqB_f.1 e)⟩
theorem sc_neq {x y : Int} {t f : Prop} (ht : x ≠ y → t) (hf : x = y → f) : Sc (!eqB x y) t f := ⟨fun e => ht (eqB_f.1 (by simpa using e)), fun e => hf (eqB_t.1 (by simpa using e))⟩
theorem sc_nil {x : List UInt8} {t f : Prop} (ht : x.length = 0 → t) (hf : x.length ≠ 0 → f) : Sc (seqB x []) t f := ⟨fun e => ht (by have := seqB_t.1 e; subst this; rfl), fun e => hf (fun h => (seqB_f.1 e) (List.eq_nil_of_length_eq_zero h))⟩
theorem sc_nnil {x : List UInt8} {t f : Prop} (ht : x.length ≠ 0 → t) (hf : x.length = 0 → f) : Sc (!seqB x []) t f := by
  refine ⟨fun e => ht fun h => ?_, fun e => hf ?_⟩
  · exact (seqB_f.1 (by simpa using e)) (List.eq_nil_of_length_eq_zero h)
  · have e : seqB x [] = true := by simpa using e
    have := seqB_t.1 e
    subst this
    rfl
theorem sc_seq {x y : List UInt8} {t f : Prop} (ht : x = y → t) (hf : x ≠ y → f) : Sc (seqB x y) t f := ⟨fun e => ht (seqB_t.1 e), fun e => hf (seqB_f.1 e)⟩
theorem sc_nseq {x y : List UInt8} {t f : Prop} (ht : x ≠ y → t) (hf : x = y → f) : Sc (!seqB x y) t f := ⟨fun e => ht (seqB_f.1 (by simpa using e)), fun e => hf (seqB_t.1 (by simpa using e))⟩
theorem sc_not {b : Bool} {t f : Prop} (h : Sc b f t) : Sc (!b) t f := ⟨fun e => h.2 (by simpa using e), fun e => h.1 (by simpa using e)⟩
theorem sc_or {a b : Bool} {t f : Prop} (h : Sc a t (Sc b t f)) : Sc (a || b) t f := by
  cases a
  · exact ⟨fun e => (h.2 rfl).1 (by simpa using e), fun e => (h.2 rfl).2 (by simpa using e)⟩
  · exact ⟨fun _ => h.1 rfl, fun e => by simp at e⟩
theorem sc_i {b : Bool} {t f : Prop} (ht : b = true → t) (hf : b = false → f) : Sc b t f := ⟨ht, hf⟩
/-- A place: whole numbers that are naturals are shown so. -/
structure Ix (i : Int) (m : Nat) (K : Nat → Prop) : Prop where
  p : 0 ≤ i ∧ i < m
  k : K i.toNat
theorem ix_nat {i m : Nat} {K : Nat → Prop} (h : i < m) (k : K i) : Ix (i : Int) m K := ⟨⟨by omega, by omega⟩, by simpa using k⟩
theorem ix_int {i : Int} {m : Nat} {K : Nat → Prop} (h : 0 ≤ i ∧ i < m) (k : K i.toNat) : Ix i m K := ⟨h, k⟩
/-- Both bounds of a slice. -/
structure Sl (i j : Int) (m : Nat) (K : Nat → Nat → Prop) : Prop where
  p : 0 ≤ i ∧ i ≤ j ∧ j ≤ m
  k : K i.toNat j.toNat
theorem sl_nat {i j m : Nat} {K : Nat → Nat → Prop} (h : i ≤ j ∧ j ≤ m) (k : K i j) : Sl (i : Int) (j : Int) m K := ⟨⟨by omega, by omega, by omega⟩, by simpa using k⟩
theorem sl_int {i j : Int} {m : Nat} {K : Nat → Nat → Prop} (h : 0 ≤ i ∧ i ≤ j ∧ j ≤ m) (k : K i.toNat j.toNat) : Sl i j m K := ⟨h, k⟩
/-- Known of a byte of a text. -/
structure Bx (s : List UInt8) (i : Nat) (k : Prop) : Prop where
  h : byteAt s i < 256 → k
theorem bx_i {s : List UInt8} {i : Nat} {k : Prop} (h : byteAt s i < 256 → k) : Bx s i k := ⟨h⟩
/-- A call. -/
inductive Cx (P : Program) (G : Glo) (f : FuncId) (avs : List AVal) (H : Heap) (K : AVal → Heap → Prop) (Kp : AVal → Heap → Prop) : Prop
  | mk (Qf : ARes → Heap → Prop) (hs : FnSpec P G f avs H Qf) (hr : ∀ v H', Qf (.ret v) H' → K v H') (hp : ∀ v H', Qf (.panic v) H' → Kp v H')
/-- For whatever block. -/
structure Ab (K : Nat → Prop) : Prop where
  h : ∀ bl, K bl
structure Av (K : Value → Prop) : Prop where
  h : ∀ v, K v
structure Ac (p : Nat → Prop) (K : Nat → Nat → Prop) : Prop where
  h : ∀ bl cap, p cap → K bl cap
theorem ab_i {K : Nat → Prop} (h : ∀ bl, K bl) : Ab K := ⟨h⟩
/-- A row that is not empty lies somewhere. -/
def RowV (m : Nat) (a : Option Addr) (k : Nat) : Prop := 0 < m → ∃ b, a = some ⟨b, 0, none⟩ ∧ k = m
/-- For every slice. -/
structure As (m : Nat) (K : Value → Prop) : Prop where
  h : ∀ (a : Option Addr) (n c : Nat), RowV m a n → K (.slice a n c)
theorem as_i {m : Nat} {K : Value → Prop} (h : ∀ (a : Option Addr) (n c : Nat), RowV m a n → K (.slice a n c)) : As m K := ⟨h⟩
theorem av_i {K : Value → Prop} (h : ∀ v, K v) : Av K := ⟨h⟩
theorem ac_i {p : Nat → Prop} {K : Nat → Nat → Prop} (h : ∀ bl cap, p cap → K bl cap) : Ac p K := ⟨h⟩
/-- Two roads at choice. -/
inductive Ch (a b : Prop) : Prop
  | inl (h : a)
  | inr (h : b)
inductive Bo (a b : Prop) : Prop
  | inl (h : a)
  | inr (h : b)
theorem bo_l {a b : Prop} (h : a) : Bo a b := .inl h
theorem bo_r {a b : Prop} (h : b) : Bo a b := .inr h
/-- An interface value asked for an interface. -/
inductive Ia (P : Program) (ty : TypeId) (S T : TypeId) (a b : Prop) : Prop
  | hit (h : ∀ v w, (Instr.typeAssert (.iface ty v) S T true).run P w = .ok (.tuple #[.iface ty v, .bool true]) w) (k : a)
  | miss (h : ∀ v w, (Instr.typeAssert (.iface ty v) S T true).run P w = .ok (.tuple #[.nilIface, .bool false]) w) (k : b)
/-- A cell of a row. -/
inductive Gt (cs : List AVal) (o : Nat) (K : AVal → Prop) : Prop
  | mk (a : AVal) (h : cs[o]? = some a) (ha : a.isAgg = false) (k : K a)
inductive Gs (cs : List AVal) (o sz : Nat) (K : List AVal → Prop) : Prop
  | mk (c : List AVal) (h : (cs.drop o).take sz = c) (k : K c)
theorem gt_i {cs : List AVal} {o : Nat} {K : AVal → Prop} {a : AVal} (h : cs[o]? = some a) (ha : a.isAgg = false) (k : K a) : Gt cs o K := .mk a h ha k
theorem ch_r {a b : Prop} (h : b) : Ch a b := .inr h
/-! ## Lists written out -/
def forceL {β : Type} : List AVal → (List AVal → β) → β
  | [], k => k []
  | c :: cs, k => forceL cs (fun r => k (c :: r))
theorem forceL_eq {β : Type} : ∀ (l : List AVal) (k : List AVal → β), forceL l k = k l
  | [], _ => rfl
  | _ :: cs, k => forceL_eq cs _
def forceH {β : Type} : Heap → (Heap → β) → β
  | [], k => k []
  | c :: cs, k => forceH cs (fun r => k (c :: r))
theorem forceH_eq {β : Type} : ∀ (l : Heap) (k : Heap → β), forceH l k = k l
  | [], _ => rfl
  | _ :: cs, k => forceH_eq cs _
/-! ## Operations that leave memory as it is -/
/-- What an operation comes to: K is asked of its value. -/
abbrev Xf := (AVal → Prop) → Prop
def kix : IntKind → Nat
  | .i8 => 0 | .i16 => 1 | .i32 => 2 | .i64 => 3 | .u8 => 4 | .u16 => 5 | .u32 => 6 | .u64 => 7
theorem kix_eq {k j : IntKind} (h : Nat.beq (kix k) (kix j) = true) : j = k := by
  have := Nat.eq_of_beq_eq_true h
  cases k <;> cases j <;> simp [kix] at this <;> rfl
def maskL : List (Nat × Nat × Int) := [(1, 1, 2), (3, 2, 4), (7, 3, 8), (15, 4, 16), (31, 5, 32), (63, 6, 64), (127, 7, 128), (255, 8, 256), (1023, 10, 1024), (4095, 12, 4096), (65535, 16, 65536)]
def maskE (c : Nat) : List (Nat × Nat × Int) → Option (Nat × Int)
  | [] => none
  | (m, e, q) :: r => match Nat.beq m c with
    | true => some (e, q)
    | false => maskE c r
theorem maskE_ok {c e : Nat} {q : Int} (h : maskE c maskL = some (e, q)) : c = 2 ^ e - 1 ∧ nth pwL e = some q := by
  have key : ∀ l : List (Nat × Nat × Int), (∀ x ∈ l, x.1 = 2 ^ x.2.1 - 1 ∧ nth pwL x.2.1 = some x.2.2) → maskE c l = some (e, q) → c = 2 ^ e - 1 ∧ nth pwL e = some q := by
    intro l
    induction l with
    | nil => intro _ h; simp [maskE] at h
    | cons x r ih =>
      obtain ⟨m, e', q'⟩ := x
      intro hl h
      simp only [maskE] at h
      split at h
      · rename_i hb
        have := Nat.eq_of_beq_eq_true hb
        simp only [Option.some.injEq, Prod.mk.injEq] at h
        obtain ⟨rfl, rfl⟩ := h
        have h1 := hl (m, e', q') (by simp)
        exact ⟨by rw [← this]; exact h1.1, h1.2⟩
      · exact ih (fun x hx => hl x (by simp [hx])) h
  exact key maskL (by decide) h
/-- Bits that lie apart. -/
def OrOk (m q : Int) : Prop := (m % 16 = 0 ∧ q < 16) ∨ (m % 64 = 0 ∧ q < 64) ∨ (m % 256 = 0 ∧ q < 256) ∨ (m % 4096 = 0 ∧ q < 4096) ∨ (m % 262144 = 0 ∧ q < 262144)
def genI (op : BinOp) (k : IntKind) (m q : Int) (F : Prop) : Xf := fun K =>
  match intBin op k m q with
  | some av => K av
  | none => F
def binInt (op : BinOp) (k : IntKind) (m q : Int) (y : Operand) (F : Prop) : Xf := fun K =>
  match boundsK k with
  | (lo, hi) => match op with
    | .add => Ch (Sp (lo ≤ m + q ∧ m + q ≤ hi) (K (.int k (m + q)))) (K (.int k (k.wrap (m + q))))
    | .sub => Ch (Sp (lo ≤ m - q ∧ m - q ≤ hi) (K (.int k (m - q)))) (K (.int k (k.wrap (m - q))))
    | .mul => Ch (Sp (lo ≤ m * q ∧ m * q ≤ hi) (K (.int k (m * q)))) (K (.int k (k.wrap (m * q))))
    | .quo => Sp (0 ≤ m ∧ 0 < q ∧ m ≤ hi) (K (.int k (m / q)))
    | .rem => Ch (Sp (0 ≤ m ∧ 0 < q) (K (.int k (m % q)))) (Sp (0 < q) (K (.int k (m.tmod q))))
    | .or => Ch (Sp (0 ≤ m ∧ 0 ≤ q ∧ m + q ≤ hi ∧ OrOk m q) (K (.int k (m + q)))) (genI .or k m q F K)
    | .and => match y with
      | .const (.int _ (.ofNat c)) => match maskE c maskL with
        | some (e, c') => match Nat.ble (e + 1) k.bits with
          | true => Ch (Sp (0 ≤ m ∧ m ≤ hi) (K (.int k (m % c')))) (genI .and k m q F K)
          | false => F
        | none => genI .and k m q F K
      | _ => Ch (Sp (0 ≤ m ∧ 0 ≤ q ∧ m ≤ hi ∧ q ≤ hi) (K (.int k ((m.toNat &&& q.toNat : Nat) : Int)))) (genI .and k m q F K)
    | op => match cmpBin op m q with
      | some av => K av
      | none => genI op k m q F K
def shiftX (op : BinOp) (k : IntKind) (m : Int) (y : Operand) (F : Prop) : Xf := fun K =>
  match y with
  | .const (.int _ (.ofNat s)) => match nth pwL s with
    | some c => match Nat.ble s k.bits with
      | true => match boundsK k with
        | (lo, hi) => match op with
          | .shl => Ch (Sp (lo ≤ m * c ∧ m * c ≤ hi) (K (.int k (m * c)))) (K (.int k (k.wrap (m * c))))
          | .shr => K (.int k (m / c))
          | _ => F
      | false => F
    | none => F
  | _ => F
def isShift : BinOp → Bool
  | .shl => true
  | .shr => true
  | _ => false
section
variable (P : Program) [Tab P]
def binX (env : Env) (op : BinOp) (tx : TypeId) (x y : Operand) (F : Prop) : Xf := fun K =>
  match evalA env x with
  | some (.int k m) => match isShift op with
    | true => shiftX op k m y F K
    | false => match evalA env y with
      | some (.int j q) => match Nat.beq (kix k) (kix j) with
        | true => binInt op k m q y F K
        | false => F
      | _ => F
  | some (.str s) => match evalA env y with
    | some (.str t) => match op with
      | .add => Sp (s.length + t.length ≤ 9223372036854775807) (K (.str (s ++ t)))
      | _ => match strBin op s t with
        | some av => K av
        | none => F
    | _ => F
  | some (.bool a) => match evalA env y with
    | some (.bool c) => match tab P tx with
      | some xT => match xT.desc, op with
        | .bool, .eql => K (.bool (a == c))
        | _, _ => F
      | none => F
    | _ => F
  | some a => match y with
    | .const z => match tab P tx with
      | some xT => match isNilA xT.desc a, nilOf xT.desc with
        | some c, some z' => match op with
          | .eql => Sp (z' = z) (K (.bool c))
          | .neq => Sp (z' = z) (K (.bool (!c)))
          | _ => F
        | _, _ => F
      | none => F
    | _ => F
  | none => F
/-- Up to a place. -/
def lenX (env : Env) (H : Heap) (T : TypeId) (x : Operand) (F : Prop) : Xf := fun K =>
  match tab P T with
  | some xT => match evalA env x, xT.desc with
    | some (.str m), .string => K (.int .i64 (m.length : Int))
    | some (.list _ m _), .slice _ => K (.int .i64 (m : Int))
    | some (.raw (.slice _ m _)), .slice _ => K (.int .i64 (m : Int))
    | some (.own i v), .slice _ => match H[i]? with
      | some (.row v' eT _ m _) => Sp (v' = v) (K (.int .i64 (m : Int)))
      | _ => match v with
        | .slice _ m _ => K (.int .i64 (m : Int))
        | _ => F
    | _, _ => F
  | none => F
def minmaxX (env : Env) (mx : Bool) (x y : Operand) (F : Prop) : Xf := fun K =>
  match evalA env x, evalA env y with
  | some (.int k m), some (.int j q) => match Nat.beq (kix k) (kix j), mx with
    | true, false => K (.int k (min m q))
    | true, true => K (.int k (max m q))
    | _, _ => F
  | _, _ => F
def builtX (env : Env) (H : Heap) (b : Builtin) (args : List Operand) (ts : List TypeId) (F : Prop) : Xf := fun K =>
  match b, args, ts with
  | .len, [x], [T] => lenX P env H T x F K
  | .min, [x, y], _ => minmaxX env false x y F K
  | .max, [x, y], _ => minmaxX env true x y F K
  | _, _, _ => F
/-- From a place on, up to a place. -/
structure Sd (i : Int) (m : Nat) (K : Nat → Prop) : Prop where
  p : 0 ≤ i ∧ i ≤ m
  k : K i.toNat
def intA (env : Env) (x : Operand) (F : Prop) (K : Int → Prop) : Prop :=
  match evalA env x with
  | some (.int _ i) => K i
  | _ => F
def boundsX (env : Env) (m : Nat) (lo hi : Option Operand) (F : Prop) (K0 : Prop) (Kf Kt : Nat → Prop) (K : Nat → Nat → Prop) : Prop :=
  match lo, hi with
  | none, none => K0
  | some a, none => intA env a F fun i => Sd i m Kf
  | none, some b => intA env b F fun j => Sd j m Kt
  | some a, some b => intA env a F fun i => intA env b F fun j => Sl i j m K
def sliceX (env : Env) (T : TypeId) (x : Operand) (lo hi mx : Option Operand) (F : Prop) : Xf := fun K =>
  match mx with
  | some _ => F
  | none => match tab P T with
    | some xT => match evalA env x, xT.desc with
      | some (.str m), .string => boundsX env m.length lo hi F (K (.str m)) (fun i => K (.str (m.drop i))) (fun j => K (.str (m.take j))) (fun i j => K (.str ((m.take j).drop i)))
      | some (.list sz m f), .slice e => match tab P e with
        | some xe => match Nat.beq xe.size sz with
          | true => boundsX env m lo hi F (K (.list sz m f)) (fun i => K (.list sz (m - i) (fun k => f (i + k)))) (fun j => K (.list sz j f)) (fun i j => K (.list sz (j - i) (fun k => f (i + k))))
          | false => F
        | none => F
      | _, _ => F
    | none => F
def indexX (env : Env) (T : TypeId) (x y : Operand) (F : Prop) : Xf := fun K =>
  match tab P T with
  | some xT => match evalA env x, xT.desc with
    | some (.str m), .string => intA env y F fun i => Ix i m.length fun j => Bx m j (K (.int .u8 (byteAt m j : Int)))
    | _, _ => F
  | none => F
def gloGet : List (Nat × List AVal) → Nat → Option (List AVal)
  | [], _ => none
  | (g, cs) :: r, k => match Nat.beq g k with
    | true => some cs
    | false => gloGet r k
def cellX (ag : Bool) (sz : Nat) (cs : List AVal) (o : Nat) (F : Prop) : Xf := fun K =>
  match ag with
  | true => match Nat.ble (o + sz) cs.length with
    | true => forceL ((cs.drop o).take sz) fun c => K (.agg c)
    | false => F
  | false => match cs[o]? with
    | some av => match av.isAgg with
      | false => K av
      | true => F
    | none => F
def loadX (GL : List (Nat × List AVal)) (env : Env) (H : Heap) (T : TypeId) (x : Operand) (F : Prop) : Xf := fun K =>
  match tab P T with
  | some xT => match x with
    | .global g => match gloGet GL g with
      | some cs => cellX (descAgg xT.desc) xT.size cs 0 F K
      | none => F
    | _ => match evalA env x with
      | some (.rop cs off) => cellX (descAgg xT.desc) xT.size cs off F K
      | some (.own i (.pointer (some ⟨b, o, none⟩))) => match H[i]? with
        | some (.cells b' eT cs) => Sp (b' = b) (cellX (descAgg xT.desc) xT.size cs o F K)
        | some (.buf b' s _) => match descAgg xT.desc with
          | false => Sp (b' = b ∧ o < s.length) (Bx s o (K (.int .u8 (byteAt s o : Int))))
          | true => F
        | some (.row v' _ sz n cs) => match descAgg xT.desc with
          | false => Sp (RowAt v' b n ∧ o < n * sz) (Gt cs o K)
          | true => Sp (RowAt v' b n ∧ o + xT.size ≤ n * sz ∧ 0 < n) (Gs cs o xT.size fun c => K (.agg c))
        | _ => F
      | _ => F
  | none => F
def fieldAddrX (env : Env) (T : TypeId) (x : Operand) (k : Nat) (F : Prop) : Xf := fun K =>
  match tab P T with
  | some xT => match xT.desc with
    | .struct fs => match fs[k]? with
      | some f => match tab P f.type with
        | some xf => match Nat.ble 1 xf.size with
          | true => match evalA env x with
            | some (.rop cs off) => K (.rop cs (off + f.offset))
            | some (.own i (.pointer (some ⟨b, o, none⟩))) => K (.own i (.pointer (some ⟨b, o + f.offset, none⟩)))
            | _ => F
          | false => F
        | none => F
      | none => F
    | _ => F
  | none => F
def elemX (a : AVal) (F : Prop) : Xf := fun K =>
  match a with
  | .agg cs => forceL cs fun c => K (.rop c 0)
  | .raw (.agg _) => F
  | a => K (.rop [a] 0)
def indexAddrX (GL : List (Nat × List AVal)) (env : Env) (T : TypeId) (x y : Operand) (F : Prop) : Xf := fun K =>
  match tab P T with
  | some xT => match xT.desc with
    | .slice e => match tab P e with
      | some xe => match evalA env x with
        | some (.list sz m f) => match Nat.beq xe.size sz with
          | true => intA env y F fun i => Ix i m fun j => elemX (f j) F K
          | false => F
        | some (.own i (.slice (some ⟨b, 0, none⟩) m _)) => match Nat.beq xe.size 1 with
          | true => intA env y F fun k => Ix k m fun j => K (.own i (.pointer (some ⟨b, j, none⟩)))
          | false => intA env y F fun k => Ix k m fun j => K (.own i (.pointer (some ⟨b, j * xe.size, none⟩)))
        | _ => F
      | none => F
    | .array len e => match tab P e with
      | some xe => match x with
        | .global g => match gloGet GL g with
          | some cs => intA env y F fun i => Ix i len fun j => K (.rop cs (j * xe.size))
          | none => F
        | _ => match evalA env x with
          | some (.own i (.pointer (some ⟨b, o, none⟩))) => intA env y F fun k => Ix k len fun j => K (.own i (.pointer (some ⟨b, o + j * xe.size, none⟩)))
          | some (.rop cs off) => intA env y F fun k => Ix k len fun j => K (.rop cs (off + j * xe.size))
          | _ => F
      | none => F
    | _ => F
  | none => F
def fieldX (env : Env) (T : TypeId) (x : Operand) (k : Nat) (F : Prop) : Xf := fun K =>
  match tab P T with
  | some xT => match xT.desc with
    | .struct fs => match fs[k]? with
      | some f => match tab P f.type with
        | some xf => match evalA env x with
          | some (.agg cs) => match descAgg xf.desc with
            | true => forceL ((cs.drop f.offset).take xf.size) fun c => K (.agg c)
            | false => match cs[f.offset]? with
              | some av => match av.isAgg with
                | false => K av
                | true => F
              | none => F
          | _ => F
        | none => F
      | none => F
    | _ => F
  | none => F
def nilCheckX (env : Env) (x : Operand) (F : Prop) : Xf := fun K =>
  match evalA env x with
  | some (.rop cs off) => K (.rop cs off)
  | some (.own i (.pointer (some a))) => K (.own i (.pointer (some a)))
  | _ => F
def convX (env : Env) (H : Heap) (S T : TypeId) (x : Operand) (F : Prop) : Xf := fun K =>
  match tab P S, tab P T with
  | some xS, some xT => match evalA env x with
    | some (.int k m) => match xT.desc with
      | .int j => match boundsK j with
        | (lo, hi) => Ch (Sp (lo ≤ m ∧ m ≤ hi) (K (.int j m))) (K (.int j (j.wrap m)))
      | _ => F
    | some (.own i (.slice (some ⟨b, 0, none⟩) m _)) => match xS.desc, xT.desc with
      | .slice e, .string => match tab P e with
        | some xe => match xe.desc with
          | .int .u8 => match H[i]? with
            | some (.buf b' s _) => Sp (b' = b ∧ m = s.length) (K (.str s))
            | _ => F
          | _ => F
        | none => F
      | _, _ => F
    | _ => F
  | _, _ => F
def buildX (env : Env) (T : TypeId) (l : List (Nat × Operand)) (F : Prop) : Xf := fun K =>
  match tab P T with
  | some xT => match xT.desc with
    | .struct fs => match partsA env l, placesA P fs.toList, zeroCellsA xT.zero with
      | some ps, some pl, some z => match fillA pl z ps with
        | some cs => forceL cs fun c => K (.agg c)
        | none => F
      | _, _, _ => F
    | .array m e => match partsA env l, tab P e, zeroCellsA xT.zero with
      | some ps, some xe, some z => match fillA (arrPl m 0 xe.size) z ps with
        | some cs => forceL cs fun c => K (.agg c)
        | none => F
      | _, _, _ => F
    | _ => F
  | none => F
def ifaceX (env : Env) (T : TypeId) (x : Operand) (F : Prop) : Xf := fun K =>
  match tab P T, evalA env x with
  | some xT, some v => match descIface xT.desc with
    | false => K (.iface T v)
    | true => F
  | _, _ => F
def assertX (env : Env) (x : Operand) (S T : TypeId) (ok : Bool) (F : Prop) : Xf := fun K =>
  match ok, tab P T with
  | true, some xT => match evalA env x with
    | some (.iface ty v) => match descIface xT.desc, Nat.beq ty T with
      | false, true => K (.tuple [v, .bool true])
      | false, false => match zeroA xT.zero with
        | some z => K (.tuple [z, .bool false])
        | none => F
      | true, _ => Ia P ty S T (K (.tuple [.iface ty v, .bool true])) (K (.tuple [.raw .nilIface, .bool false]))
    | some (.raw .nilIface) => match zeroA xT.zero with
      | some z => K (.tuple [z, .bool false])
      | none => F
    | _ => F
  | _, _ => F
def valX (GL : List (Nat × List AVal)) (env : Env) (H : Heap) (op : Op) (F : Prop) : Xf := fun K =>
  match op with
  | .move x | .assign x => match evalA env x with
    | some av => K av
    | none => F
  | .pick c x y => match evalA env c, evalA env x, evalA env y with
    | some (.bool b), some a, some a' => Sc b (K a) (K a')
    | _, _, _ => F
  | .binOp op tx x y _ => binX P env op tx x y F K
  | .unOp .not _ x => match evalA env x with
    | some (.bool b) => K (.bool (!b))
    | _ => F
  | .unOp .neg _ x => match evalA env x with
    | some (.int k m) => match boundsK k with
      | (lo, hi) => Sp (lo ≤ 0 - m ∧ 0 - m ≤ hi) (K (.int k (0 - m)))
    | _ => F
  | .call ⟨.builtin b, args, ts⟩ => builtX P env H b args.toList ts.toList F K
  | .extract x i => match evalA env x with
    | some (.tuple cs) => match cs[i]? with
      | some av => K av
      | none => F
    | _ => F
  | .index T x y => indexX P env T x y F K
  | .slice T x lo hi mx => sliceX P env T x lo hi mx F K
  | .load T x => loadX P GL env H T x F K
  | .fieldAddr T x k => fieldAddrX P env T x k F K
  | .field T x k => fieldX P env T x k F K
  | .indexAddr T x y => indexAddrX P GL env T x y F K
  | .nilCheck x => nilCheckX env x F K
  | .convert S T x => convX P env H S T x F K
  | .build T l => buildX P env T l.toList F K
  | .makeInterface T x => ifaceX P env T x F K
  | .makeFunc fn l1 l2 => match argsA env l1.toList, argsA env l2.toList with
    | some a1, some a2 => K (.func fn a1 a2)
    | _, _ => F
  | .typeAssert x S T ok => assertX P env x S T ok F K
  | _ => F
end
theorem sd_nat {i m : Nat} {K : Nat → Prop} (h : i ≤ m) (k : K i) : Sd (i : Int) m K := ⟨⟨by omega, by omega⟩, by simpa using k⟩
theorem sd_int {i : Int} {m : Nat} {K : Nat → Prop} (h : 0 ≤ i ∧ i ≤ m) (k : K i.toNat) : Sd i m K := ⟨h, k⟩
/-! ### Why that is enough -/
section
variable {P : Program} [Tab P] {C : Ctx} {n : Nat} {env : Env} {H : Heap} {F : Prop} {K : AVal → Prop}
variable {av : AVal} {x y : Operand} {T : TypeId} {xT : TI} {tx ty : TypeId}
/-- Known of the package-level variables. -/
def GloAll (G : Glo) (GL : List (Nat × List AVal)) : Prop := ∀ g cs, gloGet GL g = some cs → GloAt G g cs
theorem gloAll_nil {G : Glo} : GloAll G [] := fun _ _ h => by simp [gloGet] at h
theorem rv_shadow {op : Op} {s i : Nat} {v : Value} (hs : Env.get env s = some (.own i v)) (h : RunV P C H ((s, .raw v) :: env) op av) : RunV P C H env op av := by
  intro R ρ w hm hf
  refine h R ρ w hm fun x a hx => ?_
  cases x with
  | tmp t =>
    simp only [evalA, Env.get] at hx
    split at hx
    · rename_i hb
      have := Nat.eq_of_beq_eq_true hb
      subst this
      simp only [Option.some.injEq] at hx
      subst hx
      exact rel_raw.2 (rel_own.1 (hf (.tmp s) _ hs)).1
    · exact hf (.tmp t) a hx
  | const c => rw [evalA_const] at hx; exact hf (.const c) a (by rw [evalA_const]; exact hx)
  | global g => exact hf (.global g) a hx
  | func f => exact hf (.func f) a hx
/-- What is owned stands in a slot. -/
theorem own_tmp {i : Nat} {v : Value} (h : evalA env x = some (.own i v)) : ∃ s, x = .tmp s ∧ Env.get env s = some (.own i v) := by
  cases x with
  | tmp t => exact ⟨t, rfl, h⟩
  | const c => cases c <;> simp [evalA, ofV, forceB_eq] at h
  | global g => simp [evalA] at h
  | func f => simp [evalA] at h
theorem get_hit {s : Nat} {a : AVal} : Env.get ((s, a) :: env) s = some a := by simp [Env.get]
theorem rv_move (hx : evalA env x = some av) : RunV P C H env (.move x) av := fun R ρ w hm hf _ _ _ _ _ => ⟨ρ x, rfl, hf _ _ hx⟩
theorem rv_assign (hx : evalA env x = some av) : RunV P C H env (.assign x) av := fun R ρ w hm hf _ _ _ _ _ => ⟨ρ x, rfl, hf _ _ hx⟩
theorem rv_pick {c : Operand} {b : Bool} {a a' : AVal} (hc : evalA env c = some (.bool b)) (hx : evalA env x = some a) (hy : evalA env y = some a') : RunV P C H env (.pick c x y) (if b then a else a') := by
  intro R ρ w hm hf _ _ _ _ _
  have := rel_bool.1 (hf _ _ hc)
  cases b
  · exact ⟨ρ y, by simp only [execOp, this, asBool]; rfl, hf _ _ hy⟩
  · exact ⟨ρ x, by simp only [execOp, this, asBool]; rfl, hf _ _ hx⟩
theorem fits_of {k : IntKind} {m lo hi : Int} (hk : boundsK k = (lo, hi)) (h : lo ≤ m ∧ m ≤ hi) : Fits k m := fitsK hk h.1 h.2
theorem rv_mask {k : IntKind} {j : IntKind} {m c : Int} {e : Nat} (hx : evalA env x = some (.int k m)) (hj : j = k) (hm : 0 ≤ m) (hm' : Fits k m) (he : Nat.ble (e + 1) k.bits = true) (hc : nth pwL e = some c) :
    RunV P C H env (.binOp .and tx x (.const (.int j (Int.ofNat (2 ^ e - 1)))) ty) (.int k (m % c)) := by
  subst hj
  have he := Nat.le_of_ble_eq_true he
  have hq : Fits j (Int.ofNat (2 ^ e - 1)) := by
    have hp : 0 < 2 ^ e := Nat.pow_pos (by omega)
    have key : ∀ b, e + 1 ≤ b → 2 ^ e ≤ 2 ^ (b - 1) := fun b hb => Nat.pow_le_pow_right (by omega) (by omega)
    have := key _ he
    cases j <;> simp only [IntKind.bits] at this he <;> simp only [Fits, Int.ofNat_eq_natCast] <;> first | omega | (have : 2 ^ e ≤ 2 ^ 8 := Nat.pow_le_pow_right (by omega) (by omega)
                                                                                                                      omega)
  have e1 : ((m.toNat &&& (Int.ofNat (2 ^ e - 1)).toNat : Nat) : Int) = m % (2 ^ e : Nat) := by
    obtain ⟨a, rfl⟩ := Int.eq_ofNat_of_zero_le hm
    simp only [Int.toNat_natCast, Int.ofNat_eq_natCast, Nat.and_two_pow_sub_one_eq_mod]
    simp
  refine rv_int hx (show evalA env (.const (.int j (Int.ofNat (2 ^ e - 1)))) = _ from rfl) ?_
  rw [intBin, bits_nn (fun _ a c => a &&& c) (· &&& ·) (fun a c => by simp) (fun a c e h1 h2 => Nat.and_lt_two_pow a h2) hm (by simp) hm' hq, e1, pw_ok hc]
theorem rv_or_add {k : IntKind} {a q c : Int} {e : Nat} (hc : nth pwL e = some c) (hx : evalA env x = some (.int k (a * c))) (hy : evalA env y = some (.int k q)) (ha : 0 ≤ a) (hq : 0 ≤ q) (hq' : q < c) (hw : Fits k (a * c + q)) :
    RunV P C H env (.binOp .or tx x y ty) (.int k (a * c + q)) := by
  rw [← pw_ok hc] at hx hq' hw ⊢
  obtain ⟨a, rfl⟩ := Int.eq_ofNat_of_zero_le ha
  obtain ⟨q, rfl⟩ := Int.eq_ofNat_of_zero_le hq
  have h0 : (0 : Int) ≤ (a : Int) * (2 ^ e : Nat) := Int.mul_nonneg ha (Int.natCast_nonneg _)
  have h1 : Fits k (a * (2 ^ e : Nat)) := by cases k <;> simp only [Fits] at hw ⊢ <;> omega
  have h2 : Fits k (q : Int) := by cases k <;> simp only [Fits] at hw ⊢ <;> omega
  have e1 : ((((a : Int) * (2 ^ e : Nat)).toNat ||| (q : Int).toNat : Nat) : Int) = (a : Int) * (2 ^ e : Nat) + q := by
    rw [← Int.natCast_mul, Int.toNat_natCast, Int.toNat_natCast, ← Nat.shiftLeft_eq, ← Nat.shiftLeft_add_eq_or_of_lt (by omega)]
    rw [Nat.shiftLeft_eq]
    simp
  refine rv_int hx hy ?_
  rw [intBin, bits_nn (fun _ a c => a ||| c) (· ||| ·) (fun a c => by simp) (fun a c e h1 h2 => Nat.or_lt_two_pow h1 h2) h0 hq h1 h2, e1]
theorem rv_or_div {k : IntKind} {m q c : Int} (e : Nat) (hc : nth pwL e = some c) (hx : evalA env x = some (.int k m)) (hy : evalA env y = some (.int k q)) (hm : 0 ≤ m) (hd : m % c = 0) (hq : 0 ≤ q) (hq' : q < c) (hw : Fits k (m + q)) :
    RunV P C H env (.binOp .or tx x y ty) (.int k (m + q)) := by
  have e1 : m = m / c * c := by have := Int.mul_ediv_add_emod m c; rw [hd] at this; rw [Int.mul_comm]; omega
  rw [e1] at hx hw ⊢
  exact rv_or_add hc hx hy (Int.ediv_nonneg hm (by omega)) hq hq' hw
theorem genI_ok {op : BinOp} {k : IntKind} {m q : Int} (hx : evalA env x = some (.int k m)) (hy : evalA env y = some (.int k q)) (h : genI op k m q F K) :
    F ∨ ∃ av, RunV P C H env (.binOp op tx x y ty) av ∧ K av := by
  unfold genI at h
  split at h
  · rename_i av ho; exact .inr ⟨av, rv_int hx hy ho, h⟩
  · exact .inl h
theorem rv_remT {k : IntKind} {m q : Int} (hx : evalA env x = some (.int k m)) (hy : evalA env y = some (.int k q)) (hq : 0 < q) : RunV P C H env (.binOp .rem tx x y ty) (.int k (m.tmod q)) := by
  intro R ρ w _hm hf dst t p af g
  refine ⟨_, ?_, rel_int.2 rfl⟩
  simp only [execOp, rel_int.1 (hf _ _ hx), rel_int.1 (hf _ _ hy), Go.binOp, eqGuard, Op.intDiv, ne_eq, not_true_eq_false, if_false]
  rw [if_neg (show ¬ q = 0 by omega)]
  rfl
theorem binInt_ok {op : BinOp} {k : IntKind} {m q : Int} (hx : evalA env x = some (.int k m)) (hy : evalA env y = some (.int k q)) (h : binInt op k m q y F K) :
    F ∨ ∃ av, RunV P C H env (.binOp op tx x y ty) av ∧ K av := by
  unfold binInt at h
  generalize hb : boundsK k = bd at h
  obtain ⟨lo, hi⟩ := bd
  dsimp only at h
  split at h
  · rcases h with h | h
    · exact .inr ⟨_, rv_int hx hy (by rw [intBin, wrap_fits (fits_of hb h.1)]), h.2⟩
    · exact .inr ⟨_, rv_int hx hy rfl, h⟩
  · rcases h with h | h
    · exact .inr ⟨_, rv_int hx hy (by rw [intBin, wrap_fits (fits_of hb h.1)]), h.2⟩
    · exact .inr ⟨_, rv_int hx hy rfl, h⟩
  · rcases h with h | h
    · exact .inr ⟨_, rv_int hx hy (by rw [intBin, wrap_fits (fits_of hb h.1)]), h.2⟩
    · exact .inr ⟨_, rv_int hx hy rfl, h⟩
  · refine .inr ⟨_, rv_quo hx hy h.1.1 h.1.2.1 (fits_of hb ⟨?_, h.1.2.2⟩), h.2⟩
    have h0 := h.1.1
    cases k <;> simp only [boundsK, Prod.mk.injEq] at hb <;> omega
  · rcases h with h | h
    · exact .inr ⟨_, rv_rem hx hy h.1.1 h.1.2, h.2⟩
    · exact .inr ⟨_, rv_remT hx hy h.1, h.2⟩
  · rcases h with h | h
    rotate_left
    · exact genI_ok hx hy h
    obtain ⟨⟨h0, h1, h2, h3⟩, hk⟩ := h
    have hw : Fits k (m + q) := fits_of hb ⟨by cases k <;> simp only [boundsK, Prod.mk.injEq] at hb <;> omega, h2⟩
    rcases h3 with h3 | h3 | h3 | h3 | h3
    · exact .inr ⟨_, rv_or_div 4 rfl hx hy h0 h3.1 h1 h3.2 hw, hk⟩
    · exact .inr ⟨_, rv_or_div 6 rfl hx hy h0 h3.1 h1 h3.2 hw, hk⟩
    · exact .inr ⟨_, rv_or_div 8 rfl hx hy h0 h3.1 h1 h3.2 hw, hk⟩
    · exact .inr ⟨_, rv_or_div 12 rfl hx hy h0 h3.1 h1 h3.2 hw, hk⟩
    · exact .inr ⟨_, rv_or_div 18 rfl hx hy h0 h3.1 h1 h3.2 hw, hk⟩
  · split at h
    · rename_i j c
      split at h
      · rename_i e c' he
        split at h
        · rename_i hbit
          rcases h with h | h
          rotate_left
          · exact genI_ok hx hy h
          obtain ⟨rfl, hp⟩ := maskE_ok he
          simp only [evalA, ofV, Option.some.injEq, AVal.int.injEq] at hy
          refine .inr ⟨_, rv_mask hx hy.1 h.1.1 (fits_of hb ⟨?_, h.1.2⟩) hbit hp, h.2⟩
          have h0 := h.1.1
          cases k <;> simp only [boundsK, Prod.mk.injEq] at hb <;> omega
        · exact .inl h
      · exact genI_ok hx hy h
    · rcases h with h | h
      rotate_left
      · exact genI_ok hx hy h
      obtain ⟨⟨h0, h1, h2, h3⟩, hk⟩ := h
      have hm : Fits k m := fits_of hb ⟨by cases k <;> simp only [boundsK, Prod.mk.injEq] at hb <;> omega, h2⟩
      have hq : Fits k q := fits_of hb ⟨by cases k <;> simp only [boundsK, Prod.mk.injEq] at hb <;> omega, h3⟩
      refine .inr ⟨_, rv_int hx hy ?_, hk⟩
      rw [intBin, bits_nn (fun _ a c => a &&& c) (· &&& ·) (fun a c => by simp) (fun a c e h1 h2 => Nat.and_lt_two_pow a h2) h0 h1 hm hq]
  · split at h
    · rename_i av hc
      refine .inr ⟨av, rv_int hx hy ?_, h⟩
      revert hc
      unfold cmpBin intBin
      split <;> simp
    · exact genI_ok hx hy h
theorem shiftX_ok {op : BinOp} {k : IntKind} {m : Int} (hx : evalA env x = some (.int k m)) (h : shiftX op k m y F K) :
    F ∨ ∃ av, RunV P C H env (.binOp op tx x y ty) av ∧ K av := by
  unfold shiftX at h
  split at h
  · split at h
    · rename_i c hc
      split at h
      · rename_i hb
        generalize hbd : boundsK k = bd at h
        obtain ⟨lo, hi⟩ := bd
        dsimp only at h
        split at h
        · rcases h with h | h
          · exact .inr ⟨_, rv_shl hx hb hc (fits_of hbd h.1), h.2⟩
          · exact .inr ⟨_, rv_shl_wrap hx hb hc, h⟩
        · exact .inr ⟨_, rv_shr hx hb hc, h⟩
        · exact .inl h
      · exact .inl h
    · exact .inl h
  · exact .inl h
theorem binX_ok {op : BinOp} (h : binX P env op tx x y F K) : F ∨ ∃ av, RunV P C H env (.binOp op tx x y ty) av ∧ K av := by
  unfold binX at h
  split at h
  · rename_i k m hx
    split at h
    · exact shiftX_ok hx h
    · split at h
      · rename_i j q hy
        split at h
        · rename_i hk
          have := kix_eq hk
          subst this
          exact binInt_ok hx hy h
        · exact .inl h
      · exact .inl h
  · rename_i s hx
    split at h
    · rename_i t hy
      split at h
      · exact .inr ⟨_, rv_cat hx hy h.1, h.2⟩
      · split at h
        · rename_i av hs
          exact .inr ⟨av, rv_str hx hy hs, h⟩
        · exact .inl h
    · exact .inl h
  · rename_i a hx
    split at h
    · rename_i c hy
      split at h
      · rename_i xT ht
        split at h
        · rename_i hd
          exact .inr ⟨_, rv_beq hx hy (by rw [tab_und ht, hd]), h⟩
        · exact .inl h
      · exact .inl h
    · exact .inl h
  · rename_i a _ _ _ hx
    split at h
    · rename_i z
      split at h
      · rename_i xT ht
        split at h
        · rename_i c z' h1 h2
          split at h
          · obtain ⟨rfl, h⟩ := h
            exact .inr ⟨_, rv_eq_nil hx ht h1 h2, h⟩
          · obtain ⟨rfl, h⟩ := h
            exact .inr ⟨_, rv_ne_nil hx ht h1 h2, h⟩
          · exact .inl h
        · exact .inl h
      · exact .inl h
    · exact .inl h
  · exact .inl h
/-- The operation's rule. -/
def XOk (P : Program) (C : Ctx) (H : Heap) (env : Env) (op : Op) (F : Prop) (K : AVal → Prop) : Prop := F ∨ ∃ av, RunV P C H env op av ∧ K av
theorem call_args {α : Type} {a : Array α} {l : List α} (h : a.toList = l) : a = l.toArray := by rw [← h]
theorem lenX_ok (h : lenX P env H T x F K) : XOk P C H env (.call { callee := .builtin .len, args := [x].toArray, argTypes := [T].toArray }) F K := by
  unfold lenX at h
  split at h
  · rename_i xT ht
    split at h
    · rename_i m hx hd; exact .inr ⟨_, rv_len_str hx ht hd, h⟩
    · rename_i m f e hx hd; exact .inr ⟨_, rv_len_list hx ht hd, h⟩
    · rename_i m cap e hx hd; exact .inr ⟨_, rv_len_raw hx ht hd, h⟩
    · rename_i i v e hx hd
      obtain ⟨s, rfl, hs⟩ := own_tmp hx
      split at h
      · rename_i v' sz m cs hi
        obtain ⟨rfl, h⟩ := h
        exact .inr ⟨_, rv_shadow hs (rv_len_row (by simp only [evalA]; exact get_hit) hi ht hd), h⟩
      · split at h
        · exact .inr ⟨_, rv_shadow hs (rv_len_raw (by simp only [evalA]; exact get_hit) ht hd), h⟩
        · exact .inl h
    · exact .inl h
  · exact .inl h
theorem minmaxX_ok {mx : Bool} {ts : Array TypeId} (h : minmaxX env mx x y F K) : XOk P C H env (.call { callee := .builtin (if mx then .max else .min), args := [x, y].toArray, argTypes := ts }) F K := by
  unfold minmaxX at h
  split at h
  · rename_i k m j q hx hy
    split at h
    · rename_i hk
      have := kix_eq hk
      subst this
      exact .inr ⟨_, rv_min hx hy, h⟩
    · rename_i hk
      have := kix_eq hk
      subst this
      exact .inr ⟨_, rv_max hx hy, h⟩
    · exact .inl h
  · exact .inl h
theorem builtX_ok {b : Builtin} {args : Array Operand} {ts : Array TypeId} (h : builtX P env H b args.toList ts.toList F K) : XOk P C H env (.call { callee := .builtin b, args := args, argTypes := ts }) F K := by
  unfold builtX at h
  split at h
  · rename_i h1 h2
    rw [call_args h1, call_args h2]
    exact lenX_ok h
  · rename_i h1
    rw [call_args h1]
    exact minmaxX_ok (mx := false) h
  · rename_i h1
    rw [call_args h1]
    exact minmaxX_ok (mx := true) h
  · exact .inl h
theorem intA_ok {K : Int → Prop} (h : intA env x F K) : F ∨ ∃ k i, evalA env x = some (.int k i) ∧ K i := by
  unfold intA at h
  split at h
  · rename_i k i hx; exact .inr ⟨k, i, hx, h⟩
  · exact .inl h
theorem boundsX_ok {m : Nat} {lo hi : Option Operand} {K0 : Prop} {Kf Kt : Nat → Prop} {K : Nat → Nat → Prop} (h : boundsX env m lo hi F K0 Kf Kt K) :
    F ∨ ∃ i j, boundA env 0 lo = some i ∧ boundA env (m : Int) hi = some j ∧ 0 ≤ i ∧ i ≤ j ∧ j ≤ m ∧
      ((lo = none ∧ hi = none ∧ i = 0 ∧ j = m ∧ K0) ∨ (hi = none ∧ j = m ∧ Kf i.toNat) ∨ (lo = none ∧ i = 0 ∧ Kt j.toNat) ∨ K i.toNat j.toNat) := by
  unfold boundsX at h
  split at h
  · exact .inr ⟨0, m, rfl, rfl, Int.le_refl _, by omega, Int.le_refl _, .inl ⟨rfl, rfl, rfl, rfl, h⟩⟩
  · rcases intA_ok h with h | ⟨k, i, hx, h, h'⟩
    · exact .inl h
    · exact .inr ⟨i, m, by simp only [boundA, hx], rfl, h.1, h.2, Int.le_refl _, .inr (.inl ⟨rfl, rfl, h'⟩)⟩
  · rcases intA_ok h with h | ⟨k, j, hx, h, h'⟩
    · exact .inl h
    · exact .inr ⟨0, j, rfl, by simp only [boundA, hx], Int.le_refl _, h.1, h.2, .inr (.inr (.inl ⟨rfl, rfl, h'⟩))⟩
  · rcases intA_ok h with h | ⟨k, i, hx, h⟩
    · exact .inl h
    · rcases intA_ok h with h | ⟨k', j, hy, h, h'⟩
      · exact .inl h
      · exact .inr ⟨i, j, by simp only [boundA, hx], by simp only [boundA, hy], h.1, h.2.1, h.2.2, .inr (.inr (.inr h'))⟩
theorem sliceX_ok {lo hi mx : Option Operand} (h : sliceX P env T x lo hi mx F K) : XOk P C H env (.slice T x lo hi mx) F K := by
  unfold sliceX at h
  split at h
  · exact .inl h
  · split at h
    · rename_i xT ht
      split at h
      · rename_i m hx hd
        rcases boundsX_ok h with h | ⟨i, j, h1, h2, h3, h4, h5, h6⟩
        · exact .inl h
        · have hr := rv_slice_str (P := P) (C := C) (H := H) hx ht hd h1 h2 h3 h4 h5
          rcases h6 with ⟨_, _, rfl, rfl, h6⟩ | ⟨_, rfl, h6⟩ | ⟨_, rfl, h6⟩ | h6
          · simp only [Int.toNat_natCast, List.take_length, Int.toNat_zero, List.drop_zero] at hr; exact .inr ⟨_, hr, h6⟩
          · simp only [Int.toNat_natCast, List.take_length] at hr; exact .inr ⟨_, hr, h6⟩
          · simp only [Int.toNat_zero, List.drop_zero] at hr; exact .inr ⟨_, hr, h6⟩
          · exact .inr ⟨_, hr, h6⟩
      · rename_i sz m f e hx hd
        split at h
        · rename_i xe he
          split at h
          · rename_i hs
            rcases boundsX_ok h with h | ⟨i, j, h1, h2, h3, h4, h5, h6⟩
            · exact .inl h
            · have hr := rv_slice_list (P := P) (C := C) (H := H) hx ht hd he (Nat.eq_of_beq_eq_true hs) h1 h2 h3 h4 h5
              rcases h6 with ⟨_, _, rfl, rfl, h6⟩ | ⟨_, rfl, h6⟩ | ⟨_, rfl, h6⟩ | h6
              · simp only [Int.toNat_natCast, Int.toNat_zero, Nat.sub_zero, Nat.zero_add] at hr; exact .inr ⟨_, hr, h6⟩
              · simp only [Int.toNat_natCast] at hr; exact .inr ⟨_, hr, h6⟩
              · simp only [Int.toNat_zero, Nat.sub_zero, Nat.zero_add] at hr; exact .inr ⟨_, hr, h6⟩
              · exact .inr ⟨_, hr, h6⟩
          · exact .inl h
        · exact .inl h
      · exact .inl h
    · exact .inl h
theorem indexX_ok (h : indexX P env T x y F K) : XOk P C H env (.index T x y) F K := by
  unfold indexX at h
  split at h
  · rename_i xT ht
    split at h
    · rename_i m hx hd
      rcases intA_ok h with h | ⟨k, i, hy, h, h'⟩
      · exact .inl h
      · exact .inr ⟨_, rv_index_str hx hy ht hd h.1 h.2, h'.h (byteAt_lt _ _)⟩
    · exact .inl h
  · exact .inl h
theorem cellX_ok {ag : Bool} {sz : Nat} {cs : List AVal} {o : Nat} (h : cellX ag sz cs o F K) :
    F ∨ (ag = true ∧ o + sz ≤ cs.length ∧ K (.agg ((cs.drop o).take sz))) ∨ (ag = false ∧ ∃ av, cs[o]? = some av ∧ av.isAgg = false ∧ K av) := by
  unfold cellX at h
  split at h
  · split at h
    · rename_i hb
      rw [forceL_eq] at h
      exact .inr (.inl ⟨rfl, Nat.le_of_ble_eq_true hb, h⟩)
    · exact .inl h
  · split at h
    · rename_i av hc
      split at h
      · rename_i ha; exact .inr (.inr ⟨rfl, av, hc, ha, h⟩)
      · exact .inl h
    · exact .inl h
theorem rv_load_buf {i b o cap : Nat} {s : List UInt8} (hx : evalA env x = some (.raw (.pointer (some ⟨b, o, none⟩)))) (hi : H[i]? = some (.buf b s cap)) (ht : tab P T = some xT) (ha : descAgg xT.desc = false) (ho : o < s.length) :
    RunV P C H env (.load T x) (.int .u8 (byteAt s o : Int)) := by
  intro R ρ w hm hf dst t p af g
  obtain ⟨_, Cs, el, fz, hb, hl, _⟩ := hm.heap.holds _ (List.mem_of_getElem? hi)
  obtain ⟨v, hv, hr⟩ := relL_get hl (ownB_get (cap := cap) ho)
  refine ⟨v, ?_, relC_rel hr rfl⟩
  have hcell : w.cell? ⟨b, o, none⟩ = some v := by simp only [World.cell?, hb]; simpa using hv
  simp only [execOp, rel_raw.1 (hf _ _ hx), Instr.loadAt, Instr.sureAddr, Sem.run_bind, Sem.run_pure, Result.andThen_ok, load_scalar ht ha hcell]
theorem rv_load_glob_agg {g : Nat} {cs : List AVal} (hG : GloAt C.G g cs) (ht : tab P T = some xT) (ha : descAgg xT.desc = true) (hc : 0 + xT.size ≤ cs.length) :
    RunV P C H env (.load T (.global g)) (.agg ((cs.drop 0).take xT.size)) := by
  intro R ρ w hm hf dst t p af g'
  have hr := rel_raw.1 (hf (.global g) _ rfl)
  obtain ⟨Cs, el, fz, hR, hl⟩ := hG R hm.glo
  have hlen := relL_length hl
  simp only [List.length_take, List.length_drop, Array.length_toList] at hlen
  refine ⟨.agg ((Cs.toList.drop 0).take xT.size).toArray, ?_, ?_, rfl⟩
  · simp only [execOp, hr, Instr.loadAt, Instr.sureAddr, Sem.run_bind, Sem.run_pure, Result.andThen_ok]
    by_cases hz : xT.size = 0
    · simp only [loadVar, Sem.run_bind, tab_run_agg ht, ha, if_true, tab_run_size ht, loadCells, hz, loadCellsFrom, Result.andThen_ok]
      simp
    · rw [load_agg ht ha (hm.sealed _ _ hR) (by omega)]
      simp only [Result.andThen_ok]
  · have := relL_take xT.size (relL_drop 0 hl)
    simp only [Value.cells, RelC]
    rw [List.drop_zero] at this ⊢
    simp only [List.drop_zero] at this ⊢
    rw [List.take_take, Nat.min_eq_left (by omega)] at this
    simpa using this
theorem loadX_ok {GL : List (Nat × List AVal)} (hGL : GloAll C.G GL) (h : loadX P GL env H T x F K) : XOk P C H env (.load T x) F K := by
  unfold loadX at h
  split at h
  · rename_i xT ht
    split at h
    · rename_i g
      split at h
      · rename_i cs hg
        rcases cellX_ok h with h | ⟨ha, hc, h⟩ | ⟨ha, av, hc, hav, h⟩
        · exact .inl h
        · exact .inr ⟨_, rv_load_glob_agg (hGL _ _ hg) ht ha hc, h⟩
        · exact .inr ⟨_, rv_load_glob (hGL _ _ hg) ht ha hc hav, h⟩
      · exact .inl h
    · split at h
      · rename_i cs off hx
        rcases cellX_ok h with h | ⟨ha, hc, h⟩ | ⟨ha, av, hc, hav, h⟩
        · exact .inl h
        · exact .inr ⟨_, rv_load_rop_agg hx ht ha hc, h⟩
        · exact .inr ⟨_, rv_load_rop hx ht ha hc hav, h⟩
      · rename_i i b o hx
        obtain ⟨s, rfl, hs⟩ := own_tmp hx
        split at h
        · rename_i b' cs hi
          obtain ⟨rfl, h⟩ := h
          rcases cellX_ok h with h | ⟨ha, hc, h⟩ | ⟨ha, av, hc, hav, h⟩
          · exact .inl h
          · exact .inr ⟨_, rv_shadow hs (rv_load_own_agg (by simp only [evalA]; exact get_hit) hi ht ha hc), h⟩
          · exact .inr ⟨_, rv_shadow hs (rv_load_own (by simp only [evalA]; exact get_hit) hi ht ha hc hav), h⟩
        · rename_i b' s' cap hi
          split at h
          · rename_i ha
            obtain ⟨⟨rfl, ho⟩, h⟩ := h
            exact .inr ⟨_, rv_shadow hs (rv_load_buf (by simp only [evalA]; exact get_hit) hi ht ha ho), h.h (byteAt_lt _ _)⟩
          · exact .inl h
        · rename_i v' _ sz n0 cs hi
          split at h
          · rename_i ha
            obtain ⟨⟨hr, ho⟩, ⟨a, hc, hav, k⟩⟩ := h
            exact .inr ⟨_, rv_shadow hs (rv_load_row (by simp only [evalA]; exact get_hit) hi hr ho ht ha hc hav), k⟩
          · rename_i ha
            obtain ⟨⟨hr, ho, h0⟩, ⟨c, hc, k⟩⟩ := h
            exact .inr ⟨_, rv_shadow hs (rv_load_row_agg (by simp only [evalA]; exact get_hit) hi hr ho h0 ht ha hc), k⟩
        · exact .inl h
      · exact .inl h
  · exact .inl h
theorem fieldAddrX_ok {k : Nat} (h : fieldAddrX P env T x k F K) : XOk P C H env (.fieldAddr T x k) F K := by
  unfold fieldAddrX at h
  split at h
  · rename_i xT ht
    split at h
    · rename_i fs hd
      split at h
      · rename_i f hf
        split at h
        · rename_i xf hxf
          split at h
          · rename_i hb
            split at h
            · rename_i cs off hx; exact .inr ⟨_, rv_fieldAddr_rop hx ht hd hf hxf hb, h⟩
            · rename_i i b o hx
              obtain ⟨s, rfl, hs⟩ := own_tmp hx
              refine .inr ⟨_, ?_, h⟩
              have := rv_fieldAddr_raw (P := P) (C := C) (H := H) (env := (s, .raw (.pointer (some ⟨b, o, none⟩))) :: env) (x := .tmp s) (by simp only [evalA]; exact get_hit) ht hd hf hxf hb
              intro R ρ w hm hr dst t p af g
              obtain ⟨v, h1, h2⟩ := rv_shadow hs this R ρ w hm hr dst t p af g
              exact ⟨v, h1, rel_own.2 ⟨rel_raw.1 h2, rfl⟩⟩
            · exact .inl h
          · exact .inl h
        · exact .inl h
      · exact .inl h
    · exact .inl h
  · exact .inl h
theorem elemX_ok {a : AVal} (h : elemX a F K) : F ∨ (a.plain = true ∧ K (.rop a.cells 0)) := by
  unfold elemX at h
  split at h
  · rw [forceL_eq] at h; exact .inr ⟨rfl, h⟩
  · exact .inl h
  · rename_i h1 h2
    refine .inr ⟨?_, ?_⟩
    · cases a <;> first | rfl | skip
      rename_i v; cases v <;> first | rfl | (exact absurd rfl (h2 _))
    · cases a <;> first | exact h | (exact absurd rfl (h1 _))
theorem rv_own_of_raw {op : Op} {i : Nat} {v : Value} (hv : vAgg v = false) (h : RunV P C H env op (.raw v)) : RunV P C H env op (.own i v) := by
  intro R ρ w hm hr dst t p af g
  obtain ⟨u, h1, h2⟩ := h R ρ w hm hr dst t p af g
  have := rel_raw.1 h2
  subst this
  exact ⟨_, h1, rel_own.2 ⟨rfl, hv⟩⟩
theorem rv_indexAddr_rop {len off : Nat} {e : TypeId} {xe : TI} {cs : List AVal} {k : IntKind} {i : Int} (hx : evalA env x = some (.rop cs off)) (hy : evalA env y = some (.int k i)) (h1 : tab P T = some xT) (h2 : xT.desc = .array len e) (h3 : tab P e = some xe)
    (hi0 : 0 ≤ i) (hi : i < len) : RunV P C H env (.indexAddr T x y) (.rop cs (off + i.toNat * xe.size)) := by
  intro R ρ w hm hf dst t p af g
  obtain ⟨bl, o, e1, ho, hs⟩ := rop_inv (hf _ _ hx)
  refine ⟨.pointer (some ⟨bl, o + i.toNat * xe.size, none⟩), ?_, relC_rop (by omega) (by rw [Nat.add_sub_add_right]; exact hs)⟩
  simp only [execOp, e1, rel_int.1 (hf _ _ hy), Instr.indexAt, asIntOf, Sem.run_bind, Sem.run_pure, Result.andThen_ok, tab_run_und h1, h2, Instr.sureAddr]
  rw [if_pos (show 0 ≤ i ∧ i < (len : Int) from ⟨hi0, hi⟩)]
  simp only [Sem.run_bind, tab_run_size h3, Result.andThen_ok, Sem.run_pure, Addr.add]
  by_cases h0 : i.toNat * xe.size = 0
  · simp [h0]
  · simp [h0]
theorem indexAddrX_ok {GL : List (Nat × List AVal)} (hGL : GloAll C.G GL) (h : indexAddrX P GL env T x y F K) : XOk P C H env (.indexAddr T x y) F K := by
  unfold indexAddrX at h
  split at h
  · rename_i xT ht
    split at h
    · rename_i e hd
      split at h
      · rename_i xe he
        split at h
        · rename_i sz m f hx
          split at h
          · rename_i hs
            rcases intA_ok h with h | ⟨k, i, hy, h, h'⟩
            · exact .inl h
            · rcases elemX_ok h' with h' | ⟨hp, h'⟩
              · exact .inl h'
              · exact .inr ⟨_, rv_index_list hx hy ht hd he (Nat.eq_of_beq_eq_true hs) h.1 h.2 hp, h'⟩
          · exact .inl h
        · rename_i i b m cap hx
          obtain ⟨s, rfl, hs⟩ := own_tmp hx
          split at h
          · rename_i h1
            rcases intA_ok h with h | ⟨k, j, hy, h, h'⟩
            · exact .inl h
            · obtain ⟨j, rfl⟩ := Int.eq_ofNat_of_zero_le h.1
              simp only [Int.toNat_natCast] at h'
              refine .inr ⟨_, rv_own_of_raw rfl ?_, h'⟩
              intro R ρ w hm hf dst t p af g
              have hv := (rel_own.1 (hf (.tmp s) _ hx)).1
              refine ⟨_, ?_, rel_raw.2 rfl⟩
              have hj : j < m := by have := h.2; omega
              have h4 := Nat.eq_of_beq_eq_true h1
              simp only [execOp, hv, rel_int.1 (hf _ _ hy), Instr.indexAt, asIntOf, Sem.run_bind, Sem.run_pure, Result.andThen_ok, tab_run_und ht, hd]
              rw [if_pos (show 0 ≤ (j : Int) ∧ (j : Int) < (m : Int) from ⟨by omega, by omega⟩)]
              simp only [Sem.run_bind, tab_run_size he, h4, Result.andThen_ok, Sem.run_pure, Addr.add, Int.toNat_natCast, Nat.mul_one]
              by_cases h0 : j = 0
              · subst h0; simp
              · simp [h0]
          · rcases intA_ok h with h | ⟨k, j, hy, h, h'⟩
            · exact .inl h
            · obtain ⟨j, rfl⟩ := Int.eq_ofNat_of_zero_le h.1
              simp only [Int.toNat_natCast] at h'
              refine .inr ⟨_, rv_own_of_raw rfl ?_, h'⟩
              intro R ρ w hm hf dst t p af g
              have hv := (rel_own.1 (hf (.tmp s) _ hx)).1
              refine ⟨_, ?_, rel_raw.2 rfl⟩
              have hj : j < m := by have := h.2; omega
              simp only [execOp, hv, rel_int.1 (hf _ _ hy), Instr.indexAt, asIntOf, Sem.run_bind, Sem.run_pure, Result.andThen_ok, tab_run_und ht, hd]
              rw [if_pos (show 0 ≤ (j : Int) ∧ (j : Int) < (m : Int) from ⟨by omega, by omega⟩)]
              simp only [Sem.run_bind, tab_run_size he, Result.andThen_ok, Sem.run_pure, Addr.add, Int.toNat_natCast]
              by_cases h0 : j * xe.size = 0
              · rw [h0]; simp
              · simp [h0]
        · exact .inl h
      · exact .inl h
    · rename_i len e hd
      split at h
      · rename_i xe he
        split at h
        · rename_i g
          split at h
          · rename_i cs hg
            rcases intA_ok h with h | ⟨k, i, hy, h, h'⟩
            · exact .inl h
            · exact .inr ⟨_, rv_indexAddr_glob (hGL _ _ hg) hy ht hd he h.1 h.2, h'⟩
          · exact .inl h
        · split at h
          · rename_i i b o hx
            obtain ⟨s, rfl, hs⟩ := own_tmp hx
            rcases intA_ok h with h | ⟨k, j, hy, h, h'⟩
            · exact .inl h
            · refine .inr ⟨_, rv_own_of_raw rfl (rv_shadow hs (rv_indexAddr_raw (k := k) (by simp only [evalA]; exact get_hit) ?_ ht hd he h.1 h.2)), h'⟩
              cases y with
              | tmp u =>
                simp only [evalA, Env.get] at hy ⊢
                split
                · rename_i hb
                  have := Nat.eq_of_beq_eq_true hb
                  subst this
                  rw [hs] at hy
                  cases hy
                · exact hy
              | const c => rw [evalA_const] at hy ⊢; exact hy
              | global g => exact hy
              | func f => exact hy
          · rename_i cs off hx
            rcases intA_ok h with h | ⟨k, i, hy, h, h'⟩
            · exact .inl h
            · exact .inr ⟨_, rv_indexAddr_rop hx hy ht hd he h.1 h.2, h'⟩
          · exact .inl h
      · exact .inl h
    · exact .inl h
  · exact .inl h
theorem fieldX_ok {k : Nat} (h : fieldX P env T x k F K) : XOk P C H env (.field T x k) F K := by
  unfold fieldX at h
  split at h
  · rename_i xT ht
    split at h
    · rename_i fs hd
      split at h
      · rename_i f hf
        split at h
        · rename_i xf hxf
          split at h
          · rename_i cs hx
            split at h
            · rename_i ha
              rw [forceL_eq] at h
              exact .inr ⟨_, rv_field_agg hx ht hd hf hxf ha, h⟩
            · rename_i ha
              split at h
              · rename_i av hc
                split at h
                · rename_i hav; exact .inr ⟨_, rv_field hx ht hd hf hxf ha hc hav, h⟩
                · exact .inl h
              · exact .inl h
          · exact .inl h
        · exact .inl h
      · exact .inl h
    · exact .inl h
  · exact .inl h
theorem nilCheckX_ok (h : nilCheckX env x F K) : XOk P C H env (.nilCheck x) F K := by
  unfold nilCheckX at h
  split at h
  · rename_i cs off hx; exact .inr ⟨_, rv_nilCheck_rop hx, h⟩
  · rename_i i a hx
    obtain ⟨s, rfl, hs⟩ := own_tmp hx
    exact .inr ⟨_, rv_own_of_raw rfl (rv_shadow hs (rv_nilCheck_raw (by simp only [evalA]; exact get_hit))), h⟩
  · exact .inl h
theorem rv_str_buf {i b cap : Nat} {s : List UInt8} {S e : TypeId} {xS xe : TI} (hx : evalA env x = some (.raw (.slice (some ⟨b, 0, none⟩) s.length cap))) {c' : Nat} (hi : H[i]? = some (.buf b s c')) (h1 : tab P S = some xS) (h2 : xS.desc = .slice e)
    (h5 : tab P e = some xe) (h6 : xe.desc = .int .u8) (h3 : tab P T = some xT) (h4 : xT.desc = .string) : RunV P C H env (.convert S T x) (.str s) := by
  intro R ρ w hm hf dst t p af g
  obtain ⟨_, Cs, el, fz, hb, hl, _⟩ := hm.heap.holds _ (List.mem_of_getElem? hi)
  refine ⟨_, ?_, rel_str.2 rfl⟩
  have hl' := relL_take s.length hl
  rw [ownB_take] at hl'
  simp only [execOp, rel_raw.1 (hf _ _ hx), Sem.run_bind, bytes_back h1 h2 h5 h6 h3 h4 (bytes_cell (o := 0) hb (by simpa using hl')), Result.andThen_ok, Sem.run_pure]
theorem convX_ok {S : TypeId} (h : convX P env H S T x F K) : XOk P C H env (.convert S T x) F K := by
  unfold convX at h
  split at h
  · rename_i xS xT hS hT
    split at h
    · rename_i k m hx
      split at h
      · rename_i j hd
        generalize hb : boundsK j = bd at h
        obtain ⟨lo, hi⟩ := bd
        rcases h with h | h
        · exact .inr ⟨_, rv_conv_int hx hS hT hd (fits_of hb h.1), h.2⟩
        · exact .inr ⟨_, rv_conv_wrap hx hS hT hd, h⟩
      · exact .inl h
    · rename_i i b m cap hx
      obtain ⟨s, rfl, hs⟩ := own_tmp hx
      split at h
      · rename_i e hd1 hd2
        split at h
        · rename_i xe he
          split at h
          · rename_i hu
            split at h
            · rename_i b' s' cap' hi
              obtain ⟨⟨rfl, rfl⟩, h⟩ := h
              exact .inr ⟨_, rv_shadow hs (rv_str_buf (by simp only [evalA]; exact get_hit) hi hS hd1 he hu hT hd2), h⟩
            · exact .inl h
          · exact .inl h
        · exact .inl h
      · exact .inl h
    · exact .inl h
  · exact .inl h
theorem buildX_ok {l : Array (Nat × Operand)} (h : buildX P env T l.toList F K) : XOk P C H env (.build T l) F K := by
  unfold buildX at h
  split at h
  · rename_i xT ht
    split at h
    · rename_i fs hd
      split at h
      · rename_i ps pl z h1 h2 h3
        split at h
        · rename_i cs h4
          rw [forceL_eq] at h
          have := rv_build (P := P) (C := C) (H := H) (l := l.toList) h1 ht (by simpa using hd) h2 h3 h4
          exact .inr ⟨_, by simpa using this, h⟩
        · exact .inl h
      · exact .inl h
    · rename_i m e hd
      split at h
      · rename_i ps xe z h1 h2 h3
        split at h
        · rename_i cs h4
          rw [forceL_eq] at h
          have := rv_build_arr (P := P) (C := C) (H := H) (l := l.toList) h1 ht hd h2 h3 h4
          exact .inr ⟨_, by simpa using this, h⟩
        · exact .inl h
      · exact .inl h
    · exact .inl h
  · exact .inl h
theorem ifaceX_ok (h : ifaceX P env T x F K) : XOk P C H env (.makeInterface T x) F K := by
  unfold ifaceX at h
  split at h
  · rename_i xT v ht hx
    split at h
    · rename_i hd; exact .inr ⟨_, rv_makeIface hx ht hd, h⟩
    · exact .inl h
  · exact .inl h
theorem assertX_ok {S : TypeId} {ok : Bool} (h : assertX P env x S T ok F K) : XOk P C H env (.typeAssert x S T ok) F K := by
  unfold assertX at h
  split at h
  · rename_i xT ht
    split at h
    · rename_i ty v hx
      split at h
      · rename_i hd hb; exact .inr ⟨_, rv_assert_hit hx ht hd (Nat.eq_of_beq_eq_true hb), h⟩
      · rename_i hd hb
        split at h
        · rename_i z hz; exact .inr ⟨_, rv_assert_miss hx ht hd hb hz, h⟩
        · exact .inl h
      · rcases h with ⟨h, k⟩ | ⟨h, k⟩
        · refine .inr ⟨_, ?_, k⟩
          intro R ρ w hm hf dst t p af g
          obtain ⟨⟨u, e, h3, h4⟩, _⟩ := hf _ _ hx
          have hr := hf _ _ hx
          have e' : ρ x = .iface ty u := by
            obtain ⟨u', e', h3', h4'⟩ := rel_one hr rfl
            simp only [List.cons.injEq, and_true] at e'
            rw [e'] at e
            simp [Value.cells] at e
            rw [e', e]
          rw [e'] at hr
          refine ⟨.tuple #[.iface ty u, .bool true], ?_, ⟨⟨_, rfl, _, _, rfl, ⟨hr.1, hr.2⟩, _, _, rfl, ⟨rfl, rfl⟩, rfl⟩, rfl⟩⟩
          simp only [execOp, e', Sem.run_bind, h u w, Result.andThen_ok, Sem.run_pure]
        · refine .inr ⟨_, ?_, k⟩
          intro R ρ w hm hf dst t p af g
          obtain ⟨u', e', h3', h4'⟩ := rel_one (hf _ _ hx) rfl
          simp only [List.cons.injEq, and_true] at e'
          refine ⟨.tuple #[.nilIface, .bool false], ?_, ⟨⟨_, rfl, _, _, rfl, ⟨rfl, rfl⟩, _, _, rfl, ⟨rfl, rfl⟩, rfl⟩, rfl⟩⟩
          simp only [execOp, e', Sem.run_bind, h u' w, Result.andThen_ok, Sem.run_pure]
    · rename_i hx
      split at h
      · rename_i z hz; exact .inr ⟨_, rv_assert_nil hx ht hz, h⟩
      · exact .inl h
    · exact .inl h
  · exact .inl h
theorem valX_ok {GL : List (Nat × List AVal)} (hGL : GloAll C.G GL) {op : Op} (h : valX P GL env H op F K) : XOk P C H env op F K := by
  unfold valX at h
  split at h
  · split at h
    · rename_i av hx; exact .inr ⟨_, rv_move hx, h⟩
    · exact .inl h
  · split at h
    · rename_i av hx; exact .inr ⟨_, rv_assign hx, h⟩
    · exact .inl h
  · split at h
    · rename_i b a a' hc hx hy
      refine .inr ⟨_, rv_pick hc hx hy, ?_⟩
      cases b
      · exact h.2 rfl
      · exact h.1 rfl
    · exact .inl h
  · exact binX_ok h
  · split at h
    · rename_i b hx; exact .inr ⟨_, rv_not hx, h⟩
    · exact .inl h
  · split at h
    · rename_i k m hx
      generalize hb : boundsK k = bd at h
      obtain ⟨lo, hi⟩ := bd
      exact .inr ⟨_, rv_neg hx (fits_of hb h.1), h.2⟩
    · exact .inl h
  · exact builtX_ok h
  · split at h
    · rename_i cs hx
      split at h
      · rename_i av hi; exact .inr ⟨_, rv_extract hx hi, h⟩
      · exact .inl h
    · exact .inl h
  · exact indexX_ok h
  · exact sliceX_ok h
  · exact loadX_ok hGL h
  · exact fieldAddrX_ok h
  · exact fieldX_ok h
  · exact indexAddrX_ok hGL h
  · exact nilCheckX_ok h
  · exact convX_ok h
  · exact buildX_ok h
  · exact ifaceX_ok h
  · split at h
    · rename_i a1 a2 h1 h2
      have := rv_makeFunc (P := P) (C := C) (H := H) (fn := ‹Fn›) h1 h2
      exact .inr ⟨_, by simpa using this, h⟩
    · exact .inl h
  · exact assertX_ok h
  · exact .inl h
end
end Go.Proofs.YtmgkpbgfkjedeaaGreatDoor
namespace Go.Proofs.YtmgkpbgfkjedeaaGreatDoor
open Go
set_option linter.unusedSimpArgs false
set_option linter.unusedSectionVars false
set_option linter.unusedVariables false
def keyEq : AVal → AVal → Option Bool
  | .str s, .str t => some (seqB s t)
  | .int k m, .int j q => match Nat.beq (kix k) (kix j) with
    | true => some (eqB m q)
    | false => none
  | .bool true, .bool t => some t
  | .bool false, .bool t => some (!t)
  | _, _ => none
def kindK : TypeDesc → AVal → Bool
  | .string, .str _ => true
  | .int _, .int _ _ => true
  | .bool, .bool _ => true
  | _, _ => false
/-- A key looked for. -/
noncomputable def findX (k : AVal) (F : Prop) (hit : Nat → AVal → Prop) (miss : Prop) (l : List (AVal × AVal)) : Nat → Prop :=
  List.rec (motive := fun _ => Nat → Prop) (fun _ => miss) (fun a _ ih i => match keyEq k a.1 with
    | some b => Sc b (hit i a.2) (ih (i + 1))
    | none => F) l
noncomputable def lookX (k : AVal) (F : Prop) (hit : Nat → AVal → Prop) (miss : Prop) (l : List (AVal × AVal)) : Prop :=
  match k with
  | .bool b => Sc b (findX (.bool true) F hit miss l 0) (findX (.bool false) F hit miss l 0)
  | k => findX k F hit miss l 0
def findL (k : AVal) : List (AVal × AVal) → Nat → Option (Option (Nat × AVal))
  | [], _ => some none
  | a :: l, i => match keyEq k a.1 with
    | some true => some (some (i, a.2))
    | some false => findL k l (i + 1)
    | none => none
def zeroV (z : Option Value) : Option AVal :=
  match z with
  | some (.agg cs) => match zeroCellsA (some (.agg cs)) with
    | some l => some (.agg l)
    | none => none
  | some v => some (ofV v)
  | none => none
theorem zeroV_rel {R : Seal} {z : Option Value} {a : AVal} (h : zeroV z = some a) : ∃ v, z = some v ∧ Rel R a v := by
  unfold zeroV at h
  split at h
  · rename_i cs
    split at h
    · rename_i l hl
      cases h
      obtain ⟨v, hv, hr⟩ := zeroCellsA_rel (R := R) hl
      cases hv
      exact ⟨_, rfl, hr, rfl⟩
    · cases h
  · cases h
    exact ⟨_, rfl, rel_ofV R _⟩
  · cases h
theorem findX_ok {k : AVal} {F : Prop} {hit : Nat → AVal → Prop} {miss : Prop} : ∀ (l : List (AVal × AVal)) (i : Nat), findX k F hit miss l i → F ∨ (∃ j a, findL k l i = some (some (j, a)) ∧ hit j a) ∨ (findL k l i = some none ∧ miss)
  | [], i, h => .inr (.inr ⟨rfl, h⟩)
  | a :: l, i, h => by
    have h : (match keyEq k a.1 with
      | some b => Sc b (hit i a.2) (findX k F hit miss l (i + 1))
      | none => F) := h
    have ih := findX_ok (k := k) (F := F) (hit := hit) (miss := miss) l (i + 1)
    split at h
    · rename_i b hb
      cases b with
      | true => exact .inr (.inl ⟨i, a.2, by simp only [findL, hb], h.1 rfl⟩)
      | false =>
        rcases ih (h.2 rfl) with q | ⟨j, v, q, w⟩ | ⟨q, w⟩
        · exact .inl q
        · exact .inr (.inl ⟨j, v, by simp only [findL, hb]; exact q, w⟩)
        · exact .inr (.inr ⟨by simp only [findL, hb]; exact q, w⟩)
    · exact .inl h
theorem lookX_ok {k : AVal} {F : Prop} {hit : Nat → AVal → Prop} {miss : Prop} {l : List (AVal × AVal)} (h : lookX k F hit miss l) : F ∨ (∃ j a, findL k l 0 = some (some (j, a)) ∧ hit j a) ∨ (findL k l 0 = some none ∧ miss) := by
  unfold lookX at h
  split at h
  · rename_i b
    cases b with
    | true => exact findX_ok l 0 (h.1 rfl)
    | false => exact findX_ok l 0 (h.2 rfl)
  · exact findX_ok l 0 h
theorem same_str (s t : List UInt8) : ((⟨s.toArray⟩ : ByteArray) == ⟨t.toArray⟩) = seqB s t := by
  show ((s.toArray : Array UInt8) == t.toArray) = seqB s t
  unfold seqB
  rw [Bool.eq_iff_iff, beq_iff_eq, beq_iff_eq]
  exact ⟨fun h => by simpa using congrArg Array.toList h, fun h => by rw [h]⟩
theorem kind_str {kd : TypeDesc} {s : List UInt8} (h : kindK kd (.str s) = true) : kd = .string := by
  cases kd <;> first | rfl | cases h
theorem kind_int {kd : TypeDesc} {k : IntKind} {m : Int} (h : kindK kd (.int k m) = true) : ∃ j, kd = .int j := by
  cases kd <;> first | exact ⟨_, rfl⟩ | cases h
theorem kind_bool {kd : TypeDesc} {b : Bool} (h : kindK kd (.bool b) = true) : kd = .bool := by
  cases kd <;> first | rfl | cases h
theorem kindK_cases {kd : TypeDesc} {k : AVal} (h : kindK kd k = true) : (∃ s, k = .str s ∧ kd = .string) ∨ (∃ i m j, k = .int i m ∧ kd = .int j) ∨ (∃ b, k = .bool b ∧ kd = .bool) := by
  cases k with
  | str s => exact .inl ⟨s, rfl, kind_str h⟩
  | int i m => obtain ⟨j, e⟩ := kind_int h; exact .inr (.inl ⟨i, m, j, rfl, e⟩)
  | bool b => exact .inr (.inr ⟨b, rfl, kind_bool h⟩)
  | _ => exfalso; revert h; cases kd <;> exact fun h => by cases h
theorem sameNow_of {R : Seal} {kd : TypeDesc} {k a : AVal} {kv ev : Value} {b : Bool} (hk : kindK kd k = true) (h1 : Rel R k kv) (h2 : Rel R a ev) (h : keyEq k a = some b) : Instr.sameNow kd kv ev = some b ∧ (b = true → ev = kv) := by
  unfold keyEq at h
  split at h
  · cases h
    obtain rfl := rel_str.1 h1
    obtain rfl := rel_str.1 h2
    obtain rfl := kind_str hk
    refine ⟨by simp only [Instr.sameNow, same_str], fun e => ?_⟩
    rw [seqB_t.1 e]
  · rename_i k m j q
    split at h
    · rename_i hkk
      cases h
      obtain rfl := kix_eq hkk
      obtain rfl := rel_int.1 h1
      obtain rfl := rel_int.1 h2
      obtain ⟨j, rfl⟩ := kind_int hk
      refine ⟨by unfold eqB; simp only [Instr.sameNow, if_true]; rfl, fun e => ?_⟩
      rw [eqB_t.1 e]
    · cases h
  · cases h
    obtain rfl := rel_bool.1 h1
    obtain rfl := rel_bool.1 h2
    obtain rfl := kind_bool hk
    refine ⟨by cases b <;> rfl, fun e => by rw [e]⟩
  · rename_i t
    cases h
    obtain rfl := rel_bool.1 h1
    obtain rfl := rel_bool.1 h2
    obtain rfl := kind_bool hk
    refine ⟨by cases t <;> rfl, fun e => by cases t <;> first | rfl | cases e⟩
  · cases h
theorem findNow_of {R : Seal} {kd : TypeDesc} {k : AVal} {kv : Value} (hk : kindK kd k = true) (h1 : Rel R k kv) : ∀ {l : List (AVal × AVal)} {E : List MapEntry} (i : Nat), MapRel R l E →
    (findL k l i = some none → Instr.findNow kd kv E i = some none) ∧
    ∀ j a, findL k l i = some (some (j, a)) → ∃ p e, i ≤ j ∧ l[j - i]? = some p ∧ p.2 = a ∧ E[j - i]? = some e ∧ e.key = kv ∧ Rel R a e.val ∧ Instr.findNow kd kv E i = some (some (j, e.val))
  | [], E, i, hm => by
    have hm : E = [] := hm
    subst hm
    refine ⟨fun _ => rfl, fun j a h => ?_⟩
    simp [findL] at h
  | q :: l, E, i, hm => by
    obtain ⟨e, t, rfl, ⟨r1, r2⟩, hm⟩ := hm
    have ih := findNow_of hk h1 (i + 1) hm
    simp only [findL]
    cases hb : keyEq k q.1 with
    | none => refine ⟨fun h => ?_, fun j a h => ?_⟩ <;> simp at h
    | some b =>
      obtain ⟨hs, hv⟩ := sameNow_of hk h1 r1 hb
      cases b with
      | true =>
        refine ⟨fun h => ?_, fun j a h => ?_⟩
        · simp at h
        · simp only [Option.some.injEq, Prod.mk.injEq] at h
          obtain ⟨rfl, rfl⟩ := h
          exact ⟨q, e, Nat.le_refl _, by simp, rfl, by simp, hv rfl, r2, by simp only [Instr.findNow, hs]⟩
      | false =>
        refine ⟨fun h => by simp only [Instr.findNow, hs]; exact ih.1 h, fun j a h => ?_⟩
        obtain ⟨p, e', hle, h2, h3, h4, h5, h6, h7⟩ := ih.2 j a h
        have ej : j - i = (j - (i + 1)) + 1 := by omega
        exact ⟨p, e', by omega, by rw [ej, List.getElem?_cons_succ]; exact h2, h3, by rw [ej, List.getElem?_cons_succ]; exact h4, h5, h6, by simp only [Instr.findNow, hs]; exact h7⟩
theorem str_refl (s : List UInt8) : ((⟨s.toArray⟩ : ByteArray) == ⟨s.toArray⟩) = true := (same_str s s).trans (seqB_t.2 rfl)
theorem sameBits_self {R : Seal} {kd : TypeDesc} {k : AVal} {kv : Value} (hk : kindK kd k = true) (h1 : Rel R k kv) : Instr.sameBits 10000 kv kv = true := by
  rcases kindK_cases hk with ⟨s, rfl, _⟩ | ⟨i, m, j, rfl, _⟩ | ⟨b, rfl, _⟩
  · obtain rfl := rel_str.1 h1; simp only [Instr.sameBits, str_refl]
  · obtain rfl := rel_int.1 h1; simp [Instr.sameBits]
  · obtain rfl := rel_bool.1 h1; simp [Instr.sameBits]
section
variable {P : Program} [Tab P] {C : Ctx} {n : Nat} {env : Env} {H : Heap} {Q : AExit → Env → Heap → Prop} {ops : Array Oper} {rest : List Oper}
variable {d : Nat} {t : TypeId} {p : String} {af : Array Edge} {g : Option (Nat × Bool)} {b : Bool}
variable {x y z : Operand} {T kt et : TypeId} {xT xk xe : TI}
theorem checkKey_n {R : Seal} {k : AVal} {kv : Value} (em : Bool) (h : tab P kt = some xk) (hk : kindK xk.desc k = true) (h1 : Rel R k kv) (w : World) (n : Nat) : (Instr.checkKey em (n + 1) kt kv).run P w = .ok () w := by
  rcases kindK_cases hk with ⟨s, rfl, hd⟩ | ⟨i, m, j, rfl, hd⟩ | ⟨b, rfl, hd⟩
  · obtain rfl := rel_str.1 h1
    simp only [Instr.checkKey, Sem.run_bind, tab_run_und h, hd, Result.andThen_ok, Sem.run_pure]
  · obtain rfl := rel_int.1 h1
    simp only [Instr.checkKey, Sem.run_bind, tab_run_und h, hd, Result.andThen_ok, Sem.run_pure]
  · obtain rfl := rel_bool.1 h1
    simp only [Instr.checkKey, Sem.run_bind, tab_run_und h, hd, Result.andThen_ok, Sem.run_pure]
theorem checkKey_run {R : Seal} {k : AVal} {kv : Value} (em : Bool) (h : tab P kt = some xk) (hk : kindK xk.desc k = true) (h1 : Rel R k kv) (w : World) : (Instr.checkKey em 10000 kt kv).run P w = .ok () w := checkKey_n em h hk h1 w 9999
theorem own_map {R : Seal} {w : World} {i bl : Nat} {es : List (AVal × AVal)} (hm : MS C R H w) (hi : H[i]? = some (.mp bl es)) : ∃ E cl, w.heap[bl]? = some (.map E cl) ∧ MapRel R es E.toList := hm.heap.holds _ (List.mem_of_getElem? hi)
theorem rv_look_hit {i0 i bl j : Nat} {es : List (AVal × AVal)} {k a : AVal} (ok : Bool) (hx : evalA env x = some (.own i0 (.map (some bl)))) (hy : evalA env y = some k) (hi : H[i]? = some (.mp bl es)) (h1 : tab P T = some xT) (h2 : xT.desc = .map kt et) (h3 : tab P kt = some xk) (h4 : kindK xk.desc k = true) (h5 : findL k es 0 = some (some (j, a))) :
    RunV P C H env (.lookup T x y ok) (match ok with | true => .tuple [a, .bool true] | false => a) := by
  intro R ρ w hm hf dst t p af g
  obtain ⟨E, cl, hb, hl⟩ := own_map hm hi
  have hky := hf _ _ hy
  obtain ⟨q, e, _, _, _, _, _, hr, hn⟩ := (findNow_of h4 hky 0 hl).2 j a h5
  refine ⟨if ok then .tuple #[e.val, .bool true] else e.val, ?_, ?_⟩
  · simp only [execOp, (rel_own.1 (hf _ _ hx)).1, Instr.lookup, Sem.run_bind, tab_run_und h1, h2, Result.andThen_ok, run_getObj_at hb (by simp), Sem.run_pure, checkKey_run _ h3 h4 hky, Instr.findKey, tab_run_und h3, hn]
  · cases ok
    · exact hr
    · exact ⟨⟨_, rfl, _, _, rfl, hr, _, _, rfl, ⟨rfl, rfl⟩, rfl⟩, rfl⟩
theorem rv_look_miss {i0 i bl : Nat} {es : List (AVal × AVal)} {k a : AVal} (ok : Bool) (hx : evalA env x = some (.own i0 (.map (some bl)))) (hy : evalA env y = some k) (hi : H[i]? = some (.mp bl es)) (h1 : tab P T = some xT) (h2 : xT.desc = .map kt et) (h3 : tab P kt = some xk) (h4 : kindK xk.desc k = true) (h5 : findL k es 0 = some none) (h6 : tab P et = some xe) (h7 : zeroV xe.zero = some a) :
    RunV P C H env (.lookup T x y ok) (match ok with | true => .tuple [a, .bool false] | false => a) := by
  intro R ρ w hm hf dst t p af g
  obtain ⟨E, cl, hb, hl⟩ := own_map hm hi
  have hky := hf _ _ hy
  have hn := (findNow_of h4 hky 0 hl).1 h5
  obtain ⟨v, hv, hr⟩ := zeroV_rel (R := R) h7
  refine ⟨if ok then .tuple #[v, .bool false] else v, ?_, ?_⟩
  · simp only [execOp, (rel_own.1 (hf _ _ hx)).1, Instr.lookup, Sem.run_bind, tab_run_und h1, h2, Result.andThen_ok, run_getObj_at hb (by simp), Sem.run_pure, checkKey_run _ h3 h4 hky, Instr.findKey, tab_run_und h3, hn, tab_run_zero h6 hv]
  · cases ok
    · exact hr
    · exact ⟨⟨_, rfl, _, _, rfl, hr, _, _, rfl, ⟨rfl, rfl⟩, rfl⟩, rfl⟩
theorem mapRel_push {R : Seal} {a : AVal × AVal} {e : MapEntry} (h1 : Rel R a.1 e.key) (h2 : Rel R a.2 e.val) : ∀ {l : List (AVal × AVal)} {E : List MapEntry}, MapRel R l E → MapRel R (l ++ [a]) (E ++ [e])
  | [], E, h => by
    have h : E = [] := h
    subst h
    exact ⟨e, [], rfl, ⟨h1, h2⟩, rfl⟩
  | q :: l, E, h => by
    obtain ⟨e', t, rfl, r, h⟩ := h
    exact ⟨e', _, rfl, r, mapRel_push h1 h2 h⟩
theorem mapRel_set {R : Seal} {a : AVal × AVal} {e : MapEntry} (h1 : Rel R a.1 e.key) (h2 : Rel R a.2 e.val) : ∀ {l : List (AVal × AVal)} {E : List MapEntry} (i : Nat), MapRel R l E → MapRel R (l.set i a) (E.set i e)
  | [], E, i, h => by
    have h : E = [] := h
    subst h
    exact rfl
  | q :: l, E, 0, h => by
    obtain ⟨e', t, rfl, r, h⟩ := h
    exact ⟨e, _, rfl, ⟨h1, h2⟩, h⟩
  | q :: l, E, i + 1, h => by
    obtain ⟨e', t, rfl, r, h⟩ := h
    exact ⟨e', _, rfl, r, mapRel_set h1 h2 i h⟩
theorem setObj_one {w : World} {bl : Nat} {o o' : Obj} (h : w.heap[bl]? = some o) : OneBlk w bl o' { w with heap := w.heap.setIfInBounds bl o' } := by
  have hlt := heap_lt h
  exact ⟨rfl, rfl, rfl, by simp, by simp [hlt], fun k hk => by simp only []; rw [Array.getElem?_setIfInBounds_ne (Ne.symm hk)]⟩
theorem run_setObj_at {w : World} {bl cl : Nat} {E : Array MapEntry} {o' : Obj} (h : w.heap[bl]? = some (.map E cl)) : (setObj bl o').run P w = .ok () { w with heap := w.heap.setIfInBounds bl o' } := by
  simp only [setObj, Sem.run, h]
theorem ao_mapnew {T : TypeId} (hg : guardA ops env g = some (b, b)) (hdn : Nat.ble (d + 1) n = true)
    (h : ∀ bl : Nat, AOps P C n ops rest ((d, .raw (.map (some bl))) :: env) (.mp bl [] :: H) Q) :
    AOps P C n ops ({ dst := some d, op := .makeMap T none, type := t, pos := p, after := af, guard := g } :: rest) env H Q := by
  refine ao_valX (av := fun bl : Nat => .raw (.map (some bl))) (H' := fun bl => .mp bl [] :: H) hg rfl hdn (fun R ρ w hm hf => ?_) h
  refine ⟨w.heap.size, _, grow w (.map #[] 0), R, ?_, Seal.le_refl R, rel_raw.2 rfl, hm.alloc _ _ rfl ⟨_, _, grow_at w _, rfl⟩⟩
  rfl
/-- An entry laid in: the op is mapUpdate or insert. -/
theorem ao_mapset {op : Op} (hop : op = .mapUpdate T x y z ∨ op = .insert T x y z) {i0 i bl : Nat} {es : List (AVal × AVal)} {k a : AVal} (hg : guardA ops env g = some (b, b)) (hx : evalA env x = some (.own i0 (.map (some bl)))) (hy : evalA env y = some k) (hz : evalA env z = some a) (hi : H[i]? = some (.mp bl es)) (h1 : tab P T = some xT) (h2 : xT.desc = .map kt et) (h3 : tab P kt = some xk) (h4 : kindK xk.desc k = true)
    (h : (∃ j v, findL k es 0 = some (some (j, v)) ∧ AOps P C n ops rest env (H.set i (.mp bl (es.set j (k, a)))) Q) ∨ (findL k es 0 = some none ∧ AOps P C n ops rest env (H.set i (.mp bl (es ++ [(k, a)]))) Q)) :
    AOps P C n ops ({ dst := none, op := op, type := t, pos := p, after := af, guard := g } :: rest) env H Q := by
  have he : ∀ ρ : Operand → Value, execOp ρ { dst := none, op := op, type := t, pos := p, after := af, guard := g } = execOp ρ { dst := none, op := .mapUpdate T x y z, type := t, pos := p, after := af, guard := g } := by
    intro ρ
    rcases hop with rfl | rfl <;> rfl
  rcases h with ⟨j, v, hj, h⟩ | ⟨hj, h⟩
  · refine ao_skipval hg rfl (fun R ρ w hm hf => ?_) h
    obtain ⟨E, cl, hb, hl⟩ := own_map hm hi
    have hky := hf _ _ hy
    obtain ⟨q, e, _, _, _, h5, h6, hr, hn⟩ := (findNow_of h4 hky 0 hl).2 j v hj
    have h5 : E[j]? = some e := by simpa using h5
    have hlt : j < E.size := by
      rcases Nat.lt_or_ge j E.size with h | h
      · exact h
      · rw [Array.getElem?_eq_none h] at h5; cases h5
    have ho := setObj_one (o' := .map (E.modify j fun e => { e with key := ρ y, val := ρ z }) cl) hb
    refine ⟨_, R, ?_, Seal.le_refl R, hm.write hi rfl ho rfl ⟨_, _, ho.at_, ?_⟩⟩
    · rw [he]
      simp only [execOp, (rel_own.1 (hf _ _ hx)).1, Instr.mapUpdate, Sem.run_bind, tab_run_und h1, h2, Result.andThen_ok, run_getObj_at hb (by simp), Sem.run_pure, checkKey_run _ h3 h4 hky, Instr.findKey, tab_run_und h3, hn, h5, Option.map_some, Option.getD_some, h6, Instr.keyThatStays, sameBits_self h4 hky, if_true, run_setObj_at hb]
    · have e1 : (E.modify j fun e => { e with key := ρ y, val := ρ z }).toList = E.toList.set j { key := ρ y, val := ρ z, born := e.born } := by
        rw [Array.toList_modify, List.modify_eq_set]
        have : E.toList[j]? = some e := by simpa using h5
        rw [this]
        rfl
      rw [e1]
      exact mapRel_set (a := (k, a)) hky (hf _ _ hz) j hl
  · refine ao_skipval hg rfl (fun R ρ w hm hf => ?_) h
    obtain ⟨E, cl, hb, hl⟩ := own_map hm hi
    have hky := hf _ _ hy
    have hn := (findNow_of h4 hky 0 hl).1 hj
    have ho := setObj_one (o' := .map (E.push { key := ρ y, val := ρ z, born := cl }) (cl + 1)) hb
    refine ⟨_, R, ?_, Seal.le_refl R, hm.write hi rfl ho rfl ⟨_, _, ho.at_, ?_⟩⟩
    · rw [he]
      simp only [execOp, (rel_own.1 (hf _ _ hx)).1, Instr.mapUpdate, Sem.run_bind, tab_run_und h1, h2, Result.andThen_ok, run_getObj_at hb (by simp), Sem.run_pure, checkKey_run _ h3 h4 hky, Instr.findKey, tab_run_und h3, hn, run_setObj_at hb]
    · rw [Array.toList_push]
      exact mapRel_push (a := (k, a)) hky (hf _ _ hz) hl
end
end Go.Proofs.YtmgkpbgfkjedeaaGreatDoor
namespace Go.Proofs.YtmgkpbgfkjedeaaGreatDoor
open Go
set_option linter.unusedSimpArgs false
set_option linter.unusedSectionVars false
set_option linter.unusedVariables false
/-- Ranging: more, or the end. -/
structure Nx (pos : Nat) (s : List UInt8) (a b : Prop) : Prop where
  more : pos < s.length → a
  done : s.length ≤ pos → b
theorem nx_i {pos : Nat} {s : List UInt8} {a b : Prop} (h : pos < s.length → a) (k : s.length ≤ pos → b) : Nx pos s a b := ⟨h, k⟩
mutual
def unown : AVal → AVal
  | .own _ v => .raw v
  | .tuple cs => .tuple (unownL cs)
  | .iface t v => .iface t (unown v)
  | .func f a b => .func f (unownL a) (unownL b)
  | a => a
def unownL : List AVal → List AVal
  | [] => []
  | c :: cs => unown c :: unownL cs
end
mutual
theorem unown_rel {R : Seal} : ∀ (a : AVal) (v : Value), Rel R a v → Rel R (unown a) v
  | .own i x, v, h => by simp only [unown]; exact rel_raw.2 (rel_own.1 h).1
  | .tuple cs, v, ⟨⟨ws, e, h⟩, h2⟩ => by simp only [unown]; exact ⟨⟨ws, e, unownL_rel cs _ h⟩, h2⟩
  | .iface t a, v, ⟨⟨w, e, h, k⟩, h2⟩ => by
    simp only [unown]
    have := unown_rel a w ⟨h, k⟩
    exact ⟨⟨w, e, this.1, this.2⟩, h2⟩
  | .func f a b, v, ⟨⟨x, y, e, h, k⟩, h2⟩ => by simp only [unown]; exact ⟨⟨x, y, e, unownL_rel a _ h, unownL_rel b _ k⟩, h2⟩
  | .bool _, _, h => h
  | .int _ _, _, h => h
  | .str _, _, h => h
  | .raw _, _, h => h
  | .list _ _ _, _, h => h
  | .rop _ _, _, h => h
  | .agg _, _, h => h
theorem unownL_rel {R : Seal} : ∀ (a : List AVal) (vs : List Value), RelV R a vs → RelV R (unownL a) vs
  | [], _, h => h
  | c :: cs, _, ⟨v, t, e, ⟨h1, h2⟩, k⟩ => by
    have := unown_rel c v ⟨h1, h2⟩
    exact ⟨v, t, e, ⟨this.1, this.2⟩, unownL_rel cs t k⟩
end
/-- A call of a method of what an interface value holds. -/
inductive Iv (P : Program) (G : Glo) (ty : TypeId) (a : AVal) (name : String) (avs : List AVal) (H : Heap) (K : AVal → Heap → Prop) (Kp : AVal → Heap → Prop) : Prop
  | mk (f : FuncId) (r : AVal) (hm : ∀ R v, Rel R a v → ∀ w, ∃ u, (Go.method (P.types.size + Made.depth) ty v name).run P w = .ok (f, u) w ∧ Rel R r u) (k : Cx P G f (r :: avs) H K Kp)
def srcChk (sz : Nat) (f : Nat → AVal) : Nat → Bool
  | 0 => true
  | m + 1 => ((f m).plain && Nat.beq (f m).cells.length sz && allOK (f m).cells) && srcChk sz f m
theorem srcChk_ok {sz : Nat} {f : Nat → AVal} : ∀ {m : Nat}, srcChk sz f m = true → ∀ i, i < m → (f i).plain = true ∧ (f i).cells.length = sz ∧ allOK (f i).cells = true
  | 0, _, i, h => absurd h (Nat.not_lt_zero _)
  | m + 1, h, i, hi => by
    simp only [srcChk, Bool.and_eq_true] at h
    by_cases e : i = m
    · subst e; exact ⟨h.1.1.1, Nat.eq_of_beq_eq_true h.1.1.2, h.1.2⟩
    · exact srcChk_ok h.2 i (by omega)
/-- Elements that may be laid into a row. -/
def SrcOK (sz m : Nat) (f : Nat → AVal) : Prop := ∀ i, i < m → (f i).plain = true ∧ (f i).cells.length = sz ∧ allOK (f i).cells = true
def rowCells (m : Nat) (f : Nat → AVal) : List AVal := (List.range m).flatMap fun i => (f i).cells
section
variable (P : Program) [Tab P] (C : Ctx) (n : Nat) (G : Glo) (GL : List (Nat × List AVal))
def cellsOf (a : AVal) (F : Prop) (K : List AVal → Prop) : Prop :=
  match a with
  | .agg cs => forceL cs K
  | .raw (.agg _) => F
  | a => K [a]
def storeX (env : Env) (H : Heap) (T : TypeId) (x y : Operand) (F : Prop) (K : Heap → Prop) : Prop :=
  match tab P T with
  | some xT => match evalA env x, evalA env y with
    | some (.own i (.pointer (some ⟨b, o, none⟩))), some a => match H[i]? with
      | some (.cells b' eT cs) => cellsOf a F fun ac => match Nat.beq ac.length xT.size, Nat.ble (o + xT.size) cs.length, allOK ac with
        | true, true, true => Sp (b' = b) (forceL (cs.take o ++ ac ++ cs.drop (o + xT.size)) fun c => forceH (H.set i (.cells b eT c)) K)
        | _, _, _ => F
      | some (.buf b' s cap) => match a, Nat.beq xT.size 1 with
        | .int .u8 m, true => Sp (b' = b ∧ o < s.length ∧ 0 ≤ m ∧ m ≤ 255) (forceH (H.set i (.buf b (s.set o (UInt8.ofNat m.toNat)) cap)) K)
        | _, _ => F
      | some (.row v' eT sz n cs) => cellsOf a F fun ac => match Nat.beq ac.length xT.size, allOK ac with
        | true, true => match Nat.beq xT.size 1 with
          | true => Sp (RowAt v' b n ∧ o + 1 ≤ n * sz ∧ 0 < n) (forceH (H.set i (.row v' eT sz n (cs.take o ++ ac ++ cs.drop (o + 1)))) K)
          | false => Sp (RowAt v' b n ∧ o + xT.size ≤ n * sz ∧ 0 < n) (forceH (H.set i (.row v' eT sz n (cs.take o ++ ac ++ cs.drop (o + xT.size)))) K)
        | _, _ => F
      | _ => F
    | _, _ => F
  | none => F
def tyOK : Option TypeId → TypeId → Bool
  | none, _ => true
  | some t, e => Nat.beq e t
theorem tyOK_ok {eT : Option TypeId} {e : TypeId} (h : tyOK eT e = true) : ∀ t, eT = some t → e = t := by
  rintro t rfl
  exact Nat.eq_of_beq_eq_true h
def appendX (env : Env) (H : Heap) (T tx : TypeId) (x y : Operand) (F : Prop) (K : AVal → Heap → Prop) : Prop :=
  match tab P T, tab P tx with
  | some xT, some xx => match xT.desc, xx.desc with
    | .slice e, .slice _ => match tab P e with
      | some xe => match zeroCellsA xe.zero, Nat.ble xe.bytes 1024, Nat.ble 1 xe.size with
        | some z, true, true => match Nat.beq z.length xe.size, evalA env y with
          | true, some (.list sz m f) => match Nat.beq xe.size sz with
            | true => match evalA env x with
              | some (.own i v) => match H[i]? with
                | some (.row v' eT sz' n0 cs) => match tyOK eT e with
                  | true => Sp (v' = v ∧ sz' = sz ∧ n0 + m ≤ 137438953472)
                    (Ch (Sp (srcChk sz f m = true) (As (n0 + m) fun u => forceH (H.set i (.row u eT sz (n0 + m) (cs ++ rowCells m f))) fun H' => K (.own i u) H'))
                      (Sp (SrcOK sz m f) (As (n0 + m) fun u => forceH (H.set i (.row u eT sz (n0 + m) (cs ++ rowCells m f))) fun H' => K (.own i u) H')))
                  | false => F
                | _ => F
              | some (.raw (.slice none 0 0)) => Sp (m ≤ 137438953472)
                    (Ch (Sp (srcChk sz f m = true) (As m fun u => forceH (H ++ [.row u none sz m (rowCells m f)]) fun H' => K (.own H.length u) H'))
                      (Sp (SrcOK sz m f) (As m fun u => forceH (H ++ [.row u none sz m (rowCells m f)]) fun H' => K (.own H.length u) H')))
              | _ => F
            | false => F
          | _, _ => F
        | _, _, _ => F
      | none => F
    | _, _ => F
  | _, _ => F
def bytesX (env : Env) (H : Heap) (S T : TypeId) (s : List UInt8) (F : Prop) (K : AVal → Heap → Prop) : Prop :=
  match tab P S, tab P T with
  | some xS, some xT => match xS.desc, xT.desc with
    | .string, .slice e => match tab P e with
      | some xe => match xe.desc with
        | .int .u8 => Ac (fun cap => s.length ≤ cap) fun bl cap => forceH (H ++ [.buf bl s cap]) fun H' => K (.own H.length (.slice (some ⟨bl, 0, none⟩) s.length cap)) H'
        | _ => F
      | none => F
    | .string, .string => K (.str s) H
    | _, _ => F
  | _, _ => F
def buildSX (env : Env) (H : Heap) (T : TypeId) (m : Nat) (l : List (Nat × Operand)) (F : Prop) (K : AVal → Heap → Prop) : Prop :=
  match tab P T, partsA env l with
  | some xT, some ps => match xT.desc with
    | .slice e => match tab P e with
      | some xe => match zeroCellsA xe.zero with
        | some z => match Nat.beq z.length xe.size, inOrder 0 ps, partSizes xe.size ps, Nat.beq ps.length m, Nat.ble (m * xe.size) 16777216 with
          | true, true, true, true, true => Bo (K (.list xe.size m (partElem ps)) H) (As m fun v => forceL (partCells ps) fun cs => forceH (H ++ [.row v none xe.size m cs]) fun H' => K (.own H.length v) H')
          | _, _, _, _, _ => F
        | none => F
      | none => F
    | _ => F
  | _, _ => F
def callX (env : Env) (H : Heap) (fv : Operand) (args : List Operand) (F : Prop) (Kp : AVal → Heap → Prop) (K : AVal → Heap → Prop) : Prop :=
  match evalA env fv, argsA env args with
  | some (.func (.func f) l1 l2), some avs => forceL (unownL (l1 ++ (avs ++ l2))) fun avs => Cx P G f avs H K Kp
  | _, _ => F
noncomputable def mapSetX (env : Env) (H : Heap) (T : TypeId) (x y z : Operand) (F : Prop) (K : Heap → Prop) : Prop :=
  match tab P T, evalA env x, evalA env y, evalA env z with
  | some xT, some (.own i (.map (some b))), some k, some a => match xT.desc, H[i]? with
    | .map kt et, some (.mp b' es) => match tab P kt with
      | some xk => match kindK xk.desc k with
        | true => Sp (b' = b) (lookX k F (fun j _ => forceH (H.set i (.mp b (es.set j (k, a)))) K) (forceH (H.set i (.mp b (es ++ [(k, a)]))) K) es)
        | _ => F
      | _ => F
    | _, _ => F
  | _, _, _, _ => F
noncomputable def memX (env : Env) (H : Heap) (op : Op) (F : Prop) (Kp : AVal → Heap → Prop) (K : AVal → Heap → Prop) : Prop :=
  match op with
  | .alloc T => match tab P T with
    | some xT => match zeroCellsA xT.zero with
      | some cs => Ab fun bl => forceL cs fun cs => forceH (H ++ [.cells bl (some T) cs]) fun H' => K (.own H.length (.pointer (some ⟨bl, 0, none⟩))) H'
      | none => F
    | none => F
  | .box T x => match evalA env x with
    | some a => cellsOf a F fun cs => Bo (K (.rop cs 0) H) (Ab fun bl => forceH (H ++ [.cells bl (some T) cs]) fun H' => K (.own H.length (.pointer (some ⟨bl, 0, none⟩))) H')
    | none => F
  | .call ⟨.builtin .append, args, ts⟩ => match args.toList, ts.toList with
    | [x, y], [T, tx] => appendX P env H T tx x y F K
    | _, _ => F
  | .call ⟨.invoke recv name, args, _⟩ => match evalA env recv, argsA env args.toList with
    | some (.iface ty a), some avs => Iv P G ty (unown a) name (unownL avs) H K Kp
    | _, _ => F
  | .call ⟨.value fv, args, _⟩ => callX P G env H fv args.toList F Kp K
  | .convert S T x => match evalA env x with
    | some (.str s) => bytesX P env H S T s F K
    | _ => valX P GL env H (.convert S T x) F fun av => K av H
  | .buildSlice T m l => buildSX P env H T m l.toList F K
  | .range T x => match tab P T, evalA env x with
    | some xT, some (.str s) => match xT.desc with
      | .string => Ab fun bl => forceH (H ++ [.iter bl s 0]) fun H' => K (.own H.length (.pointer (some ⟨bl, 0, none⟩))) H'
      | _ => F
    | _, _ => F
  | .next x true => match evalA env x with
    | some (.own i (.pointer (some ⟨b, 0, none⟩))) => match H[i]? with
      | some (.iter b' s pos) => Sp (b' = b) (Nx pos s (forceH (H.set i (.iter b s (pos + stepS (s.drop pos)))) fun H' => K (.tuple [.bool true, .int .i64 (pos : Int), .int .i32 (rngR (s.drop pos) : Int)]) H') (K (.tuple [.bool false]) H))
      | _ => F
    | _ => F
  | .makeMap T none => Ab fun bl => forceH (H ++ [.mp bl []]) fun H' => K (.own H.length (.map (some bl))) H'
  | .lookup T x y ok => match tab P T, evalA env x, evalA env y with
    | some xT, some (.own i (.map (some b))), some k => match xT.desc, H[i]? with
      | .map kt et, some (.mp b' es) => match tab P kt, tab P et with
        | some xk, some xe => match kindK xk.desc k, zeroV xe.zero with
          | true, some z => Sp (b' = b) (lookX k F (fun _ a => match ok with | true => K (.tuple [a, .bool true]) H | false => K a H) (match ok with | true => K (.tuple [z, .bool false]) H | false => K z H) es)
          | _, _ => F
        | _, _ => F
      | _, _ => F
    | _, _, _ => F
  | op => valX P GL env H op F fun av => K av H
def guardX (ops : Array Oper) (env : Env) (g : Option (Nat × Bool)) (F : Prop) (run skip : Env → Prop) : Prop :=
  match g with
  | none => run env
  | some (j, want) => match ops[j]? with
    | some o => match o.dst with
      | some e => match Env.get env e with
        | some (.bool b) => match want with
          | true => Sc b (run ((e, .bool true) :: env)) (skip ((e, .bool false) :: env))
          | false => Sc b (skip ((e, .bool true) :: env)) (run ((e, .bool false) :: env))
        | some (.raw v) => Sp (v = undef) (skip env)
        | _ => F
      | none => F
    | none => F
/-- Left to be shown by other means. -/
structure Op1 (ops : Array Oper) (l : List Oper) (env : Env) (H : Heap) (Q : AExit → Env → Heap → Prop) : Prop where
  h : AOps P C n ops l env H Q
structure Cd (c : Code) (env : Env) (H : Heap) (Q : AExit → Env → Heap → Prop) : Prop where
  h : AWp P C n c env H Q
/-- One operation, what follows behind a variable. -/
noncomputable def stepX (ops : Array Oper) (o : Oper) (rest : List Oper) (Q : AExit → Env → Heap → Prop) (K : Env → Heap → Prop) (env : Env) (H : Heap) : Prop :=
  guardX ops env o.guard (Op1 P C n ops (o :: rest) env H Q)
    (fun env' => match o.op with
      | .panic x => match evalA env' x with
        | some (.iface ty v) => Q (.panic (.iface ty v)) env' H
        | _ => Op1 P C n ops (o :: rest) env' H Q
      | op => match o.dst with
        | some d => match Nat.ble (d + 1) n with
          | true => memX P G GL env' H op (Op1 P C n ops (o :: rest) env' H Q) (fun v H' => Q (.panic v) env' H') (fun av H' => K ((d, av) :: env') H')
          | false => Op1 P C n ops (o :: rest) env' H Q
        | none => match op with
          | .store T x y => storeX P env' H T x y (Op1 P C n ops (o :: rest) env' H Q) (fun H' => K env' H')
          | .mapUpdate T x y z => mapSetX P env' H T x y z (Op1 P C n ops (o :: rest) env' H Q) (fun H' => K env' H')
          | .insert T x y z => mapSetX P env' H T x y z (Op1 P C n ops (o :: rest) env' H Q) (fun H' => K env' H')
          | _ => Op1 P C n ops (o :: rest) env' H Q)
    (fun env' => match o.dst with
      | some d => match Nat.ble (d + 1) n with
        | true => K ((d, .raw undef) :: env') H
        | false => Op1 P C n ops (o :: rest) env' H Q
      | none => K env' H)
noncomputable def opsX (ops : Array Oper) (Q : AExit → Env → Heap → Prop) (l : List Oper) : Env → Heap → Prop :=
  List.rec (motive := fun _ => Env → Heap → Prop) (fun env H => Q .normal env H) (fun o rest ih => stepX P C n G GL ops o rest Q ih) l
def blockX (id : Nat) (Q : AExit → Env → Heap → Prop) : AExit → Env → Heap → Prop
  | .exit i, e, h => match Nat.beq i id with
    | true => Q .normal e h
    | false => Q (.exit i) e h
  | x, e, h => Q x e h
/-- A loop. -/
structure Lp (c : Code) (env : Env) (H : Heap) (Q : AExit → Env → Heap → Prop) : Prop where
  h : AWp P C n (.loop c) env H Q
/-- A region that draws its order. -/
structure Dw (id : Nat) (ops : Array Oper) (env : Env) (H : Heap) (Q : AExit → Env → Heap → Prop) : Prop where
  h : AWp P C n (.region id ops true) env H Q
noncomputable def codeX (c : Code) : Env → Heap → (AExit → Env → Heap → Prop) → Prop :=
  Code.rec (motive := fun _ => Env → Heap → (AExit → Env → Heap → Prop) → Prop)
    (fun env H Q => Q .normal env H)
    (fun id ops d env H Q => match d with
      | false => opsX P C n G GL ops Q ops.toList env H
      | true => Dw P C n id ops env H Q)
    (fun _ _ iha ihb env H Q => iha env H (thenQ (fun e h => ihb e h Q) Q))
    (fun c x y ihx ihy env H Q => match evalA env c with
      | some (.bool b) => Sc b (ihx env H Q) (ihy env H Q)
      | _ => Cd P C n (.cond c x y) env H Q)
    (fun id _ ih env H Q => ih env H (blockX id Q))
    (fun c _ env H Q => Lp P C n c env H Q)
    (fun f ps a b _ _ env H Q => Cd P C n (.rangeFunc f ps a b) env H Q)
    (fun id env H Q => Q (.exit id) env H)
    (fun c _ env H Q => Cd P C n (.scope c) env H Q)
    (fun l env H Q => Cd P C n (.label l) env H Q)
    (fun l env H Q => Cd P C n (.goto l) env H Q)
    (fun env H Q => Q .ret env H)
    (fun w env H Q => Cd P C n (.refuse w) env H Q) c
end
section
variable {P : Program} [Tab P] {C : Ctx} {n : Nat} {env : Env} {H : Heap} {Q : AExit → Env → Heap → Prop} {ops : Array Oper} {rest : List Oper} {GL : List (Nat × List AVal)}
variable {eT : Option TypeId}
variable {d : Nat} {t : TypeId} {p : String} {af : Array Edge} {g : Option (Nat × Bool)} {b : Bool}
/-- What is known of the slots may be told otherwise. -/
theorem ao_env {l : List Oper} {env' : Env} (hs : ∀ {D : List Deferred} R a, FSa D n R env a → FSa D n R env' a) (h : AOps P C n ops l env' H Q) : AOps P C n ops l env H Q :=
  fun R a w hm hf => h R a w hm (hs R a hf)
theorem aw_env {c : Code} {env' : Env} (hs : ∀ {D : List Deferred} R a, FSa D n R env a → FSa D n R env' a) (h : AWp P C n c env' H Q) : AWp P C n c env H Q :=
  fun R a w hm hf => h R a w hm (hs R a hf)
theorem ao_perm {l : List Oper} {H' : Heap} (hs : H.Perm H') (h : AOps P C n ops l env H' Q) : AOps P C n ops l env H Q :=
  fun R a w hm hf => h R a w (hm.perm hs) hf
theorem ao_end {l : List Oper} {x : HEnt} (h : AOps P C n ops l env (H ++ [x]) Q) : AOps P C n ops l env (x :: H) Q :=
  ao_perm (List.perm_append_singleton x H).symm h
/-- The slot's value is the call's own, at a place. -/
theorem fs_own {D : List Deferred} {R : Seal} {a : Act} {s i : Nat} {v : Value} (hv : vAgg v = false) (hs : Env.get env s = some (.raw v)) (hf : FSa D n R env a) : FSa D n R ((s, .own i v) :: env) a := by
  refine ⟨fun k x hk => ?_, hf.size, hf.defers⟩
  simp only [Env.get] at hk
  split at hk
  · rename_i hb
    have := Nat.eq_of_beq_eq_true hb
    subst this
    simp only [Option.some.injEq] at hk
    subst hk
    obtain ⟨y, hy, hr⟩ := hf.fr _ _ hs
    exact ⟨y, hy, rel_own.2 ⟨rel_raw.1 hr, hv⟩⟩
  · exact hf.fr k x hk
/-- A slot that takes a raw value is one that holds the call's own. -/
theorem ao_dst_own {i : Nat} {v : Value} (hv : vAgg v = false) (h : AOps P C n ops rest ((d, .own i v) :: env) H Q) : AOps P C n ops rest ((d, .raw v) :: env) H Q :=
  ao_env (fun R a hf => by
    refine ⟨fun k y hk => ?_, hf.size, hf.defers⟩
    simp only [Env.get] at hk
    split at hk
    · rename_i hb
      have := Nat.eq_of_beq_eq_true hb
      subst this
      simp only [Option.some.injEq] at hk
      subst hk
      obtain ⟨z, hz, hr⟩ := hf.fr d (.raw v) (by simp [Env.get])
      exact ⟨z, hz, rel_own.2 ⟨rel_raw.1 hr, hv⟩⟩
    · rename_i hb
      exact hf.fr k y (by simp only [Env.get, hb]; exact hk)) h
theorem ao_of_run {op : Op} {av : AVal} (hg : guardA ops env g = some (b, b)) (hdn : Nat.ble (d + 1) n = true) (hr : RunV P C H env op av) (h : AOps P C n ops rest ((d, av) :: env) H Q) :
    AOps P C n ops ({ dst := some d, op := op, type := t, pos := p, after := af, guard := g } :: rest) env H Q :=
  ao_pure hg rfl hdn (fun R ρ w hm hf => hr R ρ w hm hf _ _ _ _ _) h
theorem ao_of_x {op : Op} {F : Prop} {K : AVal → Prop} (hg : guardA ops env g = some (b, b)) (hdn : Nat.ble (d + 1) n = true) (h : XOk P C H env op F K)
    (hF : F → AOps P C n ops ({ dst := some d, op := op, type := t, pos := p, after := af, guard := g } :: rest) env H Q) (hK : ∀ av, K av → AOps P C n ops rest ((d, av) :: env) H Q) :
    AOps P C n ops ({ dst := some d, op := op, type := t, pos := p, after := af, guard := g } :: rest) env H Q := by
  rcases h with h | ⟨av, h1, h2⟩
  · exact hF h
  · exact ao_of_run hg hdn h1 (hK av h2)
theorem cellsOf_ok {a : AVal} {F : Prop} {K : List AVal → Prop} (h : cellsOf a F K) : F ∨ (a.plain = true ∧ K a.cells) := by
  unfold cellsOf at h
  split at h
  · rw [forceL_eq] at h; exact .inr ⟨rfl, h⟩
  · exact .inl h
  · rename_i h1 h2
    refine .inr ⟨?_, ?_⟩
    · cases a <;> first | rfl | skip
      rename_i v; cases v <;> first | rfl | (exact absurd rfl (h2 _))
    · cases a <;> first | exact h | (exact absurd rfl (h1 _))
/-- The entry of bytes told as cells. -/
theorem buf_cells {R : Seal} {w : World} {i bl cap : Nat} {s : List UInt8} (hi : H[i]? = some (.buf bl s cap)) (hm : MS C R H w) : MS C R (H.set i (.cells bl none (ownB s cap))) w := by
  obtain ⟨_, C', e, fz, h1, h2, h3⟩ := hm.heap.holds _ (List.mem_of_getElem? hi)
  exact hm.swap hi rfl ⟨C', e, fz, h1, h2, h3, fun _ h => nomatch h⟩
theorem cells_buf {R : Seal} {w : World} {i bl cap : Nat} {s : List UInt8} (hc : s.length ≤ cap) (hi : H[i]? = some (.cells bl eT (ownB s cap))) (hm : MS C R H w) : MS C R (H.set i (.buf bl s cap)) w := by
  obtain ⟨C', e, fz, h1, h2, h3, _⟩ := hm.heap.holds _ (List.mem_of_getElem? hi)
  exact hm.swap hi rfl ⟨hc, C', e, fz, h1, h2, h3⟩
theorem ao_heap {l : List Oper} {H' : Heap} (hs : ∀ R w, MS C R H w → MS C R H' w) (h : AOps P C n ops l env H' Q) : AOps P C n ops l env H Q :=
  fun R a w hm hf => h R a w (hs R w hm) hf
theorem get_set {i : Nat} {x y : HEnt} (hi : H[i]? = some x) : (H.set i y)[i]? = some y := by
  have := (List.getElem?_eq_some_iff.1 hi).1
  simp [this]
theorem set_set (i : Nat) (y z : HEnt) : (H.set i y).set i z = H.set i z := by simp
theorem guard_const {x : Oper} {e : Nat} {v : Bool} {j : Nat} {want : Bool} (ho : ops[j]? = some x) (he : x.dst = some e) : guardA ops ((e, .bool v) :: env) (some (j, want)) = some (v, want) := by
  simp only [guardA, ho, he, Env.get, Nat.beq_refl]
variable {x y : Operand} {T : TypeId} {xT : TI} {tx ty : TypeId} {av : AVal}
theorem row_vAgg {R : Seal} {w : World} {i sz m : Nat} {v : Value} {cs : List AVal} (hm : MS C R H w) (hi : H[i]? = some (.row v eT sz m cs)) : vAgg v = false := by
  obtain ⟨_, h⟩ := hm.heap.holds _ (List.mem_of_getElem? hi)
  rcases h with ⟨rfl, _⟩ | ⟨_, _, _, _, _, rfl, _⟩ <;> rfl
/-- A row's value is a slice. -/
theorem ao_rowslice {l : List Oper} {i sz m : Nat} {v : Value} {cs : List AVal} (hi : H[i]? = some (.row v eT sz m cs)) (h : (∃ a k c, v = .slice a k c ∧ RowV m a k) → AOps P C n ops l env H Q) : AOps P C n ops l env H Q := fun R a w hm hf => by
  obtain ⟨_, hh⟩ := hm.heap.holds _ (List.mem_of_getElem? hi)
  refine h ?_ R a w hm hf
  rcases hh with ⟨rfl, rfl⟩ | ⟨_, _, _, _, _, rfl, _⟩
  · exact ⟨_, _, _, rfl, fun h => absurd h (Nat.lt_irrefl _)⟩
  · exact ⟨_, _, _, rfl, fun _ => ⟨_, rfl, rfl⟩⟩
theorem ow_store {j0 i bl o : Nat} {cs : List AVal} (hg : guardA ops env g = some (b, b))
    (hx : evalA env x = some (.own j0 (.pointer (some ⟨bl, o, none⟩)))) (hy : evalA env y = some av) (hi : H[i]? = some (.cells bl eT cs)) (h1 : tab P T = some xT) (h2 : av.cells.length = xT.size)
    (hc : Nat.ble (o + xT.size) cs.length = true) (hp : av.plain = true) (hok : allOK av.cells = true)
    (h : AOps P C n ops rest env (H.set i (.cells bl eT (cs.take o ++ av.cells ++ cs.drop (o + xT.size)))) Q) :
    AOps P C n ops ({ dst := none, op := .store T x y, type := t, pos := p, after := af, guard := g } :: rest) env H Q := by
  refine ao_skipval hg rfl (fun R ρ w hm hf => ?_) h
  have hc := Nat.le_of_ble_eq_true hc
  obtain ⟨Cs, el, fz, hb, hl, hfz⟩ := own_cells hm hi
  have hlen := relL_length hl
  simp only [Array.length_toList] at hlen
  have hv := rel_cells (hf _ _ hy) hp
  have hvl := relL_length hv
  simp only [Array.length_toList] at hvl
  obtain ⟨w', hr, ho⟩ := storeCells_run (P := P) (ρ y).cells.toList o 0 Cs w hb (by simp only [Array.length_toList]; omega) hfz.1 (allOK_vals hv hok)
  refine ⟨w', R, ?_, Seal.le_refl R, hm.write hi rfl ho rfl ?_⟩
  · simp only [execOp, (rel_own.1 (hf _ _ hx)).1, Instr.storeAt, Instr.sureAddr, storeVar, Sem.run_bind, Sem.run_pure, Result.andThen_ok, tab_run_size h1]
    rw [if_neg (by omega)]
    simp only [Sem.run_bind, Sem.run_pure, Result.andThen_ok, hr]
  · refine ⟨_, _, _, ho.at_, ?_, ?_⟩
    · simp only [Nat.add_zero, Array.length_toList, hvl, h2]
      exact relL_append (relL_append (relL_take o hl) hv) (relL_drop _ hl)
    · simp only [Nat.add_zero, Array.length_toList, hvl, h2, List.size_toArray, List.length_append, List.length_take, List.length_drop]
      have : min o Cs.size + xT.size + (Cs.size - (o + xT.size)) = Cs.size := by omega
      rw [this]; exact hfz
theorem ow_store_row {j0 i bl o n0 sz : Nat} {v : Value} {cs : List AVal} (hg : guardA ops env g = some (b, b))
    (hx : evalA env x = some (.own j0 (.pointer (some ⟨bl, o, none⟩)))) (hy : evalA env y = some av) (hi : H[i]? = some (.row v eT sz n0 cs)) (hr : RowAt v bl n0) (h0 : 0 < n0) (h1 : tab P T = some xT) (h2 : av.cells.length = xT.size)
    (hc : o + xT.size ≤ n0 * sz) (hp : av.plain = true) (hok : allOK av.cells = true)
    (h : AOps P C n ops rest env (H.set i (.row v eT sz n0 (cs.take o ++ av.cells ++ cs.drop (o + xT.size)))) Q) :
    AOps P C n ops ({ dst := none, op := .store T x y, type := t, pos := p, after := af, guard := g } :: rest) env H Q := by
  refine ao_skipval hg rfl (fun R ρ w hm hf => ?_) h
  obtain ⟨hlen, cap, Cs, el, fz, rfl, hb, hsz, hnc, hl, hfz⟩ := row_cells hm hi hr h0
  have hmul : n0 * sz ≤ cap * sz := Nat.mul_le_mul_right _ hnc
  have hv := rel_cells (hf _ _ hy) hp
  have hvl := relL_length hv
  simp only [Array.length_toList] at hvl
  obtain ⟨w', hr', ho⟩ := storeCells_run (P := P) (ρ y).cells.toList o 0 Cs w hb (by simp only [Array.length_toList]; omega) hfz.1 (allOK_vals hv hok)
  refine ⟨w', R, ?_, Seal.le_refl R, hm.write hi rfl ho rfl ?_⟩
  · simp only [execOp, (rel_own.1 (hf _ _ hx)).1, Instr.storeAt, Instr.sureAddr, storeVar, Sem.run_bind, Sem.run_pure, Result.andThen_ok, tab_run_size h1]
    rw [if_neg (by omega)]
    simp only [Sem.run_bind, Sem.run_pure, Result.andThen_ok, hr']
  · refine ⟨by simp only [List.length_append, List.length_take, List.length_drop]; omega, .inr ⟨bl, cap, _, _, _, rfl, ho.at_, ?_, hnc, ?_, ?_⟩⟩
    · simp only [Nat.add_zero, Array.length_toList, hvl, h2, List.size_toArray, List.length_append, List.length_take, List.length_drop]
      omega
    · have e1 : (Cs.toList.take (o + 0) ++ (ρ y).cells.toList ++ Cs.toList.drop (o + 0 + (ρ y).cells.toList.length)).take (n0 * sz) = (Cs.toList.take (n0 * sz)).take o ++ (ρ y).cells.toList ++ (Cs.toList.take (n0 * sz)).drop (o + xT.size) := by
        have hl1 : (Cs.toList.take o).length = o := by rw [List.length_take, Array.length_toList]; omega
        have hl2 : (ρ y).cells.toList.length = xT.size := by rw [Array.length_toList]; omega
        rw [Nat.add_zero, hl2, List.take_append, List.length_append, hl1, hl2, List.take_of_length_le (by rw [List.length_append, hl1, hl2]; omega), List.take_take, Nat.min_eq_left (by omega), List.drop_take]
      simp only []
      rw [e1]
      exact relL_append (relL_append (relL_take o hl) hv) (relL_drop _ hl)
    · simp only [Nat.add_zero, Array.length_toList, hvl, h2, List.size_toArray, List.length_append, List.length_take, List.length_drop]
      have : min o Cs.size + xT.size + (Cs.size - (o + xT.size)) = Cs.size := by omega
      rw [this]; exact hfz
theorem ow_next_more {j0 i bl pos : Nat} {s : List UInt8} (hg : guardA ops env g = some (b, b)) (hdn : Nat.ble (d + 1) n = true) (hx : evalA env x = some (.own j0 (.pointer (some ⟨bl, 0, none⟩)))) (hi : H[i]? = some (.iter bl s pos)) (hlt : pos < s.length)
    (h : AOps P C n ops rest ((d, .tuple [.bool true, .int .i64 (pos : Int), .int .i32 ((Utf8.decode ⟨s.toArray⟩ pos).1 : Int)]) :: env) (H.set i (.iter bl s (pos + (Utf8.decode ⟨s.toArray⟩ pos).2))) Q) :
    AOps P C n ops ({ dst := some d, op := .next x true, type := t, pos := p, after := af, guard := g } :: rest) env H Q := by
  refine ao_val hg rfl hdn (fun R ρ w hm hf => ?_) h
  have hb : w.heap[bl]? = some (.stringIter ⟨s.toArray⟩ pos) := hm.heap.holds _ (List.mem_of_getElem? hi)
  have hlt' := heap_lt hb
  have ho : OneBlk w bl (.stringIter ⟨s.toArray⟩ (pos + (Utf8.decode ⟨s.toArray⟩ pos).2)) { w with heap := w.heap.setIfInBounds bl (.stringIter ⟨s.toArray⟩ (pos + (Utf8.decode ⟨s.toArray⟩ pos).2)) } :=
    ⟨rfl, rfl, rfl, by simp, by simp [hlt'], fun k hk => by simp only []; rw [Array.getElem?_setIfInBounds_ne (Ne.symm hk)]⟩
  refine ⟨.tuple #[.bool true, .int .i64 (pos : Int), .int .i32 ((Utf8.decode ⟨s.toArray⟩ pos).1 : Int)], { w with heap := w.heap.setIfInBounds bl (.stringIter ⟨s.toArray⟩ (pos + (Utf8.decode ⟨s.toArray⟩ pos).2)) }, R, ?_, Seal.le_refl R, ?_,
    hm.write hi rfl ho rfl ho.at_⟩
  · simp only [execOp, (rel_own.1 (hf _ _ hx)).1, Instr.next, Sem.run_bind, run_getObj_at hb (by simp), Result.andThen_ok, str_size, if_pos hlt]
    simp only [setObj, Sem.run, hb]
    rfl
  · exact ⟨⟨_, rfl, _, _, rfl, ⟨rfl, rfl⟩, _, _, rfl, ⟨rfl, rfl⟩, _, _, rfl, ⟨rfl, rfl⟩, rfl⟩, rfl⟩
theorem ow_next_done {j0 i bl pos : Nat} {s : List UInt8} (hg : guardA ops env g = some (b, b)) (hdn : Nat.ble (d + 1) n = true) (hx : evalA env x = some (.own j0 (.pointer (some ⟨bl, 0, none⟩)))) (hi : H[i]? = some (.iter bl s pos)) (hlt : s.length ≤ pos)
    (h : AOps P C n ops rest ((d, .tuple [.bool false]) :: env) H Q) :
    AOps P C n ops ({ dst := some d, op := .next x true, type := t, pos := p, after := af, guard := g } :: rest) env H Q := by
  refine ao_pure hg rfl hdn (fun R ρ w hm hf => ?_) h
  have hb : w.heap[bl]? = some (.stringIter ⟨s.toArray⟩ pos) := hm.heap.holds _ (List.mem_of_getElem? hi)
  refine ⟨.tuple #[.bool false], ?_, ⟨⟨_, rfl, _, _, rfl, ⟨rfl, rfl⟩, rfl⟩, rfl⟩⟩
  simp only [execOp, (rel_own.1 (hf _ _ hx)).1, Instr.next, Sem.run_bind, run_getObj_at hb (by simp), Result.andThen_ok, str_size]
  rw [if_neg (by omega)]
  rfl
theorem ow_next2 {j0 i bl pos : Nat} {s : List UInt8} (hg : guardA ops env g = some (b, b)) (hdn : Nat.ble (d + 1) n = true) (hx : evalA env x = some (.own j0 (.pointer (some ⟨bl, 0, none⟩)))) (hi : H[i]? = some (.iter bl s pos))
    (hmore : pos < s.length → AOps P C n ops rest ((d, .tuple [.bool true, .int .i64 (pos : Int), .int .i32 (rngR (s.drop pos) : Int)]) :: env) (H.set i (.iter bl s (pos + stepS (s.drop pos)))) Q)
    (hdone : s.length ≤ pos → AOps P C n ops rest ((d, .tuple [.bool false]) :: env) H Q) :
    AOps P C n ops ({ dst := some d, op := .next x true, type := t, pos := p, after := af, guard := g } :: rest) env H Q := by
  by_cases hlt : pos < s.length
  · refine ow_next_more hg hdn hx hi hlt ?_
    have e := decode_nextS s pos hlt
    have h := hmore hlt
    have e1 : (Utf8.decode ⟨s.toArray⟩ pos).1 = rngR (s.drop pos) := by rw [e]; unfold rngR; split <;> rfl
    have e2 : (Utf8.decode ⟨s.toArray⟩ pos).2 = stepS (s.drop pos) := by rw [e]; unfold stepS; split <;> rfl
    rw [e1, e2]
    exact h
  · exact ow_next_done hg hdn hx hi (by omega) (hdone (by omega))
theorem ow_append {j0 i m n0 sz : Nat} {v : Value} {xa : AVal} {cs new z : List AVal} {tx e : TypeId} {xe : TI} (hg : guardA ops env g = some (b, b)) (hdn : Nat.ble (d + 1) n = true)
    (hx : evalA env x = some (.own j0 v)) (hi : H[i]? = some (.row v eT sz n0 cs)) (hy : evalA env y = some xa)
    (h1 : tab P T = some xT) (h2 : xT.desc = .slice e) (h3 : tab P e = some xe) (h4 : xe.size = sz) (h5 : Nat.ble 1 sz = true) (h6 : Nat.ble xe.bytes 1024 = true) (h7 : zeroCellsA xe.zero = some z) (h8 : z.length = sz)
    (hs : ∀ R v, Rel R xa v → SrcIs P R sz tx v m new) (hlen : n0 + m ≤ 137438953472) (hty : ∀ t, eT = some t → e = t)
    (h : ∀ v' : Value, AOps P C n ops rest ((d, .own i v') :: env) (H.set i (.row v' eT sz (n0 + m) (cs ++ new))) Q) :
    AOps P C n ops ({ dst := some d, op := .call { callee := .builtin .append, args := [x, y].toArray, argTypes := [T, tx].toArray }, type := t, pos := p, after := af, guard := g } :: rest) env H Q := by
  refine ao_valX (av := fun v' : Value => .own i v') (H' := fun v' => H.set i (.row v' eT sz (n0 + m) (cs ++ new))) hg rfl hdn (fun R ρ w hm hf => ?_) h
  obtain ⟨v', w', hr, hm'⟩ := append_row (T := T) (tx := tx) t hm hi h1 h2 h3 h4 (zero_size h7 h8) (Nat.le_of_ble_eq_true h6) (hs R _ (hf _ _ hy)) (Nat.le_of_ble_eq_true h5) hlen hty
  refine ⟨v', v', w', R, ?_, Seal.le_refl R, rel_own.2 ⟨rfl, row_vAgg hm' (get_set hi)⟩, hm'⟩
  simp only [execOp, resolve, Sem.run_bind, Sem.run_pure, Result.andThen_ok, invoke, builtin, List.map_toArray, List.map_cons, List.map_nil, (rel_own.1 (hf _ _ hx)).1, hr]
end
end Go.Proofs.YtmgkpbgfkjedeaaGreatDoor
