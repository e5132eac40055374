/- The rules of operations on strings, numbers and results of several values. -/
import Derived.Test.YtlmihggafbmkaaaGreatDoorCall
import Derived.Test.YtlmihggafbmkaaaGreatDoorPlUtf
namespace Go.Proofs.YtlmihggafbmkaaaGreatDoor
open Go
set_option linter.unusedSimpArgs false

theorem str_mk (b : ByteArray) : (⟨b.data.toList.toArray⟩ : ByteArray) = b := by cases b; simp
theorem str_size (l : List UInt8) : (⟨l.toArray⟩ : ByteArray).size = l.length := by simp [ByteArray.size]
theorem str_append (a b : List UInt8) : (⟨a.toArray⟩ : ByteArray) ++ ⟨b.toArray⟩ = ⟨(a ++ b).toArray⟩ := by
  ext1; simp
theorem str_extract (l : List UInt8) (i j : Nat) : (⟨l.toArray⟩ : ByteArray).extract i j = ⟨((l.take j).drop i).toArray⟩ := by
  apply ByteArray.ext
  simp [List.drop_take]
theorem str_get (l : List UInt8) (i : Nat) (h : i < l.length) : (⟨l.toArray⟩ : ByteArray)[i]? = some l[i] := by
  have hs : i < (⟨l.toArray⟩ : ByteArray).size := by rw [str_size]; exact h
  rw [getElem?_pos _ i hs]
  exact congrArg some (show l.toArray[i] = l[i] by simp)

/-- Two's powers, written out. -/
def pwL : List Int := [1, 2, 4, 8, 16, 32, 64, 128, 256, 512, 1024, 2048, 4096, 8192, 16384, 32768, 65536, 131072, 262144, 524288, 1048576, 2097152, 4194304, 8388608, 16777216, 33554432, 67108864, 134217728, 268435456, 536870912, 1073741824, 2147483648, 4294967296]
def pwChk : List Int → Nat → Bool
  | [], _ => true
  | c :: r, i => decide (((2 ^ i : Nat) : Int) = c) && pwChk r (i + 1)
theorem pwChk_nth : ∀ {l : List Int} {i k : Nat} {c : Int}, pwChk l i = true → nth l k = some c → ((2 ^ (i + k) : Nat) : Int) = c
  | [], _, _, _, _, h => by simp [nth] at h
  | x :: r, i, 0, c, ho, h => by
    simp only [nth, Option.some.injEq] at h
    subst h
    simp only [pwChk, Bool.and_eq_true, decide_eq_true_eq] at ho
    exact ho.1
  | x :: r, i, k + 1, c, ho, h => by
    simp only [pwChk, Bool.and_eq_true] at ho
    rw [show i + (k + 1) = (i + 1) + k by omega]
    exact pwChk_nth ho.2 h
theorem pw_ok {e : Nat} {c : Int} (h : nth pwL e = some c) : ((2 ^ e : Nat) : Int) = c := by
  have := pwChk_nth (l := pwL) (i := 0) (by decide +kernel) h
  rwa [Nat.zero_add] at this

/-- A number fits its kind. -/
def Fits : IntKind → Int → Prop
  | .i8, n => -128 ≤ n ∧ n ≤ 127
  | .i16, n => -32768 ≤ n ∧ n ≤ 32767
  | .i32, n => -2147483648 ≤ n ∧ n ≤ 2147483647
  | .i64, n => -9223372036854775808 ≤ n ∧ n ≤ 9223372036854775807
  | .u8, n => 0 ≤ n ∧ n ≤ 255
  | .u16, n => 0 ≤ n ∧ n ≤ 65535
  | .u32, n => 0 ≤ n ∧ n ≤ 4294967295
  | .u64, n => 0 ≤ n ∧ n ≤ 18446744073709551615
theorem wrap_fits {k : IntKind} {n : Int} (h : Fits k n) : k.wrap n = n := by
  cases k
  · exact IntWalk.i8_in n h
  · exact IntWalk.i16_in n h
  · exact IntWalk.i32_in n h
  · exact IntWalk.i64_in n h
  · exact IntWalk.u8_in n h
  · exact IntWalk.u16_in n h
  · exact IntWalk.u32_in n h
  · exact IntWalk.u64_in n h
def boundsK : IntKind → Int × Int
  | .i8 => (-128, 127)
  | .i16 => (-32768, 32767)
  | .i32 => (-2147483648, 2147483647)
  | .i64 => (-9223372036854775808, 9223372036854775807)
  | .u8 => (0, 255)
  | .u16 => (0, 65535)
  | .u32 => (0, 4294967295)
  | .u64 => (0, 18446744073709551615)
theorem fitsK {k : IntKind} {n lo hi : Int} (hk : boundsK k = (lo, hi)) (h1 : lo ≤ n) (h2 : n ≤ hi) : Fits k n := by
  cases k <;> (simp only [boundsK, Prod.mk.injEq] at hk; obtain ⟨rfl, rfl⟩ := hk; exact ⟨h1, h2⟩)
theorem fits_i64 {n : Int} (h1 : -9223372036854775808 ≤ n) (h2 : n ≤ 9223372036854775807) : Fits .i64 n := ⟨h1, h2⟩
theorem fits_i32 {n : Int} (h1 : -2147483648 ≤ n) (h2 : n ≤ 2147483647) : Fits .i32 n := ⟨h1, h2⟩
theorem fits_u8 {n : Int} (h1 : 0 ≤ n) (h2 : n ≤ 255) : Fits .u8 n := ⟨h1, h2⟩
theorem fits_u32 {n : Int} (h1 : 0 ≤ n) (h2 : n ≤ 4294967295) : Fits .u32 n := ⟨h1, h2⟩
theorem fits_u64 {n : Int} (h1 : 0 ≤ n) (h2 : n ≤ 18446744073709551615) : Fits .u64 n := ⟨h1, h2⟩

section
variable {P : Program} {C : Ctx} {n : Nat} {env : Env} {H : Heap} {Q : AExit → Env → Heap → Prop} {ops : Array Oper} {rest : List Oper}
variable {d : Nat} {t : TypeId} {p : String} {af : Array Edge} {g : Option (Nat × Bool)} {b : Bool} {av : AVal}
variable {x y : Operand} {tx ty : TypeId}

/-! ### Integers that stay in their kind -/
theorem ao_add {k : IntKind} {m q : Int} (hg : guardA ops env g = some (b, b)) (hdn : Nat.ble (d + 1) n = true)
    (hx : evalA env x = some (.int k m)) (hy : evalA env y = some (.int k q)) (hw : Fits k (m + q))
    (h : AOps P C n ops rest ((d, .int k (m + q)) :: env) H Q) : AOps P C n ops ({ dst := some d, op := .binOp .add tx x y ty, type := t, pos := p, after := af, guard := g } :: rest) env H Q :=
  ao_int hg hdn hx hy (by rw [intBin, wrap_fits hw]) h
theorem ao_sub {k : IntKind} {m q : Int} (hg : guardA ops env g = some (b, b)) (hdn : Nat.ble (d + 1) n = true)
    (hx : evalA env x = some (.int k m)) (hy : evalA env y = some (.int k q)) (hw : Fits k (m - q))
    (h : AOps P C n ops rest ((d, .int k (m - q)) :: env) H Q) : AOps P C n ops ({ dst := some d, op := .binOp .sub tx x y ty, type := t, pos := p, after := af, guard := g } :: rest) env H Q :=
  ao_int hg hdn hx hy (by rw [intBin, wrap_fits hw]) h
theorem ao_mul {k : IntKind} {m q : Int} (hg : guardA ops env g = some (b, b)) (hdn : Nat.ble (d + 1) n = true)
    (hx : evalA env x = some (.int k m)) (hy : evalA env y = some (.int k q)) (hw : Fits k (m * q))
    (h : AOps P C n ops rest ((d, .int k (m * q)) :: env) H Q) : AOps P C n ops ({ dst := some d, op := .binOp .mul tx x y ty, type := t, pos := p, after := af, guard := g } :: rest) env H Q :=
  ao_int hg hdn hx hy (by rw [intBin, wrap_fits hw]) h
theorem bits_nn {k : IntKind} {m q : Int} (f : (w : Nat) → BitVec w → BitVec w → BitVec w) (f' : Nat → Nat → Nat)
    (hff : ∀ a c, (f k.bits (BitVec.ofNat k.bits a) (BitVec.ofNat k.bits c)).toNat = f' (a % 2 ^ k.bits) (c % 2 ^ k.bits))
    (hlt : ∀ a c e, a < 2 ^ e → c < 2 ^ e → f' a c < 2 ^ e) (hm : 0 ≤ m) (hq : 0 ≤ q) (hm' : Fits k m) (hq' : Fits k q) :
    k.wrap ((f k.bits (BitVec.ofInt k.bits m) (BitVec.ofInt k.bits q)).toNat : Int) = (f' m.toNat q.toNat : Nat) := by
  obtain ⟨a, rfl⟩ := Int.eq_ofNat_of_zero_le hm
  obtain ⟨c, rfl⟩ := Int.eq_ofNat_of_zero_le hq
  have h1 : ∀ a : Nat, BitVec.ofInt k.bits (a : Int) = BitVec.ofNat k.bits a := fun a => by simp
  rw [h1, h1, hff]
  have key : ∀ e, e ≤ k.bits → (∀ z : Nat, z < 2 ^ e → Fits k z) → a < 2 ^ e → c < 2 ^ e →
      k.wrap ((f' (a % 2 ^ k.bits) (c % 2 ^ k.bits) : Nat) : Int) = (f' a c : Nat) := by
    intro e he hz ha hc
    have hle : 2 ^ e ≤ 2 ^ k.bits := Nat.pow_le_pow_right (by omega) he
    rw [Nat.mod_eq_of_lt (by omega), Nat.mod_eq_of_lt (by omega)]
    exact wrap_fits (hz _ (hlt _ _ _ ha hc))
  simp only [Int.toNat_natCast]
  cases k <;> simp only [Fits] at hm' hq'
  · exact key 7 (by decide) (fun z hz => by simp only [Fits]; omega) (by omega) (by omega)
  · exact key 15 (by decide) (fun z hz => by simp only [Fits]; omega) (by omega) (by omega)
  · exact key 31 (by decide) (fun z hz => by simp only [Fits]; omega) (by omega) (by omega)
  · exact key 63 (by decide) (fun z hz => by simp only [Fits]; omega) (by omega) (by omega)
  · exact key 8 (by decide) (fun z hz => by simp only [Fits]; omega) (by omega) (by omega)
  · exact key 16 (by decide) (fun z hz => by simp only [Fits]; omega) (by omega) (by omega)
  · exact key 32 (by decide) (fun z hz => by simp only [Fits]; omega) (by omega) (by omega)
  · exact key 64 (by decide) (fun z hz => by simp only [Fits]; omega) (by omega) (by omega)
theorem ao_and {k : IntKind} {m q : Int} (hg : guardA ops env g = some (b, b)) (hdn : Nat.ble (d + 1) n = true)
    (hx : evalA env x = some (.int k m)) (hy : evalA env y = some (.int k q)) (hm : 0 ≤ m) (hq : 0 ≤ q) (hm' : Fits k m) (hq' : Fits k q)
    (h : AOps P C n ops rest ((d, .int k ((m.toNat &&& q.toNat : Nat) : Int)) :: env) H Q) : AOps P C n ops ({ dst := some d, op := .binOp .and tx x y ty, type := t, pos := p, after := af, guard := g } :: rest) env H Q :=
  ao_int hg hdn hx hy (by rw [intBin, bits_nn (fun _ a c => a &&& c) (· &&& ·) (fun a c => by simp) (fun a c e h1 h2 => Nat.and_lt_two_pow a h2) hm hq hm' hq']) h
theorem ao_or {k : IntKind} {m q : Int} (hg : guardA ops env g = some (b, b)) (hdn : Nat.ble (d + 1) n = true)
    (hx : evalA env x = some (.int k m)) (hy : evalA env y = some (.int k q)) (hm : 0 ≤ m) (hq : 0 ≤ q) (hm' : Fits k m) (hq' : Fits k q)
    (h : AOps P C n ops rest ((d, .int k ((m.toNat ||| q.toNat : Nat) : Int)) :: env) H Q) : AOps P C n ops ({ dst := some d, op := .binOp .or tx x y ty, type := t, pos := p, after := af, guard := g } :: rest) env H Q :=
  ao_int hg hdn hx hy (by rw [intBin, bits_nn (fun _ a c => a ||| c) (· ||| ·) (fun a c => by simp) (fun a c e h1 h2 => Nat.or_lt_two_pow h1 h2) hm hq hm' hq']) h

/-- '& 31' and its like, of what is not negative. -/
theorem ao_mask {k j : IntKind} {m c : Int} (e : Nat) (hg : guardA ops env g = some (b, b)) (hdn : Nat.ble (d + 1) n = true)
    (hx : evalA env x = some (.int k m)) (hj : j = k) (hm : 0 ≤ m) (hm' : Fits k m) (he : Nat.ble (e + 1) k.bits = true) (hc : nth pwL e = some c)
    (h : AOps P C n ops rest ((d, .int k (m % c)) :: env) H Q) :
    AOps P C n ops ({ dst := some d, op := .binOp .and tx x (.const (.int j (Int.ofNat (2 ^ e - 1)))) ty, type := t, pos := p, after := af, guard := g } :: rest) env H Q := by
  subst hj
  have he := Nat.le_of_ble_eq_true he
  have hq : Fits j (Int.ofNat (2 ^ e - 1)) := by
    have hp : 0 < 2 ^ e := Nat.pow_pos (by omega)
    cases j <;> simp only [IntKind.bits] at he <;> simp only [Fits, Int.ofNat_eq_natCast]
    · have : 2 ^ e ≤ 2 ^ 7 := Nat.pow_le_pow_right (by omega) (by omega)
      omega
    · have : 2 ^ e ≤ 2 ^ 15 := Nat.pow_le_pow_right (by omega) (by omega)
      omega
    · have : 2 ^ e ≤ 2 ^ 31 := Nat.pow_le_pow_right (by omega) (by omega)
      omega
    · have : 2 ^ e ≤ 2 ^ 63 := Nat.pow_le_pow_right (by omega) (by omega)
      omega
    · have : 2 ^ e ≤ 2 ^ 8 := Nat.pow_le_pow_right (by omega) (by omega)
      omega
    · have : 2 ^ e ≤ 2 ^ 16 := Nat.pow_le_pow_right (by omega) (by omega)
      omega
    · have : 2 ^ e ≤ 2 ^ 32 := Nat.pow_le_pow_right (by omega) (by omega)
      omega
    · have : 2 ^ e ≤ 2 ^ 64 := Nat.pow_le_pow_right (by omega) (by omega)
      omega
  refine ao_and (q := Int.ofNat (2 ^ e - 1)) hg hdn hx rfl hm (by simp) hm' hq ?_
  have e1 : ((m.toNat &&& (Int.ofNat (2 ^ e - 1)).toNat : Nat) : Int) = m % (2 ^ e : Nat) := by
    obtain ⟨a, rfl⟩ := Int.eq_ofNat_of_zero_le hm
    simp only [Int.toNat_natCast, Int.ofNat_eq_natCast, Nat.and_two_pow_sub_one_eq_mod]
    simp
  rw [e1, pw_ok hc]
  exact h
/-- What is shifted, and fewer bits. -/
theorem ao_or_add {k : IntKind} {a q c : Int} (e : Nat) (hg : guardA ops env g = some (b, b)) (hdn : Nat.ble (d + 1) n = true) (hc : nth pwL e = some c)
    (hx : evalA env x = some (.int k (a * c))) (hy : evalA env y = some (.int k q)) (ha : 0 ≤ a) (hq : 0 ≤ q) (hq' : q < c) (hw : Fits k (a * c + q))
    (h : AOps P C n ops rest ((d, .int k (a * c + q)) :: env) H Q) : AOps P C n ops ({ dst := some d, op := .binOp .or tx x y ty, type := t, pos := p, after := af, guard := g } :: rest) env H Q := by
  rw [← pw_ok hc] at hx hq' hw h
  obtain ⟨a, rfl⟩ := Int.eq_ofNat_of_zero_le ha
  obtain ⟨q, rfl⟩ := Int.eq_ofNat_of_zero_le hq
  have h1 : Fits k (a * (2 ^ e : Nat)) := by
    have h2 : (0 : Int) ≤ (a : Int) * (2 ^ e : Nat) := Int.mul_nonneg ha (Int.natCast_nonneg _)
    cases k <;> simp only [Fits] at hw ⊢ <;> omega
  have h2 : Fits k (q : Int) := by
    have h2 : (0 : Int) ≤ (a : Int) * (2 ^ e : Nat) := Int.mul_nonneg ha (Int.natCast_nonneg _)
    cases k <;> simp only [Fits] at hw ⊢ <;> omega
  refine ao_or hg hdn hx hy (Int.mul_nonneg ha (Int.natCast_nonneg _)) hq h1 h2 ?_
  have e1 : ((((a : Int) * (2 ^ e : Nat)).toNat ||| (q : Int).toNat : Nat) : Int) = (a : Int) * (2 ^ e : Nat) + q := by
    rw [← Int.natCast_mul, Int.toNat_natCast, Int.toNat_natCast, ← Nat.shiftLeft_eq, ← Nat.shiftLeft_add_eq_or_of_lt (by omega)]
    rw [Nat.shiftLeft_eq]
    simp
  rw [e1]
  exact h

/-- '<<' and '>>' by a literal. -/
theorem ao_shl {k j : IntKind} {m c : Int} {s : Nat} (hg : guardA ops env g = some (b, b)) (hdn : Nat.ble (d + 1) n = true)
    (hx : evalA env x = some (.int k m)) (hs : Nat.ble s k.bits = true) (hc : nth pwL s = some c) (hw : Fits k (m * c))
    (h : AOps P C n ops rest ((d, .int k (m * c)) :: env) H Q) :
    AOps P C n ops ({ dst := some d, op := .binOp .shl tx x (.const (.int j (Int.ofNat s))) ty, type := t, pos := p, after := af, guard := g } :: rest) env H Q := by
  rw [← pw_ok hc] at *
  refine ao_pure hg rfl hdn (fun R ρ w hm hf => ⟨_, ?_, rel_int.2 rfl⟩) h
  have hs := Nat.le_of_ble_eq_true hs
  simp only [execOp, rel_int.1 (hf _ _ hx), rel_int.1 (hf (.const (.int j (Int.ofNat s))) _ rfl), Go.binOp, eqGuard, Op.shift]
  rw [if_neg (show ¬ (Int.ofNat s < 0) by simp only [Int.ofNat_eq_natCast]; omega)]
  simp only [Int.ofNat_eq_natCast, Int.toNat_natCast, Nat.min_eq_left hs]
  have : (m * 2 ^ s : Int) = m * ((2 ^ s : Nat) : Int) := by simp
  rw [this, wrap_fits hw]
  rfl
theorem ao_shr {k j : IntKind} {m c : Int} {s : Nat} (hg : guardA ops env g = some (b, b)) (hdn : Nat.ble (d + 1) n = true)
    (hx : evalA env x = some (.int k m)) (hs : Nat.ble s k.bits = true) (hc : nth pwL s = some c)
    (h : AOps P C n ops rest ((d, .int k (m / c)) :: env) H Q) :
    AOps P C n ops ({ dst := some d, op := .binOp .shr tx x (.const (.int j (Int.ofNat s))) ty, type := t, pos := p, after := af, guard := g } :: rest) env H Q := by
  rw [← pw_ok hc] at *
  refine ao_pure hg rfl hdn (fun R ρ w hm hf => ⟨_, ?_, rel_int.2 rfl⟩) h
  have hs := Nat.le_of_ble_eq_true hs
  simp only [execOp, rel_int.1 (hf _ _ hx), rel_int.1 (hf (.const (.int j (Int.ofNat s))) _ rfl), Go.binOp, eqGuard, Op.shift]
  rw [if_neg (show ¬ (Int.ofNat s < 0) by simp only [Int.ofNat_eq_natCast]; omega)]
  simp only [Int.ofNat_eq_natCast, Int.toNat_natCast, Nat.min_eq_left hs]
  have : (m.fdiv (2 ^ s) : Int) = m / ((2 ^ s : Nat) : Int) := by rw [Int.fdiv_eq_ediv_of_nonneg _ (by simpa using Int.natCast_nonneg (2 ^ s))]; simp
  rw [this]
  rfl
/-- '/' and '%' of what is not negative, by what is positive. -/
theorem ao_quo {k : IntKind} {m q : Int} (hg : guardA ops env g = some (b, b)) (hdn : Nat.ble (d + 1) n = true)
    (hx : evalA env x = some (.int k m)) (hy : evalA env y = some (.int k q)) (hm : 0 ≤ m) (hq : 0 < q) (hw : Fits k m)
    (h : AOps P C n ops rest ((d, .int k (m / q)) :: env) H Q) : AOps P C n ops ({ dst := some d, op := .binOp .quo tx x y ty, type := t, pos := p, after := af, guard := g } :: rest) env H Q := by
  refine ao_pure hg rfl hdn (fun R ρ w _ hf => ⟨_, ?_, rel_int.2 rfl⟩) h
  have h1 : m.tdiv q = m / q := Int.tdiv_eq_ediv_of_nonneg hm
  have h2 : 0 ≤ m / q := Int.ediv_nonneg hm (by omega)
  have h3 : m / q ≤ m := Int.ediv_le_self q hm
  have hw' : Fits k (m / q) := by cases k <;> simp only [Fits] at hw ⊢ <;> omega
  simp only [execOp, rel_int.1 (hf _ _ hx), rel_int.1 (hf _ _ hy), Go.binOp, eqGuard, Op.intDiv, ne_eq, not_true_eq_false, if_false]
  rw [if_neg (show ¬ q = 0 by omega), h1, wrap_fits hw']
  rfl
theorem ao_rem {k : IntKind} {m q : Int} (hg : guardA ops env g = some (b, b)) (hdn : Nat.ble (d + 1) n = true)
    (hx : evalA env x = some (.int k m)) (hy : evalA env y = some (.int k q)) (hm : 0 ≤ m) (hq : 0 < q)
    (h : AOps P C n ops rest ((d, .int k (m % q)) :: env) H Q) : AOps P C n ops ({ dst := some d, op := .binOp .rem tx x y ty, type := t, pos := p, after := af, guard := g } :: rest) env H Q := by
  refine ao_pure hg rfl hdn (fun R ρ w _ hf => ⟨_, ?_, rel_int.2 rfl⟩) h
  simp only [execOp, rel_int.1 (hf _ _ hx), rel_int.1 (hf _ _ hy), Go.binOp, eqGuard, Op.intDiv, ne_eq, not_true_eq_false, if_false]
  rw [if_neg (show ¬ q = 0 by omega), Int.tmod_eq_emod_of_nonneg hm]
  rfl
theorem ao_neg {k : IntKind} {m : Int} (hg : guardA ops env g = some (b, b)) (hdn : Nat.ble (d + 1) n = true)
    (hx : evalA env x = some (.int k m)) (hw : Fits k (0 - m))
    (h : AOps P C n ops rest ((d, .int k (0 - m)) :: env) H Q) : AOps P C n ops ({ dst := some d, op := .unOp .neg tx x, type := t, pos := p, after := af, guard := g } :: rest) env H Q := by
  refine ao_pure hg rfl hdn (fun R ρ w hm hf => ⟨_, ?_, rel_int.2 rfl⟩) h
  simp only [execOp, rel_int.1 (hf _ _ hx), Op.unary, Op.intArith, wrap_fits hw]
  rfl
theorem ao_not {c : Bool} (hg : guardA ops env g = some (b, b)) (hdn : Nat.ble (d + 1) n = true) (hx : evalA env x = some (.bool c))
    (h : AOps P C n ops rest ((d, .bool (!c)) :: env) H Q) : AOps P C n ops ({ dst := some d, op := .unOp .not tx x, type := t, pos := p, after := af, guard := g } :: rest) env H Q := by
  refine ao_pure hg rfl hdn (fun R ρ w hm hf => ⟨_, ?_, rel_bool.2 rfl⟩) h
  simp only [execOp, rel_bool.1 (hf _ _ hx), Op.unary]
  rfl
theorem ao_beq {c e : Bool} (hg : guardA ops env g = some (b, b)) (hdn : Nat.ble (d + 1) n = true) (hx : evalA env x = some (.bool c)) (hy : evalA env y = some (.bool e))
    (hu : P.underlying tx = some .bool)
    (h : AOps P C n ops rest ((d, .bool (c == e)) :: env) H Q) : AOps P C n ops ({ dst := some d, op := .binOp .eql tx x y ty, type := t, pos := p, after := af, guard := g } :: rest) env H Q := by
  refine ao_pure hg rfl hdn (fun R ρ w hm hf => ⟨_, ?_, rel_bool.2 rfl⟩) h
  have e1 : (Op.equal tx (.bool c) (.bool e)).run P w = .ok (c == e) w := by
    show (Op.equalIn (9999 + 1) tx (.bool c) (.bool e)).run P w = _
    rw [Op.equalIn]
    simp only [Sem.run_bind, run_underlying hu, Result.andThen_ok]
    rfl
  have e2 : (eqGuard .eql tx x y (.bool c) (.bool e)).run P w = .ok () w := rfl
  simp only [execOp, rel_bool.1 (hf _ _ hx), rel_bool.1 (hf _ _ hy), Go.binOp, Sem.run_bind, e1, e2, Result.andThen_ok, Sem.run_pure]

/-! ### Integers of one kind to another -/
theorem ao_conv_int [Tab P] {k j : IntKind} {m : Int} {s e : TypeId} {xs xe : TI} (hg : guardA ops env g = some (b, b)) (hdn : Nat.ble (d + 1) n = true) (hx : evalA env x = some (.int k m))
    (h1 : tab P s = some xs) (h2 : tab P e = some xe) (h3 : xe.desc = .int j) (hw : Fits j m)
    (h : AOps P C n ops rest ((d, .int j m) :: env) H Q) : AOps P C n ops ({ dst := some d, op := .convert s e x, type := t, pos := p, after := af, guard := g } :: rest) env H Q := by
  refine ao_pure hg rfl hdn (fun R ρ w hm hf => ⟨_, ?_, rel_int.2 rfl⟩) h
  simp only [execOp, rel_int.1 (hf _ _ hx), convert, Sem.run_bind, tab_run_und h1, tab_run_und h2, Result.andThen_ok, h3, Conv.intToInt, wrap_fits hw]
  cases xs.desc <;> rfl
theorem ao_conv_wrap [Tab P] {k j : IntKind} {m : Int} {s e : TypeId} {xs xe : TI} (hg : guardA ops env g = some (b, b)) (hdn : Nat.ble (d + 1) n = true) (hx : evalA env x = some (.int k m))
    (h1 : tab P s = some xs) (h2 : tab P e = some xe) (h3 : xe.desc = .int j)
    (h : AOps P C n ops rest ((d, .int j (j.wrap m)) :: env) H Q) : AOps P C n ops ({ dst := some d, op := .convert s e x, type := t, pos := p, after := af, guard := g } :: rest) env H Q := by
  refine ao_pure hg rfl hdn (fun R ρ w hm hf => ⟨_, ?_, rel_int.2 rfl⟩) h
  simp only [execOp, rel_int.1 (hf _ _ hx), convert, Sem.run_bind, tab_run_und h1, tab_run_und h2, Result.andThen_ok, h3, Conv.intToInt]
  cases xs.desc <;> rfl

/-! ### Strings -/
def seqB (x y : List UInt8) : Bool := x == y
theorem seqB_t {x y : List UInt8} : seqB x y = true ↔ x = y := by simp [seqB]
theorem seqB_f {x y : List UInt8} : seqB x y = false ↔ x ≠ y := by simp [seqB]
theorem nil_len {x : List UInt8} : (x = []) = (x.length = 0) := by simp
theorem seqB_def {x y : List UInt8} : seqB x y = (x == y) := rfl
attribute [irreducible] seqB
def sltB (x y : List UInt8) : Bool := Op.bytesLess x y
theorem sltB_def {x y : List UInt8} : sltB x y = Op.bytesLess x y := rfl
attribute [irreducible] sltB
def strBin (op : BinOp) (x y : List UInt8) : Option AVal :=
  match op with
  | .eql => some (.bool (seqB x y))
  | .neq => some (.bool (!(seqB x y)))
  | .lss => some (.bool (sltB x y))
  | .leq => some (.bool (sltB x y || seqB x y))
  | .gtr => some (.bool (!(sltB x y || seqB x y)))
  | .geq => some (.bool (!sltB x y))
  | _ => none
theorem ao_str {op : BinOp} {m q : List UInt8} (hg : guardA ops env g = some (b, b)) (hdn : Nat.ble (d + 1) n = true)
    (hx : evalA env x = some (.str m)) (hy : evalA env y = some (.str q)) (ho : strBin op m q = some av)
    (h : AOps P C n ops rest ((d, av) :: env) H Q) : AOps P C n ops ({ dst := some d, op := .binOp op tx x y ty, type := t, pos := p, after := af, guard := g } :: rest) env H Q := by
  refine ao_pure hg rfl hdn (fun R ρ w hm hf => ?_) h
  simp only [execOp, rel_str.1 (hf _ _ hx), rel_str.1 (hf _ _ hy)]
  cases op <;> simp only [strBin, Option.some.injEq] at ho <;>
    first
      | (cases ho; done)
      | (subst ho; refine ⟨.bool _, ?_, rel_bool.2 rfl⟩; simp only [Go.binOp, eqGuard, Op.stringOp, ByteArray.toList_mk, seqB_def, sltB_def]; rfl)
theorem ao_cat {m q : List UInt8} (hg : guardA ops env g = some (b, b)) (hdn : Nat.ble (d + 1) n = true)
    (hx : evalA env x = some (.str m)) (hy : evalA env y = some (.str q)) (hw : m.length + q.length ≤ 9223372036854775807)
    (h : AOps P C n ops rest ((d, .str (m ++ q)) :: env) H Q) : AOps P C n ops ({ dst := some d, op := .binOp .add tx x y ty, type := t, pos := p, after := af, guard := g } :: rest) env H Q := by
  refine ao_pure hg rfl hdn (fun R ρ w hm hf => ⟨_, ?_, rel_str.2 rfl⟩) h
  simp only [execOp, rel_str.1 (hf _ _ hx), rel_str.1 (hf _ _ hy), Go.binOp, eqGuard, Op.stringOp, str_append, str_size]
  have hmx : IntKind.i64.max = 9223372036854775807 := by decide
  rw [if_neg (show ¬ ((m.length + q.length : Nat) : Int) > IntKind.i64.max by rw [hmx]; omega)]
  rfl
theorem ao_len_str [Tab P] {m : List UInt8} {T : TypeId} {xT : TI} (hg : guardA ops env g = some (b, b)) (hdn : Nat.ble (d + 1) n = true) (hx : evalA env x = some (.str m))
    (h1 : tab P T = some xT) (h2 : xT.desc = .string)
    (h : AOps P C n ops rest ((d, .int .i64 (m.length : Int)) :: env) H Q) :
    AOps P C n ops ({ dst := some d, op := .call { callee := .builtin .len, args := [x].toArray, argTypes := [T].toArray }, type := t, pos := p, after := af, guard := g } :: rest) env H Q := by
  refine ao_pure hg rfl hdn (fun R ρ w hm hf => ⟨_, ?_, rel_int.2 rfl⟩) h
  simp only [execOp, resolve, Sem.run_bind, Sem.run_pure, Result.andThen_ok, invoke, builtin, Builtin.len_, List.map_toArray, List.map_cons, List.map_nil, rel_str.1 (hf _ _ hx)]
  simp only [List.getElem?_toArray, List.getElem?_cons_zero, Sem.run_bind, tab_run_und h1, h2, Result.andThen_ok, Sem.run_pure, goInt, str_size]
theorem ao_index_str [Tab P] {m : List UInt8} {k : IntKind} {i : Int} {T : TypeId} {xT : TI} (hg : guardA ops env g = some (b, b)) (hdn : Nat.ble (d + 1) n = true) (hx : evalA env x = some (.str m)) (hy : evalA env y = some (.int k i))
    (h1 : tab P T = some xT) (h2 : xT.desc = .string) (hi0 : 0 ≤ i) (hi : i < m.length)
    (h : byteAt m i.toNat < 256 → AOps P C n ops rest ((d, .int .u8 (byteAt m i.toNat : Int)) :: env) H Q) :
    AOps P C n ops ({ dst := some d, op := .index T x y, type := t, pos := p, after := af, guard := g } :: rest) env H Q := by
  refine ao_pure hg rfl hdn (fun R ρ w hm hf => ⟨_, ?_, rel_int.2 rfl⟩) (h (byteAt_lt _ _))
  have hlt : i.toNat < m.length := by omega
  have e : (⟨m.toArray⟩ : ByteArray)[i.toNat]? = some m[i.toNat] := str_get m i.toNat hlt
  simp only [execOp, rel_str.1 (hf _ _ hx), rel_int.1 (hf _ _ hy), Instr.index, asIntOf, Sem.run_bind, Sem.run_pure, Result.andThen_ok, tab_run_und h1, h2, if_pos hi0, e]
  simp [hlt, byteAt]
/-- A slice of a string: what stands for the bounds. -/
def boundA (env : Env) (dflt : Int) : Option Operand → Option Int
  | none => some dflt
  | some x => match evalA env x with
    | some (.int _ i) => some i
    | _ => none
theorem bound_run {R : Seal} {ρ : Operand → Value} (hf : Evals R env ρ) {dflt i : Int} {lo : Option Operand} (hlo : boundA env dflt lo = some i) :
    (lo = none ∧ i = dflt) ∨ ∃ z k, lo = some z ∧ ρ z = .int k i := by
  cases lo with
  | none => simp only [boundA, Option.some.injEq] at hlo; exact .inl ⟨rfl, hlo.symm⟩
  | some z =>
    simp only [boundA] at hlo
    split at hlo
    · rename_i k j hz
      simp only [Option.some.injEq] at hlo
      subst hlo
      exact .inr ⟨z, k, rfl, rel_int.1 (hf _ _ hz)⟩
    · cases hlo
theorem bounds_run {P : Program} {R : Seal} {ρ : Operand → Value} (hf : Evals R env ρ) {isS : Bool} {len cap : Nat} {lo hi : Option Operand} {i j : Int} (hlo : boundA env 0 lo = some i) (hhi : boundA env len hi = some j)
    (h0 : 0 ≤ i) (hij : i ≤ j) (hj : j ≤ cap) (_hlc : len ≤ cap) (w : World) :
    (Instr.sliceBounds isS len cap (lo.map ρ) (hi.map ρ) none).run P w = .ok (i.toNat, j.toNat, cap) w := by
  have hb : ∀ (k : IntKind) (u : Int) (y : Nat) (c : BoundsCode), 0 ≤ u → u ≤ y → (Instr.sliceBound (.int k u) y c).run P w = .ok u.toNat w := by
    intro k u y c h1 h2
    simp only [Instr.sliceBound, asIntOf, Sem.run_bind, Sem.run_pure, Result.andThen_ok]
    rw [if_pos ⟨h1, h2⟩]
    rfl
  rcases bound_run hf hlo with ⟨rfl, rfl⟩ | ⟨z, k, rfl, hz⟩ <;> rcases bound_run hf hhi with ⟨rfl, rfl⟩ | ⟨z', k', rfl, hz'⟩
  · simp only [Instr.sliceBounds, Option.map_none, Sem.run_bind, Sem.run_pure, Result.andThen_ok]
    simp
  · simp only [Instr.sliceBounds, Option.map_none, Option.map_some, hz', Sem.run_bind, Sem.run_pure, Result.andThen_ok]
    rw [hb k' j cap _ (by omega) hj]
    simp
  · simp only [Instr.sliceBounds, Option.map_none, Option.map_some, hz, Sem.run_bind, Sem.run_pure, Result.andThen_ok, Option.isSome_none, Bool.false_eq_true, if_false]
    rw [hb k i len _ h0 hij]
    simp
  · simp only [Instr.sliceBounds, Option.map_none, Option.map_some, hz, hz', Sem.run_bind, Sem.run_pure, Result.andThen_ok, Option.isSome_none, Bool.false_eq_true, if_false]
    rw [hb k' j cap _ (by omega) hj]
    simp only [Result.andThen_ok]
    rw [hb k i j.toNat _ h0 (by omega)]
    simp
theorem ao_slice_str [Tab P] {m : List UInt8} {lo hi : Option Operand} {i j : Int} {T : TypeId} {xT : TI} (hg : guardA ops env g = some (b, b)) (hdn : Nat.ble (d + 1) n = true) (hx : evalA env x = some (.str m))
    (h1 : tab P T = some xT) (h2 : xT.desc = .string) (hlo : boundA env 0 lo = some i) (hhi : boundA env (m.length : Int) hi = some j) (h0 : 0 ≤ i) (hij : i ≤ j) (hj : j ≤ m.length)
    (h : AOps P C n ops rest ((d, .str ((m.take j.toNat).drop i.toNat)) :: env) H Q) :
    AOps P C n ops ({ dst := some d, op := .slice T x lo hi none, type := t, pos := p, after := af, guard := g } :: rest) env H Q := by
  refine ao_pure hg rfl hdn (fun R ρ w hm hf => ⟨_, ?_, rel_str.2 rfl⟩) h
  have hb := bounds_run (P := P) (isS := false) (len := m.length) (cap := m.length) hf hlo hhi h0 hij hj (Nat.le_refl _) w
  simp only [execOp, rel_str.1 (hf _ _ hx), Instr.sliceAt, Instr.slice, Sem.run_bind, Sem.run_pure, Result.andThen_ok, tab_run_und h1, h2, str_size, Option.map_none, Option.isSome_none, Bool.false_eq_true, if_false, hb, str_extract]

/-! ### Several results -/
theorem ao_extract {cs : List AVal} {i : Nat} (hg : guardA ops env g = some (b, b)) (hdn : Nat.ble (d + 1) n = true) (hx : evalA env x = some (.tuple cs)) (hi : cs[i]? = some av)
    (h : AOps P C n ops rest ((d, av) :: env) H Q) : AOps P C n ops ({ dst := some d, op := .extract x i, type := t, pos := p, after := af, guard := g } :: rest) env H Q := by
  refine ao_pure hg rfl hdn (fun R ρ w hm hf => ?_) h
  obtain ⟨ws, e, hr⟩ := rel_one (hf _ _ hx) rfl
  simp only [List.cons.injEq, and_true] at e
  have key : ∀ {cs : List AVal} {vs : List Value} {i : Nat}, RelV R cs vs → cs[i]? = some av → ∃ v, vs[i]? = some v ∧ Rel R av v := by
    intro cs
    induction cs with
    | nil => intro vs i _ hi; simp at hi
    | cons c cs ih =>
      intro vs i hr hi
      obtain ⟨v, t, rfl, hv, hr⟩ := hr
      cases i with
      | zero => simp only [List.getElem?_cons_zero, Option.some.injEq] at hi; subst hi; exact ⟨v, rfl, hv⟩
      | succ i => exact ih (vs := t) (i := i) hr (by simpa using hi)
  obtain ⟨v, hv, hrv⟩ := key hr hi
  refine ⟨v, ?_, hrv⟩
  simp only [execOp, e, Instr.extract]
  have : ws[i]? = some v := by simpa using hv
  simp only [this]
  rfl
end
end Go.Proofs.YtlmihggafbmkaaaGreatDoor
