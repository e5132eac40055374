/- Bytes of one's own: read and written one by one. -/
import Derived.Test.YtlmihggafbmkaaaGreatDoorDisp
namespace Go.Proofs.YtlmihggafbmkaaaGreatDoor
open Go
set_option linter.unusedSimpArgs false
set_option linter.unusedSectionVars false

/-- A buffer: its bytes, and room behind them. -/
theorem ownB_get {s : List UInt8} {cap i : Nat} (h : i < s.length) : (ownB s cap)[i]? = some (.int .u8 (byteAt s i : Int)) := by
  unfold ownB
  rw [List.getElem?_append_left (by simpa using h), List.getElem?_map, List.getElem?_eq_getElem h]
  simp [byteA, byteAt, h]
theorem ownB_length {s : List UInt8} {cap : Nat} (h : s.length ≤ cap) : (ownB s cap).length = cap := by
  unfold ownB; simp; omega
theorem ownB_take (s : List UInt8) (cap : Nat) : (ownB s cap).take s.length = s.map byteA := by
  unfold ownB; rw [List.take_left' (by simp)]
theorem ownB_set {s : List UInt8} {cap i : Nat} {m : Int} (h : i < s.length) (h0 : 0 ≤ m) (h1 : m ≤ 255) :
    (ownB s cap).take i ++ [.int .u8 m] ++ (ownB s cap).drop (i + 1) = ownB (s.set i (UInt8.ofNat m.toNat)) cap := by
  have e : byteA (UInt8.ofNat m.toNat) = .int .u8 m := by
    unfold byteA
    have : (UInt8.ofNat m.toNat).toNat = m.toNat := by rw [UInt8.toNat_ofNat']; omega
    rw [this]; congr 1; omega
  unfold ownB
  rw [List.take_append_of_le_length (by simp; omega), List.drop_append_of_le_length (by simp; omega), List.length_set, List.map_set, e]
  rw [List.set_eq_take_append_cons_drop, if_pos (by simpa using h)]
  simp
theorem byteAt_set {s : List UInt8} {i j : Nat} {m : Int} (h : i < s.length) (h0 : 0 ≤ m) (h1 : m ≤ 255) : (byteAt (s.set i (UInt8.ofNat m.toNat)) j : Int) = if j = i then m else byteAt s j := by
  unfold byteAt
  by_cases e : j = i
  · subst e
    simp [List.getD, List.getElem?_set, h]
    omega
  · simp [List.getD, List.getElem?_set, Ne.symm e, e]
section
variable {P : Program} [Tab P] {C : Ctx} {n : Nat} {env : Env} {H : Heap} {Q : AExit → Env → Heap → Prop} {ops : Array Oper} {rest : List Oper}
variable {eT : Option TypeId}
variable {d : Nat} {t : TypeId} {p : String} {af : Array Edge} {g : Option (Nat × Bool)} {b : Bool} {av : AVal}
variable {x y : Operand} {T : TypeId} {xT : TI}
theorem ao_buf {s : List UInt8} {S e : TypeId} {xS xe : TI} (hg : guardA ops env g = some (b, b)) (hdn : Nat.ble (d + 1) n = true) (hx : evalA env x = some (.str s))
    (h1 : tab P S = some xS) (h2 : xS.desc = .string) (h3 : tab P T = some xT) (h4 : xT.desc = .slice e) (h5 : tab P e = some xe) (h6 : xe.desc = .int .u8)
    (h : ∀ (bl cap : Nat), s.length ≤ cap → AOps P C n ops rest ((d, .raw (.slice (some ⟨bl, 0, none⟩) s.length cap)) :: env) (.cells bl none (ownB s cap) :: H) Q) :
    AOps P C n ops ({ dst := some d, op := .convert S T x, type := t, pos := p, after := af, guard := g } :: rest) env H Q :=
  ao_bytes_own hg hdn hx h1 h2 h3 h4 h5 h6 h
theorem ao_indexAddr_buf {bl len cap : Nat} {e : TypeId} {xe : TI} {k : IntKind} {i : Nat} (hg : guardA ops env g = some (b, b)) (hdn : Nat.ble (d + 1) n = true)
    (hx : evalA env x = some (.raw (.slice (some ⟨bl, 0, none⟩) len cap))) (hy : evalA env y = some (.int k (i : Int))) (h1 : tab P T = some xT) (h2 : xT.desc = .slice e) (h3 : tab P e = some xe) (h4 : xe.size = 1)
    (hi : i < len)
    (h : AOps P C n ops rest ((d, .raw (.pointer (some ⟨bl, i, none⟩))) :: env) H Q) :
    AOps P C n ops ({ dst := some d, op := .indexAddr T x y, type := t, pos := p, after := af, guard := g } :: rest) env H Q := by
  refine ao_pure hg rfl hdn (fun R ρ w hm hf => ⟨_, ?_, rel_raw.2 rfl⟩) h
  simp only [execOp, rel_raw.1 (hf _ _ hx), rel_int.1 (hf _ _ hy), Instr.indexAt, asIntOf, Sem.run_bind, Sem.run_pure, Result.andThen_ok, tab_run_und h1, h2, Instr.sureAddr]
  rw [if_pos (show 0 ≤ (i : Int) ∧ (i : Int) < (len : Int) from ⟨by omega, by omega⟩)]
  simp only [Sem.run_bind, tab_run_size h3, Result.andThen_ok, Sem.run_pure, Addr.add, h4, Int.toNat_natCast, Nat.mul_one]
  by_cases h0 : i = 0
  · simp [h0]
  · simp [h0]
theorem ao_load_buf {j bl cap i : Nat} {s : List UInt8} (hg : guardA ops env g = some (b, b)) (hdn : Nat.ble (d + 1) n = true)
    (hx : evalA env x = some (.raw (.pointer (some ⟨bl, i, none⟩)))) (hi : H[j]? = some (.cells bl eT (ownB s cap))) (h1 : tab P T = some xT) (h2 : descAgg xT.desc = false) (hlt : i < s.length)
    (h : byteAt s i < 256 → AOps P C n ops rest ((d, .int .u8 (byteAt s i : Int)) :: env) H Q) :
    AOps P C n ops ({ dst := some d, op := .load T x, type := t, pos := p, after := af, guard := g } :: rest) env H Q :=
  ao_load_own hg hdn hx hi h1 h2 (ownB_get hlt) rfl (h (byteAt_lt _ _))
theorem ao_store_buf {j bl cap i : Nat} {s : List UInt8} {m : Int} (hg : guardA ops env g = some (b, b))
    (hx : evalA env x = some (.raw (.pointer (some ⟨bl, i, none⟩)))) (hy : evalA env y = some (.int .u8 m)) (hi : H[j]? = some (.cells bl eT (ownB s cap))) (h1 : tab P T = some xT) (h2 : xT.size = 1) (hlt : i < s.length) (hcap : s.length ≤ cap)
    (h0 : 0 ≤ m) (h3 : m ≤ 255)
    (h : AOps P C n ops rest env (H.set j (.cells bl eT (ownB (s.set i (UInt8.ofNat m.toNat)) cap))) Q) :
    AOps P C n ops ({ dst := none, op := .store T x y, type := t, pos := p, after := af, guard := g } :: rest) env H Q := by
  refine ao_store_own hg hx hy hi h1 (by rw [h2]; rfl) (Nat.ble_eq_true_of_le (by rw [ownB_length hcap, h2]; omega)) rfl rfl ?_
  rw [h2]
  have := ownB_set (cap := cap) hlt h0 h3
  simp only [AVal.cells]
  rw [this]
  exact h
theorem ao_str_buf {s : List UInt8} {j bl cap len : Nat} {S e : TypeId} {xS xe : TI} (hg : guardA ops env g = some (b, b)) (hdn : Nat.ble (d + 1) n = true)
    (hx : evalA env x = some (.raw (.slice (some ⟨bl, 0, none⟩) len cap))) (hi : H[j]? = some (.cells bl eT (ownB s cap))) (h1 : tab P S = some xS) (h2 : xS.desc = .slice e) (h5 : tab P e = some xe) (h6 : xe.desc = .int .u8) (h3 : tab P T = some xT) (h4 : xT.desc = .string)
    (hlen : len = s.length)
    (h : AOps P C n ops rest ((d, .str s) :: env) H Q) :
    AOps P C n ops ({ dst := some d, op := .convert S T x, type := t, pos := p, after := af, guard := g } :: rest) env H Q := by
  subst hlen
  exact ao_str_own hg hdn hx hi (ownB_take s cap) h1 h2 h5 h6 h3 h4 h
end
end Go.Proofs.YtlmihggafbmkaaaGreatDoor
