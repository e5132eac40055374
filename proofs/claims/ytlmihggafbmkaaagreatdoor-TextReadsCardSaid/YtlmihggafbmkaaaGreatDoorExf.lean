/- The walk by reckoning, second part: operations that write, calls, whole codes, loops, a function's end. -/
import Derived.Test.YtlmihggafbmkaaaGreatDoorExe
namespace Go.Proofs.YtlmihggafbmkaaaGreatDoor
open Go
set_option linter.unusedSimpArgs false
set_option linter.unusedSectionVars false
set_option linter.unusedVariables false

/-- Ranging: more, or the end. -/
structure Nx (pos : Nat) (s : List UInt8) (a b : Prop) : Prop where
  more : pos < s.length → a
  done : s.length ≤ pos → b
theorem nx_i {pos : Nat} {s : List UInt8} {a b : Prop} (h : pos < s.length → a) (k : s.length ≤ pos → b) : Nx pos s a b := ⟨h, k⟩
mutual
def unown : AVal → AVal
  | .own _ v => .raw v
  | .tuple cs => .tuple (unownL cs)
  | .iface t v => .iface t (unown v)
  | .func f a b => .func f (unownL a) (unownL b)
  | a => a
def unownL : List AVal → List AVal
  | [] => []
  | c :: cs => unown c :: unownL cs
end
mutual
theorem unown_rel {R : Seal} : ∀ (a : AVal) (v : Value), Rel R a v → Rel R (unown a) v
  | .own i x, v, h => by simp only [unown]; exact rel_raw.2 (rel_own.1 h).1
  | .tuple cs, v, ⟨⟨ws, e, h⟩, h2⟩ => by simp only [unown]; exact ⟨⟨ws, e, unownL_rel cs _ h⟩, h2⟩
  | .iface t a, v, ⟨⟨w, e, h, k⟩, h2⟩ => by
    simp only [unown]
    have := unown_rel a w ⟨h, k⟩
    exact ⟨⟨w, e, this.1, this.2⟩, h2⟩
  | .func f a b, v, ⟨⟨x, y, e, h, k⟩, h2⟩ => by simp only [unown]; exact ⟨⟨x, y, e, unownL_rel a _ h, unownL_rel b _ k⟩, h2⟩
  | .bool _, _, h => h
  | .int _ _, _, h => h
  | .str _, _, h => h
  | .raw _, _, h => h
  | .list _ _ _, _, h => h
  | .rop _ _, _, h => h
  | .agg _, _, h => h
theorem unownL_rel {R : Seal} : ∀ (a : List AVal) (vs : List Value), RelV R a vs → RelV R (unownL a) vs
  | [], _, h => h
  | c :: cs, _, ⟨v, t, e, ⟨h1, h2⟩, k⟩ => by
    have := unown_rel c v ⟨h1, h2⟩
    exact ⟨v, t, e, ⟨this.1, this.2⟩, unownL_rel cs t k⟩
end
/-- A call of a method of what an interface value holds. -/
inductive Iv (P : Program) (G : Glo) (ty : TypeId) (a : AVal) (name : String) (avs : List AVal) (H : Heap) (K : AVal → Heap → Prop) (Kp : AVal → Heap → Prop) : Prop
  | mk (f : FuncId) (r : AVal) (hm : ∀ R v, Rel R a v → ∀ w, ∃ u, (Go.method (P.types.size + Made.depth) ty v name).run P w = .ok (f, u) w ∧ Rel R r u) (k : Cx P G f (r :: avs) H K Kp)
def srcChk (sz : Nat) (f : Nat → AVal) : Nat → Bool
  | 0 => true
  | m + 1 => ((f m).plain && Nat.beq (f m).cells.length sz && allOK (f m).cells) && srcChk sz f m
theorem srcChk_ok {sz : Nat} {f : Nat → AVal} : ∀ {m : Nat}, srcChk sz f m = true → ∀ i, i < m → (f i).plain = true ∧ (f i).cells.length = sz ∧ allOK (f i).cells = true
  | 0, _, i, h => absurd h (Nat.not_lt_zero _)
  | m + 1, h, i, hi => by
    simp only [srcChk, Bool.and_eq_true] at h
    by_cases e : i = m
    · subst e; exact ⟨h.1.1.1, Nat.eq_of_beq_eq_true h.1.1.2, h.1.2⟩
    · exact srcChk_ok h.2 i (by omega)
/-- Elements that may be laid into a row. -/
def SrcOK (sz m : Nat) (f : Nat → AVal) : Prop := ∀ i, i < m → (f i).plain = true ∧ (f i).cells.length = sz ∧ allOK (f i).cells = true
def rowCells (m : Nat) (f : Nat → AVal) : List AVal := (List.range m).flatMap fun i => (f i).cells
section
variable (P : Program) [Tab P] (C : Ctx) (n : Nat) (G : Glo) (GL : List (Nat × List AVal))
def cellsOf (a : AVal) (F : Prop) (K : List AVal → Prop) : Prop :=
  match a with
  | .agg cs => forceL cs K
  | .raw (.agg _) => F
  | a => K [a]
def storeX (env : Env) (H : Heap) (T : TypeId) (x y : Operand) (F : Prop) (K : Heap → Prop) : Prop :=
  match tab P T with
  | some xT => match evalA env x, evalA env y with
    | some (.own i (.pointer (some ⟨b, o, none⟩))), some a => match H[i]? with
      | some (.cells b' eT cs) => cellsOf a F fun ac => match Nat.beq ac.length xT.size, Nat.ble (o + xT.size) cs.length, allOK ac with
        | true, true, true => Sp (b' = b) (forceL (cs.take o ++ ac ++ cs.drop (o + xT.size)) fun c => forceH (H.set i (.cells b eT c)) K)
        | _, _, _ => F
      | some (.buf b' s cap) => match a, Nat.beq xT.size 1 with
        | .int .u8 m, true => Sp (b' = b ∧ o < s.length ∧ 0 ≤ m ∧ m ≤ 255) (forceH (H.set i (.buf b (s.set o (UInt8.ofNat m.toNat)) cap)) K)
        | _, _ => F
      | some (.row v' eT sz n cs) => cellsOf a F fun ac => match Nat.beq ac.length xT.size, allOK ac with
        | true, true => match Nat.beq xT.size 1 with
          | true => Sp (RowAt v' b n ∧ o + 1 ≤ n * sz ∧ 0 < n) (forceH (H.set i (.row v' eT sz n (cs.take o ++ ac ++ cs.drop (o + 1)))) K)
          | false => Sp (RowAt v' b n ∧ o + xT.size ≤ n * sz ∧ 0 < n) (forceH (H.set i (.row v' eT sz n (cs.take o ++ ac ++ cs.drop (o + xT.size)))) K)
        | _, _ => F
      | _ => F
    | _, _ => F
  | none => F
def tyOK : Option TypeId → TypeId → Bool
  | none, _ => true
  | some t, e => Nat.beq e t
theorem tyOK_ok {eT : Option TypeId} {e : TypeId} (h : tyOK eT e = true) : ∀ t, eT = some t → e = t := by
  rintro t rfl
  exact Nat.eq_of_beq_eq_true h
def appendX (env : Env) (H : Heap) (T tx : TypeId) (x y : Operand) (F : Prop) (K : AVal → Heap → Prop) : Prop :=
  match tab P T, tab P tx with
  | some xT, some xx => match xT.desc, xx.desc with
    | .slice e, .slice _ => match tab P e with
      | some xe => match zeroCellsA xe.zero, Nat.ble xe.bytes 1024, Nat.ble 1 xe.size with
        | some z, true, true => match Nat.beq z.length xe.size, evalA env y with
          | true, some (.list sz m f) => match Nat.beq xe.size sz with
            | true => match evalA env x with
              | some (.own i v) => match H[i]? with
                | some (.row v' eT sz' n0 cs) => match tyOK eT e with
                  | true => Sp (v' = v ∧ sz' = sz ∧ n0 + m ≤ 137438953472)
                    (Ch (Sp (srcChk sz f m = true) (As (n0 + m) fun u => forceH (H.set i (.row u eT sz (n0 + m) (cs ++ rowCells m f))) fun H' => K (.own i u) H'))
                      (Sp (SrcOK sz m f) (As (n0 + m) fun u => forceH (H.set i (.row u eT sz (n0 + m) (cs ++ rowCells m f))) fun H' => K (.own i u) H')))
                  | false => F
                | _ => F
              | some (.raw (.slice none 0 0)) => Sp (m ≤ 137438953472)
                    (Ch (Sp (srcChk sz f m = true) (As m fun u => forceH (H ++ [.row u none sz m (rowCells m f)]) fun H' => K (.own H.length u) H'))
                      (Sp (SrcOK sz m f) (As m fun u => forceH (H ++ [.row u none sz m (rowCells m f)]) fun H' => K (.own H.length u) H')))
              | _ => F
            | false => F
          | _, _ => F
        | _, _, _ => F
      | none => F
    | _, _ => F
  | _, _ => F
def bytesX (env : Env) (H : Heap) (S T : TypeId) (s : List UInt8) (F : Prop) (K : AVal → Heap → Prop) : Prop :=
  match tab P S, tab P T with
  | some xS, some xT => match xS.desc, xT.desc with
    | .string, .slice e => match tab P e with
      | some xe => match xe.desc with
        | .int .u8 => Ac (fun cap => s.length ≤ cap) fun bl cap => forceH (H ++ [.buf bl s cap]) fun H' => K (.own H.length (.slice (some ⟨bl, 0, none⟩) s.length cap)) H'
        | _ => F
      | none => F
    | .string, .string => K (.str s) H
    | _, _ => F
  | _, _ => F
def buildSX (env : Env) (H : Heap) (T : TypeId) (m : Nat) (l : List (Nat × Operand)) (F : Prop) (K : AVal → Heap → Prop) : Prop :=
  match tab P T, partsA env l with
  | some xT, some ps => match xT.desc with
    | .slice e => match tab P e with
      | some xe => match zeroCellsA xe.zero with
        | some z => match Nat.beq z.length xe.size, inOrder 0 ps, partSizes xe.size ps, Nat.beq ps.length m, Nat.ble (m * xe.size) 16777216 with
          | true, true, true, true, true => Bo (K (.list xe.size m (partElem ps)) H) (As m fun v => forceL (partCells ps) fun cs => forceH (H ++ [.row v none xe.size m cs]) fun H' => K (.own H.length v) H')
          | _, _, _, _, _ => F
        | none => F
      | none => F
    | _ => F
  | _, _ => F
def callX (env : Env) (H : Heap) (fv : Operand) (args : List Operand) (F : Prop) (Kp : AVal → Heap → Prop) (K : AVal → Heap → Prop) : Prop :=
  match evalA env fv, argsA env args with
  | some (.func (.func f) l1 l2), some avs => forceL (unownL (l1 ++ (avs ++ l2))) fun avs => Cx P G f avs H K Kp
  | _, _ => F
def memX (env : Env) (H : Heap) (op : Op) (F : Prop) (Kp : AVal → Heap → Prop) (K : AVal → Heap → Prop) : Prop :=
  match op with
  | .alloc T => match tab P T with
    | some xT => match zeroCellsA xT.zero with
      | some cs => Ab fun bl => forceL cs fun cs => forceH (H ++ [.cells bl (some T) cs]) fun H' => K (.own H.length (.pointer (some ⟨bl, 0, none⟩))) H'
      | none => F
    | none => F
  | .box T x => match evalA env x with
    | some a => cellsOf a F fun cs => Bo (K (.rop cs 0) H) (Ab fun bl => forceH (H ++ [.cells bl (some T) cs]) fun H' => K (.own H.length (.pointer (some ⟨bl, 0, none⟩))) H')
    | none => F
  | .call ⟨.builtin .append, args, ts⟩ => match args.toList, ts.toList with
    | [x, y], [T, tx] => appendX P env H T tx x y F K
    | _, _ => F
  | .call ⟨.invoke recv name, args, _⟩ => match evalA env recv, argsA env args.toList with
    | some (.iface ty a), some avs => Iv P G ty (unown a) name (unownL avs) H K Kp
    | _, _ => F
  | .call ⟨.value fv, args, _⟩ => callX P G env H fv args.toList F Kp K
  | .convert S T x => match evalA env x with
    | some (.str s) => bytesX P env H S T s F K
    | _ => valX P GL env H (.convert S T x) F fun av => K av H
  | .buildSlice T m l => buildSX P env H T m l.toList F K
  | .range T x => match tab P T, evalA env x with
    | some xT, some (.str s) => match xT.desc with
      | .string => Ab fun bl => forceH (H ++ [.iter bl s 0]) fun H' => K (.own H.length (.pointer (some ⟨bl, 0, none⟩))) H'
      | _ => F
    | _, _ => F
  | .next x true => match evalA env x with
    | some (.own i (.pointer (some ⟨b, 0, none⟩))) => match H[i]? with
      | some (.iter b' s pos) => Sp (b' = b) (Nx pos s (forceH (H.set i (.iter b s (pos + stepS (s.drop pos)))) fun H' => K (.tuple [.bool true, .int .i64 (pos : Int), .int .i32 (rngR (s.drop pos) : Int)]) H') (K (.tuple [.bool false]) H))
      | _ => F
    | _ => F
  | op => valX P GL env H op F fun av => K av H
def guardX (ops : Array Oper) (env : Env) (g : Option (Nat × Bool)) (F : Prop) (run skip : Env → Prop) : Prop :=
  match g with
  | none => run env
  | some (j, want) => match ops[j]? with
    | some o => match o.dst with
      | some e => match Env.get env e with
        | some (.bool b) => match want with
          | true => Sc b (run ((e, .bool true) :: env)) (skip ((e, .bool false) :: env))
          | false => Sc b (skip ((e, .bool true) :: env)) (run ((e, .bool false) :: env))
        | some (.raw v) => Sp (v = undef) (skip env)
        | _ => F
      | none => F
    | none => F
/-- Left to be shown by other means. -/
structure Op1 (ops : Array Oper) (l : List Oper) (env : Env) (H : Heap) (Q : AExit → Env → Heap → Prop) : Prop where
  h : AOps P C n ops l env H Q
structure Cd (c : Code) (env : Env) (H : Heap) (Q : AExit → Env → Heap → Prop) : Prop where
  h : AWp P C n c env H Q
/-- One operation, what follows behind a variable. -/
def stepX (ops : Array Oper) (o : Oper) (rest : List Oper) (Q : AExit → Env → Heap → Prop) (K : Env → Heap → Prop) (env : Env) (H : Heap) : Prop :=
  guardX ops env o.guard (Op1 P C n ops (o :: rest) env H Q)
    (fun env' => match o.op with
      | .panic x => match evalA env' x with
        | some (.iface ty v) => Q (.panic (.iface ty v)) env' H
        | _ => Op1 P C n ops (o :: rest) env' H Q
      | op => match o.dst with
        | some d => match Nat.ble (d + 1) n with
          | true => memX P G GL env' H op (Op1 P C n ops (o :: rest) env' H Q) (fun v H' => Q (.panic v) env' H') (fun av H' => K ((d, av) :: env') H')
          | false => Op1 P C n ops (o :: rest) env' H Q
        | none => match op with
          | .store T x y => storeX P env' H T x y (Op1 P C n ops (o :: rest) env' H Q) (fun H' => K env' H')
          | _ => Op1 P C n ops (o :: rest) env' H Q)
    (fun env' => match o.dst with
      | some d => match Nat.ble (d + 1) n with
        | true => K ((d, .raw undef) :: env') H
        | false => Op1 P C n ops (o :: rest) env' H Q
      | none => K env' H)
noncomputable def opsX (ops : Array Oper) (Q : AExit → Env → Heap → Prop) (l : List Oper) : Env → Heap → Prop :=
  List.rec (motive := fun _ => Env → Heap → Prop) (fun env H => Q .normal env H) (fun o rest ih => stepX P C n G GL ops o rest Q ih) l
def blockX (id : Nat) (Q : AExit → Env → Heap → Prop) : AExit → Env → Heap → Prop
  | .exit i, e, h => match Nat.beq i id with
    | true => Q .normal e h
    | false => Q (.exit i) e h
  | x, e, h => Q x e h
/-- A loop. -/
structure Lp (c : Code) (env : Env) (H : Heap) (Q : AExit → Env → Heap → Prop) : Prop where
  h : AWp P C n (.loop c) env H Q
/-- A region that draws its order. -/
structure Dw (id : Nat) (ops : Array Oper) (env : Env) (H : Heap) (Q : AExit → Env → Heap → Prop) : Prop where
  h : AWp P C n (.region id ops true) env H Q
noncomputable def codeX (c : Code) : Env → Heap → (AExit → Env → Heap → Prop) → Prop :=
  Code.rec (motive := fun _ => Env → Heap → (AExit → Env → Heap → Prop) → Prop)
    (fun env H Q => Q .normal env H)
    (fun id ops d env H Q => match d with
      | false => opsX P C n G GL ops Q ops.toList env H
      | true => Dw P C n id ops env H Q)
    (fun _ _ iha ihb env H Q => iha env H (thenQ (fun e h => ihb e h Q) Q))
    (fun c x y ihx ihy env H Q => match evalA env c with
      | some (.bool b) => Sc b (ihx env H Q) (ihy env H Q)
      | _ => Cd P C n (.cond c x y) env H Q)
    (fun id _ ih env H Q => ih env H (blockX id Q))
    (fun c _ env H Q => Lp P C n c env H Q)
    (fun f ps a b _ _ env H Q => Cd P C n (.rangeFunc f ps a b) env H Q)
    (fun id env H Q => Q (.exit id) env H)
    (fun c _ env H Q => Cd P C n (.scope c) env H Q)
    (fun l env H Q => Cd P C n (.label l) env H Q)
    (fun l env H Q => Cd P C n (.goto l) env H Q)
    (fun env H Q => Q .ret env H)
    (fun w env H Q => Cd P C n (.refuse w) env H Q) c
end
section
variable {P : Program} [Tab P] {C : Ctx} {n : Nat} {env : Env} {H : Heap} {Q : AExit → Env → Heap → Prop} {ops : Array Oper} {rest : List Oper} {GL : List (Nat × List AVal)}
variable {eT : Option TypeId}
variable {d : Nat} {t : TypeId} {p : String} {af : Array Edge} {g : Option (Nat × Bool)} {b : Bool}
/-- What is known of the slots may be told otherwise. -/
theorem ao_env {l : List Oper} {env' : Env} (hs : ∀ {D : List Deferred} R a, FS D n R env a → FS D n R env' a) (h : AOps P C n ops l env' H Q) : AOps P C n ops l env H Q :=
  fun R a w hm hf => h R a w hm (hs R a hf)
theorem aw_env {c : Code} {env' : Env} (hs : ∀ {D : List Deferred} R a, FS D n R env a → FS D n R env' a) (h : AWp P C n c env' H Q) : AWp P C n c env H Q :=
  fun R a w hm hf => h R a w hm (hs R a hf)
theorem ao_perm {l : List Oper} {H' : Heap} (hs : H.Perm H') (h : AOps P C n ops l env H' Q) : AOps P C n ops l env H Q :=
  fun R a w hm hf => h R a w (hm.perm hs) hf
theorem ao_end {l : List Oper} {x : HEnt} (h : AOps P C n ops l env (H ++ [x]) Q) : AOps P C n ops l env (x :: H) Q :=
  ao_perm (List.perm_append_singleton x H).symm h
theorem fs_raw {D : List Deferred} {R : Seal} {a : Act} {s i : Nat} {v : Value} (hs : Env.get env s = some (.own i v)) (hf : FS D n R env a) : FS D n R ((s, .raw v) :: env) a := by
  refine ⟨fun k x hk => ?_, hf.size, hf.defers⟩
  simp only [Env.get] at hk
  split at hk
  · rename_i hb
    have := Nat.eq_of_beq_eq_true hb
    subst this
    simp only [Option.some.injEq] at hk
    subst hk
    obtain ⟨y, hy, hr⟩ := hf.fr _ _ hs
    exact ⟨y, hy, rel_raw.2 (rel_own.1 hr).1⟩
  · exact hf.fr k x hk
/-- The slot's value is the call's own, at a place. -/
theorem fs_own {D : List Deferred} {R : Seal} {a : Act} {s i : Nat} {v : Value} (hv : vAgg v = false) (hs : Env.get env s = some (.raw v)) (hf : FS D n R env a) : FS D n R ((s, .own i v) :: env) a := by
  refine ⟨fun k x hk => ?_, hf.size, hf.defers⟩
  simp only [Env.get] at hk
  split at hk
  · rename_i hb
    have := Nat.eq_of_beq_eq_true hb
    subst this
    simp only [Option.some.injEq] at hk
    subst hk
    obtain ⟨y, hy, hr⟩ := hf.fr _ _ hs
    exact ⟨y, hy, rel_own.2 ⟨rel_raw.1 hr, hv⟩⟩
  · exact hf.fr k x hk
theorem fs_drop {D : List Deferred} {R : Seal} {a : Act} {s d i : Nat} {v : Value} {x : AVal} (hv : vAgg v = false) (hs : Env.get env s = some (.own i v)) (hf : FS D n R ((d, x) :: (s, .raw v) :: env) a) : FS D n R ((d, x) :: env) a := by
  refine ⟨fun k y hk => ?_, hf.size, hf.defers⟩
  simp only [Env.get] at hk
  split at hk
  · rename_i hb
    exact hf.fr k y (by simp only [Env.get, hb]; exact hk)
  · rename_i hb
    by_cases e : s = k
    · subst e
      rw [hs] at hk
      simp only [Option.some.injEq] at hk
      subst hk
      obtain ⟨z, hz, hr⟩ := hf.fr s (.raw v) (by simp [Env.get, hb])
      exact ⟨z, hz, rel_own.2 ⟨rel_raw.1 hr, hv⟩⟩
    · refine hf.fr k y ?_
      have : Nat.beq s k = false := by
        cases hbb : Nat.beq s k with
        | false => rfl
        | true => exact absurd (Nat.eq_of_beq_eq_true hbb) e
      simp only [Env.get, hb, this]
      exact hk
/-- A slot that takes a raw value is one that holds the call's own. -/
theorem ao_dst_own {i : Nat} {v : Value} (hv : vAgg v = false) (h : AOps P C n ops rest ((d, .own i v) :: env) H Q) : AOps P C n ops rest ((d, .raw v) :: env) H Q :=
  ao_env (fun R a hf => by
    refine ⟨fun k y hk => ?_, hf.size, hf.defers⟩
    simp only [Env.get] at hk
    split at hk
    · rename_i hb
      have := Nat.eq_of_beq_eq_true hb
      subst this
      simp only [Option.some.injEq] at hk
      subst hk
      obtain ⟨z, hz, hr⟩ := hf.fr d (.raw v) (by simp [Env.get])
      exact ⟨z, hz, rel_own.2 ⟨rel_raw.1 hr, hv⟩⟩
    · rename_i hb
      exact hf.fr k y (by simp only [Env.get, hb]; exact hk)) h
theorem ao_of_run {op : Op} {av : AVal} (hg : guardA ops env g = some (b, b)) (hdn : Nat.ble (d + 1) n = true) (hr : RunV P C H env op av) (h : AOps P C n ops rest ((d, av) :: env) H Q) :
    AOps P C n ops ({ dst := some d, op := op, type := t, pos := p, after := af, guard := g } :: rest) env H Q :=
  ao_pure hg rfl hdn (fun R ρ w hm hf => hr R ρ w hm hf _ _ _ _ _) h
theorem ao_of_x {op : Op} {F : Prop} {K : AVal → Prop} (hg : guardA ops env g = some (b, b)) (hdn : Nat.ble (d + 1) n = true) (h : XOk P C H env op F K)
    (hF : F → AOps P C n ops ({ dst := some d, op := op, type := t, pos := p, after := af, guard := g } :: rest) env H Q) (hK : ∀ av, K av → AOps P C n ops rest ((d, av) :: env) H Q) :
    AOps P C n ops ({ dst := some d, op := op, type := t, pos := p, after := af, guard := g } :: rest) env H Q := by
  rcases h with h | ⟨av, h1, h2⟩
  · exact hF h
  · exact ao_of_run hg hdn h1 (hK av h2)
theorem cellsOf_ok {a : AVal} {F : Prop} {K : List AVal → Prop} (h : cellsOf a F K) : F ∨ (a.plain = true ∧ K a.cells) := by
  unfold cellsOf at h
  split at h
  · rw [forceL_eq] at h; exact .inr ⟨rfl, h⟩
  · exact .inl h
  · rename_i h1 h2
    refine .inr ⟨?_, ?_⟩
    · cases a <;> first | rfl | skip
      rename_i v; cases v <;> first | rfl | (exact absurd rfl (h2 _))
    · cases a <;> first | exact h | (exact absurd rfl (h1 _))
/-- The entry of bytes told as cells. -/
theorem buf_cells {R : Seal} {w : World} {i bl cap : Nat} {s : List UInt8} (hi : H[i]? = some (.buf bl s cap)) (hm : MS C R H w) : MS C R (H.set i (.cells bl none (ownB s cap))) w := by
  obtain ⟨_, C', e, fz, h1, h2, h3⟩ := hm.heap.holds _ (List.mem_of_getElem? hi)
  exact hm.swap hi rfl ⟨C', e, fz, h1, h2, h3, fun _ h => nomatch h⟩
theorem cells_buf {R : Seal} {w : World} {i bl cap : Nat} {s : List UInt8} (hc : s.length ≤ cap) (hi : H[i]? = some (.cells bl eT (ownB s cap))) (hm : MS C R H w) : MS C R (H.set i (.buf bl s cap)) w := by
  obtain ⟨C', e, fz, h1, h2, h3, _⟩ := hm.heap.holds _ (List.mem_of_getElem? hi)
  exact hm.swap hi rfl ⟨hc, C', e, fz, h1, h2, h3⟩
theorem ao_heap {l : List Oper} {H' : Heap} (hs : ∀ R w, MS C R H w → MS C R H' w) (h : AOps P C n ops l env H' Q) : AOps P C n ops l env H Q :=
  fun R a w hm hf => h R a w (hs R w hm) hf
theorem get_set {i : Nat} {x y : HEnt} (hi : H[i]? = some x) : (H.set i y)[i]? = some y := by
  have := (List.getElem?_eq_some_iff.1 hi).1
  simp [this]
theorem set_set (i : Nat) (y z : HEnt) : (H.set i y).set i z = H.set i z := by simp
theorem guard_const {x : Oper} {e : Nat} {v : Bool} {j : Nat} {want : Bool} (ho : ops[j]? = some x) (he : x.dst = some e) : guardA ops ((e, .bool v) :: env) (some (j, want)) = some (v, want) := by
  simp only [guardA, ho, he, Env.get, Nat.beq_refl]
variable {x y : Operand} {T : TypeId} {xT : TI} {tx ty : TypeId} {av : AVal}
theorem row_vAgg {R : Seal} {w : World} {i sz m : Nat} {v : Value} {cs : List AVal} (hm : MS C R H w) (hi : H[i]? = some (.row v eT sz m cs)) : vAgg v = false := by
  obtain ⟨_, h⟩ := hm.heap.holds _ (List.mem_of_getElem? hi)
  rcases h with ⟨rfl, _⟩ | ⟨_, _, _, _, _, rfl, _⟩ <;> rfl
/-- A row's value is a slice. -/
theorem ao_rowslice {l : List Oper} {i sz m : Nat} {v : Value} {cs : List AVal} (hi : H[i]? = some (.row v eT sz m cs)) (h : (∃ a k c, v = .slice a k c ∧ RowV m a k) → AOps P C n ops l env H Q) : AOps P C n ops l env H Q := fun R a w hm hf => by
  obtain ⟨_, hh⟩ := hm.heap.holds _ (List.mem_of_getElem? hi)
  refine h ?_ R a w hm hf
  rcases hh with ⟨rfl, rfl⟩ | ⟨_, _, _, _, _, rfl, _⟩
  · exact ⟨_, _, _, rfl, fun h => absurd h (Nat.lt_irrefl _)⟩
  · exact ⟨_, _, _, rfl, fun _ => ⟨_, rfl, rfl⟩⟩
theorem ow_store {j0 i bl o : Nat} {cs : List AVal} (hg : guardA ops env g = some (b, b))
    (hx : evalA env x = some (.own j0 (.pointer (some ⟨bl, o, none⟩)))) (hy : evalA env y = some av) (hi : H[i]? = some (.cells bl eT cs)) (h1 : tab P T = some xT) (h2 : av.cells.length = xT.size)
    (hc : Nat.ble (o + xT.size) cs.length = true) (hp : av.plain = true) (hok : allOK av.cells = true)
    (h : AOps P C n ops rest env (H.set i (.cells bl eT (cs.take o ++ av.cells ++ cs.drop (o + xT.size)))) Q) :
    AOps P C n ops ({ dst := none, op := .store T x y, type := t, pos := p, after := af, guard := g } :: rest) env H Q := by
  refine ao_skipval hg rfl (fun R ρ w hm hf => ?_) h
  have hc := Nat.le_of_ble_eq_true hc
  obtain ⟨Cs, el, fz, hb, hl, hfz⟩ := own_cells hm hi
  have hlen := relL_length hl
  simp only [Array.length_toList] at hlen
  have hv := rel_cells (hf _ _ hy) hp
  have hvl := relL_length hv
  simp only [Array.length_toList] at hvl
  obtain ⟨w', hr, ho⟩ := storeCells_run (P := P) (ρ y).cells.toList o 0 Cs w hb (by simp only [Array.length_toList]; omega) hfz.1 (allOK_vals hv hok)
  refine ⟨w', R, ?_, Seal.le_refl R, hm.write hi rfl ho rfl ?_⟩
  · simp only [execOp, (rel_own.1 (hf _ _ hx)).1, Instr.storeAt, Instr.sureAddr, storeVar, Sem.run_bind, Sem.run_pure, Result.andThen_ok, tab_run_size h1]
    rw [if_neg (by omega)]
    simp only [Sem.run_bind, Sem.run_pure, Result.andThen_ok, hr]
  · refine ⟨_, _, _, ho.at_, ?_, ?_⟩
    · simp only [Nat.add_zero, Array.length_toList, hvl, h2]
      exact relL_append (relL_append (relL_take o hl) hv) (relL_drop _ hl)
    · simp only [Nat.add_zero, Array.length_toList, hvl, h2, List.size_toArray, List.length_append, List.length_take, List.length_drop]
      have : min o Cs.size + xT.size + (Cs.size - (o + xT.size)) = Cs.size := by omega
      rw [this]; exact hfz
theorem ow_store_row {j0 i bl o n0 sz : Nat} {v : Value} {cs : List AVal} (hg : guardA ops env g = some (b, b))
    (hx : evalA env x = some (.own j0 (.pointer (some ⟨bl, o, none⟩)))) (hy : evalA env y = some av) (hi : H[i]? = some (.row v eT sz n0 cs)) (hr : RowAt v bl n0) (h0 : 0 < n0) (h1 : tab P T = some xT) (h2 : av.cells.length = xT.size)
    (hc : o + xT.size ≤ n0 * sz) (hp : av.plain = true) (hok : allOK av.cells = true)
    (h : AOps P C n ops rest env (H.set i (.row v eT sz n0 (cs.take o ++ av.cells ++ cs.drop (o + xT.size)))) Q) :
    AOps P C n ops ({ dst := none, op := .store T x y, type := t, pos := p, after := af, guard := g } :: rest) env H Q := by
  refine ao_skipval hg rfl (fun R ρ w hm hf => ?_) h
  obtain ⟨hlen, cap, Cs, el, fz, rfl, hb, hsz, hnc, hl, hfz⟩ := row_cells hm hi hr h0
  have hmul : n0 * sz ≤ cap * sz := Nat.mul_le_mul_right _ hnc
  have hv := rel_cells (hf _ _ hy) hp
  have hvl := relL_length hv
  simp only [Array.length_toList] at hvl
  obtain ⟨w', hr', ho⟩ := storeCells_run (P := P) (ρ y).cells.toList o 0 Cs w hb (by simp only [Array.length_toList]; omega) hfz.1 (allOK_vals hv hok)
  refine ⟨w', R, ?_, Seal.le_refl R, hm.write hi rfl ho rfl ?_⟩
  · simp only [execOp, (rel_own.1 (hf _ _ hx)).1, Instr.storeAt, Instr.sureAddr, storeVar, Sem.run_bind, Sem.run_pure, Result.andThen_ok, tab_run_size h1]
    rw [if_neg (by omega)]
    simp only [Sem.run_bind, Sem.run_pure, Result.andThen_ok, hr']
  · refine ⟨by simp only [List.length_append, List.length_take, List.length_drop]; omega, .inr ⟨bl, cap, _, _, _, rfl, ho.at_, ?_, hnc, ?_, ?_⟩⟩
    · simp only [Nat.add_zero, Array.length_toList, hvl, h2, List.size_toArray, List.length_append, List.length_take, List.length_drop]
      omega
    · have e1 : (Cs.toList.take (o + 0) ++ (ρ y).cells.toList ++ Cs.toList.drop (o + 0 + (ρ y).cells.toList.length)).take (n0 * sz) = (Cs.toList.take (n0 * sz)).take o ++ (ρ y).cells.toList ++ (Cs.toList.take (n0 * sz)).drop (o + xT.size) := by
        have hl1 : (Cs.toList.take o).length = o := by rw [List.length_take, Array.length_toList]; omega
        have hl2 : (ρ y).cells.toList.length = xT.size := by rw [Array.length_toList]; omega
        rw [Nat.add_zero, hl2, List.take_append, List.length_append, hl1, hl2, List.take_of_length_le (by rw [List.length_append, hl1, hl2]; omega), List.take_take, Nat.min_eq_left (by omega), List.drop_take]
      simp only []
      rw [e1]
      exact relL_append (relL_append (relL_take o hl) hv) (relL_drop _ hl)
    · simp only [Nat.add_zero, Array.length_toList, hvl, h2, List.size_toArray, List.length_append, List.length_take, List.length_drop]
      have : min o Cs.size + xT.size + (Cs.size - (o + xT.size)) = Cs.size := by omega
      rw [this]; exact hfz
theorem ow_next_more {j0 i bl pos : Nat} {s : List UInt8} (hg : guardA ops env g = some (b, b)) (hdn : Nat.ble (d + 1) n = true) (hx : evalA env x = some (.own j0 (.pointer (some ⟨bl, 0, none⟩)))) (hi : H[i]? = some (.iter bl s pos)) (hlt : pos < s.length)
    (h : AOps P C n ops rest ((d, .tuple [.bool true, .int .i64 (pos : Int), .int .i32 ((Utf8.decode ⟨s.toArray⟩ pos).1 : Int)]) :: env) (H.set i (.iter bl s (pos + (Utf8.decode ⟨s.toArray⟩ pos).2))) Q) :
    AOps P C n ops ({ dst := some d, op := .next x true, type := t, pos := p, after := af, guard := g } :: rest) env H Q := by
  refine ao_val hg rfl hdn (fun R ρ w hm hf => ?_) h
  have hb : w.heap[bl]? = some (.stringIter ⟨s.toArray⟩ pos) := hm.heap.holds _ (List.mem_of_getElem? hi)
  have hlt' := heap_lt hb
  have ho : OneBlk w bl (.stringIter ⟨s.toArray⟩ (pos + (Utf8.decode ⟨s.toArray⟩ pos).2)) { w with heap := w.heap.setIfInBounds bl (.stringIter ⟨s.toArray⟩ (pos + (Utf8.decode ⟨s.toArray⟩ pos).2)) } :=
    ⟨rfl, rfl, rfl, by simp, by simp [hlt'], fun k hk => by simp only []; rw [Array.getElem?_setIfInBounds_ne (Ne.symm hk)]⟩
  refine ⟨.tuple #[.bool true, .int .i64 (pos : Int), .int .i32 ((Utf8.decode ⟨s.toArray⟩ pos).1 : Int)], { w with heap := w.heap.setIfInBounds bl (.stringIter ⟨s.toArray⟩ (pos + (Utf8.decode ⟨s.toArray⟩ pos).2)) }, R, ?_, Seal.le_refl R, ?_,
    hm.write hi rfl ho rfl ho.at_⟩
  · simp only [execOp, (rel_own.1 (hf _ _ hx)).1, Instr.next, Sem.run_bind, run_getObj_at hb (by simp), Result.andThen_ok, str_size, if_pos hlt]
    simp only [setObj, Sem.run, hb]
    rfl
  · exact ⟨⟨_, rfl, _, _, rfl, ⟨rfl, rfl⟩, _, _, rfl, ⟨rfl, rfl⟩, _, _, rfl, ⟨rfl, rfl⟩, rfl⟩, rfl⟩
theorem ow_next_done {j0 i bl pos : Nat} {s : List UInt8} (hg : guardA ops env g = some (b, b)) (hdn : Nat.ble (d + 1) n = true) (hx : evalA env x = some (.own j0 (.pointer (some ⟨bl, 0, none⟩)))) (hi : H[i]? = some (.iter bl s pos)) (hlt : s.length ≤ pos)
    (h : AOps P C n ops rest ((d, .tuple [.bool false]) :: env) H Q) :
    AOps P C n ops ({ dst := some d, op := .next x true, type := t, pos := p, after := af, guard := g } :: rest) env H Q := by
  refine ao_pure hg rfl hdn (fun R ρ w hm hf => ?_) h
  have hb : w.heap[bl]? = some (.stringIter ⟨s.toArray⟩ pos) := hm.heap.holds _ (List.mem_of_getElem? hi)
  refine ⟨.tuple #[.bool false], ?_, ⟨⟨_, rfl, _, _, rfl, ⟨rfl, rfl⟩, rfl⟩, rfl⟩⟩
  simp only [execOp, (rel_own.1 (hf _ _ hx)).1, Instr.next, Sem.run_bind, run_getObj_at hb (by simp), Result.andThen_ok, str_size]
  rw [if_neg (by omega)]
  rfl
theorem ow_next2 {j0 i bl pos : Nat} {s : List UInt8} (hg : guardA ops env g = some (b, b)) (hdn : Nat.ble (d + 1) n = true) (hx : evalA env x = some (.own j0 (.pointer (some ⟨bl, 0, none⟩)))) (hi : H[i]? = some (.iter bl s pos))
    (hmore : pos < s.length → AOps P C n ops rest ((d, .tuple [.bool true, .int .i64 (pos : Int), .int .i32 (rngR (s.drop pos) : Int)]) :: env) (H.set i (.iter bl s (pos + stepS (s.drop pos)))) Q)
    (hdone : s.length ≤ pos → AOps P C n ops rest ((d, .tuple [.bool false]) :: env) H Q) :
    AOps P C n ops ({ dst := some d, op := .next x true, type := t, pos := p, after := af, guard := g } :: rest) env H Q := by
  by_cases hlt : pos < s.length
  · refine ow_next_more hg hdn hx hi hlt ?_
    have e := decode_nextS s pos hlt
    have h := hmore hlt
    have e1 : (Utf8.decode ⟨s.toArray⟩ pos).1 = rngR (s.drop pos) := by rw [e]; unfold rngR; split <;> rfl
    have e2 : (Utf8.decode ⟨s.toArray⟩ pos).2 = stepS (s.drop pos) := by rw [e]; unfold stepS; split <;> rfl
    rw [e1, e2]
    exact h
  · exact ow_next_done hg hdn hx hi (by omega) (hdone (by omega))
theorem ow_append {j0 i m n0 sz : Nat} {v : Value} {xa : AVal} {cs new z : List AVal} {tx e : TypeId} {xe : TI} (hg : guardA ops env g = some (b, b)) (hdn : Nat.ble (d + 1) n = true)
    (hx : evalA env x = some (.own j0 v)) (hi : H[i]? = some (.row v eT sz n0 cs)) (hy : evalA env y = some xa)
    (h1 : tab P T = some xT) (h2 : xT.desc = .slice e) (h3 : tab P e = some xe) (h4 : xe.size = sz) (h5 : Nat.ble 1 sz = true) (h6 : Nat.ble xe.bytes 1024 = true) (h7 : zeroCellsA xe.zero = some z) (h8 : z.length = sz)
    (hs : ∀ R v, Rel R xa v → SrcIs P R sz tx v m new) (hlen : n0 + m ≤ 137438953472) (hty : ∀ t, eT = some t → e = t)
    (h : ∀ v' : Value, AOps P C n ops rest ((d, .own i v') :: env) (H.set i (.row v' eT sz (n0 + m) (cs ++ new))) Q) :
    AOps P C n ops ({ dst := some d, op := .call { callee := .builtin .append, args := [x, y].toArray, argTypes := [T, tx].toArray }, type := t, pos := p, after := af, guard := g } :: rest) env H Q := by
  refine ao_valX (av := fun v' : Value => .own i v') (H' := fun v' => H.set i (.row v' eT sz (n0 + m) (cs ++ new))) hg rfl hdn (fun R ρ w hm hf => ?_) h
  obtain ⟨v', w', hr, hm'⟩ := append_row (T := T) (tx := tx) t hm hi h1 h2 h3 h4 (zero_size h7 h8) (Nat.le_of_ble_eq_true h6) (hs R _ (hf _ _ hy)) (Nat.le_of_ble_eq_true h5) hlen hty
  refine ⟨v', v', w', R, ?_, Seal.le_refl R, rel_own.2 ⟨rfl, row_vAgg hm' (get_set hi)⟩, hm'⟩
  simp only [execOp, resolve, Sem.run_bind, Sem.run_pure, Result.andThen_ok, invoke, builtin, List.map_toArray, List.map_cons, List.map_nil, (rel_own.1 (hf _ _ hx)).1, hr]
end
end Go.Proofs.YtlmihggafbmkaaaGreatDoor
