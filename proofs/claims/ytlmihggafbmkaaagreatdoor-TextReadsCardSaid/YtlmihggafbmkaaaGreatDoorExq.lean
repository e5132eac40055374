/- The walk by reckoning through regions that draw their order, each of whose operations is quiet. -/
import Derived.Test.YtlmihggafbmkaaaGreatDoorExg
import Derived.KernelRfl
namespace Go.Proofs.YtlmihggafbmkaaaGreatDoor
open Go
set_option linter.unusedSimpArgs false
set_option linter.unusedSectionVars false
set_option linter.unusedVariables false
/-- One value, whatever the world of the class. -/
def RunF (P : Program) (C : Ctx) (H : Heap) (env : Env) (op : Op) (av : AVal) : Prop :=
  ∀ (R : Seal) (ρ : Operand → Value), Evals R env ρ → ∃ v, Rel R av v ∧ ∀ (R' : Seal) (w : World), R.le R' → MS C R' H w → ∀ (dst : Option Nat) (t : TypeId) (p : String) (af : Array Edge) (g : Option (Nat × Bool)),
    (execOp ρ { dst := dst, op := op, type := t, pos := p, after := af, guard := g }).run P w = .ok (.value v) w
structure Qf0 (P : Program) (C : Ctx) (n : Nat) (ops : Array Oper) (l : List Oper) (env : Env) (H : Heap) (K : Env → Prop) : Prop where
  h : AQ P C n ops l env H K
/-- A call that hands back what is fixed. -/
inductive Cq (P : Program) (G : Glo) (f : FuncId) (avs : List AVal) (K : AVal → Prop) : Prop
  | mk (v : AVal) (hc : ∀ args w, (callFunc f args).run P w = .ok (.enter f args) w) (hs : FnIs P G f avs v) (hd : v.det = true) (k : K v)
theorem cq {P : Program} {G : Glo} {f : FuncId} {avs : List AVal} {K : AVal → Prop} {v : AVal} (hc : ∀ args w, (callFunc f args).run P w = .ok (.enter f args) w) (hs : FnIs P G f avs v) (hd : v.det = true) (k : K v) : Cq P G f avs K := .mk v hc hs hd k
section
variable (P : Program) [Tab P] (C : Ctx) (n : Nat) (G : Glo) (GL : List (Nat × List AVal)) (H : Heap)
/-- An operation that looks at no memory that changes: its value may be an address. -/
def stillOp (env : Env) : Op → Bool
  | .fieldAddr _ x _ => match evalA env x with
    | some (.rop _ _) => true
    | _ => false
  | .load _ x => match evalA env x with
    | some (.rop _ _) => true
    | _ => false
  | .indexAddr _ x _ => match evalA env x with
    | some (.list _ _ _) => true
    | _ => false
  | _ => false
/-- The value is fixed where the slots' values are. -/
def fixX (env : Env) (op : Op) (F : Prop) : Xf := fun K =>
  match op with
  | .move x | .assign x => match evalA env x with
    | some av => K av
    | none => F
  | .extract x i => match evalA env x with
    | some (.tuple cs) => match cs[i]? with
      | some av => K av
      | none => F
    | _ => F
  | .nilCheck x => match evalA env x with
    | some (.rop cs off) => K (.rop cs off)
    | some (.own i (.pointer (some a))) => K (.own i (.pointer (some a)))
    | _ => F
  | .pick c x y => match evalA env c, evalA env x, evalA env y with
    | some (.bool b), some a, some a' => Sc b (K a) (K a')
    | _, _, _ => F
  | op => match stillOp env op with
    | true => valX P [] env H op F K
    | false => valX P GL env H op F fun av => match av.det with
      | true => K av
      | false => F
def quStep (ops : Array Oper) (o : Oper) (rest : List Oper) (K : Env → Prop) (ih : Env → Prop) (env : Env) : Prop :=
  guardX ops env o.guard (Qf0 P C n ops (o :: rest) env H K)
    (fun env' => match o.dst with
      | some d => match Nat.ble (d + 1) n with
        | true => match o.op with
          | .call ⟨.value fv, args, _⟩ => match evalA env' fv, argsA env' args.toList with
            | some (.func (.func f) [] []), some avs => Cq P G f avs fun v => ih ((d, v) :: env')
            | _, _ => Qf0 P C n ops (o :: rest) env' H K
          | op => fixX P GL H env' op (Qf0 P C n ops (o :: rest) env' H K) fun av => ih ((d, av) :: env')
        | false => Qf0 P C n ops (o :: rest) env' H K
      | none => Qf0 P C n ops (o :: rest) env' H K)
    (fun env' => match o.dst with
      | some d => match Nat.ble (d + 1) n with
        | true => ih ((d, .raw undef) :: env')
        | false => Qf0 P C n ops (o :: rest) env' H K
      | none => ih env')
noncomputable def quX (ops : Array Oper) (K : Env → Prop) (l : List Oper) : Env → Prop :=
  List.rec (motive := fun _ => Env → Prop) K (fun o rest ih => quStep P C n G GL H ops o rest K ih) l
end
section
variable {P : Program} [Tab P] {C : Ctx} {n : Nat} {env : Env} {H : Heap} {Q : AExit → Env → Heap → Prop} {K : Env → Prop} {ops : Array Oper} {rest : List Oper} {G : Glo} {GL : List (Nat × List AVal)} {F : Prop}
variable {d : Nat} {t : TypeId} {p : String} {af : Array Edge} {g : Option (Nat × Bool)} {b : Bool} {x : Operand} {av : AVal}
theorem runF_det {op : Op} (h : RunV P C H env op av) (hd : av.det = true) : RunF P C H env op av := by
  intro R ρ hf
  refine ⟨av.conc, det_rel hd, fun R' w hle hm dst t p af g => ?_⟩
  obtain ⟨v, h1, h2⟩ := h R' ρ w hm (fun x a hx => rel_mono hle (hf x a hx)) dst t p af g
  rw [h1, det_eq h2 hd]
theorem aq_fix {op : Op} (hg : guardA ops env g = some (b, b)) (hdn : Nat.ble (d + 1) n = true) (hx : RunF P C H env op av) (h : AQ P C n ops rest ((d, av) :: env) H K) :
    AQ P C n ops ({ dst := some d, op := op, type := t, pos := p, after := af, guard := g } :: rest) env H K := by
  intro R a hf
  refine wpQuiet_step fun X hX => ?_
  rw [wanted_of hf hg, if_pos (by simp)]
  obtain ⟨v, hv, hrun⟩ := hx R a.eval (fun x a hx => hf.eval hx)
  refine ⟨v, ?_, hX _ (h R _ (hf.put hdn hv))⟩
  rintro w ⟨R', hle, hms⟩
  show Oper.quietUpon P _ w _ ((execOp a.eval _).run P w)
  rw [hrun R' w hle hms]
  exact ⟨rfl, rfl⟩
theorem rf_move (hx : evalA env x = some av) : RunF P C H env (.move x) av := fun R ρ hf => ⟨ρ x, hf _ _ hx, fun _ _ _ _ _ _ _ _ _ => rfl⟩
theorem rf_assign (hx : evalA env x = some av) : RunF P C H env (.assign x) av := fun R ρ hf => ⟨ρ x, hf _ _ hx, fun _ _ _ _ _ _ _ _ _ => rfl⟩
theorem rf_pick {c x y : Operand} {b : Bool} {a a' : AVal} (hc : evalA env c = some (.bool b)) (hx : evalA env x = some a) (hy : evalA env y = some a') : RunF P C H env (.pick c x y) (if b then a else a') := by
  intro R ρ hf
  have := rel_bool.1 (hf _ _ hc)
  cases b
  · exact ⟨ρ y, hf _ _ hy, fun _ _ _ _ _ _ _ _ _ => by simp only [execOp, this, asBool]; rfl⟩
  · exact ⟨ρ x, hf _ _ hx, fun _ _ _ _ _ _ _ _ _ => by simp only [execOp, this, asBool]; rfl⟩
theorem rf_nilCheck_rop {cs : List AVal} {off : Nat} (hx : evalA env x = some (.rop cs off)) : RunF P C H env (.nilCheck x) (.rop cs off) := by
  intro R ρ hf
  have hr := hf _ _ hx
  obtain ⟨bl, o, e1, ho, hs⟩ := rop_inv hr
  rw [e1] at hr
  exact ⟨_, hr, fun _ _ _ _ _ _ _ _ _ => by simp only [execOp, e1]; rfl⟩
theorem rf_extract {cs : List AVal} {i : Nat} (hx : evalA env x = some (.tuple cs)) (hi : cs[i]? = some av) : RunF P C H env (.extract x i) av := by
  intro R ρ hf
  have key : ∀ {l : List AVal} {vs : List Value} {i : Nat}, RelV R l vs → l[i]? = some av → ∃ v, vs[i]? = some v ∧ Rel R av v := by
    intro l
    induction l with
    | nil => intro vs i _ h; simp at h
    | cons c l ih =>
      rintro vs i ⟨v, t, rfl, h1, h2⟩ h
      cases i with
      | zero => simp only [List.getElem?_cons_zero, Option.some.injEq] at h; subst h; exact ⟨v, rfl, h1⟩
      | succ i => simp only [List.getElem?_cons_succ] at h ⊢; exact ih h2 h
  obtain ⟨ws, e, hr⟩ := rel_one (hf _ _ hx) rfl
  simp only [List.cons.injEq, and_true] at e
  obtain ⟨v, hv, hrv⟩ := key hr hi
  refine ⟨v, hrv, fun _ _ _ _ _ _ _ _ _ => ?_⟩
  have hv' : ws[i]? = some v := by simpa using hv
  simp only [execOp, e, Instr.extract, Sem.run_bind, Sem.run_pure, Result.andThen_ok, hv']
theorem rf_fieldAddr {k : Nat} {T : TypeId} {K : AVal → Prop} {cs0 : List AVal} {off0 : Nat} (hx : evalA env x = some (.rop cs0 off0)) (h : fieldAddrX P env T x k F K) : F ∨ ∃ av, RunF P C H env (.fieldAddr T x k) av ∧ K av := by
  unfold fieldAddrX at h
  split at h
  · rename_i xT h1
    split at h
    · rename_i fs h2
      split at h
      · rename_i f h3
        split at h
        · rename_i xf h4
          split at h
          · rename_i h5
            rw [hx] at h
            refine .inr ⟨_, ?_, h⟩
            intro R ρ hf
            have h5 := Nat.le_of_ble_eq_true h5
            obtain ⟨bl, o, e1, ho, hs⟩ := rop_inv (hf _ _ hx)
            refine ⟨.pointer (some ⟨bl, o + f.offset, none⟩), relC_rop (by omega) (by rw [Nat.add_sub_add_right]; exact hs), fun R' w hle hm dst t p af g => ?_⟩
            simp only [execOp, e1, Instr.fieldAt, Sem.run_bind, tab_run_und h1, h2, Result.andThen_ok, h3, Instr.sureAddr, Sem.run_pure, fieldPlace, tab_run_size h4]
            rw [if_neg (by omega)]
            simp only [Addr.add]
            by_cases h0 : f.offset = 0
            · simp [h0]
            · simp [h0]
          · exact .inl h
        · exact .inl h
      · exact .inl h
    · exact .inl h
  · exact .inl h
theorem rf_load {T : TypeId} {K : AVal → Prop} {cs : List AVal} {off : Nat} (hx : evalA env x = some (.rop cs off)) (h : loadX P [] env H T x F K) : F ∨ ∃ av, RunF P C H env (.load T x) av ∧ K av := by
  unfold loadX at h
  split at h
  · rename_i xT h1
    split at h
    · rename_i g
      simp [evalA] at hx
    · rw [hx] at h
      dsimp only at h
      rcases cellX_ok h with h | ⟨ha, hc, h⟩ | ⟨ha, av, hc, hav, h⟩
      · exact .inl h
      · refine .inr ⟨_, ?_, h⟩
        intro R ρ hf
        obtain ⟨bl, o, e1, ho, Cs, el, fz, hR, hl⟩ := rop_inv (hf _ _ hx)
        have hlen := relL_length hl
        simp only [List.length_take, List.length_drop, Array.length_toList] at hlen
        refine ⟨.agg ((Cs.toList.drop o).take xT.size).toArray, ⟨?_, rfl⟩, fun R' w hle hm dst t p af g => ?_⟩
        · have := relL_take xT.size (relL_drop off hl)
          simp only [Value.cells, RelC]
          rw [List.drop_take, List.drop_drop, Nat.sub_add_cancel ho, List.take_take] at this
          rw [Nat.min_eq_left (by omega)] at this
          simpa using this
        · simp only [execOp, e1, Instr.loadAt, Instr.sureAddr, Sem.run_bind, Sem.run_pure, Result.andThen_ok]
          by_cases hz : xT.size = 0
          · simp only [loadVar, Sem.run_bind, tab_run_agg h1, ha, if_true, tab_run_size h1, loadCells, hz, loadCellsFrom, Result.andThen_ok]
            simp
          · rw [load_agg h1 ha (hm.sealed _ _ (hle _ _ hR)) (by omega)]
            simp
      · refine .inr ⟨_, ?_, h⟩
        intro R ρ hf
        obtain ⟨bl, o, e1, ho, Cs, el, fz, hR, hl⟩ := rop_inv (hf _ _ hx)
        obtain ⟨v, hv, hr⟩ := relL_get hl hc
        refine ⟨v, relC_rel hr hav, fun R' w hle hm dst t p af g => ?_⟩
        have hcell : w.cell? ⟨bl, o, none⟩ = some v := by
          have hlt : off < cs.length := (List.getElem?_eq_some_iff.1 hc).1
          rw [List.getElem?_take_of_lt hlt, List.getElem?_drop, Nat.sub_add_cancel ho] at hv
          simp only [World.cell?, hm.sealed bl _ (hle _ _ hR)]
          simpa using hv
        simp only [execOp, e1, Instr.loadAt, Instr.sureAddr, Sem.run_bind, Sem.run_pure, Result.andThen_ok, load_scalar h1 ha hcell]
  · exact .inl h
theorem rf_index_list {y : Operand} {T e : TypeId} {xT xe : TI} {sz m : Nat} {f : Nat → AVal} {k : IntKind} {i : Int}
    (hx : evalA env x = some (.list sz m f)) (hy : evalA env y = some (.int k i)) (h1 : tab P T = some xT) (h2 : xT.desc = .slice e) (h3 : tab P e = some xe) (h4 : xe.size = sz)
    (hi0 : 0 ≤ i) (hi : i < m) (hp : (f i.toNat).plain = true) : RunF P C H env (.indexAddr T x y) (.rop (f i.toNat).cells 0) := by
  intro R ρ hf
  obtain ⟨a, cap, e1, _, h5⟩ := rel_one (hf _ _ hx) rfl
  simp only [List.cons.injEq, and_true] at e1
  rcases h5 with h5 | ⟨bl, o, Cs, el, fz, rfl, hR, hall⟩
  · omega
  have hr := hall i.toNat (by omega)
  have hl := relC_cells hr hp
  have hlen := relL_length hl
  refine ⟨.pointer (some ⟨bl, o + i.toNat * sz, none⟩), relC_rop (Nat.zero_le _) ⟨Cs, el, fz, hR, ?_⟩, fun R' w hle hm dst t p af g => ?_⟩
  · rw [Nat.sub_zero, take_same hlen]; exact hl
  · simp only [execOp, e1, rel_int.1 (hf _ _ hy), Instr.indexAt, asIntOf, Sem.run_bind, Sem.run_pure, Result.andThen_ok, tab_run_und h1, h2]
    rw [if_pos (show 0 ≤ i ∧ i < (m : Int) from ⟨hi0, hi⟩)]
    simp only [Sem.run_bind, tab_run_size h3, h4, Result.andThen_ok, Sem.run_pure, Addr.add]
    by_cases h0 : i.toNat * sz = 0
    · simp [h0]
    · simp [h0]
theorem rf_indexAddr {T : TypeId} {y : Operand} {K : AVal → Prop} {sz m : Nat} {f : Nat → AVal} (hx : evalA env x = some (.list sz m f)) (h : indexAddrX P [] env T x y F K) : F ∨ ∃ av, RunF P C H env (.indexAddr T x y) av ∧ K av := by
  unfold indexAddrX at h
  split at h
  · rename_i xT ht
    split at h
    · rename_i e hd
      split at h
      · rename_i xe he
        rw [hx] at h
        dsimp only at h
        split at h
        · rename_i hs
          rcases intA_ok h with h | ⟨k, i, hy, h, h'⟩
          · exact .inl h
          · rcases elemX_ok h' with h' | ⟨hp, h'⟩
            · exact .inl h'
            · exact .inr ⟨_, rf_index_list hx hy ht hd he (Nat.eq_of_beq_eq_true hs) h.1 h.2 hp, h'⟩
        · exact .inl h
      · exact .inl h
    · split at h
      · split at h
        · simp [evalA] at hx
        · rw [hx] at h; exact .inl h
      · exact .inl h
    · exact .inl h
  · exact .inl h
theorem still_ok {op : Op} {K : AVal → Prop} (hs : stillOp env op = true) (h : valX P [] env H op F K) : F ∨ ∃ av, RunF P C H env op av ∧ K av := by
  unfold stillOp at hs
  split at hs
  · split at hs
    · rename_i hx; exact rf_fieldAddr hx h
    · cases hs
  · split at hs
    · rename_i hx; exact rf_load hx h
    · cases hs
  · split at hs
    · rename_i hx; exact rf_indexAddr hx h
    · cases hs
  · cases hs
theorem fixX_ok (hGL : GloAll C.G GL) {op : Op} {K : AVal → Prop} (h : fixX P GL H env op F K) : F ∨ ∃ av, RunF P C H env op av ∧ K av := by
  unfold fixX at h
  split at h
  · split at h
    · rename_i av hx; exact .inr ⟨_, rf_move hx, h⟩
    · exact .inl h
  · split at h
    · rename_i av hx; exact .inr ⟨_, rf_assign hx, h⟩
    · exact .inl h
  · split at h
    · rename_i cs hx
      split at h
      · rename_i av hi; exact .inr ⟨_, rf_extract hx hi, h⟩
      · exact .inl h
    · exact .inl h
  · split at h
    · rename_i cs off hx; exact .inr ⟨_, rf_nilCheck_rop hx, h⟩
    · rename_i i a hx
      rcases valX_ok (P := P) (C := C) (H := H) (env := env) (op := .nilCheck ‹Operand›) (F := False) (K := fun v => v = .own i (.pointer (some a))) hGL (by simp only [valX, nilCheckX, hx]) with h' | ⟨av, h1, rfl⟩
      · exact h'.elim
      · exact .inr ⟨_, runF_det h1 rfl, h⟩
    · exact .inl h
  · split at h
    · rename_i b a a' hc hx hy
      refine .inr ⟨_, rf_pick hc hx hy, ?_⟩
      cases b
      · exact h.2 rfl
      · exact h.1 rfl
    · exact .inl h
  · split at h
    · rename_i hs; exact still_ok hs h
    · rcases valX_ok hGL h with h | ⟨av, h1, h2⟩
      · exact .inl h
      · split at h2
        · rename_i hd; exact .inr ⟨_, runF_det h1 hd, h2⟩
        · exact .inl h2
theorem aq_env {l : List Oper} {env' : Env} (hs : ∀ {D : List Deferred} R a, FS D n R env a → FS D n R env' a) (h : AQ P C n ops l env' H K) : AQ P C n ops l env H K := fun R a hf => h R a (hs R a hf)
theorem aq_split {o : Oper} {b want : Bool} {d : Nat} {l : List Oper} (hv : Env.get env d = some (.bool b))
    (ht : b = true → AQ P C n ops l ((d, .bool true) :: env) H K) (hf : b = false → AQ P C n ops l ((d, .bool false) :: env) H K) : AQ P C n ops l env H K := by
  have key : ∀ x, b = x → ∀ {D : List Deferred} R a, FS D n R env a → FS D n R ((d, .bool x) :: env) a := by
    rintro x rfl D R a hfr
    refine ⟨fun k v hk => ?_, hfr.size, hfr.defers⟩
    simp only [Env.get] at hk
    cases hb : Nat.beq d k with
    | true =>
      rw [hb] at hk
      have := Nat.eq_of_beq_eq_true hb
      subst this
      simp only [Option.some.injEq] at hk
      subst hk
      exact hfr.fr d _ hv
    | false => rw [hb] at hk; exact hfr.fr k v hk
  cases hb : b with
  | true => exact aq_env (key true hb) (ht hb)
  | false => exact aq_env (key false hb) (hf hb)
theorem aq_skip_none {o : Oper} {b want : Bool} (hg : guardA ops env o.guard = some (b, want)) (hb : (b == want) = false) (hd : o.dst = none)
    (h : AQ P C n ops rest env H K) : AQ P C n ops (o :: rest) env H K := by
  intro R a hf
  refine wpQuiet_step fun X hX => ?_
  rw [wanted_of hf hg, hb, if_neg (by simp), hd]
  exact hX _ (h R _ hf)
theorem aq_skip_undef {o : Oper} {e : Nat} (hs : guardSlot ops o.guard = some e) (hv : Env.get env e = some (.raw undef))
    (h : (∃ d, o.dst = some d ∧ Nat.ble (d + 1) n = true ∧ AQ P C n ops rest ((d, .raw undef) :: env) H K) ∨ (o.dst = none ∧ AQ P C n ops rest env H K)) : AQ P C n ops (o :: rest) env H K := by
  intro R a hf
  refine wpQuiet_step fun X hX => ?_
  have hw : Region.wanted o (yielded ops a.tmps) = false := by
    unfold guardSlot at hs
    unfold Region.wanted
    split at hs
    · rename_i j want h
      rw [h]
      split at hs
      · rename_i o' ho
        obtain ⟨x, hx, hr⟩ := hf.fr e _ hv
        rw [rel_raw.1 hr] at hx
        simp [yielded, ho, hs, hx, undef]
      · cases hs
    · cases hs
  rw [hw, if_neg (by simp)]
  rcases h with ⟨d, hd, hdn, h⟩ | ⟨hd, h⟩
  · rw [hd]; exact hX _ (h R _ (hf.put hdn (rel_raw.2 rfl)))
  · rw [hd]; exact hX _ (h R _ hf)
theorem quX_okC (hGL : GloAll C.G GL) : ∀ (l : List Oper) (env : Env), quX P C n C.G GL H ops K l env → AQ P C n ops l env H K
  | [], env, h => aq_nil h
  | o :: rest, env, h => by
    have ih := quX_okC hGL rest
    replace h : quStep P C n C.G GL H ops o rest K (quX P C n C.G GL H ops K rest) env := h
    generalize quX P C n C.G GL H ops K rest = X at h ih
    have run : ∀ env' b, guardA ops env' o.guard = some (b, b) → (match o.dst with
      | some d => match Nat.ble (d + 1) n with
        | true => match o.op with
          | .call ⟨.value fv, args, _⟩ => match evalA env' fv, argsA env' args.toList with
            | some (.func (.func f) [] []), some avs => Cq P C.G f avs fun v => X ((d, v) :: env')
            | _, _ => Qf0 P C n ops (o :: rest) env' H K
          | op => fixX P GL H env' op (Qf0 P C n ops (o :: rest) env' H K) fun av => X ((d, av) :: env')
        | false => Qf0 P C n ops (o :: rest) env' H K
      | none => Qf0 P C n ops (o :: rest) env' H K) → AQ P C n ops (o :: rest) env' H K := by
      intro env' b hg h
      obtain ⟨dst, op, type, pos, after, guard⟩ := o
      dsimp only at h hg ⊢
      split at h
      · rename_i d
        split at h
        · rename_i hdn
          split at h
          · rename_i fv args ts
            split at h
            · rename_i f avs h1 h2
              obtain ⟨v, hc, hs, hd, k⟩ := h
              have e := call_args (a := args) rfl
              rw [e]
              exact aq_callv hg hdn h1 h2 hs hc hd (ih _ k)
            · exact h.h
          · rcases fixX_ok hGL h with h | ⟨av, h1, h2⟩
            · exact h.h
            · exact aq_fix hg hdn h1 (ih _ h2)
        · exact h.h
      · exact h.h
    have skip : ∀ env', (∀ d, o.dst = some d → Nat.ble (d + 1) n = true → AQ P C n ops rest ((d, .raw undef) :: env') H K → AQ P C n ops (o :: rest) env' H K) →
        (o.dst = none → AQ P C n ops rest env' H K → AQ P C n ops (o :: rest) env' H K) → (match o.dst with
      | some d => match Nat.ble (d + 1) n with
        | true => X ((d, .raw undef) :: env')
        | false => Qf0 P C n ops (o :: rest) env' H K
      | none => X env') → AQ P C n ops (o :: rest) env' H K := by
      intro env' h1 h2 h
      split at h
      · rename_i d hd
        split at h
        · rename_i hdn; exact h1 d hd hdn (ih _ h)
        · exact h.h
      · rename_i hd; exact h2 hd (ih _ h)
    simp only [quStep, guardX] at h
    split at h
    · rename_i hgn
      exact run env true (by rw [hgn]; rfl) h
    · rename_i j want hgn
      split at h
      · rename_i o' ho
        split at h
        · rename_i e he
          split at h
          · rename_i b hb
            have hgT : ∀ v, guardA ops ((e, .bool v) :: env) o.guard = some (v, want) := fun v => by rw [hgn]; exact guard_const ho he
            split at h
            · refine aq_split (o := o) (want := true) hb (fun hv => ?_) (fun hv => ?_)
              · exact run _ true (hgT true) (h.1 hv)
              · exact skip _ (fun d hd hdn k => aq_skip' (hgT false) hd hdn k) (fun hd k => aq_skip_none (hgT false) rfl hd k) (h.2 hv)
            · refine aq_split (o := o) (want := false) hb (fun hv => ?_) (fun hv => ?_)
              · exact skip _ (fun d hd hdn k => aq_skip (hgT true) hd hdn k) (fun hd k => aq_skip_none (hgT true) rfl hd k) (h.1 hv)
              · exact run _ false (hgT false) (h.2 hv)
          · rename_i v hv
            have hgS : guardSlot ops o.guard = some e := by rw [hgn]; simp only [guardSlot, ho, he]
            obtain ⟨rfl, h⟩ := h
            exact skip _ (fun d hd hdn k => aq_skip_undef hgS hv (.inl ⟨d, hd, hdn, k⟩)) (fun hd k => aq_skip_undef hgS hv (.inr ⟨hd, k⟩)) h
          · exact h.h
        · exact h.h
      · exact h.h
theorem quX_ok (hC : C.G = G) (hGL : GloAll G GL) (l : List Oper) (env : Env) (h : quX P C n G GL H ops K l env) : AQ P C n ops l env H K := by subst hC; exact quX_okC hGL l env h
theorem dw_q {id : Nat} (hm : P.follows .mixedOrders = true) (hC : C.G = G) (hGL : GloAll G GL) (hB : Region.lexB .any ops = true) (h : quX P C n G GL H ops (fun e => Q .normal e H) ops.toList env) : Dw P C n id ops env H Q := by
  have e := call_args (a := ops) rfl
  have := aw_region_draw (P := P) (C := C) (n := n) (env := env) (H := H) (Q := Q) (id := id) (l := ops.toList) hm (by rw [← e]; exact hB) (by rw [← e]; exact quX_ok hC hGL _ _ h)
  rw [← e] at this
  exact ⟨this⟩
end
theorem mixed : Tryz.prog.follows .mixedOrders = true := by kernel_rfl
end Go.Proofs.YtlmihggafbmkaaaGreatDoor
