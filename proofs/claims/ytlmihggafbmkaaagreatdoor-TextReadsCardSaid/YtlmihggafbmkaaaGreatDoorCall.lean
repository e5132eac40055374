/- What a function does, said over abstract values; how it is shown from its code, and used at a call. -/
import Derived.Test.YtlmihggafbmkaaaGreatDoorMem
import Derived.Test.YtlmihggafbmkaaaGreatDoorOps
namespace Go.Proofs.YtlmihggafbmkaaaGreatDoor
open Go

/-! ## What the model's tables say of the types -/
structure TI where
  desc : TypeDesc
  size : Nat
  bytes : Nat
  zero : Option Value
  cmp : Bool
def TabOK (P : Program) : List TI → Nat → Prop
  | [], _ => True
  | x :: r, t => (P.underlying t = some x.desc ∧ ∃ i, P.info? t = some i ∧ i.size = x.size ∧ i.bytes = x.bytes ∧ i.zero = x.zero ∧ i.comparable = x.cmp) ∧ TabOK P r (t + 1)
class Tab (P : Program) where
  list : List TI
  ok : TabOK P list 0
def nth {α : Type} : List α → Nat → Option α
  | [], _ => none
  | x :: _, 0 => some x
  | _ :: r, n + 1 => nth r n
def tab (P : Program) [T : Tab P] (t : Nat) : Option TI := nth T.list t
theorem tabOK_nth {P : Program} : ∀ {l : List TI} {t k : Nat} {x : TI}, TabOK P l t → nth l k = some x →
    P.underlying (t + k) = some x.desc ∧ ∃ i, P.info? (t + k) = some i ∧ i.size = x.size ∧ i.bytes = x.bytes ∧ i.zero = x.zero ∧ i.comparable = x.cmp
  | [], _, _, _, _, h => by simp [nth] at h
  | y :: r, t, 0, x, ho, h => by simp only [nth, Option.some.injEq] at h; subst h; exact ho.1
  | y :: r, t, k + 1, x, ho, h => by
    have := tabOK_nth (l := r) (t := t + 1) (k := k) ho.2 h
    rw [show t + (k + 1) = t + 1 + k by omega]
    exact this
section
variable {P : Program} [T : Tab P] {t : TypeId} {x : TI} (h : tab P t = some x)
include h
theorem tab_und : P.underlying t = some x.desc := by have := (tabOK_nth T.ok h).1; rwa [Nat.zero_add] at this
theorem tab_info : ∃ i, P.info? t = some i ∧ i.size = x.size ∧ i.bytes = x.bytes ∧ i.zero = x.zero ∧ i.comparable = x.cmp := by
  have := (tabOK_nth T.ok h).2; rwa [Nat.zero_add] at this
theorem tab_run_und (w : World) : (underlying t).run P w = .ok x.desc w := run_underlying (tab_und h) w
theorem tab_run_info (w : World) : ∃ i, (typeInfo t).run P w = .ok i w ∧ i.size = x.size ∧ i.bytes = x.bytes ∧ i.zero = x.zero ∧ i.comparable = x.cmp := by
  obtain ⟨i, hi, r⟩ := tab_info h
  refine ⟨i, ?_, r⟩
  simp only [typeInfo, Sem.run_bind, run_program, Result.andThen_ok, hi, Sem.run_pure]
theorem tab_run_size (w : World) : (sizeOf t).run P w = .ok x.size w := by
  obtain ⟨i, hi, hs, _⟩ := tab_run_info h w
  simp only [sizeOf, Sem.run_bind, hi, Result.andThen_ok, Sem.run_pure, hs]
theorem tab_run_zero {v : Value} (hz : x.zero = some v) (w : World) : (zeroValue t).run P w = .ok v w := by
  obtain ⟨i, hi, _, _, h0, _⟩ := tab_run_info h w
  simp only [zeroValue, Sem.run_bind, hi, Result.andThen_ok, h0, hz, Sem.run_pure]
/-- Is it a struct or an array? -/
def descAgg : TypeDesc → Bool
  | .struct _ => true
  | .array _ _ => true
  | _ => false
theorem tab_run_agg (w : World) : (isAgg t).run P w = .ok (descAgg x.desc) w := by
  simp only [isAgg, Sem.run_bind, tab_run_und h w, Result.andThen_ok]
  cases x.desc <;> rfl
end

/-! ## A function's contract -/
inductive ARes where
  | ret (v : AVal)
  | panic (v : AVal)
def EndRel (R : Seal) : ARes → Ending → Prop
  | .ret v, e => ∃ x, e = .returned x ∧ Rel R v x
  | .panic v, e => ∃ x, e = .panicked [{ v := x, recovered := false }] ∧ Rel R v x
/-- The call of a function, whether it has a body or the model answers it. -/
def CallsX (P : Program) (f : FuncId) (args : Array Value) (w : World) (R : Ending → World → Prop) : Prop :=
  ((callFunc f args).run P w = .ok (.enter f args) w ∧ Calls P f args w R) ∨ ∃ v w', (callFunc f args).run P w = .ok (.value v) w' ∧ R (.returned v) w'
def FnSpec (P : Program) (G : Glo) (f : FuncId) (avs : List AVal) (H : Heap) (Qf : ARes → Heap → Prop) : Prop :=
  ∀ R w args (hG : G.p R), MS ⟨w, R, blks H, G, hG, []⟩ R H w → RelV R avs args.toList →
    CallsX P f args w fun e w' => ∃ res H' R', Qf res H' ∧ EndRel R' res e ∧ MS ⟨w, R, blks H, G, hG, []⟩ R' H' w'
theorem FnSpec.mono {P : Program} {G : Glo} {f : FuncId} {avs : List AVal} {H : Heap} {Qf Qf' : ARes → Heap → Prop} (h : FnSpec P G f avs H Qf) (hq : ∀ r H', Qf r H' → Qf' r H') :
    FnSpec P G f avs H Qf' := by
  intro R w args hG hm ha
  rcases h R w args hG hm ha with ⟨h1, h2⟩ | ⟨v, w', h1, res, H', R', q, r⟩
  · exact .inl ⟨h1, h2.mono fun e w' ⟨res, H', R', q, r⟩ => ⟨res, H', R', hq _ _ q, r⟩⟩
  · exact .inr ⟨v, w', h1, res, H', R', hq _ _ q, r⟩

/-- Loading a variable that an owned block holds. -/
theorem loadCellsFrom_run {P : Program} {w : World} {b : Nat} {C : Array Value} {e : TypeId} {fz : Nat × Nat} (hb : w.heap[b]? = some (.cells C e fz)) (o : Nat) :
    ∀ (n i : Nat) (acc : Array Value), o + i + n ≤ C.size → (loadCellsFrom ⟨b, o, none⟩ i n acc).run P w = .ok (acc.toList ++ (C.toList.drop (o + i)).take n).toArray w
  | 0, i, acc, _ => by simp [loadCellsFrom]
  | n + 1, i, acc, h => by
    have hc : w.cell? ((⟨b, o, none⟩ : Addr).add i) = some C[o + i] := by
      simp only [World.cell?, Addr.add]
      by_cases hi : i = 0
      · subst hi; simp [hb]
      · simp [hi, hb]
    simp only [loadCellsFrom, Sem.run_bind, run_load, hc, Result.andThen_ok]
    rw [loadCellsFrom_run hb o n (i + 1) _ (by omega)]
    have : (C.toList.drop (o + i)).take (n + 1) = C[o + i] :: (C.toList.drop (o + (i + 1))).take n := by
      rw [List.drop_eq_getElem_cons (by simp; omega), List.take_succ_cons]
      simp [Nat.add_assoc]
    rw [this]
    simp
theorem relL_length {R : Seal} : ∀ {cs : List AVal} {vs : List Value}, RelL R cs vs → vs.length = cs.length
  | [], _, h => by simp only [RelL] at h; subst h; rfl
  | c :: cs, _, h => by
    obtain ⟨v, t, rfl, _, h⟩ := h
    simp [relL_length h]
theorem relL_get {R : Seal} : ∀ {cs : List AVal} {vs : List Value} {i : Nat} {c : AVal}, RelL R cs vs → cs[i]? = some c → ∃ v, vs[i]? = some v ∧ RelC R c [v]
  | [], _, _, _, _, h => by simp at h
  | c :: cs, _, 0, x, h, hi => by
    obtain ⟨v, t, rfl, hv, h⟩ := h
    simp only [List.getElem?_cons_zero, Option.some.injEq] at hi
    subst hi
    exact ⟨v, rfl, hv⟩
  | c :: cs, _, i + 1, x, h, hi => by
    obtain ⟨v, t, rfl, _, h⟩ := h
    exact relL_get (cs := cs) (vs := t) (i := i) h (by simpa using hi)
theorem relL_append {R : Seal} : ∀ {a b : List AVal} {vs ws : List Value}, RelL R a vs → RelL R b ws → RelL R (a ++ b) (vs ++ ws)
  | [], _, _, _, h, k => by simp only [RelL] at h; subst h; exact k
  | c :: cs, _, _, _, h, k => by
    obtain ⟨v, t, rfl, hv, h⟩ := h
    exact ⟨v, _, rfl, hv, relL_append h k⟩
theorem relL_take {R : Seal} : ∀ {a : List AVal} {vs : List Value} (n : Nat), RelL R a vs → RelL R (a.take n) (vs.take n)
  | [], _, n, h => by simp only [RelL] at h; subst h; simp [RelL]
  | c :: cs, _, 0, h => by simp [RelL]
  | c :: cs, _, n + 1, h => by
    obtain ⟨v, t, rfl, hv, h⟩ := h
    exact ⟨v, _, rfl, hv, relL_take n h⟩
theorem relL_drop {R : Seal} : ∀ {a : List AVal} {vs : List Value} (n : Nat), RelL R a vs → RelL R (a.drop n) (vs.drop n)
  | [], _, n, h => by simp only [RelL] at h; subst h; simp [RelL]
  | c :: cs, _, 0, h => h
  | c :: cs, _, n + 1, h => by
    obtain ⟨v, t, rfl, hv, h⟩ := h
    exact relL_drop n h
theorem relC_scalar {R : Seal} {a : AVal} {v : Value} (h : RelC R a [v]) (ha : a.isAgg = false) : vAgg v = false := by
  cases a <;> simp only [RelC] at h
  case bool => simp only [List.cons.injEq] at h; rw [h.1]; rfl
  case int => simp only [List.cons.injEq] at h; rw [h.1]; rfl
  case str => simp only [List.cons.injEq] at h; rw [h.1]; rfl
  case raw x => cases x <;> simp_all [Value.cells, vAgg, AVal.isAgg]
  case list => obtain ⟨_, _, h, _⟩ := h; simp only [List.cons.injEq] at h; rw [h.1]; rfl
  case rop => obtain ⟨_, _, _, _, _, h, _⟩ := h; simp only [List.cons.injEq] at h; rw [h.1]; rfl
  case agg => simp [AVal.isAgg] at ha
  case tuple => obtain ⟨_, h, _⟩ := h; simp only [List.cons.injEq] at h; rw [h.1]; rfl
  case iface => obtain ⟨_, h, _⟩ := h; simp only [List.cons.injEq] at h; rw [h.1]; rfl
  case func => obtain ⟨_, _, h, _⟩ := h; simp only [List.cons.injEq] at h; rw [h.1]; rfl
  case own => obtain ⟨h, h2⟩ := h; simp only [List.cons.injEq] at h; rw [h.1]; exact h2
theorem relC_rel {R : Seal} {a : AVal} {v : Value} (h : RelC R a [v]) (ha : a.isAgg = false) : Rel R a v := rel_of_one h ha (relC_scalar h ha)
def argEnv : Nat → List AVal → Env
  | _, [] => []
  | i, a :: t => (i, a) :: argEnv (i + 1) t
theorem argEnv_get {R : Seal} : ∀ {avs : List AVal} {vs : List Value} {i k : Nat} {v : AVal}, RelV R avs vs → Env.get (argEnv i avs) k = some v → i ≤ k ∧ ∃ x, vs[k - i]? = some x ∧ Rel R v x
  | [], _, _, _, _, _, h => by simp [argEnv, Env.get] at h
  | a :: t, _, i, k, v, hr, h => by
    obtain ⟨x, s, rfl, hx, hr⟩ := hr
    simp only [argEnv, Env.get] at h
    cases hb : Nat.beq i k with
    | true =>
      rw [hb] at h
      have := Nat.eq_of_beq_eq_true hb
      subst this
      simp only [Option.some.injEq] at h
      subst h
      exact ⟨Nat.le_refl _, x, by simp, hx⟩
    | false =>
      rw [hb] at h
      obtain ⟨h1, y, hy, hr⟩ := argEnv_get hr h
      refine ⟨by omega, y, ?_, hr⟩
      rw [show k - i = (k - (i + 1)) + 1 by omega]
      exact hy
theorem relV_length {R : Seal} : ∀ {cs : List AVal} {vs : List Value}, RelV R cs vs → vs.length = cs.length
  | [], _, h => by simp only [RelV] at h; subst h; rfl
  | c :: cs, _, h => by
    obtain ⟨v, t, rfl, _, h⟩ := h
    simp [relV_length h]

/-! What comes back. -/
def resOne (P : Program) [Tab P] (env : Env) (H : Heap) : ResultVar → AVal → Prop
  | .tmp t, v => Env.get env t = some v
  | .cell a ty, v => ∃ (b i : Nat) (eT : Option TypeId) (cs : List AVal) (x : TI), (Env.get env a = some (.raw (.pointer (some ⟨b, 0, none⟩))) ∨ ∃ j, Env.get env a = some (.own j (.pointer (some ⟨b, 0, none⟩)))) ∧ H[i]? = some (HEnt.cells b eT cs) ∧ tab P ty = some x ∧ x.size = cs.length ∧
      ((descAgg x.desc = true ∧ v = .agg cs) ∨ (descAgg x.desc = false ∧ cs = [v] ∧ v.isAgg = false))
def resAll (P : Program) [Tab P] (env : Env) (H : Heap) : List ResultVar → List AVal → Prop
  | [], vs => vs = []
  | r :: rs, vs => ∃ v t, vs = v :: t ∧ resOne P env H r v ∧ resAll P env H rs t
def resVal : List AVal → AVal
  | [v] => v
  | vs => .tuple vs
def RetQ (P : Program) [Tab P] (rs : List ResultVar) (Qf : ARes → Heap → Prop) : AExit → Env → Heap → Prop
  | .ret, env, H | .normal, env, H => ∃ vs H', resAll P env H rs vs ∧ H'.Sublist H ∧ Qf (.ret (resVal vs)) H'
  | .panic v, _, H => ∃ H', H'.Sublist H ∧ Qf (.panic v) H'
  | _, _, _ => False

def oneRes (tmps : Array Value) : ResultVar → Sem Value
  | .tmp t => pure (tmps.getD t undef)
  | .cell a t => do loadVar t (← asAddr (tmps.getD a undef))
theorem results_eq (fn : Func) (tmps : Array Value) : results fn tmps = (do
    let vs ← fn.results.mapM (oneRes tmps)
    pure (if h : vs.size = 1 then vs[0] else .tuple vs)) := rfl
theorem resOne_run {P : Program} {D : List Deferred} [Tab P] {C : Ctx} {n : Nat} {env : Env} {H : Heap} {R : Seal} {w : World} {a : Act} {r : ResultVar} {v : AVal} (hm : MS C R H w) (hf : FS D n R env a)
    (h : resOne P env H r v) : ∃ x, (oneRes a.tmps r).run P w = .ok x w ∧ Rel R v x := by
  cases r with
  | tmp t =>
    obtain ⟨x, hx, hr⟩ := hf.fr t v h
    exact ⟨x, by simp [oneRes, hx], hr⟩
  | cell c ty =>
    obtain ⟨b, i, eT, cs, x, hc, hi, ht, hs, hk⟩ := h
    have hc' : ∃ y, a.tmps[c]? = some y ∧ y = .pointer (some ⟨b, 0, none⟩) := by
      rcases hc with hc | ⟨j, hc⟩
      · obtain ⟨y, hy, hr⟩ := hf.fr c _ hc; exact ⟨y, hy, rel_raw.1 hr⟩
      · obtain ⟨y, hy, hr⟩ := hf.fr c _ hc; exact ⟨y, hy, (rel_own.1 hr).1⟩
    obtain ⟨y, hy, hr⟩ := hc'
    subst hr
    obtain ⟨Cs, e, fz, hb, hl, _⟩ := hm.heap.holds _ (List.mem_of_getElem? hi)
    have hlen := relL_length hl
    simp only [oneRes, Array.getD_eq_getD_getElem?, hy, Option.getD_some, Sem.run_bind, asAddr, Sem.run_pure, Result.andThen_ok, loadVar, tab_run_agg ht]
    rcases hk with ⟨ha, rfl⟩ | ⟨ha, rfl, hv⟩
    · rw [ha]
      simp only [if_true, Sem.run_bind, tab_run_size ht, Result.andThen_ok, loadCells]
      rw [loadCellsFrom_run hb 0 x.size 0 _ (by simp at hlen; omega)]
      refine ⟨_, rfl, ?_, rfl⟩
      simp at hlen
      simp only [Value.cells, RelC]
      rw [List.take_of_length_le (by simp; omega)]
      simpa using hl
    · rw [ha]
      simp only [Bool.false_eq_true, if_false, run_load]
      obtain ⟨z, hz, hrz⟩ := relL_get hl (i := 0) (c := v) rfl
      have : w.cell? ⟨b, 0, none⟩ = some z := by simp only [World.cell?, hb]; simpa using hz
      simp only [this]
      exact ⟨z, rfl, relC_rel hrz hv⟩
theorem resAll_run {P : Program} {D : List Deferred} [Tab P] {C : Ctx} {n : Nat} {env : Env} {H : Heap} {R : Seal} {w : World} {a : Act} (hm : MS C R H w) (hf : FS D n R env a) :
    ∀ {rs : List ResultVar} {vs : List AVal}, resAll P env H rs vs → ∃ xs : List Value, (rs.mapM (oneRes a.tmps)).run P w = .ok xs w ∧ RelV R vs xs
  | [], vs, h => by simp only [resAll] at h; subst h; exact ⟨[], rfl, rfl⟩
  | r :: rs, vs, h => by
    obtain ⟨v, t, rfl, h1, h2⟩ := h
    obtain ⟨x, hx, hr⟩ := resOne_run (P := P) hm hf h1
    obtain ⟨xs, hxs, hrs⟩ := resAll_run hm hf h2
    refine ⟨x :: xs, ?_, x, xs, rfl, hr, hrs⟩
    simp only [List.mapM_cons, Sem.run_bind, hx, Result.andThen_ok, hxs, Sem.run_pure]
theorem results_run {P : Program} {D : List Deferred} [Tab P] {C : Ctx} {n : Nat} {env : Env} {H : Heap} {R : Seal} {w : World} {a : Act} {fn : Func} {vs : List AVal} (hm : MS C R H w) (hf : FS D n R env a)
    (h : resAll P env H fn.results.toList vs) : ∃ x, (results fn a.tmps).run P w = .ok x w ∧ Rel R (resVal vs) x := by
  obtain ⟨xs, hxs, hr⟩ := resAll_run hm hf h
  have hlen := relV_length hr
  refine ⟨_, by rw [results_eq]; simp only [Sem.run_bind, Array.mapM_eq_mapM_toList, Sem.run_map, hxs, Result.andThen_ok, Sem.run_pure]; rfl, ?_⟩
  match vs, xs, hlen, hr with
  | [], [], _, _ => exact ⟨⟨#[], rfl, rfl⟩, rfl⟩
  | [v], [x], _, hr =>
    obtain ⟨y, t, e, hy, _⟩ := hr
    simp only [List.cons.injEq] at e
    obtain ⟨rfl, rfl⟩ := e
    exact hy
  | v :: v' :: t, x :: x' :: s, _, hr => exact ⟨⟨_, by simp [Value.cells], hr⟩, rfl⟩

/-- FROM THE CODE TO THE CONTRACT. -/
theorem fn_spec {P : Program} [Tab P] {G : Glo} {f : FuncId} {fn : Func} {c : Code} {avs : List AVal} {H : Heap} {Qf : ARes → Heap → Prop} {n : Nat} {rs : List ResultVar} (hf : P.funcs[f]? = some fn)
    (hb : fn.body = some c) (hc : ∀ args w, (callFunc f args).run P w = .ok (.enter f args) w) (hn : fn.ntmps = n) (hrs : fn.results = rs.toArray) (hlen : Nat.ble avs.length n = true)
    (h : ∀ w0 R0 hG, AWp P ⟨w0, R0, blks H, G, hG, []⟩ n c (argEnv 0 avs) H (RetQ P rs Qf)) : FnSpec P G f avs H Qf := by
  intro R w args hG hm ha
  refine .inl ⟨hc args w, calls_of_wp hf hb ?_⟩
  have hl := relV_length ha
  have hlen := Nat.le_of_ble_eq_true hlen
  simp only [Array.length_toList] at hl
  refine wp_mono (h w R hG R _ w hm ⟨fun k v hk => ?_, ?_, rfl⟩) ?_
  · obtain ⟨_, x, hx, hr⟩ := argEnv_get ha hk
    refine ⟨x, ?_, hr⟩
    simp only [Nat.sub_zero, Array.getElem?_toList] at hx
    have := Array.getElem?_eq_some_iff.1 hx
    rw [Array.getElem?_append_left this.1]
    exact hx
  · simp only [Array.size_append, Array.size_replicate]; omega
  · rintro e a' w' ⟨x, env', H', R', q, er, hm', hf'⟩
    have hrs' : fn.results.toList = rs := by rw [hrs]
    cases x with
    | normal =>
      simp only [ExitRel] at er; subst er
      obtain ⟨vs, H'', hv, hs, q⟩ := q
      obtain ⟨y, hy, hr⟩ := results_run (fn := fn) hm' hf' (by rw [hrs']; exact hv)
      exact ⟨hf'.defers, y, hy, _, H'', R', q, ⟨y, rfl, hr⟩, hm'.drop hs⟩
    | ret =>
      simp only [ExitRel] at er; subst er
      obtain ⟨vs, H'', hv, hs, q⟩ := q
      obtain ⟨y, hy, hr⟩ := results_run (fn := fn) hm' hf' (by rw [hrs']; exact hv)
      exact ⟨hf'.defers, y, hy, _, H'', R', q, ⟨y, rfl, hr⟩, hm'.drop hs⟩
    | panic v =>
      obtain ⟨y, rfl, hr⟩ := er
      obtain ⟨H'', hs, q⟩ := q
      exact ⟨hf'.defers, _, H'', R', q, ⟨y, rfl, hr⟩, hm'.drop hs⟩
    | exit i => exact q.elim
    | goto i => exact q.elim

/-! ## At a call -/
def argsA (env : Env) : List Operand → Option (List AVal)
  | [] => some []
  | x :: t => match evalA env x, argsA env t with
    | some v, some r => some (v :: r)
    | _, _ => none
theorem argsA_rel {R : Seal} {env : Env} {ρ : Operand → Value} (hf : ∀ x av, evalA env x = some av → Rel R av (ρ x)) :
    ∀ {l : List Operand} {avs : List AVal}, argsA env l = some avs → RelV R avs (l.map ρ)
  | [], avs, h => by simp only [argsA, Option.some.injEq] at h; subst h; rfl
  | x :: t, avs, h => by
    simp only [argsA] at h
    split at h
    · rename_i v r hv hr
      simp only [Option.some.injEq] at h
      subst h
      exact ⟨_, _, rfl, hf x v hv, argsA_rel hf hr⟩
    · cases h
theorem relV_append {R : Seal} : ∀ {a b : List AVal} {vs ws : List Value}, RelV R a vs → RelV R b ws → RelV R (a ++ b) (vs ++ ws)
  | [], _, _, _, h, k => by simp only [RelV] at h; subst h; exact k
  | c :: cs, _, _, _, h, k => by
    obtain ⟨v, t, rfl, hv, h⟩ := h
    exact ⟨v, _, rfl, hv, relV_append h k⟩

section
variable {P : Program} {C : Ctx} {n : Nat} {env : Env} {H : Heap} {Q : AExit → Env → Heap → Prop} {ops : Array Oper} {rest : List Oper}
variable {d : Nat} {t : TypeId} {p : String} {af : Array Edge} {g : Option (Nat × Bool)} {b : Bool}
theorem ao_call {fv : Operand} {args : List Operand} {ts : Array TypeId} {f : FuncId} {l1 l2 avs : List AVal} {H1 H2 : Heap} {Qf : ARes → Heap → Prop}
    (hg : guardA ops env g = some (b, b)) (hdn : Nat.ble (d + 1) n = true) (hfv : evalA env fv = some (.func (.func f) l1 l2)) (ha : argsA env args = some avs)
    (hs : FnSpec P C.G f (l1 ++ (avs ++ l2)) H1 Qf) (hH : H = H1 ++ H2)
    (hret : ∀ v H', Qf (.ret v) H' → AOps P C n ops rest ((d, v) :: env) (H' ++ H2) Q)
    (hpan : ∀ v H', Qf (.panic v) H' → Q (.panic v) env (H' ++ H2)) :
    AOps P C n ops ({ dst := some d, op := .call { callee := .value fv, args := args.toArray, argTypes := ts }, type := t, pos := p, after := af, guard := g } :: rest) env H Q := by
  subst hH
  intro R a w hm hf
  refine wpList_step fun K hK => ?_
  rw [wanted_of hf hg, if_pos (by simp)]
  obtain ⟨⟨x1, x2, e, r1, r2⟩, _⟩ := rel_one (hf.eval hfv) rfl, trivial
  simp only [List.cons.injEq, and_true] at e
  have hrel : RelV R (l1 ++ (avs ++ l2)) (x1 ++ args.toArray.map a.eval ++ x2).toList := by
    have := relV_append r1 (relV_append (argsA_rel (fun x av h => hf.eval h) ha) r2)
    simpa using this
  have hrun : (execOp a.eval { dst := some d, op := .call { callee := .value fv, args := args.toArray, argTypes := ts }, type := t, pos := p, after := af, guard := g : Oper }).run P w =
      (callFunc f (x1 ++ args.toArray.map a.eval ++ x2)).run P w := by
    simp only [execOp, resolve, e, Deferred.ofValue, Sem.run_bind, Sem.run_pure, Result.andThen_ok, invoke]
  rcases hs R w _ hm.glo hm.enter hrel with ⟨h1, h2⟩ | ⟨v, w', h1, res, H', R', q, er, hm'⟩
  · rw [Oper.wp, hrun, h1, Oper.upon_enter]
    refine h2.mono ?_
    rintro en w' ⟨res, H', R', q, er, hm'⟩
    have hm'' := hm.call hm'
    have hf' := hf.mono hm'.ge
    cases res with
    | ret v =>
      obtain ⟨y, rfl, hr⟩ := er
      exact hK _ _ (hret v H' q R' _ w' hm'' (hf'.put hdn hr))
    | panic v =>
      obtain ⟨y, rfl, hr⟩ := er
      exact ⟨.panic v, env, _, R', hpan v H' q, ⟨y, rfl, hr⟩, hm'', hf'⟩
  · rw [Oper.wp, hrun, h1, Oper.upon_value]
    have hm'' := hm.call hm'
    have hf' := hf.mono hm'.ge
    cases res with
    | ret v' =>
      obtain ⟨y, e, hr⟩ := er
      simp only [Ending.returned.injEq] at e
      subst e
      exact hK _ _ (hret v' H' q R' _ w' hm'' (hf'.put hdn hr))
    | panic v' => obtain ⟨y, e, _⟩ := er; cases e
end
end Go.Proofs.YtlmihggafbmkaaaGreatDoor
