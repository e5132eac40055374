/- Calls that are deferred: how they are made as a function leaves; recover. -/
import Derived.Test.YtlmihggafbmkaaaGreatDoorDef
namespace Go.Proofs.YtlmihggafbmkaaaGreatDoor
open Go Go.RowKit
inductive AMode where
  | ret
  | pan (v : AVal)
  | rcv (v : AVal)
def ModeRel (R : Seal) : AMode → FrameMode → Prop
  | .ret, u => u = .returning
  | .pan v, u => ∃ x, u = .panicking [{ v := x, recovered := false }] ∧ Rel R v x
  | .rcv v, u => ∃ x, u = .panicking [{ v := x, recovered := true }] ∧ Rel R v x
theorem ModeRel.mono {R R' : Seal} (h : R.le R') : ∀ {m : AMode} {u : FrameMode}, ModeRel R m u → ModeRel R' m u
  | .ret, _, x => x
  | .pan _, _, ⟨y, e, r⟩ => ⟨y, e, rel_mono h r⟩
  | .rcv _, _, ⟨y, e, r⟩ => ⟨y, e, rel_mono h r⟩
def AMode.settle : AMode → AMode
  | .ret => .ret
  | .pan v => .pan v
  | .rcv _ => .ret
theorem settle_rel {R : Seal} : ∀ {m : AMode} {u : FrameMode}, ModeRel R m u → ModeRel R m.settle (Go.settle u)
  | .ret, _, rfl => rfl
  | .pan _, _, ⟨y, rfl, r⟩ => ⟨y, rfl, r⟩
  | .rcv _, _, ⟨y, rfl, _⟩ => rfl
theorem mode_run {R : Seal} : ∀ {m : AMode} {u : FrameMode}, ModeRel R m u → u ≠ .run
  | .ret, _, rfl => by simp
  | .pan _, _, ⟨_, rfl, _⟩ => by simp
  | .rcv _, _, ⟨_, rfl, _⟩ => by simp
/-- A deferred call's contract. -/
def DSpec (P : Program) (G : Glo) (f : FuncId) (avs : List AVal) (m : AMode) (H : Heap) (Qd : ARes → AMode → Heap → Prop) : Prop :=
  ∀ R w args u (hG : G.p R), MS ⟨w, R, blks H, G, hG, []⟩ R H w → RelV R avs args.toList → ModeRel R m u →
    CallsD P f args u w fun e u' w' => ∃ res m' H' R', Qd res m' H' ∧ EndRel R' res e ∧ ModeRel R' m' u' ∧ MS ⟨w, R, blks H, G, hG, []⟩ R' H' w'
section
variable {P : Program} [Tab P] {G : Glo} {GL : List (Nat × List AVal)} {n : Nat} {H : Heap} {m : AMode}
theorem arg_fs {R : Seal} {avs : List AVal} {args : Array Value} {n : Nat} (hlen : Nat.ble avs.length n = true) (ha : RelV R avs args.toList) :
    FS [] n R (argEnv 0 avs) { tmps := args ++ Array.replicate (n - args.size) undef, defers := [] } := by
  have hl := relV_length ha
  have hlen := Nat.le_of_ble_eq_true hlen
  simp only [Array.length_toList] at hl
  refine ⟨fun k v hk => ?_, ?_, rfl⟩
  · obtain ⟨_, x, hx, hr⟩ := argEnv_get ha hk
    refine ⟨x, ?_, hr⟩
    simp only [Nat.sub_zero, Array.getElem?_toList] at hx
    have := Array.getElem?_eq_some_iff.1 hx
    rw [Array.getElem?_append_left this.1]
    exact hx
  · simp only [Array.size_append, Array.size_replicate]; omega
/-- A deferred call of a function that recovers nothing. -/
theorem ds_code {f : FuncId} {fn : Func} {c : Code} {avs : List AVal} {Qf : ARes → Heap → Prop} {rs : List ResultVar} (hf : P.funcs[f]? = some fn)
    (hb : fn.body = some c) (hn : fn.ntmps = n) (hrs : fn.results = rs.toArray) (hlen : Nat.ble avs.length n = true) (hGL : GloAll G GL)
    (h : ∀ C : Ctx, C.G = G → codeX P C n G GL c (argEnv 0 avs) H (RetX P rs Qf)) : DSpec P G f avs m H (fun res m' H' => m' = m ∧ Qf res H') := by
  intro R w args u hG hm ha hu
  have h1 := (codeX_ok (C := ⟨w, R, blks H, G, hG, []⟩) rfl hGL _ _ _ _ (h ⟨w, R, blks H, G, hG, []⟩ rfl)).mono fun _ _ _ q => RetX_ok q
  have h2 : c.wp P (bodyPost P fn (fun e w' => ∃ res H' R', Qf res H' ∧ EndRel R' res e ∧ R.le R' ∧ MS ⟨w, R, blks H, G, hG, []⟩ R' H' w')) { tmps := args ++ Array.replicate (fn.ntmps - args.size) undef, defers := [] } w := by
    subst hn
    refine wp_mono (h1 R _ w hm (arg_fs hlen ha)) ?_
    have hrs' : fn.results.toList = rs := by rw [hrs]
    rintro e a' w' ⟨x, env', H', R', q, er, hm', hf'⟩
    cases x with
    | normal =>
      simp only [ExitRel] at er; subst er
      obtain ⟨vs, H'', hv, hs, q⟩ := q
      obtain ⟨y, hy, hr⟩ := results_run (fn := fn) hm' hf' (by rw [hrs']; exact hv)
      exact ⟨hf'.defers, y, hy, _, H'', R', q, ⟨y, rfl, hr⟩, hm'.ge, hm'.drop hs⟩
    | ret =>
      simp only [ExitRel] at er; subst er
      obtain ⟨vs, H'', hv, hs, q⟩ := q
      obtain ⟨y, hy, hr⟩ := results_run (fn := fn) hm' hf' (by rw [hrs']; exact hv)
      exact ⟨hf'.defers, y, hy, _, H'', R', q, ⟨y, rfl, hr⟩, hm'.ge, hm'.drop hs⟩
    | panic v =>
      obtain ⟨y, rfl, hr⟩ := er
      obtain ⟨H'', hs, q⟩ := q
      exact ⟨hf'.defers, _, H'', R', q, ⟨y, rfl, hr⟩, hm'.ge, hm'.drop hs⟩
    | exit i => exact q.elim
    | goto i => exact q.elim
  refine (callsD_of_wp (u := u) hf hb h2).mono ?_
  rintro e u' w' ⟨rfl, res, H', R', q, er, hle, hm'⟩
  exact ⟨res, m, H', R', ⟨rfl, q⟩, er, hu.mono hle, hm'⟩
def recV : AMode → AVal
  | .pan v => v
  | _ => .raw .nilIface
def recM : AMode → AMode
  | .ret => .ret
  | .pan v => .rcv v
  | .rcv v => .rcv v
/-- .. of one that recovers at once. -/
theorem ds_rec {f : FuncId} {fn : Func} {c : Code} {avs : List AVal} {Qf : ARes → Heap → Prop} {rs : List ResultVar} {id d0 d1 : Nat} {ts : Array TypeId} {t0 t1 : TypeId} {p0 p1 : String} {a0 a1 : Array Edge} (hf : P.funcs[f]? = some fn)
    (hb : fn.body = some (.seq (.region id #[{ dst := some d0, op := .call { callee := .builtin .recover, args := #[], argTypes := ts }, type := t0, pos := p0, after := a0, guard := none }, { dst := some d1, op := .assign (.tmp d0), type := t1, pos := p1, after := a1, guard := none }] false) c))
    (hn : fn.ntmps = n) (hrs : fn.results = rs.toArray) (hlen : Nat.ble avs.length n = true) (hd0 : Nat.ble (d0 + 1) n = true) (hd1 : Nat.ble (d1 + 1) n = true) (hGL : GloAll G GL)
    (h : ∀ C : Ctx, C.G = G → codeX P C n G GL c ((d1, recV m) :: (d0, recV m) :: argEnv 0 avs) H (RetX P rs Qf)) : DSpec P G f avs m H (fun res m' H' => m' = recM m ∧ Qf res H') := by
  intro R w args u hG hm ha hu
  have h1 := (codeX_ok (C := ⟨w, R, blks H, G, hG, []⟩) rfl hGL _ _ _ _ (h ⟨w, R, blks H, G, hG, []⟩ rfl)).mono fun _ _ _ q => RetX_ok q
  refine callsD_of_wpS hf hb fun c₀ cs hc => ?_
  subst hn
  have hfs := arg_fs hlen ha
  have main : ∀ (x : Value) (u' : FrameMode), Rel R (recV m) x → ModeRel R (recM m) u' → c.wpS P (bodyPostS P fn c₀ cs (fun e u' w' => ∃ res m' H' R', (m' = recM m ∧ Qf res H') ∧ EndRel R' res e ∧ ModeRel R' m' u' ∧ MS ⟨w, R, blks H, G, hG, []⟩ R' H' w'))
      ((({ tmps := args ++ Array.replicate (fn.ntmps - args.size) undef, defers := [] } : Act).put (some d0) x).put (some d1) x) ({ c₀ with mode := u' } :: cs) w := by
    intro x u' hx hu'
    refine wpS_of_wp ?_
    refine wp_mono (h1 R _ w hm ((hfs.put hd0 hx).put hd1 hx)) ?_
    have hrs' : fn.results.toList = rs := by rw [hrs]
    rintro e a' w' ⟨x, env', H', R', q, er, hm', hf'⟩
    cases x with
    | normal =>
      simp only [ExitRel] at er; subst er
      obtain ⟨vs, H'', hv, hs, q⟩ := q
      obtain ⟨y, hy, hr⟩ := results_run (fn := fn) hm' hf' (by rw [hrs']; exact hv)
      exact ⟨hf'.defers, u', rfl, y, hy, _, _, H'', R', ⟨rfl, q⟩, ⟨y, rfl, hr⟩, hu'.mono hm'.ge, hm'.drop hs⟩
    | ret =>
      simp only [ExitRel] at er; subst er
      obtain ⟨vs, H'', hv, hs, q⟩ := q
      obtain ⟨y, hy, hr⟩ := results_run (fn := fn) hm' hf' (by rw [hrs']; exact hv)
      exact ⟨hf'.defers, u', rfl, y, hy, _, _, H'', R', ⟨rfl, q⟩, ⟨y, rfl, hr⟩, hu'.mono hm'.ge, hm'.drop hs⟩
    | panic v =>
      obtain ⟨y, rfl, hr⟩ := er
      obtain ⟨H'', hs, q⟩ := q
      exact ⟨hf'.defers, u', rfl, _, _, H'', R', ⟨rfl, q⟩, ⟨y, rfl, hr⟩, hu'.mono hm'.ge, hm'.drop hs⟩
    | exit i => exact q.elim
    | goto i => exact q.elim
  refine wpS_seq (wpS_region ?_)
  have hev : ∀ (x : Value), (({ tmps := args ++ Array.replicate (fn.ntmps - args.size) undef, defers := [] } : Act).put (some d0) x).eval (.tmp d0) = x := by
    intro x
    have hsz : (args ++ Array.replicate (fn.ntmps - args.size) undef).size = fn.ntmps := hfs.size
    have := Nat.le_of_ble_eq_true hd0
    simp only [Act.eval, Act.put]
    rw [Array.getD_eq_getD_getElem?, Array.getElem?_setIfInBounds_self_of_lt (by omega)]
    rfl
  have run0 : ∀ ρ, (execOp ρ { dst := some d0, op := .call { callee := .builtin .recover, args := #[], argTypes := ts }, type := t0, pos := p0, after := a0, guard := none : Oper }).run P w = .ok .recover w := fun ρ => rfl
  have wanted : ∀ (o : Oper) y, o.guard = none → Region.wanted o y = true := fun o y h => by simp [Region.wanted, h]
  show wpOpsS P _ _ [0, 1] _ _ _
  have tail : ∀ (x : Value) (u' : FrameMode), Rel R (recV m) x → ModeRel R (recM m) u' → wpOpsS P #[{ dst := some d0, op := .call { callee := .builtin .recover, args := #[], argTypes := ts }, type := t0, pos := p0, after := a0, guard := none }, { dst := some d1, op := .assign (.tmp d0), type := t1, pos := p1, after := a1, guard := none }]
      (Exit.thenS (c.wpS P (bodyPostS P fn c₀ cs (fun e u' w' => ∃ res m' H' R', (m' = recM m ∧ Qf res H') ∧ EndRel R' res e ∧ ModeRel R' m' u' ∧ MS ⟨w, R, blks H, G, hG, []⟩ R' H' w'))) (bodyPostS P fn c₀ cs (fun e u' w' => ∃ res m' H' R', (m' = recM m ∧ Qf res H') ∧ EndRel R' res e ∧ ModeRel R' m' u' ∧ MS ⟨w, R, blks H, G, hG, []⟩ R' H' w'))) [1]
      (({ tmps := args ++ Array.replicate (fn.ntmps - args.size) undef, defers := [] } : Act).put (some d0) x) ({ c₀ with mode := u' } :: cs) w := by
    intro x u' hx hu'
    simp only [wpOpsS, List.getElem?_toArray, List.getElem?_cons_succ, List.getElem?_cons_zero]
    rw [if_pos (wanted _ _ rfl)]
    simp only [execOp, hev, Sem.run_pure, Oper.upon]
    exact main x u' hx hu'
  rw [wpOpsS]
  simp only [List.getElem?_toArray, List.getElem?_cons_zero]
  rw [if_pos (wanted _ _ rfl), run0]
  simp only [recoverD, hc]
  cases m with
  | ret =>
    obtain rfl : u = .returning := hu
    have e : c₀ = { c₀ with mode := FrameMode.returning } := by rw [← hc]
    rw [e]
    exact tail .nilIface .returning (rel_raw.2 rfl) rfl
  | pan v =>
    obtain ⟨x, rfl, hx⟩ := hu
    exact tail x _ hx ⟨x, rfl, hx⟩
  | rcv v =>
    obtain ⟨x, rfl, hx⟩ := hu
    have e : c₀ = { c₀ with mode := FrameMode.panicking [{ v := x, recovered := true }] } := by rw [← hc]
    rw [e]
    exact tail .nilIface _ (rel_raw.2 rfl) ⟨x, rfl, hx⟩
omit [Tab P] in
theorem ds_frame {f : FuncId} {avs : List AVal} {H1 : Heap} (H2 : Heap) {Qd : ARes → AMode → Heap → Prop} (h : DSpec P G f avs m H1 Qd) : DSpec P G f avs m (H1 ++ H2) (fun r m' H' => ∃ H1', Qd r m' H1' ∧ H' = H1' ++ H2) := by
  intro R w args u hG hm ha hu
  exact (h R w args u hG hm.enter ha hu).mono fun e u' w' ⟨res, m', H', R', q, er, hu', hm'⟩ => ⟨res, m', H' ++ H2, R', ⟨H', q, rfl⟩, er, hu', MS.call hm hm'⟩
omit [Tab P] in
theorem ds_perm {f : FuncId} {avs : List AVal} {H1 H2 : Heap} {Qd : ARes → AMode → Heap → Prop} (hp : H1.Perm H2) (h : DSpec P G f avs m H1 Qd) : DSpec P G f avs m H2 Qd := by
  have hb : ∀ k, k ∈ blks H2 ↔ k ∈ blks H1 := fun k => by
    have := (hp.filterMap HEnt.blk).mem_iff (a := k)
    exact this.symm
  intro R w args u hG hm ha hu
  exact (h R w args u hG ((hm.perm hp.symm).blks_iff hb) ha hu).mono fun e u' w' ⟨res, m', H', R', q, er, hu', hm'⟩ => ⟨res, m', H', R', q, er, hu', hm'.blks_iff fun k => (hb k).symm⟩
omit [Tab P] in
theorem ds_heap {f : FuncId} {avs : List AVal} {Qd Qd' : ARes → AMode → Heap → Prop} (h : DSpec P G f avs m H Qd) (hq : ∀ r m' H', Qd r m' H' → ∃ H'', H'.Perm H'' ∧ Qd' r m' H'') : DSpec P G f avs m H Qd' := by
  intro R w args u hG hm ha hu
  exact (h R w args u hG hm ha hu).mono fun e u' w' ⟨res, m', H', R', q, er, hu', hm'⟩ => let ⟨H'', hp, q'⟩ := hq _ _ _ q; ⟨res, m', H'', R', q', er, hu', hm'.perm hp⟩
omit [Tab P] in
/-- The entry at a place is handed over. -/
theorem ds_at {f : FuncId} {avs : List AVal} {i : Nat} {x y : HEnt} {r : ARes} {m' : AMode} (hi : H[i]? = some x) (hs : DSpec P G f avs m [x] (fun r2 m2 H2 => m2 = m' ∧ r2 = r ∧ H2 = [y])) :
    DSpec P G f avs m H (fun r2 m2 H2 => m2 = m' ∧ r2 = r ∧ H2 = H.set i y) := by
  have hp := perm_front hi
  refine ds_heap (ds_perm (H1 := [x] ++ H.eraseIdx i) (by simpa using hp.symm) (ds_frame (H.eraseIdx i) hs)) ?_
  rintro r2 m2 H' ⟨H1', ⟨rfl, rfl, rfl⟩, rfl⟩
  exact ⟨_, set_perm y hi, rfl, rfl, rfl⟩

omit [Tab P] in
theorem ds_pre {f : FuncId} {avs : List AVal} {H1 H1' : Heap} {r : ARes} {m' : AMode} (H2 : Heap) (hs : DSpec P G f avs m H1 (fun r2 m2 H2 => m2 = m' ∧ r2 = r ∧ H2 = H1')) :
    DSpec P G f avs m (H1 ++ H2) (fun r2 m2 H' => m2 = m' ∧ r2 = r ∧ H' = H1' ++ H2) := by
  refine ds_heap (ds_frame H2 hs) ?_
  rintro r2 m2 H' ⟨H3, ⟨rfl, rfl, rfl⟩, rfl⟩
  exact ⟨_, List.Perm.refl _, rfl, rfl, rfl⟩
/-- What a deferred call's walk ends in. -/
def DQ (res : ARes) (H0 : Heap) : ARes → Heap → Prop := fun r H => r = res ∧ H = H0

/-! ## As a function leaves -/
def Lv (P : Program) (G : Glo) (n : Nat) (rs : List ResultVar) (env : Env) (D : List Deferred) (m : AMode) (H : Heap) (Qf : ARes → Heap → Prop) : Prop :=
  ∀ (C : Ctx) (R : Seal) (a : Act) (w : World) (fn : Func) (u : FrameMode) (D0 : List Deferred), C.G = G → fn.results.toList = rs → MS C R H w → FS D0 n R env a → ModeRel R m u →
    Leaves P fn a.tmps (fun e w' => ∃ res H' R', Qf res H' ∧ EndRel R' res e ∧ MS C R' H' w') D u w
variable {rs : List ResultVar} {env : Env} {Qf : ARes → Heap → Prop} {D : List Deferred}
theorem lv_ret (h : RetX P rs Qf .ret env H) : Lv P G n rs env [] .ret H Qf := by
  rintro C R a w fn u D0 hC hrs hm hf rfl
  obtain ⟨vs, H'', hv, hs, q⟩ := RetX_ok h
  obtain ⟨y, hy, hr⟩ := results_run (fn := fn) hm hf (by rw [hrs]; exact hv)
  exact ⟨y, hy, _, H'', R, q, ⟨y, rfl, hr⟩, hm.drop hs⟩
omit [Tab P] in
theorem lv_pan {v : AVal} (h : Pn Qf v H) : Lv P G n rs env [] (.pan v) H Qf := by
  rintro C R a w fn u D0 hC hrs hm hf ⟨y, rfl, hr⟩
  obtain ⟨H'', hs, q⟩ := h
  exact ⟨_, H'', R, q, ⟨y, rfl, hr⟩, hm.drop hs⟩
omit [Tab P] in
/-- A deferred call that answers. -/
theorem lv_call {f : FuncId} {avs : List AVal} {cap args : Array Value} {v : AVal} {m' : AMode} {H' : Heap} (hs : DSpec P G f avs m H (fun r2 m2 H2 => m2 = m' ∧ r2 = .ret v ∧ H2 = H')) (ha : ∀ R, RelV R avs (args ++ cap).toList)
    (hc : ∀ args w, (callFunc f args).run P w = .ok (.enter f args) w) (k : Lv P G n rs env D m'.settle H' Qf) : Lv P G n rs env ({ target := .fn (.func f) cap, args := args } :: D) m H Qf := by
  intro C R a w fn u D0 hC hrs hm hf hu
  subst hC
  refine leaves_cons (f := f) (args := args ++ cap) (mode_run hu) (by simp only [invoke]; exact hc _ _) ?_
  refine (hs R w _ u hm.glo (MS.enter (H2 := []) (by simpa using hm)) (ha R) hu).mono ?_
  rintro e u' w' ⟨res, m2, H2, R', ⟨rfl, rfl, rfl⟩, ⟨y, rfl, hr⟩, hu', hm'⟩
  have hm2 : MS C R' H2 w' := by simpa using MS.call (H2 := []) (by simpa using hm) hm'
  exact k C R' a w' fn _ D0 rfl hrs hm2 (hf.mono hm'.ge) (settle_rel hu')
def LvQ (P : Program) (G : Glo) (n : Nat) (rs : List ResultVar) (Qf : ARes → Heap → Prop) : List Deferred → AExit → Env → Heap → Prop
  | D, .ret, e, H | D, .normal, e, H => Lv P G n rs e D .ret H Qf
  | D, .panic v, e, H => Lv P G n rs e D (.pan v) H Qf
  | _, _, _, _ => False
omit [Tab P] in
/-- FROM THE SPINE TO THE CONTRACT. -/
theorem fn_d {f : FuncId} {fn : Func} {c : Code} {avs : List AVal} (hf : P.funcs[f]? = some fn)
    (hc : ∀ args w, (callFunc f args).run P w = .ok (.enter f args) w) (hb : fn.body = some c) (hn : fn.ntmps = n) (hrs : fn.results = rs.toArray) (hlen : Nat.ble avs.length n = true)
    (h : ∀ C : Ctx, C.G = G → C.D = [] → AWpD P C n c (argEnv 0 avs) H (LvQ P G n rs Qf)) : FnSpec P G f avs H Qf := by
  intro R w args hG hm ha
  refine .inl ⟨hc args w, calls_of_wp_defers hf hb ?_⟩
  subst hn
  have hrs' : fn.results.toList = rs := by rw [hrs]
  refine wp_mono (h ⟨w, R, blks H, G, hG, []⟩ rfl rfl R _ w hm (arg_fs hlen ha)) ?_
  rintro e a' w' ⟨D, x, env', H', R', q, er, hm', hf'⟩
  cases x with
  | normal =>
    simp only [ExitRel] at er; subst er
    have := q _ R' a' w' fn .returning D rfl hrs' hm' hf' rfl
    rwa [← hf'.defers] at this
  | ret =>
    simp only [ExitRel] at er; subst er
    have := q _ R' a' w' fn .returning D rfl hrs' hm' hf' rfl
    rwa [← hf'.defers] at this
  | panic v =>
    obtain ⟨y, rfl, hr⟩ := er
    have := q _ R' a' w' fn (.panicking [{ v := y, recovered := false }]) D rfl hrs' hm' hf' ⟨y, rfl, hr⟩
    rwa [← hf'.defers] at this
  | exit i => exact q.elim
  | goto i => exact q.elim
end
end Go.Proofs.YtlmihggafbmkaaaGreatDoor
