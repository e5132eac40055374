/- More rules of the walk by reckoning: rows that are handed back, elements of rows, single operations. -/
import Derived.Test.YtlmihggafbmkaaaGreatDoorExq
namespace Go.Proofs.YtlmihggafbmkaaaGreatDoor
open Go
set_option linter.unusedSimpArgs false
set_option linter.unusedSectionVars false
set_option linter.unusedVariables false
section
variable {P : Program} [Tab P] {C : Ctx} {n : Nat} {env : Env} {H : Heap} {Q : AExit → Env → Heap → Prop} {ops : Array Oper} {rest : List Oper} {G : Glo} {GL : List (Nat × List AVal)}
variable {eT : Option TypeId}
variable {d : Nat} {t : TypeId} {p : String} {af : Array Edge} {g : Option (Nat × Bool)} {b : Bool}
variable {x y : Operand} {T : TypeId} {xT : TI} {tx ty : TypeId} {av : AVal} {f : FuncId} {avs : List AVal}
/-- A nil slice in a slot is a row of the call's own. -/
theorem lp_row {c : Code} (k sz : Nat) (hk : Env.get env k = some (.raw (.slice none 0 0))) (h : Lp P C n c ((k, .own H.length (.slice none 0 0)) :: env) (H ++ [.row (.slice none 0 0) none sz 0 []]) Q) : Lp P C n c env H Q := by
  refine ⟨aw_env (fun _ _ hf => fs_own (i := H.length) rfl hk hf) (aw_ghost_row (eT := none) sz ?_)⟩
  intro R a w hm hf
  exact h.h R a w (hm.perm (List.perm_append_singleton _ H).symm) hf
/-- What is handed back is sealed. -/
theorem fn_seal (mk : AVal → AVal) (hmk : ∀ R R' i v x sz n f, R.le R' → Rel R (mk (.own i v)) x → Rel R' (.list sz n f) v → Rel R' (mk (.list sz n f)) x)
    {sz m : Nat} {cs : List AVal} (fl : Nat → AVal) (hf : ∀ i, i < m → (fl i).cells = (cs.drop (i * sz)).take sz ∧ (fl i).plain = true)
    (h : FnSpec P G f avs [] (fun r H => ∃ i v, r = .ret (mk (.own i v)) ∧ H = [.row v eT sz m cs])) : FnIs P G f avs (mk (.list sz m fl)) := by
  intro R w args hG hm ha
  have key : ∀ {res : ARes} {H' : Heap} {R' : Seal} {e : Ending} {w' : World}, (∃ i v, res = .ret (mk (.own i v)) ∧ H' = [.row v eT sz m cs]) → EndRel R' res e → MS ⟨w, R, blks [], G, hG, []⟩ R' H' w' →
      ∃ res H' R'', (res = .ret (mk (.list sz m fl)) ∧ H' = []) ∧ EndRel R'' res e ∧ MS ⟨w, R, blks [], G, hG, []⟩ R'' H' w' := by
    rintro res H' R' e w' ⟨i, v, rfl, rfl⟩ ⟨x, rfl, hx⟩ hm'
    obtain ⟨R2, hle, hm2, hr⟩ := hm'.seal_row hf
    exact ⟨_, [], R2, ⟨rfl, rfl⟩, ⟨x, rfl, hmk _ _ _ _ _ _ _ _ hle hx hr⟩, hm2⟩
  rcases h R w args hG hm ha with ⟨h1, h2⟩ | ⟨v, w', h1, res, H', R', q, er, hm'⟩
  · exact .inl ⟨h1, h2.mono fun e w' ⟨res, H', R', q, er, hm'⟩ => key q er hm'⟩
  · obtain ⟨res, H'', R'', q', er', hm''⟩ := key q er hm'
    exact .inr ⟨v, w', h1, res, H'', R'', q', er', hm''⟩
theorem mk_id : ∀ (R R' : Seal) (i : Nat) (v x : Value) (sz n : Nat) (f : Nat → AVal), R.le R' → Rel R ((fun a => a) (AVal.own i v)) x → Rel R' (.list sz n f) v → Rel R' ((fun a => a) (AVal.list sz n f)) x := by
  intro R R' i v x sz n f _ h k
  obtain ⟨rfl, _⟩ := rel_own.1 h
  exact k
theorem mk_fst (b : AVal) : ∀ (R R' : Seal) (i : Nat) (v x : Value) (sz n : Nat) (f : Nat → AVal), R.le R' → Rel R ((fun a => AVal.tuple [a, b]) (AVal.own i v)) x → Rel R' (.list sz n f) v → Rel R' ((fun a => AVal.tuple [a, b]) (AVal.list sz n f)) x := by
  rintro R R' i v x sz n f hle ⟨⟨ws, e, u, t, e1, hu, u2, t2, e2, hu2, rfl⟩, h2⟩ k
  have : u = v := (rel_own.1 (show Rel R (.own i v) u from ⟨hu.1, hu.2⟩)).1
  subst this
  have k2 := rel_mono hle (show Rel R b u2 from ⟨hu2.1, hu2.2⟩)
  exact ⟨⟨ws, e, _, _, e1, ⟨k.1, k.2⟩, _, _, e2, ⟨k2.1, k2.2⟩, rfl⟩, h2⟩
/-- An operation met by a rule of its own. -/
theorem op1_run {op : Op} (hC : C.G = G) (hGL : GloAll G GL) (hr : RunV P C H env op av) (hg : guardA ops env g = some (b, b)) (hdn : Nat.ble (d + 1) n = true)
    (k : opsX P C n G GL ops Q rest ((d, av) :: env) H) : Op1 P C n ops ({ dst := some d, op := op, type := t, pos := p, after := af, guard := g } :: rest) env H Q :=
  ⟨ao_of_run hg hdn hr (opsX_ok hC hGL _ _ _ k)⟩
theorem rv_istr {k : IntKind} {m : Int} {S : TypeId} {xS : TI} (hx : evalA env x = some (.int k m)) (h1 : tab P S = some xS) (h2 : tab P T = some xT) (hd : xT.desc = .string) : RunV P C H env (.convert S T x) (.str (Utf8.encode m).data.toList) := by
  intro R ρ w hm hf dst t p af g
  refine ⟨.string (Utf8.encode m), ?_, rel_str.2 rfl⟩
  simp only [execOp, rel_int.1 (hf _ _ hx), convert, Sem.run_bind, tab_run_und h1, tab_run_und h2, hd, Result.andThen_ok, Sem.run_pure]
  cases xS.desc <;> rfl
end
/-- Numbers in a row. -/
def intsC (l : List Int) : List AVal := l.map fun n => .int .i64 n
def intsF (l : List Int) (i : Nat) : AVal := .int .i64 (l.getD i 0)
theorem intsF_ok (l : List Int) : ∀ i, i < l.length → (intsF l i).cells = ((intsC l).drop (i * 1)).take 1 ∧ (intsF l i).plain = true := by
  intro i hi
  refine ⟨?_, rfl⟩
  have : i < (intsC l).length := by simpa [intsC] using hi
  rw [Nat.mul_one, List.drop_eq_getElem_cons this]
  simp [intsF, AVal.cells, intsC, List.getD, hi]
theorem intsC_snoc (l : List Int) (n : Int) : intsC l ++ [.int .i64 n] = intsC (l ++ [n]) := by simp [intsC]
end Go.Proofs.YtlmihggafbmkaaaGreatDoor
