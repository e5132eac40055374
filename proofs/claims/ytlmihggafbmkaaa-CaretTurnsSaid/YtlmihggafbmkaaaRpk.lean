/- A slice of one-cell elements is made; a function that is handed two own pointers. -/
import Derived.Test.YtlmihggafbmkaaaOnc
import Derived.Test.YtlmihggafbmkaaaMak
namespace Go.Proofs.Ytlmihggafbmkaaa
open Go Go.RowKit
set_option linter.unusedSectionVars false
theorem fn_xt {P : Program} [Tab P] {G : Glo} {GL : List (Nat × List AVal)} {n : Nat} {H : Heap} {v1 v2 : Value} (i s1 j s2 : Nat) {f : FuncId} {fn : Func} {c : Code} {avs : List AVal} {Qf : ARes → Heap → Prop} {rs : List ResultVar} (hf : P.funcs[f]? = some fn)
    (hc : ∀ args w, (callFunc f args).run P w = .ok (.enter f args) w) (hb : fn.body = some c) (hn : fn.ntmps = n) (hrs : fn.results = rs.toArray) (hlen : Nat.ble avs.length n = true) (hGL : GloAll G GL) (hv1 : vAgg v1 = false) (hv2 : vAgg v2 = false)
    (hk1 : Env.get (argEnv 0 avs) s1 = some (.raw v1)) (hk2 : Env.get ((s1, .own i v1) :: argEnv 0 avs) s2 = some (.raw v2))
    (h : ∀ C : Ctx, C.G = G → codeX P C n G GL c ((s2, .own j v2) :: (s1, .own i v1) :: argEnv 0 avs) H (RetX P rs Qf)) : FnSpec P G f avs H Qf :=
  fn_spec hf hb hc hn hrs hlen fun w0 R0 hG => (aw_env (fun _ _ hf => fs_own (i := i) hv1 hk1 hf) (own_slot (C := ⟨w0, R0, blks H, G, hG, []⟩) (k := s2) j rfl hGL hv2 hk2 (h ⟨w0, R0, blks H, G, hG, []⟩ rfl))).mono fun _ _ _ q => RetX_ok q
section
variable {P : Program} [Tab P] {C : Ctx} {n : Nat} {env : Env} {H : Heap} {Q : AExit → Env → Heap → Prop} {ops : Array Oper} {rest : List Oper} {G : Glo} {GL : List (Nat × List AVal)}
variable {d : Nat} {t : TypeId} {p : String} {af : Array Edge} {g : Option (Nat × Bool)} {b : Bool}
variable {x y : Operand} {T e : TypeId} {xT xe : TI}
/-- A slice of pointers is made. -/
theorem op1_makeP {k1 k2 : IntKind} {m : Nat} (hC : C.G = G) (hGL : GloAll G GL) (hx : evalA env x = some (.int k1 (m : Int))) (hy : evalA env y = some (.int k2 (m : Int))) (hm0 : m ≤ 1000000000) (ht : tab P T = some xT) (hd : xT.desc = .slice e) (he : tab P e = some xe) (hz : xe.zero = some (.pointer none)) (hs : xe.size = 1) (hb : Nat.ble xe.bytes 1024 = true)
    (hg : guardA ops env g = some (b, b)) (hdn : Nat.ble (d + 1) n = true)
    (k : ∀ bl, opsX P C n G GL ops Q rest ((d, .own H.length (.slice (some ⟨bl, 0, none⟩) m m)) :: env) (H ++ [.row (.slice (some ⟨bl, 0, none⟩) m m) (some e) 1 m (List.replicate m (.raw (.pointer none)))])) :
    Op1 P C n ops ({ dst := some d, op := .makeSlice T x y, type := t, pos := p, after := af, guard := g } :: rest) env H Q := by
  refine ⟨ao_valX (X := Nat) (av := fun bl => .raw (.slice (some ⟨bl, 0, none⟩) m m)) (H' := fun bl => .row (.slice (some ⟨bl, 0, none⟩) m m) (some e) 1 m (List.replicate m (.raw (.pointer none))) :: H) hg rfl hdn (fun R ρ w hm hf => ?_)
    (fun bl => ao_end (ao_dst_own (i := H.length) rfl (opsX_ok hC hGL _ _ _ (k bl))))⟩
  obtain ⟨i, hi, his, hib, hiz, _⟩ := tab_info he
  have hb := Nat.le_of_ble_eq_true hb
  have hmul : xe.bytes * m ≤ 1024 * 1000000000 := Nat.mul_le_mul hb hm0
  have hr := run_make (P := P) w T e i (.pointer none) (by rw [tab_und ht, hd]) hi (by rw [hiz, hz]) k1 k2 (m : Int) (m : Int) (by omega) (by omega) (by rw [hib, ← Int.natCast_mul]; omega) (by omega)
  simp only [Int.toNat_natCast] at hr
  have hrun := run_make_op (d := d) (t := t) (p := p) (af := af) (g := g) (rel_int.1 (hf _ _ hx)) (rel_int.1 (hf _ _ hy)) hr
  refine ⟨w.heap.size, _, _, R, hrun, Seal.le_refl R, rel_raw.2 rfl, ?_⟩
  · rw [grow_alloc]
    refine hm.alloc _ _ rfl ⟨by simp, .inr ⟨_, _, _, _, _, rfl, grow_at w _, ?_, Nat.le_refl _, ?_, .inl (Nat.le_refl _), fun t ht => by cases ht; rfl⟩⟩
    · rw [size_madeCells, his, hs]
    · rw [his, hs, Nat.mul_one, show (Value.pointer none).cells = #[.pointer none] from rfl, made_one, List.take_of_length_le (by simp)]
      exact relL_replicate (show RelC R (.raw (.pointer none)) [.pointer none] from rfl) _
/-- An element of an array that is a value. -/
theorem rv_indexA {len i : Nat} {k0 : IntKind} {cs : List AVal} {av : AVal} (hx : evalA env x = some (.agg cs)) (hy : evalA env y = some (.int k0 (i : Int))) (h1 : tab P T = some xT) (h2 : xT.desc = .array len e) (h3 : tab P e = some xe) (h4 : xe.size = 1) (h5 : descAgg xe.desc = false) (hi : i < len) (hc : cs[i]? = some av) (ha : av.isAgg = false) :
    RunV P C H env (.index T x y) av := by
  intro R ρ w hm hf dst t p af g
  have hr := hf _ _ hx
  obtain ⟨vs, hvs⟩ : ∃ vs, ρ x = .agg vs := by
    have := hr.2
    cases hv : ρ x <;> rw [hv] at this <;> simp [AVal.isAgg, vAgg] at this
    exact ⟨_, rfl⟩
  rw [hvs] at hr
  obtain ⟨v, hv, hrv⟩ := relL_get (R := R) (cs := cs) (vs := vs.toList) hr.1 hc
  refine ⟨v, ?_, relC_rel hrv ha⟩
  have hv' : vs[i]? = some v := by simpa using hv
  have hn : (0 : Int) ≤ i ∧ (i : Int) < len := ⟨by omega, by omega⟩
  have hil : i < vs.size := by
    rcases Nat.lt_or_ge i vs.size with h | h
    · exact h
    · rw [Array.getElem?_eq_none h] at hv'; cases hv'
  simp only [execOp, hvs, rel_int.1 (hf _ _ hy), Instr.index, asIntOf, Sem.run_bind, Sem.run_pure, Result.andThen_ok, tab_run_und h1, h2, hn, part, Int.toNat_natCast]
  simp [tab_run_size h3, tab_run_agg h3, h5, h4, hv']
end
end Go.Proofs.Ytlmihggafbmkaaa
