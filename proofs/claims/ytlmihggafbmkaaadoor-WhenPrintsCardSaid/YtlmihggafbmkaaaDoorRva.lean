/- An element of an array that is a value. -/
import Derived.Test.YtlmihggafbmkaaaDoorExh
namespace Go.Proofs.YtlmihggafbmkaaaDoor
open Go Go.RowKit
set_option linter.unusedSectionVars false
section
variable {P : Program} [Tab P] {C : Ctx} {n : Nat} {H : Heap} {env : Env} {x y : Operand} {T : TypeId} {xT : TI} {e : TypeId} {xe : TI}
/-- An element of an array that is a value. -/
theorem rv_indexA {len i : Nat} {k0 : IntKind} {cs : List AVal} {av : AVal} (hx : evalA env x = some (.agg cs)) (hy : evalA env y = some (.int k0 (i : Int))) (h1 : tab P T = some xT) (h2 : xT.desc = .array len e) (h3 : tab P e = some xe) (h4 : xe.size = 1) (h5 : descAgg xe.desc = false) (hi : i < len) (hc : cs[i]? = some av) (ha : av.isAgg = false) :
    RunV P C H env (.index T x y) av := by
  intro R ρ w hm hf dst t p af g
  have hr := hf _ _ hx
  obtain ⟨vs, hvs⟩ : ∃ vs, ρ x = .agg vs := by
    have := hr.2
    cases hv : ρ x <;> rw [hv] at this <;> simp [AVal.isAgg, vAgg] at this
    exact ⟨_, rfl⟩
  rw [hvs] at hr
  obtain ⟨v, hv, hrv⟩ := relL_get (R := R) (cs := cs) (vs := vs.toList) hr.1 hc
  refine ⟨v, ?_, relC_rel hrv ha⟩
  have hv' : vs[i]? = some v := by simpa using hv
  have hn : (0 : Int) ≤ i ∧ (i : Int) < len := ⟨by omega, by omega⟩
  have hil : i < vs.size := by
    rcases Nat.lt_or_ge i vs.size with h | h
    · exact h
    · rw [Array.getElem?_eq_none h] at hv'; cases hv'
  simp only [execOp, hvs, rel_int.1 (hf _ _ hy), Instr.index, asIntOf, Sem.run_bind, Sem.run_pure, Result.andThen_ok, tab_run_und h1, h2, hn, part, Int.toNat_natCast]
  simp [tab_run_size h3, tab_run_agg h3, h5, h4, hv']
end
end Go.Proofs.YtlmihggafbmkaaaDoor
