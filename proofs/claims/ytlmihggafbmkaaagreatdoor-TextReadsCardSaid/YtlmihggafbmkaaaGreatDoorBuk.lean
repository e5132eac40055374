/- strings.Builder: its text taken, and it is used again. -/
import Derived.Test.YtlmihggafbmkaaaGreatDoorBu
import Derived.Test.YtlmihggafbmkaaaGreatDoorDeh
namespace Go.Proofs.YtlmihggafbmkaaaGreatDoor
open Go
set_option maxRecDepth 20000
set_option maxHeartbeats 4000000
set_option linter.unusedSimpArgs false
set_option linter.unusedVariables false
attribute [local irreducible] AWp AOps byteAt SrcOK OrOk GloAll FnSpec
abbrev nilS : Value := .slice none 0 0
/-- A call upon a builder and what it has written. -/
theorem cx_bl2 {P : Program} [Tab P] {G : Glo} {f : FuncId} {avs : List AVal} {H : Heap} {K Kp : AVal → Heap → Prop} {i j b : Nat} {p v p' v' : Value} {y y' : HEnt} {r : AVal} (hi : H[i]? = some (bldC b p j v)) (hj : H[j]? = some y) (hne : i ≠ j)
    (hs : FnSpec P G f avs [bldC b p 1 v, y] (fun x H => x = .ret r ∧ H = [bldC b p' 1 v', y']))
    (k : forceH ((H.set i (bldC b p' j v')).set j y') (K r)) : Cx P G f avs H K Kp := by
  obtain ⟨rest, hp, hp2⟩ := two_perm hne hi hj
  have h1 : FnSpec P G f avs [bldC b p j v, y] (fun x H => x = .ret r ∧ H = [bldC b p' j v', y']) := by
    refine fn_hint hs ?_
    rintro x H' ⟨rfl, rfl⟩
    exact ⟨_, ⟨rfl, rfl⟩, fun C R w h => ms_hint j h⟩
  refine ⟨fun x H' => x = .ret r ∧ H' = (H.set i (bldC b p' j v')).set j y', fn_heap (fn_perm (H1 := [bldC b p j v, y] ++ rest) hp.symm (fn_frame rest h1)) ?_, ?_, ?_⟩
  · rintro x H' ⟨H1', ⟨rfl, rfl⟩, rfl⟩
    exact ⟨_, (hp2 _ _).symm, rfl, rfl⟩
  · rintro v' H' ⟨e, rfl⟩
    cases e
    rw [forceH_eq] at k
    exact k
  · rintro v' H' ⟨e, rfl⟩; cases e
theorem builder_take {G : Glo} {b : Nat} {p v : Value} (s : List UInt8) (hlen : s.length ≤ 137438953472) : FnSpec Tryz.prog G 34 [.raw (ptrA b)] [bldC b p 1 v, bldR v s] (fun r H => r = .ret (.str s) ∧ H = [bldC b p 1 v, bldR nilS []]) :=
  fn_post (fun _ => Iff.rfl) (fun _ _ _ h => h) (builder_keep s hlen) fun r H' ⟨e, eH⟩ => ⟨_, ⟨e, rfl⟩, fun _ _ _ h => by
    rw [eH] at h
    exact (h.ghost (eT := some 5) 1).perm (List.Perm.swap _ _ _)⟩
theorem builder_reset {G : Glo} {b : Nat} {p v : Value} : FnSpec Tryz.prog G 38 [.raw (ptrA b)] [bldC b p 1 v, bldR nilS []] (fun r H => r = .ret (.tuple []) ∧ H = [bldC b (.pointer none) 1 nilS, bldR nilS []]) := by
  have key : FnSpec Tryz.prog G 38 [.raw (ptrA b)] [bldC b p 1 v, bldR nilS []] (fun r H => r = .ret (.tuple []) ∧ H = [.cells b (some 72) [.raw (.pointer none), .raw nilS], bldR nilS []]) := by
    have hGL : GloAll G [] := gloAll_nil
    refine fn_xo 0 Tryz.func38 Tryz.call38 rfl rfl rfl rfl hGL rfl ?_
    intro C hC
    repeat' (first
      | (conv => whnf); first
        | (apply ch_l; apply sp_i; first | exact rfl | omega | exact ⟨rfl, rfl, by omega⟩ | exact ⟨rfl, by omega⟩ | exact ⟨rfl, by omega, by omega, by omega⟩ | exact ⟨rfl, by simp, by omega, by omega⟩ | exact ⟨⟨_, rfl⟩, by omega⟩ | exact ⟨⟨_, rfl⟩, by omega, by omega⟩ | assumption | decide | (simp only [List.length_drop, List.length_take, List.length_append, List.length_set, List.length_cons, List.length_nil, OrOk] at *; omega) | (simp; omega))
        | (apply sp_i; first | exact rfl | omega | exact ⟨rfl, rfl, by omega⟩ | exact ⟨rfl, by omega⟩ | exact ⟨rfl, by omega, by omega, by omega⟩ | exact ⟨rfl, by simp, by omega, by omega⟩ | exact ⟨⟨_, rfl⟩, by omega⟩ | exact ⟨⟨_, rfl⟩, by omega, by omega⟩ | assumption | decide | (simp only [List.length_drop, List.length_take, List.length_append, List.length_set, List.length_cons, List.length_nil, OrOk] at *; omega) | (simp; omega))
        | (apply sc_true) | (apply sc_false)
        | (first | apply sc_lt | apply sc_nlt | apply sc_eq | apply sc_neq | apply sc_nil | apply sc_nnil | apply sc_seq | apply sc_nseq); all_goals (intro hb; try (first | (exfalso; omega) | exact absurd rfl hb | exact absurd hb (by decide) | exact absurd hb (by assumption) | exact absurd (by assumption) hb | (exfalso; simp only [List.length_cons, List.length_nil, List.length_append] at hb; omega)))
        | (apply sc_not) | (apply sc_or) | (apply sc_i; all_goals intro hb)
        | (first | apply ix_nat | apply ix_int); first | omega | (simp only [List.length_drop, List.length_take, List.length_append, List.length_set, List.length_cons, List.length_nil] at *; omega)
        | (apply bx_i; intro hbd) | (apply gt_i; assumption; exact rfl)
        | (first | apply sd_nat | apply sd_int | apply sl_nat | apply sl_int); first | omega | (simp only [List.length_drop, List.length_take, List.length_append, List.length_set, List.length_cons, List.length_nil] at *; omega)
        | (apply cx_is; first | fail) | (apply cx_do (i := 0) rfl; first | fail)
        | (apply ab_i; intro bl) | (apply as_i; intro va vk vc hva) | (apply av_i; intro v) | (apply ac_i; intro bl cap hcap)
        | (apply bo_l) | (apply ch_r; apply sp_i; first | assumption | decide) | (apply ch_r; apply sp_i; intro i hi; exact ⟨rfl, rfl, rfl⟩) | (apply nx_i; all_goals intro hnx)
        | (apply Ia.hit; assumption) | (apply Ia.miss; assumption)
        | (apply rt_is; exact rfl) | (apply rt_do; exact rfl; (repeat (first | exact List.nil_sublist _ | apply List.Sublist.cons_cons))) | (apply iv; assumption)
        | (apply dw_q mixed hC hGL (by kernel_rfl))
        | (apply cq; assumption; (first | fail); exact rfl))
    all_goals (try conv => whnf)
  refine fn_post (fun _ => Iff.rfl) (fun _ _ _ h => h) key ?_
  rintro r H' ⟨rfl, rfl⟩
  refine ⟨_, ⟨rfl, rfl⟩, fun C R w h => ?_⟩
  have h0 := h.heap.holds _ List.mem_cons_self
  refine h.swap (i := 0) rfl rfl ?_
  obtain ⟨Cs, el, fz, hW, hr, hl⟩ := h0
  obtain ⟨u1, t1, e1, k1, u2, t2, e2, k2, e3⟩ := hr
  exact ⟨Cs, el, fz, hW, ⟨u1, t1, e1, k1, u2, t2, e2, nil_own k2, e3⟩, hl⟩
/-- A fresh builder, told as one. -/
theorem lp_bldr {P : Program} [Tab P] {C : Ctx} {n : Nat} {env : Env} {H : Heap} {Q : AExit → Env → Heap → Prop} {c : Code} (i : Nat) {b : Nat} (hi : H[i]? = some (.cells b (some 72) [.raw (.pointer none), .raw (.slice none 0 0)]))
    (h : Lp P C n c env (H.set i (bldC b (.pointer none) H.length (.slice none 0 0)) ++ [bldR (.slice none 0 0) []]) Q) : Lp P C n c env H Q := by
  refine ⟨aw_ghost_row (eT := some 5) 1 ?_⟩
  have h := h.h
  unfold AWp at h ⊢
  intro R a w hm hf
  obtain ⟨Cs, e, fz, hb, hl, hr⟩ := hm.heap.holds (.cells b (some 72) [.raw (.pointer none), .raw (.slice none 0 0)]) (List.mem_cons_of_mem _ (List.mem_of_getElem? hi))
  obtain ⟨v1, t1, e1, r1, v2, t2, e2, r2, e3⟩ := hl
  have r2' : RelC R (.own H.length (.slice none 0 0)) [v2] := by
    have : v2 = .slice none 0 0 := by simpa [RelC, Value.cells] using r2
    subst this
    simp [RelC, vAgg]
  have h1 := hm.swap (i := i + 1) (x := .cells b (some 72) [.raw (.pointer none), .raw (.slice none 0 0)]) (y := bldC b (.pointer none) H.length (.slice none 0 0)) (by rw [List.getElem?_cons_succ]; exact hi) rfl
    ⟨Cs, e, fz, hb, ⟨v1, t1, e1, r1, v2, t2, e2, r2', e3⟩, hr⟩
  rw [List.set_cons_succ] at h1
  exact h R a w (h1.perm (List.perm_append_singleton _ _).symm) hf
end Go.Proofs.YtlmihggafbmkaaaGreatDoor
