/- Lines of a text: the reference's answer (2.1). -/
import Derived.Test.YtlmihggafbmkaaaDoorFlj
namespace Go.Proofs.YtlmihggafbmkaaaDoor
open Go Go.RowKit
theorem tuple_fst {R R' : Seal} {a a' b : AVal} {x : Value} (hle : R.le R') (h : Rel R (.tuple [a, b]) x) (ht : ∀ v, Rel R a v → Rel R' a' v) : Rel R' (.tuple [a', b]) x := by
  obtain ⟨⟨ws, e, u, t, e1, hu, u2, t2, e2, hu2, rfl⟩, h2⟩ := h
  have k := ht u ⟨hu.1, hu.2⟩
  have k2 := rel_mono hle (show Rel R b u2 from ⟨hu2.1, hu2.2⟩)
  exact ⟨⟨ws, e, _, _, e1, ⟨k.1, k.2⟩, _, _, e2, ⟨k2.1, k2.2⟩, rfl⟩, h2⟩
theorem ms_grow {C : Ctx} {R : Seal} {w : World} {L : List LineS} {v u : Value} (hm : MS C R [.row v none 3 L.length (growC L 1 u), .row u none 1 (lastF L).length (intsC (lastF L))] w) : ∃ R', R.le R' ∧ MS C R' [] w ∧ Rel R' (.list 3 L.length (linesF L)) v := by
  rcases List.eq_nil_or_concat L with rfl | ⟨I, l, rfl⟩
  · exact MS.seal_row (hm.drop (by exact List.Sublist.cons_cons _ (List.nil_sublist _))) (fun i h => absurd h (Nat.not_lt_zero _))
  · rw [List.concat_eq_append] at *
    have hI := linesC_len I
    rw [growC_snoc, lastF_snoc] at hm
    obtain ⟨R1, l1, m1, r1⟩ := MS.seal_row (f := intsF l.f) (hm.perm (List.Perm.swap _ _ _)) (intsF_ok _)
    have hc : CellTo R1 (I.length * 3 + 2) (.list 1 l.f.length (intsF l.f)) (.row v none 3 (I ++ [l]).length (linesC I ++ [.str l.t, .int .i64 l.a, .own 1 u])) _ := .row (a := .own 1 u) (get3 hI) fun _ => own_list r1
    obtain ⟨h1, h2⟩ := hc.holds (m1.heap.holds _ (List.mem_cons_self ..))
    have m2 := m1.setEnt (i := 0) rfl h2 h1
    have e1 : (linesC I ++ ([.str l.t, .int .i64 l.a, .own 1 u] : List AVal)).set (I.length * 3 + 2) (.list 1 l.f.length (intsF l.f)) = linesC (I ++ [l]) := by
      rw [List.set_append_right _ _ (by omega), hI, Nat.add_sub_cancel_left, linesC_app]
      simp [linesC]
    rw [e1] at m2
    obtain ⟨R2, l2, m3, r2⟩ := MS.seal_row (f := linesF (I ++ [l])) m2 (linesF_ok _)
    exact ⟨R2, Seal.le_trans l1 l2, m3, r2⟩
theorem nil_lines {R : Seal} {f : Nat → AVal} {v : Value} (h : Rel R (.raw (.slice none 0 0)) v) : Rel R (.list 3 0 f) v := by
  rw [rel_raw] at h
  subst h
  exact ⟨⟨none, 0, rfl, Nat.le_refl _, .inl rfl⟩, rfl⟩
theorem fold_Lines_is {G : Glo} (t : List UInt8) (hl : t.length ≤ 9223372036854775000) : FnIs Tryd.prog G 20 [.str t] (.tuple [.list 3 (linesL t).length (linesF (linesL t)), (linesE t).A]) := by
  refine fn_told (fold_Lines t hl) ?_
  rintro r H (⟨rfl, h2, rfl⟩ | ⟨v, u, rfl, rfl⟩)
  · rintro C R w e hm ⟨x, rfl, hx⟩
    rw [h2]
    exact ⟨R, hm, x, rfl, tuple_fst (Seal.le_refl R) hx fun v => nil_lines⟩
  · rintro C R w e hm ⟨x, rfl, hx⟩
    obtain ⟨R', hle, m2, hr⟩ := ms_grow hm
    exact ⟨R', m2, x, rfl, tuple_fst hle hx fun v2 h => by rw [(rel_own.1 h).1]; exact hr⟩
theorem ints_src (l : List Int) : SrcOK 1 l.length (intsF l) := fun i hi => ⟨rfl, rfl, rfl⟩
theorem rowCells_ints (l : List Int) : rowCells l.length (intsF l) = intsC l := by
  unfold rowCells intsC
  have : (fun i => (intsF l i).cells) = fun i => [AVal.int .i64 (l.getD i 0)] := rfl
  rw [this, ← List.map_eq_flatMap]
  refine List.ext_getElem (by simp) (fun i h1 h2 => ?_)
  have h3 : i < l.length := by simpa using h2
  simp [List.getD, List.getElem?_eq_getElem h3]
set_option maxRecDepth 20000
set_option maxHeartbeats 4000000
set_option linter.unusedSimpArgs false
set_option linter.unusedVariables false
attribute [local irreducible] AWp AOps byteAt SrcOK OrOk GloAll FnSpec
attribute [local irreducible] linesC growC lastF isFold addP crlfI crlfAt To DSpec Lv AWpD
theorem ref_Lines1 {G : Glo} (b2 b3 : Nat) (x : AVal) (e p : Int) : DSpec Tryd.prog G 63 [.own 1 (.pointer (some ⟨b3, 0, none⟩)), .own 0 (.pointer (some ⟨b2, 0, none⟩))] .ret [.cells b2 (some 25) [x], .cells b3 (some 28) [.int .i64 e, .int .i64 p]]
    (fun r m H => m = .ret ∧ r = .ret (.tuple []) ∧ H = [.cells b2 (some 25) [if e = 0 then x else .raw (.slice none 0 0)], .cells b3 (some 28) [.int .i64 e, .int .i64 p]]) := by
  have hGL : GloAll G [] := gloAll_nil
  have hI := ref_Fault_Is (G := G) e p
  refine ds_code (rs := []) (GL := []) Tryd.func63 rfl rfl rfl rfl hGL ?_
  intro C hC
  by_cases he : e = 0
  · rw [eqB_t.2 he] at hI
    rw [if_pos he]
    repeat' (first
      | (conv => whnf); first
        | (apply ch_l; apply sp_i; first | exact rfl | omega | exact ⟨rfl, rfl, by omega⟩ | exact ⟨rfl, by omega⟩ | exact ⟨rfl, by omega, by omega, by omega⟩ | exact ⟨⟨_, rfl⟩, by omega⟩ | exact ⟨⟨_, rfl⟩, by omega, by omega⟩ | assumption | decide | (simp only [List.length_drop, List.length_take, List.length_append, List.length_set, List.length_cons, List.length_nil, OrOk] at *; omega) | (simp; omega))
        | (apply sp_i; first | exact rfl | omega | exact ⟨rfl, rfl, by omega⟩ | exact ⟨rfl, by omega⟩ | exact ⟨rfl, by omega, by omega, by omega⟩ | exact ⟨⟨_, rfl⟩, by omega⟩ | exact ⟨⟨_, rfl⟩, by omega, by omega⟩ | assumption | decide | (simp only [List.length_drop, List.length_take, List.length_append, List.length_set, List.length_cons, List.length_nil, OrOk] at *; omega) | (simp; omega))
        | (apply sc_true) | (apply sc_false)
        | (first | apply sc_lt | apply sc_nlt | apply sc_eq | apply sc_neq | apply sc_nil | apply sc_nnil | apply sc_seq | apply sc_nseq); all_goals (intro hb; try (first | (exfalso; omega) | exact absurd rfl hb | exact absurd hb (by decide) | exact absurd hb (by assumption) | exact absurd (by assumption) hb | (exfalso; simp only [List.length_cons, List.length_nil, List.length_append] at hb; omega)))
        | (apply sc_not) | (apply sc_or) | (apply sc_i; all_goals intro hb)
        | (first | apply ix_nat | apply ix_int); first | omega | (simp only [List.length_drop, List.length_take, List.length_append, List.length_set, List.length_cons, List.length_nil] at *; omega)
        | (apply bx_i; intro hbd) | (apply gt_i; assumption; exact rfl)
        | (first | apply sd_nat | apply sd_int | apply sl_nat | apply sl_int); first | omega | (simp only [List.length_drop, List.length_take, List.length_append, List.length_set, List.length_cons, List.length_nil] at *; omega)
        | (apply cx_is; first | exact hI) | (apply cx_do (i := 0) rfl; first | exact hI)
        | (apply ab_i; intro bl) | (apply as_i; intro va vk vc hva) | (apply av_i; intro v) | (apply ac_i; intro bl cap hcap)
        | (apply bo_l) | (apply ch_r; apply sp_i; assumption) | (apply ch_r; apply sp_i; intro i hi; exact ⟨rfl, rfl, rfl⟩) | (apply nx_i; all_goals intro hnx)
        | (apply Ia.hit; assumption) | (apply Ia.miss; assumption)
        | (apply rt_is; exact rfl) | (apply rt_do; exact rfl; (repeat (first | exact List.nil_sublist _ | apply List.Sublist.cons_cons))) | (apply iv; assumption)
        | (apply dw_q mixed hC hGL (by kernel_rfl))
        | (apply cq; assumption; (first | exact hI); exact rfl))
    all_goals (try conv => whnf)
    all_goals skip
  · rw [eqB_f.2 he] at hI
    rw [if_neg he]
    repeat' (first
      | (conv => whnf); first
        | (apply ch_l; apply sp_i; first | exact rfl | omega | exact ⟨rfl, rfl, by omega⟩ | exact ⟨rfl, by omega⟩ | exact ⟨rfl, by omega, by omega, by omega⟩ | exact ⟨⟨_, rfl⟩, by omega⟩ | exact ⟨⟨_, rfl⟩, by omega, by omega⟩ | assumption | decide | (simp only [List.length_drop, List.length_take, List.length_append, List.length_set, List.length_cons, List.length_nil, OrOk] at *; omega) | (simp; omega))
        | (apply sp_i; first | exact rfl | omega | exact ⟨rfl, rfl, by omega⟩ | exact ⟨rfl, by omega⟩ | exact ⟨rfl, by omega, by omega, by omega⟩ | exact ⟨⟨_, rfl⟩, by omega⟩ | exact ⟨⟨_, rfl⟩, by omega, by omega⟩ | assumption | decide | (simp only [List.length_drop, List.length_take, List.length_append, List.length_set, List.length_cons, List.length_nil, OrOk] at *; omega) | (simp; omega))
        | (apply sc_true) | (apply sc_false)
        | (first | apply sc_lt | apply sc_nlt | apply sc_eq | apply sc_neq | apply sc_nil | apply sc_nnil | apply sc_seq | apply sc_nseq); all_goals (intro hb; try (first | (exfalso; omega) | exact absurd rfl hb | exact absurd hb (by decide) | exact absurd hb (by assumption) | exact absurd (by assumption) hb | (exfalso; simp only [List.length_cons, List.length_nil, List.length_append] at hb; omega)))
        | (apply sc_not) | (apply sc_or) | (apply sc_i; all_goals intro hb)
        | (first | apply ix_nat | apply ix_int); first | omega | (simp only [List.length_drop, List.length_take, List.length_append, List.length_set, List.length_cons, List.length_nil] at *; omega)
        | (apply bx_i; intro hbd) | (apply gt_i; assumption; exact rfl)
        | (first | apply sd_nat | apply sd_int | apply sl_nat | apply sl_int); first | omega | (simp only [List.length_drop, List.length_take, List.length_append, List.length_set, List.length_cons, List.length_nil] at *; omega)
        | (apply cx_is; first | exact hI) | (apply cx_do (i := 0) rfl; first | exact hI)
        | (apply ab_i; intro bl) | (apply as_i; intro va vk vc hva) | (apply av_i; intro v) | (apply ac_i; intro bl cap hcap)
        | (apply bo_l) | (apply ch_r; apply sp_i; assumption) | (apply ch_r; apply sp_i; intro i hi; exact ⟨rfl, rfl, rfl⟩) | (apply nx_i; all_goals intro hnx)
        | (apply Ia.hit; assumption) | (apply Ia.miss; assumption)
        | (apply rt_is; exact rfl) | (apply rt_do; exact rfl; (repeat (first | exact List.nil_sublist _ | apply List.Sublist.cons_cons))) | (apply iv; assumption)
        | (apply dw_q mixed hC hGL (by kernel_rfl))
        | (apply cq; assumption; (first | exact hI); exact rfl))
    all_goals (try conv => whnf)
    all_goals skip
theorem to_refnew {C : Ctx} {n : Nat} {e : Env} {c2 c3 : HEnt} {v : Value} {L : List LineS} {q : List UInt8} {a m : Nat} (hm : m = (L ++ [(⟨q, a, []⟩ : LineS)]).length) : To C n e [c2, c3, .row v none 3 m (linesC L ++ ([.str q, .int .i64 a, .raw (.slice none 0 0)] : List AVal))] e
    [c2, c3, .row v none 3 (L ++ [(⟨q, a, []⟩ : LineS)]).length (linesC (L ++ [⟨q, a, []⟩]))] := by
  have hI := linesC_len L
  rw [← hm]
  have e1 : (linesC L ++ ([.str q, .int .i64 a, .raw (.slice none 0 0)] : List AVal)).set (L.length * 3 + 2) (.list 1 0 (intsF [])) = linesC (L ++ [⟨q, a, []⟩]) := by
    rw [List.set_append_right _ _ (by omega), hI, Nat.add_sub_cancel_left, linesC_app]
    unfold linesC
    simp
  rw [← e1]
  exact to_cell (i := 2) (p := L.length * 3 + 2) (x := .row v none 3 m (linesC L ++ ([.str q, .int .i64 a, .raw (.slice none 0 0)] : List AVal))) (a' := .list 1 0 (intsF [])) rfl (fun R => .row (a := .raw (.slice none 0 0)) (get3 hI) fun _ => nil_list)
theorem to_reffold {C : Ctx} {n : Nat} {e : Env} {c2 c3 : HEnt} {v u : Value} {I : List LineS} {x : List UInt8} {a m k : Nat} {f : List Int} (hk : k = f.length) (hm : m = (I ++ [(⟨x, a, f⟩ : LineS)]).length) : To C n e [c2, c3, .row v none 3 m (linesC I ++ ([.str x, .int .i64 a, .own 4 u] : List AVal)), .row u none 1 k (intsC f)] e
    [c2, c3, .row v none 3 (I ++ [(⟨x, a, f⟩ : LineS)]).length (linesC (I ++ [⟨x, a, f⟩]))] := by
  subst hk
  have hI := linesC_len I
  rw [← hm]
  have e1 : (linesC I ++ ([.str x, .int .i64 a, .own 4 u] : List AVal)).set (I.length * 3 + 2) (.list 1 f.length (intsF f)) = linesC (I ++ [⟨x, a, f⟩]) := by
    rw [List.set_append_right _ _ (by omega), hI, Nat.add_sub_cancel_left, linesC_app]
    unfold linesC
    simp
  rw [← e1]
  exact to_seal (i := 3) (k := 2) (p := I.length * 3 + 2) (intsF f) rfl rfl (intsF_ok _) (fun R hr => .row (a := .own 4 u) (get3 hI) fun _ => own_list hr)
theorem set3 {A : List AVal} {x y z x' y' z' : AVal} {N k : Nat} (hA : A.length = N) (hk : k = N) : (A ++ [x, y, z]).take k ++ [x', y', z'] ++ (A ++ [x, y, z]).drop (k + 3) = A ++ [x', y', z'] := by
  subst hA
  subst hk
  simp
theorem linesC_snoc (I : List LineS) (l : LineS) : linesC (I ++ [l]) = linesC I ++ [.str l.t, .int .i64 l.a, .list 1 l.f.length (intsF l.f)] := by
  rw [linesC_app]
  simp [linesC]
theorem linesC_nil : linesC [] = [] := by unfold linesC; rfl
abbrev refL (I : List LineS) (l : LineS) : List AVal := linesC I ++ [.str l.t, .int .i64 l.a, .list 1 l.f.length (intsF l.f)]
abbrev ptrV (b : Nat) : Value := .pointer (some ⟨b, 0, none⟩)
abbrev dCaught (b3 : Nat) : Deferred := { target := .fn (.func 65) #[], args := #[ptrV b3] }
abbrev dLines (b2 b3 : Nat) : Deferred := { target := .fn (.func 63) #[ptrV b3, ptrV b2], args := #[] }
theorem lv_retQ {P : Program} [Tab P] {G : Glo} {n : Nat} {rs : List ResultVar} {env : Env} {H : Heap} {Qf : ARes → Heap → Prop} (h : RetQ P rs Qf .ret env H) : Lv P G n rs env [] .ret H Qf := by
  unfold Lv
  rintro C R a w fn u D0 hC hrs hm hf rfl
  obtain ⟨vs, H'', hv, hs, q⟩ := h
  obtain ⟨y, hy, hr⟩ := results_run (fn := fn) hm hf (by rw [hrs]; exact hv)
  exact ⟨y, hy, _, H'', R, q, ⟨y, rfl, hr⟩, hm.drop hs⟩
section
variable {G : Glo} {n : Nat} {env : Env} {Qf : ARes → Heap → Prop} {b2 b3 : Nat} {T : Heap} {x y z : AVal} {e p : Int}
theorem rel_ptr (R : Seal) (i b : Nat) : RelV R [.own i (ptrV b)] [ptrV b] := ⟨_, _, rfl, rel_own.2 ⟨rfl, rfl⟩, rfl⟩
theorem lines_ret (h2 : Env.get env 2 = some (.own 0 (ptrV b2))) (h3 : Env.get env 3 = some (.own 1 (ptrV b3))) (hx : x.isAgg = false) {H' : Heap} (hs : H'.Sublist T) (hq : Qf (.ret (.tuple [x, .agg [.int .i64 e, .int .i64 p]])) H') :
    Lv Tryd.prog G n [.cell 2 25, .cell 3 28] env [] .ret (.cells b2 (some 25) [x] :: .cells b3 (some 28) [.int .i64 e, .int .i64 p] :: T) Qf := by
  refine lv_retQ ⟨[x, .agg [.int .i64 e, .int .i64 p]], H', ⟨_, _, rfl, ⟨b2, 0, _, _, _, .inr ⟨0, h2⟩, rfl, rfl, rfl, .inr ⟨rfl, rfl, hx⟩⟩, _, _, rfl, ⟨b3, 1, _, _, _, .inr ⟨1, h3⟩, rfl, rfl, rfl, .inl ⟨rfl, rfl⟩⟩, rfl⟩, ?_, hq⟩
  exact (hs.cons _).cons _
theorem lines_thrown (h2 : Env.get env 2 = some (.own 0 (ptrV b2))) (h3 : Env.get env 3 = some (.own 1 (ptrV b3))) (he : e ≠ 0) (hq : Qf (.ret (.tuple [.raw (.slice none 0 0), .agg [.int .i64 e, .int .i64 p]])) []) :
    Lv Tryd.prog G n [.cell 2 25, .cell 3 28] env [dCaught b3, dLines b2 b3] (.pan (thrA e p)) (.cells b2 (some 25) [x] :: .cells b3 (some 28) [y, z] :: T) Qf := by
  refine lv_call (ds_at (i := 1) rfl (ref_caught b3 e p y z)) (fun R => rel_ptr R 0 b3) Tryd.call65 ?_
  have h1 := ref_Lines1 (G := G) b2 b3 x e p
  rw [if_neg he] at h1
  refine lv_call (ds_pre T h1) (fun R => ⟨_, _, rfl, rel_own.2 ⟨rfl, rfl⟩, _, _, rfl, rel_own.2 ⟨rfl, rfl⟩, rfl⟩) Tryd.call63 ?_
  exact lines_ret h2 h3 rfl (List.nil_sublist _) hq
theorem lines_left (h2 : Env.get env 2 = some (.own 0 (ptrV b2))) (h3 : Env.get env 3 = some (.own 1 (ptrV b3))) (hx : x.isAgg = false) {H' : Heap} (hs : H'.Sublist T) (hq : Qf (.ret (.tuple [x, .agg [.int .i64 0, .int .i64 p]])) H') :
    Lv Tryd.prog G n [.cell 2 25, .cell 3 28] env [dCaught b3, dLines b2 b3] .ret (.cells b2 (some 25) [x] :: .cells b3 (some 28) [.int .i64 0, .int .i64 p] :: T) Qf := by
  refine lv_call (ds_at (i := 0) rfl (ref_uncaught b3 _)) (fun R => rel_ptr R 0 b3) Tryd.call65 ?_
  have h1 := ref_Lines1 (G := G) b2 b3 x 0 p
  rw [if_pos rfl] at h1
  refine lv_call (ds_pre T h1) (fun R => ⟨_, _, rfl, rel_own.2 ⟨rfl, rfl⟩, _, _, rfl, rel_own.2 ⟨rfl, rfl⟩, rfl⟩) Tryd.call63 ?_
  exact lines_ret h2 h3 hx hs hq
end
theorem ref_Lines {G : Glo} (t : List UInt8) (hl : t.length ≤ 9223372036854775000) : FnSpec Tryd.prog G 19 [.str t] [] (fun r H => (r = .ret (.tuple [.raw (.slice none 0 0), .agg [.int .i64 (linesE t).e, .int .i64 (linesE t).p]]) ∧ linesL t = [] ∧ H = []) ∨
    ∃ v, r = .ret (.tuple [.own 2 v, .agg [.int .i64 (linesE t).e, .int .i64 (linesE t).p]]) ∧ H = [.row v none 3 (linesL t).length (linesC (linesL t))]) := by
  have hGL : GloAll G [] := gloAll_nil
  have hbare := ref_Bare (G := G)
  have hgood := ref_Good (G := G)
  refine fn_d (rs := [.cell 2 25, .cell 3 28]) Tryd.func19 Tryd.call19 rfl rfl rfl rfl ?_
  intro C hC hD
  refine awd_seq (awd_code hC hGL ?_)
  repeat' (first
    | (conv => whnf); first
      | (apply ch_l; apply sp_i; first | exact rfl | omega | exact ⟨rfl, rfl, by omega⟩ | exact ⟨rfl, by omega⟩ | exact ⟨rfl, by omega, by omega, by omega⟩ | exact ⟨⟨_, rfl⟩, by omega⟩ | exact ⟨⟨_, rfl⟩, by omega, by omega⟩ | assumption | decide | (simp only [List.length_drop, List.length_take, List.length_append, List.length_set, List.length_cons, List.length_nil, OrOk] at *; omega) | (simp; omega))
      | (apply sp_i; first | exact rfl | omega | exact ⟨rfl, rfl, by omega⟩ | exact ⟨rfl, by omega⟩ | exact ⟨rfl, by omega, by omega, by omega⟩ | exact ⟨⟨_, rfl⟩, by omega⟩ | exact ⟨⟨_, rfl⟩, by omega, by omega⟩ | assumption | decide | (simp only [List.length_drop, List.length_take, List.length_append, List.length_set, List.length_cons, List.length_nil, OrOk] at *; omega) | (simp; omega))
      | (apply sc_true) | (apply sc_false)
      | (first | apply sc_lt | apply sc_nlt | apply sc_eq | apply sc_neq | apply sc_nil | apply sc_nnil | apply sc_seq | apply sc_nseq); all_goals (intro hb; try (first | (exfalso; omega) | exact absurd rfl hb | exact absurd hb (by decide) | exact absurd hb (by assumption) | exact absurd (by assumption) hb | (exfalso; simp only [List.length_cons, List.length_nil, List.length_append] at hb; omega)))
      | (apply sc_not) | (apply sc_or) | (apply sc_i; all_goals intro hb)
      | (first | apply ix_nat | apply ix_int); first | omega | (simp only [List.length_drop, List.length_take, List.length_append, List.length_set, List.length_cons, List.length_nil] at *; omega)
      | (apply bx_i; intro hbd) | (apply gt_i; assumption; exact rfl)
      | (first | apply sd_nat | apply sd_int | apply sl_nat | apply sl_int); first | omega | (simp only [List.length_drop, List.length_take, List.length_append, List.length_set, List.length_cons, List.length_nil] at *; omega)
      | (apply cx_is; first | fail) | (apply cx_do (i := 0) rfl; first | fail)
      | (apply ab_i; intro bl) | (apply as_i; intro va vk vc hva) | (apply av_i; intro v) | (apply ac_i; intro bl cap hcap)
      | (apply bo_l) | (apply ch_r; apply sp_i; assumption) | (apply ch_r; apply sp_i; intro i hi; exact ⟨rfl, rfl, rfl⟩) | (apply nx_i; all_goals intro hnx)
      | (apply Ia.hit; assumption) | (apply Ia.miss; assumption)
      | (apply rt_is; exact rfl) | (apply rt_do; exact rfl; (repeat (first | exact List.nil_sublist _ | apply List.Sublist.cons_cons))) | (apply iv; assumption)
      | (apply dw_q mixed hC hGL (by kernel_rfl))
      | (apply cq; assumption; (first | fail); exact rfl))
  all_goals (try conv => whnf)
  rename_i b2
  revert bl
  intro b3
  refine awd_seq (awd_seq (awd_code hC hGL ?_))
  repeat' (first
    | (conv => whnf); first
      | (apply ch_l; apply sp_i; first | exact rfl | omega | exact ⟨rfl, rfl, by omega⟩ | exact ⟨rfl, by omega⟩ | exact ⟨rfl, by omega, by omega, by omega⟩ | exact ⟨⟨_, rfl⟩, by omega⟩ | exact ⟨⟨_, rfl⟩, by omega, by omega⟩ | assumption | decide | (simp only [List.length_drop, List.length_take, List.length_append, List.length_set, List.length_cons, List.length_nil, OrOk] at *; omega) | (simp; omega))
      | (apply sp_i; first | exact rfl | omega | exact ⟨rfl, rfl, by omega⟩ | exact ⟨rfl, by omega⟩ | exact ⟨rfl, by omega, by omega, by omega⟩ | exact ⟨⟨_, rfl⟩, by omega⟩ | exact ⟨⟨_, rfl⟩, by omega, by omega⟩ | assumption | decide | (simp only [List.length_drop, List.length_take, List.length_append, List.length_set, List.length_cons, List.length_nil, OrOk] at *; omega) | (simp; omega))
      | (apply sc_true) | (apply sc_false)
      | (first | apply sc_lt | apply sc_nlt | apply sc_eq | apply sc_neq | apply sc_nil | apply sc_nnil | apply sc_seq | apply sc_nseq); all_goals (intro hb; try (first | (exfalso; omega) | exact absurd rfl hb | exact absurd hb (by decide) | exact absurd hb (by assumption) | exact absurd (by assumption) hb | (exfalso; simp only [List.length_cons, List.length_nil, List.length_append] at hb; omega)))
      | (apply sc_not) | (apply sc_or) | (apply sc_i; all_goals intro hb)
      | (first | apply ix_nat | apply ix_int); first | omega | (simp only [List.length_drop, List.length_take, List.length_append, List.length_set, List.length_cons, List.length_nil] at *; omega)
      | (apply bx_i; intro hbd) | (apply gt_i; assumption; exact rfl)
      | (first | apply sd_nat | apply sd_int | apply sl_nat | apply sl_int); first | omega | (simp only [List.length_drop, List.length_take, List.length_append, List.length_set, List.length_cons, List.length_nil] at *; omega)
      | (apply cx_is; first | fail) | (apply cx_do (i := 0) rfl; first | fail)
      | (apply ab_i; intro bl) | (apply as_i; intro va vk vc hva) | (apply av_i; intro v) | (apply ac_i; intro bl cap hcap)
      | (apply bo_l) | (apply ch_r; apply sp_i; assumption) | (apply ch_r; apply sp_i; intro i hi; exact ⟨rfl, rfl, rfl⟩) | (apply nx_i; all_goals intro hnx)
      | (apply Ia.hit; assumption) | (apply Ia.miss; assumption)
      | (apply rt_is; exact rfl) | (apply rt_do; exact rfl; (repeat (first | exact List.nil_sublist _ | apply List.Sublist.cons_cons))) | (apply iv; assumption)
      | (apply dw_q mixed hC hGL (by kernel_rfl))
      | (apply cq; assumption; (first | fail); exact rfl))
  all_goals (try conv => whnf)
  refine (awd_cond rfl (fun hb => awd_code hC hGL ?_) (fun hb => awd_code hC hGL ?_))
  · repeat' (first
      | (conv => whnf); first
        | (apply ch_l; apply sp_i; first | exact rfl | omega | exact ⟨rfl, rfl, by omega⟩ | exact ⟨rfl, by omega⟩ | exact ⟨rfl, by omega, by omega, by omega⟩ | exact ⟨⟨_, rfl⟩, by omega⟩ | exact ⟨⟨_, rfl⟩, by omega, by omega⟩ | assumption | decide | (simp only [List.length_drop, List.length_take, List.length_append, List.length_set, List.length_cons, List.length_nil, OrOk] at *; omega) | (simp; omega))
        | (apply sp_i; first | exact rfl | omega | exact ⟨rfl, rfl, by omega⟩ | exact ⟨rfl, by omega⟩ | exact ⟨rfl, by omega, by omega, by omega⟩ | exact ⟨⟨_, rfl⟩, by omega⟩ | exact ⟨⟨_, rfl⟩, by omega, by omega⟩ | assumption | decide | (simp only [List.length_drop, List.length_take, List.length_append, List.length_set, List.length_cons, List.length_nil, OrOk] at *; omega) | (simp; omega))
        | (apply sc_true) | (apply sc_false)
        | (first | apply sc_lt | apply sc_nlt | apply sc_eq | apply sc_neq | apply sc_nil | apply sc_nnil | apply sc_seq | apply sc_nseq); all_goals (intro hb; try (first | (exfalso; omega) | exact absurd rfl hb | exact absurd hb (by decide) | exact absurd hb (by assumption) | exact absurd (by assumption) hb | (exfalso; simp only [List.length_cons, List.length_nil, List.length_append] at hb; omega)))
        | (apply sc_not) | (apply sc_or) | (apply sc_i; all_goals intro hb)
        | (first | apply ix_nat | apply ix_int); first | omega | (simp only [List.length_drop, List.length_take, List.length_append, List.length_set, List.length_cons, List.length_nil] at *; omega)
        | (apply bx_i; intro hbd) | (apply gt_i; assumption; exact rfl)
        | (first | apply sd_nat | apply sd_int | apply sl_nat | apply sl_int); first | omega | (simp only [List.length_drop, List.length_take, List.length_append, List.length_set, List.length_cons, List.length_nil] at *; omega)
        | (apply cx_is; first | exact hbare _) | (apply cx_do (i := 0) rfl; first | exact hbare _)
        | (apply ab_i; intro bl) | (apply as_i; intro va vk vc hva) | (apply av_i; intro v) | (apply ac_i; intro bl cap hcap)
        | (apply bo_l) | (apply ch_r; apply sp_i; assumption) | (apply ch_r; apply sp_i; intro i hi; exact ⟨rfl, rfl, rfl⟩) | (apply nx_i; all_goals intro hnx)
        | (apply Ia.hit; assumption) | (apply Ia.miss; assumption)
        | (apply rt_is; exact rfl) | (apply rt_do; exact rfl; (repeat (first | exact List.nil_sublist _ | apply List.Sublist.cons_cons))) | (apply iv; assumption)
        | (apply dw_q mixed hC hGL (by kernel_rfl))
        | (apply cq; assumption; (first | exact hbare _); exact rfl))
    all_goals (try conv => whnf)
    rw [hD]
    have hb := ltB_t.1 hb
    have e1 : linesE t = .errno 4 := by unfold linesE; rw [if_pos (by omega)]
    refine lines_ret rfl rfl rfl (List.nil_sublist _) (.inl ⟨by rw [e1]; rfl, by unfold linesL; rw [if_pos (by omega)], rfl⟩)
  · repeat' (first
      | (conv => whnf); first
        | (apply ch_l; apply sp_i; first | exact rfl | omega | exact ⟨rfl, rfl, by omega⟩ | exact ⟨rfl, by omega⟩ | exact ⟨rfl, by omega, by omega, by omega⟩ | exact ⟨⟨_, rfl⟩, by omega⟩ | exact ⟨⟨_, rfl⟩, by omega, by omega⟩ | assumption | decide | (simp only [List.length_drop, List.length_take, List.length_append, List.length_set, List.length_cons, List.length_nil, OrOk] at *; omega) | (simp; omega))
        | (apply sp_i; first | exact rfl | omega | exact ⟨rfl, rfl, by omega⟩ | exact ⟨rfl, by omega⟩ | exact ⟨rfl, by omega, by omega, by omega⟩ | exact ⟨⟨_, rfl⟩, by omega⟩ | exact ⟨⟨_, rfl⟩, by omega, by omega⟩ | assumption | decide | (simp only [List.length_drop, List.length_take, List.length_append, List.length_set, List.length_cons, List.length_nil, OrOk] at *; omega) | (simp; omega))
        | (apply sc_true) | (apply sc_false)
        | (first | apply sc_lt | apply sc_nlt | apply sc_eq | apply sc_neq | apply sc_nil | apply sc_nnil | apply sc_seq | apply sc_nseq); all_goals (intro hb; try (first | (exfalso; omega) | exact absurd rfl hb | exact absurd hb (by decide) | exact absurd hb (by assumption) | exact absurd (by assumption) hb | (exfalso; simp only [List.length_cons, List.length_nil, List.length_append] at hb; omega)))
        | (apply sc_not) | (apply sc_or) | (apply sc_i; all_goals intro hb)
        | (first | apply ix_nat | apply ix_int); first | omega | (simp only [List.length_drop, List.length_take, List.length_append, List.length_set, List.length_cons, List.length_nil] at *; omega)
        | (apply bx_i; intro hbd) | (apply gt_i; assumption; exact rfl)
        | (first | apply sd_nat | apply sd_int | apply sl_nat | apply sl_int); first | omega | (simp only [List.length_drop, List.length_take, List.length_append, List.length_set, List.length_cons, List.length_nil] at *; omega)
        | (apply cx_is; first | fail) | (apply cx_do (i := 0) rfl; first | fail)
        | (apply ab_i; intro bl) | (apply as_i; intro va vk vc hva) | (apply av_i; intro v) | (apply ac_i; intro bl cap hcap)
        | (apply bo_l) | (apply ch_r; apply sp_i; assumption) | (apply ch_r; apply sp_i; intro i hi; exact ⟨rfl, rfl, rfl⟩) | (apply nx_i; all_goals intro hnx)
        | (apply Ia.hit; assumption) | (apply Ia.miss; assumption)
        | (apply rt_is; exact rfl) | (apply rt_do; exact rfl; (repeat (first | exact List.nil_sublist _ | apply List.Sublist.cons_cons))) | (apply iv; assumption)
        | (apply dw_q mixed hC hGL (by kernel_rfl))
        | (apply cq; assumption; (first | fail); exact rfl))
    all_goals (try conv => whnf)
    have hb := ltB_f.1 hb
    refine awd_seq (awd_code hC hGL ?_)
    repeat' (first
      | (conv => whnf); first
        | (apply ch_l; apply sp_i; first | exact rfl | omega | exact ⟨rfl, rfl, by omega⟩ | exact ⟨rfl, by omega⟩ | exact ⟨rfl, by omega, by omega, by omega⟩ | exact ⟨⟨_, rfl⟩, by omega⟩ | exact ⟨⟨_, rfl⟩, by omega, by omega⟩ | assumption | decide | (simp only [List.length_drop, List.length_take, List.length_append, List.length_set, List.length_cons, List.length_nil, OrOk] at *; omega) | (simp; omega))
        | (apply sp_i; first | exact rfl | omega | exact ⟨rfl, rfl, by omega⟩ | exact ⟨rfl, by omega⟩ | exact ⟨rfl, by omega, by omega, by omega⟩ | exact ⟨⟨_, rfl⟩, by omega⟩ | exact ⟨⟨_, rfl⟩, by omega, by omega⟩ | assumption | decide | (simp only [List.length_drop, List.length_take, List.length_append, List.length_set, List.length_cons, List.length_nil, OrOk] at *; omega) | (simp; omega))
        | (apply sc_true) | (apply sc_false)
        | (first | apply sc_lt | apply sc_nlt | apply sc_eq | apply sc_neq | apply sc_nil | apply sc_nnil | apply sc_seq | apply sc_nseq); all_goals (intro hb; try (first | (exfalso; omega) | exact absurd rfl hb | exact absurd hb (by decide) | exact absurd hb (by assumption) | exact absurd (by assumption) hb | (exfalso; simp only [List.length_cons, List.length_nil, List.length_append] at hb; omega)))
        | (apply sc_not) | (apply sc_or) | (apply sc_i; all_goals intro hb)
        | (first | apply ix_nat | apply ix_int); first | omega | (simp only [List.length_drop, List.length_take, List.length_append, List.length_set, List.length_cons, List.length_nil] at *; omega)
        | (apply bx_i; intro hbd) | (apply gt_i; assumption; exact rfl)
        | (first | apply sd_nat | apply sd_int | apply sl_nat | apply sl_int); first | omega | (simp only [List.length_drop, List.length_take, List.length_append, List.length_set, List.length_cons, List.length_nil] at *; omega)
        | (apply cx_is; first | exact hgood) | (apply cx_do (i := 0) rfl; first | exact hgood)
        | (apply ab_i; intro bl) | (apply as_i; intro va vk vc hva) | (apply av_i; intro v) | (apply ac_i; intro bl cap hcap)
        | (apply bo_l) | (apply ch_r; apply sp_i; assumption) | (apply ch_r; apply sp_i; intro i hi; exact ⟨rfl, rfl, rfl⟩) | (apply nx_i; all_goals intro hnx)
        | (apply Ia.hit; assumption) | (apply Ia.miss; assumption)
        | (apply rt_is; exact rfl) | (apply rt_do; exact rfl; (repeat (first | exact List.nil_sublist _ | apply List.Sublist.cons_cons))) | (apply iv; assumption)
        | (apply dw_q mixed hC hGL (by kernel_rfl))
        | (apply cq; assumption; (first | exact hgood); exact rfl))
    all_goals (try conv => whnf)
    refine awd_seq (awd_defer hC hGL rfl ?_)
    repeat' (first
      | (conv => whnf); first
        | (apply ch_l; apply sp_i; first | exact rfl | omega | exact ⟨rfl, rfl, by omega⟩ | exact ⟨rfl, by omega⟩ | exact ⟨rfl, by omega, by omega, by omega⟩ | exact ⟨⟨_, rfl⟩, by omega⟩ | exact ⟨⟨_, rfl⟩, by omega, by omega⟩ | assumption | decide | (simp only [List.length_drop, List.length_take, List.length_append, List.length_set, List.length_cons, List.length_nil, OrOk] at *; omega) | (simp; omega))
        | (apply sp_i; first | exact rfl | omega | exact ⟨rfl, rfl, by omega⟩ | exact ⟨rfl, by omega⟩ | exact ⟨rfl, by omega, by omega, by omega⟩ | exact ⟨⟨_, rfl⟩, by omega⟩ | exact ⟨⟨_, rfl⟩, by omega, by omega⟩ | assumption | decide | (simp only [List.length_drop, List.length_take, List.length_append, List.length_set, List.length_cons, List.length_nil, OrOk] at *; omega) | (simp; omega))
        | (apply sc_true) | (apply sc_false)
        | (first | apply sc_lt | apply sc_nlt | apply sc_eq | apply sc_neq | apply sc_nil | apply sc_nnil | apply sc_seq | apply sc_nseq); all_goals (intro hb; try (first | (exfalso; omega) | exact absurd rfl hb | exact absurd hb (by decide) | exact absurd hb (by assumption) | exact absurd (by assumption) hb | (exfalso; simp only [List.length_cons, List.length_nil, List.length_append] at hb; omega)))
        | (apply sc_not) | (apply sc_or) | (apply sc_i; all_goals intro hb)
        | (first | apply ix_nat | apply ix_int); first | omega | (simp only [List.length_drop, List.length_take, List.length_append, List.length_set, List.length_cons, List.length_nil] at *; omega)
        | (apply bx_i; intro hbd) | (apply gt_i; assumption; exact rfl)
        | (first | apply sd_nat | apply sd_int | apply sl_nat | apply sl_int); first | omega | (simp only [List.length_drop, List.length_take, List.length_append, List.length_set, List.length_cons, List.length_nil] at *; omega)
        | (apply cx_is; first | fail) | (apply cx_do (i := 0) rfl; first | fail)
        | (apply ab_i; intro bl) | (apply as_i; intro va vk vc hva) | (apply av_i; intro v) | (apply ac_i; intro bl cap hcap)
        | (apply bo_l) | (apply ch_r; apply sp_i; assumption) | (apply ch_r; apply sp_i; intro i hi; exact ⟨rfl, rfl, rfl⟩) | (apply nx_i; all_goals intro hnx)
        | (apply Ia.hit; assumption) | (apply Ia.miss; assumption)
        | (apply rt_is; exact rfl) | (apply rt_do; exact rfl; (repeat (first | exact List.nil_sublist _ | apply List.Sublist.cons_cons))) | (apply iv; assumption)
        | (apply dw_q mixed hC hGL (by kernel_rfl))
        | (apply cq; assumption; (first | fail); exact rfl))
    all_goals (try conv => whnf)
    refine ⟨_, rfl, ?_⟩
    refine awd_seq (awd_defer hC hGL rfl ?_)
    repeat' (first
      | (conv => whnf); first
        | (apply ch_l; apply sp_i; first | exact rfl | omega | exact ⟨rfl, rfl, by omega⟩ | exact ⟨rfl, by omega⟩ | exact ⟨rfl, by omega, by omega, by omega⟩ | exact ⟨⟨_, rfl⟩, by omega⟩ | exact ⟨⟨_, rfl⟩, by omega, by omega⟩ | assumption | decide | (simp only [List.length_drop, List.length_take, List.length_append, List.length_set, List.length_cons, List.length_nil, OrOk] at *; omega) | (simp; omega))
        | (apply sp_i; first | exact rfl | omega | exact ⟨rfl, rfl, by omega⟩ | exact ⟨rfl, by omega⟩ | exact ⟨rfl, by omega, by omega, by omega⟩ | exact ⟨⟨_, rfl⟩, by omega⟩ | exact ⟨⟨_, rfl⟩, by omega, by omega⟩ | assumption | decide | (simp only [List.length_drop, List.length_take, List.length_append, List.length_set, List.length_cons, List.length_nil, OrOk] at *; omega) | (simp; omega))
        | (apply sc_true) | (apply sc_false)
        | (first | apply sc_lt | apply sc_nlt | apply sc_eq | apply sc_neq | apply sc_nil | apply sc_nnil | apply sc_seq | apply sc_nseq); all_goals (intro hb; try (first | (exfalso; omega) | exact absurd rfl hb | exact absurd hb (by decide) | exact absurd hb (by assumption) | exact absurd (by assumption) hb | (exfalso; simp only [List.length_cons, List.length_nil, List.length_append] at hb; omega)))
        | (apply sc_not) | (apply sc_or) | (apply sc_i; all_goals intro hb)
        | (first | apply ix_nat | apply ix_int); first | omega | (simp only [List.length_drop, List.length_take, List.length_append, List.length_set, List.length_cons, List.length_nil] at *; omega)
        | (apply bx_i; intro hbd) | (apply gt_i; assumption; exact rfl)
        | (first | apply sd_nat | apply sd_int | apply sl_nat | apply sl_int); first | omega | (simp only [List.length_drop, List.length_take, List.length_append, List.length_set, List.length_cons, List.length_nil] at *; omega)
        | (apply cx_is; first | fail) | (apply cx_do (i := 0) rfl; first | fail)
        | (apply ab_i; intro bl) | (apply as_i; intro va vk vc hva) | (apply av_i; intro v) | (apply ac_i; intro bl cap hcap)
        | (apply bo_l) | (apply ch_r; apply sp_i; assumption) | (apply ch_r; apply sp_i; intro i hi; exact ⟨rfl, rfl, rfl⟩) | (apply nx_i; all_goals intro hnx)
        | (apply Ia.hit; assumption) | (apply Ia.miss; assumption)
        | (apply rt_is; exact rfl) | (apply rt_do; exact rfl; (repeat (first | exact List.nil_sublist _ | apply List.Sublist.cons_cons))) | (apply iv; assumption)
        | (apply dw_q mixed hC hGL (by kernel_rfl))
        | (apply cq; assumption; (first | fail); exact rfl))
    all_goals (try conv => whnf)
    refine ⟨_, rfl, ?_⟩
    refine (fun (h : ∀ C2 : Ctx, C2.G = G → C2.D = [dCaught b3, dLines b2 b3] → AWpD Tryd.prog C2 _ _ _ _ _) => h (withD C (dCaught b3 :: dLines b2 b3 :: C.D)) hC (by show dCaught b3 :: dLines b2 b3 :: C.D = _; rw [hD])) ?_
    clear hC hD C
    intro C hC hD
    refine awd_code hC hGL ?_
    repeat' (first
      | (conv => whnf); first
        | (apply ch_l; apply sp_i; first | exact rfl | omega | exact ⟨rfl, rfl, by omega⟩ | exact ⟨rfl, by omega⟩ | exact ⟨rfl, by omega, by omega, by omega⟩ | exact ⟨⟨_, rfl⟩, by omega⟩ | exact ⟨⟨_, rfl⟩, by omega, by omega⟩ | assumption | decide | (simp only [List.length_drop, List.length_take, List.length_append, List.length_set, List.length_cons, List.length_nil, OrOk] at *; omega) | (simp; omega))
        | (apply sp_i; first | exact rfl | omega | exact ⟨rfl, rfl, by omega⟩ | exact ⟨rfl, by omega⟩ | exact ⟨rfl, by omega, by omega, by omega⟩ | exact ⟨⟨_, rfl⟩, by omega⟩ | exact ⟨⟨_, rfl⟩, by omega, by omega⟩ | assumption | decide | (simp only [List.length_drop, List.length_take, List.length_append, List.length_set, List.length_cons, List.length_nil, OrOk] at *; omega) | (simp; omega))
        | (apply sc_true) | (apply sc_false)
        | (first | apply sc_lt | apply sc_nlt | apply sc_eq | apply sc_neq | apply sc_nil | apply sc_nnil | apply sc_seq | apply sc_nseq); all_goals (intro hb; try (first | (exfalso; omega) | exact absurd rfl hb | exact absurd hb (by decide) | exact absurd hb (by assumption) | exact absurd (by assumption) hb | (exfalso; simp only [List.length_cons, List.length_nil, List.length_append] at hb; omega)))
        | (apply sc_not) | (apply sc_or) | (apply sc_i; all_goals intro hb)
        | (first | apply ix_nat | apply ix_int); first | omega | (simp only [List.length_drop, List.length_take, List.length_append, List.length_set, List.length_cons, List.length_nil] at *; omega)
        | (apply bx_i; intro hbd) | (apply gt_i; assumption; exact rfl)
        | (first | apply sd_nat | apply sd_int | apply sl_nat | apply sl_int); first | omega | (simp only [List.length_drop, List.length_take, List.length_append, List.length_set, List.length_cons, List.length_nil] at *; omega)
        | (apply cx_is; first | fail) | (apply cx_do (i := 0) rfl; first | fail)
        | (apply ab_i; intro bl) | (apply as_i; intro va vk vc hva) | (apply av_i; intro v) | (apply ac_i; intro bl cap hcap)
        | (apply bo_l) | (apply ch_r; apply sp_i; assumption) | (apply ch_r; apply sp_i; intro i hi; exact ⟨rfl, rfl, rfl⟩) | (apply nx_i; all_goals intro hnx)
        | (apply Ia.hit; assumption) | (apply Ia.miss; assumption)
        | (apply rt_is; exact rfl) | (apply rt_do; exact rfl; (repeat (first | exact List.nil_sublist _ | apply List.Sublist.cons_cons))) | (apply iv; assumption)
        | (exact True.intro) | (apply bc_i; intro C hC) | (apply bt_i) | (apply og_n) | (apply og_a; exact rfl))
    all_goals (try conv => whnf)
    refine lpT hC hGL (fun (x : Nat × Nat × List LineS × Nat × Nat) => [(0, .str t), (2, .own 0 (ptrV b2)), (3, .own 1 (ptrV b3)), (4, .int .i64 x.2.1), (5, .int .i64 x.1)]) (fun x => [.cells b2 (some 25) [.own 2 (rowVal x.2.2.2.1 x.2.2.2.2 x.2.2.1.length)], .cells b3 (some 28) [.int .i64 0, .int .i64 (-1)], .row (rowVal x.2.2.2.1 x.2.2.2.2 x.2.2.1.length) none 3 x.2.2.1.length (linesC x.2.2.1)])
      (fun x => x.2.1 ≤ x.1 ∧ x.1 ≤ t.length + 1 ∧ (x.2.1 < t.length → x.1 ≤ t.length) ∧ x.2.2.1.length ≤ x.2.1 ∧ linesG t 0 [] = linesG t x.2.1 x.2.2.1 ∧ (∀ j, x.2.1 ≤ j → j < x.1 → byteAt t j ≠ 10 ∧ byteAt t j ≠ 13) ∧ ∀ l, x.2.2.1.getLast? = some l → l.t.length ≤ x.2.1 ∧ l.f.length ≤ x.2.1) (fun x => t.length + 1 - x.1) (0, 0, [], 0, 0) ?_ ?_ ?_
    · exact ⟨Nat.le_refl _, Nat.zero_le _, fun _ => Nat.zero_le _, Nat.le_refl _, rfl, fun j h1 h2 => absurd h2 (Nat.not_lt_zero _), fun l h => by cases h⟩
    · dsimp only
      refine to_trans (to_ghost 3) (to_trans (to_cell (i := 0) (p := 0) (x := .cells b2 (some 25) [.raw (.slice none 0 0)]) (a' := .own 2 (.slice none 0 0)) rfl (fun R => .cells rfl fun _ => nil_own)) (to_sub ⟨rfl, rfl, rfl, rfl, rfl, trivial⟩ ?_))
      rw [show linesC [] = [] by unfold linesC; rfl]
      exact List.Sublist.refl _
    rintro ⟨i, a, L, b, cap⟩ ⟨g1, g2, g3, g4, g5, g6, g7⟩
    dsimp only at g1 g2 g3 g4 g5 g6 g7 ⊢
    have hE : linesE t = (linesG t a L).1 := by unfold linesE; rw [if_neg (by omega), g5]
    have hL : linesL t = (linesG t a L).2 := by unfold linesL; rw [if_neg (by omega), g5]
    have hT := fun e p => ref_throw (G := G) e p
    by_cases ha : a < t.length
    · have g3 := g3 ha
      by_cases hi : i = t.length
      · have hc : crlfI (t.drop a) = -1 := crlf_end (noAny_of (Nat.le_refl _) fun j hj => by rw [drop_byteAt]; rw [List.length_drop] at hj; exact g6 (a + j) (by omega) (by omega))
        have h1 := lines_none (L := L) ha hc
        repeat' (first
          | (conv => whnf); first
            | (apply ch_l; apply sp_i; first | exact rfl | omega | exact ⟨rfl, rfl, by omega⟩ | exact ⟨rfl, by omega⟩ | exact ⟨rfl, by omega, by omega, by omega⟩ | exact ⟨⟨_, rfl⟩, by omega⟩ | exact ⟨⟨_, rfl⟩, by omega, by omega⟩ | assumption | decide | (simp only [List.length_drop, List.length_take, List.length_append, List.length_set, List.length_cons, List.length_nil, OrOk] at *; omega) | (simp; omega))
            | (apply sp_i; first | exact rfl | omega | exact ⟨rfl, rfl, by omega⟩ | exact ⟨rfl, by omega⟩ | exact ⟨rfl, by omega, by omega, by omega⟩ | exact ⟨⟨_, rfl⟩, by omega⟩ | exact ⟨⟨_, rfl⟩, by omega, by omega⟩ | assumption | decide | (simp only [List.length_drop, List.length_take, List.length_append, List.length_set, List.length_cons, List.length_nil, OrOk] at *; omega) | (simp; omega))
            | (apply sc_true) | (apply sc_false)
            | (first | apply sc_lt | apply sc_nlt | apply sc_eq | apply sc_neq | apply sc_nil | apply sc_nnil | apply sc_seq | apply sc_nseq); all_goals (intro hb; try (first | (exfalso; omega) | exact absurd rfl hb | exact absurd hb (by decide) | exact absurd hb (by assumption) | exact absurd (by assumption) hb | (exfalso; simp only [List.length_cons, List.length_nil, List.length_append] at hb; omega)))
            | (apply sc_not) | (apply sc_or) | (apply sc_i; all_goals intro hb)
            | (first | apply ix_nat | apply ix_int); first | omega | (simp only [List.length_drop, List.length_take, List.length_append, List.length_set, List.length_cons, List.length_nil] at *; omega)
            | (apply bx_i; intro hbd) | (apply gt_i; assumption; exact rfl)
            | (first | apply sd_nat | apply sd_int | apply sl_nat | apply sl_int); first | omega | (simp only [List.length_drop, List.length_take, List.length_append, List.length_set, List.length_cons, List.length_nil] at *; omega)
            | (apply cx_is; first | fail) | (apply cx_do (i := 0) rfl; first | fail)
            | (apply ab_i; intro bl) | (apply as_i; intro va vk vc hva) | (apply av_i; intro v) | (apply ac_i; intro bl cap hcap)
            | (apply bo_l) | (apply ch_r; apply sp_i; assumption) | (apply ch_r; apply sp_i; intro i hi; exact ⟨rfl, rfl, rfl⟩) | (apply nx_i; all_goals intro hnx)
            | (apply Ia.hit; assumption) | (apply Ia.miss; assumption)
            | (apply rt_is; exact rfl) | (apply rt_do; exact rfl; (repeat (first | exact List.nil_sublist _ | apply List.Sublist.cons_cons))) | (apply iv; assumption)
            | (exact True.intro) | (apply bc_i; intro C hC) | (apply bt_i) | (apply og_n) | (apply og_a; exact rfl))
        all_goals (try conv => whnf)
        refine cx_panic (hT 7 i) ?_
        (conv => whnf)
        rw [hD]
        exact lines_thrown rfl rfl (by decide) (.inl ⟨by rw [hE, h1, hi]; rfl, by rw [hL, h1], rfl⟩)
      · by_cases hn : byteAt t i = 10 ∨ byteAt t i = 13
        · have hii : a + (i - a) = i := by omega
          have hc : crlfI (t.drop a) = ((i - a : Nat) : Int) := crlf_is (by rw [List.length_drop]; omega) (by rw [drop_byteAt, hii]; exact hn) (fun j hj => by rw [drop_byteAt]; exact g6 (a + j) (by omega) (by omega))
          have h1 := lines_bad (L := L) ha hc
          have h2 := lines_piece (L := L) ha hc
          rw [hii] at h1 h2
          rw [show (t.drop a).take (i - a) = (t.take i).drop a by rw [List.drop_take]] at h2
          have hpl : ((t.take i).drop a).length = i - a := by rw [List.length_drop, List.length_take]; omega
          cases hk : crlfAt t i with
          | false =>
            have h1 := h1 hk
            have hk' : byteAt t i ≠ 13 ∨ ¬ (i + 1 < t.length) ∨ byteAt t (i + 1) ≠ 10 := by
              unfold crlfAt at hk
              rw [Bool.and_eq_false_iff, Bool.and_eq_false_iff, beq_eq_false_iff_ne, beq_eq_false_iff_ne, decide_eq_false_iff_not] at hk
              omega
            rw [show (a : Int) + ((i - a : Nat) : Int) = i by omega] at h1
            repeat' (first
              | (conv => whnf); first
                | (apply ch_l; apply sp_i; first | exact rfl | omega | exact ⟨rfl, rfl, by omega⟩ | exact ⟨rfl, by omega⟩ | exact ⟨rfl, by omega, by omega, by omega⟩ | exact ⟨⟨_, rfl⟩, by omega⟩ | exact ⟨⟨_, rfl⟩, by omega, by omega⟩ | assumption | decide | (simp only [List.length_drop, List.length_take, List.length_append, List.length_set, List.length_cons, List.length_nil, OrOk] at *; omega) | (simp; omega))
                | (apply sp_i; first | exact rfl | omega | exact ⟨rfl, rfl, by omega⟩ | exact ⟨rfl, by omega⟩ | exact ⟨rfl, by omega, by omega, by omega⟩ | exact ⟨⟨_, rfl⟩, by omega⟩ | exact ⟨⟨_, rfl⟩, by omega, by omega⟩ | assumption | decide | (simp only [List.length_drop, List.length_take, List.length_append, List.length_set, List.length_cons, List.length_nil, OrOk] at *; omega) | (simp; omega))
                | (apply sc_true) | (apply sc_false)
                | (first | apply sc_lt | apply sc_nlt | apply sc_eq | apply sc_neq | apply sc_nil | apply sc_nnil | apply sc_seq | apply sc_nseq); all_goals (intro hb; try (first | (exfalso; omega) | exact absurd rfl hb | exact absurd hb (by decide) | exact absurd hb (by assumption) | exact absurd (by assumption) hb | (exfalso; simp only [List.length_cons, List.length_nil, List.length_append] at hb; omega)))
                | (apply sc_not) | (apply sc_or) | (apply sc_i; all_goals intro hb)
                | (first | apply ix_nat | apply ix_int); first | omega | (simp only [List.length_drop, List.length_take, List.length_append, List.length_set, List.length_cons, List.length_nil] at *; omega)
                | (apply bx_i; intro hbd) | (apply gt_i; assumption; exact rfl)
                | (first | apply sd_nat | apply sd_int | apply sl_nat | apply sl_int); first | omega | (simp only [List.length_drop, List.length_take, List.length_append, List.length_set, List.length_cons, List.length_nil] at *; omega)
                | (apply cx_is; first | fail) | (apply cx_do (i := 0) rfl; first | fail)
                | (apply ab_i; intro bl) | (apply as_i; intro va vk vc hva) | (apply av_i; intro v) | (apply ac_i; intro bl cap hcap)
                | (apply bo_l) | (apply ch_r; apply sp_i; assumption) | (apply ch_r; apply sp_i; intro i hi; exact ⟨rfl, rfl, rfl⟩) | (apply nx_i; all_goals intro hnx)
                | (apply Ia.hit; assumption) | (apply Ia.miss; assumption)
                | (apply rt_is; exact rfl) | (apply rt_do; exact rfl; (repeat (first | exact List.nil_sublist _ | apply List.Sublist.cons_cons))) | (apply iv; assumption)
                | (exact True.intro) | (apply bc_i; intro C hC) | (apply bt_i) | (apply og_n) | (apply og_a; exact rfl))
            all_goals (try conv => whnf)
            all_goals
              refine cx_panic (hT 3 i) ?_
              (conv => whnf)
              rw [hD]
              exact lines_thrown rfl rfl (by decide) (.inl ⟨by rw [hE, h1]; rfl, by rw [hL, h1], rfl⟩)
          | true =>
            have hk' : byteAt t i = 13 ∧ i + 1 < t.length ∧ byteAt t (i + 1) = 10 := by
              unfold crlfAt at hk
              rw [Bool.and_eq_true, Bool.and_eq_true, beq_iff_eq, beq_iff_eq, decide_eq_true_eq] at hk
              omega
            have h2 := h2 hk
            clear h1
            rcases List.eq_nil_or_concat L with rfl | ⟨I, l, rfl⟩
            · rw [linesC_nil]
              repeat' (first
                | (conv => whnf); first
                  | (apply ch_l; apply sp_i; first | exact rfl | omega | exact ⟨rfl, rfl, by omega⟩ | exact ⟨rfl, by omega⟩ | exact ⟨rfl, by omega, by omega, by omega⟩ | exact ⟨⟨_, rfl⟩, by omega⟩ | exact ⟨⟨_, rfl⟩, by omega, by omega⟩ | assumption | decide | (simp only [List.length_drop, List.length_take, List.length_append, List.length_set, List.length_cons, List.length_nil, OrOk] at *; omega) | (simp; omega))
                  | (apply sp_i; first | exact rfl | omega | exact ⟨rfl, rfl, by omega⟩ | exact ⟨rfl, by omega⟩ | exact ⟨rfl, by omega, by omega, by omega⟩ | exact ⟨⟨_, rfl⟩, by omega⟩ | exact ⟨⟨_, rfl⟩, by omega, by omega⟩ | assumption | decide | (simp only [List.length_drop, List.length_take, List.length_append, List.length_set, List.length_cons, List.length_nil, OrOk] at *; omega) | (simp; omega))
                  | (apply sc_true) | (apply sc_false)
                  | (first | apply sc_lt | apply sc_nlt | apply sc_eq | apply sc_neq | apply sc_nil | apply sc_nnil | apply sc_seq | apply sc_nseq); all_goals (intro hb; try (first | (exfalso; omega) | exact absurd rfl hb | exact absurd hb (by decide) | exact absurd hb (by assumption) | exact absurd (by assumption) hb | (exfalso; simp only [List.length_cons, List.length_nil, List.length_append] at hb; omega)))
                  | (apply sc_not) | (apply sc_or) | (apply sc_i; all_goals intro hb)
                  | (first | apply ix_nat | apply ix_int); first | omega | (simp only [List.length_drop, List.length_take, List.length_append, List.length_set, List.length_cons, List.length_nil] at *; omega)
                  | (apply bx_i; intro hbd) | (apply gt_i; assumption; exact rfl)
                  | (first | apply sd_nat | apply sd_int | apply sl_nat | apply sl_int); first | omega | (simp only [List.length_drop, List.length_take, List.length_append, List.length_set, List.length_cons, List.length_nil] at *; omega)
                  | (apply cx_is; first | fail) | (apply cx_do (i := 0) rfl; first | fail)
                  | (apply ab_i; intro bl) | (apply as_i; intro va vk vc hva) | (apply av_i; intro v) | (apply ac_i; intro bl cap hcap)
                  | (apply bo_l) | (apply ch_r; apply sp_i; assumption) | (apply ch_r; apply sp_i; intro i hi; exact ⟨rfl, rfl, rfl⟩) | (apply nx_i; all_goals intro hnx)
                  | (apply Ia.hit; assumption) | (apply Ia.miss; assumption)
                  | (apply rt_is; exact rfl) | (apply rt_do; exact rfl; (repeat (first | exact List.nil_sublist _ | apply List.Sublist.cons_cons))) | (apply iv; assumption)
                  | (exact True.intro) | (apply bc_i; intro C hC) | (apply bt_i) | (apply og_n) | (apply og_a; exact rfl))
              all_goals (try conv => whnf)
              iterate 2
                · have hF : isFold ((t.take i).drop a) = true := by first | exact isFold_y1 (by assumption) (by assumption) | exact isFold_y2 (by assumption) (by assumption)
                  refine cx_panic (hT 10 0) ?_
                  (conv => whnf)
                  rw [hD]
                  exact lines_thrown rfl rfl (by decide) (.inl ⟨by rw [hE, h2, addP_fold_nil hF]; rfl, by rw [hL, h2, addP_fold_nil hF], rfl⟩)
              · have hF : isFold ((t.take i).drop a) = false := by first | exact isFold_n0 (by assumption) | exact isFold_n (by assumption) (by assumption)
                obtain ⟨bv, rfl, rfl⟩ := hva (by simp)
                repeat' (first
                  | (conv => whnf); first
                    | (apply ch_l; apply sp_i; first | exact rfl | omega | exact ⟨rfl, rfl, by omega⟩ | exact ⟨rfl, by omega⟩ | exact ⟨rfl, by omega, by omega, by omega⟩ | exact ⟨⟨_, rfl⟩, by omega⟩ | exact ⟨⟨_, rfl⟩, by omega, by omega⟩ | assumption | decide | (simp only [List.length_drop, List.length_take, List.length_append, List.length_set, List.length_cons, List.length_nil, OrOk] at *; omega) | (simp; omega))
                    | (apply sp_i; first | exact rfl | omega | exact ⟨rfl, rfl, by omega⟩ | exact ⟨rfl, by omega⟩ | exact ⟨rfl, by omega, by omega, by omega⟩ | exact ⟨⟨_, rfl⟩, by omega⟩ | exact ⟨⟨_, rfl⟩, by omega, by omega⟩ | assumption | decide | (simp only [List.length_drop, List.length_take, List.length_append, List.length_set, List.length_cons, List.length_nil, OrOk] at *; omega) | (simp; omega))
                    | (apply sc_true) | (apply sc_false)
                    | (first | apply sc_lt | apply sc_nlt | apply sc_eq | apply sc_neq | apply sc_nil | apply sc_nnil | apply sc_seq | apply sc_nseq); all_goals (intro hb; try (first | (exfalso; omega) | exact absurd rfl hb | exact absurd hb (by decide) | exact absurd hb (by assumption) | exact absurd (by assumption) hb | (exfalso; simp only [List.length_cons, List.length_nil, List.length_append] at hb; omega)))
                    | (apply sc_not) | (apply sc_or) | (apply sc_i; all_goals intro hb)
                    | (first | apply ix_nat | apply ix_int); first | omega | (simp only [List.length_drop, List.length_take, List.length_append, List.length_set, List.length_cons, List.length_nil] at *; omega)
                    | (apply bx_i; intro hbd) | (apply gt_i; assumption; exact rfl)
                    | (first | apply sd_nat | apply sd_int | apply sl_nat | apply sl_int); first | omega | (simp only [List.length_drop, List.length_take, List.length_append, List.length_set, List.length_cons, List.length_nil] at *; omega)
                    | (apply cx_is; first | fail) | (apply cx_do (i := 0) rfl; first | fail)
                    | (apply ab_i; intro bl) | (apply as_i; intro va vk vc hva) | (apply av_i; intro v) | (apply ac_i; intro bl cap hcap)
                    | (apply bo_l) | (apply ch_r; apply sp_i; assumption) | (apply ch_r; apply sp_i; intro i hi; exact ⟨rfl, rfl, rfl⟩) | (apply nx_i; all_goals intro hnx)
                    | (apply Ia.hit; assumption) | (apply Ia.miss; assumption)
                    | (apply rt_is; exact rfl) | (apply rt_do; exact rfl; (repeat (first | exact List.nil_sublist _ | apply List.Sublist.cons_cons))) | (apply iv; assumption)
                    | (exact True.intro) | (apply bc_i; intro C hC) | (apply bt_i) | (apply og_n) | (apply og_a; exact rfl))
                all_goals (try conv => whnf)
                refine sp_i ⟨⟨_, rfl⟩, show (((([] : List LineS).length + 1 : Nat) : Int) - 1).toNat * 3 + 3 ≤ (([] : List LineS).length + 1) * 3 by omega, by omega⟩ ?_
                refine gs_i (c := [.str ((t.take i).drop a), .int .i64 a, .raw (.slice none 0 0)]) rfl ?_
                repeat' (first
                  | (conv => whnf); first
                    | (apply ch_l; apply sp_i; first | exact rfl | omega | exact ⟨rfl, rfl, by omega⟩ | exact ⟨rfl, by omega⟩ | exact ⟨rfl, by omega, by omega, by omega⟩ | exact ⟨⟨_, rfl⟩, by omega⟩ | exact ⟨⟨_, rfl⟩, by omega, by omega⟩ | assumption | decide | (simp only [List.length_drop, List.length_take, List.length_append, List.length_set, List.length_cons, List.length_nil, OrOk] at *; omega) | (simp; omega))
                    | (apply sp_i; first | exact rfl | omega | exact ⟨rfl, rfl, by omega⟩ | exact ⟨rfl, by omega⟩ | exact ⟨rfl, by omega, by omega, by omega⟩ | exact ⟨⟨_, rfl⟩, by omega⟩ | exact ⟨⟨_, rfl⟩, by omega, by omega⟩ | assumption | decide | (simp only [List.length_drop, List.length_take, List.length_append, List.length_set, List.length_cons, List.length_nil, OrOk] at *; omega) | (simp; omega))
                    | (apply sc_true) | (apply sc_false)
                    | (first | apply sc_lt | apply sc_nlt | apply sc_eq | apply sc_neq | apply sc_nil | apply sc_nnil | apply sc_seq | apply sc_nseq); all_goals (intro hb; try (first | (exfalso; omega) | exact absurd rfl hb | exact absurd hb (by decide) | exact absurd hb (by assumption) | exact absurd (by assumption) hb | (exfalso; simp only [List.length_cons, List.length_nil, List.length_append] at hb; omega)))
                    | (apply sc_not) | (apply sc_or) | (apply sc_i; all_goals intro hb)
                    | (first | apply ix_nat | apply ix_int); first | omega | (simp only [List.length_drop, List.length_take, List.length_append, List.length_set, List.length_cons, List.length_nil] at *; omega)
                    | (apply bx_i; intro hbd) | (apply gt_i; assumption; exact rfl)
                    | (first | apply sd_nat | apply sd_int | apply sl_nat | apply sl_int); first | omega | (simp only [List.length_drop, List.length_take, List.length_append, List.length_set, List.length_cons, List.length_nil] at *; omega)
                    | (apply cx_is; first | fail) | (apply cx_do (i := 0) rfl; first | fail)
                    | (apply ab_i; intro bl) | (apply as_i; intro va vk vc hva) | (apply av_i; intro v) | (apply ac_i; intro bl cap hcap)
                    | (apply bo_l) | (apply ch_r; apply sp_i; assumption) | (apply ch_r; apply sp_i; intro i hi; exact ⟨rfl, rfl, rfl⟩) | (apply nx_i; all_goals intro hnx)
                    | (apply Ia.hit; assumption) | (apply Ia.miss; assumption)
                    | (apply rt_is; exact rfl) | (apply rt_do; exact rfl; (repeat (first | exact List.nil_sublist _ | apply List.Sublist.cons_cons))) | (apply iv; assumption)
                    | (exact True.intro) | (apply bc_i; intro C hC) | (apply bt_i) | (apply og_n) | (apply og_a; exact rfl))
                all_goals (try conv => whnf)
                · refine cx_panic (hT 4 a) ?_
                  (conv => whnf)
                  rw [hD]
                  exact lines_thrown rfl rfl (by decide) (.inl ⟨by rw [hE, h2, addP_long hF (by omega)]; rfl, by rw [hL, h2, addP_long hF (by omega)], rfl⟩)
                · refine nxT (i + 2, i + 2, (([] : List LineS) ++ [(⟨((t.take i).drop a), a, []⟩ : LineS)]), bv, vc) ⟨Nat.le_refl _, by dsimp only; omega, fun _ => by dsimp only; omega, by simp only [List.length_append, List.length_cons, List.length_nil]; omega, ?_, fun j h1 h2 => by dsimp only at h1 h2; omega, fun l h => by have e : (⟨((t.take i).drop a), a, []⟩ : LineS) = l := (by simpa using h); subst e; exact ⟨by show (((t.take i).drop a)).length ≤ i + 2; omega, Nat.zero_le _⟩⟩ (by dsimp only; omega) ?_
                  · dsimp only
                    rw [g5, h2, addP_new hF (by omega)]
                  · dsimp only
                    have hm : ([] : List LineS).length + 1 = (([] : List LineS) ++ [(⟨((t.take i).drop a), a, []⟩ : LineS)]).length := by simp
                    refine to_trans (to_sub (e' := [(0, .str t), (2, .own 0 (ptrV b2)), (3, .own 1 (ptrV b3)), (4, .int .i64 ((i + 2 : Nat) : Int)), (5, .int .i64 ((i + 2 : Nat) : Int))]) (h' := [.cells b2 (some 25) [.own 2 (.slice (some ⟨bv, 0, none⟩) (([] : List LineS).length + 1) vc)], .cells b3 (some 28) [.int .i64 0, .int .i64 (-1)], .row (.slice (some ⟨bv, 0, none⟩) (([] : List LineS).length + 1) vc) none 3 (([] : List LineS).length + 1) (linesC ([] : List LineS) ++ ([.str ((t.take i).drop a), .int .i64 a, .raw (.slice none 0 0)] : List AVal))]) ⟨rfl, rfl, rfl, congrArg (fun z => some (AVal.int .i64 z)) (by omega), congrArg (fun z => some (AVal.int .i64 z)) (by omega), trivial⟩ (by rw [linesC_nil]; exact List.Sublist.cons_cons _ (List.Sublist.cons_cons _ (List.Sublist.cons_cons _ (List.nil_sublist _))))) (to_trans (to_refnew hm) (by rw [← hm]; exact to_refl))
              · have hF : isFold ((t.take i).drop a) = false := by first | exact isFold_n0 (by assumption) | exact isFold_n (by assumption) (by assumption)
                obtain ⟨bv, rfl, rfl⟩ := hva (by simp)
                repeat' (first
                  | (conv => whnf); first
                    | (apply ch_l; apply sp_i; first | exact rfl | omega | exact ⟨rfl, rfl, by omega⟩ | exact ⟨rfl, by omega⟩ | exact ⟨rfl, by omega, by omega, by omega⟩ | exact ⟨⟨_, rfl⟩, by omega⟩ | exact ⟨⟨_, rfl⟩, by omega, by omega⟩ | assumption | decide | (simp only [List.length_drop, List.length_take, List.length_append, List.length_set, List.length_cons, List.length_nil, OrOk] at *; omega) | (simp; omega))
                    | (apply sp_i; first | exact rfl | omega | exact ⟨rfl, rfl, by omega⟩ | exact ⟨rfl, by omega⟩ | exact ⟨rfl, by omega, by omega, by omega⟩ | exact ⟨⟨_, rfl⟩, by omega⟩ | exact ⟨⟨_, rfl⟩, by omega, by omega⟩ | assumption | decide | (simp only [List.length_drop, List.length_take, List.length_append, List.length_set, List.length_cons, List.length_nil, OrOk] at *; omega) | (simp; omega))
                    | (apply sc_true) | (apply sc_false)
                    | (first | apply sc_lt | apply sc_nlt | apply sc_eq | apply sc_neq | apply sc_nil | apply sc_nnil | apply sc_seq | apply sc_nseq); all_goals (intro hb; try (first | (exfalso; omega) | exact absurd rfl hb | exact absurd hb (by decide) | exact absurd hb (by assumption) | exact absurd (by assumption) hb | (exfalso; simp only [List.length_cons, List.length_nil, List.length_append] at hb; omega)))
                    | (apply sc_not) | (apply sc_or) | (apply sc_i; all_goals intro hb)
                    | (first | apply ix_nat | apply ix_int); first | omega | (simp only [List.length_drop, List.length_take, List.length_append, List.length_set, List.length_cons, List.length_nil] at *; omega)
                    | (apply bx_i; intro hbd) | (apply gt_i; assumption; exact rfl)
                    | (first | apply sd_nat | apply sd_int | apply sl_nat | apply sl_int); first | omega | (simp only [List.length_drop, List.length_take, List.length_append, List.length_set, List.length_cons, List.length_nil] at *; omega)
                    | (apply cx_is; first | fail) | (apply cx_do (i := 0) rfl; first | fail)
                    | (apply ab_i; intro bl) | (apply as_i; intro va vk vc hva) | (apply av_i; intro v) | (apply ac_i; intro bl cap hcap)
                    | (apply bo_l) | (apply ch_r; apply sp_i; assumption) | (apply ch_r; apply sp_i; intro i hi; exact ⟨rfl, rfl, rfl⟩) | (apply nx_i; all_goals intro hnx)
                    | (apply Ia.hit; assumption) | (apply Ia.miss; assumption)
                    | (apply rt_is; exact rfl) | (apply rt_do; exact rfl; (repeat (first | exact List.nil_sublist _ | apply List.Sublist.cons_cons))) | (apply iv; assumption)
                    | (exact True.intro) | (apply bc_i; intro C hC) | (apply bt_i) | (apply og_n) | (apply og_a; exact rfl))
                all_goals (try conv => whnf)
                refine sp_i ⟨⟨_, rfl⟩, show (((([] : List LineS).length + 1 : Nat) : Int) - 1).toNat * 3 + 3 ≤ (([] : List LineS).length + 1) * 3 by omega, by omega⟩ ?_
                refine gs_i (c := [.str ((t.take i).drop a), .int .i64 a, .raw (.slice none 0 0)]) rfl ?_
                repeat' (first
                  | (conv => whnf); first
                    | (apply ch_l; apply sp_i; first | exact rfl | omega | exact ⟨rfl, rfl, by omega⟩ | exact ⟨rfl, by omega⟩ | exact ⟨rfl, by omega, by omega, by omega⟩ | exact ⟨⟨_, rfl⟩, by omega⟩ | exact ⟨⟨_, rfl⟩, by omega, by omega⟩ | assumption | decide | (simp only [List.length_drop, List.length_take, List.length_append, List.length_set, List.length_cons, List.length_nil, OrOk] at *; omega) | (simp; omega))
                    | (apply sp_i; first | exact rfl | omega | exact ⟨rfl, rfl, by omega⟩ | exact ⟨rfl, by omega⟩ | exact ⟨rfl, by omega, by omega, by omega⟩ | exact ⟨⟨_, rfl⟩, by omega⟩ | exact ⟨⟨_, rfl⟩, by omega, by omega⟩ | assumption | decide | (simp only [List.length_drop, List.length_take, List.length_append, List.length_set, List.length_cons, List.length_nil, OrOk] at *; omega) | (simp; omega))
                    | (apply sc_true) | (apply sc_false)
                    | (first | apply sc_lt | apply sc_nlt | apply sc_eq | apply sc_neq | apply sc_nil | apply sc_nnil | apply sc_seq | apply sc_nseq); all_goals (intro hb; try (first | (exfalso; omega) | exact absurd rfl hb | exact absurd hb (by decide) | exact absurd hb (by assumption) | exact absurd (by assumption) hb | (exfalso; simp only [List.length_cons, List.length_nil, List.length_append] at hb; omega)))
                    | (apply sc_not) | (apply sc_or) | (apply sc_i; all_goals intro hb)
                    | (first | apply ix_nat | apply ix_int); first | omega | (simp only [List.length_drop, List.length_take, List.length_append, List.length_set, List.length_cons, List.length_nil] at *; omega)
                    | (apply bx_i; intro hbd) | (apply gt_i; assumption; exact rfl)
                    | (first | apply sd_nat | apply sd_int | apply sl_nat | apply sl_int); first | omega | (simp only [List.length_drop, List.length_take, List.length_append, List.length_set, List.length_cons, List.length_nil] at *; omega)
                    | (apply cx_is; first | fail) | (apply cx_do (i := 0) rfl; first | fail)
                    | (apply ab_i; intro bl) | (apply as_i; intro va vk vc hva) | (apply av_i; intro v) | (apply ac_i; intro bl cap hcap)
                    | (apply bo_l) | (apply ch_r; apply sp_i; assumption) | (apply ch_r; apply sp_i; intro i hi; exact ⟨rfl, rfl, rfl⟩) | (apply nx_i; all_goals intro hnx)
                    | (apply Ia.hit; assumption) | (apply Ia.miss; assumption)
                    | (apply rt_is; exact rfl) | (apply rt_do; exact rfl; (repeat (first | exact List.nil_sublist _ | apply List.Sublist.cons_cons))) | (apply iv; assumption)
                    | (exact True.intro) | (apply bc_i; intro C hC) | (apply bt_i) | (apply og_n) | (apply og_a; exact rfl))
                all_goals (try conv => whnf)
                · refine nxT (i + 2, i + 2, (([] : List LineS) ++ [(⟨((t.take i).drop a), a, []⟩ : LineS)]), bv, vc) ⟨Nat.le_refl _, by dsimp only; omega, fun _ => by dsimp only; omega, by simp only [List.length_append, List.length_cons, List.length_nil]; omega, ?_, fun j h1 h2 => by dsimp only at h1 h2; omega, fun l h => by have e : (⟨((t.take i).drop a), a, []⟩ : LineS) = l := (by simpa using h); subst e; exact ⟨by show (((t.take i).drop a)).length ≤ i + 2; omega, Nat.zero_le _⟩⟩ (by dsimp only; omega) ?_
                  · dsimp only
                    rw [g5, h2, addP_new hF (by omega)]
                  · dsimp only
                    have hm : ([] : List LineS).length + 1 = (([] : List LineS) ++ [(⟨((t.take i).drop a), a, []⟩ : LineS)]).length := by simp
                    refine to_trans (to_sub (e' := [(0, .str t), (2, .own 0 (ptrV b2)), (3, .own 1 (ptrV b3)), (4, .int .i64 ((i + 2 : Nat) : Int)), (5, .int .i64 ((i + 2 : Nat) : Int))]) (h' := [.cells b2 (some 25) [.own 2 (.slice (some ⟨bv, 0, none⟩) (([] : List LineS).length + 1) vc)], .cells b3 (some 28) [.int .i64 0, .int .i64 (-1)], .row (.slice (some ⟨bv, 0, none⟩) (([] : List LineS).length + 1) vc) none 3 (([] : List LineS).length + 1) (linesC ([] : List LineS) ++ ([.str ((t.take i).drop a), .int .i64 a, .raw (.slice none 0 0)] : List AVal))]) ⟨rfl, rfl, rfl, congrArg (fun z => some (AVal.int .i64 z)) (by omega), congrArg (fun z => some (AVal.int .i64 z)) (by omega), trivial⟩ (by rw [linesC_nil]; exact List.Sublist.cons_cons _ (List.Sublist.cons_cons _ (List.Sublist.cons_cons _ (List.nil_sublist _))))) (to_trans (to_refnew hm) (by rw [← hm]; exact to_refl))
            · rw [List.concat_eq_append] at *
              have hll : (I ++ [l]).length = I.length + 1 := by simp
              have hI3 := linesC_len I
              rw [linesC_snoc, hll]
              rw [hll] at g4
              obtain ⟨g8, g9⟩ := g7 l (by simp)
              have ra : RowAt (rowVal b cap (I.length + 1)) b (I.length + 1) := ⟨cap, rfl⟩
              repeat' (first
                | (conv => whnf); first
                  | (apply ch_l; apply sp_i; first | exact rfl | omega | exact ⟨rfl, rfl, by omega⟩ | exact ⟨rfl, by omega⟩ | exact ⟨rfl, by omega, by omega, by omega⟩ | exact ⟨⟨_, rfl⟩, by omega⟩ | exact ⟨⟨_, rfl⟩, by omega, by omega⟩ | assumption | decide | (simp only [List.length_drop, List.length_take, List.length_append, List.length_set, List.length_cons, List.length_nil, OrOk] at *; omega) | (simp; omega))
                  | (apply sp_i; first | exact rfl | omega | exact ⟨rfl, rfl, by omega⟩ | exact ⟨rfl, by omega⟩ | exact ⟨rfl, by omega, by omega, by omega⟩ | exact ⟨⟨_, rfl⟩, by omega⟩ | exact ⟨⟨_, rfl⟩, by omega, by omega⟩ | assumption | decide | (simp only [List.length_drop, List.length_take, List.length_append, List.length_set, List.length_cons, List.length_nil, OrOk] at *; omega) | (simp; omega))
                  | (apply sc_true) | (apply sc_false)
                  | (first | apply sc_lt | apply sc_nlt | apply sc_eq | apply sc_neq | apply sc_nil | apply sc_nnil | apply sc_seq | apply sc_nseq); all_goals (intro hb; try (first | (exfalso; omega) | exact absurd rfl hb | exact absurd hb (by decide) | exact absurd hb (by assumption) | exact absurd (by assumption) hb | (exfalso; simp only [List.length_cons, List.length_nil, List.length_append] at hb; omega)))
                  | (apply sc_not) | (apply sc_or) | (apply sc_i; all_goals intro hb)
                  | (first | apply ix_nat | apply ix_int); first | omega | (simp only [List.length_drop, List.length_take, List.length_append, List.length_set, List.length_cons, List.length_nil] at *; omega)
                  | (apply bx_i; intro hbd) | (apply gt_i; assumption; exact rfl)
                  | (first | apply sd_nat | apply sd_int | apply sl_nat | apply sl_int); first | omega | (simp only [List.length_drop, List.length_take, List.length_append, List.length_set, List.length_cons, List.length_nil] at *; omega)
                  | (apply cx_is; first | fail) | (apply cx_do (i := 0) rfl; first | fail)
                  | (apply ab_i; intro bl) | (apply as_i; intro va vk vc hva) | (apply av_i; intro v) | (apply ac_i; intro bl cap hcap)
                  | (apply bo_l) | (apply ch_r; apply sp_i; assumption) | (apply ch_r; apply sp_i; intro i hi; exact ⟨rfl, rfl, rfl⟩) | (apply nx_i; all_goals intro hnx)
                  | (apply Ia.hit; assumption) | (apply Ia.miss; assumption)
                  | (apply rt_is; exact rfl) | (apply rt_do; exact rfl; (repeat (first | exact List.nil_sublist _ | apply List.Sublist.cons_cons))) | (apply iv; assumption)
                  | (exact True.intro) | (apply bc_i; intro C hC) | (apply bt_i) | (apply og_n) | (apply og_a; exact rfl))
              all_goals (try conv => whnf)
              iterate 2
                · have hF : isFold ((t.take i).drop a) = true := by first | exact isFold_y1 (by assumption) (by assumption) | exact isFold_y2 (by assumption) (by assumption)
                  refine sp_i ⟨ra, show (((I.length + 1 : Nat) : Int) - 1).toNat * 3 + 3 ≤ (I.length + 1) * 3 by omega, by omega⟩ ?_
                  refine gs_i (c := [.str l.t, .int .i64 l.a, .list 1 l.f.length (intsF l.f)]) (take3 hI3 (show (((I.length + 1 : Nat) : Int) - 1).toNat * 3 = I.length * 3 by omega)) ?_
                  repeat' (first
                    | (conv => whnf); first
                      | (apply ch_l; apply sp_i; first | exact rfl | omega | exact ⟨rfl, rfl, by omega⟩ | exact ⟨rfl, by omega⟩ | exact ⟨rfl, by omega, by omega, by omega⟩ | exact ⟨⟨_, rfl⟩, by omega⟩ | exact ⟨⟨_, rfl⟩, by omega, by omega⟩ | assumption | decide | (simp only [List.length_drop, List.length_take, List.length_append, List.length_set, List.length_cons, List.length_nil, OrOk] at *; omega) | (simp; omega))
                      | (apply sp_i; first | exact rfl | omega | exact ⟨rfl, rfl, by omega⟩ | exact ⟨rfl, by omega⟩ | exact ⟨rfl, by omega, by omega, by omega⟩ | exact ⟨⟨_, rfl⟩, by omega⟩ | exact ⟨⟨_, rfl⟩, by omega, by omega⟩ | assumption | decide | (simp only [List.length_drop, List.length_take, List.length_append, List.length_set, List.length_cons, List.length_nil, OrOk] at *; omega) | (simp; omega))
                      | (apply sc_true) | (apply sc_false)
                      | (first | apply sc_lt | apply sc_nlt | apply sc_eq | apply sc_neq | apply sc_nil | apply sc_nnil | apply sc_seq | apply sc_nseq); all_goals (intro hb; try (first | (exfalso; omega) | exact absurd rfl hb | exact absurd hb (by decide) | exact absurd hb (by assumption) | exact absurd (by assumption) hb | (exfalso; simp only [List.length_cons, List.length_nil, List.length_append] at hb; omega)))
                      | (apply sc_not) | (apply sc_or) | (apply sc_i; all_goals intro hb)
                      | (first | apply ix_nat | apply ix_int); first | omega | (simp only [List.length_drop, List.length_take, List.length_append, List.length_set, List.length_cons, List.length_nil] at *; omega)
                      | (apply bx_i; intro hbd) | (apply gt_i; assumption; exact rfl)
                      | (first | apply sd_nat | apply sd_int | apply sl_nat | apply sl_int); first | omega | (simp only [List.length_drop, List.length_take, List.length_append, List.length_set, List.length_cons, List.length_nil] at *; omega)
                      | (apply cx_is; first | fail) | (apply cx_do (i := 0) rfl; first | fail)
                      | (apply ab_i; intro bl) | (apply as_i; intro va vk vc hva) | (apply av_i; intro v) | (apply ac_i; intro bl cap hcap)
                      | (apply bo_l) | (apply ch_r; apply sp_i; assumption) | (apply ch_r; apply sp_i; intro i hi; exact ⟨rfl, rfl, rfl⟩) | (apply nx_i; all_goals intro hnx)
                      | (apply Ia.hit; assumption) | (apply Ia.miss; assumption)
                      | (apply rt_is; exact rfl) | (apply rt_do; exact rfl; (repeat (first | exact List.nil_sublist _ | apply List.Sublist.cons_cons))) | (apply iv; assumption)
                      | (exact True.intro) | (apply bc_i; intro C hC) | (apply bt_i) | (apply og_n) | (apply og_a; exact rfl))
                  all_goals (try conv => whnf)
                  have rb : RowAt (rowVal b cap (I.length + 1)) b (I.length + 1) ∧ (((I.length + 1 : Nat) : Int) - 1).toNat * 3 + 3 ≤ (I.length + 1) * 3 ∧ 0 < I.length + 1 := ⟨ra, by omega, by omega⟩
                  have hsrc := ints_src l.f
                  have hdl : (((t.take i).drop a).drop 1).length = i - a - 1 := by rw [List.length_drop, hpl]
                  refine dw_to (e' := [(0, .str t), (2, .own 0 (ptrV b2)), (3, .own 1 (ptrV b3)), (4, .int .i64 a), (5, .int .i64 i), (6, .str ((t.take i).drop a)), (7, .own 3 (ptrV bl))]) (to_sub ⟨rfl, rfl, rfl, rfl, rfl, rfl, rfl, trivial⟩ (List.Sublist.refl _)) ?_
                  refine dw_p mixed hC hGL false (fun (_ : Option Addr × Nat × Nat) => [(0, .str t), (2, .own 0 (ptrV b2)), (3, .own 1 (ptrV b3)), (4, .int .i64 a), (5, .int .i64 i), (6, .str ((t.take i).drop a)), (7, .own 3 (ptrV bl))]) (fun y => [.cells b2 (some 25) [.own 2 (rowVal b cap (I.length + 1))], .cells b3 (some 28) [.int .i64 0, .int .i64 (-1)], .row (rowVal b cap (I.length + 1)) none 3 (I.length + 1) (refL I l), .cells bl (some 39) [.str l.t, .int .i64 l.a, .own 4 (.slice y.1 y.2.1 y.2.2)], .row (.slice y.1 y.2.1 y.2.2) none 1 (l.f.length + 1) (rowCells l.f.length (intsF l.f) ++ [.int .i64 l.t.length])]) (.take 0 (.take 3 (.br 1 (.br 2 (.br 4 (.br 5 (.br 6 (.br 7 (.take 8 (.br 9 (.done) (.nil))) (.nil)) (.nil)) (.nil)) (.nil)) (.br 4 (.br 2 (.br 5 (.br 6 (.br 7 (.take 8 (.br 9 (.done) (.nil))) (.nil)) (.nil)) (.nil)) (.br 5 (.br 2 (.br 6 (.br 7 (.take 8 (.br 9 (.done) (.nil))) (.nil)) (.nil)) (.br 6 (.br 2 (.br 7 (.take 8 (.br 9 (.done) (.nil))) (.nil)) (.nil)) (.nil))) (.nil))) (.nil))) (.br 4 (.br 1 (.br 2 (.br 5 (.br 6 (.br 7 (.take 8 (.br 9 (.done) (.nil))) (.nil)) (.nil)) (.nil)) (.br 5 (.br 2 (.br 6 (.br 7 (.take 8 (.br 9 (.done) (.nil))) (.nil)) (.nil)) (.br 6 (.br 2 (.br 7 (.take 8 (.br 9 (.done) (.nil))) (.nil)) (.nil)) (.nil))) (.nil))) (.br 5 (.br 1 (.br 2 (.br 6 (.br 7 (.take 8 (.br 9 (.done) (.nil))) (.nil)) (.nil)) (.br 6 (.br 2 (.br 7 (.take 8 (.br 9 (.done) (.nil))) (.nil)) (.nil)) (.nil))) (.br 6 (.br 1 (.br 2 (.br 7 (.take 8 (.br 9 (.done) (.nil))) (.nil)) (.nil)) (.nil)) (.nil))) (.nil))) (.nil))))) (by kernel_rfl) ?_ ?_
                  · repeat' (first
                      | (conv => whnf); first
                        | (apply ch_l; apply sp_i; first | exact rfl | omega | exact ⟨rfl, rfl, by omega⟩ | exact ⟨rfl, by omega⟩ | exact ⟨rfl, by omega, by omega, by omega⟩ | exact ⟨⟨_, rfl⟩, by omega⟩ | exact ⟨⟨_, rfl⟩, by omega, by omega⟩ | assumption | decide | (simp only [List.length_drop, List.length_take, List.length_append, List.length_set, List.length_cons, List.length_nil, OrOk] at *; omega) | (simp; omega))
                        | (apply sp_i; first | exact rfl | omega | exact ⟨rfl, rfl, by omega⟩ | exact ⟨rfl, by omega⟩ | exact ⟨rfl, by omega, by omega, by omega⟩ | exact ⟨⟨_, rfl⟩, by omega⟩ | exact ⟨⟨_, rfl⟩, by omega, by omega⟩ | assumption | decide | (simp only [List.length_drop, List.length_take, List.length_append, List.length_set, List.length_cons, List.length_nil, OrOk] at *; omega) | (simp; omega))
                        | (apply sc_true) | (apply sc_false)
                        | (first | apply sc_lt | apply sc_nlt | apply sc_eq | apply sc_neq | apply sc_nil | apply sc_nnil | apply sc_seq | apply sc_nseq); all_goals (intro hb; try (first | (exfalso; omega) | exact absurd rfl hb | exact absurd hb (by decide) | exact absurd hb (by assumption) | exact absurd (by assumption) hb | (exfalso; simp only [List.length_cons, List.length_nil, List.length_append] at hb; omega)))
                        | (apply sc_not) | (apply sc_or) | (apply sc_i; all_goals intro hb)
                        | (first | apply ix_nat | apply ix_int); first | omega | (simp only [List.length_drop, List.length_take, List.length_append, List.length_set, List.length_cons, List.length_nil] at *; omega)
                        | (apply bx_i; intro hbd) | (apply gt_i; assumption; exact rfl)
                        | (first | apply sd_nat | apply sd_int | apply sl_nat | apply sl_int); first | omega | (simp only [List.length_drop, List.length_take, List.length_append, List.length_set, List.length_cons, List.length_nil] at *; omega)
                        | (apply cx_is; first | fail) | (apply cx_do (i := 0) rfl; first | fail)
                        | (apply ab_i; intro bl) | (apply as_i; intro va vk vc hva) | (apply av_i; intro v) | (apply ac_i; intro bl cap hcap)
                        | (apply bo_l) | (apply ch_r; apply sp_i; assumption) | (apply ch_r; apply sp_i; intro i hi; exact ⟨rfl, rfl, rfl⟩) | (apply nx_i; all_goals intro hnx)
                        | (apply Ia.hit; assumption) | (apply Ia.miss; assumption)
                        | (apply rt_is; exact rfl) | (apply rt_do; exact rfl; (repeat (first | exact List.nil_sublist _ | apply List.Sublist.cons_cons))) | (apply iv; assumption)
                        | (exact True.intro) | (apply bc_i; intro C hC) | (apply bt_i) | (apply og_n) | (apply og_a; exact rfl))
                    all_goals (try conv => whnf)
                    all_goals exact ⟨(_, _, _), ⟨rfl, rfl, rfl, rfl, rfl, rfl, rfl, trivial⟩, rfl⟩
                  · rintro ⟨va, vk, vc⟩
                    dsimp only
                    repeat' (first
                      | (conv => whnf); first
                        | (apply ch_l; apply sp_i; first | exact rfl | omega | exact ⟨rfl, rfl, by omega⟩ | exact ⟨rfl, by omega⟩ | exact ⟨rfl, by omega, by omega, by omega⟩ | exact ⟨⟨_, rfl⟩, by omega⟩ | exact ⟨⟨_, rfl⟩, by omega, by omega⟩ | assumption | decide | (simp only [List.length_drop, List.length_take, List.length_append, List.length_set, List.length_cons, List.length_nil, OrOk] at *; omega) | (simp; omega))
                        | (apply sp_i; first | exact rfl | omega | exact ⟨rfl, rfl, by omega⟩ | exact ⟨rfl, by omega⟩ | exact ⟨rfl, by omega, by omega, by omega⟩ | exact ⟨⟨_, rfl⟩, by omega⟩ | exact ⟨⟨_, rfl⟩, by omega, by omega⟩ | assumption | decide | (simp only [List.length_drop, List.length_take, List.length_append, List.length_set, List.length_cons, List.length_nil, OrOk] at *; omega) | (simp; omega))
                        | (apply sc_true) | (apply sc_false)
                        | (first | apply sc_lt | apply sc_nlt | apply sc_eq | apply sc_neq | apply sc_nil | apply sc_nnil | apply sc_seq | apply sc_nseq); all_goals (intro hb; try (first | (exfalso; omega) | exact absurd rfl hb | exact absurd hb (by decide) | exact absurd hb (by assumption) | exact absurd (by assumption) hb | (exfalso; simp only [List.length_cons, List.length_nil, List.length_append] at hb; omega)))
                        | (apply sc_not) | (apply sc_or) | (apply sc_i; all_goals intro hb)
                        | (first | apply ix_nat | apply ix_int); first | omega | (simp only [List.length_drop, List.length_take, List.length_append, List.length_set, List.length_cons, List.length_nil] at *; omega)
                        | (apply bx_i; intro hbd) | (apply gt_i; assumption; exact rfl)
                        | (first | apply sd_nat | apply sd_int | apply sl_nat | apply sl_int); first | omega | (simp only [List.length_drop, List.length_take, List.length_append, List.length_set, List.length_cons, List.length_nil] at *; omega)
                        | (apply cx_is; first | fail) | (apply cx_do (i := 0) rfl; first | fail)
                        | (apply ab_i; intro bl) | (apply as_i; intro va vk vc hva) | (apply av_i; intro v) | (apply ac_i; intro bl cap hcap)
                        | (apply bo_l) | (apply ch_r; apply sp_i; assumption) | (apply ch_r; apply sp_i; intro i hi; exact ⟨rfl, rfl, rfl⟩) | (apply nx_i; all_goals intro hnx)
                        | (apply Ia.hit; assumption) | (apply Ia.miss; assumption)
                        | (apply rt_is; exact rfl) | (apply rt_do; exact rfl; (repeat (first | exact List.nil_sublist _ | apply List.Sublist.cons_cons))) | (apply iv; assumption)
                        | (exact True.intro) | (apply bc_i; intro C hC) | (apply bt_i) | (apply og_n) | (apply og_a; exact rfl))
                    all_goals (try conv => whnf)
                    refine dw_p mixed hC hGL false (fun (_ : Unit) => [(0, .str t), (2, .own 0 (ptrV b2)), (3, .own 1 (ptrV b3)), (4, .int .i64 a), (5, .int .i64 i), (6, .str ((t.take i).drop a)), (7, .own 3 (ptrV bl))]) (fun _ => [.cells b2 (some 25) [.own 2 (rowVal b cap (I.length + 1))], .cells b3 (some 28) [.int .i64 0, .int .i64 (-1)], .row (rowVal b cap (I.length + 1)) none 3 (I.length + 1) (refL I l), .cells bl (some 39) [.str (l.t ++ ((t.take i).drop a).drop 1), .int .i64 l.a, .own 4 (.slice va vk vc)], .row (.slice va vk vc) none 1 (l.f.length + 1) (rowCells l.f.length (intsF l.f) ++ [.int .i64 l.t.length])]) (.take 0 (.take 2 (.take 3 (.br 1 (.take 4 (.take 5 (.br 6 (.done) (.nil)))) (.nil))))) (by kernel_rfl) ?_ ?_
                    · repeat' (first
                        | (conv => whnf); first
                          | (apply ch_l; apply sp_i; first | exact rfl | omega | exact ⟨rfl, rfl, by omega⟩ | exact ⟨rfl, by omega⟩ | exact ⟨rfl, by omega, by omega, by omega⟩ | exact ⟨⟨_, rfl⟩, by omega⟩ | exact ⟨⟨_, rfl⟩, by omega, by omega⟩ | assumption | decide | (simp only [List.length_drop, List.length_take, List.length_append, List.length_set, List.length_cons, List.length_nil, OrOk] at *; omega) | (simp; omega))
                          | (apply sp_i; first | exact rfl | omega | exact ⟨rfl, rfl, by omega⟩ | exact ⟨rfl, by omega⟩ | exact ⟨rfl, by omega, by omega, by omega⟩ | exact ⟨⟨_, rfl⟩, by omega⟩ | exact ⟨⟨_, rfl⟩, by omega, by omega⟩ | assumption | decide | (simp only [List.length_drop, List.length_take, List.length_append, List.length_set, List.length_cons, List.length_nil, OrOk] at *; omega) | (simp; omega))
                          | (apply sc_true) | (apply sc_false)
                          | (first | apply sc_lt | apply sc_nlt | apply sc_eq | apply sc_neq | apply sc_nil | apply sc_nnil | apply sc_seq | apply sc_nseq); all_goals (intro hb; try (first | (exfalso; omega) | exact absurd rfl hb | exact absurd hb (by decide) | exact absurd hb (by assumption) | exact absurd (by assumption) hb | (exfalso; simp only [List.length_cons, List.length_nil, List.length_append] at hb; omega)))
                          | (apply sc_not) | (apply sc_or) | (apply sc_i; all_goals intro hb)
                          | (first | apply ix_nat | apply ix_int); first | omega | (simp only [List.length_drop, List.length_take, List.length_append, List.length_set, List.length_cons, List.length_nil] at *; omega)
                          | (apply bx_i; intro hbd) | (apply gt_i; assumption; exact rfl)
                          | (first | apply sd_nat | apply sd_int | apply sl_nat | apply sl_int); first | omega | (simp only [List.length_drop, List.length_take, List.length_append, List.length_set, List.length_cons, List.length_nil] at *; omega)
                          | (apply cx_is; first | fail) | (apply cx_do (i := 0) rfl; first | fail)
                          | (apply ab_i; intro bl) | (apply as_i; intro va vk vc hva) | (apply av_i; intro v) | (apply ac_i; intro bl cap hcap)
                          | (apply bo_l) | (apply ch_r; apply sp_i; assumption) | (apply ch_r; apply sp_i; intro i hi; exact ⟨rfl, rfl, rfl⟩) | (apply nx_i; all_goals intro hnx)
                          | (apply Ia.hit; assumption) | (apply Ia.miss; assumption)
                          | (apply rt_is; exact rfl) | (apply rt_do; exact rfl; (repeat (first | exact List.nil_sublist _ | apply List.Sublist.cons_cons))) | (apply iv; assumption)
                          | (exact True.intro) | (apply bc_i; intro C hC) | (apply bt_i) | (apply og_n) | (apply og_a; exact rfl))
                      all_goals (try conv => whnf)
                      all_goals exact ⟨(), ⟨rfl, rfl, rfl, rfl, rfl, rfl, rfl, trivial⟩, rfl⟩
                    · intro _
                      repeat' (first
                        | (conv => whnf); first
                          | (apply ch_l; apply sp_i; first | exact rfl | omega | exact ⟨rfl, rfl, by omega⟩ | exact ⟨rfl, by omega⟩ | exact ⟨rfl, by omega, by omega, by omega⟩ | exact ⟨⟨_, rfl⟩, by omega⟩ | exact ⟨⟨_, rfl⟩, by omega, by omega⟩ | assumption | decide | (simp only [List.length_drop, List.length_take, List.length_append, List.length_set, List.length_cons, List.length_nil, OrOk] at *; omega) | (simp; omega))
                          | (apply sp_i; first | exact rfl | omega | exact ⟨rfl, rfl, by omega⟩ | exact ⟨rfl, by omega⟩ | exact ⟨rfl, by omega, by omega, by omega⟩ | exact ⟨⟨_, rfl⟩, by omega⟩ | exact ⟨⟨_, rfl⟩, by omega, by omega⟩ | assumption | decide | (simp only [List.length_drop, List.length_take, List.length_append, List.length_set, List.length_cons, List.length_nil, OrOk] at *; omega) | (simp; omega))
                          | (apply sc_true) | (apply sc_false)
                          | (first | apply sc_lt | apply sc_nlt | apply sc_eq | apply sc_neq | apply sc_nil | apply sc_nnil | apply sc_seq | apply sc_nseq); all_goals (intro hb; try (first | (exfalso; omega) | exact absurd rfl hb | exact absurd hb (by decide) | exact absurd hb (by assumption) | exact absurd (by assumption) hb | (exfalso; simp only [List.length_cons, List.length_nil, List.length_append] at hb; omega)))
                          | (apply sc_not) | (apply sc_or) | (apply sc_i; all_goals intro hb)
                          | (first | apply ix_nat | apply ix_int); first | omega | (simp only [List.length_drop, List.length_take, List.length_append, List.length_set, List.length_cons, List.length_nil] at *; omega)
                          | (apply bx_i; intro hbd) | (apply gt_i; assumption; exact rfl)
                          | (first | apply sd_nat | apply sd_int | apply sl_nat | apply sl_int); first | omega | (simp only [List.length_drop, List.length_take, List.length_append, List.length_set, List.length_cons, List.length_nil] at *; omega)
                          | (apply cx_is; first | fail) | (apply cx_do (i := 0) rfl; first | fail)
                          | (apply ab_i; intro bl) | (apply as_i; intro va vk vc hva) | (apply av_i; intro v) | (apply ac_i; intro bl cap hcap)
                          | (apply bo_l) | (apply ch_r; apply sp_i; assumption) | (apply ch_r; apply sp_i; intro i hi; exact ⟨rfl, rfl, rfl⟩) | (apply nx_i; all_goals intro hnx)
                          | (apply Ia.hit; assumption) | (apply Ia.miss; assumption)
                          | (apply rt_is; exact rfl) | (apply rt_do; exact rfl; (repeat (first | exact List.nil_sublist _ | apply List.Sublist.cons_cons))) | (apply iv; assumption)
                          | (exact True.intro) | (apply bc_i; intro C hC) | (apply bt_i) | (apply og_n) | (apply og_a; exact rfl))
                      all_goals (try conv => whnf)
                      have hkk : ((((I.length + 1 : Nat) : Int) - 1).toNat * 3) = I.length * 3 := by omega
                      have hset := set3 (x := .str l.t) (y := .int .i64 l.a) (z := .list 1 l.f.length (intsF l.f)) (x' := .str (l.t ++ ((t.take i).drop a).drop 1)) (y' := .int .i64 l.a) (z' := .own 4 (.slice va vk vc)) hI3 hkk
                      refine gs_i (c := [.str (l.t ++ ((t.take i).drop a).drop 1), .int .i64 l.a, .own 4 (.slice va vk vc)]) (by show (((refL I l).take ((((I.length + 1 : Nat) : Int) - 1).toNat * 3) ++ ([.str (l.t ++ ((t.take i).drop a).drop 1), .int .i64 l.a, .own 4 (.slice va vk vc)] : List AVal) ++ (refL I l).drop (((((I.length + 1 : Nat) : Int) - 1).toNat * 3) + 3)).drop ((((I.length + 1 : Nat) : Int) - 1).toNat * 3)).take 3 = _; rw [hset]; exact take3 hI3 hkk) ?_
                      have hal : (l.t ++ ((t.take i).drop a).drop 1).length = l.t.length + (i - a - 1) := by rw [List.length_append, hdl]
                      repeat' (first
                        | (conv => whnf); first
                          | (apply ch_l; apply sp_i; first | exact rfl | omega | exact ⟨rfl, rfl, by omega⟩ | exact ⟨rfl, by omega⟩ | exact ⟨rfl, by omega, by omega, by omega⟩ | exact ⟨⟨_, rfl⟩, by omega⟩ | exact ⟨⟨_, rfl⟩, by omega, by omega⟩ | assumption | decide | (simp only [List.length_drop, List.length_take, List.length_append, List.length_set, List.length_cons, List.length_nil, OrOk] at *; omega) | (simp; omega))
                          | (apply sp_i; first | exact rfl | omega | exact ⟨rfl, rfl, by omega⟩ | exact ⟨rfl, by omega⟩ | exact ⟨rfl, by omega, by omega, by omega⟩ | exact ⟨⟨_, rfl⟩, by omega⟩ | exact ⟨⟨_, rfl⟩, by omega, by omega⟩ | assumption | decide | (simp only [List.length_drop, List.length_take, List.length_append, List.length_set, List.length_cons, List.length_nil, OrOk] at *; omega) | (simp; omega))
                          | (apply sc_true) | (apply sc_false)
                          | (first | apply sc_lt | apply sc_nlt | apply sc_eq | apply sc_neq | apply sc_nil | apply sc_nnil | apply sc_seq | apply sc_nseq); all_goals (intro hb; try (first | (exfalso; omega) | exact absurd rfl hb | exact absurd hb (by decide) | exact absurd hb (by assumption) | exact absurd (by assumption) hb | (exfalso; simp only [List.length_cons, List.length_nil, List.length_append] at hb; omega)))
                          | (apply sc_not) | (apply sc_or) | (apply sc_i; all_goals intro hb)
                          | (first | apply ix_nat | apply ix_int); first | omega | (simp only [List.length_drop, List.length_take, List.length_append, List.length_set, List.length_cons, List.length_nil] at *; omega)
                          | (apply bx_i; intro hbd) | (apply gt_i; assumption; exact rfl)
                          | (first | apply sd_nat | apply sd_int | apply sl_nat | apply sl_int); first | omega | (simp only [List.length_drop, List.length_take, List.length_append, List.length_set, List.length_cons, List.length_nil] at *; omega)
                          | (apply cx_is; first | fail) | (apply cx_do (i := 0) rfl; first | fail)
                          | (apply ab_i; intro bl) | (apply as_i; intro va vk vc hva) | (apply av_i; intro v) | (apply ac_i; intro bl cap hcap)
                          | (apply bo_l) | (apply ch_r; apply sp_i; assumption) | (apply ch_r; apply sp_i; intro i hi; exact ⟨rfl, rfl, rfl⟩) | (apply nx_i; all_goals intro hnx)
                          | (apply Ia.hit; assumption) | (apply Ia.miss; assumption)
                          | (apply rt_is; exact rfl) | (apply rt_do; exact rfl; (repeat (first | exact List.nil_sublist _ | apply List.Sublist.cons_cons))) | (apply iv; assumption)
                          | (exact True.intro) | (apply bc_i; intro C hC) | (apply bt_i) | (apply og_n) | (apply og_a; exact rfl))
                      all_goals (try conv => whnf)
                      · refine cx_panic (hT 4 l.a) ?_
                        (conv => whnf)
                        rw [hD]
                        exact lines_thrown rfl rfl (by decide) (.inl ⟨by rw [hE, h2, addP_fold_long hF (by omega)]; rfl, by rw [hL, h2, addP_fold_long hF (by omega)], rfl⟩)
                      · refine nxT (i + 2, i + 2, I ++ [(⟨(l.t ++ ((t.take i).drop a).drop 1), l.a, l.f ++ [(l.t.length : Int)]⟩ : LineS)], b, cap) ⟨Nat.le_refl _, by dsimp only; omega, fun _ => by dsimp only; omega, by simp only [List.length_append, List.length_cons, List.length_nil]; omega, ?_, fun j h1 h2 => by dsimp only at h1 h2; omega, fun l' h => by have e : (⟨(l.t ++ ((t.take i).drop a).drop 1), l.a, l.f ++ [(l.t.length : Int)]⟩ : LineS) = l' := (by simpa using h); subst e; exact ⟨by show (l.t ++ ((t.take i).drop a).drop 1).length ≤ i + 2; omega, by show (l.f ++ [(l.t.length : Int)]).length ≤ i + 2; rw [List.length_append, List.length_cons, List.length_nil]; omega⟩⟩ (by dsimp only; omega) ?_
                        · dsimp only
                          rw [g5, h2, addP_fold hF (by omega)]
                        · dsimp only
                          have hm : I.length + 1 = (I ++ [(⟨(l.t ++ ((t.take i).drop a).drop 1), l.a, l.f ++ [(l.t.length : Int)]⟩ : LineS)]).length := by simp
                          refine to_trans (to_sub (e' := [(0, .str t), (2, .own 0 (ptrV b2)), (3, .own 1 (ptrV b3)), (4, .int .i64 ((i + 2 : Nat) : Int)), (5, .int .i64 ((i + 2 : Nat) : Int))]) (h' := [.cells b2 (some 25) [.own 2 (rowVal b cap (I.length + 1))], .cells b3 (some 28) [.int .i64 0, .int .i64 (-1)], .row (rowVal b cap (I.length + 1)) none 3 (I.length + 1) ((refL I l).take ((((I.length + 1 : Nat) : Int) - 1).toNat * 3) ++ [.str (l.t ++ ((t.take i).drop a).drop 1), .int .i64 l.a, .own 4 (.slice va vk vc)] ++ (refL I l).drop (((((I.length + 1 : Nat) : Int) - 1).toNat * 3) + 3)), .row (.slice va vk vc) none 1 (l.f.length + 1) (rowCells l.f.length (intsF l.f) ++ [.int .i64 l.t.length])]) ⟨rfl, rfl, rfl, congrArg (fun z => some (AVal.int .i64 z)) (by omega), congrArg (fun z => some (AVal.int .i64 z)) (by omega), trivial⟩ (by exact List.Sublist.cons_cons _ (List.Sublist.cons_cons _ (List.Sublist.cons_cons _ (List.Sublist.cons _ (List.Sublist.cons_cons _ (List.nil_sublist _))))))) ?_
                          rw [hset, rowCells_ints, intsC_snoc, ← hm]
                          exact to_trans (to_reffold (by simp) hm) (by rw [← hm]; exact to_refl)
              · have hF : isFold ((t.take i).drop a) = false := by first | exact isFold_n0 (by assumption) | exact isFold_n (by assumption) (by assumption)
                obtain ⟨bv, rfl, rfl⟩ := hva (by simp)
                repeat' (first
                  | (conv => whnf); first
                    | (apply ch_l; apply sp_i; first | exact rfl | omega | exact ⟨rfl, rfl, by omega⟩ | exact ⟨rfl, by omega⟩ | exact ⟨rfl, by omega, by omega, by omega⟩ | exact ⟨⟨_, rfl⟩, by omega⟩ | exact ⟨⟨_, rfl⟩, by omega, by omega⟩ | assumption | decide | (simp only [List.length_drop, List.length_take, List.length_append, List.length_set, List.length_cons, List.length_nil, OrOk] at *; omega) | (simp; omega))
                    | (apply sp_i; first | exact rfl | omega | exact ⟨rfl, rfl, by omega⟩ | exact ⟨rfl, by omega⟩ | exact ⟨rfl, by omega, by omega, by omega⟩ | exact ⟨⟨_, rfl⟩, by omega⟩ | exact ⟨⟨_, rfl⟩, by omega, by omega⟩ | assumption | decide | (simp only [List.length_drop, List.length_take, List.length_append, List.length_set, List.length_cons, List.length_nil, OrOk] at *; omega) | (simp; omega))
                    | (apply sc_true) | (apply sc_false)
                    | (first | apply sc_lt | apply sc_nlt | apply sc_eq | apply sc_neq | apply sc_nil | apply sc_nnil | apply sc_seq | apply sc_nseq); all_goals (intro hb; try (first | (exfalso; omega) | exact absurd rfl hb | exact absurd hb (by decide) | exact absurd hb (by assumption) | exact absurd (by assumption) hb | (exfalso; simp only [List.length_cons, List.length_nil, List.length_append] at hb; omega)))
                    | (apply sc_not) | (apply sc_or) | (apply sc_i; all_goals intro hb)
                    | (first | apply ix_nat | apply ix_int); first | omega | (simp only [List.length_drop, List.length_take, List.length_append, List.length_set, List.length_cons, List.length_nil] at *; omega)
                    | (apply bx_i; intro hbd) | (apply gt_i; assumption; exact rfl)
                    | (first | apply sd_nat | apply sd_int | apply sl_nat | apply sl_int); first | omega | (simp only [List.length_drop, List.length_take, List.length_append, List.length_set, List.length_cons, List.length_nil] at *; omega)
                    | (apply cx_is; first | fail) | (apply cx_do (i := 0) rfl; first | fail)
                    | (apply ab_i; intro bl) | (apply as_i; intro va vk vc hva) | (apply av_i; intro v) | (apply ac_i; intro bl cap hcap)
                    | (apply bo_l) | (apply ch_r; apply sp_i; assumption) | (apply ch_r; apply sp_i; intro i hi; exact ⟨rfl, rfl, rfl⟩) | (apply nx_i; all_goals intro hnx)
                    | (apply Ia.hit; assumption) | (apply Ia.miss; assumption)
                    | (apply rt_is; exact rfl) | (apply rt_do; exact rfl; (repeat (first | exact List.nil_sublist _ | apply List.Sublist.cons_cons))) | (apply iv; assumption)
                    | (exact True.intro) | (apply bc_i; intro C hC) | (apply bt_i) | (apply og_n) | (apply og_a; exact rfl))
                all_goals (try conv => whnf)
                refine sp_i ⟨⟨_, rfl⟩, show ((((I.length + 1) + 1 : Nat) : Int) - 1).toNat * 3 + 3 ≤ ((I.length + 1) + 1) * 3 by omega, by omega⟩ ?_
                refine gs_i (c := [.str ((t.take i).drop a), .int .i64 a, .raw (.slice none 0 0)]) (take3 (A := refL I l) (N := (I.length + 1) * 3) (by simp only [List.length_append, hI3, List.length_cons, List.length_nil]; omega) (show (((I.length + 1 + 1 : Nat) : Int) - 1).toNat * 3 = (I.length + 1) * 3 by omega)) ?_
                repeat' (first
                  | (conv => whnf); first
                    | (apply ch_l; apply sp_i; first | exact rfl | omega | exact ⟨rfl, rfl, by omega⟩ | exact ⟨rfl, by omega⟩ | exact ⟨rfl, by omega, by omega, by omega⟩ | exact ⟨⟨_, rfl⟩, by omega⟩ | exact ⟨⟨_, rfl⟩, by omega, by omega⟩ | assumption | decide | (simp only [List.length_drop, List.length_take, List.length_append, List.length_set, List.length_cons, List.length_nil, OrOk] at *; omega) | (simp; omega))
                    | (apply sp_i; first | exact rfl | omega | exact ⟨rfl, rfl, by omega⟩ | exact ⟨rfl, by omega⟩ | exact ⟨rfl, by omega, by omega, by omega⟩ | exact ⟨⟨_, rfl⟩, by omega⟩ | exact ⟨⟨_, rfl⟩, by omega, by omega⟩ | assumption | decide | (simp only [List.length_drop, List.length_take, List.length_append, List.length_set, List.length_cons, List.length_nil, OrOk] at *; omega) | (simp; omega))
                    | (apply sc_true) | (apply sc_false)
                    | (first | apply sc_lt | apply sc_nlt | apply sc_eq | apply sc_neq | apply sc_nil | apply sc_nnil | apply sc_seq | apply sc_nseq); all_goals (intro hb; try (first | (exfalso; omega) | exact absurd rfl hb | exact absurd hb (by decide) | exact absurd hb (by assumption) | exact absurd (by assumption) hb | (exfalso; simp only [List.length_cons, List.length_nil, List.length_append] at hb; omega)))
                    | (apply sc_not) | (apply sc_or) | (apply sc_i; all_goals intro hb)
                    | (first | apply ix_nat | apply ix_int); first | omega | (simp only [List.length_drop, List.length_take, List.length_append, List.length_set, List.length_cons, List.length_nil] at *; omega)
                    | (apply bx_i; intro hbd) | (apply gt_i; assumption; exact rfl)
                    | (first | apply sd_nat | apply sd_int | apply sl_nat | apply sl_int); first | omega | (simp only [List.length_drop, List.length_take, List.length_append, List.length_set, List.length_cons, List.length_nil] at *; omega)
                    | (apply cx_is; first | fail) | (apply cx_do (i := 0) rfl; first | fail)
                    | (apply ab_i; intro bl) | (apply as_i; intro va vk vc hva) | (apply av_i; intro v) | (apply ac_i; intro bl cap hcap)
                    | (apply bo_l) | (apply ch_r; apply sp_i; assumption) | (apply ch_r; apply sp_i; intro i hi; exact ⟨rfl, rfl, rfl⟩) | (apply nx_i; all_goals intro hnx)
                    | (apply Ia.hit; assumption) | (apply Ia.miss; assumption)
                    | (apply rt_is; exact rfl) | (apply rt_do; exact rfl; (repeat (first | exact List.nil_sublist _ | apply List.Sublist.cons_cons))) | (apply iv; assumption)
                    | (exact True.intro) | (apply bc_i; intro C hC) | (apply bt_i) | (apply og_n) | (apply og_a; exact rfl))
                all_goals (try conv => whnf)
                · refine cx_panic (hT 4 a) ?_
                  (conv => whnf)
                  rw [hD]
                  exact lines_thrown rfl rfl (by decide) (.inl ⟨by rw [hE, h2, addP_long hF (by omega)]; rfl, by rw [hL, h2, addP_long hF (by omega)], rfl⟩)
                · refine nxT (i + 2, i + 2, ((I ++ [l]) ++ [(⟨((t.take i).drop a), a, []⟩ : LineS)]), bv, vc) ⟨Nat.le_refl _, by dsimp only; omega, fun _ => by dsimp only; omega, by simp only [List.length_append, List.length_cons, List.length_nil]; omega, ?_, fun j h1 h2 => by dsimp only at h1 h2; omega, fun l h => by have e : (⟨((t.take i).drop a), a, []⟩ : LineS) = l := (by simpa using h); subst e; exact ⟨by show (((t.take i).drop a)).length ≤ i + 2; omega, Nat.zero_le _⟩⟩ (by dsimp only; omega) ?_
                  · dsimp only
                    rw [g5, h2, addP_new hF (by omega)]
                  · dsimp only
                    have hm : (I.length + 1) + 1 = ((I ++ [l]) ++ [(⟨((t.take i).drop a), a, []⟩ : LineS)]).length := by simp
                    refine to_trans (to_sub (e' := [(0, .str t), (2, .own 0 (ptrV b2)), (3, .own 1 (ptrV b3)), (4, .int .i64 ((i + 2 : Nat) : Int)), (5, .int .i64 ((i + 2 : Nat) : Int))]) (h' := [.cells b2 (some 25) [.own 2 (.slice (some ⟨bv, 0, none⟩) ((I.length + 1) + 1) vc)], .cells b3 (some 28) [.int .i64 0, .int .i64 (-1)], .row (.slice (some ⟨bv, 0, none⟩) ((I.length + 1) + 1) vc) none 3 ((I.length + 1) + 1) (linesC (I ++ [l]) ++ ([.str ((t.take i).drop a), .int .i64 a, .raw (.slice none 0 0)] : List AVal))]) ⟨rfl, rfl, rfl, congrArg (fun z => some (AVal.int .i64 z)) (by omega), congrArg (fun z => some (AVal.int .i64 z)) (by omega), trivial⟩ (by rw [linesC_snoc]; exact List.Sublist.cons_cons _ (List.Sublist.cons_cons _ (List.Sublist.cons_cons _ (List.nil_sublist _))))) (to_trans (to_refnew hm) (by rw [← hm]; exact to_refl))
              · have hF : isFold ((t.take i).drop a) = false := by first | exact isFold_n0 (by assumption) | exact isFold_n (by assumption) (by assumption)
                obtain ⟨bv, rfl, rfl⟩ := hva (by simp)
                repeat' (first
                  | (conv => whnf); first
                    | (apply ch_l; apply sp_i; first | exact rfl | omega | exact ⟨rfl, rfl, by omega⟩ | exact ⟨rfl, by omega⟩ | exact ⟨rfl, by omega, by omega, by omega⟩ | exact ⟨⟨_, rfl⟩, by omega⟩ | exact ⟨⟨_, rfl⟩, by omega, by omega⟩ | assumption | decide | (simp only [List.length_drop, List.length_take, List.length_append, List.length_set, List.length_cons, List.length_nil, OrOk] at *; omega) | (simp; omega))
                    | (apply sp_i; first | exact rfl | omega | exact ⟨rfl, rfl, by omega⟩ | exact ⟨rfl, by omega⟩ | exact ⟨rfl, by omega, by omega, by omega⟩ | exact ⟨⟨_, rfl⟩, by omega⟩ | exact ⟨⟨_, rfl⟩, by omega, by omega⟩ | assumption | decide | (simp only [List.length_drop, List.length_take, List.length_append, List.length_set, List.length_cons, List.length_nil, OrOk] at *; omega) | (simp; omega))
                    | (apply sc_true) | (apply sc_false)
                    | (first | apply sc_lt | apply sc_nlt | apply sc_eq | apply sc_neq | apply sc_nil | apply sc_nnil | apply sc_seq | apply sc_nseq); all_goals (intro hb; try (first | (exfalso; omega) | exact absurd rfl hb | exact absurd hb (by decide) | exact absurd hb (by assumption) | exact absurd (by assumption) hb | (exfalso; simp only [List.length_cons, List.length_nil, List.length_append] at hb; omega)))
                    | (apply sc_not) | (apply sc_or) | (apply sc_i; all_goals intro hb)
                    | (first | apply ix_nat | apply ix_int); first | omega | (simp only [List.length_drop, List.length_take, List.length_append, List.length_set, List.length_cons, List.length_nil] at *; omega)
                    | (apply bx_i; intro hbd) | (apply gt_i; assumption; exact rfl)
                    | (first | apply sd_nat | apply sd_int | apply sl_nat | apply sl_int); first | omega | (simp only [List.length_drop, List.length_take, List.length_append, List.length_set, List.length_cons, List.length_nil] at *; omega)
                    | (apply cx_is; first | fail) | (apply cx_do (i := 0) rfl; first | fail)
                    | (apply ab_i; intro bl) | (apply as_i; intro va vk vc hva) | (apply av_i; intro v) | (apply ac_i; intro bl cap hcap)
                    | (apply bo_l) | (apply ch_r; apply sp_i; assumption) | (apply ch_r; apply sp_i; intro i hi; exact ⟨rfl, rfl, rfl⟩) | (apply nx_i; all_goals intro hnx)
                    | (apply Ia.hit; assumption) | (apply Ia.miss; assumption)
                    | (apply rt_is; exact rfl) | (apply rt_do; exact rfl; (repeat (first | exact List.nil_sublist _ | apply List.Sublist.cons_cons))) | (apply iv; assumption)
                    | (exact True.intro) | (apply bc_i; intro C hC) | (apply bt_i) | (apply og_n) | (apply og_a; exact rfl))
                all_goals (try conv => whnf)
                refine sp_i ⟨⟨_, rfl⟩, show ((((I.length + 1) + 1 : Nat) : Int) - 1).toNat * 3 + 3 ≤ ((I.length + 1) + 1) * 3 by omega, by omega⟩ ?_
                refine gs_i (c := [.str ((t.take i).drop a), .int .i64 a, .raw (.slice none 0 0)]) (take3 (A := refL I l) (N := (I.length + 1) * 3) (by simp only [List.length_append, hI3, List.length_cons, List.length_nil]; omega) (show (((I.length + 1 + 1 : Nat) : Int) - 1).toNat * 3 = (I.length + 1) * 3 by omega)) ?_
                repeat' (first
                  | (conv => whnf); first
                    | (apply ch_l; apply sp_i; first | exact rfl | omega | exact ⟨rfl, rfl, by omega⟩ | exact ⟨rfl, by omega⟩ | exact ⟨rfl, by omega, by omega, by omega⟩ | exact ⟨⟨_, rfl⟩, by omega⟩ | exact ⟨⟨_, rfl⟩, by omega, by omega⟩ | assumption | decide | (simp only [List.length_drop, List.length_take, List.length_append, List.length_set, List.length_cons, List.length_nil, OrOk] at *; omega) | (simp; omega))
                    | (apply sp_i; first | exact rfl | omega | exact ⟨rfl, rfl, by omega⟩ | exact ⟨rfl, by omega⟩ | exact ⟨rfl, by omega, by omega, by omega⟩ | exact ⟨⟨_, rfl⟩, by omega⟩ | exact ⟨⟨_, rfl⟩, by omega, by omega⟩ | assumption | decide | (simp only [List.length_drop, List.length_take, List.length_append, List.length_set, List.length_cons, List.length_nil, OrOk] at *; omega) | (simp; omega))
                    | (apply sc_true) | (apply sc_false)
                    | (first | apply sc_lt | apply sc_nlt | apply sc_eq | apply sc_neq | apply sc_nil | apply sc_nnil | apply sc_seq | apply sc_nseq); all_goals (intro hb; try (first | (exfalso; omega) | exact absurd rfl hb | exact absurd hb (by decide) | exact absurd hb (by assumption) | exact absurd (by assumption) hb | (exfalso; simp only [List.length_cons, List.length_nil, List.length_append] at hb; omega)))
                    | (apply sc_not) | (apply sc_or) | (apply sc_i; all_goals intro hb)
                    | (first | apply ix_nat | apply ix_int); first | omega | (simp only [List.length_drop, List.length_take, List.length_append, List.length_set, List.length_cons, List.length_nil] at *; omega)
                    | (apply bx_i; intro hbd) | (apply gt_i; assumption; exact rfl)
                    | (first | apply sd_nat | apply sd_int | apply sl_nat | apply sl_int); first | omega | (simp only [List.length_drop, List.length_take, List.length_append, List.length_set, List.length_cons, List.length_nil] at *; omega)
                    | (apply cx_is; first | fail) | (apply cx_do (i := 0) rfl; first | fail)
                    | (apply ab_i; intro bl) | (apply as_i; intro va vk vc hva) | (apply av_i; intro v) | (apply ac_i; intro bl cap hcap)
                    | (apply bo_l) | (apply ch_r; apply sp_i; assumption) | (apply ch_r; apply sp_i; intro i hi; exact ⟨rfl, rfl, rfl⟩) | (apply nx_i; all_goals intro hnx)
                    | (apply Ia.hit; assumption) | (apply Ia.miss; assumption)
                    | (apply rt_is; exact rfl) | (apply rt_do; exact rfl; (repeat (first | exact List.nil_sublist _ | apply List.Sublist.cons_cons))) | (apply iv; assumption)
                    | (exact True.intro) | (apply bc_i; intro C hC) | (apply bt_i) | (apply og_n) | (apply og_a; exact rfl))
                all_goals (try conv => whnf)
                · refine nxT (i + 2, i + 2, ((I ++ [l]) ++ [(⟨((t.take i).drop a), a, []⟩ : LineS)]), bv, vc) ⟨Nat.le_refl _, by dsimp only; omega, fun _ => by dsimp only; omega, by simp only [List.length_append, List.length_cons, List.length_nil]; omega, ?_, fun j h1 h2 => by dsimp only at h1 h2; omega, fun l h => by have e : (⟨((t.take i).drop a), a, []⟩ : LineS) = l := (by simpa using h); subst e; exact ⟨by show (((t.take i).drop a)).length ≤ i + 2; omega, Nat.zero_le _⟩⟩ (by dsimp only; omega) ?_
                  · dsimp only
                    rw [g5, h2, addP_new hF (by omega)]
                  · dsimp only
                    have hm : (I.length + 1) + 1 = ((I ++ [l]) ++ [(⟨((t.take i).drop a), a, []⟩ : LineS)]).length := by simp
                    refine to_trans (to_sub (e' := [(0, .str t), (2, .own 0 (ptrV b2)), (3, .own 1 (ptrV b3)), (4, .int .i64 ((i + 2 : Nat) : Int)), (5, .int .i64 ((i + 2 : Nat) : Int))]) (h' := [.cells b2 (some 25) [.own 2 (.slice (some ⟨bv, 0, none⟩) ((I.length + 1) + 1) vc)], .cells b3 (some 28) [.int .i64 0, .int .i64 (-1)], .row (.slice (some ⟨bv, 0, none⟩) ((I.length + 1) + 1) vc) none 3 ((I.length + 1) + 1) (linesC (I ++ [l]) ++ ([.str ((t.take i).drop a), .int .i64 a, .raw (.slice none 0 0)] : List AVal))]) ⟨rfl, rfl, rfl, congrArg (fun z => some (AVal.int .i64 z)) (by omega), congrArg (fun z => some (AVal.int .i64 z)) (by omega), trivial⟩ (by rw [linesC_snoc]; exact List.Sublist.cons_cons _ (List.Sublist.cons_cons _ (List.Sublist.cons_cons _ (List.nil_sublist _))))) (to_trans (to_refnew hm) (by rw [← hm]; exact to_refl))
        · repeat' (first
            | (conv => whnf); first
              | (apply ch_l; apply sp_i; first | exact rfl | omega | exact ⟨rfl, rfl, by omega⟩ | exact ⟨rfl, by omega⟩ | exact ⟨rfl, by omega, by omega, by omega⟩ | exact ⟨⟨_, rfl⟩, by omega⟩ | exact ⟨⟨_, rfl⟩, by omega, by omega⟩ | assumption | decide | (simp only [List.length_drop, List.length_take, List.length_append, List.length_set, List.length_cons, List.length_nil, OrOk] at *; omega) | (simp; omega))
              | (apply sp_i; first | exact rfl | omega | exact ⟨rfl, rfl, by omega⟩ | exact ⟨rfl, by omega⟩ | exact ⟨rfl, by omega, by omega, by omega⟩ | exact ⟨⟨_, rfl⟩, by omega⟩ | exact ⟨⟨_, rfl⟩, by omega, by omega⟩ | assumption | decide | (simp only [List.length_drop, List.length_take, List.length_append, List.length_set, List.length_cons, List.length_nil, OrOk] at *; omega) | (simp; omega))
              | (apply sc_true) | (apply sc_false)
              | (first | apply sc_lt | apply sc_nlt | apply sc_eq | apply sc_neq | apply sc_nil | apply sc_nnil | apply sc_seq | apply sc_nseq); all_goals (intro hb; try (first | (exfalso; omega) | exact absurd rfl hb | exact absurd hb (by decide) | exact absurd hb (by assumption) | exact absurd (by assumption) hb | (exfalso; simp only [List.length_cons, List.length_nil, List.length_append] at hb; omega)))
              | (apply sc_not) | (apply sc_or) | (apply sc_i; all_goals intro hb)
              | (first | apply ix_nat | apply ix_int); first | omega | (simp only [List.length_drop, List.length_take, List.length_append, List.length_set, List.length_cons, List.length_nil] at *; omega)
              | (apply bx_i; intro hbd) | (apply gt_i; assumption; exact rfl)
              | (first | apply sd_nat | apply sd_int | apply sl_nat | apply sl_int); first | omega | (simp only [List.length_drop, List.length_take, List.length_append, List.length_set, List.length_cons, List.length_nil] at *; omega)
              | (apply cx_is; first | fail) | (apply cx_do (i := 0) rfl; first | fail)
              | (apply ab_i; intro bl) | (apply as_i; intro va vk vc hva) | (apply av_i; intro v) | (apply ac_i; intro bl cap hcap)
              | (apply bo_l) | (apply ch_r; apply sp_i; assumption) | (apply ch_r; apply sp_i; intro i hi; exact ⟨rfl, rfl, rfl⟩) | (apply nx_i; all_goals intro hnx)
              | (apply Ia.hit; assumption) | (apply Ia.miss; assumption)
              | (apply rt_is; exact rfl) | (apply rt_do; exact rfl; (repeat (first | exact List.nil_sublist _ | apply List.Sublist.cons_cons))) | (apply iv; assumption)
              | (exact True.intro) | (apply bc_i; intro C hC) | (apply bt_i) | (apply og_n) | (apply og_a; exact rfl))
          all_goals (try conv => whnf)
          refine nxT (i + 1, a, L, b, cap) ⟨by dsimp only; omega, by dsimp only; omega, fun _ => by dsimp only; omega, g4, g5, fun j h1 h2 => ?_, g7⟩ (by dsimp only; omega) (to_sub ⟨rfl, rfl, rfl, rfl, rfl, trivial⟩ (List.Sublist.refl _))
          by_cases e : j = i
          · subst e; omega
          · exact g6 j h1 (by omega)
    · have h1 := lines_end (L := L) ha
      repeat' (first
        | (conv => whnf); first
          | (apply ch_l; apply sp_i; first | exact rfl | omega | exact ⟨rfl, rfl, by omega⟩ | exact ⟨rfl, by omega⟩ | exact ⟨rfl, by omega, by omega, by omega⟩ | exact ⟨⟨_, rfl⟩, by omega⟩ | exact ⟨⟨_, rfl⟩, by omega, by omega⟩ | assumption | decide | (simp only [List.length_drop, List.length_take, List.length_append, List.length_set, List.length_cons, List.length_nil, OrOk] at *; omega) | (simp; omega))
          | (apply sp_i; first | exact rfl | omega | exact ⟨rfl, rfl, by omega⟩ | exact ⟨rfl, by omega⟩ | exact ⟨rfl, by omega, by omega, by omega⟩ | exact ⟨⟨_, rfl⟩, by omega⟩ | exact ⟨⟨_, rfl⟩, by omega, by omega⟩ | assumption | decide | (simp only [List.length_drop, List.length_take, List.length_append, List.length_set, List.length_cons, List.length_nil, OrOk] at *; omega) | (simp; omega))
          | (apply sc_true) | (apply sc_false)
          | (first | apply sc_lt | apply sc_nlt | apply sc_eq | apply sc_neq | apply sc_nil | apply sc_nnil | apply sc_seq | apply sc_nseq); all_goals (intro hb; try (first | (exfalso; omega) | exact absurd rfl hb | exact absurd hb (by decide) | exact absurd hb (by assumption) | exact absurd (by assumption) hb | (exfalso; simp only [List.length_cons, List.length_nil, List.length_append] at hb; omega)))
          | (apply sc_not) | (apply sc_or) | (apply sc_i; all_goals intro hb)
          | (first | apply ix_nat | apply ix_int); first | omega | (simp only [List.length_drop, List.length_take, List.length_append, List.length_set, List.length_cons, List.length_nil] at *; omega)
          | (apply bx_i; intro hbd) | (apply gt_i; assumption; exact rfl)
          | (first | apply sd_nat | apply sd_int | apply sl_nat | apply sl_int); first | omega | (simp only [List.length_drop, List.length_take, List.length_append, List.length_set, List.length_cons, List.length_nil] at *; omega)
          | (apply cx_is; first | fail) | (apply cx_do (i := 0) rfl; first | fail)
          | (apply ab_i; intro bl) | (apply as_i; intro va vk vc hva) | (apply av_i; intro v) | (apply ac_i; intro bl cap hcap)
          | (apply bo_l) | (apply ch_r; apply sp_i; assumption) | (apply ch_r; apply sp_i; intro i hi; exact ⟨rfl, rfl, rfl⟩) | (apply nx_i; all_goals intro hnx)
          | (apply Ia.hit; assumption) | (apply Ia.miss; assumption)
          | (apply rt_is; exact rfl) | (apply rt_do; exact rfl; (repeat (first | exact List.nil_sublist _ | apply List.Sublist.cons_cons))) | (apply iv; assumption)
          | (exact True.intro) | (apply bc_i; intro C hC) | (apply bt_i) | (apply og_n) | (apply og_a; exact rfl))
      all_goals (try conv => whnf)
      refine dw_p mixed hC hGL false (fun (_ : Unit) => [(0, .str t), (2, .own 0 (ptrV b2)), (3, .own 1 (ptrV b3))]) (fun _ => [.cells b2 (some 25) [.own 2 (rowVal b cap L.length)], .cells b3 (some 28) [.int .i64 0, .int .i64 (-1)], .row (rowVal b cap L.length) none 3 L.length (linesC L)]) (.br 0 (.br 1 (.br 2 (.br 3 (.done) (.nil)) (.nil)) (.br 2 (.br 1 (.br 3 (.done) (.nil)) (.nil)) (.nil))) (.br 1 (.br 0 (.br 2 (.br 3 (.done) (.nil)) (.nil)) (.nil)) (.nil))) (by kernel_rfl) ?_ ?_
      · repeat' (first
          | (conv => whnf); first
            | (apply ch_l; apply sp_i; first | exact rfl | omega | exact ⟨rfl, rfl, by omega⟩ | exact ⟨rfl, by omega⟩ | exact ⟨rfl, by omega, by omega, by omega⟩ | exact ⟨⟨_, rfl⟩, by omega⟩ | exact ⟨⟨_, rfl⟩, by omega, by omega⟩ | assumption | decide | (simp only [List.length_drop, List.length_take, List.length_append, List.length_set, List.length_cons, List.length_nil, OrOk] at *; omega) | (simp; omega))
            | (apply sp_i; first | exact rfl | omega | exact ⟨rfl, rfl, by omega⟩ | exact ⟨rfl, by omega⟩ | exact ⟨rfl, by omega, by omega, by omega⟩ | exact ⟨⟨_, rfl⟩, by omega⟩ | exact ⟨⟨_, rfl⟩, by omega, by omega⟩ | assumption | decide | (simp only [List.length_drop, List.length_take, List.length_append, List.length_set, List.length_cons, List.length_nil, OrOk] at *; omega) | (simp; omega))
            | (apply sc_true) | (apply sc_false)
            | (first | apply sc_lt | apply sc_nlt | apply sc_eq | apply sc_neq | apply sc_nil | apply sc_nnil | apply sc_seq | apply sc_nseq); all_goals (intro hb; try (first | (exfalso; omega) | exact absurd rfl hb | exact absurd hb (by decide) | exact absurd hb (by assumption) | exact absurd (by assumption) hb | (exfalso; simp only [List.length_cons, List.length_nil, List.length_append] at hb; omega)))
            | (apply sc_not) | (apply sc_or) | (apply sc_i; all_goals intro hb)
            | (first | apply ix_nat | apply ix_int); first | omega | (simp only [List.length_drop, List.length_take, List.length_append, List.length_set, List.length_cons, List.length_nil] at *; omega)
            | (apply bx_i; intro hbd) | (apply gt_i; assumption; exact rfl)
            | (first | apply sd_nat | apply sd_int | apply sl_nat | apply sl_int); first | omega | (simp only [List.length_drop, List.length_take, List.length_append, List.length_set, List.length_cons, List.length_nil] at *; omega)
            | (apply cx_is; first | fail) | (apply cx_do (i := 0) rfl; first | fail)
            | (apply ab_i; intro bl) | (apply as_i; intro va vk vc hva) | (apply av_i; intro v) | (apply ac_i; intro bl cap hcap)
            | (apply bo_l) | (apply ch_r; apply sp_i; assumption) | (apply ch_r; apply sp_i; intro i hi; exact ⟨rfl, rfl, rfl⟩) | (apply nx_i; all_goals intro hnx)
            | (apply Ia.hit; assumption) | (apply Ia.miss; assumption)
            | (apply rt_is; exact rfl) | (apply rt_do; exact rfl; (repeat (first | exact List.nil_sublist _ | apply List.Sublist.cons_cons))) | (apply iv; assumption)
            | (exact True.intro) | (apply bc_i; intro C hC) | (apply bt_i) | (apply og_n) | (apply og_a; exact rfl))
        all_goals (try conv => whnf)
        all_goals exact ⟨(), ⟨rfl, rfl, rfl, trivial⟩, rfl⟩
      · intro _
        repeat' (first
          | (conv => whnf); first
            | (apply ch_l; apply sp_i; first | exact rfl | omega | exact ⟨rfl, rfl, by omega⟩ | exact ⟨rfl, by omega⟩ | exact ⟨rfl, by omega, by omega, by omega⟩ | exact ⟨⟨_, rfl⟩, by omega⟩ | exact ⟨⟨_, rfl⟩, by omega, by omega⟩ | assumption | decide | (simp only [List.length_drop, List.length_take, List.length_append, List.length_set, List.length_cons, List.length_nil, OrOk] at *; omega) | (simp; omega))
            | (apply sp_i; first | exact rfl | omega | exact ⟨rfl, rfl, by omega⟩ | exact ⟨rfl, by omega⟩ | exact ⟨rfl, by omega, by omega, by omega⟩ | exact ⟨⟨_, rfl⟩, by omega⟩ | exact ⟨⟨_, rfl⟩, by omega, by omega⟩ | assumption | decide | (simp only [List.length_drop, List.length_take, List.length_append, List.length_set, List.length_cons, List.length_nil, OrOk] at *; omega) | (simp; omega))
            | (apply sc_true) | (apply sc_false)
            | (first | apply sc_lt | apply sc_nlt | apply sc_eq | apply sc_neq | apply sc_nil | apply sc_nnil | apply sc_seq | apply sc_nseq); all_goals (intro hb; try (first | (exfalso; omega) | exact absurd rfl hb | exact absurd hb (by decide) | exact absurd hb (by assumption) | exact absurd (by assumption) hb | (exfalso; simp only [List.length_cons, List.length_nil, List.length_append] at hb; omega)))
            | (apply sc_not) | (apply sc_or) | (apply sc_i; all_goals intro hb)
            | (first | apply ix_nat | apply ix_int); first | omega | (simp only [List.length_drop, List.length_take, List.length_append, List.length_set, List.length_cons, List.length_nil] at *; omega)
            | (apply bx_i; intro hbd) | (apply gt_i; assumption; exact rfl)
            | (first | apply sd_nat | apply sd_int | apply sl_nat | apply sl_int); first | omega | (simp only [List.length_drop, List.length_take, List.length_append, List.length_set, List.length_cons, List.length_nil] at *; omega)
            | (apply cx_is; first | fail) | (apply cx_do (i := 0) rfl; first | fail)
            | (apply ab_i; intro bl) | (apply as_i; intro va vk vc hva) | (apply av_i; intro v) | (apply ac_i; intro bl cap hcap)
            | (apply bo_l) | (apply ch_r; apply sp_i; assumption) | (apply ch_r; apply sp_i; intro i hi; exact ⟨rfl, rfl, rfl⟩) | (apply nx_i; all_goals intro hnx)
            | (apply Ia.hit; assumption) | (apply Ia.miss; assumption)
            | (apply rt_is; exact rfl) | (apply rt_do; exact rfl; (repeat (first | exact List.nil_sublist _ | apply List.Sublist.cons_cons))) | (apply iv; assumption)
            | (exact True.intro) | (apply bc_i; intro C hC) | (apply bt_i) | (apply og_n) | (apply og_a; exact rfl))
        all_goals (try conv => whnf)
        rw [hD]
        refine lines_left rfl rfl rfl (List.Sublist.refl _) (.inr ⟨_, by rw [hE, h1]; rfl, by rw [hL, h1]⟩)
end Go.Proofs.YtlmihggafbmkaaaDoor
