/- Lines of a text: package fold's answer (2.1). -/
import Derived.Test.YtlmihggafbmkaaaDoorFli
import Derived.Test.YtlmihggafbmkaaaDoorThr
namespace Go.Proofs.YtlmihggafbmkaaaDoor
open Go Go.RowKit
def lastF (L : List LineS) : List Int := match L.getLast? with
  | none => []
  | some l => l.f
/-- The lines as they lie while the last one may still grow. -/
def growC (L : List LineS) (i : Nat) (u : Value) : List AVal := match L.getLast? with
  | none => []
  | some l => linesC L.dropLast ++ [.str l.t, .int .i64 l.a, .own i u]
theorem growC_snoc (I : List LineS) (l : LineS) (i : Nat) (u : Value) : growC (I ++ [l]) i u = linesC I ++ [.str l.t, .int .i64 l.a, .own i u] := by
  simp [growC]
theorem lastF_snoc (I : List LineS) (l : LineS) : lastF (I ++ [l]) = l.f := by simp [lastF]
theorem growC_get (I : List LineS) (l : LineS) (i : Nat) (u : Value) (k : Nat) (hk : k < 3) : (growC (I ++ [l]) i u)[I.length * 3 + k]? = [AVal.str l.t, .int .i64 l.a, .own i u][k]? := by
  rw [growC_snoc, List.getElem?_append_right (by rw [linesC_len]; omega), linesC_len, Nat.add_sub_cancel_left]
theorem field3 {A : List AVal} {x y z w : AVal} {N : Nat} (hA : A.length = N) : (A ++ [x, y, z]).take (N + 2) ++ [w] ++ (A ++ [x, y, z]).drop (N + 2 + 1) = A ++ [x, y, w] := by
  subst hA
  simp [List.take_append, List.drop_append, List.take_of_length_le, show A.length + 2 + 1 - A.length = 3 by omega]
  omega
theorem field1 {A : List AVal} {x y z w : AVal} {N : Nat} (hA : A.length = N) : (A ++ [x, y, z]).take (N + 0) ++ [w] ++ (A ++ [x, y, z]).drop (N + 0 + 1) = A ++ [w, y, z] := by
  subst hA
  simp [List.drop_append, show A.length + 1 - A.length = 1 by omega]
theorem take3 {A : List AVal} {x y z : AVal} {N k : Nat} (hA : A.length = N) (hk : k = N) : ((A ++ [x, y, z]).drop k).take 3 = [x, y, z] := by
  subst hA
  subst hk
  simp
theorem get3 {A : List AVal} {l : List AVal} {N k : Nat} (hA : A.length = N) : (A ++ l)[N + k]? = l[k]? := by
  subst hA
  rw [List.getElem?_append_right (by omega), Nat.add_sub_cancel_left]
abbrev ownL (I : List LineS) (x : List UInt8) (a : Nat) (u : Value) : List AVal := linesC I ++ [.str x, .int .i64 a, .own 1 u]
theorem growC_nil (i : Nat) (u : Value) : growC [] i u = [] := rfl
theorem lastF_nil : lastF [] = [] := rfl
/-- A row's value. -/
def rvA (b : Nat) : Nat → Option Addr
  | 0 => none
  | _ + 1 => some ⟨b, 0, none⟩
def rvC (cap : Nat) : Nat → Nat
  | 0 => 0
  | _ + 1 => cap
abbrev rowVal (b cap m : Nat) : Value := .slice (rvA b m) m (rvC cap m)
section
variable {C : Ctx} {n : Nat} {e : Env}
theorem to_line0 {v : Value} {p : List UInt8} {a m : Nat} (hm : m = 1) : To C n e [.row v none 3 m [.str p, .int .i64 a, .raw (.slice none 0 0)]] e
    [.row v none 3 [(⟨p, a, []⟩ : LineS)].length (growC [⟨p, a, []⟩] 1 (.slice none 0 0)), .row (.slice none 0 0) none 1 (lastF [⟨p, a, []⟩]).length (intsC (lastF [⟨p, a, []⟩]))] := by
  subst hm
  refine to_trans (to_ghost 1) ?_
  exact to_cell (i := 0) (p := 2) (x := .row v none 3 1 [.str p, .int .i64 a, .raw (.slice none 0 0)]) (a' := .own 1 (.slice none 0 0)) rfl (fun R => .row rfl fun _ => nil_own)
theorem to_line {v u : Value} {I : List LineS} {l : LineS} {p : List UInt8} {a m : Nat} (hm : m = (I ++ [l] ++ [(⟨p, a, []⟩ : LineS)]).length) : To C n e [.row v none 3 m (linesC I ++ ([.str l.t, .int .i64 l.a, .own 1 u] : List AVal) ++ ([.str p, .int .i64 a, .raw (.slice none 0 0)] : List AVal)), .row u none 1 l.f.length (intsC l.f)] e
    [.row v none 3 (I ++ [l] ++ [(⟨p, a, []⟩ : LineS)]).length (growC (I ++ [l] ++ [⟨p, a, []⟩]) 1 (.slice none 0 0)), .row (.slice none 0 0) none 1 (lastF (I ++ [l] ++ [⟨p, a, []⟩])).length (intsC (lastF (I ++ [l] ++ [⟨p, a, []⟩])))] := by
  have hI := linesC_len I
  rw [← hm, lastF_snoc]
  refine to_trans (to_seal (i := 1) (k := 0) (p := I.length * 3 + 2) (intsF l.f) rfl rfl (intsF_ok _) (fun R hr => .row (a := .own 1 u) ?_ fun _ => own_list hr)) ?_
  · rw [List.append_assoc, List.getElem?_append_right (by omega), hI, Nat.add_sub_cancel_left]; rfl
  have e1 : (linesC I ++ ([.str l.t, .int .i64 l.a, .own 1 u] : List AVal) ++ ([.str p, .int .i64 a, .raw (.slice none 0 0)] : List AVal)).set (I.length * 3 + 2) (.list 1 l.f.length (intsF l.f)) = linesC (I ++ [l]) ++ [.str p, .int .i64 a, .raw (.slice none 0 0)] := by
    rw [List.append_assoc, List.set_append_right _ _ (by omega), hI, Nat.add_sub_cancel_left, linesC_app]
    simp [linesC]
  rw [e1]
  refine to_trans (to_ghost 1) ?_
  have hI2 := linesC_len (I ++ [l])
  have e2 : (linesC (I ++ [l]) ++ ([.str p, .int .i64 a, .raw (.slice none 0 0)] : List AVal)).set ((I ++ [l]).length * 3 + 2) (.own 1 (.slice none 0 0)) = growC (I ++ [l] ++ [⟨p, a, []⟩]) 1 (.slice none 0 0) := by
    rw [growC_snoc, List.set_append_right _ _ (by omega), hI2, Nat.add_sub_cancel_left]
    rfl
  rw [← e2]
  refine to_cell (i := 0) (p := (I ++ [l]).length * 3 + 2) (x := .row v none 3 m (linesC (I ++ [l]) ++ [.str p, .int .i64 a, .raw (.slice none 0 0)])) (a' := .own 1 (.slice none 0 0)) rfl (fun R => .row (a := .raw (.slice none 0 0)) ?_ fun _ => nil_own)
  rw [List.getElem?_append_right (by omega), hI2, Nat.add_sub_cancel_left]; rfl
end
set_option maxRecDepth 20000
set_option maxHeartbeats 4000000
set_option linter.unusedSimpArgs false
set_option linter.unusedVariables false
attribute [local irreducible] AWp AOps byteAt SrcOK OrOk GloAll FnSpec
attribute [local irreducible] linesC growC lastF isFold addP crlfI crlfAt To DSpec Lv
theorem fold_Lines {G : Glo} (t : List UInt8) (hl : t.length ≤ 9223372036854775000) : FnSpec Tryd.prog G 20 [.str t] [] (fun r H => (r = .ret (.tuple [.raw (.slice none 0 0), (linesE t).A]) ∧ linesL t = [] ∧ H = []) ∨
    ∃ v u, r = .ret (.tuple [.own 0 v, (linesE t).A]) ∧ H = [.row v none 3 (linesL t).length (growC (linesL t) 1 u), .row u none 1 (lastF (linesL t)).length (intsC (lastF (linesL t)))]) := by
  have hGL : GloAll G [] := gloAll_nil
  refine fn_x Tryd.func20 Tryd.call20 rfl rfl rfl rfl hGL ?_
  intro C hC
  have hI := fun a h => indexAny_two (G := G) (a := 13) (b := 10) (by decide) (by decide) (t.drop a) h
  have hP := fun a => has_prefix (G := G) (t.drop a) [13, 10]
  repeat' (first
    | (conv => whnf); first
      | (apply ch_l; apply sp_i; first | exact rfl | omega | exact ⟨rfl, rfl, by omega⟩ | exact ⟨rfl, by omega⟩ | exact ⟨rfl, by omega, by omega, by omega⟩ | exact ⟨⟨_, rfl⟩, by omega⟩ | exact ⟨⟨_, rfl⟩, by omega, by omega⟩ | assumption | decide | (simp only [List.length_drop, List.length_take, List.length_append, List.length_set, List.length_cons, List.length_nil, OrOk] at *; omega) | (simp; omega))
      | (apply sp_i; first | exact rfl | omega | exact ⟨rfl, rfl, by omega⟩ | exact ⟨rfl, by omega⟩ | exact ⟨rfl, by omega, by omega, by omega⟩ | exact ⟨⟨_, rfl⟩, by omega⟩ | exact ⟨⟨_, rfl⟩, by omega, by omega⟩ | assumption | decide | (simp only [List.length_drop, List.length_take, List.length_append, List.length_set, List.length_cons, List.length_nil, OrOk] at *; omega) | (simp; omega))
      | (apply sc_true) | (apply sc_false)
      | (first | apply sc_lt | apply sc_nlt | apply sc_eq | apply sc_neq | apply sc_nil | apply sc_nnil | apply sc_seq | apply sc_nseq); all_goals (intro hb; try (first | (exfalso; omega) | exact absurd rfl hb | exact absurd hb (by decide) | exact absurd hb (by assumption) | exact absurd (by assumption) hb | (exfalso; simp only [List.length_cons, List.length_nil, List.length_append] at hb; omega)))
      | (apply sc_not) | (apply sc_or) | (apply sc_i; all_goals intro hb)
      | (first | apply ix_nat | apply ix_int); first | omega | (simp only [List.length_drop, List.length_take, List.length_append, List.length_set, List.length_cons, List.length_nil] at *; omega)
      | (apply bx_i; intro hbd) | (apply gt_i; assumption; exact rfl)
      | (first | apply sd_nat | apply sd_int | apply sl_nat | apply sl_int); first | omega | (simp only [List.length_drop, List.length_take, List.length_append, List.length_set, List.length_cons, List.length_nil] at *; omega)
      | (apply cx_is; first | fail) | (apply cx_do (i := 0) rfl; first | fail)
      | (apply ab_i; intro bl) | (apply as_i; intro va vk vc hva) | (apply av_i; intro v) | (apply ac_i; intro bl cap hcap)
      | (apply bo_l) | (apply ch_r; apply sp_i; assumption) | (apply ch_r; apply sp_i; intro i hi; exact ⟨rfl, rfl, rfl⟩) | (apply nx_i; all_goals intro hnx)
      | (apply Ia.hit; assumption) | (apply Ia.miss; assumption)
      | (apply rt_is; exact rfl) | (apply rt_do; exact rfl; (repeat (first | exact List.nil_sublist _ | apply List.Sublist.cons_cons))) | (apply iv; assumption)
      | (apply dw_q mixed hC hGL (by kernel_rfl))
      | (apply cq; assumption; (first | fail); exact rfl))
  all_goals (try conv => whnf)
  · refine ⟨[], List.nil_sublist _, .inl ⟨?_, by unfold linesL; rw [if_pos (by omega)], rfl⟩⟩
    unfold linesE
    rw [if_pos (by omega)]
    rfl
  refine lpT hC hGL (fun (x : Nat × List LineS × Nat × Nat × Value) => [(0, .str t), (4, .own 0 (rowVal x.2.2.1 x.2.2.2.1 x.2.1.length)), (5, .int .i64 x.1)]) (fun x => [.row (rowVal x.2.2.1 x.2.2.2.1 x.2.1.length) none 3 x.2.1.length (growC x.2.1 1 x.2.2.2.2), .row x.2.2.2.2 none 1 (lastF x.2.1).length (intsC (lastF x.2.1))])
    (fun x => x.2.1.length ≤ x.1 ∧ linesG t 0 [] = linesG t x.1 x.2.1 ∧ ∀ l, x.2.1.getLast? = some l → l.t.length ≤ x.1 ∧ l.f.length ≤ x.1) (fun x => t.length - x.1) (0, [], 0, 0, .slice none 0 0) ?_ ?_ ?_
  · exact ⟨Nat.le_refl _, rfl, fun l h => by cases h⟩
  · dsimp only
    rw [growC_nil, lastF_nil]
    refine to_trans (to_own (k := 4) (i := 0) rfl rfl) (to_trans (to_ghost 3) (to_trans (to_ghost 1) (to_sub ⟨rfl, rfl, rfl, trivial⟩ (List.Sublist.refl _))))
  rintro ⟨a, L, b, cap, u⟩ ⟨g1, g2, g3⟩
  dsimp only at g1 g2 g3 ⊢
  have hE : linesE t = (linesG t a L).1 := by unfold linesE; rw [if_neg (by omega), g2]
  have hL : linesL t = (linesG t a L).2 := by unfold linesL; rw [if_neg (by omega), g2]
  by_cases ha : a < t.length
  · rcases crlf_cases (t.drop a) with ⟨hc, _⟩ | ⟨n, hn, hc, hcb, hc0⟩
    · have h1 := lines_none (L := L) ha hc
      have hI := hI a (by rw [List.length_drop]; omega)
      rw [show Lib.indexAny (t.drop a) [13, 10] = crlfI (t.drop a) by unfold crlfI; rfl, hc] at hI
      repeat' (first
        | (conv => whnf); first
          | (apply ch_l; apply sp_i; first | exact rfl | omega | exact ⟨rfl, rfl, by omega⟩ | exact ⟨rfl, by omega⟩ | exact ⟨rfl, by omega, by omega, by omega⟩ | exact ⟨⟨_, rfl⟩, by omega⟩ | exact ⟨⟨_, rfl⟩, by omega, by omega⟩ | assumption | decide | (simp only [List.length_drop, List.length_take, List.length_append, List.length_set, List.length_cons, List.length_nil, OrOk] at *; omega) | (simp; omega))
          | (apply sp_i; first | exact rfl | omega | exact ⟨rfl, rfl, by omega⟩ | exact ⟨rfl, by omega⟩ | exact ⟨rfl, by omega, by omega, by omega⟩ | exact ⟨⟨_, rfl⟩, by omega⟩ | exact ⟨⟨_, rfl⟩, by omega, by omega⟩ | assumption | decide | (simp only [List.length_drop, List.length_take, List.length_append, List.length_set, List.length_cons, List.length_nil, OrOk] at *; omega) | (simp; omega))
          | (apply sc_true) | (apply sc_false)
          | (first | apply sc_lt | apply sc_nlt | apply sc_eq | apply sc_neq | apply sc_nil | apply sc_nnil | apply sc_seq | apply sc_nseq); all_goals (intro hb; try (first | (exfalso; omega) | exact absurd rfl hb | exact absurd hb (by decide) | exact absurd hb (by assumption) | exact absurd (by assumption) hb | (exfalso; simp only [List.length_cons, List.length_nil, List.length_append] at hb; omega)))
          | (apply sc_not) | (apply sc_or) | (apply sc_i; all_goals intro hb)
          | (first | apply ix_nat | apply ix_int); first | omega | (simp only [List.length_drop, List.length_take, List.length_append, List.length_set, List.length_cons, List.length_nil] at *; omega)
          | (apply bx_i; intro hbd) | (apply gt_i; assumption; exact rfl)
          | (first | apply sd_nat | apply sd_int | apply sl_nat | apply sl_int); first | omega | (simp only [List.length_drop, List.length_take, List.length_append, List.length_set, List.length_cons, List.length_nil] at *; omega)
          | (apply cx_is; first | exact hI) | (apply cx_do (i := 0) rfl; first | exact hI)
          | (apply ab_i; intro bl) | (apply as_i; intro va vk vc hva) | (apply av_i; intro v) | (apply ac_i; intro bl cap hcap)
          | (apply bo_l) | (apply ch_r; apply sp_i; assumption) | (apply ch_r; apply sp_i; intro i hi; exact ⟨rfl, rfl, rfl⟩) | (apply nx_i; all_goals intro hnx)
          | (apply Ia.hit; assumption) | (apply Ia.miss; assumption)
          | (apply rt_is; exact rfl) | (apply rt_do; exact rfl; (repeat (first | exact List.nil_sublist _ | apply List.Sublist.cons_cons))) | (apply iv; assumption)
          | (apply dw_q mixed hC hGL (by kernel_rfl))
          | (apply cq; assumption; (first | exact hI); exact rfl))
      all_goals (try conv => whnf)
      refine ⟨[], List.nil_sublist _, .inl ⟨?_, by rw [hL, h1], rfl⟩⟩
      rw [hE, h1]
      rfl
    · rw [List.length_drop] at hn
      have h1 := lines_bad (L := L) ha hc
      have h2 := lines_piece (L := L) ha hc
      have hI := hI a (by rw [List.length_drop]; omega)
      rw [show Lib.indexAny (t.drop a) [13, 10] = crlfI (t.drop a) by unfold crlfI; rfl, hc] at hI
      have hP := hP (a + n)
      rw [crlf_prefix t (a + n) (by omega)] at hP
      rw [show (t.drop a).take n = (t.take (a + n)).drop a by rw [List.drop_take, Nat.add_sub_cancel_left]] at h2
      have hpl : ((t.take (a + n)).drop a).length = n := by rw [List.length_drop, List.length_take]; omega
      cases hk : crlfAt t (a + n) with
      | false =>
        rw [hk] at hP h1
        repeat' (first
          | (conv => whnf); first
            | (apply ch_l; apply sp_i; first | exact rfl | omega | exact ⟨rfl, rfl, by omega⟩ | exact ⟨rfl, by omega⟩ | exact ⟨rfl, by omega, by omega, by omega⟩ | exact ⟨⟨_, rfl⟩, by omega⟩ | exact ⟨⟨_, rfl⟩, by omega, by omega⟩ | assumption | decide | (simp only [List.length_drop, List.length_take, List.length_append, List.length_set, List.length_cons, List.length_nil, OrOk] at *; omega) | (simp; omega))
            | (apply sp_i; first | exact rfl | omega | exact ⟨rfl, rfl, by omega⟩ | exact ⟨rfl, by omega⟩ | exact ⟨rfl, by omega, by omega, by omega⟩ | exact ⟨⟨_, rfl⟩, by omega⟩ | exact ⟨⟨_, rfl⟩, by omega, by omega⟩ | assumption | decide | (simp only [List.length_drop, List.length_take, List.length_append, List.length_set, List.length_cons, List.length_nil, OrOk] at *; omega) | (simp; omega))
            | (apply sc_true) | (apply sc_false)
            | (first | apply sc_lt | apply sc_nlt | apply sc_eq | apply sc_neq | apply sc_nil | apply sc_nnil | apply sc_seq | apply sc_nseq); all_goals (intro hb; try (first | (exfalso; omega) | exact absurd rfl hb | exact absurd hb (by decide) | exact absurd hb (by assumption) | exact absurd (by assumption) hb | (exfalso; simp only [List.length_cons, List.length_nil, List.length_append] at hb; omega)))
            | (apply sc_not) | (apply sc_or) | (apply sc_i; all_goals intro hb)
            | (first | apply ix_nat | apply ix_int); first | omega | (simp only [List.length_drop, List.length_take, List.length_append, List.length_set, List.length_cons, List.length_nil] at *; omega)
            | (apply bx_i; intro hbd) | (apply gt_i; assumption; exact rfl)
            | (first | apply sd_nat | apply sd_int | apply sl_nat | apply sl_int); first | omega | (simp only [List.length_drop, List.length_take, List.length_append, List.length_set, List.length_cons, List.length_nil] at *; omega)
            | (apply cx_is; first | exact hI | exact hP) | (apply cx_do (i := 0) rfl; first | exact hI | exact hP)
            | (apply ab_i; intro bl) | (apply as_i; intro va vk vc hva) | (apply av_i; intro v) | (apply ac_i; intro bl cap hcap)
            | (apply bo_l) | (apply ch_r; apply sp_i; assumption) | (apply ch_r; apply sp_i; intro i hi; exact ⟨rfl, rfl, rfl⟩) | (apply nx_i; all_goals intro hnx)
            | (apply Ia.hit; assumption) | (apply Ia.miss; assumption)
            | (apply rt_is; exact rfl) | (apply rt_do; exact rfl; (repeat (first | exact List.nil_sublist _ | apply List.Sublist.cons_cons))) | (apply iv; assumption)
            | (apply dw_q mixed hC hGL (by kernel_rfl))
            | (apply cq; assumption; (first | exact hI | exact hP); exact rfl))
        all_goals (try conv => whnf)
        refine ⟨[], List.nil_sublist _, .inl ⟨?_, by rw [hL, h1 rfl], rfl⟩⟩
        rw [hE, h1 rfl]
        rfl
      | true =>
        rw [hk] at hP h2
        have h2 := h2 rfl
        clear h1
        rcases List.eq_nil_or_concat L with rfl | ⟨I, l, rfl⟩
        · rw [growC_nil, lastF_nil]
          repeat' (first
            | (conv => whnf); first
              | (apply ch_l; apply sp_i; first | exact rfl | omega | exact ⟨rfl, rfl, by omega⟩ | exact ⟨rfl, by omega⟩ | exact ⟨rfl, by omega, by omega, by omega⟩ | exact ⟨⟨_, rfl⟩, by omega⟩ | exact ⟨⟨_, rfl⟩, by omega, by omega⟩ | assumption | decide | (simp only [List.length_drop, List.length_take, List.length_append, List.length_set, List.length_cons, List.length_nil, OrOk] at *; omega) | (simp; omega))
              | (apply sp_i; first | exact rfl | omega | exact ⟨rfl, rfl, by omega⟩ | exact ⟨rfl, by omega⟩ | exact ⟨rfl, by omega, by omega, by omega⟩ | exact ⟨⟨_, rfl⟩, by omega⟩ | exact ⟨⟨_, rfl⟩, by omega, by omega⟩ | assumption | decide | (simp only [List.length_drop, List.length_take, List.length_append, List.length_set, List.length_cons, List.length_nil, OrOk] at *; omega) | (simp; omega))
              | (apply sc_true) | (apply sc_false)
              | (first | apply sc_lt | apply sc_nlt | apply sc_eq | apply sc_neq | apply sc_nil | apply sc_nnil | apply sc_seq | apply sc_nseq); all_goals (intro hb; try (first | (exfalso; omega) | exact absurd rfl hb | exact absurd hb (by decide) | exact absurd hb (by assumption) | exact absurd (by assumption) hb | (exfalso; simp only [List.length_cons, List.length_nil, List.length_append] at hb; omega)))
              | (apply sc_not) | (apply sc_or) | (apply sc_i; all_goals intro hb)
              | (first | apply ix_nat | apply ix_int); first | omega | (simp only [List.length_drop, List.length_take, List.length_append, List.length_set, List.length_cons, List.length_nil] at *; omega)
              | (apply bx_i; intro hbd) | (apply gt_i; assumption; exact rfl)
              | (first | apply sd_nat | apply sd_int | apply sl_nat | apply sl_int); first | omega | (simp only [List.length_drop, List.length_take, List.length_append, List.length_set, List.length_cons, List.length_nil] at *; omega)
              | (apply cx_is; first | exact hI | exact hP) | (apply cx_do (i := 0) rfl; first | exact hI | exact hP)
              | (apply ab_i; intro bl) | (apply as_i; intro va vk vc hva) | (apply av_i; intro v) | (apply ac_i; intro bl cap hcap)
              | (apply bo_l) | (apply ch_r; apply sp_i; assumption) | (apply ch_r; apply sp_i; intro i hi; exact ⟨rfl, rfl, rfl⟩) | (apply nx_i; all_goals intro hnx)
              | (apply Ia.hit; assumption) | (apply Ia.miss; assumption)
              | (apply rt_is; exact rfl) | (apply rt_do; exact rfl; (repeat (first | exact List.nil_sublist _ | apply List.Sublist.cons_cons))) | (apply iv; assumption)
              | (apply dw_q mixed hC hGL (by kernel_rfl))
              | (apply cq; assumption; (first | exact hI | exact hP); exact rfl))
          all_goals (try conv => whnf)
          iterate 2
            · have hF : isFold ((t.take (a + n)).drop a) = true := by first | exact isFold_y1 (by assumption) (by assumption) | exact isFold_y2 (by assumption) (by assumption)
              refine ⟨[], List.nil_sublist _, .inl ⟨?_, by rw [hL, h2, addP_fold_nil hF], rfl⟩⟩
              rw [hE, h2, addP_fold_nil hF]
              rfl
          · have hF : isFold ((t.take (a + n)).drop a) = false := by first | exact isFold_n0 (by assumption) | exact isFold_n (by assumption) (by assumption)
            obtain ⟨bv, rfl, rfl⟩ := hva (by simp)
            repeat' (first
              | (conv => whnf); first
                | (apply ch_l; apply sp_i; first | exact rfl | omega | exact ⟨rfl, rfl, by omega⟩ | exact ⟨rfl, by omega⟩ | exact ⟨rfl, by omega, by omega, by omega⟩ | exact ⟨⟨_, rfl⟩, by omega⟩ | exact ⟨⟨_, rfl⟩, by omega, by omega⟩ | assumption | decide | (simp only [List.length_drop, List.length_take, List.length_append, List.length_set, List.length_cons, List.length_nil, OrOk] at *; omega) | (simp; omega))
                | (apply sp_i; first | exact rfl | omega | exact ⟨rfl, rfl, by omega⟩ | exact ⟨rfl, by omega⟩ | exact ⟨rfl, by omega, by omega, by omega⟩ | exact ⟨⟨_, rfl⟩, by omega⟩ | exact ⟨⟨_, rfl⟩, by omega, by omega⟩ | assumption | decide | (simp only [List.length_drop, List.length_take, List.length_append, List.length_set, List.length_cons, List.length_nil, OrOk] at *; omega) | (simp; omega))
                | (apply sc_true) | (apply sc_false)
                | (first | apply sc_lt | apply sc_nlt | apply sc_eq | apply sc_neq | apply sc_nil | apply sc_nnil | apply sc_seq | apply sc_nseq); all_goals (intro hb; try (first | (exfalso; omega) | exact absurd rfl hb | exact absurd hb (by decide) | exact absurd hb (by assumption) | exact absurd (by assumption) hb | (exfalso; simp only [List.length_cons, List.length_nil, List.length_append] at hb; omega)))
                | (apply sc_not) | (apply sc_or) | (apply sc_i; all_goals intro hb)
                | (first | apply ix_nat | apply ix_int); first | omega | (simp only [List.length_drop, List.length_take, List.length_append, List.length_set, List.length_cons, List.length_nil] at *; omega)
                | (apply bx_i; intro hbd) | (apply gt_i; assumption; exact rfl)
                | (first | apply sd_nat | apply sd_int | apply sl_nat | apply sl_int); first | omega | (simp only [List.length_drop, List.length_take, List.length_append, List.length_set, List.length_cons, List.length_nil] at *; omega)
                | (apply cx_is; first | fail) | (apply cx_do (i := 0) rfl; first | fail)
                | (apply ab_i; intro bl) | (apply as_i; intro va vk vc hva) | (apply av_i; intro v) | (apply ac_i; intro bl cap hcap)
                | (apply bo_l) | (apply ch_r; apply sp_i; assumption) | (apply ch_r; apply sp_i; intro i hi; exact ⟨rfl, rfl, rfl⟩) | (apply nx_i; all_goals intro hnx)
                | (apply Ia.hit; assumption) | (apply Ia.miss; assumption)
                | (apply rt_is; exact rfl) | (apply rt_do; exact rfl; (repeat (first | exact List.nil_sublist _ | apply List.Sublist.cons_cons))) | (apply iv; assumption)
                | (apply dw_q mixed hC hGL (by kernel_rfl))
                | (apply cq; assumption; (first | fail); exact rfl))
            all_goals (try conv => whnf)
            refine sp_i ⟨⟨_, rfl⟩, by simp, by simp⟩ ?_
            refine gs_i (c := [.str ((t.take (a + n)).drop a), .int .i64 a, .raw (.slice none 0 0)]) rfl ?_
            repeat' (first
              | (conv => whnf); first
                | (apply ch_l; apply sp_i; first | exact rfl | omega | exact ⟨rfl, rfl, by omega⟩ | exact ⟨rfl, by omega⟩ | exact ⟨rfl, by omega, by omega, by omega⟩ | exact ⟨⟨_, rfl⟩, by omega⟩ | exact ⟨⟨_, rfl⟩, by omega, by omega⟩ | assumption | decide | (simp only [List.length_drop, List.length_take, List.length_append, List.length_set, List.length_cons, List.length_nil, OrOk] at *; omega) | (simp; omega))
                | (apply sp_i; first | exact rfl | omega | exact ⟨rfl, rfl, by omega⟩ | exact ⟨rfl, by omega⟩ | exact ⟨rfl, by omega, by omega, by omega⟩ | exact ⟨⟨_, rfl⟩, by omega⟩ | exact ⟨⟨_, rfl⟩, by omega, by omega⟩ | assumption | decide | (simp only [List.length_drop, List.length_take, List.length_append, List.length_set, List.length_cons, List.length_nil, OrOk] at *; omega) | (simp; omega))
                | (apply sc_true) | (apply sc_false)
                | (first | apply sc_lt | apply sc_nlt | apply sc_eq | apply sc_neq | apply sc_nil | apply sc_nnil | apply sc_seq | apply sc_nseq); all_goals (intro hb; try (first | (exfalso; omega) | exact absurd rfl hb | exact absurd hb (by decide) | exact absurd hb (by assumption) | exact absurd (by assumption) hb | (exfalso; simp only [List.length_cons, List.length_nil, List.length_append] at hb; omega)))
                | (apply sc_not) | (apply sc_or) | (apply sc_i; all_goals intro hb)
                | (first | apply ix_nat | apply ix_int); first | omega | (simp only [List.length_drop, List.length_take, List.length_append, List.length_set, List.length_cons, List.length_nil] at *; omega)
                | (apply bx_i; intro hbd) | (apply gt_i; assumption; exact rfl)
                | (first | apply sd_nat | apply sd_int | apply sl_nat | apply sl_int); first | omega | (simp only [List.length_drop, List.length_take, List.length_append, List.length_set, List.length_cons, List.length_nil] at *; omega)
                | (apply cx_is; first | fail) | (apply cx_do (i := 0) rfl; first | fail)
                | (apply ab_i; intro bl) | (apply as_i; intro va vk vc hva) | (apply av_i; intro v) | (apply ac_i; intro bl cap hcap)
                | (apply bo_l) | (apply ch_r; apply sp_i; assumption) | (apply ch_r; apply sp_i; intro i hi; exact ⟨rfl, rfl, rfl⟩) | (apply nx_i; all_goals intro hnx)
                | (apply Ia.hit; assumption) | (apply Ia.miss; assumption)
                | (apply rt_is; exact rfl) | (apply rt_do; exact rfl; (repeat (first | exact List.nil_sublist _ | apply List.Sublist.cons_cons))) | (apply iv; assumption)
                | (exact True.intro) | (apply bc_i; intro C hC) | (apply bt_i) | (apply og_n) | (apply og_a; exact rfl))
            all_goals (try conv => whnf)
            · refine dw_p mixed hC hGL false (fun (_ : Unit) => [(2, .raw (.slice none 0 0)), (3, atA 4 a)]) (fun _ => [.row (.slice (some ⟨bv, 0, none⟩) 1 vc) none 3 1 [.str ((t.take (a + n)).drop a), .int .i64 a, .raw (.slice none 0 0)], .row u none 1 0 [], .cells bl (some 39) [.str ((t.take (a + n)).drop a), .int .i64 a, .raw (.slice none 0 0)]]) (.take 0 (.take 5 (.br 1 (.br 2 (.br 3 (.br 4 (.br 6 (.done) (.nil)) (.nil)) (.nil)) (.nil)) (.nil)))) (by kernel_rfl) ?_ ?_
              · repeat' (first
                  | (conv => whnf); first
                    | (apply ch_l; apply sp_i; first | exact rfl | omega | exact ⟨rfl, rfl, by omega⟩ | exact ⟨rfl, by omega⟩ | exact ⟨rfl, by omega, by omega, by omega⟩ | exact ⟨⟨_, rfl⟩, by omega⟩ | exact ⟨⟨_, rfl⟩, by omega, by omega⟩ | assumption | decide | (simp only [List.length_drop, List.length_take, List.length_append, List.length_set, List.length_cons, List.length_nil, OrOk] at *; omega) | (simp; omega))
                    | (apply sp_i; first | exact rfl | omega | exact ⟨rfl, rfl, by omega⟩ | exact ⟨rfl, by omega⟩ | exact ⟨rfl, by omega, by omega, by omega⟩ | exact ⟨⟨_, rfl⟩, by omega⟩ | exact ⟨⟨_, rfl⟩, by omega, by omega⟩ | assumption | decide | (simp only [List.length_drop, List.length_take, List.length_append, List.length_set, List.length_cons, List.length_nil, OrOk] at *; omega) | (simp; omega))
                    | (apply sc_true) | (apply sc_false)
                    | (first | apply sc_lt | apply sc_nlt | apply sc_eq | apply sc_neq | apply sc_nil | apply sc_nnil | apply sc_seq | apply sc_nseq); all_goals (intro hb; try (first | (exfalso; omega) | exact absurd rfl hb | exact absurd hb (by decide) | exact absurd hb (by assumption) | exact absurd (by assumption) hb | (exfalso; simp only [List.length_cons, List.length_nil, List.length_append] at hb; omega)))
                    | (apply sc_not) | (apply sc_or) | (apply sc_i; all_goals intro hb)
                    | (first | apply ix_nat | apply ix_int); first | omega | (simp only [List.length_drop, List.length_take, List.length_append, List.length_set, List.length_cons, List.length_nil] at *; omega)
                    | (apply bx_i; intro hbd) | (apply gt_i; assumption; exact rfl)
                    | (first | apply sd_nat | apply sd_int | apply sl_nat | apply sl_int); first | omega | (simp only [List.length_drop, List.length_take, List.length_append, List.length_set, List.length_cons, List.length_nil] at *; omega)
                    | (apply cx_is; first | fail) | (apply cx_do (i := 0) rfl; first | fail)
                    | (apply ab_i; intro bl) | (apply as_i; intro va vk vc hva) | (apply av_i; intro v) | (apply ac_i; intro bl cap hcap)
                    | (apply bo_l) | (apply ch_r; apply sp_i; assumption) | (apply ch_r; apply sp_i; intro i hi; exact ⟨rfl, rfl, rfl⟩) | (apply nx_i; all_goals intro hnx)
                    | (apply Ia.hit; assumption) | (apply Ia.miss; assumption)
                    | (apply rt_is; exact rfl) | (apply rt_do; exact rfl; (repeat (first | exact List.nil_sublist _ | apply List.Sublist.cons_cons))) | (apply iv; assumption)
                    | (exact True.intro) | (apply bc_i; intro C hC) | (apply bt_i) | (apply og_n) | (apply og_a; exact rfl))
                all_goals (try conv => whnf)
                all_goals exact ⟨(), ⟨rfl, rfl, trivial⟩, rfl⟩
              · intro _
                repeat' (first
                  | (conv => whnf); first
                    | (apply ch_l; apply sp_i; first | exact rfl | omega | exact ⟨rfl, rfl, by omega⟩ | exact ⟨rfl, by omega⟩ | exact ⟨rfl, by omega, by omega, by omega⟩ | exact ⟨⟨_, rfl⟩, by omega⟩ | exact ⟨⟨_, rfl⟩, by omega, by omega⟩ | assumption | decide | (simp only [List.length_drop, List.length_take, List.length_append, List.length_set, List.length_cons, List.length_nil, OrOk] at *; omega) | (simp; omega))
                    | (apply sp_i; first | exact rfl | omega | exact ⟨rfl, rfl, by omega⟩ | exact ⟨rfl, by omega⟩ | exact ⟨rfl, by omega, by omega, by omega⟩ | exact ⟨⟨_, rfl⟩, by omega⟩ | exact ⟨⟨_, rfl⟩, by omega, by omega⟩ | assumption | decide | (simp only [List.length_drop, List.length_take, List.length_append, List.length_set, List.length_cons, List.length_nil, OrOk] at *; omega) | (simp; omega))
                    | (apply sc_true) | (apply sc_false)
                    | (first | apply sc_lt | apply sc_nlt | apply sc_eq | apply sc_neq | apply sc_nil | apply sc_nnil | apply sc_seq | apply sc_nseq); all_goals (intro hb; try (first | (exfalso; omega) | exact absurd rfl hb | exact absurd hb (by decide) | exact absurd hb (by assumption) | exact absurd (by assumption) hb | (exfalso; simp only [List.length_cons, List.length_nil, List.length_append] at hb; omega)))
                    | (apply sc_not) | (apply sc_or) | (apply sc_i; all_goals intro hb)
                    | (first | apply ix_nat | apply ix_int); first | omega | (simp only [List.length_drop, List.length_take, List.length_append, List.length_set, List.length_cons, List.length_nil] at *; omega)
                    | (apply bx_i; intro hbd) | (apply gt_i; assumption; exact rfl)
                    | (first | apply sd_nat | apply sd_int | apply sl_nat | apply sl_int); first | omega | (simp only [List.length_drop, List.length_take, List.length_append, List.length_set, List.length_cons, List.length_nil] at *; omega)
                    | (apply cx_is; first | fail) | (apply cx_do (i := 0) rfl; first | fail)
                    | (apply ab_i; intro bl) | (apply as_i; intro va vk vc hva) | (apply av_i; intro v) | (apply ac_i; intro bl cap hcap)
                    | (apply bo_l) | (apply ch_r; apply sp_i; assumption) | (apply ch_r; apply sp_i; intro i hi; exact ⟨rfl, rfl, rfl⟩) | (apply nx_i; all_goals intro hnx)
                    | (apply Ia.hit; assumption) | (apply Ia.miss; assumption)
                    | (apply rt_is; exact rfl) | (apply rt_do; exact rfl; (repeat (first | exact List.nil_sublist _ | apply List.Sublist.cons_cons))) | (apply iv; assumption)
                    | (exact True.intro) | (apply bc_i; intro C hC) | (apply bt_i) | (apply og_n) | (apply og_a; exact rfl))
                all_goals (try conv => whnf)
                refine ⟨[], List.nil_sublist _, .inl ⟨?_, by rw [hL, h2, addP_long hF (by omega)], rfl⟩⟩
                rw [hE, h2, addP_long hF (by omega)]
                rfl
            · refine nxT (a + n + 2, [⟨(t.take (a + n)).drop a, a, []⟩], bv, vc, .slice none 0 0) ⟨by simp, ?_, fun l h => by have e : (⟨(t.take (a + n)).drop a, a, []⟩ : LineS) = l := (by simpa using h); subst e; exact ⟨by show ((t.take (a + n)).drop a).length ≤ _; omega, Nat.zero_le _⟩⟩ (by dsimp only; omega) ?_
              · dsimp only
                rw [g2, h2, addP_new hF (by omega)]
                rfl
              · dsimp only
                refine to_trans (to_sub (e' := [(0, .str t), (4, .own 0 (.slice (some ⟨bv, 0, none⟩) 1 vc)), (5, .int .i64 ((a + n + 2 : Nat) : Int))]) (h' := [.row (.slice (some ⟨bv, 0, none⟩) 1 vc) none 3 1 [.str ((t.take (a + n)).drop a), .int .i64 a, .raw (.slice none 0 0)]]) ⟨rfl, rfl, congrArg (fun z => some (AVal.int .i64 z)) (by omega), trivial⟩ (by exact List.Sublist.cons_cons _ (List.nil_sublist _))) (to_line0 rfl)
          · have hF : isFold ((t.take (a + n)).drop a) = false := by first | exact isFold_n0 (by assumption) | exact isFold_n (by assumption) (by assumption)
            obtain ⟨bv, rfl, rfl⟩ := hva (by simp)
            repeat' (first
              | (conv => whnf); first
                | (apply ch_l; apply sp_i; first | exact rfl | omega | exact ⟨rfl, rfl, by omega⟩ | exact ⟨rfl, by omega⟩ | exact ⟨rfl, by omega, by omega, by omega⟩ | exact ⟨⟨_, rfl⟩, by omega⟩ | exact ⟨⟨_, rfl⟩, by omega, by omega⟩ | assumption | decide | (simp only [List.length_drop, List.length_take, List.length_append, List.length_set, List.length_cons, List.length_nil, OrOk] at *; omega) | (simp; omega))
                | (apply sp_i; first | exact rfl | omega | exact ⟨rfl, rfl, by omega⟩ | exact ⟨rfl, by omega⟩ | exact ⟨rfl, by omega, by omega, by omega⟩ | exact ⟨⟨_, rfl⟩, by omega⟩ | exact ⟨⟨_, rfl⟩, by omega, by omega⟩ | assumption | decide | (simp only [List.length_drop, List.length_take, List.length_append, List.length_set, List.length_cons, List.length_nil, OrOk] at *; omega) | (simp; omega))
                | (apply sc_true) | (apply sc_false)
                | (first | apply sc_lt | apply sc_nlt | apply sc_eq | apply sc_neq | apply sc_nil | apply sc_nnil | apply sc_seq | apply sc_nseq); all_goals (intro hb; try (first | (exfalso; omega) | exact absurd rfl hb | exact absurd hb (by decide) | exact absurd hb (by assumption) | exact absurd (by assumption) hb | (exfalso; simp only [List.length_cons, List.length_nil, List.length_append] at hb; omega)))
                | (apply sc_not) | (apply sc_or) | (apply sc_i; all_goals intro hb)
                | (first | apply ix_nat | apply ix_int); first | omega | (simp only [List.length_drop, List.length_take, List.length_append, List.length_set, List.length_cons, List.length_nil] at *; omega)
                | (apply bx_i; intro hbd) | (apply gt_i; assumption; exact rfl)
                | (first | apply sd_nat | apply sd_int | apply sl_nat | apply sl_int); first | omega | (simp only [List.length_drop, List.length_take, List.length_append, List.length_set, List.length_cons, List.length_nil] at *; omega)
                | (apply cx_is; first | fail) | (apply cx_do (i := 0) rfl; first | fail)
                | (apply ab_i; intro bl) | (apply as_i; intro va vk vc hva) | (apply av_i; intro v) | (apply ac_i; intro bl cap hcap)
                | (apply bo_l) | (apply ch_r; apply sp_i; assumption) | (apply ch_r; apply sp_i; intro i hi; exact ⟨rfl, rfl, rfl⟩) | (apply nx_i; all_goals intro hnx)
                | (apply Ia.hit; assumption) | (apply Ia.miss; assumption)
                | (apply rt_is; exact rfl) | (apply rt_do; exact rfl; (repeat (first | exact List.nil_sublist _ | apply List.Sublist.cons_cons))) | (apply iv; assumption)
                | (apply dw_q mixed hC hGL (by kernel_rfl))
                | (apply cq; assumption; (first | fail); exact rfl))
            all_goals (try conv => whnf)
            refine sp_i ⟨⟨_, rfl⟩, by simp, by simp⟩ ?_
            refine gs_i (c := [.str ((t.take (a + n)).drop a), .int .i64 a, .raw (.slice none 0 0)]) rfl ?_
            repeat' (first
              | (conv => whnf); first
                | (apply ch_l; apply sp_i; first | exact rfl | omega | exact ⟨rfl, rfl, by omega⟩ | exact ⟨rfl, by omega⟩ | exact ⟨rfl, by omega, by omega, by omega⟩ | exact ⟨⟨_, rfl⟩, by omega⟩ | exact ⟨⟨_, rfl⟩, by omega, by omega⟩ | assumption | decide | (simp only [List.length_drop, List.length_take, List.length_append, List.length_set, List.length_cons, List.length_nil, OrOk] at *; omega) | (simp; omega))
                | (apply sp_i; first | exact rfl | omega | exact ⟨rfl, rfl, by omega⟩ | exact ⟨rfl, by omega⟩ | exact ⟨rfl, by omega, by omega, by omega⟩ | exact ⟨⟨_, rfl⟩, by omega⟩ | exact ⟨⟨_, rfl⟩, by omega, by omega⟩ | assumption | decide | (simp only [List.length_drop, List.length_take, List.length_append, List.length_set, List.length_cons, List.length_nil, OrOk] at *; omega) | (simp; omega))
                | (apply sc_true) | (apply sc_false)
                | (first | apply sc_lt | apply sc_nlt | apply sc_eq | apply sc_neq | apply sc_nil | apply sc_nnil | apply sc_seq | apply sc_nseq); all_goals (intro hb; try (first | (exfalso; omega) | exact absurd rfl hb | exact absurd hb (by decide) | exact absurd hb (by assumption) | exact absurd (by assumption) hb | (exfalso; simp only [List.length_cons, List.length_nil, List.length_append] at hb; omega)))
                | (apply sc_not) | (apply sc_or) | (apply sc_i; all_goals intro hb)
                | (first | apply ix_nat | apply ix_int); first | omega | (simp only [List.length_drop, List.length_take, List.length_append, List.length_set, List.length_cons, List.length_nil] at *; omega)
                | (apply bx_i; intro hbd) | (apply gt_i; assumption; exact rfl)
                | (first | apply sd_nat | apply sd_int | apply sl_nat | apply sl_int); first | omega | (simp only [List.length_drop, List.length_take, List.length_append, List.length_set, List.length_cons, List.length_nil] at *; omega)
                | (apply cx_is; first | fail) | (apply cx_do (i := 0) rfl; first | fail)
                | (apply ab_i; intro bl) | (apply as_i; intro va vk vc hva) | (apply av_i; intro v) | (apply ac_i; intro bl cap hcap)
                | (apply bo_l) | (apply ch_r; apply sp_i; assumption) | (apply ch_r; apply sp_i; intro i hi; exact ⟨rfl, rfl, rfl⟩) | (apply nx_i; all_goals intro hnx)
                | (apply Ia.hit; assumption) | (apply Ia.miss; assumption)
                | (apply rt_is; exact rfl) | (apply rt_do; exact rfl; (repeat (first | exact List.nil_sublist _ | apply List.Sublist.cons_cons))) | (apply iv; assumption)
                | (exact True.intro) | (apply bc_i; intro C hC) | (apply bt_i) | (apply og_n) | (apply og_a; exact rfl))
            all_goals (try conv => whnf)
            · refine nxT (a + n + 2, [⟨(t.take (a + n)).drop a, a, []⟩], bv, vc, .slice none 0 0) ⟨by simp, ?_, fun l h => by have e : (⟨(t.take (a + n)).drop a, a, []⟩ : LineS) = l := (by simpa using h); subst e; exact ⟨by show ((t.take (a + n)).drop a).length ≤ _; omega, Nat.zero_le _⟩⟩ (by dsimp only; omega) ?_
              · dsimp only
                rw [g2, h2, addP_new hF (by omega)]
                rfl
              · dsimp only
                refine to_trans (to_sub (e' := [(0, .str t), (4, .own 0 (.slice (some ⟨bv, 0, none⟩) 1 vc)), (5, .int .i64 ((a + n + 2 : Nat) : Int))]) (h' := [.row (.slice (some ⟨bv, 0, none⟩) 1 vc) none 3 1 [.str ((t.take (a + n)).drop a), .int .i64 a, .raw (.slice none 0 0)]]) ⟨rfl, rfl, congrArg (fun z => some (AVal.int .i64 z)) (by omega), trivial⟩ (by exact List.Sublist.cons_cons _ (List.nil_sublist _))) (to_line0 rfl)
        · rw [List.concat_eq_append] at *
          have hll : (I ++ [l]).length = I.length + 1 := by simp
          rw [growC_snoc, lastF_snoc, hll]
          rw [hll] at g1
          obtain ⟨g4, g5⟩ := g3 l (by simp)
          have hdl : (((t.take (a + n)).drop a).drop 1).length = n - 1 := by rw [List.length_drop, hpl]
          have hI3 := linesC_len I
          have q2 : (ownL I l.t l.a u)[I.length * 3 + 2]? = some (.own 1 u) := get3 hI3
          have q0 : ∀ u, (ownL I l.t l.a u)[I.length * 3 + 0]? = some (.str l.t) := fun u => get3 hI3
          have q0' := q0 u
          have ra : RowAt (rowVal b cap (I.length + 1)) b (I.length + 1) := ⟨cap, rfl⟩
          have ra2 : RowAt (rowVal b cap (I.length + 1)) b (I.length + 1) ∧ I.length * 3 + 2 < (I.length + 1) * 3 := ⟨ra, by omega⟩
          have ra0 : RowAt (rowVal b cap (I.length + 1)) b (I.length + 1) ∧ I.length * 3 + 0 < (I.length + 1) * 3 := ⟨ra, by omega⟩
          have rb2 : RowAt (rowVal b cap (I.length + 1)) b (I.length + 1) ∧ I.length * 3 + 2 + 1 ≤ (I.length + 1) * 3 ∧ 0 < I.length + 1 := ⟨ra, by omega, by omega⟩
          have rb0 : RowAt (rowVal b cap (I.length + 1)) b (I.length + 1) ∧ I.length * 3 + 0 + 1 ≤ (I.length + 1) * 3 ∧ 0 < I.length + 1 := ⟨ra, by omega, by omega⟩
          repeat' (first
            | (conv => whnf); first
              | (apply ch_l; apply sp_i; first | exact rfl | omega | exact ⟨rfl, rfl, by omega⟩ | exact ⟨rfl, by omega⟩ | exact ⟨rfl, by omega, by omega, by omega⟩ | exact ⟨⟨_, rfl⟩, by omega⟩ | exact ⟨⟨_, rfl⟩, by omega, by omega⟩ | assumption | decide | (simp only [List.length_drop, List.length_take, List.length_append, List.length_set, List.length_cons, List.length_nil, OrOk] at *; omega) | (simp; omega))
              | (apply sp_i; first | exact rfl | omega | exact ⟨rfl, rfl, by omega⟩ | exact ⟨rfl, by omega⟩ | exact ⟨rfl, by omega, by omega, by omega⟩ | exact ⟨⟨_, rfl⟩, by omega⟩ | exact ⟨⟨_, rfl⟩, by omega, by omega⟩ | assumption | decide | (simp only [List.length_drop, List.length_take, List.length_append, List.length_set, List.length_cons, List.length_nil, OrOk] at *; omega) | (simp; omega))
              | (apply sc_true) | (apply sc_false)
              | (first | apply sc_lt | apply sc_nlt | apply sc_eq | apply sc_neq | apply sc_nil | apply sc_nnil | apply sc_seq | apply sc_nseq); all_goals (intro hb; try (first | (exfalso; omega) | exact absurd rfl hb | exact absurd hb (by decide) | exact absurd hb (by assumption) | exact absurd (by assumption) hb | (exfalso; simp only [List.length_cons, List.length_nil, List.length_append] at hb; omega)))
              | (apply sc_not) | (apply sc_or) | (apply sc_i; all_goals intro hb)
              | (first | apply ix_nat | apply ix_int); first | omega | (simp only [List.length_drop, List.length_take, List.length_append, List.length_set, List.length_cons, List.length_nil] at *; omega)
              | (apply bx_i; intro hbd) | (apply gt_i; assumption; exact rfl)
              | (first | apply sd_nat | apply sd_int | apply sl_nat | apply sl_int); first | omega | (simp only [List.length_drop, List.length_take, List.length_append, List.length_set, List.length_cons, List.length_nil] at *; omega)
              | (apply cx_is; first | exact hI | exact hP) | (apply cx_do (i := 0) rfl; first | exact hI | exact hP)
              | (apply ab_i; intro bl) | (apply as_i; intro va vk vc hva) | (apply av_i; intro v) | (apply ac_i; intro bl cap hcap)
              | (apply bo_l) | (apply ch_r; apply sp_i; assumption) | (apply ch_r; apply sp_i; intro i hi; exact ⟨rfl, rfl, rfl⟩) | (apply nx_i; all_goals intro hnx)
              | (apply Ia.hit; assumption) | (apply Ia.miss; assumption)
              | (apply rt_is; exact rfl) | (apply rt_do; exact rfl; (repeat (first | exact List.nil_sublist _ | apply List.Sublist.cons_cons))) | (apply iv; assumption)
              | (exact True.intro) | (apply bc_i; intro C hC) | (apply bt_i) | (apply og_n) | (apply og_a; exact rfl))
          all_goals (try conv => whnf)
          iterate 2
            · have hF : isFold ((t.take (a + n)).drop a) = true := by first | exact isFold_y1 (by assumption) (by assumption) | exact isFold_y2 (by assumption) (by assumption)
              refine dw_to (e' := [(0, .str t), (4, .own 0 (rowVal b cap (I.length + 1))), (5, .int .i64 a), (6, .int .i64 n), (7, .str ((t.take (a + n)).drop a)), (8, .own 0 (.pointer (some ⟨b, I.length * 3, none⟩)))]) (to_sub ⟨rfl, rfl, rfl, rfl, rfl, congrArg (fun z => some (AVal.own 0 (.pointer (some ⟨b, z, none⟩)))) (show (((I.length + 1 : Nat) : Int) - 1).toNat * 3 = I.length * 3 by omega), trivial⟩ (List.Sublist.refl _)) ?_
              refine dw_p mixed hC hGL false (fun (_ : Option Addr × Nat × Nat) => [(0, .str t), (4, .own 0 (rowVal b cap (I.length + 1))), (5, .int .i64 a), (6, .int .i64 n), (7, .str ((t.take (a + n)).drop a)), (8, .own 0 (.pointer (some ⟨b, I.length * 3, none⟩)))]) (fun y => [.row (rowVal b cap (I.length + 1)) none 3 (I.length + 1) ((ownL I l.t l.a u).take (I.length * 3 + 2) ++ [.own 1 (.slice y.1 y.2.1 y.2.2)] ++ (ownL I l.t l.a u).drop (I.length * 3 + 2 + 1)), .row (.slice y.1 y.2.1 y.2.2) none 1 (l.f.length + 1) (intsC l.f ++ [.int .i64 l.t.length])]) (.take 0 (.take 1 (.take 2 (.take 3 (.take 5 (.take 6 (.take 7 (.br 4 (.br 8 (.br 9 (.br 10 (.br 11 (.take 12 (.take 13 (.br 14 (.done) (.nil)))) (.nil)) (.nil)) (.nil)) (.nil)) (.br 8 (.br 4 (.br 9 (.br 10 (.br 11 (.take 12 (.take 13 (.br 14 (.done) (.nil)))) (.nil)) (.nil)) (.nil)) (.br 9 (.br 4 (.br 10 (.br 11 (.take 12 (.take 13 (.br 14 (.done) (.nil)))) (.nil)) (.nil)) (.br 10 (.br 4 (.br 11 (.take 12 (.take 13 (.br 14 (.done) (.nil)))) (.nil)) (.nil)) (.nil))) (.nil))) (.nil)))))))))) (by kernel_rfl) ?_ ?_
              · repeat' (first
                  | (conv => whnf); first
                    | (apply ch_l; apply sp_i; first | exact rfl | omega | exact ⟨rfl, rfl, by omega⟩ | exact ⟨rfl, by omega⟩ | exact ⟨rfl, by omega, by omega, by omega⟩ | exact ⟨⟨_, rfl⟩, by omega⟩ | exact ⟨⟨_, rfl⟩, by omega, by omega⟩ | assumption | decide | (simp only [List.length_drop, List.length_take, List.length_append, List.length_set, List.length_cons, List.length_nil, OrOk] at *; omega) | (simp; omega))
                    | (apply sp_i; first | exact rfl | omega | exact ⟨rfl, rfl, by omega⟩ | exact ⟨rfl, by omega⟩ | exact ⟨rfl, by omega, by omega, by omega⟩ | exact ⟨⟨_, rfl⟩, by omega⟩ | exact ⟨⟨_, rfl⟩, by omega, by omega⟩ | assumption | decide | (simp only [List.length_drop, List.length_take, List.length_append, List.length_set, List.length_cons, List.length_nil, OrOk] at *; omega) | (simp; omega))
                    | (apply sc_true) | (apply sc_false)
                    | (first | apply sc_lt | apply sc_nlt | apply sc_eq | apply sc_neq | apply sc_nil | apply sc_nnil | apply sc_seq | apply sc_nseq); all_goals (intro hb; try (first | (exfalso; omega) | exact absurd rfl hb | exact absurd hb (by decide) | exact absurd hb (by assumption) | exact absurd (by assumption) hb | (exfalso; simp only [List.length_cons, List.length_nil, List.length_append] at hb; omega)))
                    | (apply sc_not) | (apply sc_or) | (apply sc_i; all_goals intro hb)
                    | (first | apply ix_nat | apply ix_int); first | omega | (simp only [List.length_drop, List.length_take, List.length_append, List.length_set, List.length_cons, List.length_nil] at *; omega)
                    | (apply bx_i; intro hbd) | (apply gt_i; assumption; exact rfl)
                    | (first | apply sd_nat | apply sd_int | apply sl_nat | apply sl_int); first | omega | (simp only [List.length_drop, List.length_take, List.length_append, List.length_set, List.length_cons, List.length_nil] at *; omega)
                    | (apply cx_is; first | fail) | (apply cx_do (i := 0) rfl; first | fail)
                    | (apply ab_i; intro bl) | (apply as_i; intro va vk vc hva) | (apply av_i; intro v) | (apply ac_i; intro bl cap hcap)
                    | (apply bo_l) | (apply ch_r; apply sp_i; assumption) | (apply ch_r; apply sp_i; intro i hi; exact ⟨rfl, rfl, rfl⟩) | (apply nx_i; all_goals intro hnx)
                    | (apply Ia.hit; assumption) | (apply Ia.miss; assumption)
                    | (apply rt_is; exact rfl) | (apply rt_do; exact rfl; (repeat (first | exact List.nil_sublist _ | apply List.Sublist.cons_cons))) | (apply iv; assumption)
                    | (exact True.intro) | (apply bc_i; intro C hC) | (apply bt_i) | (apply og_n) | (apply og_a; exact rfl))
                all_goals (try conv => whnf)
                all_goals exact ⟨(va, vk, vc), ⟨rfl, rfl, rfl, rfl, rfl, rfl, trivial⟩, rfl⟩
              · rintro ⟨va, vk, vc⟩
                dsimp only
                rw [field3 hI3]
                have q0' := q0 (.slice va vk vc)
                repeat' (first
                  | (conv => whnf); first
                    | (apply ch_l; apply sp_i; first | exact rfl | omega | exact ⟨rfl, rfl, by omega⟩ | exact ⟨rfl, by omega⟩ | exact ⟨rfl, by omega, by omega, by omega⟩ | exact ⟨⟨_, rfl⟩, by omega⟩ | exact ⟨⟨_, rfl⟩, by omega, by omega⟩ | assumption | decide | (simp only [List.length_drop, List.length_take, List.length_append, List.length_set, List.length_cons, List.length_nil, OrOk] at *; omega) | (simp; omega))
                    | (apply sp_i; first | exact rfl | omega | exact ⟨rfl, rfl, by omega⟩ | exact ⟨rfl, by omega⟩ | exact ⟨rfl, by omega, by omega, by omega⟩ | exact ⟨⟨_, rfl⟩, by omega⟩ | exact ⟨⟨_, rfl⟩, by omega, by omega⟩ | assumption | decide | (simp only [List.length_drop, List.length_take, List.length_append, List.length_set, List.length_cons, List.length_nil, OrOk] at *; omega) | (simp; omega))
                    | (apply sc_true) | (apply sc_false)
                    | (first | apply sc_lt | apply sc_nlt | apply sc_eq | apply sc_neq | apply sc_nil | apply sc_nnil | apply sc_seq | apply sc_nseq); all_goals (intro hb; try (first | (exfalso; omega) | exact absurd rfl hb | exact absurd hb (by decide) | exact absurd hb (by assumption) | exact absurd (by assumption) hb | (exfalso; simp only [List.length_cons, List.length_nil, List.length_append] at hb; omega)))
                    | (apply sc_not) | (apply sc_or) | (apply sc_i; all_goals intro hb)
                    | (first | apply ix_nat | apply ix_int); first | omega | (simp only [List.length_drop, List.length_take, List.length_append, List.length_set, List.length_cons, List.length_nil] at *; omega)
                    | (apply bx_i; intro hbd) | (apply gt_i; assumption; exact rfl)
                    | (first | apply sd_nat | apply sd_int | apply sl_nat | apply sl_int); first | omega | (simp only [List.length_drop, List.length_take, List.length_append, List.length_set, List.length_cons, List.length_nil] at *; omega)
                    | (apply cx_is; first | fail) | (apply cx_do (i := 0) rfl; first | fail)
                    | (apply ab_i; intro bl) | (apply as_i; intro va vk vc hva) | (apply av_i; intro v) | (apply ac_i; intro bl cap hcap)
                    | (apply bo_l) | (apply ch_r; apply sp_i; assumption) | (apply ch_r; apply sp_i; intro i hi; exact ⟨rfl, rfl, rfl⟩) | (apply nx_i; all_goals intro hnx)
                    | (apply Ia.hit; assumption) | (apply Ia.miss; assumption)
                    | (apply rt_is; exact rfl) | (apply rt_do; exact rfl; (repeat (first | exact List.nil_sublist _ | apply List.Sublist.cons_cons))) | (apply iv; assumption)
                    | (exact True.intro) | (apply bc_i; intro C hC) | (apply bt_i) | (apply og_n) | (apply og_a; exact rfl))
                all_goals (try conv => whnf)
                refine dw_p mixed hC hGL false (fun (_ : Unit) => [(0, .str t), (4, .own 0 (rowVal b cap (I.length + 1))), (5, .int .i64 a), (6, .int .i64 n), (7, .str ((t.take (a + n)).drop a))]) (fun _ => [.row (rowVal b cap (I.length + 1)) none 3 (I.length + 1) ((ownL I l.t l.a (.slice va vk vc)).take (I.length * 3 + 0) ++ [.str (l.t ++ ((t.take (a + n)).drop a).drop 1)] ++ (ownL I l.t l.a (.slice va vk vc)).drop (I.length * 3 + 0 + 1)), .row (.slice va vk vc) none 1 (l.f.length + 1) (intsC l.f ++ [.int .i64 l.t.length])]) (.take 0 (.take 1 (.take 2 (.take 4 (.take 5 (.br 3 (.take 6 (.take 7 (.take 8 (.br 9 (.done) (.nil))))) (.nil))))))) (by kernel_rfl) ?_ ?_
                · repeat' (first
                    | (conv => whnf); first
                      | (apply ch_l; apply sp_i; first | exact rfl | omega | exact ⟨rfl, rfl, by omega⟩ | exact ⟨rfl, by omega⟩ | exact ⟨rfl, by omega, by omega, by omega⟩ | exact ⟨⟨_, rfl⟩, by omega⟩ | exact ⟨⟨_, rfl⟩, by omega, by omega⟩ | assumption | decide | (simp only [List.length_drop, List.length_take, List.length_append, List.length_set, List.length_cons, List.length_nil, OrOk] at *; omega) | (simp; omega))
                      | (apply sp_i; first | exact rfl | omega | exact ⟨rfl, rfl, by omega⟩ | exact ⟨rfl, by omega⟩ | exact ⟨rfl, by omega, by omega, by omega⟩ | exact ⟨⟨_, rfl⟩, by omega⟩ | exact ⟨⟨_, rfl⟩, by omega, by omega⟩ | assumption | decide | (simp only [List.length_drop, List.length_take, List.length_append, List.length_set, List.length_cons, List.length_nil, OrOk] at *; omega) | (simp; omega))
                      | (apply sc_true) | (apply sc_false)
                      | (first | apply sc_lt | apply sc_nlt | apply sc_eq | apply sc_neq | apply sc_nil | apply sc_nnil | apply sc_seq | apply sc_nseq); all_goals (intro hb; try (first | (exfalso; omega) | exact absurd rfl hb | exact absurd hb (by decide) | exact absurd hb (by assumption) | exact absurd (by assumption) hb | (exfalso; simp only [List.length_cons, List.length_nil, List.length_append] at hb; omega)))
                      | (apply sc_not) | (apply sc_or) | (apply sc_i; all_goals intro hb)
                      | (first | apply ix_nat | apply ix_int); first | omega | (simp only [List.length_drop, List.length_take, List.length_append, List.length_set, List.length_cons, List.length_nil] at *; omega)
                      | (apply bx_i; intro hbd) | (apply gt_i; assumption; exact rfl)
                      | (first | apply sd_nat | apply sd_int | apply sl_nat | apply sl_int); first | omega | (simp only [List.length_drop, List.length_take, List.length_append, List.length_set, List.length_cons, List.length_nil] at *; omega)
                      | (apply cx_is; first | fail) | (apply cx_do (i := 0) rfl; first | fail)
                      | (apply ab_i; intro bl) | (apply as_i; intro va vk vc hva) | (apply av_i; intro v) | (apply ac_i; intro bl cap hcap)
                      | (apply bo_l) | (apply ch_r; apply sp_i; assumption) | (apply ch_r; apply sp_i; intro i hi; exact ⟨rfl, rfl, rfl⟩) | (apply nx_i; all_goals intro hnx)
                      | (apply Ia.hit; assumption) | (apply Ia.miss; assumption)
                      | (apply rt_is; exact rfl) | (apply rt_do; exact rfl; (repeat (first | exact List.nil_sublist _ | apply List.Sublist.cons_cons))) | (apply iv; assumption)
                      | (exact True.intro) | (apply bc_i; intro C hC) | (apply bt_i) | (apply og_n) | (apply og_a; exact rfl))
                  all_goals (try conv => whnf)
                  all_goals exact ⟨(), ⟨rfl, rfl, rfl, rfl, rfl, trivial⟩, rfl⟩
                · intro _
                  rw [field1 hI3]
                  repeat' (first
                    | (conv => whnf); first
                      | (apply ch_l; apply sp_i; first | exact rfl | omega | exact ⟨rfl, rfl, by omega⟩ | exact ⟨rfl, by omega⟩ | exact ⟨rfl, by omega, by omega, by omega⟩ | exact ⟨⟨_, rfl⟩, by omega⟩ | exact ⟨⟨_, rfl⟩, by omega, by omega⟩ | assumption | decide | (simp only [List.length_drop, List.length_take, List.length_append, List.length_set, List.length_cons, List.length_nil, OrOk] at *; omega) | (simp; omega))
                      | (apply sp_i; first | exact rfl | omega | exact ⟨rfl, rfl, by omega⟩ | exact ⟨rfl, by omega⟩ | exact ⟨rfl, by omega, by omega, by omega⟩ | exact ⟨⟨_, rfl⟩, by omega⟩ | exact ⟨⟨_, rfl⟩, by omega, by omega⟩ | assumption | decide | (simp only [List.length_drop, List.length_take, List.length_append, List.length_set, List.length_cons, List.length_nil, OrOk] at *; omega) | (simp; omega))
                      | (apply sc_true) | (apply sc_false)
                      | (first | apply sc_lt | apply sc_nlt | apply sc_eq | apply sc_neq | apply sc_nil | apply sc_nnil | apply sc_seq | apply sc_nseq); all_goals (intro hb; try (first | (exfalso; omega) | exact absurd rfl hb | exact absurd hb (by decide) | exact absurd hb (by assumption) | exact absurd (by assumption) hb | (exfalso; simp only [List.length_cons, List.length_nil, List.length_append] at hb; omega)))
                      | (apply sc_not) | (apply sc_or) | (apply sc_i; all_goals intro hb)
                      | (first | apply ix_nat | apply ix_int); first | omega | (simp only [List.length_drop, List.length_take, List.length_append, List.length_set, List.length_cons, List.length_nil] at *; omega)
                      | (apply bx_i; intro hbd) | (apply gt_i; assumption; exact rfl)
                      | (first | apply sd_nat | apply sd_int | apply sl_nat | apply sl_int); first | omega | (simp only [List.length_drop, List.length_take, List.length_append, List.length_set, List.length_cons, List.length_nil] at *; omega)
                      | (apply cx_is; first | fail) | (apply cx_do (i := 0) rfl; first | fail)
                      | (apply ab_i; intro bl) | (apply as_i; intro va vk vc hva) | (apply av_i; intro v) | (apply ac_i; intro bl cap hcap)
                      | (apply bo_l) | (apply ch_r; apply sp_i; assumption) | (apply ch_r; apply sp_i; intro i hi; exact ⟨rfl, rfl, rfl⟩) | (apply nx_i; all_goals intro hnx)
                      | (apply Ia.hit; assumption) | (apply Ia.miss; assumption)
                      | (apply rt_is; exact rfl) | (apply rt_do; exact rfl; (repeat (first | exact List.nil_sublist _ | apply List.Sublist.cons_cons))) | (apply iv; assumption)
                      | (exact True.intro) | (apply bc_i; intro C hC) | (apply bt_i) | (apply og_n) | (apply og_a; exact rfl))
                  all_goals (try conv => whnf)
                  refine sp_i ⟨ra, show (((I.length + 1 : Nat) : Int) - 1).toNat * 3 + 3 ≤ (I.length + 1) * 3 by omega, by omega⟩ ?_
                  refine gs_i (c := [.str (l.t ++ ((t.take (a + n)).drop a).drop 1), .int .i64 l.a, .own 1 (.slice va vk vc)]) (take3 hI3 (show (((I.length + 1 : Nat) : Int) - 1).toNat * 3 = I.length * 3 by omega)) ?_
                  have hal : (l.t ++ ((t.take (a + n)).drop a).drop 1).length = l.t.length + (n - 1) := by rw [List.length_append, hdl]
                  repeat' (first
                    | (conv => whnf); first
                      | (apply ch_l; apply sp_i; first | exact rfl | omega | exact ⟨rfl, rfl, by omega⟩ | exact ⟨rfl, by omega⟩ | exact ⟨rfl, by omega, by omega, by omega⟩ | exact ⟨⟨_, rfl⟩, by omega⟩ | exact ⟨⟨_, rfl⟩, by omega, by omega⟩ | assumption | decide | (simp only [List.length_drop, List.length_take, List.length_append, List.length_set, List.length_cons, List.length_nil, OrOk] at *; omega) | (simp; omega))
                      | (apply sp_i; first | exact rfl | omega | exact ⟨rfl, rfl, by omega⟩ | exact ⟨rfl, by omega⟩ | exact ⟨rfl, by omega, by omega, by omega⟩ | exact ⟨⟨_, rfl⟩, by omega⟩ | exact ⟨⟨_, rfl⟩, by omega, by omega⟩ | assumption | decide | (simp only [List.length_drop, List.length_take, List.length_append, List.length_set, List.length_cons, List.length_nil, OrOk] at *; omega) | (simp; omega))
                      | (apply sc_true) | (apply sc_false)
                      | (first | apply sc_lt | apply sc_nlt | apply sc_eq | apply sc_neq | apply sc_nil | apply sc_nnil | apply sc_seq | apply sc_nseq); all_goals (intro hb; try (first | (exfalso; omega) | exact absurd rfl hb | exact absurd hb (by decide) | exact absurd hb (by assumption) | exact absurd (by assumption) hb | (exfalso; simp only [List.length_cons, List.length_nil, List.length_append] at hb; omega)))
                      | (apply sc_not) | (apply sc_or) | (apply sc_i; all_goals intro hb)
                      | (first | apply ix_nat | apply ix_int); first | omega | (simp only [List.length_drop, List.length_take, List.length_append, List.length_set, List.length_cons, List.length_nil] at *; omega)
                      | (apply bx_i; intro hbd) | (apply gt_i; assumption; exact rfl)
                      | (first | apply sd_nat | apply sd_int | apply sl_nat | apply sl_int); first | omega | (simp only [List.length_drop, List.length_take, List.length_append, List.length_set, List.length_cons, List.length_nil] at *; omega)
                      | (apply cx_is; first | fail) | (apply cx_do (i := 0) rfl; first | fail)
                      | (apply ab_i; intro bl) | (apply as_i; intro va vk vc hva) | (apply av_i; intro v) | (apply ac_i; intro bl cap hcap)
                      | (apply bo_l) | (apply ch_r; apply sp_i; assumption) | (apply ch_r; apply sp_i; intro i hi; exact ⟨rfl, rfl, rfl⟩) | (apply nx_i; all_goals intro hnx)
                      | (apply Ia.hit; assumption) | (apply Ia.miss; assumption)
                      | (apply rt_is; exact rfl) | (apply rt_do; exact rfl; (repeat (first | exact List.nil_sublist _ | apply List.Sublist.cons_cons))) | (apply iv; assumption)
                      | (exact True.intro) | (apply bc_i; intro C hC) | (apply bt_i) | (apply og_n) | (apply og_a; exact rfl))
                  all_goals (try conv => whnf)
                  · refine dw_p mixed hC hGL false (fun (_ : Unit) => [(2, .raw (.slice none 0 0)), (3, atA 4 l.a)]) (fun _ => [.row (rowVal b cap (I.length + 1)) none 3 (I.length + 1) (linesC I ++ [.str (l.t ++ ((t.take (a + n)).drop a).drop 1), .int .i64 l.a, .own 1 (.slice va vk vc)]), .row (.slice va vk vc) none 1 (l.f.length + 1) (intsC l.f ++ [.int .i64 l.t.length]), .cells bl (some 39) [.str (l.t ++ ((t.take (a + n)).drop a).drop 1), .int .i64 l.a, .own 1 (.slice va vk vc)]]) (.take 0 (.take 5 (.br 1 (.br 2 (.br 3 (.br 4 (.br 6 (.done) (.nil)) (.nil)) (.nil)) (.nil)) (.nil)))) (by kernel_rfl) ?_ ?_
                    · repeat' (first
                        | (conv => whnf); first
                          | (apply ch_l; apply sp_i; first | exact rfl | omega | exact ⟨rfl, rfl, by omega⟩ | exact ⟨rfl, by omega⟩ | exact ⟨rfl, by omega, by omega, by omega⟩ | exact ⟨⟨_, rfl⟩, by omega⟩ | exact ⟨⟨_, rfl⟩, by omega, by omega⟩ | assumption | decide | (simp only [List.length_drop, List.length_take, List.length_append, List.length_set, List.length_cons, List.length_nil, OrOk] at *; omega) | (simp; omega))
                          | (apply sp_i; first | exact rfl | omega | exact ⟨rfl, rfl, by omega⟩ | exact ⟨rfl, by omega⟩ | exact ⟨rfl, by omega, by omega, by omega⟩ | exact ⟨⟨_, rfl⟩, by omega⟩ | exact ⟨⟨_, rfl⟩, by omega, by omega⟩ | assumption | decide | (simp only [List.length_drop, List.length_take, List.length_append, List.length_set, List.length_cons, List.length_nil, OrOk] at *; omega) | (simp; omega))
                          | (apply sc_true) | (apply sc_false)
                          | (first | apply sc_lt | apply sc_nlt | apply sc_eq | apply sc_neq | apply sc_nil | apply sc_nnil | apply sc_seq | apply sc_nseq); all_goals (intro hb; try (first | (exfalso; omega) | exact absurd rfl hb | exact absurd hb (by decide) | exact absurd hb (by assumption) | exact absurd (by assumption) hb | (exfalso; simp only [List.length_cons, List.length_nil, List.length_append] at hb; omega)))
                          | (apply sc_not) | (apply sc_or) | (apply sc_i; all_goals intro hb)
                          | (first | apply ix_nat | apply ix_int); first | omega | (simp only [List.length_drop, List.length_take, List.length_append, List.length_set, List.length_cons, List.length_nil] at *; omega)
                          | (apply bx_i; intro hbd) | (apply gt_i; assumption; exact rfl)
                          | (first | apply sd_nat | apply sd_int | apply sl_nat | apply sl_int); first | omega | (simp only [List.length_drop, List.length_take, List.length_append, List.length_set, List.length_cons, List.length_nil] at *; omega)
                          | (apply cx_is; first | fail) | (apply cx_do (i := 0) rfl; first | fail)
                          | (apply ab_i; intro bl) | (apply as_i; intro va vk vc hva) | (apply av_i; intro v) | (apply ac_i; intro bl cap hcap)
                          | (apply bo_l) | (apply ch_r; apply sp_i; assumption) | (apply ch_r; apply sp_i; intro i hi; exact ⟨rfl, rfl, rfl⟩) | (apply nx_i; all_goals intro hnx)
                          | (apply Ia.hit; assumption) | (apply Ia.miss; assumption)
                          | (apply rt_is; exact rfl) | (apply rt_do; exact rfl; (repeat (first | exact List.nil_sublist _ | apply List.Sublist.cons_cons))) | (apply iv; assumption)
                          | (exact True.intro) | (apply bc_i; intro C hC) | (apply bt_i) | (apply og_n) | (apply og_a; exact rfl))
                      all_goals (try conv => whnf)
                      all_goals exact ⟨(), ⟨rfl, rfl, trivial⟩, rfl⟩
                    · intro _
                      repeat' (first
                        | (conv => whnf); first
                          | (apply ch_l; apply sp_i; first | exact rfl | omega | exact ⟨rfl, rfl, by omega⟩ | exact ⟨rfl, by omega⟩ | exact ⟨rfl, by omega, by omega, by omega⟩ | exact ⟨⟨_, rfl⟩, by omega⟩ | exact ⟨⟨_, rfl⟩, by omega, by omega⟩ | assumption | decide | (simp only [List.length_drop, List.length_take, List.length_append, List.length_set, List.length_cons, List.length_nil, OrOk] at *; omega) | (simp; omega))
                          | (apply sp_i; first | exact rfl | omega | exact ⟨rfl, rfl, by omega⟩ | exact ⟨rfl, by omega⟩ | exact ⟨rfl, by omega, by omega, by omega⟩ | exact ⟨⟨_, rfl⟩, by omega⟩ | exact ⟨⟨_, rfl⟩, by omega, by omega⟩ | assumption | decide | (simp only [List.length_drop, List.length_take, List.length_append, List.length_set, List.length_cons, List.length_nil, OrOk] at *; omega) | (simp; omega))
                          | (apply sc_true) | (apply sc_false)
                          | (first | apply sc_lt | apply sc_nlt | apply sc_eq | apply sc_neq | apply sc_nil | apply sc_nnil | apply sc_seq | apply sc_nseq); all_goals (intro hb; try (first | (exfalso; omega) | exact absurd rfl hb | exact absurd hb (by decide) | exact absurd hb (by assumption) | exact absurd (by assumption) hb | (exfalso; simp only [List.length_cons, List.length_nil, List.length_append] at hb; omega)))
                          | (apply sc_not) | (apply sc_or) | (apply sc_i; all_goals intro hb)
                          | (first | apply ix_nat | apply ix_int); first | omega | (simp only [List.length_drop, List.length_take, List.length_append, List.length_set, List.length_cons, List.length_nil] at *; omega)
                          | (apply bx_i; intro hbd) | (apply gt_i; assumption; exact rfl)
                          | (first | apply sd_nat | apply sd_int | apply sl_nat | apply sl_int); first | omega | (simp only [List.length_drop, List.length_take, List.length_append, List.length_set, List.length_cons, List.length_nil] at *; omega)
                          | (apply cx_is; first | fail) | (apply cx_do (i := 0) rfl; first | fail)
                          | (apply ab_i; intro bl) | (apply as_i; intro va vk vc hva) | (apply av_i; intro v) | (apply ac_i; intro bl cap hcap)
                          | (apply bo_l) | (apply ch_r; apply sp_i; assumption) | (apply ch_r; apply sp_i; intro i hi; exact ⟨rfl, rfl, rfl⟩) | (apply nx_i; all_goals intro hnx)
                          | (apply Ia.hit; assumption) | (apply Ia.miss; assumption)
                          | (apply rt_is; exact rfl) | (apply rt_do; exact rfl; (repeat (first | exact List.nil_sublist _ | apply List.Sublist.cons_cons))) | (apply iv; assumption)
                          | (exact True.intro) | (apply bc_i; intro C hC) | (apply bt_i) | (apply og_n) | (apply og_a; exact rfl))
                      all_goals (try conv => whnf)
                      refine ⟨[], List.nil_sublist _, .inl ⟨?_, by rw [hL, h2, addP_fold_long hF (by omega)], rfl⟩⟩
                      rw [hE, h2, addP_fold_long hF (by omega)]
                      rfl
                  · refine nxT (a + n + 2, I ++ [⟨l.t ++ ((t.take (a + n)).drop a).drop 1, l.a, l.f ++ [(l.t.length : Int)]⟩], b, cap, (.slice va vk vc)) ⟨by simp only [List.length_append, List.length_cons, List.length_nil]; omega, ?_, fun l' h => by have e : (⟨l.t ++ ((t.take (a + n)).drop a).drop 1, l.a, l.f ++ [(l.t.length : Int)]⟩ : LineS) = l' := (by simpa using h); subst e; exact ⟨by show (l.t ++ ((t.take (a + n)).drop a).drop 1).length ≤ _; omega, by show (l.f ++ [(l.t.length : Int)]).length ≤ _; rw [List.length_append, List.length_cons, List.length_nil]; omega⟩⟩ (by dsimp only; omega) ?_
                    · dsimp only
                      rw [g2, h2, addP_fold hF (by omega)]
                    · dsimp only
                      have hm : (I ++ [(⟨l.t ++ ((t.take (a + n)).drop a).drop 1, l.a, l.f ++ [(l.t.length : Int)]⟩ : LineS)]).length = I.length + 1 := by simp
                      rw [growC_snoc, lastF_snoc, hm]
                      refine to_sub ⟨rfl, rfl, congrArg (fun z => some (AVal.int .i64 z)) (by omega), trivial⟩ ?_
                      dsimp only
                      rw [← intsC_snoc, List.length_append]
                      exact List.Sublist.cons_cons _ (List.Sublist.cons_cons _ (List.nil_sublist _))
          · have hF : isFold ((t.take (a + n)).drop a) = false := by first | exact isFold_n0 (by assumption) | exact isFold_n (by assumption) (by assumption)
            obtain ⟨bv, rfl, rfl⟩ := hva (by omega)
            repeat' (first
              | (conv => whnf); first
                | (apply ch_l; apply sp_i; first | exact rfl | omega | exact ⟨rfl, rfl, by omega⟩ | exact ⟨rfl, by omega⟩ | exact ⟨rfl, by omega, by omega, by omega⟩ | exact ⟨⟨_, rfl⟩, by omega⟩ | exact ⟨⟨_, rfl⟩, by omega, by omega⟩ | assumption | decide | (simp only [List.length_drop, List.length_take, List.length_append, List.length_set, List.length_cons, List.length_nil, OrOk] at *; omega) | (simp; omega))
                | (apply sp_i; first | exact rfl | omega | exact ⟨rfl, rfl, by omega⟩ | exact ⟨rfl, by omega⟩ | exact ⟨rfl, by omega, by omega, by omega⟩ | exact ⟨⟨_, rfl⟩, by omega⟩ | exact ⟨⟨_, rfl⟩, by omega, by omega⟩ | assumption | decide | (simp only [List.length_drop, List.length_take, List.length_append, List.length_set, List.length_cons, List.length_nil, OrOk] at *; omega) | (simp; omega))
                | (apply sc_true) | (apply sc_false)
                | (first | apply sc_lt | apply sc_nlt | apply sc_eq | apply sc_neq | apply sc_nil | apply sc_nnil | apply sc_seq | apply sc_nseq); all_goals (intro hb; try (first | (exfalso; omega) | exact absurd rfl hb | exact absurd hb (by decide) | exact absurd hb (by assumption) | exact absurd (by assumption) hb | (exfalso; simp only [List.length_cons, List.length_nil, List.length_append] at hb; omega)))
                | (apply sc_not) | (apply sc_or) | (apply sc_i; all_goals intro hb)
                | (first | apply ix_nat | apply ix_int); first | omega | (simp only [List.length_drop, List.length_take, List.length_append, List.length_set, List.length_cons, List.length_nil] at *; omega)
                | (apply bx_i; intro hbd) | (apply gt_i; assumption; exact rfl)
                | (first | apply sd_nat | apply sd_int | apply sl_nat | apply sl_int); first | omega | (simp only [List.length_drop, List.length_take, List.length_append, List.length_set, List.length_cons, List.length_nil] at *; omega)
                | (apply cx_is; first | fail) | (apply cx_do (i := 0) rfl; first | fail)
                | (apply ab_i; intro bl) | (apply as_i; intro va vk vc hva) | (apply av_i; intro v) | (apply ac_i; intro bl cap hcap)
                | (apply bo_l) | (apply ch_r; apply sp_i; assumption) | (apply ch_r; apply sp_i; intro i hi; exact ⟨rfl, rfl, rfl⟩) | (apply nx_i; all_goals intro hnx)
                | (apply Ia.hit; assumption) | (apply Ia.miss; assumption)
                | (apply rt_is; exact rfl) | (apply rt_do; exact rfl; (repeat (first | exact List.nil_sublist _ | apply List.Sublist.cons_cons))) | (apply iv; assumption)
                | (apply dw_q mixed hC hGL (by kernel_rfl))
                | (apply cq; assumption; (first | fail); exact rfl))
            all_goals (try conv => whnf)
            refine sp_i ⟨⟨_, rfl⟩, show (((I.length + 1 + 1 : Nat) : Int) - 1).toNat * 3 + 3 ≤ (I.length + 1 + 1) * 3 by omega, by omega⟩ ?_
            refine gs_i (c := [.str ((t.take (a + n)).drop a), .int .i64 a, .raw (.slice none 0 0)]) (take3 (A := ownL I l.t l.a u) (N := (I.length + 1) * 3) (by simp only [List.length_append, hI3, List.length_cons, List.length_nil]; omega) (show (((I.length + 1 + 1 : Nat) : Int) - 1).toNat * 3 = (I.length + 1) * 3 by omega)) ?_
            repeat' (first
              | (conv => whnf); first
                | (apply ch_l; apply sp_i; first | exact rfl | omega | exact ⟨rfl, rfl, by omega⟩ | exact ⟨rfl, by omega⟩ | exact ⟨rfl, by omega, by omega, by omega⟩ | exact ⟨⟨_, rfl⟩, by omega⟩ | exact ⟨⟨_, rfl⟩, by omega, by omega⟩ | assumption | decide | (simp only [List.length_drop, List.length_take, List.length_append, List.length_set, List.length_cons, List.length_nil, OrOk] at *; omega) | (simp; omega))
                | (apply sp_i; first | exact rfl | omega | exact ⟨rfl, rfl, by omega⟩ | exact ⟨rfl, by omega⟩ | exact ⟨rfl, by omega, by omega, by omega⟩ | exact ⟨⟨_, rfl⟩, by omega⟩ | exact ⟨⟨_, rfl⟩, by omega, by omega⟩ | assumption | decide | (simp only [List.length_drop, List.length_take, List.length_append, List.length_set, List.length_cons, List.length_nil, OrOk] at *; omega) | (simp; omega))
                | (apply sc_true) | (apply sc_false)
                | (first | apply sc_lt | apply sc_nlt | apply sc_eq | apply sc_neq | apply sc_nil | apply sc_nnil | apply sc_seq | apply sc_nseq); all_goals (intro hb; try (first | (exfalso; omega) | exact absurd rfl hb | exact absurd hb (by decide) | exact absurd hb (by assumption) | exact absurd (by assumption) hb | (exfalso; simp only [List.length_cons, List.length_nil, List.length_append] at hb; omega)))
                | (apply sc_not) | (apply sc_or) | (apply sc_i; all_goals intro hb)
                | (first | apply ix_nat | apply ix_int); first | omega | (simp only [List.length_drop, List.length_take, List.length_append, List.length_set, List.length_cons, List.length_nil] at *; omega)
                | (apply bx_i; intro hbd) | (apply gt_i; assumption; exact rfl)
                | (first | apply sd_nat | apply sd_int | apply sl_nat | apply sl_int); first | omega | (simp only [List.length_drop, List.length_take, List.length_append, List.length_set, List.length_cons, List.length_nil] at *; omega)
                | (apply cx_is; first | fail) | (apply cx_do (i := 0) rfl; first | fail)
                | (apply ab_i; intro bl) | (apply as_i; intro va vk vc hva) | (apply av_i; intro v) | (apply ac_i; intro bl cap hcap)
                | (apply bo_l) | (apply ch_r; apply sp_i; assumption) | (apply ch_r; apply sp_i; intro i hi; exact ⟨rfl, rfl, rfl⟩) | (apply nx_i; all_goals intro hnx)
                | (apply Ia.hit; assumption) | (apply Ia.miss; assumption)
                | (apply rt_is; exact rfl) | (apply rt_do; exact rfl; (repeat (first | exact List.nil_sublist _ | apply List.Sublist.cons_cons))) | (apply iv; assumption)
                | (exact True.intro) | (apply bc_i; intro C hC) | (apply bt_i) | (apply og_n) | (apply og_a; exact rfl))
            all_goals (try conv => whnf)
            · refine dw_p mixed hC hGL false (fun (_ : Unit) => [(2, .raw (.slice none 0 0)), (3, atA 4 a)]) (fun _ => [.row (.slice (some ⟨bv, 0, none⟩) (I.length + 1 + 1) vc) none 3 (I.length + 1 + 1) (linesC I ++ ([.str l.t, .int .i64 l.a, .own 1 u] : List AVal) ++ ([.str ((t.take (a + n)).drop a), .int .i64 a, .raw (.slice none 0 0)] : List AVal)), .row u none 1 l.f.length (intsC l.f), .cells bl (some 39) [.str ((t.take (a + n)).drop a), .int .i64 a, .raw (.slice none 0 0)]]) (.take 0 (.take 5 (.br 1 (.br 2 (.br 3 (.br 4 (.br 6 (.done) (.nil)) (.nil)) (.nil)) (.nil)) (.nil)))) (by kernel_rfl) ?_ ?_
              · repeat' (first
                  | (conv => whnf); first
                    | (apply ch_l; apply sp_i; first | exact rfl | omega | exact ⟨rfl, rfl, by omega⟩ | exact ⟨rfl, by omega⟩ | exact ⟨rfl, by omega, by omega, by omega⟩ | exact ⟨⟨_, rfl⟩, by omega⟩ | exact ⟨⟨_, rfl⟩, by omega, by omega⟩ | assumption | decide | (simp only [List.length_drop, List.length_take, List.length_append, List.length_set, List.length_cons, List.length_nil, OrOk] at *; omega) | (simp; omega))
                    | (apply sp_i; first | exact rfl | omega | exact ⟨rfl, rfl, by omega⟩ | exact ⟨rfl, by omega⟩ | exact ⟨rfl, by omega, by omega, by omega⟩ | exact ⟨⟨_, rfl⟩, by omega⟩ | exact ⟨⟨_, rfl⟩, by omega, by omega⟩ | assumption | decide | (simp only [List.length_drop, List.length_take, List.length_append, List.length_set, List.length_cons, List.length_nil, OrOk] at *; omega) | (simp; omega))
                    | (apply sc_true) | (apply sc_false)
                    | (first | apply sc_lt | apply sc_nlt | apply sc_eq | apply sc_neq | apply sc_nil | apply sc_nnil | apply sc_seq | apply sc_nseq); all_goals (intro hb; try (first | (exfalso; omega) | exact absurd rfl hb | exact absurd hb (by decide) | exact absurd hb (by assumption) | exact absurd (by assumption) hb | (exfalso; simp only [List.length_cons, List.length_nil, List.length_append] at hb; omega)))
                    | (apply sc_not) | (apply sc_or) | (apply sc_i; all_goals intro hb)
                    | (first | apply ix_nat | apply ix_int); first | omega | (simp only [List.length_drop, List.length_take, List.length_append, List.length_set, List.length_cons, List.length_nil] at *; omega)
                    | (apply bx_i; intro hbd) | (apply gt_i; assumption; exact rfl)
                    | (first | apply sd_nat | apply sd_int | apply sl_nat | apply sl_int); first | omega | (simp only [List.length_drop, List.length_take, List.length_append, List.length_set, List.length_cons, List.length_nil] at *; omega)
                    | (apply cx_is; first | fail) | (apply cx_do (i := 0) rfl; first | fail)
                    | (apply ab_i; intro bl) | (apply as_i; intro va vk vc hva) | (apply av_i; intro v) | (apply ac_i; intro bl cap hcap)
                    | (apply bo_l) | (apply ch_r; apply sp_i; assumption) | (apply ch_r; apply sp_i; intro i hi; exact ⟨rfl, rfl, rfl⟩) | (apply nx_i; all_goals intro hnx)
                    | (apply Ia.hit; assumption) | (apply Ia.miss; assumption)
                    | (apply rt_is; exact rfl) | (apply rt_do; exact rfl; (repeat (first | exact List.nil_sublist _ | apply List.Sublist.cons_cons))) | (apply iv; assumption)
                    | (exact True.intro) | (apply bc_i; intro C hC) | (apply bt_i) | (apply og_n) | (apply og_a; exact rfl))
                all_goals (try conv => whnf)
                all_goals exact ⟨(), ⟨rfl, rfl, trivial⟩, rfl⟩
              · intro _
                repeat' (first
                  | (conv => whnf); first
                    | (apply ch_l; apply sp_i; first | exact rfl | omega | exact ⟨rfl, rfl, by omega⟩ | exact ⟨rfl, by omega⟩ | exact ⟨rfl, by omega, by omega, by omega⟩ | exact ⟨⟨_, rfl⟩, by omega⟩ | exact ⟨⟨_, rfl⟩, by omega, by omega⟩ | assumption | decide | (simp only [List.length_drop, List.length_take, List.length_append, List.length_set, List.length_cons, List.length_nil, OrOk] at *; omega) | (simp; omega))
                    | (apply sp_i; first | exact rfl | omega | exact ⟨rfl, rfl, by omega⟩ | exact ⟨rfl, by omega⟩ | exact ⟨rfl, by omega, by omega, by omega⟩ | exact ⟨⟨_, rfl⟩, by omega⟩ | exact ⟨⟨_, rfl⟩, by omega, by omega⟩ | assumption | decide | (simp only [List.length_drop, List.length_take, List.length_append, List.length_set, List.length_cons, List.length_nil, OrOk] at *; omega) | (simp; omega))
                    | (apply sc_true) | (apply sc_false)
                    | (first | apply sc_lt | apply sc_nlt | apply sc_eq | apply sc_neq | apply sc_nil | apply sc_nnil | apply sc_seq | apply sc_nseq); all_goals (intro hb; try (first | (exfalso; omega) | exact absurd rfl hb | exact absurd hb (by decide) | exact absurd hb (by assumption) | exact absurd (by assumption) hb | (exfalso; simp only [List.length_cons, List.length_nil, List.length_append] at hb; omega)))
                    | (apply sc_not) | (apply sc_or) | (apply sc_i; all_goals intro hb)
                    | (first | apply ix_nat | apply ix_int); first | omega | (simp only [List.length_drop, List.length_take, List.length_append, List.length_set, List.length_cons, List.length_nil] at *; omega)
                    | (apply bx_i; intro hbd) | (apply gt_i; assumption; exact rfl)
                    | (first | apply sd_nat | apply sd_int | apply sl_nat | apply sl_int); first | omega | (simp only [List.length_drop, List.length_take, List.length_append, List.length_set, List.length_cons, List.length_nil] at *; omega)
                    | (apply cx_is; first | fail) | (apply cx_do (i := 0) rfl; first | fail)
                    | (apply ab_i; intro bl) | (apply as_i; intro va vk vc hva) | (apply av_i; intro v) | (apply ac_i; intro bl cap hcap)
                    | (apply bo_l) | (apply ch_r; apply sp_i; assumption) | (apply ch_r; apply sp_i; intro i hi; exact ⟨rfl, rfl, rfl⟩) | (apply nx_i; all_goals intro hnx)
                    | (apply Ia.hit; assumption) | (apply Ia.miss; assumption)
                    | (apply rt_is; exact rfl) | (apply rt_do; exact rfl; (repeat (first | exact List.nil_sublist _ | apply List.Sublist.cons_cons))) | (apply iv; assumption)
                    | (exact True.intro) | (apply bc_i; intro C hC) | (apply bt_i) | (apply og_n) | (apply og_a; exact rfl))
                all_goals (try conv => whnf)
                refine ⟨[], List.nil_sublist _, .inl ⟨?_, by rw [hL, h2, addP_long hF (by omega)], rfl⟩⟩
                rw [hE, h2, addP_long hF (by omega)]
                rfl
            · refine nxT (a + n + 2, I ++ [l] ++ [⟨((t.take (a + n)).drop a), a, []⟩], bv, vc, .slice none 0 0) ⟨by simp only [List.length_append, List.length_cons, List.length_nil]; omega, ?_, fun l h => by have e : (⟨((t.take (a + n)).drop a), a, []⟩ : LineS) = l := (by simpa using h); subst e; exact ⟨by show (((t.take (a + n)).drop a)).length ≤ _; omega, Nat.zero_le _⟩⟩ (by dsimp only; omega) ?_
              · dsimp only
                rw [g2, h2, addP_new hF (by omega)]
              · dsimp only
                have hm : I.length + 1 + 1 = (I ++ [l] ++ [(⟨((t.take (a + n)).drop a), a, []⟩ : LineS)]).length := by simp
                refine to_trans (to_sub (e' := [(0, .str t), (4, .own 0 (rowVal bv vc (I ++ [l] ++ [(⟨((t.take (a + n)).drop a), a, []⟩ : LineS)]).length)), (5, .int .i64 ((a + n + 2 : Nat) : Int))]) (h' := [.row (rowVal bv vc (I ++ [l] ++ [(⟨((t.take (a + n)).drop a), a, []⟩ : LineS)]).length) none 3 (I.length + 1 + 1) (linesC I ++ ([.str l.t, .int .i64 l.a, .own 1 u] : List AVal) ++ ([.str ((t.take (a + n)).drop a), .int .i64 a, .raw (.slice none 0 0)] : List AVal)), .row u none 1 l.f.length (intsC l.f)]) ⟨rfl, by rw [← hm]; rfl, congrArg (fun z => some (AVal.int .i64 z)) (by omega), trivial⟩ (by rw [← hm]; exact List.Sublist.cons_cons _ (List.Sublist.cons_cons _ (List.nil_sublist _)))) (to_line hm)
          · have hF : isFold ((t.take (a + n)).drop a) = false := by first | exact isFold_n0 (by assumption) | exact isFold_n (by assumption) (by assumption)
            obtain ⟨bv, rfl, rfl⟩ := hva (by omega)
            repeat' (first
              | (conv => whnf); first
                | (apply ch_l; apply sp_i; first | exact rfl | omega | exact ⟨rfl, rfl, by omega⟩ | exact ⟨rfl, by omega⟩ | exact ⟨rfl, by omega, by omega, by omega⟩ | exact ⟨⟨_, rfl⟩, by omega⟩ | exact ⟨⟨_, rfl⟩, by omega, by omega⟩ | assumption | decide | (simp only [List.length_drop, List.length_take, List.length_append, List.length_set, List.length_cons, List.length_nil, OrOk] at *; omega) | (simp; omega))
                | (apply sp_i; first | exact rfl | omega | exact ⟨rfl, rfl, by omega⟩ | exact ⟨rfl, by omega⟩ | exact ⟨rfl, by omega, by omega, by omega⟩ | exact ⟨⟨_, rfl⟩, by omega⟩ | exact ⟨⟨_, rfl⟩, by omega, by omega⟩ | assumption | decide | (simp only [List.length_drop, List.length_take, List.length_append, List.length_set, List.length_cons, List.length_nil, OrOk] at *; omega) | (simp; omega))
                | (apply sc_true) | (apply sc_false)
                | (first | apply sc_lt | apply sc_nlt | apply sc_eq | apply sc_neq | apply sc_nil | apply sc_nnil | apply sc_seq | apply sc_nseq); all_goals (intro hb; try (first | (exfalso; omega) | exact absurd rfl hb | exact absurd hb (by decide) | exact absurd hb (by assumption) | exact absurd (by assumption) hb | (exfalso; simp only [List.length_cons, List.length_nil, List.length_append] at hb; omega)))
                | (apply sc_not) | (apply sc_or) | (apply sc_i; all_goals intro hb)
                | (first | apply ix_nat | apply ix_int); first | omega | (simp only [List.length_drop, List.length_take, List.length_append, List.length_set, List.length_cons, List.length_nil] at *; omega)
                | (apply bx_i; intro hbd) | (apply gt_i; assumption; exact rfl)
                | (first | apply sd_nat | apply sd_int | apply sl_nat | apply sl_int); first | omega | (simp only [List.length_drop, List.length_take, List.length_append, List.length_set, List.length_cons, List.length_nil] at *; omega)
                | (apply cx_is; first | fail) | (apply cx_do (i := 0) rfl; first | fail)
                | (apply ab_i; intro bl) | (apply as_i; intro va vk vc hva) | (apply av_i; intro v) | (apply ac_i; intro bl cap hcap)
                | (apply bo_l) | (apply ch_r; apply sp_i; assumption) | (apply ch_r; apply sp_i; intro i hi; exact ⟨rfl, rfl, rfl⟩) | (apply nx_i; all_goals intro hnx)
                | (apply Ia.hit; assumption) | (apply Ia.miss; assumption)
                | (apply rt_is; exact rfl) | (apply rt_do; exact rfl; (repeat (first | exact List.nil_sublist _ | apply List.Sublist.cons_cons))) | (apply iv; assumption)
                | (apply dw_q mixed hC hGL (by kernel_rfl))
                | (apply cq; assumption; (first | fail); exact rfl))
            all_goals (try conv => whnf)
            refine sp_i ⟨⟨_, rfl⟩, show (((I.length + 1 + 1 : Nat) : Int) - 1).toNat * 3 + 3 ≤ (I.length + 1 + 1) * 3 by omega, by omega⟩ ?_
            refine gs_i (c := [.str ((t.take (a + n)).drop a), .int .i64 a, .raw (.slice none 0 0)]) (take3 (A := ownL I l.t l.a u) (N := (I.length + 1) * 3) (by simp only [List.length_append, hI3, List.length_cons, List.length_nil]; omega) (show (((I.length + 1 + 1 : Nat) : Int) - 1).toNat * 3 = (I.length + 1) * 3 by omega)) ?_
            repeat' (first
              | (conv => whnf); first
                | (apply ch_l; apply sp_i; first | exact rfl | omega | exact ⟨rfl, rfl, by omega⟩ | exact ⟨rfl, by omega⟩ | exact ⟨rfl, by omega, by omega, by omega⟩ | exact ⟨⟨_, rfl⟩, by omega⟩ | exact ⟨⟨_, rfl⟩, by omega, by omega⟩ | assumption | decide | (simp only [List.length_drop, List.length_take, List.length_append, List.length_set, List.length_cons, List.length_nil, OrOk] at *; omega) | (simp; omega))
                | (apply sp_i; first | exact rfl | omega | exact ⟨rfl, rfl, by omega⟩ | exact ⟨rfl, by omega⟩ | exact ⟨rfl, by omega, by omega, by omega⟩ | exact ⟨⟨_, rfl⟩, by omega⟩ | exact ⟨⟨_, rfl⟩, by omega, by omega⟩ | assumption | decide | (simp only [List.length_drop, List.length_take, List.length_append, List.length_set, List.length_cons, List.length_nil, OrOk] at *; omega) | (simp; omega))
                | (apply sc_true) | (apply sc_false)
                | (first | apply sc_lt | apply sc_nlt | apply sc_eq | apply sc_neq | apply sc_nil | apply sc_nnil | apply sc_seq | apply sc_nseq); all_goals (intro hb; try (first | (exfalso; omega) | exact absurd rfl hb | exact absurd hb (by decide) | exact absurd hb (by assumption) | exact absurd (by assumption) hb | (exfalso; simp only [List.length_cons, List.length_nil, List.length_append] at hb; omega)))
                | (apply sc_not) | (apply sc_or) | (apply sc_i; all_goals intro hb)
                | (first | apply ix_nat | apply ix_int); first | omega | (simp only [List.length_drop, List.length_take, List.length_append, List.length_set, List.length_cons, List.length_nil] at *; omega)
                | (apply bx_i; intro hbd) | (apply gt_i; assumption; exact rfl)
                | (first | apply sd_nat | apply sd_int | apply sl_nat | apply sl_int); first | omega | (simp only [List.length_drop, List.length_take, List.length_append, List.length_set, List.length_cons, List.length_nil] at *; omega)
                | (apply cx_is; first | fail) | (apply cx_do (i := 0) rfl; first | fail)
                | (apply ab_i; intro bl) | (apply as_i; intro va vk vc hva) | (apply av_i; intro v) | (apply ac_i; intro bl cap hcap)
                | (apply bo_l) | (apply ch_r; apply sp_i; assumption) | (apply ch_r; apply sp_i; intro i hi; exact ⟨rfl, rfl, rfl⟩) | (apply nx_i; all_goals intro hnx)
                | (apply Ia.hit; assumption) | (apply Ia.miss; assumption)
                | (apply rt_is; exact rfl) | (apply rt_do; exact rfl; (repeat (first | exact List.nil_sublist _ | apply List.Sublist.cons_cons))) | (apply iv; assumption)
                | (exact True.intro) | (apply bc_i; intro C hC) | (apply bt_i) | (apply og_n) | (apply og_a; exact rfl))
            all_goals (try conv => whnf)
            · refine nxT (a + n + 2, I ++ [l] ++ [⟨((t.take (a + n)).drop a), a, []⟩], bv, vc, .slice none 0 0) ⟨by simp only [List.length_append, List.length_cons, List.length_nil]; omega, ?_, fun l h => by have e : (⟨((t.take (a + n)).drop a), a, []⟩ : LineS) = l := (by simpa using h); subst e; exact ⟨by show (((t.take (a + n)).drop a)).length ≤ _; omega, Nat.zero_le _⟩⟩ (by dsimp only; omega) ?_
              · dsimp only
                rw [g2, h2, addP_new hF (by omega)]
              · dsimp only
                have hm : I.length + 1 + 1 = (I ++ [l] ++ [(⟨((t.take (a + n)).drop a), a, []⟩ : LineS)]).length := by simp
                refine to_trans (to_sub (e' := [(0, .str t), (4, .own 0 (rowVal bv vc (I ++ [l] ++ [(⟨((t.take (a + n)).drop a), a, []⟩ : LineS)]).length)), (5, .int .i64 ((a + n + 2 : Nat) : Int))]) (h' := [.row (rowVal bv vc (I ++ [l] ++ [(⟨((t.take (a + n)).drop a), a, []⟩ : LineS)]).length) none 3 (I.length + 1 + 1) (linesC I ++ ([.str l.t, .int .i64 l.a, .own 1 u] : List AVal) ++ ([.str ((t.take (a + n)).drop a), .int .i64 a, .raw (.slice none 0 0)] : List AVal)), .row u none 1 l.f.length (intsC l.f)]) ⟨rfl, by rw [← hm]; rfl, congrArg (fun z => some (AVal.int .i64 z)) (by omega), trivial⟩ (by rw [← hm]; exact List.Sublist.cons_cons _ (List.Sublist.cons_cons _ (List.nil_sublist _)))) (to_line hm)
  · have h1 := lines_end (L := L) ha
    repeat' (first
      | (conv => whnf); first
        | (apply ch_l; apply sp_i; first | exact rfl | omega | exact ⟨rfl, rfl, by omega⟩ | exact ⟨rfl, by omega⟩ | exact ⟨rfl, by omega, by omega, by omega⟩ | exact ⟨⟨_, rfl⟩, by omega⟩ | exact ⟨⟨_, rfl⟩, by omega, by omega⟩ | assumption | decide | (simp only [List.length_drop, List.length_take, List.length_append, List.length_set, List.length_cons, List.length_nil, OrOk] at *; omega) | (simp; omega))
        | (apply sp_i; first | exact rfl | omega | exact ⟨rfl, rfl, by omega⟩ | exact ⟨rfl, by omega⟩ | exact ⟨rfl, by omega, by omega, by omega⟩ | exact ⟨⟨_, rfl⟩, by omega⟩ | exact ⟨⟨_, rfl⟩, by omega, by omega⟩ | assumption | decide | (simp only [List.length_drop, List.length_take, List.length_append, List.length_set, List.length_cons, List.length_nil, OrOk] at *; omega) | (simp; omega))
        | (apply sc_true) | (apply sc_false)
        | (first | apply sc_lt | apply sc_nlt | apply sc_eq | apply sc_neq | apply sc_nil | apply sc_nnil | apply sc_seq | apply sc_nseq); all_goals (intro hb; try (first | (exfalso; omega) | exact absurd rfl hb | exact absurd hb (by decide) | exact absurd hb (by assumption) | exact absurd (by assumption) hb | (exfalso; simp only [List.length_cons, List.length_nil, List.length_append] at hb; omega)))
        | (apply sc_not) | (apply sc_or) | (apply sc_i; all_goals intro hb)
        | (first | apply ix_nat | apply ix_int); first | omega | (simp only [List.length_drop, List.length_take, List.length_append, List.length_set, List.length_cons, List.length_nil] at *; omega)
        | (apply bx_i; intro hbd) | (apply gt_i; assumption; exact rfl)
        | (first | apply sd_nat | apply sd_int | apply sl_nat | apply sl_int); first | omega | (simp only [List.length_drop, List.length_take, List.length_append, List.length_set, List.length_cons, List.length_nil] at *; omega)
        | (apply cx_is; first | fail) | (apply cx_do (i := 0) rfl; first | fail)
        | (apply ab_i; intro bl) | (apply as_i; intro va vk vc hva) | (apply av_i; intro v) | (apply ac_i; intro bl cap hcap)
        | (apply bo_l) | (apply ch_r; apply sp_i; assumption) | (apply ch_r; apply sp_i; intro i hi; exact ⟨rfl, rfl, rfl⟩) | (apply nx_i; all_goals intro hnx)
        | (apply Ia.hit; assumption) | (apply Ia.miss; assumption)
        | (apply rt_is; exact rfl) | (apply rt_do; exact rfl; (repeat (first | exact List.nil_sublist _ | apply List.Sublist.cons_cons))) | (apply iv; assumption)
        | (apply dw_q mixed hC hGL (by kernel_rfl))
        | (apply cq; assumption; (first | fail); exact rfl))
    all_goals (try conv => whnf)
    refine ⟨_, List.Sublist.refl _, .inr ⟨rowVal b cap L.length, u, ?_, ?_⟩⟩
    · rw [hE, h1]; rfl
    · rw [hL, h1]
end Go.Proofs.YtlmihggafbmkaaaDoor
