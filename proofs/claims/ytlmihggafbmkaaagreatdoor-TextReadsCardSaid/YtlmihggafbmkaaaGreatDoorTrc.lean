/- Texts of lists and of parts: the program's side (6.1). -/
import Derived.Test.YtlmihggafbmkaaaGreatDoorTrb
import Derived.Test.YtlmihggafbmkaaaGreatDoorBuk
namespace Go.Proofs.YtlmihggafbmkaaaGreatDoor
open Go Go.RowKit
theorem stP_len (a : List UInt8) : ∀ T : List Tk, (stP a T).1.length ≤ T.length ∧ (stP a T).2.1.length ≤ T.length ∧ (stP a T).2.2.length ≤ T.length := by
  refine snoc_ind ⟨Nat.le_refl _, Nat.le_refl _, Nat.le_refl _⟩ fun T t ih => ?_
  rw [stP_snoc]
  cases t with
  | one b =>
    unfold stepP
    by_cases hb : b ∈ a
    · simp only [hb, if_true, List.length_append, List.length_singleton, List.length_nil]
      omega
    · simp only [hb, if_false, List.length_append, List.length_singleton]
      omega
  | two d =>
    unfold stepP
    simp only [List.length_append, List.length_singleton]
    omega
theorem idxF_mem (c : UInt8) : ∀ (l : List UInt8) (k : Nat), (0 ≤ idxF (c.toNat : Int) l k ∧ c ∈ l) ∨ (idxF (c.toNat : Int) l k < 0 ∧ c ∉ l)
  | [], k => .inr ⟨by simp [idxF], by simp⟩
  | x :: t, k => by
    unfold idxF
    by_cases h : (x.toNat : Int) = c.toNat
    · have : x = c := UInt8.toNat_inj.1 (by omega)
      rw [if_pos h]
      exact .inl ⟨by omega, by simp [this]⟩
    · have hne : c ≠ x := fun e => h (by rw [e])
      rw [if_neg h]
      rcases idxF_mem c t (k + 1) with ⟨h1, h2⟩ | ⟨h1, h2⟩
      · exact .inl ⟨h1, List.mem_cons_of_mem _ h2⟩
      · exact .inr ⟨h1, fun h3 => (List.mem_cons.1 h3).elim hne h2⟩
theorem idxB_in {a : List UInt8} {c : UInt8} (h : 0 ≤ idxB a (c.toNat : Int)) : c ∈ a := by
  rcases idxF_mem c a 0 with ⟨_, h2⟩ | ⟨h1, _⟩
  · exact h2
  · unfold idxB at h; omega
theorem idxB_out {a : List UInt8} {c : UInt8} (h : idxB a (c.toNat : Int) < 0) : c ∉ a := by
  rcases idxF_mem c a 0 with ⟨h1, _⟩ | ⟨_, h2⟩
  · unfold idxB at h; omega
  · exact h2
theorem stP_zero (a : List UInt8) : stP a [] = ([], [], []) := rfl
theorem stP_in {a : List UInt8} {T : List Tk} {c : UInt8} (h : c ∈ a) : stP a (T ++ [.one c]) = ((stP a T).1 ++ [(stP a T).2.1], [], (stP a T).2.2 ++ [c]) := by rw [stP_snoc]; simp [stepP, h]
theorem stP_out {a : List UInt8} {T : List Tk} {c : UInt8} (h : c ∉ a) : stP a (T ++ [.one c]) = ((stP a T).1, (stP a T).2.1 ++ [c], (stP a T).2.2) := by rw [stP_snoc]; simp [stepP, h]
theorem stP_esc {a : List UInt8} {T : List Tk} {d : UInt8} : stP a (T ++ [.two d]) = ((stP a T).1, (stP a T).2.1 ++ [escV d], (stP a T).2.2) := by rw [stP_snoc]; rfl
/-- The pieces, and what was between. -/
def pcL (a s : List UInt8) : List (List UInt8) := match errT s 0 with
  | .none => (stP a (tokT s)).1 ++ [(stP a (tokT s)).2.1]
  | _ => []
def pcC (a s : List UInt8) : List UInt8 := match errT s 0 with
  | .none => (stP a (tokT s)).2.2
  | _ => []
theorem pcL_ok {a s : List UInt8} (h : errT s 0 = .none) : pcL a s = (stP a (tokT s)).1 ++ [(stP a (tokT s)).2.1] := by unfold pcL; rw [h]
theorem pcC_ok {a s : List UInt8} (h : errT s 0 = .none) : pcC a s = (stP a (tokT s)).2.2 := by unfold pcC; rw [h]
theorem pcL_at {a s : List UInt8} {e p : Int} (h : errT s 0 = .at e p) : pcL a s = [] := by unfold pcL; rw [h]
theorem pcC_at {a s : List UInt8} {e p : Int} (h : errT s 0 = .at e p) : pcC a s = [] := by unfold pcC; rw [h]
def bytF (l : List UInt8) (i : Nat) : AVal := .int .u8 ((l.getD i 0).toNat : Int)
theorem bytF_ok (l : List UInt8) : ∀ i, i < l.length → (bytF l i).cells = ((bytesC l).drop (i * 1)).take 1 ∧ (bytF l i).plain = true := by
  intro i hi
  refine ⟨?_, rfl⟩
  rw [Nat.mul_one, List.drop_eq_getElem_cons (by simpa using hi)]
  simp [bytF, AVal.cells, List.getD, hi]
theorem get_n {s : List UInt8} {i : Nat} (h : i < s.length) : (byteAt s i : Int) = (s[i].toNat : Int) := (at_eq h).1 rfl
theorem ofNat_at {s : List UInt8} {i : Nat} (h : i < s.length) : UInt8.ofNat ((byteAt s i : Nat) : Int).toNat = s[i] := by
  have : byteAt s i = s[i].toNat := by simp [byteAt, List.getD, List.getElem?_eq_getElem h]
  rw [Int.toNat_natCast, this, UInt8.ofNat_toNat]
set_option maxRecDepth 20000
set_option maxHeartbeats 8000000
set_option linter.unusedSimpArgs false
set_option linter.unusedVariables false
attribute [local irreducible] AWp AOps SrcOK OrOk GloAll FnSpec byteAt errT tokT stP escV idxB
theorem text_pieces_run {G : Glo} (s a : List UInt8) (hl : s.length ≤ 2000000) : FnSpec Tryz.prog G 26 [.str s, .str a] [] (fun r H =>
    (∃ e p, errT s 0 = .at e p ∧ r = .ret (.tuple [.raw (.slice none 0 0), .raw (.slice none 0 0), atA e p]) ∧ H = []) ∨
    (errT s 0 = .none ∧ ∃ vt vc, r = .ret (.tuple [.own 2 vt, .own 3 vc, .raw .nilIface]) ∧ H = [.row vt none 1 (pcL a s).length (strsC (pcL a s)), .row vc none 1 (pcC a s).length (bytesC (pcC a s))])) := by
  have hI := fun (b : Int) h0 h1 => strings_IndexByte (G := G) a b h0 h1
  have hGL : GloAll G [] := gloAll_nil
  refine fn_x Tryz.func26 Tryz.call26 rfl rfl rfl rfl hGL ?_
  intro C hC
  repeat' (first
    | (conv => whnf); first
      | (apply ch_l; apply sp_i; first | exact rfl | omega | exact ⟨rfl, by omega⟩ | exact ⟨rfl, by omega, by omega, by omega⟩ | exact ⟨rfl, by simp, by omega, by omega⟩ | exact ⟨⟨_, rfl⟩, by omega⟩ | assumption | (simp; omega))
      | (apply sp_i; first | exact rfl | omega | exact ⟨rfl, rfl, by omega⟩ | exact ⟨rfl, by omega⟩ | exact ⟨rfl, by omega, by omega, by omega⟩ | exact ⟨rfl, by simp, by omega, by omega⟩ | exact ⟨⟨_, rfl⟩, by omega⟩ | assumption | (simp; omega))
      | (apply sc_true) | (apply sc_false)
      | (first | apply sc_lt | apply sc_nlt | apply sc_eq | apply sc_neq | apply sc_nil | apply sc_nnil); all_goals (intro hb; try (first | (exfalso; omega) | exact absurd rfl hb | exact absurd hb (by decide) | exact absurd (by assumption) hb | (exfalso; simp only [List.length_cons, List.length_nil] at hb; omega)))
      | (apply sc_not) | (apply sc_i; all_goals intro hb)
      | (first | apply ix_nat | apply ix_int | apply sd_nat | apply sd_int | apply sl_nat | apply sl_int); first | omega | (simp only [List.length_cons, List.length_nil, List.length_drop, List.length_take] at *; omega)
      | (apply bx_i; intro hbd) | (apply gt_i; assumption; exact rfl)
      | (apply cx_is; first | fail) | (apply ab_i; intro bl)
      | (apply rt_is; exact rfl) | (apply rt_do; exact rfl; (repeat (first | exact List.nil_sublist _ | apply List.Sublist.cons_cons)))
      | (exact True.intro) | (apply bc_i; intro C hC) | (apply bt_i) | (apply og_n) | (apply og_a; exact rfl))
  all_goals (try conv => whnf)
  refine lp_bldr 0 rfl ?_
  refine lp_row 4 1 rfl ?_
  refine lp_row 5 1 rfl ?_
  refine lp hC hGL (fun (x : (Nat × List Tk) × (List (List UInt8) × List UInt8 × List UInt8) × Value × Value × Value × Value) => [(0, .str s), (1, .str a), (4, .own 2 x.2.2.2.2.1), (5, .own 3 x.2.2.2.2.2), (7, .own 0 (ptrA bl)), (8, .int .i64 (x.1.1 : Nat))]) (fun x => [bldC bl x.2.2.1 1 x.2.2.2.1, bldR x.2.2.2.1 x.2.1.2.1, .row x.2.2.2.2.1 none 1 x.2.1.1.length (strsC x.2.1.1), .row x.2.2.2.2.2 none 1 x.2.1.2.2.length (bytesC x.2.1.2.2)]) (fun x => TokP s x.1.1 x.1.2 ∧ x.1.2.length ≤ x.1.1 ∧ AddrOK bl x.2.2.1 ∧ stP a x.1.2 = x.2.1) (fun x => s.length - x.1.1) ((0, []), ([], [], []), .pointer none, nilS, nilS, nilS) ?_ (by repeat (first | exact trivial | refine And.intro rfl ?_)) rfl ?_
  · exact ⟨tokP_init s, Nat.le_refl _, .inl rfl, stP_zero a⟩
  rintro ⟨⟨i, T⟩, ⟨tx, cur, cu⟩, p, v, vt, vd⟩ ⟨hT, hlT, hp, hS⟩
  dsimp only at hT hlT hp hS
  dsimp only
  have hi := hT.1
  have hv := stP_len a T
  rw [hS] at hv
  dsimp only at hv
  by_cases hA : i + 1 < s.length ∧ (byteAt s i : Int) = 92
  · obtain ⟨hA1, hA2⟩ := hA
    have hok := okE_at hA1
    repeat' (first
      | (conv => whnf); first
        | (apply ch_l; apply sp_i; first | exact rfl | omega | exact ⟨rfl, rfl, by omega⟩ | exact ⟨rfl, by omega⟩ | exact ⟨rfl, by omega, by omega, by omega⟩ | exact ⟨rfl, by simp, by omega, by omega⟩ | exact ⟨⟨_, rfl⟩, by omega⟩ | exact ⟨⟨_, rfl⟩, by omega, by omega⟩ | assumption | decide | (simp only [List.length_drop, List.length_take, List.length_append, List.length_set, List.length_cons, List.length_nil, OrOk] at *; omega) | (simp; omega))
        | (apply sp_i; first | exact rfl | omega | exact ⟨rfl, rfl, by omega⟩ | exact ⟨rfl, by omega⟩ | exact ⟨rfl, by omega, by omega, by omega⟩ | exact ⟨rfl, by simp, by omega, by omega⟩ | exact ⟨⟨_, rfl⟩, by omega⟩ | exact ⟨⟨_, rfl⟩, by omega, by omega⟩ | assumption | decide | (simp only [List.length_drop, List.length_take, List.length_append, List.length_set, List.length_cons, List.length_nil, OrOk] at *; omega) | (simp; omega))
        | (apply sc_true) | (apply sc_false)
        | (first | apply sc_lt | apply sc_nlt | apply sc_eq | apply sc_neq | apply sc_nil | apply sc_nnil | apply sc_seq | apply sc_nseq); all_goals (intro hb; try (first | (exfalso; omega) | exact absurd rfl hb | exact absurd hb (by decide) | exact absurd hb (by assumption) | exact absurd (by assumption) hb | (exfalso; simp only [List.length_cons, List.length_nil, List.length_append] at hb; omega)))
        | (apply sc_not) | (apply sc_or) | (apply sc_i; all_goals intro hb)
        | (first | apply ix_nat | apply ix_int); first | omega | (simp only [List.length_drop, List.length_take, List.length_append, List.length_set, List.length_cons, List.length_nil] at *; omega)
        | (apply bx_i; intro hbd) | (apply gt_i; assumption; exact rfl)
        | (first | apply sd_nat | apply sd_int | apply sl_nat | apply sl_int); first | omega | (simp only [List.length_drop, List.length_take, List.length_append, List.length_set, List.length_cons, List.length_nil] at *; omega)
        | (apply cx_is; first | fail) | (apply cx_do (i := 0) rfl; first | fail)
        | (apply ab_i; intro bl) | (apply as_i; intro va vk vc hva) | (apply av_i; intro v) | (apply ac_i; intro bl cap hcap)
        | (apply bo_l) | (apply ch_r; apply sp_i; first | assumption | decide) | (apply ch_r; apply sp_i; intro i hi; exact ⟨rfl, rfl, rfl⟩) | (apply nx_i; all_goals intro hnx)
        | (apply Ia.hit; assumption) | (apply Ia.miss; assumption)
        | (apply rt_is; exact rfl) | (apply rt_do; exact rfl; (repeat (first | exact List.nil_sublist _ | apply List.Sublist.cons_cons))) | (apply iv; assumption)
        | (apply dw_q mixed hC hGL (by kernel_rfl))
        | (apply cq; assumption; (first | fail); exact rfl))
    all_goals (try conv => whnf)
    · have hq : (byteAt s (i + 1) : Int) = 92 := by assumption
      apply cx_bld (i := 0) (j := 1) rfl rfl (by decide) (write_byte1 hp v cur (byteAt s (i + 1) : Int) (by omega) (by omega) (by omega))
      intro wa wk wc
      repeat' (first
        | (conv => whnf); first
          | (apply ch_l; apply sp_i; first | exact rfl | omega | exact ⟨rfl, by omega⟩ | exact ⟨rfl, by omega, by omega, by omega⟩ | exact ⟨rfl, by simp, by omega, by omega⟩ | exact ⟨⟨_, rfl⟩, by omega⟩ | assumption | (simp; omega))
          | (apply sp_i; first | exact rfl | omega | exact ⟨rfl, rfl, by omega⟩ | exact ⟨rfl, by omega⟩ | exact ⟨rfl, by omega, by omega, by omega⟩ | exact ⟨rfl, by simp, by omega, by omega⟩ | exact ⟨⟨_, rfl⟩, by omega⟩ | assumption | (simp; omega))
          | (apply sc_true) | (apply sc_false)
          | (first | apply sc_lt | apply sc_nlt | apply sc_eq | apply sc_neq | apply sc_nil | apply sc_nnil); all_goals (intro hb; try (first | (exfalso; omega) | exact absurd rfl hb | exact absurd hb (by decide) | exact absurd (by assumption) hb | (exfalso; simp only [List.length_cons, List.length_nil] at hb; omega)))
          | (apply sc_not) | (apply sc_i; all_goals intro hb)
          | (first | apply ix_nat | apply ix_int | apply sd_nat | apply sd_int | apply sl_nat | apply sl_int); first | omega | (simp only [List.length_cons, List.length_nil, List.length_drop, List.length_take] at *; omega)
          | (apply bx_i; intro hbd) | (apply gt_i; assumption; exact rfl)
          | (apply cx_is; first | fail) | (apply ab_i; intro bl)
          | (apply rt_is; exact rfl) | (apply rt_do; exact rfl; (repeat (first | exact List.nil_sublist _ | apply List.Sublist.cons_cons)))
          | (exact True.intro) | (apply bc_i; intro C hC) | (apply bt_i) | (apply og_n) | (apply og_a; exact rfl))
      all_goals (try conv => whnf)
      refine nxt ((i + 2, T ++ [.two s[i + 1]]), (tx, cur ++ [UInt8.ofNat ((byteAt s (i + 1) : Int) : Int).toNat], cu), ptrA bl, .slice wa wk wc, vt, vd) ?_ ?_ ⟨rfl, rfl, rfl, rfl, rfl, rfl, trivial⟩ rfl
      · exact ⟨tokP_two hT hA1 hA2 (by rw [hok]; exact decide_eq_true (by omega)), by simp; omega, .inr rfl, by rw [stP_esc, hS, escV_s hA1 (by omega), ofNat_at hA1]⟩
      · show s.length - (i + 2) < s.length - i
        omega
    · have hq : (byteAt s (i + 1) : Int) = 44 := by assumption
      apply cx_bld (i := 0) (j := 1) rfl rfl (by decide) (write_byte1 hp v cur (byteAt s (i + 1) : Int) (by omega) (by omega) (by omega))
      intro wa wk wc
      repeat' (first
        | (conv => whnf); first
          | (apply ch_l; apply sp_i; first | exact rfl | omega | exact ⟨rfl, by omega⟩ | exact ⟨rfl, by omega, by omega, by omega⟩ | exact ⟨rfl, by simp, by omega, by omega⟩ | exact ⟨⟨_, rfl⟩, by omega⟩ | assumption | (simp; omega))
          | (apply sp_i; first | exact rfl | omega | exact ⟨rfl, rfl, by omega⟩ | exact ⟨rfl, by omega⟩ | exact ⟨rfl, by omega, by omega, by omega⟩ | exact ⟨rfl, by simp, by omega, by omega⟩ | exact ⟨⟨_, rfl⟩, by omega⟩ | assumption | (simp; omega))
          | (apply sc_true) | (apply sc_false)
          | (first | apply sc_lt | apply sc_nlt | apply sc_eq | apply sc_neq | apply sc_nil | apply sc_nnil); all_goals (intro hb; try (first | (exfalso; omega) | exact absurd rfl hb | exact absurd hb (by decide) | exact absurd (by assumption) hb | (exfalso; simp only [List.length_cons, List.length_nil] at hb; omega)))
          | (apply sc_not) | (apply sc_i; all_goals intro hb)
          | (first | apply ix_nat | apply ix_int | apply sd_nat | apply sd_int | apply sl_nat | apply sl_int); first | omega | (simp only [List.length_cons, List.length_nil, List.length_drop, List.length_take] at *; omega)
          | (apply bx_i; intro hbd) | (apply gt_i; assumption; exact rfl)
          | (apply cx_is; first | fail) | (apply ab_i; intro bl)
          | (apply rt_is; exact rfl) | (apply rt_do; exact rfl; (repeat (first | exact List.nil_sublist _ | apply List.Sublist.cons_cons)))
          | (exact True.intro) | (apply bc_i; intro C hC) | (apply bt_i) | (apply og_n) | (apply og_a; exact rfl))
      all_goals (try conv => whnf)
      refine nxt ((i + 2, T ++ [.two s[i + 1]]), (tx, cur ++ [UInt8.ofNat ((byteAt s (i + 1) : Int) : Int).toNat], cu), ptrA bl, .slice wa wk wc, vt, vd) ?_ ?_ ⟨rfl, rfl, rfl, rfl, rfl, rfl, trivial⟩ rfl
      · exact ⟨tokP_two hT hA1 hA2 (by rw [hok]; exact decide_eq_true (by omega)), by simp; omega, .inr rfl, by rw [stP_esc, hS, escV_s hA1 (by omega), ofNat_at hA1]⟩
      · show s.length - (i + 2) < s.length - i
        omega
    · have hq : (byteAt s (i + 1) : Int) = 59 := by assumption
      apply cx_bld (i := 0) (j := 1) rfl rfl (by decide) (write_byte1 hp v cur (byteAt s (i + 1) : Int) (by omega) (by omega) (by omega))
      intro wa wk wc
      repeat' (first
        | (conv => whnf); first
          | (apply ch_l; apply sp_i; first | exact rfl | omega | exact ⟨rfl, by omega⟩ | exact ⟨rfl, by omega, by omega, by omega⟩ | exact ⟨rfl, by simp, by omega, by omega⟩ | exact ⟨⟨_, rfl⟩, by omega⟩ | assumption | (simp; omega))
          | (apply sp_i; first | exact rfl | omega | exact ⟨rfl, rfl, by omega⟩ | exact ⟨rfl, by omega⟩ | exact ⟨rfl, by omega, by omega, by omega⟩ | exact ⟨rfl, by simp, by omega, by omega⟩ | exact ⟨⟨_, rfl⟩, by omega⟩ | assumption | (simp; omega))
          | (apply sc_true) | (apply sc_false)
          | (first | apply sc_lt | apply sc_nlt | apply sc_eq | apply sc_neq | apply sc_nil | apply sc_nnil); all_goals (intro hb; try (first | (exfalso; omega) | exact absurd rfl hb | exact absurd hb (by decide) | exact absurd (by assumption) hb | (exfalso; simp only [List.length_cons, List.length_nil] at hb; omega)))
          | (apply sc_not) | (apply sc_i; all_goals intro hb)
          | (first | apply ix_nat | apply ix_int | apply sd_nat | apply sd_int | apply sl_nat | apply sl_int); first | omega | (simp only [List.length_cons, List.length_nil, List.length_drop, List.length_take] at *; omega)
          | (apply bx_i; intro hbd) | (apply gt_i; assumption; exact rfl)
          | (apply cx_is; first | fail) | (apply ab_i; intro bl)
          | (apply rt_is; exact rfl) | (apply rt_do; exact rfl; (repeat (first | exact List.nil_sublist _ | apply List.Sublist.cons_cons)))
          | (exact True.intro) | (apply bc_i; intro C hC) | (apply bt_i) | (apply og_n) | (apply og_a; exact rfl))
      all_goals (try conv => whnf)
      refine nxt ((i + 2, T ++ [.two s[i + 1]]), (tx, cur ++ [UInt8.ofNat ((byteAt s (i + 1) : Int) : Int).toNat], cu), ptrA bl, .slice wa wk wc, vt, vd) ?_ ?_ ⟨rfl, rfl, rfl, rfl, rfl, rfl, trivial⟩ rfl
      · exact ⟨tokP_two hT hA1 hA2 (by rw [hok]; exact decide_eq_true (by omega)), by simp; omega, .inr rfl, by rw [stP_esc, hS, escV_s hA1 (by omega), ofNat_at hA1]⟩
      · show s.length - (i + 2) < s.length - i
        omega
    · have hq : (byteAt s (i + 1) : Int) = 110 := by assumption
      apply cx_bld (i := 0) (j := 1) rfl rfl (by decide) (write_byte1 hp v cur 10 (by omega) (by omega) (by omega))
      intro wa wk wc
      repeat' (first
        | (conv => whnf); first
          | (apply ch_l; apply sp_i; first | exact rfl | omega | exact ⟨rfl, by omega⟩ | exact ⟨rfl, by omega, by omega, by omega⟩ | exact ⟨rfl, by simp, by omega, by omega⟩ | exact ⟨⟨_, rfl⟩, by omega⟩ | assumption | (simp; omega))
          | (apply sp_i; first | exact rfl | omega | exact ⟨rfl, rfl, by omega⟩ | exact ⟨rfl, by omega⟩ | exact ⟨rfl, by omega, by omega, by omega⟩ | exact ⟨rfl, by simp, by omega, by omega⟩ | exact ⟨⟨_, rfl⟩, by omega⟩ | assumption | (simp; omega))
          | (apply sc_true) | (apply sc_false)
          | (first | apply sc_lt | apply sc_nlt | apply sc_eq | apply sc_neq | apply sc_nil | apply sc_nnil); all_goals (intro hb; try (first | (exfalso; omega) | exact absurd rfl hb | exact absurd hb (by decide) | exact absurd (by assumption) hb | (exfalso; simp only [List.length_cons, List.length_nil] at hb; omega)))
          | (apply sc_not) | (apply sc_i; all_goals intro hb)
          | (first | apply ix_nat | apply ix_int | apply sd_nat | apply sd_int | apply sl_nat | apply sl_int); first | omega | (simp only [List.length_cons, List.length_nil, List.length_drop, List.length_take] at *; omega)
          | (apply bx_i; intro hbd) | (apply gt_i; assumption; exact rfl)
          | (apply cx_is; first | fail) | (apply ab_i; intro bl)
          | (apply rt_is; exact rfl) | (apply rt_do; exact rfl; (repeat (first | exact List.nil_sublist _ | apply List.Sublist.cons_cons)))
          | (exact True.intro) | (apply bc_i; intro C hC) | (apply bt_i) | (apply og_n) | (apply og_a; exact rfl))
      all_goals (try conv => whnf)
      refine nxt ((i + 2, T ++ [.two s[i + 1]]), (tx, cur ++ [UInt8.ofNat (10 : Int).toNat], cu), ptrA bl, .slice wa wk wc, vt, vd) ?_ ?_ ⟨rfl, rfl, rfl, rfl, rfl, rfl, trivial⟩ rfl
      · exact ⟨tokP_two hT hA1 hA2 (by rw [hok]; exact decide_eq_true (by omega)), by simp; omega, .inr rfl, by rw [stP_esc, hS, escV_n hA1 (by omega)]; rfl⟩
      · show s.length - (i + 2) < s.length - i
        omega
    · have hq : (byteAt s (i + 1) : Int) = 78 := by assumption
      apply cx_bld (i := 0) (j := 1) rfl rfl (by decide) (write_byte1 hp v cur 10 (by omega) (by omega) (by omega))
      intro wa wk wc
      repeat' (first
        | (conv => whnf); first
          | (apply ch_l; apply sp_i; first | exact rfl | omega | exact ⟨rfl, by omega⟩ | exact ⟨rfl, by omega, by omega, by omega⟩ | exact ⟨rfl, by simp, by omega, by omega⟩ | exact ⟨⟨_, rfl⟩, by omega⟩ | assumption | (simp; omega))
          | (apply sp_i; first | exact rfl | omega | exact ⟨rfl, rfl, by omega⟩ | exact ⟨rfl, by omega⟩ | exact ⟨rfl, by omega, by omega, by omega⟩ | exact ⟨rfl, by simp, by omega, by omega⟩ | exact ⟨⟨_, rfl⟩, by omega⟩ | assumption | (simp; omega))
          | (apply sc_true) | (apply sc_false)
          | (first | apply sc_lt | apply sc_nlt | apply sc_eq | apply sc_neq | apply sc_nil | apply sc_nnil); all_goals (intro hb; try (first | (exfalso; omega) | exact absurd rfl hb | exact absurd hb (by decide) | exact absurd (by assumption) hb | (exfalso; simp only [List.length_cons, List.length_nil] at hb; omega)))
          | (apply sc_not) | (apply sc_i; all_goals intro hb)
          | (first | apply ix_nat | apply ix_int | apply sd_nat | apply sd_int | apply sl_nat | apply sl_int); first | omega | (simp only [List.length_cons, List.length_nil, List.length_drop, List.length_take] at *; omega)
          | (apply bx_i; intro hbd) | (apply gt_i; assumption; exact rfl)
          | (apply cx_is; first | fail) | (apply ab_i; intro bl)
          | (apply rt_is; exact rfl) | (apply rt_do; exact rfl; (repeat (first | exact List.nil_sublist _ | apply List.Sublist.cons_cons)))
          | (exact True.intro) | (apply bc_i; intro C hC) | (apply bt_i) | (apply og_n) | (apply og_a; exact rfl))
      all_goals (try conv => whnf)
      refine nxt ((i + 2, T ++ [.two s[i + 1]]), (tx, cur ++ [UInt8.ofNat (10 : Int).toNat], cu), ptrA bl, .slice wa wk wc, vt, vd) ?_ ?_ ⟨rfl, rfl, rfl, rfl, rfl, rfl, trivial⟩ rfl
      · exact ⟨tokP_two hT hA1 hA2 (by rw [hok]; exact decide_eq_true (by omega)), by simp; omega, .inr rfl, by rw [stP_esc, hS, escV_n hA1 (by omega)]; rfl⟩
      · show s.length - (i + 2) < s.length - i
        omega
    · have q1 : (byteAt s (i + 1) : Int) ≠ 92 := by assumption
      have q2 : (byteAt s (i + 1) : Int) ≠ 44 := by assumption
      have q3 : (byteAt s (i + 1) : Int) ≠ 59 := by assumption
      have q4 : (byteAt s (i + 1) : Int) ≠ 110 := by assumption
      have q5 : (byteAt s (i + 1) : Int) ≠ 78 := by assumption
      have he := tokP_bad hT hA1 hA2 (by rw [hok]; exact decide_eq_false (by omega))
      exact ⟨_, List.nil_sublist _, .inl ⟨_, _, he, rfl, rfl⟩⟩
  · repeat' (first
      | (conv => whnf); first
        | (apply ch_l; apply sp_i; first | exact rfl | omega | exact ⟨rfl, rfl, by omega⟩ | exact ⟨rfl, by omega⟩ | exact ⟨rfl, by omega, by omega, by omega⟩ | exact ⟨rfl, by simp, by omega, by omega⟩ | exact ⟨⟨_, rfl⟩, by omega⟩ | exact ⟨⟨_, rfl⟩, by omega, by omega⟩ | assumption | decide | (simp only [List.length_drop, List.length_take, List.length_append, List.length_set, List.length_cons, List.length_nil, OrOk] at *; omega) | (simp; omega))
        | (apply sp_i; first | exact rfl | omega | exact ⟨rfl, rfl, by omega⟩ | exact ⟨rfl, by omega⟩ | exact ⟨rfl, by omega, by omega, by omega⟩ | exact ⟨rfl, by simp, by omega, by omega⟩ | exact ⟨⟨_, rfl⟩, by omega⟩ | exact ⟨⟨_, rfl⟩, by omega, by omega⟩ | assumption | decide | (simp only [List.length_drop, List.length_take, List.length_append, List.length_set, List.length_cons, List.length_nil, OrOk] at *; omega) | (simp; omega))
        | (apply sc_true) | (apply sc_false)
        | (first | apply sc_lt | apply sc_nlt | apply sc_eq | apply sc_neq | apply sc_nil | apply sc_nnil | apply sc_seq | apply sc_nseq); all_goals (intro hb; try (first | (exfalso; omega) | exact absurd rfl hb | exact absurd hb (by decide) | exact absurd hb (by assumption) | exact absurd (by assumption) hb | (exfalso; simp only [List.length_cons, List.length_nil, List.length_append] at hb; omega)))
        | (apply sc_not) | (apply sc_or) | (apply sc_i; all_goals intro hb)
        | (first | apply ix_nat | apply ix_int); first | omega | (simp only [List.length_drop, List.length_take, List.length_append, List.length_set, List.length_cons, List.length_nil] at *; omega)
        | (apply bx_i; intro hbd) | (apply gt_i; assumption; exact rfl)
        | (first | apply sd_nat | apply sd_int | apply sl_nat | apply sl_int); first | omega | (simp only [List.length_drop, List.length_take, List.length_append, List.length_set, List.length_cons, List.length_nil] at *; omega)
        | (apply cx_is; first | exact hI _ (by omega) (by omega)) | (apply cx_do (i := 0) rfl; first | exact hI _ (by omega) (by omega))
        | (apply ab_i; intro bl) | (apply as_i; intro va vk vc hva) | (apply av_i; intro v) | (apply ac_i; intro bl cap hcap)
        | (apply bo_l) | (apply ch_r; apply sp_i; first | assumption | decide) | (apply ch_r; apply sp_i; intro i hi; exact ⟨rfl, rfl, rfl⟩) | (apply nx_i; all_goals intro hnx)
        | (apply Ia.hit; assumption) | (apply Ia.miss; assumption)
        | (apply rt_is; exact rfl) | (apply rt_do; exact rfl; (repeat (first | exact List.nil_sublist _ | apply List.Sublist.cons_cons))) | (apply iv; assumption)
        | (apply dw_q mixed hC hGL (by kernel_rfl))
        | (apply cq; assumption; (first | exact hI _ (by omega) (by omega)); exact rfl))
    all_goals (try conv => whnf)
    · have he := tokP_miss hT (by omega) (by assumption)
      exact ⟨_, List.nil_sublist _, .inl ⟨_, _, he, rfl, rfl⟩⟩
    · have hlt : i < s.length := by omega
      have hne : (byteAt s i : Int) ≠ 92 := by assumption
      have hin : 0 ≤ idxB a (byteAt s i : Int) := by assumption
      rw [get_n hlt] at hin
      refine cx_bl2 (i := 0) (j := 1) rfl rfl (by decide) (builder_take cur (by omega)) ?_
      repeat' (first
        | (conv => whnf); first
          | (apply ch_l; apply sp_i; first | exact rfl | omega | exact ⟨rfl, rfl, by omega⟩ | exact ⟨rfl, by omega⟩ | exact ⟨rfl, by omega, by omega, by omega⟩ | exact ⟨rfl, by simp, by omega, by omega⟩ | exact ⟨⟨_, rfl⟩, by omega⟩ | exact ⟨⟨_, rfl⟩, by omega, by omega⟩ | assumption | decide | (simp only [List.length_drop, List.length_take, List.length_append, List.length_set, List.length_cons, List.length_nil, OrOk] at *; omega) | (simp; omega))
          | (apply sp_i; first | exact rfl | omega | exact ⟨rfl, rfl, by omega⟩ | exact ⟨rfl, by omega⟩ | exact ⟨rfl, by omega, by omega, by omega⟩ | exact ⟨rfl, by simp, by omega, by omega⟩ | exact ⟨⟨_, rfl⟩, by omega⟩ | exact ⟨⟨_, rfl⟩, by omega, by omega⟩ | assumption | decide | (simp only [List.length_drop, List.length_take, List.length_append, List.length_set, List.length_cons, List.length_nil, OrOk] at *; omega) | (simp; omega))
          | (apply sc_true) | (apply sc_false)
          | (first | apply sc_lt | apply sc_nlt | apply sc_eq | apply sc_neq | apply sc_nil | apply sc_nnil | apply sc_seq | apply sc_nseq); all_goals (intro hb; try (first | (exfalso; omega) | exact absurd rfl hb | exact absurd hb (by decide) | exact absurd hb (by assumption) | exact absurd (by assumption) hb | (exfalso; simp only [List.length_cons, List.length_nil, List.length_append] at hb; omega)))
          | (apply sc_not) | (apply sc_or) | (apply sc_i; all_goals intro hb)
          | (first | apply ix_nat | apply ix_int); first | omega | (simp only [List.length_drop, List.length_take, List.length_append, List.length_set, List.length_cons, List.length_nil] at *; omega)
          | (apply bx_i; intro hbd) | (apply gt_i; assumption; exact rfl)
          | (first | apply sd_nat | apply sd_int | apply sl_nat | apply sl_int); first | omega | (simp only [List.length_drop, List.length_take, List.length_append, List.length_set, List.length_cons, List.length_nil] at *; omega)
          | (apply cx_is; first | fail) | (apply cx_do (i := 0) rfl; first | fail)
          | (apply ab_i; intro bl) | (apply as_i; intro va vk vc hva) | (apply av_i; intro v) | (apply ac_i; intro bl cap hcap)
          | (apply bo_l) | (apply ch_r; apply sp_i; first | assumption | decide) | (apply ch_r; apply sp_i; intro i hi; exact ⟨rfl, rfl, rfl⟩) | (apply nx_i; all_goals intro hnx)
          | (apply Ia.hit; assumption) | (apply Ia.miss; assumption)
          | (apply rt_is; exact rfl) | (apply rt_do; exact rfl; (repeat (first | exact List.nil_sublist _ | apply List.Sublist.cons_cons))) | (apply iv; assumption)
          | (apply dw_q mixed hC hGL (by kernel_rfl))
          | (apply cq; assumption; (first | fail); exact rfl))
      all_goals (try conv => whnf)
      refine cx_bl2 (i := 0) (j := 1) rfl rfl (by decide) builder_reset ?_
      repeat' (first
        | (conv => whnf); first
          | (apply ch_l; apply sp_i; first | exact rfl | omega | exact ⟨rfl, by omega⟩ | exact ⟨rfl, by omega, by omega, by omega⟩ | exact ⟨rfl, by simp, by omega, by omega⟩ | exact ⟨⟨_, rfl⟩, by omega⟩ | assumption | (simp; omega))
          | (apply sp_i; first | exact rfl | omega | exact ⟨rfl, rfl, by omega⟩ | exact ⟨rfl, by omega⟩ | exact ⟨rfl, by omega, by omega, by omega⟩ | exact ⟨rfl, by simp, by omega, by omega⟩ | exact ⟨⟨_, rfl⟩, by omega⟩ | assumption | (simp; omega))
          | (apply sc_true) | (apply sc_false)
          | (first | apply sc_lt | apply sc_nlt | apply sc_eq | apply sc_neq | apply sc_nil | apply sc_nnil); all_goals (intro hb; try (first | (exfalso; omega) | exact absurd rfl hb | exact absurd hb (by decide) | exact absurd (by assumption) hb | (exfalso; simp only [List.length_cons, List.length_nil] at hb; omega)))
          | (apply sc_not) | (apply sc_i; all_goals intro hb)
          | (first | apply ix_nat | apply ix_int | apply sd_nat | apply sd_int | apply sl_nat | apply sl_int); first | omega | (simp only [List.length_cons, List.length_nil, List.length_drop, List.length_take] at *; omega)
          | (apply bx_i; intro hbd) | (apply gt_i; assumption; exact rfl)
          | (apply cx_is; first | fail) | (apply ab_i; intro bl)
          | (apply rt_is; exact rfl) | (apply rt_do; exact rfl; (repeat (first | exact List.nil_sublist _ | apply List.Sublist.cons_cons)))
          | (exact True.intro) | (apply bc_i; intro C hC) | (apply bt_i) | (apply og_n) | (apply og_a; exact rfl))
      all_goals (try conv => whnf)
      refine nxt ((i + 1, T ++ [.one s[i]]), (tx ++ [cur], [], cu ++ [s[i]]), .pointer none, nilS, _, _) ?_ ?_ ⟨rfl, rfl, rfl, rfl, rfl, rfl, trivial⟩ ?_
      · exact ⟨tokP_one hT hlt hne, by simp; omega, .inl rfl, by rw [stP_in (idxB_in hin), hS]⟩
      · show s.length - (i + 1) < s.length - i
        omega
      · dsimp only
        rw [← strsC_snoc, List.length_append, List.length_append, show bytesC (cu ++ [s[i]]) = bytesC cu ++ [.int .u8 (byteAt s i : Int)] by rw [get_n hlt]; simp]
        rfl
    · have hlt : i < s.length := by omega
      have hne : (byteAt s i : Int) ≠ 92 := by assumption
      have hin : idxB a (byteAt s i : Int) < 0 := by assumption
      rw [get_n hlt] at hin
      apply cx_bld (i := 0) (j := 1) rfl rfl (by decide) (write_byte1 hp v cur (byteAt s i : Int) (by omega) (by omega) (by omega))
      intro wa wk wc
      repeat' (first
        | (conv => whnf); first
          | (apply ch_l; apply sp_i; first | exact rfl | omega | exact ⟨rfl, by omega⟩ | exact ⟨rfl, by omega, by omega, by omega⟩ | exact ⟨rfl, by simp, by omega, by omega⟩ | exact ⟨⟨_, rfl⟩, by omega⟩ | assumption | (simp; omega))
          | (apply sp_i; first | exact rfl | omega | exact ⟨rfl, rfl, by omega⟩ | exact ⟨rfl, by omega⟩ | exact ⟨rfl, by omega, by omega, by omega⟩ | exact ⟨rfl, by simp, by omega, by omega⟩ | exact ⟨⟨_, rfl⟩, by omega⟩ | assumption | (simp; omega))
          | (apply sc_true) | (apply sc_false)
          | (first | apply sc_lt | apply sc_nlt | apply sc_eq | apply sc_neq | apply sc_nil | apply sc_nnil); all_goals (intro hb; try (first | (exfalso; omega) | exact absurd rfl hb | exact absurd hb (by decide) | exact absurd (by assumption) hb | (exfalso; simp only [List.length_cons, List.length_nil] at hb; omega)))
          | (apply sc_not) | (apply sc_i; all_goals intro hb)
          | (first | apply ix_nat | apply ix_int | apply sd_nat | apply sd_int | apply sl_nat | apply sl_int); first | omega | (simp only [List.length_cons, List.length_nil, List.length_drop, List.length_take] at *; omega)
          | (apply bx_i; intro hbd) | (apply gt_i; assumption; exact rfl)
          | (apply cx_is; first | fail) | (apply ab_i; intro bl)
          | (apply rt_is; exact rfl) | (apply rt_do; exact rfl; (repeat (first | exact List.nil_sublist _ | apply List.Sublist.cons_cons)))
          | (exact True.intro) | (apply bc_i; intro C hC) | (apply bt_i) | (apply og_n) | (apply og_a; exact rfl))
      all_goals (try conv => whnf)
      refine nxt ((i + 1, T ++ [.one s[i]]), (tx, cur ++ [UInt8.ofNat ((byteAt s i : Int) : Int).toNat], cu), ptrA bl, .slice wa wk wc, vt, vd) ?_ ?_ ⟨rfl, rfl, rfl, rfl, rfl, rfl, trivial⟩ rfl
      · exact ⟨tokP_one hT hlt hne, by simp; omega, .inr rfl, by rw [stP_out (idxB_out hin), hS, ofNat_at hlt]⟩
      · show s.length - (i + 1) < s.length - i
        omega
    · have hlt : s.length ≤ i := by omega
      refine cx_bl2 (i := 0) (j := 1) rfl rfl (by decide) (builder_take cur (by omega)) ?_
      repeat' (first
        | (conv => whnf); first
          | (apply ch_l; apply sp_i; first | exact rfl | omega | exact ⟨rfl, rfl, by omega⟩ | exact ⟨rfl, by omega⟩ | exact ⟨rfl, by omega, by omega, by omega⟩ | exact ⟨rfl, by simp, by omega, by omega⟩ | exact ⟨⟨_, rfl⟩, by omega⟩ | exact ⟨⟨_, rfl⟩, by omega, by omega⟩ | assumption | decide | (simp only [List.length_drop, List.length_take, List.length_append, List.length_set, List.length_cons, List.length_nil, OrOk] at *; omega) | (simp; omega))
          | (apply sp_i; first | exact rfl | omega | exact ⟨rfl, rfl, by omega⟩ | exact ⟨rfl, by omega⟩ | exact ⟨rfl, by omega, by omega, by omega⟩ | exact ⟨rfl, by simp, by omega, by omega⟩ | exact ⟨⟨_, rfl⟩, by omega⟩ | exact ⟨⟨_, rfl⟩, by omega, by omega⟩ | assumption | decide | (simp only [List.length_drop, List.length_take, List.length_append, List.length_set, List.length_cons, List.length_nil, OrOk] at *; omega) | (simp; omega))
          | (apply sc_true) | (apply sc_false)
          | (first | apply sc_lt | apply sc_nlt | apply sc_eq | apply sc_neq | apply sc_nil | apply sc_nnil | apply sc_seq | apply sc_nseq); all_goals (intro hb; try (first | (exfalso; omega) | exact absurd rfl hb | exact absurd hb (by decide) | exact absurd hb (by assumption) | exact absurd (by assumption) hb | (exfalso; simp only [List.length_cons, List.length_nil, List.length_append] at hb; omega)))
          | (apply sc_not) | (apply sc_or) | (apply sc_i; all_goals intro hb)
          | (first | apply ix_nat | apply ix_int); first | omega | (simp only [List.length_drop, List.length_take, List.length_append, List.length_set, List.length_cons, List.length_nil] at *; omega)
          | (apply bx_i; intro hbd) | (apply gt_i; assumption; exact rfl)
          | (first | apply sd_nat | apply sd_int | apply sl_nat | apply sl_int); first | omega | (simp only [List.length_drop, List.length_take, List.length_append, List.length_set, List.length_cons, List.length_nil] at *; omega)
          | (apply cx_is; first | fail) | (apply cx_do (i := 0) rfl; first | fail)
          | (apply ab_i; intro bl) | (apply as_i; intro va vk vc hva) | (apply av_i; intro v) | (apply ac_i; intro bl cap hcap)
          | (apply bo_l) | (apply ch_r; apply sp_i; first | assumption | decide) | (apply ch_r; apply sp_i; intro i hi; exact ⟨rfl, rfl, rfl⟩) | (apply nx_i; all_goals intro hnx)
          | (apply Ia.hit; assumption) | (apply Ia.miss; assumption)
          | (apply rt_is; exact rfl) | (apply rt_do; exact rfl; (repeat (first | exact List.nil_sublist _ | apply List.Sublist.cons_cons))) | (apply iv; assumption)
          | (apply dw_q mixed hC hGL (by kernel_rfl))
          | (apply cq; assumption; (first | fail); exact rfl))
      all_goals (try conv => whnf)
      obtain ⟨he, ht⟩ := tokP_end hT hlt
      refine ⟨_, .cons _ (.cons _ (.refl _)), .inr ⟨he, _, _, rfl, ?_⟩⟩
      rw [pcL_ok he, pcC_ok he, ht, hS]
      dsimp only
      rw [← strsC_snoc, List.length_append]
      rfl
end Go.Proofs.YtlmihggafbmkaaaGreatDoor
namespace Go.Proofs.YtlmihggafbmkaaaGreatDoor
open Go Go.RowKit
theorem tuple3 {R R' : Seal} {a a' b b' c : AVal} {x : Value} (hle : R.le R') (h : Rel R (.tuple [a, b, c]) x) (ha : ∀ v, Rel R a v → Rel R' a' v) (hb : ∀ v, Rel R b v → Rel R' b' v) : Rel R' (.tuple [a', b', c]) x := by
  obtain ⟨⟨ws, e, u, t, e1, hu, u2, t2, e2, hu2, u3, t3, e3, hu3, rfl⟩, h2⟩ := h
  have k := ha u ⟨hu.1, hu.2⟩
  have k2 := hb u2 ⟨hu2.1, hu2.2⟩
  have k3 := rel_mono hle (show Rel R c u3 from ⟨hu3.1, hu3.2⟩)
  exact ⟨⟨ws, e, _, _, e1, ⟨k.1, k.2⟩, _, _, e2, ⟨k2.1, k2.2⟩, _, _, e3, ⟨k3.1, k3.2⟩, rfl⟩, h2⟩
theorem nil_rel {R : Seal} {sz : Nat} {f : Nat → AVal} {v : Value} (h : Rel R (.raw (.slice none 0 0)) v) : Rel R (.list sz 0 f) v := by
  rw [rel_raw] at h
  subst h
  exact ⟨⟨none, 0, rfl, Nat.le_refl _, .inl rfl⟩, rfl⟩
theorem text_pieces {G : Glo} (s a : List UInt8) (hl : s.length ≤ 2000000) : FnIs Tryz.prog G 26 [.str s, .str a] (.tuple [.list 1 (pcL a s).length (strsF (pcL a s)), .list 1 (pcC a s).length (bytF (pcC a s)), (errT s 0).A]) := by
  refine fn_told (text_pieces_run s a hl) ?_
  rintro r H (⟨e, p, he, rfl, rfl⟩ | ⟨he, vt, vc, rfl, rfl⟩)
  · rintro C R w en hm ⟨x, rfl, hx⟩
    rw [pcL_at he, pcC_at he, he]
    exact ⟨R, hm, x, rfl, tuple3 (Seal.le_refl R) hx (fun v => nil_rel) (fun v => nil_rel)⟩
  · rintro C R w en hm ⟨x, rfl, hx⟩
    obtain ⟨R1, l1, m1, r1⟩ := hm.seal_row (f := strsF (pcL a s)) (strsF_ok _)
    obtain ⟨R2, l2, m2, r2⟩ := m1.seal_row (f := bytF (pcC a s)) (bytF_ok _)
    rw [he]
    exact ⟨R2, m2, x, rfl, tuple3 (Seal.le_trans l1 l2) hx (fun v h => by rw [(rel_own.1 h).1]; exact rel_mono l2 r1) (fun v h => by rw [(rel_own.1 h).1]; exact r2)⟩
theorem err_cases (s : List UInt8) : errT s 0 = .none ∨ ∃ e p, errT s 0 = .at e p := by
  rcases errT_form s.length s 0 (Nat.le_refl _) with k | ⟨p, k⟩ | ⟨p, k⟩
  · exact .inl k
  · exact .inr ⟨_, _, k⟩
  · exact .inr ⟨_, _, k⟩
theorem pcL_none {s : List UInt8} (h : errT s 0 = .none) : pcL [] s = [unS s] := by
  rw [pcL_ok h, stP_nil, unS_ok h]
  rfl
theorem pcL_comma (s : List UInt8) : pcL [44] s = lstS s := by
  rcases err_cases s with h | ⟨e, p, h⟩
  · rw [pcL_ok h, lstS_ok h, lstT_eq, (stP_one 44 _).1, (stP_one 44 _).2]
  · rw [pcL_at h, lstS_no (by rw [h]; exact fun k => by cases k)]
set_option maxRecDepth 20000
set_option maxHeartbeats 8000000
set_option linter.unusedSimpArgs false
set_option linter.unusedVariables false
attribute [local irreducible] AWp AOps SrcOK OrOk GloAll FnSpec byteAt errT tokT pcL pcC unS lstS
theorem text_Unescape {G : Glo} (s : List UInt8) (hl : s.length ≤ 2000000) : FnIs Tryz.prog G 12 [.str s] (.tuple [.str (unS s), (errT s 0).A]) := by
  have hP := text_pieces (G := G) s [] hl
  rcases err_cases s with h | ⟨e, p, h⟩
  · rw [h, pcL_none h] at hP
    rw [h]
    have hGL : GloAll G [] := gloAll_nil
    refine fn_x Tryz.func12 Tryz.call12 rfl rfl rfl rfl hGL ?_
    intro C hC
    repeat' (first
      | (conv => whnf); first
        | (apply ch_l; apply sp_i; first | exact rfl | omega | exact ⟨rfl, rfl, by omega⟩ | exact ⟨rfl, by omega⟩ | exact ⟨rfl, by omega, by omega, by omega⟩ | exact ⟨rfl, by simp, by omega, by omega⟩ | exact ⟨⟨_, rfl⟩, by omega⟩ | exact ⟨⟨_, rfl⟩, by omega, by omega⟩ | assumption | decide | (simp only [List.length_drop, List.length_take, List.length_append, List.length_set, List.length_cons, List.length_nil, OrOk] at *; omega) | (simp; omega))
        | (apply sp_i; first | exact rfl | omega | exact ⟨rfl, rfl, by omega⟩ | exact ⟨rfl, by omega⟩ | exact ⟨rfl, by omega, by omega, by omega⟩ | exact ⟨rfl, by simp, by omega, by omega⟩ | exact ⟨⟨_, rfl⟩, by omega⟩ | exact ⟨⟨_, rfl⟩, by omega, by omega⟩ | assumption | decide | (simp only [List.length_drop, List.length_take, List.length_append, List.length_set, List.length_cons, List.length_nil, OrOk] at *; omega) | (simp; omega))
        | (apply sc_true) | (apply sc_false)
        | (first | apply sc_lt | apply sc_nlt | apply sc_eq | apply sc_neq | apply sc_nil | apply sc_nnil | apply sc_seq | apply sc_nseq); all_goals (intro hb; try (first | (exfalso; omega) | exact absurd rfl hb | exact absurd hb (by decide) | exact absurd hb (by assumption) | exact absurd (by assumption) hb | (exfalso; simp only [List.length_cons, List.length_nil, List.length_append] at hb; omega)))
        | (apply sc_not) | (apply sc_or) | (apply sc_i; all_goals intro hb)
        | (first | apply ix_nat | apply ix_int); first | omega | (simp only [List.length_drop, List.length_take, List.length_append, List.length_set, List.length_cons, List.length_nil] at *; omega)
        | (apply bx_i; intro hbd) | (apply gt_i; assumption; exact rfl)
        | (first | apply sd_nat | apply sd_int | apply sl_nat | apply sl_int); first | omega | (simp only [List.length_drop, List.length_take, List.length_append, List.length_set, List.length_cons, List.length_nil] at *; omega)
        | (apply cx_is; first | exact hP) | (apply cx_do (i := 0) rfl; first | exact hP)
        | (apply ab_i; intro bl) | (apply as_i; intro va vk vc hva) | (apply av_i; intro v) | (apply ac_i; intro bl cap hcap)
        | (apply bo_l) | (apply ch_r; apply sp_i; first | assumption | decide) | (apply ch_r; apply sp_i; intro i hi; exact ⟨rfl, rfl, rfl⟩) | (apply nx_i; all_goals intro hnx)
        | (apply Ia.hit; assumption) | (apply Ia.miss; assumption)
        | (apply rt_is; exact rfl) | (apply rt_do; exact rfl; (repeat (first | exact List.nil_sublist _ | apply List.Sublist.cons_cons))) | (apply iv; assumption)
        | (apply dw_q mixed hC hGL (by kernel_rfl))
        | (apply cq; assumption; (first | exact hP); exact rfl))
    all_goals (try conv => whnf)
  · rw [h] at hP
    rw [h, unS_at h]
    have hGL : GloAll G [] := gloAll_nil
    refine fn_x Tryz.func12 Tryz.call12 rfl rfl rfl rfl hGL ?_
    intro C hC
    repeat' (first
      | (conv => whnf); first
        | (apply ch_l; apply sp_i; first | exact rfl | omega | exact ⟨rfl, rfl, by omega⟩ | exact ⟨rfl, by omega⟩ | exact ⟨rfl, by omega, by omega, by omega⟩ | exact ⟨rfl, by simp, by omega, by omega⟩ | exact ⟨⟨_, rfl⟩, by omega⟩ | exact ⟨⟨_, rfl⟩, by omega, by omega⟩ | assumption | decide | (simp only [List.length_drop, List.length_take, List.length_append, List.length_set, List.length_cons, List.length_nil, OrOk] at *; omega) | (simp; omega))
        | (apply sp_i; first | exact rfl | omega | exact ⟨rfl, rfl, by omega⟩ | exact ⟨rfl, by omega⟩ | exact ⟨rfl, by omega, by omega, by omega⟩ | exact ⟨rfl, by simp, by omega, by omega⟩ | exact ⟨⟨_, rfl⟩, by omega⟩ | exact ⟨⟨_, rfl⟩, by omega, by omega⟩ | assumption | decide | (simp only [List.length_drop, List.length_take, List.length_append, List.length_set, List.length_cons, List.length_nil, OrOk] at *; omega) | (simp; omega))
        | (apply sc_true) | (apply sc_false)
        | (first | apply sc_lt | apply sc_nlt | apply sc_eq | apply sc_neq | apply sc_nil | apply sc_nnil | apply sc_seq | apply sc_nseq); all_goals (intro hb; try (first | (exfalso; omega) | exact absurd rfl hb | exact absurd hb (by decide) | exact absurd hb (by assumption) | exact absurd (by assumption) hb | (exfalso; simp only [List.length_cons, List.length_nil, List.length_append] at hb; omega)))
        | (apply sc_not) | (apply sc_or) | (apply sc_i; all_goals intro hb)
        | (first | apply ix_nat | apply ix_int); first | omega | (simp only [List.length_drop, List.length_take, List.length_append, List.length_set, List.length_cons, List.length_nil] at *; omega)
        | (apply bx_i; intro hbd) | (apply gt_i; assumption; exact rfl)
        | (first | apply sd_nat | apply sd_int | apply sl_nat | apply sl_int); first | omega | (simp only [List.length_drop, List.length_take, List.length_append, List.length_set, List.length_cons, List.length_nil] at *; omega)
        | (apply cx_is; first | exact hP) | (apply cx_do (i := 0) rfl; first | exact hP)
        | (apply ab_i; intro bl) | (apply as_i; intro va vk vc hva) | (apply av_i; intro v) | (apply ac_i; intro bl cap hcap)
        | (apply bo_l) | (apply ch_r; apply sp_i; first | assumption | decide) | (apply ch_r; apply sp_i; intro i hi; exact ⟨rfl, rfl, rfl⟩) | (apply nx_i; all_goals intro hnx)
        | (apply Ia.hit; assumption) | (apply Ia.miss; assumption)
        | (apply rt_is; exact rfl) | (apply rt_do; exact rfl; (repeat (first | exact List.nil_sublist _ | apply List.Sublist.cons_cons))) | (apply iv; assumption)
        | (apply dw_q mixed hC hGL (by kernel_rfl))
        | (apply cq; assumption; (first | exact hP); exact rfl))
    all_goals (try conv => whnf)
theorem text_List {G : Glo} (s : List UInt8) (hl : s.length ≤ 2000000) : FnIs Tryz.prog G 14 [.str s] (.tuple [.list 1 (lstS s).length (strsF (lstS s)), (errT s 0).A]) := by
  have hP := text_pieces (G := G) s [44] hl
  rw [pcL_comma] at hP
  have hGL : GloAll G [] := gloAll_nil
  refine fn_x Tryz.func14 Tryz.call14 rfl rfl rfl rfl hGL ?_
  intro C hC
  repeat' (first
    | (conv => whnf); first
      | (apply ch_l; apply sp_i; first | exact rfl | omega | exact ⟨rfl, rfl, by omega⟩ | exact ⟨rfl, by omega⟩ | exact ⟨rfl, by omega, by omega, by omega⟩ | exact ⟨rfl, by simp, by omega, by omega⟩ | exact ⟨⟨_, rfl⟩, by omega⟩ | exact ⟨⟨_, rfl⟩, by omega, by omega⟩ | assumption | decide | (simp only [List.length_drop, List.length_take, List.length_append, List.length_set, List.length_cons, List.length_nil, OrOk] at *; omega) | (simp; omega))
      | (apply sp_i; first | exact rfl | omega | exact ⟨rfl, rfl, by omega⟩ | exact ⟨rfl, by omega⟩ | exact ⟨rfl, by omega, by omega, by omega⟩ | exact ⟨rfl, by simp, by omega, by omega⟩ | exact ⟨⟨_, rfl⟩, by omega⟩ | exact ⟨⟨_, rfl⟩, by omega, by omega⟩ | assumption | decide | (simp only [List.length_drop, List.length_take, List.length_append, List.length_set, List.length_cons, List.length_nil, OrOk] at *; omega) | (simp; omega))
      | (apply sc_true) | (apply sc_false)
      | (first | apply sc_lt | apply sc_nlt | apply sc_eq | apply sc_neq | apply sc_nil | apply sc_nnil | apply sc_seq | apply sc_nseq); all_goals (intro hb; try (first | (exfalso; omega) | exact absurd rfl hb | exact absurd hb (by decide) | exact absurd hb (by assumption) | exact absurd (by assumption) hb | (exfalso; simp only [List.length_cons, List.length_nil, List.length_append] at hb; omega)))
      | (apply sc_not) | (apply sc_or) | (apply sc_i; all_goals intro hb)
      | (first | apply ix_nat | apply ix_int); first | omega | (simp only [List.length_drop, List.length_take, List.length_append, List.length_set, List.length_cons, List.length_nil] at *; omega)
      | (apply bx_i; intro hbd) | (apply gt_i; assumption; exact rfl)
      | (first | apply sd_nat | apply sd_int | apply sl_nat | apply sl_int); first | omega | (simp only [List.length_drop, List.length_take, List.length_append, List.length_set, List.length_cons, List.length_nil] at *; omega)
      | (apply cx_is; first | exact hP) | (apply cx_do (i := 0) rfl; first | exact hP)
      | (apply ab_i; intro bl) | (apply as_i; intro va vk vc hva) | (apply av_i; intro v) | (apply ac_i; intro bl cap hcap)
      | (apply bo_l) | (apply ch_r; apply sp_i; first | assumption | decide) | (apply ch_r; apply sp_i; intro i hi; exact ⟨rfl, rfl, rfl⟩) | (apply nx_i; all_goals intro hnx)
      | (apply Ia.hit; assumption) | (apply Ia.miss; assumption)
      | (apply rt_is; exact rfl) | (apply rt_do; exact rfl; (repeat (first | exact List.nil_sublist _ | apply List.Sublist.cons_cons))) | (apply iv; assumption)
      | (apply dw_q mixed hC hGL (by kernel_rfl))
      | (apply cq; assumption; (first | exact hP); exact rfl))
  all_goals (try conv => whnf)
end Go.Proofs.YtlmihggafbmkaaaGreatDoor
namespace Go.Proofs.YtlmihggafbmkaaaGreatDoor
open Go Go.RowKit
/-- The lists so far. -/
def grpK (l : List (List UInt8)) (cuts : List UInt8) (k : Nat) : List (List (List UInt8)) := ((cuts.zip l.tail).take k).foldl stepG [[l.headD []]]
theorem grpK_zero (l : List (List UInt8)) (cuts : List UInt8) : grpK l cuts 0 = [] ++ [[l.headD []]] := rfl
theorem grpK_succ {l : List (List UInt8)} {cuts : List UInt8} (hl : l.length = cuts.length + 1) {k : Nat} (hk : k < cuts.length) : grpK l cuts (k + 1) = stepG (grpK l cuts k) (cuts.getD k 0, l.getD (k + 1) []) := by
  unfold grpK
  have h1 : k < (cuts.zip l.tail).length := by rw [List.length_zip, List.length_tail]; omega
  rw [List.take_succ_eq_append_getElem h1, List.foldl_append]
  have e : (cuts.zip l.tail)[k] = (cuts.getD k 0, l.getD (k + 1) []) := by
    have h2 : k + 1 < l.length := by omega
    rw [List.getElem_zip]
    simp [List.getD, hk, h2]
  rw [e]
  rfl
theorem grpK_all {l : List (List UInt8)} {cuts : List UInt8} (hl : l.length = cuts.length + 1) : grpK l cuts cuts.length = grpS l cuts := by
  unfold grpK grpS
  rw [List.take_of_length_le (by rw [List.length_zip]; omega)]
theorem pc_len {s : List UInt8} (h : errT s 0 = .none) : (pcL [44, 59] s).length = (pcC [44, 59] s).length + 1 := by
  rw [pcL_ok h, pcC_ok h]
  have := (stP_two (tokT s)).1
  simp [this]
theorem pc_grp {s : List UInt8} (h : errT s 0 = .none) : grpS (pcL [44, 59] s) (pcC [44, 59] s) = prtS s := by
  rw [pcL_ok h, pcC_ok h, prtS_ok h, grp_tok]
  rfl
theorem raw_len : ∀ T : List Tk, T.length ≤ (rawT T).length
  | [] => Nat.le_refl _
  | t :: T => by
    have ih := raw_len T
    rw [show rawT (t :: T) = t.raw ++ rawT T from rfl, List.length_append, List.length_cons]
    cases t with
    | one c => show _ ≤ 1 + _; omega
    | two d => show _ ≤ 2 + _; omega
theorem pc_cnt (a : List UInt8) (s : List UInt8) : (pcC a s).length ≤ s.length := by
  unfold pcC
  split
  · have h1 := (stP_len a (tokT s)).2.2
    have h2 := raw_len (tokT s)
    rename_i he
    rw [tok_raw s.length s 0 (Nat.le_refl _) he] at h2
    omega
  · exact Nat.zero_le _
theorem fieldP {A : List AVal} {x w : AVal} {N : Nat} (hA : A.length = N) : (A ++ [x]).take N ++ [w] ++ (A ++ [x]).drop (N + 1) = A ++ [w] := by
  subst hA
  simp
theorem to_perm {C : Ctx} {n : Nat} {e : Env} {h h' : Heap} (hp : h.Perm h') : To C n e h e h' := fun R _ _ hm hf => ⟨R, Seal.le_refl R, hm.perm hp, hf⟩
/-- A new list behind the others. -/
theorem to_semi {C : Ctx} {n : Nat} {e : Env} {I : List (List (List UInt8))} {l : List (List UInt8)} {u : Value} {b cap m : Nat} (hm : m = (I ++ [l]).length + 1) : To C n e [.row u none 1 l.length (strsC l), .row (.slice (some ⟨b, 0, none⟩) m cap) none 1 m (prtC I ++ [.own 0 u] ++ [.raw (.slice none 0 0)])] e
    [.row nilS none 1 0 [], .row (.slice (some ⟨b, 0, none⟩) ((I ++ [l]).length + 1) cap) none 1 ((I ++ [l]).length + 1) (prtC (I ++ [l]) ++ [.own 0 nilS])] := by
  subst hm
  have hI : (prtC I).length = I.length := by simp [prtC]
  have hI2 : (prtC (I ++ [l])).length = (I ++ [l]).length := by simp [prtC]
  refine to_trans (to_seal (i := 0) (k := 0) (p := I.length) (strsF l) rfl rfl (strsF_ok _) (fun R hr => .row (a := .own 0 u) ?_ fun _ => own_list hr)) ?_
  · rw [List.append_assoc, List.getElem?_append_right (by omega), hI, Nat.sub_self]; rfl
  have e1 : (prtC I ++ [AVal.own 0 u] ++ [AVal.raw (.slice none 0 0)]).set I.length (.list 1 l.length (strsF l)) = prtC (I ++ [l]) ++ [.raw (.slice none 0 0)] := by
    rw [List.append_assoc, List.set_append_right _ _ (by omega), hI, Nat.sub_self, ← prtC_snoc, List.append_assoc]
    rfl
  rw [e1]
  refine to_trans (to_ghost 1) (to_trans (to_perm (List.Perm.swap _ _ _)) ?_)
  have e2 : (prtC (I ++ [l]) ++ [AVal.raw (.slice none 0 0)]).set (I ++ [l]).length (.own 0 (.slice none 0 0)) = prtC (I ++ [l]) ++ [.own 0 nilS] := by
    rw [List.set_append_right _ _ (by omega), hI2, Nat.sub_self]
    rfl
  rw [← e2]
  refine to_cell (i := 1) (p := (I ++ [l]).length) (x := .row (.slice (some ⟨b, 0, none⟩) ((I ++ [l]).length + 1) cap) none 1 ((I ++ [l]).length + 1) (prtC (I ++ [l]) ++ [.raw (.slice none 0 0)])) (a' := .own 0 (.slice none 0 0)) rfl (fun R => .row (a := .raw (.slice none 0 0)) ?_ fun _ => nil_own)
  rw [List.getElem?_append_right (by omega), hI2, Nat.sub_self]; rfl
set_option maxRecDepth 20000
set_option maxHeartbeats 8000000
set_option linter.unusedSimpArgs false
set_option linter.unusedVariables false
attribute [local irreducible] AWp AOps SrcOK OrOk GloAll FnSpec byteAt errT tokT pcL pcC unS lstS prtS grpK
theorem text_Parts_run {G : Glo} (s : List UInt8) (hl : s.length ≤ 2000000) (he : errT s 0 = .none) : FnSpec Tryz.prog G 16 [.str s] [] (fun r H => ∃ I l u v, I ++ [l] = prtS s ∧ r = .ret (.tuple [.own 1 v, .raw .nilIface]) ∧ H = [.row u none 1 l.length (strsC l), .row v none 1 (I.length + 1) (prtC I ++ [.own 0 u])]) := by
  have hP := text_pieces (G := G) s [44, 59] hl
  rw [he] at hP
  have hn := pc_len he
  have hg := pc_grp he
  have hc := pc_cnt [44, 59] s
  generalize pcL [44, 59] s = L at *
  generalize pcC [44, 59] s = cu at *
  have hGL : GloAll G [] := gloAll_nil
  refine fn_x Tryz.func16 Tryz.call16 rfl rfl rfl rfl hGL ?_
  intro C hC
  repeat' (first
    | (conv => whnf); first
      | (apply ch_l; apply sp_i; first | exact rfl | omega | exact ⟨rfl, rfl, by omega⟩ | exact ⟨rfl, by omega⟩ | exact ⟨rfl, by omega, by omega, by omega⟩ | exact ⟨rfl, by simp, by omega, by omega⟩ | exact ⟨⟨_, rfl⟩, by omega⟩ | exact ⟨⟨_, rfl⟩, by omega, by omega⟩ | assumption | decide | (simp only [List.length_drop, List.length_take, List.length_append, List.length_set, List.length_cons, List.length_nil, OrOk] at *; omega) | (simp; omega))
      | (apply sp_i; first | exact rfl | omega | exact ⟨rfl, rfl, by omega⟩ | exact ⟨rfl, by omega⟩ | exact ⟨rfl, by omega, by omega, by omega⟩ | exact ⟨rfl, by simp, by omega, by omega⟩ | exact ⟨⟨_, rfl⟩, by omega⟩ | exact ⟨⟨_, rfl⟩, by omega, by omega⟩ | assumption | decide | (simp only [List.length_drop, List.length_take, List.length_append, List.length_set, List.length_cons, List.length_nil, OrOk] at *; omega) | (simp; omega))
      | (apply sc_true) | (apply sc_false)
      | (first | apply sc_lt | apply sc_nlt | apply sc_eq | apply sc_neq | apply sc_nil | apply sc_nnil | apply sc_seq | apply sc_nseq); all_goals (intro hb; try (first | (exfalso; omega) | exact absurd rfl hb | exact absurd hb (by decide) | exact absurd hb (by assumption) | exact absurd (by assumption) hb | (exfalso; simp only [List.length_cons, List.length_nil, List.length_append] at hb; omega)))
      | (apply sc_not) | (apply sc_or) | (apply sc_i; all_goals intro hb)
      | (first | apply ix_nat | apply ix_int); first | omega | (simp only [List.length_drop, List.length_take, List.length_append, List.length_set, List.length_cons, List.length_nil] at *; omega)
      | (apply bx_i; intro hbd) | (apply gt_i; assumption; exact rfl)
      | (first | apply sd_nat | apply sd_int | apply sl_nat | apply sl_int); first | omega | (simp only [List.length_drop, List.length_take, List.length_append, List.length_set, List.length_cons, List.length_nil] at *; omega)
      | (apply cx_is; first | exact hP) | (apply cx_do (i := 0) rfl; first | exact hP)
      | (apply ab_i; intro bl) | (apply as_i; intro va vk vc hva) | (apply av_i; intro v) | (apply ac_i; intro bl cap hcap)
      | (apply bo_r) | (apply ch_r; apply sp_i; first | assumption | decide) | (apply ch_r; apply sp_i; intro i hi; exact ⟨rfl, rfl, rfl⟩) | (apply nx_i; all_goals intro hnx)
      | (apply Ia.hit; assumption) | (apply Ia.miss; assumption)
      | (apply rt_is; exact rfl) | (apply rt_do; exact rfl; (repeat (first | exact List.nil_sublist _ | apply List.Sublist.cons_cons))) | (apply iv; assumption)
      | (exact True.intro) | (apply bc_i; intro C hC) | (apply bt_i) | (apply og_n) | (apply og_a; exact rfl))
  all_goals (try conv => whnf)
  rename_i va1 vk1 vc1 hva1
  obtain ⟨bv, rfl, rfl⟩ := hva (by decide)
  refine lpT hC hGL (fun (x : Nat × List (List (List UInt8)) × List (List UInt8) × Nat × Nat × Value) => [(4, .list 1 L.length (strsF L)), (7, .own 1 (.slice (some ⟨x.2.2.2.1, 0, none⟩) (x.2.1.length + 1) x.2.2.2.2.1)), (25, .list 1 cu.length (bytF cu)), (26, .int .i64 (cu.length : Nat)), (27, .int .i64 (x.1 : Nat))])
    (fun x => [.row x.2.2.2.2.2 none 1 x.2.2.1.length (strsC x.2.2.1), .row (.slice (some ⟨x.2.2.2.1, 0, none⟩) (x.2.1.length + 1) x.2.2.2.2.1) none 1 (x.2.1.length + 1) (prtC x.2.1 ++ [.own 0 x.2.2.2.2.2])])
    (fun x => x.1 ≤ cu.length ∧ x.2.1 ++ [x.2.2.1] = grpK L cu x.1 ∧ x.2.1.length ≤ x.1 ∧ x.2.2.1.length ≤ x.1 + 1) (fun x => cu.length - x.1) (0, [], [L.getD 0 []], bv, vc, .slice va1 vk1 vc1) ?_ ?_ ?_
  · refine ⟨Nat.zero_le _, ?_, Nat.le_refl _, Nat.le_refl _⟩
    rw [grpK_zero]
    cases L <;> rfl
  · exact to_sub ⟨rfl, rfl, rfl, rfl, rfl, trivial⟩ (List.Sublist.refl _)
  rintro ⟨k, I, l, b, cap, u⟩ ⟨g1, g2, g3, g4⟩
  dsimp only at g1 g2 g3 g4 ⊢
  have hIl : (prtC I).length = I.length := by simp [prtC]
  by_cases hk : k < cu.length
  · have gs := grpK_succ hn hk
    rw [← g2] at gs
    by_cases hc59 : cu.getD k 0 = 59
    · have hcb : ((cu.getD k 0).toNat : Int) = 59 := by rw [hc59]; rfl
      repeat' (first
        | (conv => whnf); first
          | (apply ch_l; apply sp_i; first | exact rfl | omega | exact ⟨rfl, rfl, by omega⟩ | exact ⟨rfl, by omega⟩ | exact ⟨rfl, by omega, by omega, by omega⟩ | exact ⟨rfl, by simp, by omega, by omega⟩ | exact ⟨⟨_, rfl⟩, by omega⟩ | exact ⟨⟨_, rfl⟩, by omega, by omega⟩ | assumption | decide | (simp only [List.length_drop, List.length_take, List.length_append, List.length_set, List.length_cons, List.length_nil, OrOk] at *; omega) | (simp; omega))
          | (apply sp_i; first | exact rfl | omega | exact ⟨rfl, rfl, by omega⟩ | exact ⟨rfl, by omega⟩ | exact ⟨rfl, by omega, by omega, by omega⟩ | exact ⟨rfl, by simp, by omega, by omega⟩ | exact ⟨⟨_, rfl⟩, by omega⟩ | exact ⟨⟨_, rfl⟩, by omega, by omega⟩ | assumption | decide | (simp only [List.length_drop, List.length_take, List.length_append, List.length_set, List.length_cons, List.length_nil, OrOk] at *; omega) | (simp; omega))
          | (apply sc_true) | (apply sc_false)
          | (first | apply sc_lt | apply sc_nlt | apply sc_eq | apply sc_neq | apply sc_nil | apply sc_nnil | apply sc_seq | apply sc_nseq); all_goals (intro hb; try (first | (exfalso; omega) | exact absurd rfl hb | exact absurd hb (by decide) | exact absurd hb (by assumption) | exact absurd (by assumption) hb | (exfalso; simp only [List.length_cons, List.length_nil, List.length_append] at hb; omega)))
          | (apply sc_not) | (apply sc_or) | (apply sc_i; all_goals intro hb)
          | (first | apply ix_nat | apply ix_int); first | omega | (simp only [List.length_drop, List.length_take, List.length_append, List.length_set, List.length_cons, List.length_nil] at *; omega)
          | (apply bx_i; intro hbd) | (apply gt_i; assumption; exact rfl)
          | (first | apply sd_nat | apply sd_int | apply sl_nat | apply sl_int); first | omega | (simp only [List.length_drop, List.length_take, List.length_append, List.length_set, List.length_cons, List.length_nil] at *; omega)
          | (apply cx_is; first | fail) | (apply cx_do (i := 0) rfl; first | fail)
          | (apply ab_i; intro bl) | (apply as_i; intro va vk vc hva) | (apply av_i; intro v) | (apply ac_i; intro bl cap hcap)
          | (apply bo_l) | (apply ch_r; apply sp_i; first | assumption | decide) | (apply ch_r; apply sp_i; intro i hi; exact ⟨rfl, rfl, rfl⟩) | (apply nx_i; all_goals intro hnx)
          | (apply Ia.hit; assumption) | (apply Ia.miss; assumption)
          | (apply rt_is; exact rfl) | (apply rt_do; exact rfl; (repeat (first | exact List.nil_sublist _ | apply List.Sublist.cons_cons))) | (apply iv; assumption)
          | (exact True.intro) | (apply bc_i; intro C hC) | (apply bt_i) | (apply og_n) | (apply og_a; exact rfl))
      all_goals (try conv => whnf)
      obtain ⟨b2, rfl, rfl⟩ := hva (by omega)
      refine dw_to (e' := [(8, .int .i64 (k : Nat)), (10, .int .i64 ((I ++ [l]).length : Nat)), (4, .list 1 L.length (strsF L)), (7, .own 1 (.slice (some ⟨b2, 0, none⟩) ((I ++ [l]).length + 1) vc)), (25, .list 1 cu.length (bytF cu)), (26, .int .i64 (cu.length : Nat)), (27, .int .i64 (k : Nat))]) (to_trans (to_sub (e' := [(8, .int .i64 (k : Nat)), (10, .int .i64 ((I ++ [l]).length : Nat)), (4, .list 1 L.length (strsF L)), (7, .own 1 (.slice (some ⟨b2, 0, none⟩) ((I ++ [l]).length + 1) vc)), (25, .list 1 cu.length (bytF cu)), (26, .int .i64 (cu.length : Nat)), (27, .int .i64 (k : Nat))]) ⟨rfl, congrArg (fun z => some (AVal.int .i64 z)) (by rw [List.length_append, List.length_singleton]; omega), rfl, congrArg (fun z => some (AVal.own 1 (.slice (some ⟨b2, 0, none⟩) z vc))) (by rw [List.length_append]; rfl), rfl, rfl, rfl, trivial⟩ (List.Sublist.refl _)) (to_semi (by rw [List.length_append]; rfl))) ?_
      have hI2 : (prtC (I ++ [l])).length = (I ++ [l]).length := by simp [prtC]
      have hn2 : (I ++ [l]).length = I.length + 1 := by simp
      generalize hI3 : I ++ [l] = I2 at *
      have q2 : (prtC I2 ++ [AVal.own 0 nilS])[I2.length]? = some (.own 0 nilS) := by rw [List.getElem?_append_right (by omega), hI2, Nat.sub_self]; rfl
      have ra : RowAt (.slice (some ⟨b2, 0, none⟩) (I2.length + 1) vc) b2 (I2.length + 1) := ⟨vc, rfl⟩
      have ra2 : RowAt (.slice (some ⟨b2, 0, none⟩) (I2.length + 1) vc) b2 (I2.length + 1) ∧ I2.length < (I2.length + 1) * 1 := ⟨ra, by omega⟩
      refine dw_p mixed hC hGL false (fun (_ : Option Addr × Nat × Nat) => [(4, .list 1 L.length (strsF L)), (7, .own 1 (.slice (some ⟨b2, 0, none⟩) (I2.length + 1) vc)), (25, .list 1 cu.length (bytF cu)), (26, .int .i64 (cu.length : Nat)), (27, .int .i64 (k : Nat))]) (fun y => [.row (.slice y.1 y.2.1 y.2.2) none 1 (0 + 1) ([] ++ [.str (L.getD (k + 1) [])]), .row (.slice (some ⟨b2, 0, none⟩) (I2.length + 1) vc) none 1 (I2.length + 1) ((prtC I2 ++ [AVal.own 0 nilS]).take I2.length ++ [.own 0 (.slice y.1 y.2.1 y.2.2)] ++ (prtC I2 ++ [AVal.own 0 nilS]).drop (I2.length + 1))]) (.take 0 (.take 1 (.take 2 (.take 3 (.take 4 (.take 6 (.take 7 (.take 8 (.take 9 (.br 5 (.br 10 (.br 11 (.br 12 (.take 13 (.br 14 (.done) (.nil))) (.nil)) (.nil)) (.nil)) (.br 10 (.br 5 (.br 11 (.br 12 (.take 13 (.br 14 (.done) (.nil))) (.nil)) (.nil)) (.br 11 (.br 5 (.br 12 (.take 13 (.br 14 (.done) (.nil))) (.nil)) (.nil)) (.nil))) (.nil)))))))))))) (by kernel_rfl) ?_ ?_
      · repeat' (first
          | (conv => whnf); first
            | (apply ch_l; apply sp_i; first | exact rfl | omega | exact ⟨rfl, rfl, by omega⟩ | exact ⟨rfl, by omega⟩ | exact ⟨rfl, by omega, by omega, by omega⟩ | exact ⟨rfl, by simp, by omega, by omega⟩ | exact ⟨⟨_, rfl⟩, by omega⟩ | exact ⟨⟨_, rfl⟩, by omega, by omega⟩ | assumption | decide | (simp only [List.length_drop, List.length_take, List.length_append, List.length_set, List.length_cons, List.length_nil, OrOk] at *; omega) | (simp; omega))
            | (apply sp_i; first | exact rfl | omega | exact ⟨rfl, rfl, by omega⟩ | exact ⟨rfl, by omega⟩ | exact ⟨rfl, by omega, by omega, by omega⟩ | exact ⟨rfl, by simp, by omega, by omega⟩ | exact ⟨⟨_, rfl⟩, by omega⟩ | exact ⟨⟨_, rfl⟩, by omega, by omega⟩ | assumption | decide | (simp only [List.length_drop, List.length_take, List.length_append, List.length_set, List.length_cons, List.length_nil, OrOk] at *; omega) | (simp; omega))
            | (apply sc_true) | (apply sc_false)
            | (first | apply sc_lt | apply sc_nlt | apply sc_eq | apply sc_neq | apply sc_nil | apply sc_nnil | apply sc_seq | apply sc_nseq); all_goals (intro hb; try (first | (exfalso; omega) | exact absurd rfl hb | exact absurd hb (by decide) | exact absurd hb (by assumption) | exact absurd (by assumption) hb | (exfalso; simp only [List.length_cons, List.length_nil, List.length_append] at hb; omega)))
            | (apply sc_not) | (apply sc_or) | (apply sc_i; all_goals intro hb)
            | (first | apply ix_nat | apply ix_int); first | omega | (simp only [List.length_drop, List.length_take, List.length_append, List.length_set, List.length_cons, List.length_nil] at *; omega)
            | (apply bx_i; intro hbd) | (apply gt_i; assumption; exact rfl)
            | (first | apply sd_nat | apply sd_int | apply sl_nat | apply sl_int); first | omega | (simp only [List.length_drop, List.length_take, List.length_append, List.length_set, List.length_cons, List.length_nil] at *; omega)
            | (apply cx_is; first | fail) | (apply cx_do (i := 0) rfl; first | fail)
            | (apply ab_i; intro bl) | (apply as_i; intro va vk vc hva) | (apply av_i; intro v) | (apply ac_i; intro bl cap hcap)
            | (apply bo_l) | (apply ch_r; apply sp_i; first | assumption | decide) | (apply ch_r; apply sp_i; intro i hi; exact ⟨rfl, rfl, rfl⟩) | (apply nx_i; all_goals intro hnx)
            | (apply Ia.hit; assumption) | (apply Ia.miss; assumption)
            | (apply rt_is; exact rfl) | (apply rt_do; exact rfl; (repeat (first | exact List.nil_sublist _ | apply List.Sublist.cons_cons))) | (apply iv; assumption)
            | (exact True.intro) | (apply bc_i; intro C hC) | (apply bt_i) | (apply og_n) | (apply og_a; exact rfl))
        all_goals (try conv => whnf)
        all_goals exact ⟨(_, _, _), ⟨rfl, rfl, rfl, rfl, rfl, trivial⟩, rfl⟩
      rintro ⟨wa, wk, wc⟩
      dsimp only
      rw [fieldP hI2]
      repeat' (first
        | (conv => whnf); first
          | (apply ch_l; apply sp_i; first | exact rfl | omega | exact ⟨rfl, rfl, by omega⟩ | exact ⟨rfl, by omega⟩ | exact ⟨rfl, by omega, by omega, by omega⟩ | exact ⟨rfl, by simp, by omega, by omega⟩ | exact ⟨⟨_, rfl⟩, by omega⟩ | exact ⟨⟨_, rfl⟩, by omega, by omega⟩ | assumption | decide | (simp only [List.length_drop, List.length_take, List.length_append, List.length_set, List.length_cons, List.length_nil, OrOk] at *; omega) | (simp; omega))
          | (apply sp_i; first | exact rfl | omega | exact ⟨rfl, rfl, by omega⟩ | exact ⟨rfl, by omega⟩ | exact ⟨rfl, by omega, by omega, by omega⟩ | exact ⟨rfl, by simp, by omega, by omega⟩ | exact ⟨⟨_, rfl⟩, by omega⟩ | exact ⟨⟨_, rfl⟩, by omega, by omega⟩ | assumption | decide | (simp only [List.length_drop, List.length_take, List.length_append, List.length_set, List.length_cons, List.length_nil, OrOk] at *; omega) | (simp; omega))
          | (apply sc_true) | (apply sc_false)
          | (first | apply sc_lt | apply sc_nlt | apply sc_eq | apply sc_neq | apply sc_nil | apply sc_nnil | apply sc_seq | apply sc_nseq); all_goals (intro hb; try (first | (exfalso; omega) | exact absurd rfl hb | exact absurd hb (by decide) | exact absurd hb (by assumption) | exact absurd (by assumption) hb | (exfalso; simp only [List.length_cons, List.length_nil, List.length_append] at hb; omega)))
          | (apply sc_not) | (apply sc_or) | (apply sc_i; all_goals intro hb)
          | (first | apply ix_nat | apply ix_int); first | omega | (simp only [List.length_drop, List.length_take, List.length_append, List.length_set, List.length_cons, List.length_nil] at *; omega)
          | (apply bx_i; intro hbd) | (apply gt_i; assumption; exact rfl)
          | (first | apply sd_nat | apply sd_int | apply sl_nat | apply sl_int); first | omega | (simp only [List.length_drop, List.length_take, List.length_append, List.length_set, List.length_cons, List.length_nil] at *; omega)
          | (apply cx_is; first | fail) | (apply cx_do (i := 0) rfl; first | fail)
          | (apply ab_i; intro bl) | (apply as_i; intro va vk vc hva) | (apply av_i; intro v) | (apply ac_i; intro bl cap hcap)
          | (apply bo_l) | (apply ch_r; apply sp_i; first | assumption | decide) | (apply ch_r; apply sp_i; intro i hi; exact ⟨rfl, rfl, rfl⟩) | (apply nx_i; all_goals intro hnx)
          | (apply Ia.hit; assumption) | (apply Ia.miss; assumption)
          | (apply rt_is; exact rfl) | (apply rt_do; exact rfl; (repeat (first | exact List.nil_sublist _ | apply List.Sublist.cons_cons))) | (apply iv; assumption)
          | (exact True.intro) | (apply bc_i; intro C hC) | (apply bt_i) | (apply og_n) | (apply og_a; exact rfl))
      all_goals (try conv => whnf)
      refine nxT (k + 1, I2, [L.getD (k + 1) []], b2, vc, .slice wa wk wc) ⟨hk, ?_, by dsimp only; omega, by simp⟩ (show cu.length - (k + 1) < cu.length - k by omega) ?_
      · dsimp only
        rw [gs, show stepG I2 (cu.getD k 0, L.getD (k + 1) []) = lastA (I2 ++ [[]]) (L.getD (k + 1) []) by unfold stepG; rw [if_pos hc59], lastA_snoc]
        rfl
      · dsimp only
        exact to_sub ⟨rfl, rfl, rfl, rfl, rfl, trivial⟩ (List.Sublist.refl _)
    · have hcb : ((cu.getD k 0).toNat : Int) ≠ 59 := fun h => hc59 (UInt8.toNat_inj.1 (by have : (59 : UInt8).toNat = 59 := rfl; omega))
      have q2 : (prtC I ++ [AVal.own 0 u])[I.length]? = some (.own 0 u) := by rw [List.getElem?_append_right (by omega), hIl, Nat.sub_self]; rfl
      have ra : RowAt (.slice (some ⟨b, 0, none⟩) (I.length + 1) cap) b (I.length + 1) := ⟨cap, rfl⟩
      have ra2 : RowAt (.slice (some ⟨b, 0, none⟩) (I.length + 1) cap) b (I.length + 1) ∧ I.length < (I.length + 1) * 1 := ⟨ra, by omega⟩
      repeat' (first
        | (conv => whnf); first
          | (apply ch_l; apply sp_i; first | exact rfl | omega | exact ⟨rfl, rfl, by omega⟩ | exact ⟨rfl, by omega⟩ | exact ⟨rfl, by omega, by omega, by omega⟩ | exact ⟨rfl, by simp, by omega, by omega⟩ | exact ⟨⟨_, rfl⟩, by omega⟩ | exact ⟨⟨_, rfl⟩, by omega, by omega⟩ | assumption | decide | (simp only [List.length_drop, List.length_take, List.length_append, List.length_set, List.length_cons, List.length_nil, OrOk] at *; omega) | (simp; omega))
          | (apply sp_i; first | exact rfl | omega | exact ⟨rfl, rfl, by omega⟩ | exact ⟨rfl, by omega⟩ | exact ⟨rfl, by omega, by omega, by omega⟩ | exact ⟨rfl, by simp, by omega, by omega⟩ | exact ⟨⟨_, rfl⟩, by omega⟩ | exact ⟨⟨_, rfl⟩, by omega, by omega⟩ | assumption | decide | (simp only [List.length_drop, List.length_take, List.length_append, List.length_set, List.length_cons, List.length_nil, OrOk] at *; omega) | (simp; omega))
          | (apply sc_true) | (apply sc_false)
          | (first | apply sc_lt | apply sc_nlt | apply sc_eq | apply sc_neq | apply sc_nil | apply sc_nnil | apply sc_seq | apply sc_nseq); all_goals (intro hb; try (first | (exfalso; omega) | exact absurd rfl hb | exact absurd hb (by decide) | exact absurd hb (by assumption) | exact absurd (by assumption) hb | (exfalso; simp only [List.length_cons, List.length_nil, List.length_append] at hb; omega)))
          | (apply sc_not) | (apply sc_or) | (apply sc_i; all_goals intro hb)
          | (first | apply ix_nat | apply ix_int); first | omega | (simp only [List.length_drop, List.length_take, List.length_append, List.length_set, List.length_cons, List.length_nil] at *; omega)
          | (apply bx_i; intro hbd) | (apply gt_i; assumption; exact rfl)
          | (first | apply sd_nat | apply sd_int | apply sl_nat | apply sl_int); first | omega | (simp only [List.length_drop, List.length_take, List.length_append, List.length_set, List.length_cons, List.length_nil] at *; omega)
          | (apply cx_is; first | fail) | (apply cx_do (i := 0) rfl; first | fail)
          | (apply ab_i; intro bl) | (apply as_i; intro va vk vc hva) | (apply av_i; intro v) | (apply ac_i; intro bl cap hcap)
          | (apply bo_l) | (apply ch_r; apply sp_i; first | assumption | decide) | (apply ch_r; apply sp_i; intro i hi; exact ⟨rfl, rfl, rfl⟩) | (apply nx_i; all_goals intro hnx)
          | (apply Ia.hit; assumption) | (apply Ia.miss; assumption)
          | (apply rt_is; exact rfl) | (apply rt_do; exact rfl; (repeat (first | exact List.nil_sublist _ | apply List.Sublist.cons_cons))) | (apply iv; assumption)
          | (exact True.intro) | (apply bc_i; intro C hC) | (apply bt_i) | (apply og_n) | (apply og_a; exact rfl))
      all_goals (try conv => whnf)
      refine dw_to (e' := [(8, .int .i64 (k : Nat)), (10, .int .i64 (I.length : Nat)), (4, .list 1 L.length (strsF L)), (7, .own 1 (.slice (some ⟨b, 0, none⟩) (I.length + 1) cap)), (25, .list 1 cu.length (bytF cu)), (26, .int .i64 (cu.length : Nat)), (27, .int .i64 (k : Nat))]) (to_sub ⟨rfl, congrArg (fun z => some (AVal.int .i64 z)) (by omega), rfl, rfl, rfl, rfl, rfl, trivial⟩ (List.Sublist.refl _)) ?_
      refine dw_p mixed hC hGL false (fun (_ : Option Addr × Nat × Nat) => [(4, .list 1 L.length (strsF L)), (7, .own 1 (.slice (some ⟨b, 0, none⟩) (I.length + 1) cap)), (25, .list 1 cu.length (bytF cu)), (26, .int .i64 (cu.length : Nat)), (27, .int .i64 (k : Nat))]) (fun y => [.row (.slice y.1 y.2.1 y.2.2) none 1 (l.length + 1) (strsC l ++ [.str (L.getD (k + 1) [])]), .row (.slice (some ⟨b, 0, none⟩) (I.length + 1) cap) none 1 (I.length + 1) ((prtC I ++ [AVal.own 0 u]).take I.length ++ [.own 0 (.slice y.1 y.2.1 y.2.2)] ++ (prtC I ++ [AVal.own 0 u]).drop (I.length + 1))]) (.take 0 (.take 1 (.take 2 (.take 3 (.take 4 (.take 6 (.take 7 (.take 8 (.take 9 (.br 5 (.br 10 (.br 11 (.br 12 (.take 13 (.br 14 (.done) (.nil))) (.nil)) (.nil)) (.nil)) (.br 10 (.br 5 (.br 11 (.br 12 (.take 13 (.br 14 (.done) (.nil))) (.nil)) (.nil)) (.br 11 (.br 5 (.br 12 (.take 13 (.br 14 (.done) (.nil))) (.nil)) (.nil)) (.nil))) (.nil)))))))))))) (by kernel_rfl) ?_ ?_
      · repeat' (first
          | (conv => whnf); first
            | (apply ch_l; apply sp_i; first | exact rfl | omega | exact ⟨rfl, rfl, by omega⟩ | exact ⟨rfl, by omega⟩ | exact ⟨rfl, by omega, by omega, by omega⟩ | exact ⟨rfl, by simp, by omega, by omega⟩ | exact ⟨⟨_, rfl⟩, by omega⟩ | exact ⟨⟨_, rfl⟩, by omega, by omega⟩ | assumption | decide | (simp only [List.length_drop, List.length_take, List.length_append, List.length_set, List.length_cons, List.length_nil, OrOk] at *; omega) | (simp; omega))
            | (apply sp_i; first | exact rfl | omega | exact ⟨rfl, rfl, by omega⟩ | exact ⟨rfl, by omega⟩ | exact ⟨rfl, by omega, by omega, by omega⟩ | exact ⟨rfl, by simp, by omega, by omega⟩ | exact ⟨⟨_, rfl⟩, by omega⟩ | exact ⟨⟨_, rfl⟩, by omega, by omega⟩ | assumption | decide | (simp only [List.length_drop, List.length_take, List.length_append, List.length_set, List.length_cons, List.length_nil, OrOk] at *; omega) | (simp; omega))
            | (apply sc_true) | (apply sc_false)
            | (first | apply sc_lt | apply sc_nlt | apply sc_eq | apply sc_neq | apply sc_nil | apply sc_nnil | apply sc_seq | apply sc_nseq); all_goals (intro hb; try (first | (exfalso; omega) | exact absurd rfl hb | exact absurd hb (by decide) | exact absurd hb (by assumption) | exact absurd (by assumption) hb | (exfalso; simp only [List.length_cons, List.length_nil, List.length_append] at hb; omega)))
            | (apply sc_not) | (apply sc_or) | (apply sc_i; all_goals intro hb)
            | (first | apply ix_nat | apply ix_int); first | omega | (simp only [List.length_drop, List.length_take, List.length_append, List.length_set, List.length_cons, List.length_nil] at *; omega)
            | (apply bx_i; intro hbd) | (apply gt_i; assumption; exact rfl)
            | (first | apply sd_nat | apply sd_int | apply sl_nat | apply sl_int); first | omega | (simp only [List.length_drop, List.length_take, List.length_append, List.length_set, List.length_cons, List.length_nil] at *; omega)
            | (apply cx_is; first | fail) | (apply cx_do (i := 0) rfl; first | fail)
            | (apply ab_i; intro bl) | (apply as_i; intro va vk vc hva) | (apply av_i; intro v) | (apply ac_i; intro bl cap hcap)
            | (apply bo_l) | (apply ch_r; apply sp_i; first | assumption | decide) | (apply ch_r; apply sp_i; intro i hi; exact ⟨rfl, rfl, rfl⟩) | (apply nx_i; all_goals intro hnx)
            | (apply Ia.hit; assumption) | (apply Ia.miss; assumption)
            | (apply rt_is; exact rfl) | (apply rt_do; exact rfl; (repeat (first | exact List.nil_sublist _ | apply List.Sublist.cons_cons))) | (apply iv; assumption)
            | (exact True.intro) | (apply bc_i; intro C hC) | (apply bt_i) | (apply og_n) | (apply og_a; exact rfl))
        all_goals (try conv => whnf)
        all_goals exact ⟨(va, vk, vc), ⟨rfl, rfl, rfl, rfl, rfl, trivial⟩, rfl⟩
      rintro ⟨va, vk, vc⟩
      dsimp only
      rw [fieldP hIl]
      repeat' (first
        | (conv => whnf); first
          | (apply ch_l; apply sp_i; first | exact rfl | omega | exact ⟨rfl, rfl, by omega⟩ | exact ⟨rfl, by omega⟩ | exact ⟨rfl, by omega, by omega, by omega⟩ | exact ⟨rfl, by simp, by omega, by omega⟩ | exact ⟨⟨_, rfl⟩, by omega⟩ | exact ⟨⟨_, rfl⟩, by omega, by omega⟩ | assumption | decide | (simp only [List.length_drop, List.length_take, List.length_append, List.length_set, List.length_cons, List.length_nil, OrOk] at *; omega) | (simp; omega))
          | (apply sp_i; first | exact rfl | omega | exact ⟨rfl, rfl, by omega⟩ | exact ⟨rfl, by omega⟩ | exact ⟨rfl, by omega, by omega, by omega⟩ | exact ⟨rfl, by simp, by omega, by omega⟩ | exact ⟨⟨_, rfl⟩, by omega⟩ | exact ⟨⟨_, rfl⟩, by omega, by omega⟩ | assumption | decide | (simp only [List.length_drop, List.length_take, List.length_append, List.length_set, List.length_cons, List.length_nil, OrOk] at *; omega) | (simp; omega))
          | (apply sc_true) | (apply sc_false)
          | (first | apply sc_lt | apply sc_nlt | apply sc_eq | apply sc_neq | apply sc_nil | apply sc_nnil | apply sc_seq | apply sc_nseq); all_goals (intro hb; try (first | (exfalso; omega) | exact absurd rfl hb | exact absurd hb (by decide) | exact absurd hb (by assumption) | exact absurd (by assumption) hb | (exfalso; simp only [List.length_cons, List.length_nil, List.length_append] at hb; omega)))
          | (apply sc_not) | (apply sc_or) | (apply sc_i; all_goals intro hb)
          | (first | apply ix_nat | apply ix_int); first | omega | (simp only [List.length_drop, List.length_take, List.length_append, List.length_set, List.length_cons, List.length_nil] at *; omega)
          | (apply bx_i; intro hbd) | (apply gt_i; assumption; exact rfl)
          | (first | apply sd_nat | apply sd_int | apply sl_nat | apply sl_int); first | omega | (simp only [List.length_drop, List.length_take, List.length_append, List.length_set, List.length_cons, List.length_nil] at *; omega)
          | (apply cx_is; first | fail) | (apply cx_do (i := 0) rfl; first | fail)
          | (apply ab_i; intro bl) | (apply as_i; intro va vk vc hva) | (apply av_i; intro v) | (apply ac_i; intro bl cap hcap)
          | (apply bo_l) | (apply ch_r; apply sp_i; first | assumption | decide) | (apply ch_r; apply sp_i; intro i hi; exact ⟨rfl, rfl, rfl⟩) | (apply nx_i; all_goals intro hnx)
          | (apply Ia.hit; assumption) | (apply Ia.miss; assumption)
          | (apply rt_is; exact rfl) | (apply rt_do; exact rfl; (repeat (first | exact List.nil_sublist _ | apply List.Sublist.cons_cons))) | (apply iv; assumption)
          | (exact True.intro) | (apply bc_i; intro C hC) | (apply bt_i) | (apply og_n) | (apply og_a; exact rfl))
      all_goals (try conv => whnf)
      refine nxT (k + 1, I, l ++ [L.getD (k + 1) []], b, cap, .slice va vk vc) ⟨hk, ?_, Nat.le_succ_of_le g3, by simp; omega⟩ (show cu.length - (k + 1) < cu.length - k by omega) ?_
      · dsimp only
        rw [gs, show stepG (I ++ [l]) (cu.getD k 0, L.getD (k + 1) []) = lastA (I ++ [l]) (L.getD (k + 1) []) by unfold stepG; rw [if_neg hc59], lastA_snoc]
      · dsimp only
        rw [← strsC_snoc, List.length_append]
        exact to_sub ⟨rfl, rfl, rfl, rfl, rfl, trivial⟩ (List.Sublist.refl _)
  · repeat' (first
      | (conv => whnf); first
        | (apply ch_l; apply sp_i; first | exact rfl | omega | exact ⟨rfl, rfl, by omega⟩ | exact ⟨rfl, by omega⟩ | exact ⟨rfl, by omega, by omega, by omega⟩ | exact ⟨rfl, by simp, by omega, by omega⟩ | exact ⟨⟨_, rfl⟩, by omega⟩ | exact ⟨⟨_, rfl⟩, by omega, by omega⟩ | assumption | decide | (simp only [List.length_drop, List.length_take, List.length_append, List.length_set, List.length_cons, List.length_nil, OrOk] at *; omega) | (simp; omega))
        | (apply sp_i; first | exact rfl | omega | exact ⟨rfl, rfl, by omega⟩ | exact ⟨rfl, by omega⟩ | exact ⟨rfl, by omega, by omega, by omega⟩ | exact ⟨rfl, by simp, by omega, by omega⟩ | exact ⟨⟨_, rfl⟩, by omega⟩ | exact ⟨⟨_, rfl⟩, by omega, by omega⟩ | assumption | decide | (simp only [List.length_drop, List.length_take, List.length_append, List.length_set, List.length_cons, List.length_nil, OrOk] at *; omega) | (simp; omega))
        | (apply sc_true) | (apply sc_false)
        | (first | apply sc_lt | apply sc_nlt | apply sc_eq | apply sc_neq | apply sc_nil | apply sc_nnil | apply sc_seq | apply sc_nseq); all_goals (intro hb; try (first | (exfalso; omega) | exact absurd rfl hb | exact absurd hb (by decide) | exact absurd hb (by assumption) | exact absurd (by assumption) hb | (exfalso; simp only [List.length_cons, List.length_nil, List.length_append] at hb; omega)))
        | (apply sc_not) | (apply sc_or) | (apply sc_i; all_goals intro hb)
        | (first | apply ix_nat | apply ix_int); first | omega | (simp only [List.length_drop, List.length_take, List.length_append, List.length_set, List.length_cons, List.length_nil] at *; omega)
        | (apply bx_i; intro hbd) | (apply gt_i; assumption; exact rfl)
        | (first | apply sd_nat | apply sd_int | apply sl_nat | apply sl_int); first | omega | (simp only [List.length_drop, List.length_take, List.length_append, List.length_set, List.length_cons, List.length_nil] at *; omega)
        | (apply cx_is; first | fail) | (apply cx_do (i := 0) rfl; first | fail)
        | (apply ab_i; intro bl) | (apply as_i; intro va vk vc hva) | (apply av_i; intro v) | (apply ac_i; intro bl cap hcap)
        | (apply bo_l) | (apply ch_r; apply sp_i; first | assumption | decide) | (apply ch_r; apply sp_i; intro i hi; exact ⟨rfl, rfl, rfl⟩) | (apply nx_i; all_goals intro hnx)
        | (apply Ia.hit; assumption) | (apply Ia.miss; assumption)
        | (apply rt_is; exact rfl) | (apply rt_do; exact rfl; (repeat (first | exact List.nil_sublist _ | apply List.Sublist.cons_cons))) | (apply iv; assumption)
        | (exact True.intro) | (apply bc_i; intro C hC) | (apply bt_i) | (apply og_n) | (apply og_a; exact rfl))
    all_goals (try conv => whnf)
    refine ⟨_, List.Sublist.refl _, I, l, u, _, ?_, rfl, rfl⟩
    rw [g2, show k = cu.length by omega, grpK_all hn, hg]
theorem ms_parts {C : Ctx} {R : Seal} {w : World} {I : List (List (List UInt8))} {l : List (List UInt8)} {v u : Value} (hm : MS C R [.row u none 1 l.length (strsC l), .row v none 1 (I.length + 1) (prtC I ++ [.own 0 u])] w) : ∃ R', R.le R' ∧ MS C R' [] w ∧ Rel R' (.list 1 (I ++ [l]).length (prtF (I ++ [l]))) v := by
  have hI : (prtC I).length = I.length := by simp [prtC]
  obtain ⟨R1, l1, m1, r1⟩ := MS.seal_row (f := strsF l) hm (strsF_ok _)
  have hc : CellTo R1 I.length (.list 1 l.length (strsF l)) (.row v none 1 (I.length + 1) (prtC I ++ [.own 0 u])) _ := .row (a := .own 0 u) (by rw [List.getElem?_append_right (by omega), hI, Nat.sub_self]; rfl) fun _ => own_list r1
  obtain ⟨h1, h2⟩ := hc.holds (m1.heap.holds _ (List.mem_cons_self ..))
  have m2 := m1.setEnt (i := 0) rfl h2 h1
  have e1 : (prtC I ++ [AVal.own 0 u]).set I.length (.list 1 l.length (strsF l)) = prtC (I ++ [l]) := by
    rw [List.set_append_right _ _ (by omega), hI, Nat.sub_self, ← prtC_snoc]
    rfl
  rw [e1] at m2
  have e2 : I.length + 1 = (I ++ [l]).length := by simp
  rw [e2] at m2
  obtain ⟨R2, l2, m3, r2⟩ := MS.seal_row (f := prtF (I ++ [l])) m2 (prtF_ok _)
  exact ⟨R2, Seal.le_trans l1 l2, m3, r2⟩
theorem tuple2 {R R' : Seal} {a a' b : AVal} {x : Value} (hle : R.le R') (h : Rel R (.tuple [a, b]) x) (ht : ∀ v, Rel R a v → Rel R' a' v) : Rel R' (.tuple [a', b]) x := by
  obtain ⟨⟨ws, e, u, t, e1, hu, u2, t2, e2, hu2, rfl⟩, h2⟩ := h
  have k := ht u ⟨hu.1, hu.2⟩
  have k2 := rel_mono hle (show Rel R b u2 from ⟨hu2.1, hu2.2⟩)
  exact ⟨⟨ws, e, _, _, e1, ⟨k.1, k.2⟩, _, _, e2, ⟨k2.1, k2.2⟩, rfl⟩, h2⟩
theorem text_Parts {G : Glo} (s : List UInt8) (hl : s.length ≤ 2000000) : FnIs Tryz.prog G 16 [.str s] (.tuple [.list 1 (prtS s).length (prtF (prtS s)), (errT s 0).A]) := by
  rcases err_cases s with h | ⟨e, p, h⟩
  · rw [h]
    refine fn_told (text_Parts_run s hl h) ?_
    rintro r H ⟨I, l, u, v, hg, rfl, rfl⟩
    rintro C R w en hm ⟨x, rfl, hx⟩
    obtain ⟨R', hle, m2, hr⟩ := ms_parts hm
    rw [hg] at hr
    exact ⟨R', m2, x, rfl, tuple2 hle hx fun v2 h => by rw [(rel_own.1 h).1]; exact hr⟩
  · have hP := text_pieces (G := G) s [44, 59] hl
    rw [h] at hP
    rw [h, prtS_no (by rw [h]; exact fun k => by cases k)]
    refine fn_told (H := []) (Qf := fun r H => r = .ret (.tuple [.raw (.slice none 0 0), (Err.at e p).A]) ∧ H = []) ?_ (fun r H h => by obtain ⟨rfl, rfl⟩ := h; exact res_nil)
    have hGL : GloAll G [] := gloAll_nil
    refine fn_x Tryz.func16 Tryz.call16 rfl rfl rfl rfl hGL ?_
    intro C hC
    repeat' (first
      | (conv => whnf); first
        | (apply ch_l; apply sp_i; first | exact rfl | omega | exact ⟨rfl, rfl, by omega⟩ | exact ⟨rfl, by omega⟩ | exact ⟨rfl, by omega, by omega, by omega⟩ | exact ⟨rfl, by simp, by omega, by omega⟩ | exact ⟨⟨_, rfl⟩, by omega⟩ | exact ⟨⟨_, rfl⟩, by omega, by omega⟩ | assumption | decide | (simp only [List.length_drop, List.length_take, List.length_append, List.length_set, List.length_cons, List.length_nil, OrOk] at *; omega) | (simp; omega))
        | (apply sp_i; first | exact rfl | omega | exact ⟨rfl, rfl, by omega⟩ | exact ⟨rfl, by omega⟩ | exact ⟨rfl, by omega, by omega, by omega⟩ | exact ⟨rfl, by simp, by omega, by omega⟩ | exact ⟨⟨_, rfl⟩, by omega⟩ | exact ⟨⟨_, rfl⟩, by omega, by omega⟩ | assumption | decide | (simp only [List.length_drop, List.length_take, List.length_append, List.length_set, List.length_cons, List.length_nil, OrOk] at *; omega) | (simp; omega))
        | (apply sc_true) | (apply sc_false)
        | (first | apply sc_lt | apply sc_nlt | apply sc_eq | apply sc_neq | apply sc_nil | apply sc_nnil | apply sc_seq | apply sc_nseq); all_goals (intro hb; try (first | (exfalso; omega) | exact absurd rfl hb | exact absurd hb (by decide) | exact absurd hb (by assumption) | exact absurd (by assumption) hb | (exfalso; simp only [List.length_cons, List.length_nil, List.length_append] at hb; omega)))
        | (apply sc_not) | (apply sc_or) | (apply sc_i; all_goals intro hb)
        | (first | apply ix_nat | apply ix_int); first | omega | (simp only [List.length_drop, List.length_take, List.length_append, List.length_set, List.length_cons, List.length_nil] at *; omega)
        | (apply bx_i; intro hbd) | (apply gt_i; assumption; exact rfl)
        | (first | apply sd_nat | apply sd_int | apply sl_nat | apply sl_int); first | omega | (simp only [List.length_drop, List.length_take, List.length_append, List.length_set, List.length_cons, List.length_nil] at *; omega)
        | (apply cx_is; first | exact hP) | (apply cx_do (i := 0) rfl; first | exact hP)
        | (apply ab_i; intro bl) | (apply as_i; intro va vk vc hva) | (apply av_i; intro v) | (apply ac_i; intro bl cap hcap)
        | (apply bo_l) | (apply ch_r; apply sp_i; first | assumption | decide) | (apply ch_r; apply sp_i; intro i hi; exact ⟨rfl, rfl, rfl⟩) | (apply nx_i; all_goals intro hnx)
        | (apply Ia.hit; assumption) | (apply Ia.miss; assumption)
        | (apply rt_is; exact rfl) | (apply rt_do; exact rfl; (repeat (first | exact List.nil_sublist _ | apply List.Sublist.cons_cons))) | (apply iv; assumption)
        | (apply dw_q mixed hC hGL (by kernel_rfl))
        | (apply cq; assumption; (first | exact hP); exact rfl))
    all_goals (try conv => whnf)
end Go.Proofs.YtlmihggafbmkaaaGreatDoor
