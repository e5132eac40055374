/- Parts of the proof of valueReads_card: Trc, Wpb, End, Han, Wpc, Slc, Wpd, Wpe, Wpf, Vrb. -/
import Derived.Lib.MapLaws
import Derived.Test.YtidcpikoeohfbaaGreatDoorRows
import Derived.ProofKit
import Derived.LaidMore
import Derived.Lay
import Derived.Stop.Joined
import Derived.LaidSub
import Derived.LaidHandle
import Derived.OpenShut
import Derived.Shelf.Unicode.DecodeSlow
import Derived.Lib.LastIndexByte
import Derived.Lib.Replace
import Derived.Test.YtidcpikoeohfbaaGreatDoorBah
import Derived.Test.YtidcpikoeohfbaaGreatDoorBag
import Derived.Test.YtidcpikoeohfbaaGreatDoorBaf
import Derived.Test.YtidcpikoeohfbaaGreatDoorBad
import Derived.Test.YtidcpikoeohfbaaGreatDoorBae
set_option linter.unusedVariables false
set_option linter.unusedSimpArgs false
namespace Go.Proofs.YtidcpikoeohfbaaGreatDoor
open Go Go.RowKit
theorem sgP_len (a : List UInt8) : ∀ T : List Tk, (sgP a T).1.length ≤ T.length ∧ (sgP a T).2.1.length ≤ T.length ∧ (sgP a T).2.2.length ≤ T.length := by
  refine snoc_ind ⟨Nat.le_refl _, Nat.le_refl _, Nat.le_refl _⟩ fun T t ih => ?_
  rw [sgP_snoc]
  cases t with
  | one b =>
    unfold stepP
    by_cases hb : b ∈ a
    · simp only [hb, if_true, List.length_append, List.length_singleton, List.length_nil]
      omega
    · simp only [hb, if_false, List.length_append, List.length_singleton]
      omega
  | two d =>
    unfold stepP
    simp only [List.length_append, List.length_singleton]
    omega
theorem idxF_mem (c : UInt8) : ∀ (l : List UInt8) (k : Nat), (0 ≤ idxF (c.toNat : Int) l k ∧ c ∈ l) ∨ (idxF (c.toNat : Int) l k < 0 ∧ c ∉ l)
  | [], k => .inr ⟨by simp [idxF], by simp⟩
  | x :: t, k => by
    unfold idxF
    by_cases h : (x.toNat : Int) = c.toNat
    · have : x = c := UInt8.toNat_inj.1 (by omega)
      rw [if_pos h]
      exact .inl ⟨by omega, by simp [this]⟩
    · have hne : c ≠ x := fun e => h (by rw [e])
      rw [if_neg h]
      rcases idxF_mem c t (k + 1) with ⟨h1, h2⟩ | ⟨h1, h2⟩
      · exact .inl ⟨h1, List.mem_cons_of_mem _ h2⟩
      · exact .inr ⟨h1, fun h3 => (List.mem_cons.1 h3).elim hne h2⟩
theorem idxB_in {a : List UInt8} {c : UInt8} (h : 0 ≤ idxB a (c.toNat : Int)) : c ∈ a := by
  rcases idxF_mem c a 0 with ⟨_, h2⟩ | ⟨h1, _⟩
  · exact h2
  · unfold idxB at h; omega
theorem idxB_out {a : List UInt8} {c : UInt8} (h : idxB a (c.toNat : Int) < 0) : c ∉ a := by
  rcases idxF_mem c a 0 with ⟨h1, _⟩ | ⟨_, h2⟩
  · unfold idxB at h; omega
  · exact h2
theorem sgP_zero (a : List UInt8) : sgP a [] = ([], [], []) := rfl
theorem sgP_in {a : List UInt8} {T : List Tk} {c : UInt8} (h : c ∈ a) : sgP a (T ++ [.one c]) = ((sgP a T).1 ++ [(sgP a T).2.1], [], (sgP a T).2.2 ++ [c]) := by rw [sgP_snoc]; simp [stepP, h]
theorem sgP_out {a : List UInt8} {T : List Tk} {c : UInt8} (h : c ∉ a) : sgP a (T ++ [.one c]) = ((sgP a T).1, (sgP a T).2.1 ++ [c], (sgP a T).2.2) := by rw [sgP_snoc]; simp [stepP, h]
theorem sgP_esc {a : List UInt8} {T : List Tk} {d : UInt8} : sgP a (T ++ [.two d]) = ((sgP a T).1, (sgP a T).2.1 ++ [escV d], (sgP a T).2.2) := by rw [sgP_snoc]; rfl
/-- The pieces, and what was between. -/
def pcL (a s : List UInt8) : List (List UInt8) := match errT s 0 with
  | .none => (sgP a (tokT s)).1 ++ [(sgP a (tokT s)).2.1]
  | _ => []
def pcC (a s : List UInt8) : List UInt8 := match errT s 0 with
  | .none => (sgP a (tokT s)).2.2
  | _ => []
theorem pcL_ok {a s : List UInt8} (h : errT s 0 = .none) : pcL a s = (sgP a (tokT s)).1 ++ [(sgP a (tokT s)).2.1] := by unfold pcL; rw [h]
theorem pcC_ok {a s : List UInt8} (h : errT s 0 = .none) : pcC a s = (sgP a (tokT s)).2.2 := by unfold pcC; rw [h]
theorem pcL_at {a s : List UInt8} {e p : Int} (h : errT s 0 = .at e p) : pcL a s = [] := by unfold pcL; rw [h]
theorem pcC_at {a s : List UInt8} {e p : Int} (h : errT s 0 = .at e p) : pcC a s = [] := by unfold pcC; rw [h]
def bytF (l : List UInt8) (i : Nat) : AVal := .int .u8 ((l.getD i 0).toNat : Int)
theorem bytF_ok (l : List UInt8) : ∀ i, i < l.length → (bytF l i).cells = ((bytesC l).drop (i * 1)).take 1 ∧ (bytF l i).plain = true := by
  intro i hi
  refine ⟨?_, rfl⟩
  rw [Nat.mul_one, List.drop_eq_getElem_cons (by simpa using hi)]
  simp [bytF, AVal.cells, List.getD, hi]
theorem get_n {s : List UInt8} {i : Nat} (h : i < s.length) : (byteAt s i : Int) = (s[i].toNat : Int) := (at_eq h).1 rfl
theorem ofNat_at {s : List UInt8} {i : Nat} (h : i < s.length) : UInt8.ofNat ((byteAt s i : Nat) : Int).toNat = s[i] := by
  have : byteAt s i = s[i].toNat := by simp [byteAt, List.getD, List.getElem?_eq_getElem h]
  rw [Int.toNat_natCast, this, UInt8.ofNat_toNat]
set_option maxRecDepth 20000
set_option maxHeartbeats 8000000
set_option linter.unusedSimpArgs false
set_option linter.unusedVariables false
attribute [local irreducible] AWp AOps SrcOK OrOk GloAll FnSpec byteAt errT tokT sgP escV idxB
theorem text_pieces_run {G : Glo} (s a : List UInt8) (hl : s.length ≤ 2000000) : FnSpec Tryz.prog G 48 [.str s, .str a] [] (fun r H =>
    (∃ e p, errT s 0 = .at e p ∧ r = .ret (.tuple [.raw (.slice none 0 0), .raw (.slice none 0 0), atA e p]) ∧ H = []) ∨
    (errT s 0 = .none ∧ ∃ vt vc, r = .ret (.tuple [.own 2 vt, .own 3 vc, .raw .nilIface]) ∧ H = [.row vt none 1 (pcL a s).length (strsC (pcL a s)), .row vc none 1 (pcC a s).length (bytesC (pcC a s))])) := by
  have hI := fun (b : Int) h0 h1 => strings_IndexByte (G := G) a b h0 h1
  have hGL : GloAll G [] := gloAll_nil
  refine fn_x Tryz.func48 Tryz.call48 rfl rfl rfl rfl hGL ?_
  intro C hC
  repeat' (first
    | (conv => whnf); first
      | refine .w ?_ | (first | refine Ix.v ?_ | refine Sd.v ?_ | refine Sl.v ?_) | apply sc_true | apply sc_false
      | (first | apply sc_lt | apply sc_nlt | apply sc_eq | apply sc_neq | apply sc_nil | apply sc_nnil) <;> (intro hb; try exact dd hb)
      | apply sc_not | (apply sc_i <;> intro hb) | (apply bx_i; intro hbd) | (apply gt_i; assumption; exact rfl)
      | (apply cx_is; first | fail) | (apply ab_i; intro bl) | (apply rt_is; exact rfl) | exact rt_w
      | exact True.intro | (apply bc_i; intro C hC) | apply bt_i | apply og_n | (apply og_a; exact rfl))
  all_goals (try conv => whnf)
  refine lp_bldr 0 rfl ?_
  refine lp_row 4 1 rfl ?_
  refine lp_row 5 1 rfl ?_
  refine lp hC hGL (fun (x : (Nat × List Tk) × (List (List UInt8) × List UInt8 × List UInt8) × Value × Value × Value × Value) => [(0, .str s), (1, .str a), (4, .own 2 x.2.2.2.2.1), (5, .own 3 x.2.2.2.2.2), (7, .own 0 (ptrA bl)), (8, .int .i64 (x.1.1 : Nat))]) (fun x => [bldC bl x.2.2.1 1 x.2.2.2.1, bldR x.2.2.2.1 x.2.1.2.1, .row x.2.2.2.2.1 none 1 x.2.1.1.length (strsC x.2.1.1), .row x.2.2.2.2.2 none 1 x.2.1.2.2.length (bytesC x.2.1.2.2)]) (fun x => TokP s x.1.1 x.1.2 ∧ x.1.2.length ≤ x.1.1 ∧ AddrOK bl x.2.2.1 ∧ sgP a x.1.2 = x.2.1) (fun x => s.length - x.1.1) ((0, []), ([], [], []), .pointer none, nilS, nilS, nilS) ?_ env_w rfl ?_
  · exact ⟨tokP_init s, Nat.le_refl _, .inl rfl, sgP_zero a⟩
  rintro ⟨⟨i, T⟩, ⟨tx, cur, cu⟩, p, v, vt, vd⟩ ⟨hT, hlT, hp, hS⟩
  dsimp only at hT hlT hp hS
  dsimp only
  have hi := hT.1
  have hv := sgP_len a T
  rw [hS] at hv
  dsimp only at hv
  by_cases hA : i + 1 < s.length ∧ (byteAt s i : Int) = 92
  · obtain ⟨hA1, hA2⟩ := hA
    have hok := okE_at hA1
    repeat' (first
      | (conv => whnf); first
        | refine .w ?_ | refine .v ?_ | apply sc_true | apply sc_false
        | (first | apply sc_lt | apply sc_nlt | apply sc_eq | apply sc_neq | apply sc_nil | apply sc_nnil | apply sc_seq | apply sc_nseq) <;> (intro hb; try exact dd hb)
        | apply sc_not | apply sc_or | (apply sc_i <;> intro hb)
        | (apply bx_i; intro hbd) | (apply gt_i; assumption; exact rfl)
        | (apply cx_is; first | fail) | (apply cx_do (i := 0) rfl; first | fail)
        | (apply ab_i; intro bl) | (apply as_i; intro va vk vc hva) | (apply av_i; intro v) | (apply ac_i; intro bl cap hcap)
        | apply bo_l | (apply nx_i <;> intro hnx) | (apply Ia.hit; assumption) | (apply Ia.miss; assumption)
        | (apply rt_is; exact rfl) | exact rt_w | (apply iv; assumption)
        | apply dw_q mixed hC hGL (by kernel_rfl) | (apply cq; assumption; (first | fail); exact rfl))
    all_goals (try conv => whnf)
    · have hq : (byteAt s (i + 1) : Int) = 92 := by assumption
      apply cx_bld (i := 0) (j := 1) rfl rfl (by decide) (write_byte1 hp v cur (byteAt s (i + 1) : Int) (by omega) (by omega) (by omega))
      intro wa wk wc
      repeat' (first
        | (conv => whnf); first
          | refine .w ?_ | (first | refine Ix.v ?_ | refine Sd.v ?_ | refine Sl.v ?_) | apply sc_true | apply sc_false
          | (first | apply sc_lt | apply sc_nlt | apply sc_eq | apply sc_neq | apply sc_nil | apply sc_nnil) <;> (intro hb; try exact dd hb)
          | apply sc_not | (apply sc_i <;> intro hb) | (apply bx_i; intro hbd) | (apply gt_i; assumption; exact rfl)
          | (apply cx_is; first | fail) | (apply ab_i; intro bl) | (apply rt_is; exact rfl) | exact rt_w
          | exact True.intro | (apply bc_i; intro C hC) | apply bt_i | apply og_n | (apply og_a; exact rfl))
      all_goals (try conv => whnf)
      refine nxt ((i + 2, T ++ [.two s[i + 1]]), (tx, cur ++ [UInt8.ofNat ((byteAt s (i + 1) : Int) : Int).toNat], cu), ptrA bl, .slice wa wk wc, vt, vd) ?_ ?_ ⟨rfl, rfl, rfl, rfl, rfl, rfl, trivial⟩ rfl
      · exact ⟨tokP_two hT hA1 hA2 (by rw [hok]; exact decide_eq_true (by omega)), by simp; omega, .inr rfl, by rw [sgP_esc, hS, escV_s hA1 (by omega), ofNat_at hA1]⟩
      · show s.length - (i + 2) < s.length - i
        omega
    · have hq : (byteAt s (i + 1) : Int) = 44 := by assumption
      apply cx_bld (i := 0) (j := 1) rfl rfl (by decide) (write_byte1 hp v cur (byteAt s (i + 1) : Int) (by omega) (by omega) (by omega))
      intro wa wk wc
      repeat' (first
        | (conv => whnf); first
          | refine .w ?_ | (first | refine Ix.v ?_ | refine Sd.v ?_ | refine Sl.v ?_) | apply sc_true | apply sc_false
          | (first | apply sc_lt | apply sc_nlt | apply sc_eq | apply sc_neq | apply sc_nil | apply sc_nnil) <;> (intro hb; try exact dd hb)
          | apply sc_not | (apply sc_i <;> intro hb) | (apply bx_i; intro hbd) | (apply gt_i; assumption; exact rfl)
          | (apply cx_is; first | fail) | (apply ab_i; intro bl) | (apply rt_is; exact rfl) | exact rt_w
          | exact True.intro | (apply bc_i; intro C hC) | apply bt_i | apply og_n | (apply og_a; exact rfl))
      all_goals (try conv => whnf)
      refine nxt ((i + 2, T ++ [.two s[i + 1]]), (tx, cur ++ [UInt8.ofNat ((byteAt s (i + 1) : Int) : Int).toNat], cu), ptrA bl, .slice wa wk wc, vt, vd) ?_ ?_ ⟨rfl, rfl, rfl, rfl, rfl, rfl, trivial⟩ rfl
      · exact ⟨tokP_two hT hA1 hA2 (by rw [hok]; exact decide_eq_true (by omega)), by simp; omega, .inr rfl, by rw [sgP_esc, hS, escV_s hA1 (by omega), ofNat_at hA1]⟩
      · show s.length - (i + 2) < s.length - i
        omega
    · have hq : (byteAt s (i + 1) : Int) = 59 := by assumption
      apply cx_bld (i := 0) (j := 1) rfl rfl (by decide) (write_byte1 hp v cur (byteAt s (i + 1) : Int) (by omega) (by omega) (by omega))
      intro wa wk wc
      repeat' (first
        | (conv => whnf); first
          | refine .w ?_ | (first | refine Ix.v ?_ | refine Sd.v ?_ | refine Sl.v ?_) | apply sc_true | apply sc_false
          | (first | apply sc_lt | apply sc_nlt | apply sc_eq | apply sc_neq | apply sc_nil | apply sc_nnil) <;> (intro hb; try exact dd hb)
          | apply sc_not | (apply sc_i <;> intro hb) | (apply bx_i; intro hbd) | (apply gt_i; assumption; exact rfl)
          | (apply cx_is; first | fail) | (apply ab_i; intro bl) | (apply rt_is; exact rfl) | exact rt_w
          | exact True.intro | (apply bc_i; intro C hC) | apply bt_i | apply og_n | (apply og_a; exact rfl))
      all_goals (try conv => whnf)
      refine nxt ((i + 2, T ++ [.two s[i + 1]]), (tx, cur ++ [UInt8.ofNat ((byteAt s (i + 1) : Int) : Int).toNat], cu), ptrA bl, .slice wa wk wc, vt, vd) ?_ ?_ ⟨rfl, rfl, rfl, rfl, rfl, rfl, trivial⟩ rfl
      · exact ⟨tokP_two hT hA1 hA2 (by rw [hok]; exact decide_eq_true (by omega)), by simp; omega, .inr rfl, by rw [sgP_esc, hS, escV_s hA1 (by omega), ofNat_at hA1]⟩
      · show s.length - (i + 2) < s.length - i
        omega
    · have hq : (byteAt s (i + 1) : Int) = 110 := by assumption
      apply cx_bld (i := 0) (j := 1) rfl rfl (by decide) (write_byte1 hp v cur 10 (by omega) (by omega) (by omega))
      intro wa wk wc
      repeat' (first
        | (conv => whnf); first
          | refine .w ?_ | (first | refine Ix.v ?_ | refine Sd.v ?_ | refine Sl.v ?_) | apply sc_true | apply sc_false
          | (first | apply sc_lt | apply sc_nlt | apply sc_eq | apply sc_neq | apply sc_nil | apply sc_nnil) <;> (intro hb; try exact dd hb)
          | apply sc_not | (apply sc_i <;> intro hb) | (apply bx_i; intro hbd) | (apply gt_i; assumption; exact rfl)
          | (apply cx_is; first | fail) | (apply ab_i; intro bl) | (apply rt_is; exact rfl) | exact rt_w
          | exact True.intro | (apply bc_i; intro C hC) | apply bt_i | apply og_n | (apply og_a; exact rfl))
      all_goals (try conv => whnf)
      refine nxt ((i + 2, T ++ [.two s[i + 1]]), (tx, cur ++ [UInt8.ofNat (10 : Int).toNat], cu), ptrA bl, .slice wa wk wc, vt, vd) ?_ ?_ ⟨rfl, rfl, rfl, rfl, rfl, rfl, trivial⟩ rfl
      · exact ⟨tokP_two hT hA1 hA2 (by rw [hok]; exact decide_eq_true (by omega)), by simp; omega, .inr rfl, by rw [sgP_esc, hS, escV_n hA1 (by omega)]; rfl⟩
      · show s.length - (i + 2) < s.length - i
        omega
    · have hq : (byteAt s (i + 1) : Int) = 78 := by assumption
      apply cx_bld (i := 0) (j := 1) rfl rfl (by decide) (write_byte1 hp v cur 10 (by omega) (by omega) (by omega))
      intro wa wk wc
      repeat' (first
        | (conv => whnf); first
          | refine .w ?_ | (first | refine Ix.v ?_ | refine Sd.v ?_ | refine Sl.v ?_) | apply sc_true | apply sc_false
          | (first | apply sc_lt | apply sc_nlt | apply sc_eq | apply sc_neq | apply sc_nil | apply sc_nnil) <;> (intro hb; try exact dd hb)
          | apply sc_not | (apply sc_i <;> intro hb) | (apply bx_i; intro hbd) | (apply gt_i; assumption; exact rfl)
          | (apply cx_is; first | fail) | (apply ab_i; intro bl) | (apply rt_is; exact rfl) | exact rt_w
          | exact True.intro | (apply bc_i; intro C hC) | apply bt_i | apply og_n | (apply og_a; exact rfl))
      all_goals (try conv => whnf)
      refine nxt ((i + 2, T ++ [.two s[i + 1]]), (tx, cur ++ [UInt8.ofNat (10 : Int).toNat], cu), ptrA bl, .slice wa wk wc, vt, vd) ?_ ?_ ⟨rfl, rfl, rfl, rfl, rfl, rfl, trivial⟩ rfl
      · exact ⟨tokP_two hT hA1 hA2 (by rw [hok]; exact decide_eq_true (by omega)), by simp; omega, .inr rfl, by rw [sgP_esc, hS, escV_n hA1 (by omega)]; rfl⟩
      · show s.length - (i + 2) < s.length - i
        omega
    · have q1 : (byteAt s (i + 1) : Int) ≠ 92 := by assumption
      have q2 : (byteAt s (i + 1) : Int) ≠ 44 := by assumption
      have q3 : (byteAt s (i + 1) : Int) ≠ 59 := by assumption
      have q4 : (byteAt s (i + 1) : Int) ≠ 110 := by assumption
      have q5 : (byteAt s (i + 1) : Int) ≠ 78 := by assumption
      have he := tokP_bad hT hA1 hA2 (by rw [hok]; exact decide_eq_false (by omega))
      exact ⟨_, List.nil_sublist _, .inl ⟨_, _, he, rfl, rfl⟩⟩
  · repeat' (first
      | (conv => whnf); first
        | refine .w ?_ | refine .v ?_ | apply sc_true | apply sc_false
        | (first | apply sc_lt | apply sc_nlt | apply sc_eq | apply sc_neq | apply sc_nil | apply sc_nnil | apply sc_seq | apply sc_nseq) <;> (intro hb; try exact dd hb)
        | apply sc_not | apply sc_or | (apply sc_i <;> intro hb)
        | (apply bx_i; intro hbd) | (apply gt_i; assumption; exact rfl)
        | (apply cx_is; first | exact hI _ (by omega) (by omega)) | (apply cx_do (i := 0) rfl; first | exact hI _ (by omega) (by omega))
        | (apply ab_i; intro bl) | (apply as_i; intro va vk vc hva) | (apply av_i; intro v) | (apply ac_i; intro bl cap hcap)
        | apply bo_l | (apply nx_i <;> intro hnx) | (apply Ia.hit; assumption) | (apply Ia.miss; assumption)
        | (apply rt_is; exact rfl) | exact rt_w | (apply iv; assumption)
        | apply dw_q mixed hC hGL (by kernel_rfl) | (apply cq; assumption; (first | exact hI _ (by omega) (by omega)); exact rfl))
    all_goals (try conv => whnf)
    · have he := tokP_miss hT (by omega) (by assumption)
      exact ⟨_, List.nil_sublist _, .inl ⟨_, _, he, rfl, rfl⟩⟩
    · have hlt : i < s.length := by omega
      have hne : (byteAt s i : Int) ≠ 92 := by assumption
      have hin : 0 ≤ idxB a (byteAt s i : Int) := by assumption
      rw [get_n hlt] at hin
      refine cx_bl2 (i := 0) (j := 1) rfl rfl (by decide) (builder_take cur (by omega)) ?_
      repeat' (first
        | (conv => whnf); first
          | refine .w ?_ | refine .v ?_ | apply sc_true | apply sc_false
          | (first | apply sc_lt | apply sc_nlt | apply sc_eq | apply sc_neq | apply sc_nil | apply sc_nnil | apply sc_seq | apply sc_nseq) <;> (intro hb; try exact dd hb)
          | apply sc_not | apply sc_or | (apply sc_i <;> intro hb)
          | (apply bx_i; intro hbd) | (apply gt_i; assumption; exact rfl)
          | (apply cx_is; first | fail) | (apply cx_do (i := 0) rfl; first | fail)
          | (apply ab_i; intro bl) | (apply as_i; intro va vk vc hva) | (apply av_i; intro v) | (apply ac_i; intro bl cap hcap)
          | apply bo_l | (apply nx_i <;> intro hnx) | (apply Ia.hit; assumption) | (apply Ia.miss; assumption)
          | (apply rt_is; exact rfl) | exact rt_w | (apply iv; assumption)
          | apply dw_q mixed hC hGL (by kernel_rfl) | (apply cq; assumption; (first | fail); exact rfl))
      all_goals (try conv => whnf)
      refine cx_bl2 (i := 0) (j := 1) rfl rfl (by decide) builder_reset ?_
      repeat' (first
        | (conv => whnf); first
          | refine .w ?_ | (first | refine Ix.v ?_ | refine Sd.v ?_ | refine Sl.v ?_) | apply sc_true | apply sc_false
          | (first | apply sc_lt | apply sc_nlt | apply sc_eq | apply sc_neq | apply sc_nil | apply sc_nnil) <;> (intro hb; try exact dd hb)
          | apply sc_not | (apply sc_i <;> intro hb) | (apply bx_i; intro hbd) | (apply gt_i; assumption; exact rfl)
          | (apply cx_is; first | fail) | (apply ab_i; intro bl) | (apply rt_is; exact rfl) | exact rt_w
          | exact True.intro | (apply bc_i; intro C hC) | apply bt_i | apply og_n | (apply og_a; exact rfl))
      all_goals (try conv => whnf)
      refine nxt ((i + 1, T ++ [.one s[i]]), (tx ++ [cur], [], cu ++ [s[i]]), .pointer none, nilS, _, _) ?_ ?_ ⟨rfl, rfl, rfl, rfl, rfl, rfl, trivial⟩ ?_
      · exact ⟨tokP_one hT hlt hne, by simp; omega, .inl rfl, by rw [sgP_in (idxB_in hin), hS]⟩
      · show s.length - (i + 1) < s.length - i
        omega
      · dsimp only
        rw [← strsC_snoc, List.length_append, List.length_append, show bytesC (cu ++ [s[i]]) = bytesC cu ++ [.int .u8 (byteAt s i : Int)] by rw [get_n hlt]; simp]
        rfl
    · have hlt : i < s.length := by omega
      have hne : (byteAt s i : Int) ≠ 92 := by assumption
      have hin : idxB a (byteAt s i : Int) < 0 := by assumption
      rw [get_n hlt] at hin
      apply cx_bld (i := 0) (j := 1) rfl rfl (by decide) (write_byte1 hp v cur (byteAt s i : Int) (by omega) (by omega) (by omega))
      intro wa wk wc
      repeat' (first
        | (conv => whnf); first
          | refine .w ?_ | (first | refine Ix.v ?_ | refine Sd.v ?_ | refine Sl.v ?_) | apply sc_true | apply sc_false
          | (first | apply sc_lt | apply sc_nlt | apply sc_eq | apply sc_neq | apply sc_nil | apply sc_nnil) <;> (intro hb; try exact dd hb)
          | apply sc_not | (apply sc_i <;> intro hb) | (apply bx_i; intro hbd) | (apply gt_i; assumption; exact rfl)
          | (apply cx_is; first | fail) | (apply ab_i; intro bl) | (apply rt_is; exact rfl) | exact rt_w
          | exact True.intro | (apply bc_i; intro C hC) | apply bt_i | apply og_n | (apply og_a; exact rfl))
      all_goals (try conv => whnf)
      refine nxt ((i + 1, T ++ [.one s[i]]), (tx, cur ++ [UInt8.ofNat ((byteAt s i : Int) : Int).toNat], cu), ptrA bl, .slice wa wk wc, vt, vd) ?_ ?_ ⟨rfl, rfl, rfl, rfl, rfl, rfl, trivial⟩ rfl
      · exact ⟨tokP_one hT hlt hne, by simp; omega, .inr rfl, by rw [sgP_out (idxB_out hin), hS, ofNat_at hlt]⟩
      · show s.length - (i + 1) < s.length - i
        omega
    · have hlt : s.length ≤ i := by omega
      refine cx_bl2 (i := 0) (j := 1) rfl rfl (by decide) (builder_take cur (by omega)) ?_
      repeat' (first
        | (conv => whnf); first
          | refine .w ?_ | refine .v ?_ | apply sc_true | apply sc_false
          | (first | apply sc_lt | apply sc_nlt | apply sc_eq | apply sc_neq | apply sc_nil | apply sc_nnil | apply sc_seq | apply sc_nseq) <;> (intro hb; try exact dd hb)
          | apply sc_not | apply sc_or | (apply sc_i <;> intro hb)
          | (apply bx_i; intro hbd) | (apply gt_i; assumption; exact rfl)
          | (apply cx_is; first | fail) | (apply cx_do (i := 0) rfl; first | fail)
          | (apply ab_i; intro bl) | (apply as_i; intro va vk vc hva) | (apply av_i; intro v) | (apply ac_i; intro bl cap hcap)
          | apply bo_l | (apply nx_i <;> intro hnx) | (apply Ia.hit; assumption) | (apply Ia.miss; assumption)
          | (apply rt_is; exact rfl) | exact rt_w | (apply iv; assumption)
          | apply dw_q mixed hC hGL (by kernel_rfl) | (apply cq; assumption; (first | fail); exact rfl))
      all_goals (try conv => whnf)
      obtain ⟨he, ht⟩ := tokP_end hT hlt
      refine ⟨_, .cons _ (.cons _ (.refl _)), .inr ⟨he, _, _, rfl, ?_⟩⟩
      rw [pcL_ok he, pcC_ok he, ht, hS]
      dsimp only
      rw [← strsC_snoc, List.length_append]
      rfl
end Go.Proofs.YtidcpikoeohfbaaGreatDoor
namespace Go.Proofs.YtidcpikoeohfbaaGreatDoor
open Go Go.RowKit
theorem tuple3 {R R' : Seal} {a a' b b' c : AVal} {x : Value} (hle : R.le R') (h : Rel R (.tuple [a, b, c]) x) (ha : ∀ v, Rel R a v → Rel R' a' v) (hb : ∀ v, Rel R b v → Rel R' b' v) : Rel R' (.tuple [a', b', c]) x := by
  obtain ⟨⟨ws, e, u, t, e1, hu, u2, t2, e2, hu2, u3, t3, e3, hu3, rfl⟩, h2⟩ := h
  have k := ha u ⟨hu.1, hu.2⟩
  have k2 := hb u2 ⟨hu2.1, hu2.2⟩
  have k3 := rel_mono hle (show Rel R c u3 from ⟨hu3.1, hu3.2⟩)
  exact ⟨⟨ws, e, _, _, e1, ⟨k.1, k.2⟩, _, _, e2, ⟨k2.1, k2.2⟩, _, _, e3, ⟨k3.1, k3.2⟩, rfl⟩, h2⟩
theorem nil_rel {R : Seal} {sz : Nat} {f : Nat → AVal} {v : Value} (h : Rel R (.raw (.slice none 0 0)) v) : Rel R (.list sz 0 f) v := by
  rw [rel_raw] at h
  subst h
  exact ⟨⟨none, 0, rfl, Nat.le_refl _, .inl rfl⟩, rfl⟩
theorem text_pieces {G : Glo} (s a : List UInt8) (hl : s.length ≤ 2000000) : FnIs Tryz.prog G 48 [.str s, .str a] (.tuple [.list 1 (pcL a s).length (strsF (pcL a s)), .list 1 (pcC a s).length (bytF (pcC a s)), (errT s 0).A]) := by
  refine fn_told (text_pieces_run s a hl) ?_
  rintro r H (⟨e, p, he, rfl, rfl⟩ | ⟨he, vt, vc, rfl, rfl⟩)
  · rintro C R w en hm ⟨x, rfl, hx⟩
    rw [pcL_at he, pcC_at he, he]
    exact ⟨R, hm, x, rfl, tuple3 (Seal.le_refl R) hx (fun v => nil_rel) (fun v => nil_rel)⟩
  · rintro C R w en hm ⟨x, rfl, hx⟩
    obtain ⟨R1, l1, m1, r1⟩ := hm.seal_row (f := strsF (pcL a s)) (strsF_ok _)
    obtain ⟨R2, l2, m2, r2⟩ := m1.seal_row (f := bytF (pcC a s)) (bytF_ok _)
    rw [he]
    exact ⟨R2, m2, x, rfl, tuple3 (Seal.le_trans l1 l2) hx (fun v h => by rw [(rel_own.1 h).1]; exact rel_mono l2 r1) (fun v h => by rw [(rel_own.1 h).1]; exact r2)⟩
theorem err_cases (s : List UInt8) : errT s 0 = .none ∨ ∃ e p, errT s 0 = .at e p := by
  rcases errT_form s.length s 0 (Nat.le_refl _) with k | ⟨p, k⟩ | ⟨p, k⟩
  · exact .inl k
  · exact .inr ⟨_, _, k⟩
  · exact .inr ⟨_, _, k⟩
theorem pcL_none {s : List UInt8} (h : errT s 0 = .none) : pcL [] s = [unS s] := by
  rw [pcL_ok h, sgP_nil, unS_ok h]
  rfl
theorem pcL_comma (s : List UInt8) : pcL [44] s = lstS s := by
  rcases err_cases s with h | ⟨e, p, h⟩
  · rw [pcL_ok h, lstS_ok h, lstT_eq, (sgP_one 44 _).1, (sgP_one 44 _).2]
  · rw [pcL_at h, lstS_no (by rw [h]; exact fun k => by cases k)]
set_option maxRecDepth 20000
set_option maxHeartbeats 8000000
set_option linter.unusedSimpArgs false
set_option linter.unusedVariables false
attribute [local irreducible] AWp AOps SrcOK OrOk GloAll FnSpec byteAt errT tokT pcL pcC unS lstS
theorem text_Unescape {G : Glo} (s : List UInt8) (hl : s.length ≤ 2000000) : FnIs Tryz.prog G 21 [.str s] (.tuple [.str (unS s), (errT s 0).A]) := by
  have hP := text_pieces (G := G) s [] hl
  rcases err_cases s with h | ⟨e, p, h⟩
  · rw [h, pcL_none h] at hP
    rw [h]
    have hGL : GloAll G [] := gloAll_nil
    refine fn_x Tryz.func21 Tryz.call21 rfl rfl rfl rfl hGL ?_
    intro C hC
    repeat' (first
      | (conv => whnf); first
        | refine .w ?_ | refine .v ?_ | apply sc_true | apply sc_false
        | (first | apply sc_lt | apply sc_nlt | apply sc_eq | apply sc_neq | apply sc_nil | apply sc_nnil | apply sc_seq | apply sc_nseq) <;> (intro hb; try exact dd hb)
        | apply sc_not | apply sc_or | (apply sc_i <;> intro hb)
        | (apply bx_i; intro hbd) | (apply gt_i; assumption; exact rfl)
        | (apply cx_is; first | exact hP) | (apply cx_do (i := 0) rfl; first | exact hP)
        | (apply ab_i; intro bl) | (apply as_i; intro va vk vc hva) | (apply av_i; intro v) | (apply ac_i; intro bl cap hcap)
        | apply bo_l | (apply nx_i <;> intro hnx) | (apply Ia.hit; assumption) | (apply Ia.miss; assumption)
        | (apply rt_is; exact rfl) | exact rt_w | (apply iv; assumption)
        | apply dw_q mixed hC hGL (by kernel_rfl) | (apply cq; assumption; (first | exact hP); exact rfl))
    all_goals (try conv => whnf)
  · rw [h] at hP
    rw [h, unS_at h]
    have hGL : GloAll G [] := gloAll_nil
    refine fn_x Tryz.func21 Tryz.call21 rfl rfl rfl rfl hGL ?_
    intro C hC
    repeat' (first
      | (conv => whnf); first
        | refine .w ?_ | refine .v ?_ | apply sc_true | apply sc_false
        | (first | apply sc_lt | apply sc_nlt | apply sc_eq | apply sc_neq | apply sc_nil | apply sc_nnil | apply sc_seq | apply sc_nseq) <;> (intro hb; try exact dd hb)
        | apply sc_not | apply sc_or | (apply sc_i <;> intro hb)
        | (apply bx_i; intro hbd) | (apply gt_i; assumption; exact rfl)
        | (apply cx_is; first | exact hP) | (apply cx_do (i := 0) rfl; first | exact hP)
        | (apply ab_i; intro bl) | (apply as_i; intro va vk vc hva) | (apply av_i; intro v) | (apply ac_i; intro bl cap hcap)
        | apply bo_l | (apply nx_i <;> intro hnx) | (apply Ia.hit; assumption) | (apply Ia.miss; assumption)
        | (apply rt_is; exact rfl) | exact rt_w | (apply iv; assumption)
        | apply dw_q mixed hC hGL (by kernel_rfl) | (apply cq; assumption; (first | exact hP); exact rfl))
    all_goals (try conv => whnf)
theorem text_List {G : Glo} (s : List UInt8) (hl : s.length ≤ 2000000) : FnIs Tryz.prog G 22 [.str s] (.tuple [.list 1 (lstS s).length (strsF (lstS s)), (errT s 0).A]) := by
  have hP := text_pieces (G := G) s [44] hl
  rw [pcL_comma] at hP
  have hGL : GloAll G [] := gloAll_nil
  refine fn_x Tryz.func22 Tryz.call22 rfl rfl rfl rfl hGL ?_
  intro C hC
  repeat' (first
    | (conv => whnf); first
      | refine .w ?_ | refine .v ?_ | apply sc_true | apply sc_false
      | (first | apply sc_lt | apply sc_nlt | apply sc_eq | apply sc_neq | apply sc_nil | apply sc_nnil | apply sc_seq | apply sc_nseq) <;> (intro hb; try exact dd hb)
      | apply sc_not | apply sc_or | (apply sc_i <;> intro hb)
      | (apply bx_i; intro hbd) | (apply gt_i; assumption; exact rfl)
      | (apply cx_is; first | exact hP) | (apply cx_do (i := 0) rfl; first | exact hP)
      | (apply ab_i; intro bl) | (apply as_i; intro va vk vc hva) | (apply av_i; intro v) | (apply ac_i; intro bl cap hcap)
      | apply bo_l | (apply nx_i <;> intro hnx) | (apply Ia.hit; assumption) | (apply Ia.miss; assumption)
      | (apply rt_is; exact rfl) | exact rt_w | (apply iv; assumption)
      | apply dw_q mixed hC hGL (by kernel_rfl) | (apply cq; assumption; (first | exact hP); exact rfl))
  all_goals (try conv => whnf)
end Go.Proofs.YtidcpikoeohfbaaGreatDoor
namespace Go.Proofs.YtidcpikoeohfbaaGreatDoor
open Go Go.RowKit
/-- The lists so far. -/
def grpK (l : List (List UInt8)) (cuts : List UInt8) (k : Nat) : List (List (List UInt8)) := ((cuts.zip l.tail).take k).foldl stepG [[l.headD []]]
theorem grpK_zero (l : List (List UInt8)) (cuts : List UInt8) : grpK l cuts 0 = [] ++ [[l.headD []]] := rfl
theorem grpK_succ {l : List (List UInt8)} {cuts : List UInt8} (hl : l.length = cuts.length + 1) {k : Nat} (hk : k < cuts.length) : grpK l cuts (k + 1) = stepG (grpK l cuts k) (cuts.getD k 0, l.getD (k + 1) []) := by
  unfold grpK
  have h1 : k < (cuts.zip l.tail).length := by rw [List.length_zip, List.length_tail]; omega
  rw [List.take_succ_eq_append_getElem h1, List.foldl_append]
  have e : (cuts.zip l.tail)[k] = (cuts.getD k 0, l.getD (k + 1) []) := by
    have h2 : k + 1 < l.length := by omega
    rw [List.getElem_zip]
    simp [List.getD, hk, h2]
  rw [e]
  rfl
theorem grpK_all {l : List (List UInt8)} {cuts : List UInt8} (hl : l.length = cuts.length + 1) : grpK l cuts cuts.length = grpS l cuts := by
  unfold grpK grpS
  rw [List.take_of_length_le (by rw [List.length_zip]; omega)]
theorem pc_len {s : List UInt8} (h : errT s 0 = .none) : (pcL [44, 59] s).length = (pcC [44, 59] s).length + 1 := by
  rw [pcL_ok h, pcC_ok h]
  have := (sgP_two (tokT s)).1
  simp [this]
theorem pc_grp {s : List UInt8} (h : errT s 0 = .none) : grpS (pcL [44, 59] s) (pcC [44, 59] s) = prtS s := by
  rw [pcL_ok h, pcC_ok h, prtS_ok h, grp_tok]
  rfl
theorem raw_len : ∀ T : List Tk, T.length ≤ (rawT T).length
  | [] => Nat.le_refl _
  | t :: T => by
    have ih := raw_len T
    rw [show rawT (t :: T) = t.raw ++ rawT T from rfl, List.length_append, List.length_cons]
    cases t with
    | one c => show _ ≤ 1 + _; omega
    | two d => show _ ≤ 2 + _; omega
theorem pc_cnt (a : List UInt8) (s : List UInt8) : (pcC a s).length ≤ s.length := by
  unfold pcC
  split
  · have h1 := (sgP_len a (tokT s)).2.2
    have h2 := raw_len (tokT s)
    rename_i he
    rw [tok_raw s.length s 0 (Nat.le_refl _) he] at h2
    omega
  · exact Nat.zero_le _
theorem fieldP {A : List AVal} {x w : AVal} {N : Nat} (hA : A.length = N) : (A ++ [x]).take N ++ [w] ++ (A ++ [x]).drop (N + 1) = A ++ [w] := by
  subst hA
  simp
theorem to_perm {C : Ctx} {n : Nat} {e : Env} {h h' : Heap} (hp : h.Perm h') : To C n e h e h' := fun R _ _ hm hf => ⟨R, Seal.le_refl R, hm.perm hp, hf⟩
/-- A new list behind the others. -/
theorem to_semi {C : Ctx} {n : Nat} {e : Env} {I : List (List (List UInt8))} {l : List (List UInt8)} {u : Value} {b cap m : Nat} (hm : m = (I ++ [l]).length + 1) : To C n e [.row u none 1 l.length (strsC l), .row (.slice (some ⟨b, 0, none⟩) m cap) none 1 m (prtC I ++ [.own 0 u] ++ [.raw (.slice none 0 0)])] e
    [.row nilS none 1 0 [], .row (.slice (some ⟨b, 0, none⟩) ((I ++ [l]).length + 1) cap) none 1 ((I ++ [l]).length + 1) (prtC (I ++ [l]) ++ [.own 0 nilS])] := by
  subst hm
  have hI : (prtC I).length = I.length := by simp [prtC]
  have hI2 : (prtC (I ++ [l])).length = (I ++ [l]).length := by simp [prtC]
  refine to_trans (to_seal (i := 0) (k := 0) (p := I.length) (strsF l) rfl rfl (strsF_ok _) (fun R hr => .row (a := .own 0 u) ?_ fun _ => own_list hr)) ?_
  · rw [List.append_assoc, List.getElem?_append_right (by omega), hI, Nat.sub_self]; rfl
  have e1 : (prtC I ++ [AVal.own 0 u] ++ [AVal.raw (.slice none 0 0)]).set I.length (.list 1 l.length (strsF l)) = prtC (I ++ [l]) ++ [.raw (.slice none 0 0)] := by
    rw [List.append_assoc, List.set_append_right _ _ (by omega), hI, Nat.sub_self, ← prtC_snoc, List.append_assoc]
    rfl
  rw [e1]
  refine to_trans (to_ghost 1) (to_trans (to_perm (List.Perm.swap _ _ _)) ?_)
  have e2 : (prtC (I ++ [l]) ++ [AVal.raw (.slice none 0 0)]).set (I ++ [l]).length (.own 0 (.slice none 0 0)) = prtC (I ++ [l]) ++ [.own 0 nilS] := by
    rw [List.set_append_right _ _ (by omega), hI2, Nat.sub_self]
    rfl
  rw [← e2]
  refine to_cell (i := 1) (p := (I ++ [l]).length) (x := .row (.slice (some ⟨b, 0, none⟩) ((I ++ [l]).length + 1) cap) none 1 ((I ++ [l]).length + 1) (prtC (I ++ [l]) ++ [.raw (.slice none 0 0)])) (a' := .own 0 (.slice none 0 0)) rfl (fun R => .row (a := .raw (.slice none 0 0)) ?_ fun _ => nil_own)
  rw [List.getElem?_append_right (by omega), hI2, Nat.sub_self]; rfl
set_option maxRecDepth 20000
set_option maxHeartbeats 8000000
set_option linter.unusedSimpArgs false
set_option linter.unusedVariables false
attribute [local irreducible] AWp AOps SrcOK OrOk GloAll FnSpec byteAt errT tokT pcL pcC unS lstS prtS grpK
theorem text_Parts_run {G : Glo} (s : List UInt8) (hl : s.length ≤ 2000000) (he : errT s 0 = .none) : FnSpec Tryz.prog G 23 [.str s] [] (fun r H => ∃ I l u v, I ++ [l] = prtS s ∧ r = .ret (.tuple [.own 1 v, .raw .nilIface]) ∧ H = [.row u none 1 l.length (strsC l), .row v none 1 (I.length + 1) (prtC I ++ [.own 0 u])]) := by
  have hP := text_pieces (G := G) s [44, 59] hl
  rw [he] at hP
  have hn := pc_len he
  have hg := pc_grp he
  have hc := pc_cnt [44, 59] s
  generalize pcL [44, 59] s = L at *
  generalize pcC [44, 59] s = cu at *
  have hGL : GloAll G [] := gloAll_nil
  refine fn_x Tryz.func23 Tryz.call23 rfl rfl rfl rfl hGL ?_
  intro C hC
  repeat' (first
    | (conv => whnf); first
      | refine .w ?_ | refine .v ?_ | apply sc_true | apply sc_false
      | (first | apply sc_lt | apply sc_nlt | apply sc_eq | apply sc_neq | apply sc_nil | apply sc_nnil | apply sc_seq | apply sc_nseq) <;> (intro hb; try exact dd hb)
      | apply sc_not | apply sc_or | (apply sc_i <;> intro hb)
      | (apply bx_i; intro hbd) | (apply gt_i; assumption; exact rfl)
      | (apply cx_is; first | exact hP) | (apply cx_do (i := 0) rfl; first | exact hP)
      | (apply ab_i; intro bl) | (apply as_i; intro va vk vc hva) | (apply av_i; intro v) | (apply ac_i; intro bl cap hcap)
      | apply bo_r | (apply nx_i <;> intro hnx) | (apply Ia.hit; assumption) | (apply Ia.miss; assumption)
      | (apply rt_is; exact rfl) | exact rt_w | (apply iv; assumption)
      | exact True.intro | (apply bc_i; intro C hC) | apply bt_i | apply og_n | (apply og_a; exact rfl))
  all_goals (try conv => whnf)
  rename_i va1 vk1 vc1 hva1
  obtain ⟨bv, rfl, rfl⟩ := hva (by decide)
  refine lpT hC hGL (fun (x : Nat × List (List (List UInt8)) × List (List UInt8) × Nat × Nat × Value) => [(4, .list 1 L.length (strsF L)), (7, .own 1 (.slice (some ⟨x.2.2.2.1, 0, none⟩) (x.2.1.length + 1) x.2.2.2.2.1)), (25, .list 1 cu.length (bytF cu)), (26, .int .i64 (cu.length : Nat)), (27, .int .i64 (x.1 : Nat))])
    (fun x => [.row x.2.2.2.2.2 none 1 x.2.2.1.length (strsC x.2.2.1), .row (.slice (some ⟨x.2.2.2.1, 0, none⟩) (x.2.1.length + 1) x.2.2.2.2.1) none 1 (x.2.1.length + 1) (prtC x.2.1 ++ [.own 0 x.2.2.2.2.2])])
    (fun x => x.1 ≤ cu.length ∧ x.2.1 ++ [x.2.2.1] = grpK L cu x.1 ∧ x.2.1.length ≤ x.1 ∧ x.2.2.1.length ≤ x.1 + 1) (fun x => cu.length - x.1) (0, [], [L.getD 0 []], bv, vc, .slice va1 vk1 vc1) ?_ ?_ ?_
  · refine ⟨Nat.zero_le _, ?_, Nat.le_refl _, Nat.le_refl _⟩
    rw [grpK_zero]
    cases L <;> rfl
  · exact to_sub ⟨rfl, rfl, rfl, rfl, rfl, trivial⟩ (List.Sublist.refl _)
  rintro ⟨k, I, l, b, cap, u⟩ ⟨g1, g2, g3, g4⟩
  dsimp only at g1 g2 g3 g4 ⊢
  have hIl : (prtC I).length = I.length := by simp [prtC]
  by_cases hk : k < cu.length
  · have gs := grpK_succ hn hk
    rw [← g2] at gs
    by_cases hc59 : cu.getD k 0 = 59
    · have hcb : ((cu.getD k 0).toNat : Int) = 59 := by rw [hc59]; rfl
      repeat' (first
        | (conv => whnf); first
          | refine .w ?_ | refine .v ?_ | apply sc_true | apply sc_false
          | (first | apply sc_lt | apply sc_nlt | apply sc_eq | apply sc_neq | apply sc_nil | apply sc_nnil | apply sc_seq | apply sc_nseq) <;> (intro hb; try exact dd hb)
          | apply sc_not | apply sc_or | (apply sc_i <;> intro hb)
          | (apply bx_i; intro hbd) | (apply gt_i; assumption; exact rfl)
          | (apply cx_is; first | fail) | (apply cx_do (i := 0) rfl; first | fail)
          | (apply ab_i; intro bl) | (apply as_i; intro va vk vc hva) | (apply av_i; intro v) | (apply ac_i; intro bl cap hcap)
          | apply bo_l | (apply nx_i <;> intro hnx) | (apply Ia.hit; assumption) | (apply Ia.miss; assumption)
          | (apply rt_is; exact rfl) | exact rt_w | (apply iv; assumption)
          | exact True.intro | (apply bc_i; intro C hC) | apply bt_i | apply og_n | (apply og_a; exact rfl))
      all_goals (try conv => whnf)
      obtain ⟨b2, rfl, rfl⟩ := hva (by omega)
      refine dw_to (e' := [(8, .int .i64 (k : Nat)), (10, .int .i64 ((I ++ [l]).length : Nat)), (4, .list 1 L.length (strsF L)), (7, .own 1 (.slice (some ⟨b2, 0, none⟩) ((I ++ [l]).length + 1) vc)), (25, .list 1 cu.length (bytF cu)), (26, .int .i64 (cu.length : Nat)), (27, .int .i64 (k : Nat))]) (to_trans (to_sub (e' := [(8, .int .i64 (k : Nat)), (10, .int .i64 ((I ++ [l]).length : Nat)), (4, .list 1 L.length (strsF L)), (7, .own 1 (.slice (some ⟨b2, 0, none⟩) ((I ++ [l]).length + 1) vc)), (25, .list 1 cu.length (bytF cu)), (26, .int .i64 (cu.length : Nat)), (27, .int .i64 (k : Nat))]) ⟨rfl, congrArg (fun z => some (AVal.int .i64 z)) (by rw [List.length_append, List.length_singleton]; omega), rfl, congrArg (fun z => some (AVal.own 1 (.slice (some ⟨b2, 0, none⟩) z vc))) (by rw [List.length_append]; rfl), rfl, rfl, rfl, trivial⟩ (List.Sublist.refl _)) (to_semi (by rw [List.length_append]; rfl))) ?_
      have hI2 : (prtC (I ++ [l])).length = (I ++ [l]).length := by simp [prtC]
      have hn2 : (I ++ [l]).length = I.length + 1 := by simp
      generalize hI3 : I ++ [l] = I2 at *
      have q2 : (prtC I2 ++ [AVal.own 0 nilS])[I2.length]? = some (.own 0 nilS) := by rw [List.getElem?_append_right (by omega), hI2, Nat.sub_self]; rfl
      have ra : RowAt (.slice (some ⟨b2, 0, none⟩) (I2.length + 1) vc) b2 (I2.length + 1) := ⟨vc, rfl⟩
      have ra2 : RowAt (.slice (some ⟨b2, 0, none⟩) (I2.length + 1) vc) b2 (I2.length + 1) ∧ I2.length < (I2.length + 1) * 1 := ⟨ra, by omega⟩
      refine dw_p mixed hC hGL false (fun (_ : Option Addr × Nat × Nat) => [(4, .list 1 L.length (strsF L)), (7, .own 1 (.slice (some ⟨b2, 0, none⟩) (I2.length + 1) vc)), (25, .list 1 cu.length (bytF cu)), (26, .int .i64 (cu.length : Nat)), (27, .int .i64 (k : Nat))]) (fun y => [.row (.slice y.1 y.2.1 y.2.2) none 1 (0 + 1) ([] ++ [.str (L.getD (k + 1) [])]), .row (.slice (some ⟨b2, 0, none⟩) (I2.length + 1) vc) none 1 (I2.length + 1) ((prtC I2 ++ [AVal.own 0 nilS]).take I2.length ++ [.own 0 (.slice y.1 y.2.1 y.2.2)] ++ (prtC I2 ++ [AVal.own 0 nilS]).drop (I2.length + 1))]) (.take 0 (.take 1 (.take 2 (.take 3 (.take 4 (.take 6 (.take 7 (.take 8 (.take 9 (.br 5 (.br 10 (.br 11 (.br 12 (.take 13 (.br 14 (.done) (.nil))) (.nil)) (.nil)) (.nil)) (.br 10 (.br 5 (.br 11 (.br 12 (.take 13 (.br 14 (.done) (.nil))) (.nil)) (.nil)) (.br 11 (.br 5 (.br 12 (.take 13 (.br 14 (.done) (.nil))) (.nil)) (.nil)) (.nil))) (.nil)))))))))))) (by kernel_rfl) ?_ ?_
      · repeat' (first
          | (conv => whnf); first
            | refine .w ?_ | refine .v ?_ | apply sc_true | apply sc_false
            | (first | apply sc_lt | apply sc_nlt | apply sc_eq | apply sc_neq | apply sc_nil | apply sc_nnil | apply sc_seq | apply sc_nseq) <;> (intro hb; try exact dd hb)
            | apply sc_not | apply sc_or | (apply sc_i <;> intro hb)
            | (apply bx_i; intro hbd) | (apply gt_i; assumption; exact rfl)
            | (apply cx_is; first | fail) | (apply cx_do (i := 0) rfl; first | fail)
            | (apply ab_i; intro bl) | (apply as_i; intro va vk vc hva) | (apply av_i; intro v) | (apply ac_i; intro bl cap hcap)
            | apply bo_l | (apply nx_i <;> intro hnx) | (apply Ia.hit; assumption) | (apply Ia.miss; assumption)
            | (apply rt_is; exact rfl) | exact rt_w | (apply iv; assumption)
            | exact True.intro | (apply bc_i; intro C hC) | apply bt_i | apply og_n | (apply og_a; exact rfl))
        all_goals (try conv => whnf)
        all_goals exact ⟨(_, _, _), ⟨rfl, rfl, rfl, rfl, rfl, trivial⟩, rfl⟩
      rintro ⟨wa, wk, wc⟩
      dsimp only
      rw [fieldP hI2]
      repeat' (first
        | (conv => whnf); first
          | refine .w ?_ | refine .v ?_ | apply sc_true | apply sc_false
          | (first | apply sc_lt | apply sc_nlt | apply sc_eq | apply sc_neq | apply sc_nil | apply sc_nnil | apply sc_seq | apply sc_nseq) <;> (intro hb; try exact dd hb)
          | apply sc_not | apply sc_or | (apply sc_i <;> intro hb)
          | (apply bx_i; intro hbd) | (apply gt_i; assumption; exact rfl)
          | (apply cx_is; first | fail) | (apply cx_do (i := 0) rfl; first | fail)
          | (apply ab_i; intro bl) | (apply as_i; intro va vk vc hva) | (apply av_i; intro v) | (apply ac_i; intro bl cap hcap)
          | apply bo_l | (apply nx_i <;> intro hnx) | (apply Ia.hit; assumption) | (apply Ia.miss; assumption)
          | (apply rt_is; exact rfl) | exact rt_w | (apply iv; assumption)
          | exact True.intro | (apply bc_i; intro C hC) | apply bt_i | apply og_n | (apply og_a; exact rfl))
      all_goals (try conv => whnf)
      refine nxT (k + 1, I2, [L.getD (k + 1) []], b2, vc, .slice wa wk wc) ⟨hk, ?_, by dsimp only; omega, by simp⟩ (show cu.length - (k + 1) < cu.length - k by omega) ?_
      · dsimp only
        rw [gs, show stepG I2 (cu.getD k 0, L.getD (k + 1) []) = lastA (I2 ++ [[]]) (L.getD (k + 1) []) by unfold stepG; rw [if_pos hc59], lastA_snoc]
        rfl
      · dsimp only
        exact to_sub ⟨rfl, rfl, rfl, rfl, rfl, trivial⟩ (List.Sublist.refl _)
    · have hcb : ((cu.getD k 0).toNat : Int) ≠ 59 := fun h => hc59 (UInt8.toNat_inj.1 (by have : (59 : UInt8).toNat = 59 := rfl; omega))
      have q2 : (prtC I ++ [AVal.own 0 u])[I.length]? = some (.own 0 u) := by rw [List.getElem?_append_right (by omega), hIl, Nat.sub_self]; rfl
      have ra : RowAt (.slice (some ⟨b, 0, none⟩) (I.length + 1) cap) b (I.length + 1) := ⟨cap, rfl⟩
      have ra2 : RowAt (.slice (some ⟨b, 0, none⟩) (I.length + 1) cap) b (I.length + 1) ∧ I.length < (I.length + 1) * 1 := ⟨ra, by omega⟩
      repeat' (first
        | (conv => whnf); first
          | refine .w ?_ | refine .v ?_ | apply sc_true | apply sc_false
          | (first | apply sc_lt | apply sc_nlt | apply sc_eq | apply sc_neq | apply sc_nil | apply sc_nnil | apply sc_seq | apply sc_nseq) <;> (intro hb; try exact dd hb)
          | apply sc_not | apply sc_or | (apply sc_i <;> intro hb)
          | (apply bx_i; intro hbd) | (apply gt_i; assumption; exact rfl)
          | (apply cx_is; first | fail) | (apply cx_do (i := 0) rfl; first | fail)
          | (apply ab_i; intro bl) | (apply as_i; intro va vk vc hva) | (apply av_i; intro v) | (apply ac_i; intro bl cap hcap)
          | apply bo_l | (apply nx_i <;> intro hnx) | (apply Ia.hit; assumption) | (apply Ia.miss; assumption)
          | (apply rt_is; exact rfl) | exact rt_w | (apply iv; assumption)
          | exact True.intro | (apply bc_i; intro C hC) | apply bt_i | apply og_n | (apply og_a; exact rfl))
      all_goals (try conv => whnf)
      refine dw_to (e' := [(8, .int .i64 (k : Nat)), (10, .int .i64 (I.length : Nat)), (4, .list 1 L.length (strsF L)), (7, .own 1 (.slice (some ⟨b, 0, none⟩) (I.length + 1) cap)), (25, .list 1 cu.length (bytF cu)), (26, .int .i64 (cu.length : Nat)), (27, .int .i64 (k : Nat))]) (to_sub ⟨rfl, congrArg (fun z => some (AVal.int .i64 z)) (by omega), rfl, rfl, rfl, rfl, rfl, trivial⟩ (List.Sublist.refl _)) ?_
      refine dw_p mixed hC hGL false (fun (_ : Option Addr × Nat × Nat) => [(4, .list 1 L.length (strsF L)), (7, .own 1 (.slice (some ⟨b, 0, none⟩) (I.length + 1) cap)), (25, .list 1 cu.length (bytF cu)), (26, .int .i64 (cu.length : Nat)), (27, .int .i64 (k : Nat))]) (fun y => [.row (.slice y.1 y.2.1 y.2.2) none 1 (l.length + 1) (strsC l ++ [.str (L.getD (k + 1) [])]), .row (.slice (some ⟨b, 0, none⟩) (I.length + 1) cap) none 1 (I.length + 1) ((prtC I ++ [AVal.own 0 u]).take I.length ++ [.own 0 (.slice y.1 y.2.1 y.2.2)] ++ (prtC I ++ [AVal.own 0 u]).drop (I.length + 1))]) (.take 0 (.take 1 (.take 2 (.take 3 (.take 4 (.take 6 (.take 7 (.take 8 (.take 9 (.br 5 (.br 10 (.br 11 (.br 12 (.take 13 (.br 14 (.done) (.nil))) (.nil)) (.nil)) (.nil)) (.br 10 (.br 5 (.br 11 (.br 12 (.take 13 (.br 14 (.done) (.nil))) (.nil)) (.nil)) (.br 11 (.br 5 (.br 12 (.take 13 (.br 14 (.done) (.nil))) (.nil)) (.nil)) (.nil))) (.nil)))))))))))) (by kernel_rfl) ?_ ?_
      · repeat' (first
          | (conv => whnf); first
            | refine .w ?_ | refine .v ?_ | apply sc_true | apply sc_false
            | (first | apply sc_lt | apply sc_nlt | apply sc_eq | apply sc_neq | apply sc_nil | apply sc_nnil | apply sc_seq | apply sc_nseq) <;> (intro hb; try exact dd hb)
            | apply sc_not | apply sc_or | (apply sc_i <;> intro hb)
            | (apply bx_i; intro hbd) | (apply gt_i; assumption; exact rfl)
            | (apply cx_is; first | fail) | (apply cx_do (i := 0) rfl; first | fail)
            | (apply ab_i; intro bl) | (apply as_i; intro va vk vc hva) | (apply av_i; intro v) | (apply ac_i; intro bl cap hcap)
            | apply bo_l | (apply nx_i <;> intro hnx) | (apply Ia.hit; assumption) | (apply Ia.miss; assumption)
            | (apply rt_is; exact rfl) | exact rt_w | (apply iv; assumption)
            | exact True.intro | (apply bc_i; intro C hC) | apply bt_i | apply og_n | (apply og_a; exact rfl))
        all_goals (try conv => whnf)
        all_goals exact ⟨(va, vk, vc), ⟨rfl, rfl, rfl, rfl, rfl, trivial⟩, rfl⟩
      rintro ⟨va, vk, vc⟩
      dsimp only
      rw [fieldP hIl]
      repeat' (first
        | (conv => whnf); first
          | refine .w ?_ | refine .v ?_ | apply sc_true | apply sc_false
          | (first | apply sc_lt | apply sc_nlt | apply sc_eq | apply sc_neq | apply sc_nil | apply sc_nnil | apply sc_seq | apply sc_nseq) <;> (intro hb; try exact dd hb)
          | apply sc_not | apply sc_or | (apply sc_i <;> intro hb)
          | (apply bx_i; intro hbd) | (apply gt_i; assumption; exact rfl)
          | (apply cx_is; first | fail) | (apply cx_do (i := 0) rfl; first | fail)
          | (apply ab_i; intro bl) | (apply as_i; intro va vk vc hva) | (apply av_i; intro v) | (apply ac_i; intro bl cap hcap)
          | apply bo_l | (apply nx_i <;> intro hnx) | (apply Ia.hit; assumption) | (apply Ia.miss; assumption)
          | (apply rt_is; exact rfl) | exact rt_w | (apply iv; assumption)
          | exact True.intro | (apply bc_i; intro C hC) | apply bt_i | apply og_n | (apply og_a; exact rfl))
      all_goals (try conv => whnf)
      refine nxT (k + 1, I, l ++ [L.getD (k + 1) []], b, cap, .slice va vk vc) ⟨hk, ?_, Nat.le_succ_of_le g3, by simp; omega⟩ (show cu.length - (k + 1) < cu.length - k by omega) ?_
      · dsimp only
        rw [gs, show stepG (I ++ [l]) (cu.getD k 0, L.getD (k + 1) []) = lastA (I ++ [l]) (L.getD (k + 1) []) by unfold stepG; rw [if_neg hc59], lastA_snoc]
      · dsimp only
        rw [← strsC_snoc, List.length_append]
        exact to_sub ⟨rfl, rfl, rfl, rfl, rfl, trivial⟩ (List.Sublist.refl _)
  · repeat' (first
      | (conv => whnf); first
        | refine .w ?_ | refine .v ?_ | apply sc_true | apply sc_false
        | (first | apply sc_lt | apply sc_nlt | apply sc_eq | apply sc_neq | apply sc_nil | apply sc_nnil | apply sc_seq | apply sc_nseq) <;> (intro hb; try exact dd hb)
        | apply sc_not | apply sc_or | (apply sc_i <;> intro hb)
        | (apply bx_i; intro hbd) | (apply gt_i; assumption; exact rfl)
        | (apply cx_is; first | fail) | (apply cx_do (i := 0) rfl; first | fail)
        | (apply ab_i; intro bl) | (apply as_i; intro va vk vc hva) | (apply av_i; intro v) | (apply ac_i; intro bl cap hcap)
        | apply bo_l | (apply nx_i <;> intro hnx) | (apply Ia.hit; assumption) | (apply Ia.miss; assumption)
        | (apply rt_is; exact rfl) | exact rt_w | (apply iv; assumption)
        | exact True.intro | (apply bc_i; intro C hC) | apply bt_i | apply og_n | (apply og_a; exact rfl))
    all_goals (try conv => whnf)
    refine ⟨_, List.Sublist.refl _, I, l, u, _, ?_, rfl, rfl⟩
    rw [g2, show k = cu.length by omega, grpK_all hn, hg]
theorem ms_parts {C : Ctx} {R : Seal} {w : World} {I : List (List (List UInt8))} {l : List (List UInt8)} {v u : Value} (hm : MS C R [.row u none 1 l.length (strsC l), .row v none 1 (I.length + 1) (prtC I ++ [.own 0 u])] w) : ∃ R', R.le R' ∧ MS C R' [] w ∧ Rel R' (.list 1 (I ++ [l]).length (prtF (I ++ [l]))) v := by
  have hI : (prtC I).length = I.length := by simp [prtC]
  obtain ⟨R1, l1, m1, r1⟩ := MS.seal_row (f := strsF l) hm (strsF_ok _)
  have hc : CellTo R1 I.length (.list 1 l.length (strsF l)) (.row v none 1 (I.length + 1) (prtC I ++ [.own 0 u])) _ := .row (a := .own 0 u) (by rw [List.getElem?_append_right (by omega), hI, Nat.sub_self]; rfl) fun _ => own_list r1
  obtain ⟨h1, h2⟩ := hc.holds (m1.heap.holds _ (List.mem_cons_self ..))
  have m2 := m1.setEnt (i := 0) rfl h2 h1
  have e1 : (prtC I ++ [AVal.own 0 u]).set I.length (.list 1 l.length (strsF l)) = prtC (I ++ [l]) := by
    rw [List.set_append_right _ _ (by omega), hI, Nat.sub_self, ← prtC_snoc]
    rfl
  rw [e1] at m2
  have e2 : I.length + 1 = (I ++ [l]).length := by simp
  rw [e2] at m2
  obtain ⟨R2, l2, m3, r2⟩ := MS.seal_row (f := prtF (I ++ [l])) m2 (prtF_ok _)
  exact ⟨R2, Seal.le_trans l1 l2, m3, r2⟩
theorem tuple2 {R R' : Seal} {a a' b : AVal} {x : Value} (hle : R.le R') (h : Rel R (.tuple [a, b]) x) (ht : ∀ v, Rel R a v → Rel R' a' v) : Rel R' (.tuple [a', b]) x := by
  obtain ⟨⟨ws, e, u, t, e1, hu, u2, t2, e2, hu2, rfl⟩, h2⟩ := h
  have k := ht u ⟨hu.1, hu.2⟩
  have k2 := rel_mono hle (show Rel R b u2 from ⟨hu2.1, hu2.2⟩)
  exact ⟨⟨ws, e, _, _, e1, ⟨k.1, k.2⟩, _, _, e2, ⟨k2.1, k2.2⟩, rfl⟩, h2⟩
theorem text_Parts {G : Glo} (s : List UInt8) (hl : s.length ≤ 2000000) : FnIs Tryz.prog G 23 [.str s] (.tuple [.list 1 (prtS s).length (prtF (prtS s)), (errT s 0).A]) := by
  rcases err_cases s with h | ⟨e, p, h⟩
  · rw [h]
    refine fn_told (text_Parts_run s hl h) ?_
    rintro r H ⟨I, l, u, v, hg, rfl, rfl⟩
    rintro C R w en hm ⟨x, rfl, hx⟩
    obtain ⟨R', hle, m2, hr⟩ := ms_parts hm
    rw [hg] at hr
    exact ⟨R', m2, x, rfl, tuple2 hle hx fun v2 h => by rw [(rel_own.1 h).1]; exact hr⟩
  · have hP := text_pieces (G := G) s [44, 59] hl
    rw [h] at hP
    rw [h, prtS_no (by rw [h]; exact fun k => by cases k)]
    refine fn_told (H := []) (Qf := fun r H => r = .ret (.tuple [.raw (.slice none 0 0), (Err.at e p).A]) ∧ H = []) ?_ (fun r H h => by obtain ⟨rfl, rfl⟩ := h; exact res_nil)
    have hGL : GloAll G [] := gloAll_nil
    refine fn_x Tryz.func23 Tryz.call23 rfl rfl rfl rfl hGL ?_
    intro C hC
    repeat' (first
      | (conv => whnf); first
        | refine .w ?_ | refine .v ?_ | apply sc_true | apply sc_false
        | (first | apply sc_lt | apply sc_nlt | apply sc_eq | apply sc_neq | apply sc_nil | apply sc_nnil | apply sc_seq | apply sc_nseq) <;> (intro hb; try exact dd hb)
        | apply sc_not | apply sc_or | (apply sc_i <;> intro hb)
        | (apply bx_i; intro hbd) | (apply gt_i; assumption; exact rfl)
        | (apply cx_is; first | exact hP) | (apply cx_do (i := 0) rfl; first | exact hP)
        | (apply ab_i; intro bl) | (apply as_i; intro va vk vc hva) | (apply av_i; intro v) | (apply ac_i; intro bl cap hcap)
        | apply bo_l | (apply nx_i <;> intro hnx) | (apply Ia.hit; assumption) | (apply Ia.miss; assumption)
        | (apply rt_is; exact rfl) | exact rt_w | (apply iv; assumption)
        | apply dw_q mixed hC hGL (by kernel_rfl) | (apply cq; assumption; (first | exact hP); exact rfl))
    all_goals (try conv => whnf)
end Go.Proofs.YtidcpikoeohfbaaGreatDoor
namespace Go.Proofs.YtidcpikoeohfbaaGreatDoor
open Go Go.RowKit
/-- 9 for each digit. -/
def nineI (r : Int) : Int := if 48 ≤ r ∧ r ≤ 57 then 57 else r
theorem decL_rng {l : List UInt8} (h : l ≠ []) : Lib.decodeL l = (rngR l, stepS l) := by
  have h0 : 0 < l.length := List.length_pos_iff.2 h
  unfold Lib.decodeL
  rw [decode_nextS l 0 h0, List.drop_zero]
  unfold rngR stepS
  split <;> rfl
theorem encR_hi {r : Int} (h : 128 ≤ r) : ∃ x t, Lib.encodeRune r = x :: t ∧ 128 ≤ x.toNat := by
  unfold Lib.encodeRune Lib.encodeRuneZ
  rw [if_neg (by omega)]
  have hb : ∀ z : Int, 128 ≤ z → z < 256 → 128 ≤ (z.toNat.toUInt8).toNat := by
    intro z h1 h2
    rw [Nat.toUInt8, UInt8.toNat_ofNat_of_lt' (by simp; omega)]
    omega
  split
  · exact ⟨_, _, rfl, hb _ (by omega) (by omega)⟩
  · split
    · exact ⟨_, _, rfl, hb _ (by omega) (by omega)⟩
    · split
      · exact ⟨_, _, rfl, hb _ (by omega) (by omega)⟩
      · exact ⟨_, _, rfl, hb _ (by omega) (by omega)⟩
theorem encR_lo {r : Int} (h0 : 0 ≤ r) (h : r < 128) : Lib.encodeRune r = [UInt8.ofNat r.toNat] := by
  unfold Lib.encodeRune
  rw [Lib.encodeRuneZ_one h0 (by omega)]
  rfl
theorem shp_cons (x : UInt8) (l : List UInt8) : shpS (x :: l) = UInt8.ofNat (nineN x.toNat) :: shpS l := rfl
/-- A text of bytes below 128 is the shape by runes just where it is the one by bytes. -/
theorem map_key : ∀ (n : Nat) (l u : List UInt8), l.length ≤ n → (∀ c ∈ u, c.toNat < 128) → (Lib.mapD nineI l = u ↔ shpS l = u)
  | n, [], u, _, _ => by
    have e : Lib.mapD nineI [] = [] := rfl
    rw [e]
    exact Iff.rfl
  | 0, x :: l, u, h, _ => by simp at h
  | n + 1, x :: l, u, h, hu => by
    have hne : x :: l ≠ [] := by simp
    have hr := rng_round (x :: l) (by simp)
    have hx : byteAt (x :: l) 0 = x.toNat := rfl
    rw [Lib.mapD_step nineI (x :: l) hne, decL_rng hne]
    dsimp only
    by_cases h1 : (rngR (x :: l) : Int) < 128
    · obtain ⟨h2, h3⟩ := hr.2.2.2.1 h1
      rw [hx] at h3
      have e1 : nineI (rngR (x :: l) : Int) = (nineN x.toNat : Int) := by
        rw [← h3]
        unfold nineI nineN
        split <;> split <;> omega
      have h4 : nineN x.toNat < 128 := by unfold nineN; split <;> omega
      rw [if_pos (by rw [e1]; omega), e1, encR_lo (by omega) (by omega), h2, List.drop_succ_cons, List.drop_zero, Int.toNat_natCast, shp_cons, List.singleton_append]
      cases u with
      | nil => simp
      | cons y t =>
        have ih := map_key n l t (by simpa using h) (fun c hc => hu c (List.mem_cons_of_mem _ hc))
        simp only [List.cons.injEq, ih]
    · have h5 := hr.2.2.2.2 (by omega) 0 hr.2.1
      rw [hx] at h5
      have e1 : nineI (rngR (x :: l) : Int) = rngR (x :: l) := by unfold nineI; rw [if_neg (by omega)]
      obtain ⟨y, t, e2, h6⟩ := encR_hi (r := (rngR (x :: l) : Int)) (by omega)
      rw [if_pos (by rw [e1]; omega), e1, e2, shp_cons]
      have e3 : nineN x.toNat = x.toNat := by unfold nineN; rw [if_neg (by omega)]
      constructor
      · rintro rfl
        have := hu y (by simp)
        omega
      · rintro rfl
        have := hu (UInt8.ofNat (nineN x.toNat)) (by simp)
        rw [e3, UInt8.ofNat_toNat] at this
        omega
theorem map_shape {l u : List UInt8} (hu : ∀ c ∈ u, c.toNat < 128) : Lib.mapD nineI l = u ↔ shpS l = u := map_key l.length l u (Nat.le_refl _) hu
end Go.Proofs.YtidcpikoeohfbaaGreatDoor
namespace Go.Proofs.YtidcpikoeohfbaaGreatDoor
open Go
theorem Tryz.own : ownKnob Tryz.prog.godebug = none := by kernel_rfl
/-- All blocks below, sealed as they stand. -/
def sealBelow (W : World) (k : Nat) : Seal := fun b => if b < k then W.heap[b]? else none
theorem sealBelow_ok (W : World) (k : Nat) : Sealed (sealBelow W k) W := by
  intro b o h
  unfold sealBelow at h
  split at h
  · exact h
  · cases h
theorem ms_start (W : World) (R : Seal) (G : Glo) (hG : G.p R) (hs : Sealed R W) : MS ⟨W, R, blks [], G, hG, []⟩ R [] W :=
  ⟨hs, Seal.le_refl R, fun _ hb => .inl hb, ⟨fun _ h => absurd h List.not_mem_nil, List.nodup_nil, fun _ h => absurd h List.not_mem_nil⟩, fun _ h => absurd h List.not_mem_nil, Ext.refl W _⟩
theorem keptBut_of_ext {W W' : World} (h : Ext W [] W') (may : MemPlace → Prop) : W.keptBut W' may := by
  refine ⟨h.os, h.output, fun i hi => ?_⟩
  rw [h.block i hi (by simp)]
  generalize W.heap[i]? = o
  cases o with
  | none => rfl
  | some o =>
    cases o with
    | cells c t fr => exact ⟨rfl, rfl, rfl, fun _ _ => rfl⟩
    | map es clock => exact .inr ⟨rfl, rfl⟩
    | _ => rfl
theorem law_end {P : Program} {G : Glo} {f : FuncId} {avs : List AVal} {c : Bool} {args : Array Value} {W : World} {R : Seal} (hs : FnIs P G f avs (.bool c)) (hc : (callFunc f args).run P W = .ok (.enter f args) W)
    (hG : G.p R) (hR : Sealed R W) (ha : RelV R avs args.toList) : Calls P f args W fun e W' => e = .returned (.bool c) ∧ ∀ may, W.keptBut W' may := by
  rcases hs R W args hG (ms_start W R G hG hR) ha with ⟨_, h⟩ | ⟨v, w', h, _⟩
  · refine h.mono fun e W' ⟨res, H', R', ⟨hr, hH⟩, he, hm⟩ => ?_
    subst hr
    obtain ⟨x, rfl, hx⟩ := he
    refine ⟨by rw [rel_bool.1 hx], fun may => keptBut_of_ext hm.ext may⟩
  · rw [hc] at h
    cases h
theorem len_of_size {x : ByteArray} (h : x.size ≤ maxLen) : x.data.toList.length ≤ 9223372036854775807 := by
  have : x.data.toList.length = x.size := by cases x; rfl
  rw [this]
  exact h
end Go.Proofs.YtidcpikoeohfbaaGreatDoor
namespace Go.Proofs.YtidcpikoeohfbaaGreatDoor
open Go
theorem var_heap {P : Program} {w : World} {n : String} {g : Nat} {cs : Array Value} (hg : P.globalNamed n = some g) (hv : w.var? P n = some cs) : ∃ e fz, w.heap[g]? = some (.cells cs e fz) := by
  simp only [World.var?, hg, Option.bind_some] at hv
  split at hv
  · rename_i c e fz hh
    cases hv
    exact ⟨_, _, hh⟩
  · cases hv
/-- A list of package-level variables that are known. -/
def gloOf (L : List (Nat × List AVal)) : Glo := ⟨fun R => ∀ x, x ∈ L → SealedAt R x.1 0 x.2, fun _ _ hle h x hx => by
  obtain ⟨C, e, fz, h1, h2⟩ := h x hx
  exact ⟨C, e, fz, hle _ _ h1, relL_mono hle _ _ h2⟩⟩
theorem gloGet_mem : ∀ (L : List (Nat × List AVal)) {g : Nat} {cs : List AVal}, gloGet L g = some cs → (g, cs) ∈ L
  | [], _, _, h => by simp [gloGet] at h
  | (k, c) :: r, g, cs, h => by
    unfold gloGet at h
    split at h
    · rename_i e
      obtain rfl := Nat.eq_of_beq_eq_true e
      cases h
      exact List.mem_cons_self
    · exact List.mem_cons_of_mem _ (gloGet_mem r h)
theorem gloAll_of {L L' : List (Nat × List AVal)} (h : ∀ x, x ∈ L' → x ∈ L) : GloAll (gloOf L) L' := fun g cs hg R hR => hR (g, cs) (h _ (gloGet_mem L' hg))
theorem sealed_below {W : World} {k g : Nat} {C : Array Value} {e : TypeId} {fz : Nat × Nat} {cs : List AVal} (hk : g < k) (hW : W.heap[g]? = some (.cells C e fz)) (h : RelL (sealBelow W k) cs (C.toList.take cs.length)) : SealedAt (sealBelow W k) g 0 cs :=
  ⟨C, e, fz, by unfold sealBelow; rw [if_pos hk]; exact hW, by rw [List.drop_zero]; exact h⟩
theorem rowNamed_error : ∀ ty, ty < Tryz.prog.types.size → Tryz.prog.rowNamed ty [101, 114, 114, 111, 114] = true → ty = 33 := by
  have h : ((List.range Tryz.prog.types.size).all fun ty => !Tryz.prog.rowNamed ty [101, 114, 114, 111, 114] || Nat.beq ty 33) = true := by kernel_rfl
  intro ty h1 h2
  have := List.all_eq_true.1 h ty (List.mem_range.2 h1)
  rw [h2] at this
  exact Nat.eq_of_beq_eq_true (by simpa using this)
theorem error_laid {W : World} {k : Nat} (hk : 2 < k) {laid : List (String × DataW Unit)} (hL : laidMetH Tryz.prog laid W) (hm : ("errors.errorType", Rows.laid_errors_errorType) ∈ laid) : SealedAt (sealBelow W k) 2 0 [rty 33] := by
  have h := (laidMetH_iff.1 hL).2 _ (List.mem_filter.2 ⟨hm, by kernel_rfl⟩)
  have h : ∃ name u ty, (Rows.laid_errors_errorType (H := Unit)).handleName? = some name ∧ (Tryz.prog.cutTypes.find? (·.1 == "internal/reflectlite.rtype")).map (·.2) = some u ∧ ty < Tryz.prog.types.size ∧ Tryz.prog.rowNamed ty name = true ∧
      W.var? Tryz.prog "errors.errorType" = some #[.iface u (.agg #[typeHandle Tryz.prog ty])] := h
  obtain ⟨name, u, ty, h1, h2, h3, h4, h5⟩ := h
  obtain rfl : [101, 114, 114, 111, 114] = name := Option.some.inj ((show (Rows.laid_errors_errorType (H := Unit)).handleName? = some [101, 114, 114, 111, 114] by kernel_rfl).symm.trans h1)
  obtain rfl : 180 = u := Option.some.inj ((show (Tryz.prog.cutTypes.find? (·.1 == "internal/reflectlite.rtype")).map (·.2) = some 180 by kernel_rfl).symm.trans h2)
  obtain rfl := rowNamed_error ty h3 h4
  obtain ⟨e, fz, hh⟩ := var_heap (show Tryz.prog.globalNamed "errors.errorType" = some 2 by kernel_rfl) h5
  exact sealed_below hk hh ⟨_, _, rfl, (rel_rty _).1, rfl⟩
/-- The witness world of a row that lists a type's handle: the handle in its cell, the rest laid. -/
noncomputable def handleWorld (os : Os) : World :=
  let w0 := World.holding Tryz.prog os ⟨#[], #[], []⟩
  { w0 with heap := w0.heap.modify 2 fun
      | .cells _ t frozen => .cells #[.iface 180 (.agg #[hdl 33])] t frozen
      | o => o }
def plainOf (laid : List (String × DataW Unit)) : List (String × DataW Unit) := laid.filter fun x => x.2.handleName?.isNone
noncomputable def handleLaid (os : Os) (laid : List (String × DataW Unit)) : World := (handleWorld os).layVars Tryz.prog (plainOf laid)
theorem handleLaid_os (os : Os) (laid : List (String × DataW Unit)) : (handleLaid os laid).os = os := World.layVars_os _ _ _
theorem handleLaid_met {os : Os} {laid : List (String × DataW Unit)} (args : Array Value) (hf : (handleWorld os).layFits Tryz.prog (plainOf laid) [] = true) (hi : (handleWorld os).layIfaces Tryz.prog (plainOf laid) (handleLaid os laid) = true)
    (hh : ((laid.filter fun x => x.2.handleName?.isSome).all (handleAtB Tryz.prog ((handleLaid os laid).forCall (fun _ _ => 0) ⟨#[], args, []⟩).memory)) = true) :
    laidMetH Tryz.prog laid ((handleLaid os laid).forCall (fun _ _ => 0) ⟨#[], args, []⟩).memory := by
  refine laidMetH_of_parts ?_ hh
  have e1 : ((plainOf laid).filter fun x => ((plainOf laid).map (·.1)).contains x.1) = plainOf laid := List.filter_eq_self.2 fun x hx => List.contains_iff_mem.2 (List.mem_map.2 ⟨x, hx, rfl⟩)
  have e2 : ((plainOf laid).filter fun x => !((plainOf laid).map (·.1)).contains x.1) = [] := List.filter_eq_nil_iff.2 fun x hx => by rw [List.contains_iff_mem.2 (List.mem_map.2 ⟨x, hx, rfl⟩)]; simp
  have h : laidMet Tryz.prog (plainOf laid) (handleLaid os laid) := laidMet_layVars (w0 := handleWorld os) ((plainOf laid).map (·.1)) [] (by rw [e1]; rfl) (by rw [e1]; exact hf) (by rw [e1]; exact hi) (by rw [e2]; exact LaidIn.none)
  exact h.of_heap (by simp [World.memory, World.forCall, Input.heap])
theorem err_lt {W : World} {laid : List (String × DataW Unit)} (hL : laidMetH Tryz.prog laid W) (hm : ("errors.errorType", Rows.laid_errors_errorType) ∈ laid) : 2 < W.heap.size := by
  have h := (laidMetH_iff.1 hL).2 _ (List.mem_filter.2 ⟨hm, by kernel_rfl⟩)
  obtain ⟨name, u, ty, h1, h2, h3, h4, h5⟩ := h
  obtain ⟨e, fz, hh⟩ := var_heap (show Tryz.prog.globalNamed "errors.errorType" = some 2 by kernel_rfl) h5
  exact (Array.getElem?_eq_some_iff.1 hh).1
end Go.Proofs.YtidcpikoeohfbaaGreatDoor
namespace Go.Proofs.YtidcpikoeohfbaaGreatDoor
open Go Go.RowKit
theorem sealed_below' {R : Seal} {w W : World} (hs : Sealed R w) (hb : Below w.heap.size w W) : Sealed R W := fun b o h => by
  have h1 := hs b o h
  rw [hb.block b ((Array.getElem?_eq_some_iff.1 h1).1)]
  exact h1
theorem first_at (c : Nat) (h : c < 256) : firstTab[c]? = some (.int .u8 (Lib.firstT c)) := by
  have := firstTab_at c h
  rwa [Nat.mul_one] at this
theorem acc_at (i : Nat) (h : i < 16) : acceptTab[2 * i]? = some (.int .u8 (Lib.accLo i)) ∧ acceptTab[2 * i + 1]? = some (.int .u8 (Lib.accHi i)) := by
  match i, h with
  | 0, _ => exact ⟨rfl, rfl⟩
  | 1, _ => exact ⟨rfl, rfl⟩
  | 2, _ => exact ⟨rfl, rfl⟩
  | 3, _ => exact ⟨rfl, rfl⟩
  | 4, _ => exact ⟨rfl, rfl⟩
  | 5, _ => exact ⟨rfl, rfl⟩
  | 6, _ => exact ⟨rfl, rfl⟩
  | 7, _ => exact ⟨rfl, rfl⟩
  | 8, _ => exact ⟨rfl, rfl⟩
  | 9, _ => exact ⟨rfl, rfl⟩
  | 10, _ => exact ⟨rfl, rfl⟩
  | 11, _ => exact ⟨rfl, rfl⟩
  | 12, _ => exact ⟨rfl, rfl⟩
  | 13, _ => exact ⟨rfl, rfl⟩
  | 14, _ => exact ⟨rfl, rfl⟩
  | 15, _ => exact ⟨rfl, rfl⟩
  | n + 16, h => exact absurd h (by omega)
theorem utf_tabs {G : Glo} (hU : GloAll G utfTy) {R : Seal} {w : World} (hG : G.p R) (hs : Sealed R w) : Lib.Utf8Tabs 5 6 w := by
  have h1 : SealedAt R 5 0 firstTab := hU _ _ rfl R hG
  have h2 : SealedAt R 6 0 acceptTab := hU _ _ rfl R hG
  refine ⟨fun c hc => ?_, fun i hi => ⟨?_, ?_⟩⟩
  · obtain ⟨v, hv, hr⟩ := h1.cell hs (first_at c hc)
    rw [Nat.zero_add] at hv
    rw [hv, rel_int.1 (relC_rel hr rfl)]
  · obtain ⟨v, hv, hr⟩ := h2.cell hs (acc_at i hi).1
    rw [Nat.zero_add] at hv
    rw [hv, rel_int.1 (relC_rel hr rfl)]
  · obtain ⟨v, hv, hr⟩ := h2.cell hs (acc_at i hi).2
    rw [Nat.zero_add] at hv
    rw [hv, rel_int.1 (relC_rel hr rfl)]
theorem law_belowV {P : Program} {G : Glo} {f : FuncId} {avs : List AVal} {k : IntKind} {c : Int} {args : Array Value} {W : World} {R : Seal} (hs : FnIs P G f avs (.int k c)) (hc : (callFunc f args).run P W = .ok (.enter f args) W)
    (hG : G.p R) (hR : Sealed R W) (ha : RelV R avs args.toList) : Calls P f args W fun e W' => e = .returned (.int k c) ∧ Go.RowKit.Below W.heap.size W W' := by
  rcases hs R W args hG (ms_start W R G hG hR) ha with ⟨_, h⟩ | ⟨v, w', h, _⟩
  · refine h.mono fun e W' ⟨res, H', R', ⟨hr, hH⟩, he, hm⟩ => ?_
    subst hr
    obtain ⟨x, rfl, hx⟩ := he
    exact ⟨by rw [rel_int.1 hx], ⟨hm.ext.os, hm.ext.tape, hm.ext.output, hm.ext.size, fun k hk => hm.ext.block k hk (fun h => absurd h List.not_mem_nil)⟩⟩
  · rw [hc] at h
    cases h
theorem strings_Map {G : Glo} (hU : GloAll G utfTy) (f : Int → Int) (g : Nat) (s : List UInt8) (hl : s.length ≤ 1000000) (hg : ∀ r : Nat, r ≤ 1114111 → FnIs Tryz.prog G g [.int .i32 (r : Int)] (.int .i32 (f r))) (hf : ∀ x : Nat, x ≤ 1114111 → -2147483648 ≤ f x ∧ f x ≤ 2147483647)
    (hc : ∀ args w, (callFunc g args).run Tryz.prog w = .ok (.enter g args) w) : FnIs Tryz.prog G 102 [.func (.func g) [] [], .str s] (.str (Lib.mapD f s)) := by
  refine fnis_of_calls rfl Tryz.call102 ?_
  rintro R args ⟨x, t, e, hx, y, t', e', hy, rfl⟩ w hG hs
  have hx0 := hx
  obtain ⟨⟨xa, xb, ex, r1, r2⟩, hx2⟩ := hx0
  obtain rfl := rel_str.1 hy
  have hxv : x = .func (.func g) #[] #[] := by
    cases x <;> first | (simp [Value.cells] at ex; done) | skip
    all_goals (try (simp [vAgg, AVal.isAgg] at hx2; done))
    simp only [Value.cells, List.cons.injEq, and_true, Value.func.injEq] at ex
    obtain ⟨e1, e2, e3⟩ := ex
    have h1 : xa.toList = [] := r1
    have h2 : xb.toList = [] := r2
    rw [Array.toList_eq_nil_iff] at h1 h2
    rw [e1, e2, e3, h1, h2]
  subst hxv
  subst e'
  obtain rfl := arr_of e
  refine (Tryz.strings_Map_grows g #[] hc f ⟨s.toArray⟩ w (by rw [str_size]; omega) ?_ hf (utf_tabs hU hG hs)).mono ?_
  · intro W r hr hb
    exact (law_belowV (hg r hr) (hc _ _) hG (sealed_below' hs hb) ⟨_, _, rfl, rel_int.2 rfl, rfl⟩).mono fun e w' h => h
  · rintro e w' ⟨rfl, hb⟩
    exact ⟨by simp [AVal.conc], hb⟩
end Go.Proofs.YtidcpikoeohfbaaGreatDoor
namespace Go.Proofs.YtidcpikoeohfbaaGreatDoor
open Go Go.RowKit
theorem MS.seal_cells {C : Ctx} {R : Seal} {w : World} {H : Heap} {b : Nat} {eT : Option TypeId} {cs : List AVal} (h : MS C R (.cells b eT cs :: H) w) :
    ∃ R', R.le R' ∧ MS C R' H w ∧ Rel R' (.rop cs 0) (.pointer (some ⟨b, 0, none⟩)) := by
  obtain ⟨Cs, el, fz, hb, hl, hfz⟩ := h.heap.holds _ (List.mem_cons_self ..)
  obtain ⟨h1, h2⟩ := h.fixed (b := b) rfl hb
  refine ⟨_, h2, h1, ⟨b, 0, Cs, el, fz, rfl, Nat.le_refl _, Seal.put_at _ _ _, ?_⟩, rfl⟩
  have hlen := relL_length hl
  rw [Nat.sub_self, List.drop_zero, List.take_of_length_le (by omega)]
  exact relL_mono h2 _ _ hl
abbrev ghostE : HEnt := .row (.slice none 0 0) none 1 0 []
section
variable {P : Program} [Tab P] {C : Ctx} {n : Nat} {G : Glo} {GL : List (Nat × List AVal)} {e : Env} {h : Heap} {env : Env} {H : Heap} {Q : AExit → Env → Heap → Prop}
/-- The cells at a place are sealed; the slot that points to them is told so; nothing is left at the place. -/
theorem to_sealc {i k j b : Nat} {eT : Option TypeId} {cs : List AVal} (hi : h[i]? = some (.cells b eT cs)) (hk : Env.get e k = some (.own j (.pointer (some ⟨b, 0, none⟩)))) :
    To C n e h ((k, .rop cs 0) :: e) (h.set i ghostE) := fun R a w hm hf => by
  obtain ⟨R', hle, hm', hr⟩ := MS.seal_cells (hm.perm (perm_front hi))
  refine ⟨R', hle, (hm'.ghost 1).perm (set_perm ghostE hi), ?_⟩
  have hf' := hf.mono hle
  refine ⟨fun t x ht => ?_, hf'.size, hf'.defers⟩
  simp only [Env.get] at ht
  split at ht
  · rename_i hb
    have := Nat.eq_of_beq_eq_true hb
    subst this
    simp only [Option.some.injEq] at ht
    subst ht
    obtain ⟨y, hy, hr'⟩ := hf'.fr k _ hk
    refine ⟨y, hy, ?_⟩
    rw [(rel_own.1 hr').1]
    exact hr
  · exact hf'.fr t x ht
omit [Tab P] in
/-- Slots told as the call's own. -/
def owns : List (Nat × Nat × Value) → Env → Env
  | [], e => e
  | (s, i, v) :: t, e => (s, .own i v) :: owns t e
def OwnsOK : List (Nat × Nat × Value) → Env → Prop
  | [], _ => True
  | (s, _, v) :: t, e => (Env.get (owns t e) s = some (.raw v) ∧ vAgg v = false) ∧ OwnsOK t e
theorem fs_owns {D : List Deferred} {R : Seal} {a : Act} : ∀ {os : List (Nat × Nat × Value)} {e : Env}, OwnsOK os e → FS D n R e a → FS D n R (owns os e) a
  | [], _, _, h => h
  | (_, _, _) :: _, _, ⟨⟨h1, h2⟩, h3⟩, h => fs_own h2 h1 (fs_owns h3 h)
/-- Into a function with such slots. -/
theorem fn_own (os : List (Nat × Nat × Value)) {f : FuncId} {fn : Func} {c : Code} {avs : List AVal} {Qf : ARes → Heap → Prop} {rs : List ResultVar} (hf : P.funcs[f]? = some fn)
    (hc : ∀ args w, (callFunc f args).run P w = .ok (.enter f args) w) (hb : fn.body = some c) (hn : fn.ntmps = n) (hrs : fn.results = rs.toArray) (hlen : Nat.ble avs.length n = true) (ho : OwnsOK os (argEnv 0 avs))
    (h : ∀ C : Ctx, C.G = G → AWp P C n c (owns os (argEnv 0 avs)) H (RetX P rs Qf)) : FnSpec P G f avs H Qf :=
  fn_spec hf hb hc hn hrs hlen fun w0 R0 hG => AWp.mono (aw_env (fun _ _ hf => fs_owns ho hf) (h ⟨w0, R0, blks H, G, hG, []⟩ rfl)) fun _ _ _ q => RetX_ok q
end
end Go.Proofs.YtidcpikoeohfbaaGreatDoor
namespace Go.Proofs.YtidcpikoeohfbaaGreatDoor
open Go Go.RowKit
theorem dig_at {s u : List UInt8} {i : Nat} (h : shpS s = u) (hi : i < u.length) (h57 : byteAt u i = 57) : 48 ≤ byteAt s i ∧ byteAt s i ≤ 57 := nine_57.1 (((shp_pt h).2 i hi).trans h57)
theorem cut_at {s : List UInt8} {a b i : Nat} (h : i < b - a) : byteAt ((s.take b).drop a) i = byteAt s (a + i) := by
  rw [drop_at, take_at (by omega)]
set_option maxRecDepth 20000
set_option maxHeartbeats 4000000
set_option linter.unusedSimpArgs false
set_option linter.unusedVariables false
attribute [local irreducible] AWp AOps byteAt SrcOK OrOk GloAll FnSpec
attribute [local irreducible] shpS nineI
theorem when_number_two {G : Glo} (s : List UInt8) (hl : s.length = 2) (h0 : 48 ≤ byteAt s 0 ∧ byteAt s 0 ≤ 57) (h1 : 48 ≤ byteAt s 1 ∧ byteAt s 1 ≤ 57) : FnIs Tryz.prog G 77 [.str s] (.tuple [.int .i64 (two2 s 0), .bool true]) := by
  have hGL : GloAll G [] := gloAll_nil
  refine fn_x Tryz.func77 Tryz.call77 rfl rfl rfl rfl hGL ?_
  intro C hC
  refine xw1 ?_
  refine rds hC hGL 3 ?_
  refine xw ?_
  repeat' (first | exact Le.n | refine Lc.mk ?_ ?_)
  all_goals intros
  all_goals try (exfalso; simp only [Nat.zero_add, Nat.reduceAdd] at *; omega)
  apply rt_is
  unfold two2 digN
  simp only [Nat.zero_add, Nat.reduceAdd] at *
  congr 3
  omega
theorem when_number_four {G : Glo} (s : List UInt8) (hl : s.length = 4) (h0 : 48 ≤ byteAt s 0 ∧ byteAt s 0 ≤ 57) (h1 : 48 ≤ byteAt s 1 ∧ byteAt s 1 ≤ 57) (h2 : 48 ≤ byteAt s 2 ∧ byteAt s 2 ≤ 57) (h3 : 48 ≤ byteAt s 3 ∧ byteAt s 3 ≤ 57) : FnIs Tryz.prog G 77 [.str s] (.tuple [.int .i64 (four4 s 0), .bool true]) := by
  have hGL : GloAll G [] := gloAll_nil
  refine fn_x Tryz.func77 Tryz.call77 rfl rfl rfl rfl hGL ?_
  intro C hC
  refine xw1 ?_
  refine rds hC hGL 5 ?_
  refine xw ?_
  repeat' (first | exact Le.n | refine Lc.mk ?_ ?_)
  all_goals intros
  all_goals try (exfalso; simp only [Nat.zero_add, Nat.reduceAdd] at *; omega)
  apply rt_is
  unfold four4 digN
  simp only [Nat.zero_add, Nat.reduceAdd] at *
  congr 3
  omega
theorem when_shape1 {G : Glo} (r : Nat) (h : r ≤ 1114111) : FnIs Tryz.prog G 108 [.int .i32 (r : Int)] (.int .i32 (nineI r)) := by
  have hGL : GloAll G [] := gloAll_nil
  refine fn_x Tryz.func108 Tryz.call108 rfl rfl rfl rfl hGL ?_
  intro C hC
  refine xw ?_
  repeat' (first | exact Le.n | refine Lc.mk ?_ ?_)
  all_goals intros
  all_goals (apply rt_is; refine congrArg (AVal.int .i32) ?_; unfold nineI; split <;> omega)
theorem when_shape {G : Glo} (hU : GloAll G utfTy) (s : List UInt8) (hl : s.length ≤ 1000000) : FnIs Tryz.prog G 76 [.str s] (.str (Lib.mapD nineI s)) := by
  have k1 := strings_Map (G := G) hU nineI 108 s hl (fun r hr => when_shape1 r hr) (fun x hx => by unfold nineI; split <;> omega) Tryz.call108
  have hGL : GloAll G [] := gloAll_nil
  refine fn_x Tryz.func76 Tryz.call76 rfl rfl rfl rfl hGL ?_
  intro C hC
  exact xw0
end Go.Proofs.YtidcpikoeohfbaaGreatDoor
namespace Go.Proofs.YtidcpikoeohfbaaGreatDoor
open Go Go.RowKit
/-- Where a form's numbers begin. -/
def dL (k i : Nat) : Int := ([[-1, -1, -1], [0, -1, -1], [0, 5, -1], [0, 4, 6], [-1, 2, -1], [-1, 2, 4], [-1, -1, 3]].getD k [0, 0, 0]).getD i 0
def dV (k : Nat) (s : List UInt8) (i : Nat) : Int := if i = 0 then dY k s else if i = 1 then dM k s else dD k s
def dW (i : Nat) : Int := if i = 0 then 4 else 2
def cL (k i : Nat) : Int := ([[0, 0, 0], [0, -1, -1], [0, 2, -1], [0, 2, 4], [-1, 1, -1], [-1, 1, 3], [-1, -1, 2]].getD k [0, 0, 0]).getD i 0
def cV (k : Nat) (s : List UInt8) (i : Nat) : Int := if i = 0 then cH k s else if i = 1 then cI k s else cS k s
/-- The form of a time, 7: none. -/
def cIx (d : List UInt8) : Nat := if shpS d = clkF 1 then 1 else if shpS d = clkF 2 then 2 else if shpS d = clkF 3 then 3 else if shpS d = clkF 4 then 4 else if shpS d = clkF 5 then 5 else if shpS d = clkF 6 then 6 else 7
theorem cIx_of {d : List UInt8} {k : Nat} (h1 : 1 ≤ k) (hk : k ≤ 6) (h : shpS d = clkF k) : cIx d = k := by
  unfold cIx
  (repeat' split)
  all_goals first
    | (rename_i e; exact (clk_inj h1 hk (by decide) (by decide) (h.symm.trans e)).symm)
    | (exfalso
       rcases (show k = 1 ∨ k = 2 ∨ k = 3 ∨ k = 4 ∨ k = 5 ∨ k = 6 by omega) with rfl | rfl | rfl | rfl | rfl | rfl <;> contradiction)
theorem cIx_no {d : List UInt8} (h : ∀ k, 1 ≤ k → k ≤ 6 → shpS d ≠ clkF k) : cIx d = 7 := by
  unfold cIx
  rw [if_neg (h 1 (by decide) (by decide)), if_neg (h 2 (by decide) (by decide)), if_neg (h 3 (by decide) (by decide)), if_neg (h 4 (by decide) (by decide)), if_neg (h 5 (by decide) (by decide)), if_neg (h 6 (by decide) (by decide))]
theorem cIx_cases (d : List UInt8) : (cIx d = 7 ∧ ∀ k, 1 ≤ k → k ≤ 6 → shpS d ≠ clkF k) ∨ ∃ k, 1 ≤ k ∧ k ≤ 6 ∧ cIx d = k ∧ shpS d = clkF k := by
  by_cases h : ∃ k, 1 ≤ k ∧ k ≤ 6 ∧ shpS d = clkF k
  · obtain ⟨k, h1, h2, h3⟩ := h
    exact .inr ⟨k, h1, h2, cIx_of h1 h2 h3, h3⟩
  · have h : ∀ k, 1 ≤ k → k ≤ 6 → shpS d ≠ clkF k := fun k h1 h2 h3 => h ⟨k, h1, h2, h3⟩
    exact .inl ⟨cIx_no h, h⟩
theorem dIx_cases (d : List UInt8) : (dIx d = 7 ∧ ∀ k, k ≤ 6 → shpS d ≠ dateF k) ∨ ∃ k, k ≤ 6 ∧ dIx d = k ∧ shpS d = dateF k := by
  by_cases h : ∃ k, k ≤ 6 ∧ shpS d = dateF k
  · obtain ⟨k, h2, h3⟩ := h
    exact .inr ⟨k, h2, dIx_of h2 h3, h3⟩
  · have h : ∀ k, k ≤ 6 → shpS d ≠ dateF k := fun k h2 h3 => h ⟨k, h2, h3⟩
    exact .inl ⟨dIx_no h, h⟩
theorem two2_cut {s : List UInt8} {a b : Nat} (h : b = a + 2) : two2 ((s.take b).drop a) 0 = two2 s a := by
  subst h
  unfold two2 digN
  rw [cut_at (by omega), cut_at (by omega)]
  simp only [Nat.add_zero, Nat.zero_add]
theorem four4_cut {s : List UInt8} {a b : Nat} (h : b = a + 4) : four4 ((s.take b).drop a) 0 = four4 s a := by
  subst h
  unfold four4 digN
  rw [cut_at (by omega), cut_at (by omega), cut_at (by omega), cut_at (by omega)]
  simp only [Nat.add_zero, Nat.zero_add]
theorem num_two {G : Glo} {s u : List UInt8} (h : shpS s = u) (a b : Nat) (hb : b = a + 2) (hl : b ≤ u.length) (h0 : byteAt u a = 57) (h1 : byteAt u (a + 1) = 57) : FnIs Tryz.prog G 77 [.str ((s.take b).drop a)] (.tuple [.int .i64 (two2 s a), .bool true]) := by
  have hsl := (shp_pt h).1
  have := when_number_two (G := G) ((s.take b).drop a) (by rw [List.length_drop, List.length_take]; omega) (by rw [cut_at (by omega)]; exact dig_at h (by omega) h0) (by rw [cut_at (by omega)]; exact dig_at h (by omega) h1)
  rwa [two2_cut hb] at this
theorem num_four {G : Glo} {s u : List UInt8} (h : shpS s = u) (a b : Nat) (hb : b = a + 4) (hl : b ≤ u.length) (h0 : byteAt u a = 57) (h1 : byteAt u (a + 1) = 57) (h2 : byteAt u (a + 2) = 57) (h3 : byteAt u (a + 3) = 57) : FnIs Tryz.prog G 77 [.str ((s.take b).drop a)] (.tuple [.int .i64 (four4 s a), .bool true]) := by
  have hsl := (shp_pt h).1
  have := when_number_four (G := G) ((s.take b).drop a) (by rw [List.length_drop, List.length_take]; omega) (by rw [cut_at (by omega)]; exact dig_at h (by omega) h0) (by rw [cut_at (by omega)]; exact dig_at h (by omega) h1) (by rw [cut_at (by omega)]; exact dig_at h (by omega) h2) (by rw [cut_at (by omega)]; exact dig_at h (by omega) h3)
  rwa [four4_cut hb] at this
/-- What a form tells of a number. -/
def NumOf (G : Glo) (s : List UInt8) (l w v : Int) : Prop := (l < 0 ∧ v = -1) ∨ (0 ≤ l ∧ 0 ≤ l + w ∧ l ≤ l + w ∧ l + w ≤ s.length ∧ FnIs Tryz.prog G 77 [.str ((s.take (l + w).toNat).drop l.toNat)] (.tuple [.int .i64 v, .bool true]))
theorem date_num {G : Glo} {s : List UInt8} {k : Nat} (hk : k ≤ 6) (h : shpS s = dateF k) : ∀ i, i < 3 → NumOf G s (dL k i) (dW i) (dV k s i) := by
  have hl := (shp_pt h).1
  intro i hi
  rcases (show k = 0 ∨ k = 1 ∨ k = 2 ∨ k = 3 ∨ k = 4 ∨ k = 5 ∨ k = 6 by omega) with rfl | rfl | rfl | rfl | rfl | rfl | rfl <;> rcases (show i = 0 ∨ i = 1 ∨ i = 2 by omega) with rfl | rfl | rfl
  all_goals first
    | exact .inl ⟨by decide, rfl⟩
    | exact .inr ⟨by decide, by decide, by decide, by rw [hl]; decide, num_four h _ _ (by decide) (by decide) (by decide) (by decide) (by decide) (by decide)⟩
    | exact .inr ⟨by decide, by decide, by decide, by rw [hl]; decide, num_two h _ _ (by decide) (by decide) (by decide) (by decide)⟩
theorem clock_num {G : Glo} {s : List UInt8} {k : Nat} (h1 : 1 ≤ k) (hk : k ≤ 6) (h : shpS s = clkF k) : ∀ i, i < 3 → NumOf G s (cL k i) 2 (cV k s i) := by
  have hl := (shp_pt h).1
  intro i hi
  rcases (show k = 1 ∨ k = 2 ∨ k = 3 ∨ k = 4 ∨ k = 5 ∨ k = 6 by omega) with rfl | rfl | rfl | rfl | rfl | rfl <;> rcases (show i = 0 ∨ i = 1 ∨ i = 2 by omega) with rfl | rfl | rfl
  all_goals first
    | exact .inl ⟨by decide, rfl⟩
    | exact .inr ⟨by decide, by decide, by decide, by rw [hl]; decide, num_two h _ _ (by decide) (by decide) (by decide) (by decide)⟩
theorem map_lit {s u : List UInt8} (hu : ∀ c ∈ u, c.toNat < 128) (h : Lib.mapD nineI s = u) : shpS s = u := (map_shape hu).1 h
theorem date_lo : ∀ k, k ≤ 6 → ∀ c ∈ dateF k, c.toNat < 128 := by
  intro k hk
  rcases (show k = 0 ∨ k = 1 ∨ k = 2 ∨ k = 3 ∨ k = 4 ∨ k = 5 ∨ k = 6 by omega) with rfl | rfl | rfl | rfl | rfl | rfl | rfl <;> decide
theorem clk_lo : ∀ k, k ≤ 6 → ∀ c ∈ clkF k, c.toNat < 128 := by
  intro k hk
  rcases (show k = 0 ∨ k = 1 ∨ k = 2 ∨ k = 3 ∨ k = 4 ∨ k = 5 ∨ k = 6 by omega) with rfl | rfl | rfl | rfl | rfl | rfl | rfl <;> decide
theorem dIx_map {s : List UInt8} (k : Nat) (hk : k ≤ 6) (h : Lib.mapD nineI s = dateF k) : k = dIx s := (dIx_of hk (map_lit (date_lo k hk) h)).symm
theorem cIx_map {s : List UInt8} (k : Nat) (h1 : 1 ≤ k) (hk : k ≤ 6) (h : Lib.mapD nineI s = clkF k) : k = cIx s := (cIx_of h1 hk (map_lit (clk_lo k hk) h)).symm
theorem dIx_map0 {s : List UInt8} (h : (Lib.mapD nineI s).length = 0) : 0 = dIx s := dIx_map 0 (by decide) (List.eq_nil_of_length_eq_zero h)
theorem dIx_miss {s : List UInt8} (g0 : (Lib.mapD nineI s).length ≠ 0) (h1 : Lib.mapD nineI s ≠ dateF 1) (h2 : Lib.mapD nineI s ≠ dateF 2) (h3 : Lib.mapD nineI s ≠ dateF 3) (h4 : Lib.mapD nineI s ≠ dateF 4) (h5 : Lib.mapD nineI s ≠ dateF 5) (h6 : Lib.mapD nineI s ≠ dateF 6) : 7 = dIx s := by
  have h0 : Lib.mapD nineI s ≠ dateF 0 := fun h => g0 (by rw [h]; rfl)
  refine (dIx_no fun k hk h => ?_).symm
  have h := (map_shape (date_lo k hk)).2 h
  rcases (show k = 0 ∨ k = 1 ∨ k = 2 ∨ k = 3 ∨ k = 4 ∨ k = 5 ∨ k = 6 by omega) with rfl | rfl | rfl | rfl | rfl | rfl | rfl <;> contradiction
theorem cIx_miss {s : List UInt8} (h1 : Lib.mapD nineI s ≠ clkF 1) (h2 : Lib.mapD nineI s ≠ clkF 2) (h3 : Lib.mapD nineI s ≠ clkF 3) (h4 : Lib.mapD nineI s ≠ clkF 4) (h5 : Lib.mapD nineI s ≠ clkF 5) (h6 : Lib.mapD nineI s ≠ clkF 6) : 7 = cIx s := by
  refine (cIx_no fun k g1 hk h => ?_).symm
  have h := (map_shape (clk_lo k hk)).2 h
  rcases (show k = 1 ∨ k = 2 ∨ k = 3 ∨ k = 4 ∨ k = 5 ∨ k = 6 by omega) with rfl | rfl | rfl | rfl | rfl | rfl <;> contradiction
abbrev pS (b : Nat) : Value := .pointer (some ⟨b, 0, none⟩)
abbrev pF (b o : Nat) : AVal := .own 0 (.pointer (some ⟨b, o, none⟩))
abbrev stC (b : Nat) (y m d h i s : Int) (z : Bool) (o : Int) : HEnt := .cells b (some 24) [.int .i64 y, .int .i64 m, .int .i64 d, .int .i64 h, .int .i64 i, .int .i64 s, .bool z, .int .i64 o]
/-- How far the numbers are read. -/
def got (v : Int) (i r : Nat) : Int := if i < r then v else -1
set_option maxRecDepth 20000
set_option maxHeartbeats 4000000
set_option linter.unusedSimpArgs false
set_option linter.unusedVariables false
attribute [local irreducible] AWp AOps byteAt SrcOK OrOk GloAll FnSpec
attribute [local irreducible] shpS nineI dIx cIx
theorem got_0 (v : Int) (i : Nat) : got v i 0 = -1 := by unfold got; rw [if_neg (by omega)]
theorem when_date {G : Glo} (hU : GloAll G utfTy) (b : Nat) (s : List UInt8) (hl : s.length ≤ 1000000) (h i c : Int) (z : Bool) (o : Int) : FnSpec Tryz.prog G 50 [.str s, .raw (pS b)] [stC b (-1) (-1) (-1) h i c z o]
    (fun r H => r = .ret (.bool (decide (dIx s ≠ 7))) ∧ H = [stC b (dY (dIx s) s) (dM (dIx s) s) (dD (dIx s) s) h i c z o]) := by
  have k0 := when_shape (G := G) hU s hl
  have hGL : GloAll G [] := gloAll_nil
  refine fn_own [(1, 0, pS b)] Tryz.func50 Tryz.call50 rfl rfl rfl rfl (by repeat (first | exact trivial | refine And.intro ⟨rfl, rfl⟩ ?_)) ?_
  intro C hC
  refine cut hC hGL [(0, .str s), (1, .own 0 (pS b))] [stC b (-1) (-1) (-1) h i c z o] True xw0 fun _ => ?_
  refine cuty hC hGL (X := Nat) (fun bm => [(0, .str s), (1, .own 0 (pS b)), (5, .own 1 (.map (some bm)))]) (fun bm => [stC b (-1) (-1) (-1) h i c z o, .mp bm [(.str [], .agg [.int .i64 (-1), .int .i64 (-1), .int .i64 (-1)]), (.str [57, 57, 57, 57], .agg [.int .i64 0, .int .i64 (-1), .int .i64 (-1)]), (.str [57, 57, 57, 57, 45, 57, 57], .agg [.int .i64 0, .int .i64 5, .int .i64 (-1)]), (.str [57, 57, 57, 57, 57, 57, 57, 57], .agg [.int .i64 0, .int .i64 4, .int .i64 6]), (.str [45, 45, 57, 57], .agg [.int .i64 (-1), .int .i64 2, .int .i64 (-1)]), (.str [45, 45, 57, 57, 57, 57], .agg [.int .i64 (-1), .int .i64 2, .int .i64 4]), (.str [45, 45, 45, 57, 57], .agg [.int .i64 (-1), .int .i64 (-1), .int .i64 3])]]) (fun _ => True) ?_ fun bm _ => ?_
  · refine xw1 ?_
    intro bm
    intros
    exact cy bm trivial
  refine cuty hC hGL (X := Nat × Nat) (fun x => [(0, .str s), (1, .own 0 (pS b)), (6, .own 2 (pS x.2)), (7, .bool (decide (x.1 ≠ 7)))]) (fun x => [stC b (-1) (-1) (-1) h i c z o, .mp bm [(.str [], .agg [.int .i64 (-1), .int .i64 (-1), .int .i64 (-1)]), (.str [57, 57, 57, 57], .agg [.int .i64 0, .int .i64 (-1), .int .i64 (-1)]), (.str [57, 57, 57, 57, 45, 57, 57], .agg [.int .i64 0, .int .i64 5, .int .i64 (-1)]), (.str [57, 57, 57, 57, 57, 57, 57, 57], .agg [.int .i64 0, .int .i64 4, .int .i64 6]), (.str [45, 45, 57, 57], .agg [.int .i64 (-1), .int .i64 2, .int .i64 (-1)]), (.str [45, 45, 57, 57, 57, 57], .agg [.int .i64 (-1), .int .i64 2, .int .i64 4]), (.str [45, 45, 45, 57, 57], .agg [.int .i64 (-1), .int .i64 (-1), .int .i64 3])], .cells x.2 (some 122) [.int .i64 (dL x.1 0), .int .i64 (dL x.1 1), .int .i64 (dL x.1 2)]]) (fun x => x.1 = dIx s) ?_ fun x hx => ?_
  · refine xw ?_
    repeat' (first | exact Le.n | refine Lc.mk ?_ ?_)
    all_goals intros
    all_goals first
      | exact cy (0, _) (dIx_map0 (by assumption))
      | exact cy (1, _) (dIx_map 1 (by decide) (by assumption))
      | exact cy (2, _) (dIx_map 2 (by decide) (by assumption))
      | exact cy (3, _) (dIx_map 3 (by decide) (by assumption))
      | exact cy (4, _) (dIx_map 4 (by decide) (by assumption))
      | exact cy (5, _) (dIx_map 5 (by decide) (by assumption))
      | exact cy (6, _) (dIx_map 6 (by decide) (by assumption))
      | exact cy (7, _) (dIx_miss (by assumption) (by assumption) (by assumption) (by assumption) (by assumption) (by assumption) (by assumption))
  obtain ⟨k, b6⟩ := x
  obtain rfl : k = dIx s := hx
  dsimp only
  rcases dIx_cases s with ⟨h7, -⟩ | ⟨k, hk, hk2, hk3⟩
  · rw [h7]
    exact aw_code hC hGL xw0
  have n0 := date_num (G := G) hk hk3 0 (by decide)
  have n1 := date_num (G := G) hk hk3 1 (by decide)
  have n2 := date_num (G := G) hk hk3 2 (by decide)
  rw [hk2]
  have e7 : decide (k ≠ 7) = true := decide_eq_true (by omega)
  rw [e7]
  rw [show dY k s = dV k s 0 from rfl]
  rw [show dM k s = dV k s 1 from rfl]
  rw [show dD k s = dV k s 2 from rfl]
  generalize dL k 0 = l0 at *
  generalize dL k 1 = l1 at *
  generalize dL k 2 = l2 at *
  generalize dV k s 0 = v0 at *
  generalize dV k s 1 = v1 at *
  generalize dV k s 2 = v2 at *
  rw [show dW 0 = 4 from rfl] at n0
  rw [show dW 1 = 2 from rfl] at n1
  rw [show dW 2 = 2 from rfl] at n2
  refine aw_code hC hGL (xn1 ?_)
  intros
  refine dw_pp mixed hC hGL false (fun _ _ => False) (fun (_ : Unit) => [(0, .str s), (6, .own 2 (pS b6)), (37, .list 1 3 (partElem [(0, pF b 0), (1, pF b 1), (2, pF b 2)])), (38, .int .i64 3), (39, .int .i64 0)]) (fun _ => [stC b (-1) (-1) (-1) h i c z o, .mp bm [(.str [], .agg [.int .i64 (-1), .int .i64 (-1), .int .i64 (-1)]), (.str [57, 57, 57, 57], .agg [.int .i64 0, .int .i64 (-1), .int .i64 (-1)]), (.str [57, 57, 57, 57, 45, 57, 57], .agg [.int .i64 0, .int .i64 5, .int .i64 (-1)]), (.str [57, 57, 57, 57, 57, 57, 57, 57], .agg [.int .i64 0, .int .i64 4, .int .i64 6]), (.str [45, 45, 57, 57], .agg [.int .i64 (-1), .int .i64 2, .int .i64 (-1)]), (.str [45, 45, 57, 57, 57, 57], .agg [.int .i64 (-1), .int .i64 2, .int .i64 4]), (.str [45, 45, 45, 57, 57], .agg [.int .i64 (-1), .int .i64 (-1), .int .i64 3])], .cells b6 (some 122) [.int .i64 l0, .int .i64 l1, .int .i64 l2]]) (.take 0 (.take 1 (.take 2 (.take 3 (.take 4 (.take 5 (.take 6 (.take 7 (.take 8 (.take 11 (.br 9 (.take 10 (.done)) (.nil)))))))))))) (by kernel_rfl) ?_ ?_ (fun _ _ h => h.elim)
  · refine xn ?_
    repeat' (first | exact Le.n | refine Lc.mk ?_ ?_)
    all_goals intros
    all_goals (exact ⟨(), env_w, sub_w⟩)
  intro _
  refine xn1 ?_
  refine lp_to (to_trans (to_sealc (i := 2) (k := 6) rfl rfl) (to_sub (e' := [(0, .str s), (6, .rop [.int .i64 l0, .int .i64 l1, .int .i64 l2] 0), (37, .list 1 3 (partElem [(0, pF b 0), (1, pF b 1), (2, pF b 2)])), (38, .int .i64 3), (39, .int .i64 0)]) (h' := [stC b (-1) (-1) (-1) h i c z o]) env_w (List.Sublist.cons_cons _ (List.nil_sublist _)))) ?_
  refine lp hC hGL (fun r : Nat => [(0, .str s), (6, .rop [.int .i64 l0, .int .i64 l1, .int .i64 l2] 0), (37, .list 1 3 (partElem [(0, pF b 0), (1, pF b 1), (2, pF b 2)])), (38, .int .i64 3), (39, .int .i64 (r : Nat))]) (fun r => [stC b (got v0 0 r) (got v1 1 r) (got v2 2 r) h i c z o]) (fun r => r ≤ 3) (fun r => 3 - r) 0 (by decide) env_w (by simp only [got_0]) ?_
  intro r hr
  rcases (show r = 0 ∨ r = 1 ∨ r = 2 ∨ r = 3 by omega) with rfl | rfl | rfl | rfl
  · rcases n0 with ⟨g1, g2⟩ | ⟨g1, g2, g3, g4, g5⟩
    · refine xw1 ?_
      intros
      refine nxt 1 (by decide) (by decide) env_w ?_
      simp [got, g2]
    · refine xn1 ?_
      intros
      refine dw_pp mixed hC hGL false (fun _ _ => False) (fun (_ : Unit) => [(0, .str s), (6, .rop [.int .i64 l0, .int .i64 l1, .int .i64 l2] 0), (37, .list 1 3 (partElem [(0, pF b 0), (1, pF b 1), (2, pF b 2)])), (38, .int .i64 3), (39, .int .i64 (0 : Nat)), (8, .int .i64 (0 : Nat))]) (fun _ => [stC b (got v0 0 1) (got v1 1 1) (got v2 2 1) h i c z o]) (.take 0 (.take 1 (.take 2 (.take 3 (.take 4 (.take 5 (.take 6 (.take 7 (.take 12 (.take 13 (.br 8 (.br 9 (.br 10 (.take 11 (.br 14 (.take 15 (.take 16 (.br 17 (.take 18 (.take 19 (.take 20 (.take 21 (.br 22 (.done) (.nil)))))) (.nil)))) (.nil))) (.nil)) (.br 10 (.br 9 (.take 11 (.br 14 (.take 15 (.take 16 (.br 17 (.take 18 (.take 19 (.take 20 (.take 21 (.br 22 (.done) (.nil)))))) (.nil)))) (.nil))) (.nil)) (.nil))) (.nil)))))))))))) (by kernel_rfl) ?_ ?_ (fun _ _ h => h.elim)
      · refine xn ?_
        repeat' (first | exact Le.n | refine Lc.mk ?_ ?_)
        all_goals intros
        all_goals (exact ⟨(), env_w, sub_w⟩)
      · intro _
        refine xw1 ?_
        intros
        exact nxt 1 (by decide) (by decide) env_w rfl
  · rcases n1 with ⟨g1, g2⟩ | ⟨g1, g2, g3, g4, g5⟩
    · refine xw1 ?_
      intros
      refine nxt 2 (by decide) (by decide) env_w ?_
      simp [got, g2]
    · refine xn1 ?_
      intros
      refine dw_pp mixed hC hGL false (fun _ _ => False) (fun (_ : Unit) => [(0, .str s), (6, .rop [.int .i64 l0, .int .i64 l1, .int .i64 l2] 0), (37, .list 1 3 (partElem [(0, pF b 0), (1, pF b 1), (2, pF b 2)])), (38, .int .i64 3), (39, .int .i64 (1 : Nat)), (8, .int .i64 (1 : Nat))]) (fun _ => [stC b (got v0 0 2) (got v1 1 2) (got v2 2 2) h i c z o]) (.take 0 (.take 1 (.take 2 (.take 3 (.take 4 (.take 5 (.take 6 (.take 7 (.take 12 (.take 13 (.br 8 (.br 9 (.br 10 (.take 11 (.br 14 (.take 15 (.take 16 (.br 17 (.take 18 (.take 19 (.take 20 (.take 21 (.br 22 (.done) (.nil)))))) (.nil)))) (.nil))) (.nil)) (.br 10 (.br 9 (.take 11 (.br 14 (.take 15 (.take 16 (.br 17 (.take 18 (.take 19 (.take 20 (.take 21 (.br 22 (.done) (.nil)))))) (.nil)))) (.nil))) (.nil)) (.nil))) (.nil)))))))))))) (by kernel_rfl) ?_ ?_ (fun _ _ h => h.elim)
      · refine xn ?_
        repeat' (first | exact Le.n | refine Lc.mk ?_ ?_)
        all_goals intros
        all_goals (exact ⟨(), env_w, sub_w⟩)
      · intro _
        refine xw1 ?_
        intros
        exact nxt 2 (by decide) (by decide) env_w rfl
  · rcases n2 with ⟨g1, g2⟩ | ⟨g1, g2, g3, g4, g5⟩
    · refine xw1 ?_
      intros
      refine nxt 3 (by decide) (by decide) env_w ?_
      simp [got, g2]
    · refine xn1 ?_
      intros
      refine dw_pp mixed hC hGL false (fun _ _ => False) (fun (_ : Unit) => [(0, .str s), (6, .rop [.int .i64 l0, .int .i64 l1, .int .i64 l2] 0), (37, .list 1 3 (partElem [(0, pF b 0), (1, pF b 1), (2, pF b 2)])), (38, .int .i64 3), (39, .int .i64 (2 : Nat)), (8, .int .i64 (2 : Nat))]) (fun _ => [stC b (got v0 0 3) (got v1 1 3) (got v2 2 3) h i c z o]) (.take 0 (.take 1 (.take 2 (.take 3 (.take 4 (.take 5 (.take 6 (.take 7 (.take 12 (.take 13 (.br 8 (.br 9 (.br 10 (.take 11 (.br 14 (.take 15 (.take 16 (.br 17 (.take 18 (.take 19 (.take 20 (.take 21 (.br 22 (.done) (.nil)))))) (.nil)))) (.nil))) (.nil)) (.br 10 (.br 9 (.take 11 (.br 14 (.take 15 (.take 16 (.br 17 (.take 18 (.take 19 (.take 20 (.take 21 (.br 22 (.done) (.nil)))))) (.nil)))) (.nil))) (.nil)) (.nil))) (.nil)))))))))))) (by kernel_rfl) ?_ ?_ (fun _ _ h => h.elim)
      · refine xn ?_
        repeat' (first | exact Le.n | refine Lc.mk ?_ ?_)
        all_goals intros
        all_goals (exact ⟨(), env_w, sub_w⟩)
      · intro _
        refine xw1 ?_
        intros
        exact nxt 3 (by decide) (by decide) env_w rfl
  · exact xw0
theorem when_clock {G : Glo} (hU : GloAll G utfTy) (b : Nat) (s : List UInt8) (hl : s.length ≤ 1000000) (y m d : Int) (z : Bool) (o : Int) : FnSpec Tryz.prog G 53 [.str s, .raw (pS b)] [stC b y m d (-1) (-1) (-1) z o]
    (fun r H => r = .ret (.bool (decide (cIx s ≠ 7))) ∧ H = [stC b y m d (cH (cIx s) s) (cI (cIx s) s) (cS (cIx s) s) z o]) := by
  have k0 := when_shape (G := G) hU s hl
  have hGL : GloAll G [] := gloAll_nil
  refine fn_own [(1, 0, pS b)] Tryz.func53 Tryz.call53 rfl rfl rfl rfl (by repeat (first | exact trivial | refine And.intro ⟨rfl, rfl⟩ ?_)) ?_
  intro C hC
  refine cut hC hGL [(0, .str s), (1, .own 0 (pS b))] [stC b y m d (-1) (-1) (-1) z o] True xw0 fun _ => ?_
  refine cuty hC hGL (X := Nat) (fun bm => [(0, .str s), (1, .own 0 (pS b)), (5, .own 1 (.map (some bm)))]) (fun bm => [stC b y m d (-1) (-1) (-1) z o, .mp bm [(.str [57, 57], .agg [.int .i64 0, .int .i64 (-1), .int .i64 (-1)]), (.str [57, 57, 57, 57], .agg [.int .i64 0, .int .i64 2, .int .i64 (-1)]), (.str [57, 57, 57, 57, 57, 57], .agg [.int .i64 0, .int .i64 2, .int .i64 4]), (.str [45, 57, 57], .agg [.int .i64 (-1), .int .i64 1, .int .i64 (-1)]), (.str [45, 57, 57, 57, 57], .agg [.int .i64 (-1), .int .i64 1, .int .i64 3]), (.str [45, 45, 57, 57], .agg [.int .i64 (-1), .int .i64 (-1), .int .i64 2])]]) (fun _ => True) ?_ fun bm _ => ?_
  · refine xw1 ?_
    intro bm
    intros
    exact cy bm trivial
  refine cuty hC hGL (X := Nat × Nat) (fun x => [(0, .str s), (1, .own 0 (pS b)), (6, .own 2 (pS x.2)), (7, .bool (decide (x.1 ≠ 7)))]) (fun x => [stC b y m d (-1) (-1) (-1) z o, .mp bm [(.str [57, 57], .agg [.int .i64 0, .int .i64 (-1), .int .i64 (-1)]), (.str [57, 57, 57, 57], .agg [.int .i64 0, .int .i64 2, .int .i64 (-1)]), (.str [57, 57, 57, 57, 57, 57], .agg [.int .i64 0, .int .i64 2, .int .i64 4]), (.str [45, 57, 57], .agg [.int .i64 (-1), .int .i64 1, .int .i64 (-1)]), (.str [45, 57, 57, 57, 57], .agg [.int .i64 (-1), .int .i64 1, .int .i64 3]), (.str [45, 45, 57, 57], .agg [.int .i64 (-1), .int .i64 (-1), .int .i64 2])], .cells x.2 (some 122) [.int .i64 (cL x.1 0), .int .i64 (cL x.1 1), .int .i64 (cL x.1 2)]]) (fun x => x.1 = cIx s) ?_ fun x hx => ?_
  · refine xw ?_
    repeat' (first | exact Le.n | refine Lc.mk ?_ ?_)
    all_goals intros
    all_goals first
      | exact cy (1, _) (cIx_map 1 (by decide) (by decide) (by assumption))
      | exact cy (2, _) (cIx_map 2 (by decide) (by decide) (by assumption))
      | exact cy (3, _) (cIx_map 3 (by decide) (by decide) (by assumption))
      | exact cy (4, _) (cIx_map 4 (by decide) (by decide) (by assumption))
      | exact cy (5, _) (cIx_map 5 (by decide) (by decide) (by assumption))
      | exact cy (6, _) (cIx_map 6 (by decide) (by decide) (by assumption))
      | exact cy (7, _) (cIx_miss (by assumption) (by assumption) (by assumption) (by assumption) (by assumption) (by assumption))
  obtain ⟨k, b6⟩ := x
  obtain rfl : k = cIx s := hx
  dsimp only
  rcases cIx_cases s with ⟨h7, -⟩ | ⟨k, hk1, hk, hk2, hk3⟩
  · rw [h7]
    exact aw_code hC hGL xw0
  have n0 := clock_num (G := G) hk1 hk hk3 0 (by decide)
  have n1 := clock_num (G := G) hk1 hk hk3 1 (by decide)
  have n2 := clock_num (G := G) hk1 hk hk3 2 (by decide)
  rw [hk2]
  have e7 : decide (k ≠ 7) = true := decide_eq_true (by omega)
  rw [e7]
  rw [show cH k s = cV k s 0 from rfl]
  rw [show cI k s = cV k s 1 from rfl]
  rw [show cS k s = cV k s 2 from rfl]
  generalize cL k 0 = l0 at *
  generalize cL k 1 = l1 at *
  generalize cL k 2 = l2 at *
  generalize cV k s 0 = v0 at *
  generalize cV k s 1 = v1 at *
  generalize cV k s 2 = v2 at *
  refine aw_code hC hGL (xn1 ?_)
  intros
  refine dw_pp mixed hC hGL false (fun _ _ => False) (fun (_ : Unit) => [(0, .str s), (6, .own 2 (pS b6)), (36, .list 1 3 (partElem [(0, pF b 3), (1, pF b 4), (2, pF b 5)])), (37, .int .i64 3), (38, .int .i64 0)]) (fun _ => [stC b y m d (-1) (-1) (-1) z o, .mp bm [(.str [57, 57], .agg [.int .i64 0, .int .i64 (-1), .int .i64 (-1)]), (.str [57, 57, 57, 57], .agg [.int .i64 0, .int .i64 2, .int .i64 (-1)]), (.str [57, 57, 57, 57, 57, 57], .agg [.int .i64 0, .int .i64 2, .int .i64 4]), (.str [45, 57, 57], .agg [.int .i64 (-1), .int .i64 1, .int .i64 (-1)]), (.str [45, 57, 57, 57, 57], .agg [.int .i64 (-1), .int .i64 1, .int .i64 3]), (.str [45, 45, 57, 57], .agg [.int .i64 (-1), .int .i64 (-1), .int .i64 2])], .cells b6 (some 122) [.int .i64 l0, .int .i64 l1, .int .i64 l2]]) (.take 0 (.take 1 (.take 2 (.take 3 (.take 4 (.take 5 (.take 6 (.take 7 (.take 8 (.take 11 (.br 9 (.take 10 (.done)) (.nil)))))))))))) (by kernel_rfl) ?_ ?_ (fun _ _ h => h.elim)
  · refine xn ?_
    repeat' (first | exact Le.n | refine Lc.mk ?_ ?_)
    all_goals intros
    all_goals (exact ⟨(), env_w, sub_w⟩)
  intro _
  refine xn1 ?_
  refine lp_to (to_trans (to_sealc (i := 2) (k := 6) rfl rfl) (to_sub (e' := [(0, .str s), (6, .rop [.int .i64 l0, .int .i64 l1, .int .i64 l2] 0), (36, .list 1 3 (partElem [(0, pF b 3), (1, pF b 4), (2, pF b 5)])), (37, .int .i64 3), (38, .int .i64 0)]) (h' := [stC b y m d (-1) (-1) (-1) z o]) env_w (List.Sublist.cons_cons _ (List.nil_sublist _)))) ?_
  refine lp hC hGL (fun r : Nat => [(0, .str s), (6, .rop [.int .i64 l0, .int .i64 l1, .int .i64 l2] 0), (36, .list 1 3 (partElem [(0, pF b 3), (1, pF b 4), (2, pF b 5)])), (37, .int .i64 3), (38, .int .i64 (r : Nat))]) (fun r => [stC b y m d (got v0 0 r) (got v1 1 r) (got v2 2 r) z o]) (fun r => r ≤ 3) (fun r => 3 - r) 0 (by decide) env_w (by simp only [got_0]) ?_
  intro r hr
  rcases (show r = 0 ∨ r = 1 ∨ r = 2 ∨ r = 3 by omega) with rfl | rfl | rfl | rfl
  · rcases n0 with ⟨g1, g2⟩ | ⟨g1, g2, g3, g4, g5⟩
    · refine xw1 ?_
      intros
      refine nxt 1 (by decide) (by decide) env_w ?_
      simp [got, g2]
    · refine xn1 ?_
      intros
      refine dw_pp mixed hC hGL false (fun _ _ => False) (fun (_ : Unit) => [(0, .str s), (6, .rop [.int .i64 l0, .int .i64 l1, .int .i64 l2] 0), (36, .list 1 3 (partElem [(0, pF b 3), (1, pF b 4), (2, pF b 5)])), (37, .int .i64 3), (38, .int .i64 (0 : Nat)), (8, .int .i64 (0 : Nat))]) (fun _ => [stC b y m d (got v0 0 1) (got v1 1 1) (got v2 2 1) z o]) (.take 0 (.take 1 (.take 2 (.take 3 (.take 4 (.take 5 (.take 6 (.take 7 (.take 8 (.take 9 (.br 10 (.take 11 (.take 12 (.take 13 (.take 14 (.br 15 (.done) (.nil)))))) (.nil)))))))))))) (by kernel_rfl) ?_ ?_ (fun _ _ h => h.elim)
      · refine xn ?_
        repeat' (first | exact Le.n | refine Lc.mk ?_ ?_)
        all_goals intros
        all_goals (exact ⟨(), env_w, sub_w⟩)
      · intro _
        refine xw1 ?_
        intros
        exact nxt 1 (by decide) (by decide) env_w rfl
  · rcases n1 with ⟨g1, g2⟩ | ⟨g1, g2, g3, g4, g5⟩
    · refine xw1 ?_
      intros
      refine nxt 2 (by decide) (by decide) env_w ?_
      simp [got, g2]
    · refine xn1 ?_
      intros
      refine dw_pp mixed hC hGL false (fun _ _ => False) (fun (_ : Unit) => [(0, .str s), (6, .rop [.int .i64 l0, .int .i64 l1, .int .i64 l2] 0), (36, .list 1 3 (partElem [(0, pF b 3), (1, pF b 4), (2, pF b 5)])), (37, .int .i64 3), (38, .int .i64 (1 : Nat)), (8, .int .i64 (1 : Nat))]) (fun _ => [stC b y m d (got v0 0 2) (got v1 1 2) (got v2 2 2) z o]) (.take 0 (.take 1 (.take 2 (.take 3 (.take 4 (.take 5 (.take 6 (.take 7 (.take 8 (.take 9 (.br 10 (.take 11 (.take 12 (.take 13 (.take 14 (.br 15 (.done) (.nil)))))) (.nil)))))))))))) (by kernel_rfl) ?_ ?_ (fun _ _ h => h.elim)
      · refine xn ?_
        repeat' (first | exact Le.n | refine Lc.mk ?_ ?_)
        all_goals intros
        all_goals (exact ⟨(), env_w, sub_w⟩)
      · intro _
        refine xw1 ?_
        intros
        exact nxt 2 (by decide) (by decide) env_w rfl
  · rcases n2 with ⟨g1, g2⟩ | ⟨g1, g2, g3, g4, g5⟩
    · refine xw1 ?_
      intros
      refine nxt 3 (by decide) (by decide) env_w ?_
      simp [got, g2]
    · refine xn1 ?_
      intros
      refine dw_pp mixed hC hGL false (fun _ _ => False) (fun (_ : Unit) => [(0, .str s), (6, .rop [.int .i64 l0, .int .i64 l1, .int .i64 l2] 0), (36, .list 1 3 (partElem [(0, pF b 3), (1, pF b 4), (2, pF b 5)])), (37, .int .i64 3), (38, .int .i64 (2 : Nat)), (8, .int .i64 (2 : Nat))]) (fun _ => [stC b y m d (got v0 0 3) (got v1 1 3) (got v2 2 3) z o]) (.take 0 (.take 1 (.take 2 (.take 3 (.take 4 (.take 5 (.take 6 (.take 7 (.take 8 (.take 9 (.br 10 (.take 11 (.take 12 (.take 13 (.take 14 (.br 15 (.done) (.nil)))))) (.nil)))))))))))) (by kernel_rfl) ?_ ?_ (fun _ _ h => h.elim)
      · refine xn ?_
        repeat' (first | exact Le.n | refine Lc.mk ?_ ?_)
        all_goals intros
        all_goals (exact ⟨(), env_w, sub_w⟩)
      · intro _
        refine xw1 ?_
        intros
        exact nxt 3 (by decide) (by decide) env_w rfl
  · exact xw0
end Go.Proofs.YtidcpikoeohfbaaGreatDoor
namespace Go.Proofs.YtidcpikoeohfbaaGreatDoor
open Go Go.RowKit
theorem E_cases (t : Stm) : (t.E = .none ∧ t.e = 0) ∨ ∃ x, x ≠ 0 ∧ t.E = .errno x ∧ t.e = x := by
  unfold Stm.E Stm.e
  (repeat' split)
  · exact .inl ⟨rfl, rfl⟩
  · exact .inr ⟨2, by decide, rfl, rfl⟩
  · exact .inr ⟨3, by decide, rfl, rfl⟩
theorem fin_0 {t : Stm} (h : t.e = 0) : finP t = (t, .none) := by unfold finP; rw [if_pos h]
theorem fin_x {t : Stm} {x : Int} (h : t.e = x) (hx : x ≠ 0) : finP t = (Stm.no, .errno x) := by unfold finP; rw [if_neg (by rw [h]; exact hx), h]
theorem cutB_no {s : List UInt8} {c : Int} (h : (cutB s c).2.2 = false) : (cutB s c).2.1 = [] := by
  unfold cutB at *
  split
  · rfl
  · rename_i h1
    rw [if_neg h1] at h
    cases h
theorem cutB_len (s : List UInt8) (c : Int) : (cutB s c).1.length ≤ s.length ∧ (cutB s c).2.1.length ≤ s.length := by
  unfold cutB
  split
  · simp
  · simp only [List.length_take, List.length_drop]; omega
theorem whR_7 {d t : List UInt8} {b : Bool} (h : dIx d = 7) : whR d b t = (Stm.no, .errno 3) := by unfold whR; rw [if_pos h]
theorem whR_u {d t : List UInt8} (h : dIx d ≠ 7) : whR d false t = finP (whS (dIx d) d 0 [] []) := by unfold whR; rw [if_neg h, if_pos rfl]
theorem whR_0 {d t : List UInt8} (h : dIx d ≠ 7) (h0 : splJ t = 0) : whR d true t = (Stm.no, .errno 3) := by unfold whR; rw [if_neg h, if_neg (by decide), if_pos h0]
theorem splJ_nil : splJ [] = 0 := by
  refine Decidable.byContradiction fun h => ?_
  have g := splJ_sp h
  have h1 := g.hn
  have h2 := (clk_len g.j1 g.j6).1
  rw [← g.len] at h2
  simp at h1
  omega
theorem whR_bad {d t : List UInt8} {k : Nat} (h : dIx d ≠ 7) (hk : KAt t k) (hc : cIx (t.take k) = 7) : whR d true t = (Stm.no, .errno 3) := by
  have hn : ∀ j, 1 ≤ j → j ≤ 6 → shpS (t.take k) ≠ clkF j := fun j h1 h6 e => by
    rw [cIx_of h1 h6 e] at hc
    omega
  rcases spl_none hk hn with h0 | ⟨h0, h1, h2⟩
  · exact whR_0 h h0
  · unfold whR
    rw [if_neg h, if_neg (by decide), if_neg h0, if_pos ⟨fun e => by have := congrArg List.length e; rw [List.length_drop, List.length_nil] at this; omega, by rw [h2]; decide⟩, h2]
theorem whR_z {d t : List UInt8} {k j : Nat} (h : dIx d ≠ 7) (hk : KAt t k) (h1 : 1 ≤ j) (h6 : j ≤ 6) (hs : shpS (t.take k) = clkF j) (hl : k < t.length) (hz : (zoneV (t.drop k)).2 ≠ 0) : whR d true t = (Stm.no, .errno (zoneV (t.drop k)).2) := by
  obtain ⟨e1, e2⟩ := spl_some hk h1 h6 hs
  unfold whR
  rw [if_neg h, if_neg (by decide), if_neg (by omega), e2, if_pos ⟨fun e => by have := congrArg List.length e; rw [List.length_drop, List.length_nil] at this; omega, hz⟩]
theorem whR_ok {d t : List UInt8} {k j : Nat} (h : dIx d ≠ 7) (hk : KAt t k) (h1 : 1 ≤ j) (h6 : j ≤ 6) (hs : shpS (t.take k) = clkF j) (hz : k < t.length → (zoneV (t.drop k)).2 = 0) : whR d true t = finP (whS (dIx d) d j (t.take k) (t.drop k)) := by
  obtain ⟨e1, e2⟩ := spl_some hk h1 h6 hs
  unfold whR
  rw [if_neg h, if_neg (by decide), if_neg (by omega), e1, e2, if_neg]
  rintro ⟨g1, g2⟩
  rcases Nat.lt_or_ge k t.length with g | g
  · exact g2 (hz g)
  · exact g1 (List.drop_eq_nil_of_le g)
theorem whS_zone {i j : Nat} {d c z : List UInt8} (h : z ≠ []) : whS i d j c z = ⟨dY i d, dM i d, dD i d, cH j c, cI j c, cS j c, true, (zoneV z).1⟩ := by
  unfold whS
  rw [if_neg h, decide_eq_true h]
theorem whS_none {i j : Nat} {d c : List UInt8} : whS i d j c [] = ⟨dY i d, dM i d, dD i d, cH j c, cI j c, cS j c, false, 0⟩ := rfl
theorem zone_cases (z : List UInt8) : (zoneX z = .none ∧ (zoneV z).2 = 0) ∨ ∃ e, e ≠ 0 ∧ zoneX z = .errno e ∧ (zoneV z).2 = e := by
  unfold zoneX
  by_cases h : (zoneV z).2 = 0
  · rw [if_pos h]; exact .inl ⟨rfl, h⟩
  · rw [if_neg h]; exact .inr ⟨_, h, rfl, rfl⟩
/-- Where the program takes the zone to begin. -/
def zAt (t : List UInt8) : Int := if 0 ≤ Lib.indexAny t [90, 43] then Lib.indexAny t [90, 43] else if 2 ≤ lastI t 45 t.length then lastI t 45 t.length else t.length
theorem indexAny_cases (t : List UInt8) : (Lib.indexAny t [90, 43] = -1 ∧ ∀ j, j < t.length → byteAt t j ≠ 90 ∧ byteAt t j ≠ 43) ∨ ∃ m, m < t.length ∧ Lib.indexAny t [90, 43] = (m : Int) ∧ (byteAt t m = 90 ∨ byteAt t m = 43) ∧ ∀ j, j < m → byteAt t j ≠ 90 ∧ byteAt t j ≠ 43 := by
  have key : ∀ j (hj : j < t.length), ([90, 43] : List UInt8).contains t[j] = true ↔ (byteAt t j = 90 ∨ byteAt t j = 43) := by
    intro j hj
    rw [byteAt_getElem hj, List.contains_iff_mem]
    simp only [List.mem_cons, List.not_mem_nil, or_false]
    constructor
    · rintro (h | h) <;> rw [h]
      · exact .inl rfl
      · exact .inr rfl
    · rintro (h | h)
      · exact .inl (UInt8.toNat_inj.1 h)
      · exact .inr (UInt8.toNat_inj.1 h)
  by_cases h : ∃ m, m < t.length ∧ (byteAt t m = 90 ∨ byteAt t m = 43) ∧ ∀ j, j < m → byteAt t j ≠ 90 ∧ byteAt t j ≠ 43
  · obtain ⟨m, h1, h2, h3⟩ := h
    refine .inr ⟨m, h1, ?_, h2, h3⟩
    refine Lib.indexAny_hit (fun j x hj hx => ?_) (List.getElem?_eq_getElem h1) ((key m h1).2 h2)
    obtain ⟨hj', rfl⟩ := List.getElem?_eq_some_iff.1 hx
    rw [Bool.eq_false_iff]
    intro hc
    have := (key j hj').1 hc
    have := h3 j hj
    omega
  · have hn : ∀ n, n ≤ t.length → ∀ j, j < n → byteAt t j ≠ 90 ∧ byteAt t j ≠ 43 := by
      intro n
      induction n with
      | zero => intro _ j hj; omega
      | succ n ih =>
        intro hl j hj
        rcases Nat.lt_or_ge j n with g | g
        · exact ih (by omega) j g
        · refine Decidable.byContradiction fun hc => h ⟨n, by omega, ?_, ih (by omega)⟩
          rw [show j = n by omega] at hc
          omega
    refine .inl ⟨Lib.indexAny_none fun j x hj hx => ?_, hn _ (Nat.le_refl _)⟩
    obtain ⟨hj', rfl⟩ := List.getElem?_eq_some_iff.1 hx
    rw [Bool.eq_false_iff]
    intro hc
    have := (key j hj').1 hc
    have := hn _ (Nat.le_refl _) j hj'
    omega
theorem zAt_k (t : List UInt8) : ∃ k : Nat, zAt t = k ∧ KAt t k := by
  unfold zAt KAt
  rcases indexAny_cases t with ⟨h1, h2⟩ | ⟨m, h1, h2, h3, h4⟩
  · rw [h1, if_neg (by decide)]
    rcases lastI_cases t 45 t.length with ⟨g1, g2⟩ | ⟨m, g1, g2, g3, g4⟩
    · rw [g1, if_neg (by decide)]
      exact ⟨_, rfl, .inr ⟨h2, .inr ⟨rfl, fun j _ hj => by have := g2 j hj; omega⟩⟩⟩
    · rw [g2]
      split
      · exact ⟨m, rfl, .inr ⟨h2, .inl ⟨g1, by omega, by omega, fun j k1 k2 => by have := g4 j k1 k2; omega⟩⟩⟩
      · exact ⟨_, rfl, .inr ⟨h2, .inr ⟨rfl, fun j k1 k2 => by have := g4 j (by omega) k2; omega⟩⟩⟩
  · rw [h2, if_pos (by omega)]
    exact ⟨m, rfl, .inl ⟨h1, h3, h4⟩⟩
set_option maxRecDepth 20000
set_option maxHeartbeats 4000000
set_option linter.unusedSimpArgs false
set_option linter.unusedVariables false
attribute [local irreducible] AWp AOps byteAt SrcOK OrOk GloAll FnSpec
attribute [local irreducible] shpS nineI dIx cIx whR whS finP cutB zoneV zoneX lastI KAt
attribute [local irreducible] Lib.indexAny
theorem when_Parse {G : Glo} {m : Int} (hU : GloAll G utfTy) (hM : GloAll G (maxTy m)) (s : List UInt8) (hl : s.length ≤ 10000) : FnIs Tryz.prog G 24 [.str s] (.tuple [(whP s).1.A, (whP s).2.A]) := by
  have k1 : FnIs Tryz.prog G 49 [.str s, .str [84]] (.tuple [.str (cutB s 84).1, .str (cutB s 84).2.1, .bool (cutB s 84).2.2]) := strings_Cut_one s 84 (by omega)
  have hn := cutB_no (s := s) (c := 84)
  have hlen := cutB_len s 84
  unfold whP
  generalize (cutB s 84).1 = d at *
  generalize (cutB s 84).2.1 = t at *
  generalize (cutB s 84).2.2 = timed at *
  have hD := fun b => when_date (G := G) hU b d (by omega) (-1) (-1) (-1) false 0
  have hR := fun u => when_Right (G := G) hM u
  have k2 := indexAny_two (G := G) (a := 90) (b := 43) (by decide) (by decide) t (by omega)
  have k3 := strings_LastIndexByte (G := G) t 45 (by decide) (by decide) (by omega)
  have hZ := fun x h => zone_Parse (G := G) x h
  have hC4 := fun b x h => when_clock (G := G) hU b x h (dY (dIx d) d) (dM (dIx d) d) (dD (dIx d) d) false 0
  have hGL : GloAll G [] := gloAll_nil
  refine fn_a Tryz.func24 Tryz.call24 rfl rfl rfl rfl ?_
  intro C hC
  refine cuty hC hGL (fun b2 : Nat => [(0, .str s), (2, .own 0 (pS b2))]) (fun b2 => [stC b2 0 0 0 0 0 0 false 0]) (fun _ => True) ?_ fun b2 _ => ?_
  · refine xw1 ?_
    intro b2
    exact cy b2 trivial
  refine cuty hC hGL (fun b4 : Nat => [(0, .str s), (2, .own 0 (pS b2)), (4, .own 1 (pS b4))]) (fun b4 => [stC b2 0 0 0 0 0 0 false 0, stC b4 (-1) (-1) (-1) (-1) (-1) (-1) false 0]) (fun _ => True) ?_ fun b4 _ => ?_
  · refine xw1 ?_
    intro b4
    exact cy b4 trivial
  refine cut hC hGL [(2, .own 0 (pS b2)), (4, .own 1 (pS b4)), (5, .str d), (6, .str t), (7, .bool timed)] [stC b2 0 0 0 0 0 0 false 0, stC b4 (-1) (-1) (-1) (-1) (-1) (-1) false 0] True xw0 fun _ => ?_
  refine cut hC hGL [(2, .own 0 (pS b2)), (4, .own 1 (pS b4)), (6, .str t), (7, .bool timed)] [stC b2 0 0 0 0 0 0 false 0, stC b4 (dY (dIx d) d) (dM (dIx d) d) (dD (dIx d) d) (-1) (-1) (-1) false 0] (dIx d ≠ 7 ∧ (timed = true → t ≠ [])) ?_ fun hd => ?_
  · refine xw1 ?_
    refine cx_do (i := 1) rfl (hD b4) ?_
    by_cases h7 : dIx d = 7
    · rw [whR_7 h7, h7]
      exact xw0
    · rw [show decide (dIx d ≠ 7) = true from decide_eq_true h7]
      cases timed with
      | false =>
        obtain rfl := hn rfl
        refine xw ?_
        repeat' (first | exact Le.n | refine Lc.mk ?_ ?_)
        all_goals intros
        all_goals first
          | (exfalso; rename_i wb; rw [seqB_t.2 rfl] at wb; cases wb; done)
          | exact ⟨h7, fun h => by cases h⟩
          | skip
      | true =>
        refine xw ?_
        repeat' (first | exact Le.n | refine Lc.mk ?_ ?_)
        all_goals intros
        all_goals first
          | (rename_i wb
             have e : t = [] := seqB_t.1 (by simpa using wb)
             subst e
             rw [whR_0 h7 splJ_nil]
             exact rt_w)
          | (rename_i wb
             exact ⟨h7, fun _ => seqB_f.1 (by simpa using wb)⟩)
          | skip
  obtain ⟨h7, ht⟩ := hd
  refine cuty hC hGL (fun _ : Stm => [(2, .own 0 (pS b2)), (4, .own 1 (pS b4))]) (fun u => [stC b2 0 0 0 0 0 0 false 0, stC b4 u.y u.m u.d u.h u.i u.s u.z u.o]) (fun u => whR d timed t = finP u) ?_ fun u hu => ?_
  · cases timed with
    | false =>
      refine xw1 ?_
      intros
      exact cy (whS (dIx d) d 0 [] []) (whR_u h7) env_w (by unfold whS; rfl)
    | true =>
      obtain ⟨k, hk, hI⟩ : ∃ k : Nat, KAt t k ∧ ((Lib.indexAny t [90, 43] = (k : Int)) ∨ (Lib.indexAny t [90, 43] = -1 ∧ lastI t 45 t.length = (k : Int) ∧ 2 ≤ k) ∨ (Lib.indexAny t [90, 43] = -1 ∧ lastI t 45 t.length < 2 ∧ k = t.length)) := by
        obtain ⟨k, h1, h2⟩ := zAt_k t
        refine ⟨k, h2, ?_⟩
        have g1 := Lib.indexAny_ge [90, 43] t
        unfold zAt at h1
        split at h1
        · exact .inl h1
        · split at h1
          · exact .inr (.inl ⟨by omega, h1, by omega⟩)
          · exact .inr (.inr ⟨by omega, by omega, by omega⟩)
      have hkl := kAt_le hk
      have hc := And.intro trivial (hC4 b4 (t.take k) (by rw [List.length_take]; omega))
      have hz := hZ (t.drop k) (by rw [List.length_drop]; omega)
      generalize Lib.indexAny t [90, 43] = ia at *
      generalize lastI t 45 t.length = ib at *
      have key : ∀ j, cIx (t.take k) = j → 1 ≤ j ∧ j ≤ 6 ∧ shpS (t.take k) = clkF j ∨ j = 7 := by
        rintro j rfl
        rcases cIx_cases (t.take k) with ⟨h, _⟩ | ⟨j, h1, h2, h3, h4⟩
        · exact .inr h
        · rw [h3]; exact .inl ⟨h1, h2, h4⟩
      generalize hj : cIx (t.take k) = j at *
      have hzc := zone_cases (t.drop k)
      have hdr : k < t.length → t.drop k ≠ [] := fun h e => by
        have := congrArg List.length e
        rw [List.length_drop, List.length_nil] at this
        omega
      rcases hI with rfl | ⟨rfl, rfl, hI⟩ | ⟨rfl, hI, hI2⟩
      all_goals (
        refine xw1 ?_
        intros
        try (have hI3 : (t.length : Int) = (k : Int) := by omega))
      all_goals (
        try (rw [← hI2])
        refine cx_do (i := 1) rfl hc.2 ?_
        rcases key j rfl with ⟨j1, j6, js⟩ | rfl)
      all_goals first
        | (rw [whR_bad h7 hk hj]
           exact xw0)
        | skip
      all_goals (
        rw [show decide (j ≠ 7) = true from decide_eq_true (by omega)]
        by_cases hkt : k < t.length
        · first
          | (exfalso; omega)
          | (have hdr := hdr hkt
             rcases hzc with ⟨z1, z2⟩ | ⟨e, e0, z1, z2⟩
             · rw [z1] at hz
               refine xw1 ?_
               intros
               exact cy ⟨dY (dIx d) d, dM (dIx d) d, dD (dIx d) d, cH j (t.take k), cI j (t.take k), cS j (t.take k), true, (zoneV (t.drop k)).1⟩ (by rw [whR_ok h7 hk j1 j6 js (fun _ => z2), whS_zone hdr])
             · rw [z1] at hz
               rw [whR_z h7 hk j1 j6 js hkt (by rw [z2]; exact e0), z2]
               exact xw0)
        · have hd0 : t.drop k = [] := List.drop_eq_nil_of_le (by omega)
          refine xw1 ?_
          intros
          exact cy ⟨dY (dIx d) d, dM (dIx d) d, dD (dIx d) d, cH j (t.take k), cI j (t.take k), cS j (t.take k), false, 0⟩ (by rw [whR_ok h7 hk j1 j6 js (fun h => absurd h hkt), hd0, whS_none]))
  have hu1 : whR d timed t = finP u := hu
  have hR1 : FnIs Tryz.prog G 54 [.agg [.int .i64 u.y, .int .i64 u.m, .int .i64 u.d, .int .i64 u.h, .int .i64 u.i, .int .i64 u.s, .bool u.z, .int .i64 u.o]] u.E.A := hR u
  rw [hu1]
  rcases E_cases u with ⟨e1, e2⟩ | ⟨x, x0, e1, e2⟩
  · rw [e1] at hR1
    rw [fin_0 e2]
    exact aw_code hC hGL xw0
  · rw [e1] at hR1
    rw [fin_x e2 x0]
    exact aw_code hC hGL xw0
end Go.Proofs.YtidcpikoeohfbaaGreatDoor
namespace Go.Proofs.YtidcpikoeohfbaaGreatDoor
open Go Go.RowKit
abbrev vNil : AVal := .raw (.slice none 0 0)
set_option maxRecDepth 20000
set_option maxHeartbeats 4000000
set_option linter.unusedSimpArgs false
set_option linter.unusedVariables false
attribute [local irreducible] AWp AOps byteAt SrcOK OrOk GloAll FnSpec
abbrev vlQ (v : Vl) (q : AVal) : AVal := .agg [.int .i64 v.t, .str v.s, q, .int .i64 v.st.y, .int .i64 v.st.m, .int .i64 v.st.d, .int .i64 v.st.h, .int .i64 v.st.i, .int .i64 v.st.s, .bool v.st.z, .int .i64 v.st.o, .int .i64 v.n]
attribute [local irreducible] hdC hdB badI unS lstS prtS errT uriE langX whP zoneV zoneX prtF lstA
def vrQ (s : List UInt8) (k : Int) (r : ARes) (H : Heap) : Prop :=
  (∃ q, r = .ret (.tuple [vlQ (vrV s k).1 q, (vrV s k).2.A]) ∧ H = [] ∧ ((q = vNil ∧ (vrV s k).1.L = []) ∨ (q = .list 1 (prtS s).length (prtF (prtS s)) ∧ (vrV s k).1.L = prtS s))) ∨
  (∃ g, r = .ret (.tuple [vlQ (vrV s k).1 (.list 1 1 g), .raw .nilIface]) ∧ g 0 = .list 1 (lstS s).length (strsF (lstS s)) ∧ (vrV s k).1.L = [lstS s] ∧ (vrV s k).2 = .none ∧ H = [])
theorem value_Read0 {G : Glo} {m : Int} (hU : GloAll G utfTy) (hM : GloAll G (maxTy m)) (s : List UInt8) (k : Int) (hl : s.length ≤ 3000) : FnSpec Tryz.prog G 5 [.str s, .int .i64 k] [] (vrQ s k) := by
  have hH := value_Holds (G := G) s false (by omega)
  have hGL : GloAll G [] := gloAll_nil
  refine fn_x Tryz.func5 Tryz.call5 rfl rfl rfl rfl hGL ?_
  intro C hC
  by_cases hk : k < 1 ∨ 9 ≤ k
  · have e : vrV s k = (Vl.no, .errno 1) := by unfold vrV; rw [if_pos hk]
    unfold vrQ
    rw [e]
    refine xw ?_
    repeat' (first | exact Le.n | refine Lc.mk ?_ ?_)
    all_goals intros
    all_goals exact ⟨[], List.nil_sublist _, .inl ⟨vNil, rfl, rfl, .inl ⟨rfl, rfl⟩⟩⟩
  cases hh : hdB false s with
  | false =>
    have e : vrV s k = (Vl.no, .errno 3) := by unfold vrV; rw [if_neg hk, if_pos hh]
    unfold vrQ
    rw [e]
    rw [hh] at hH
    refine xw ?_
    repeat' (first | exact Le.n | refine Lc.mk ?_ ?_)
    all_goals intros
    all_goals exact ⟨[], List.nil_sublist _, .inl ⟨vNil, rfl, rfl, .inl ⟨rfl, rfl⟩⟩⟩
  | true =>
    rw [hh] at hH
    have hv : vrV s k = (match (vrG s k).2 with | .none => vrG s k | e => (Vl.no, e)) := by unfold vrV; rw [if_neg hk, if_neg (by rw [hh]; decide)]; cases (vrG s k).2 <;> rfl
    have h1 := text_Unescape (G := G) s (by omega)
    have h2 := text_List (G := G) s (by omega)
    have h3 := text_Parts (G := G) s (by omega)
    have h4 := uri_Right (G := G) s (by omega)
    have h5 := when_Parse (G := G) hU hM s (by omega)
    have h6 := zone_Parse (G := G) s (by omega)
    have h7 := lang_Right (G := G) s (by omega)
    unfold vrQ
    rw [hv]
    rcases (show k = 1 ∨ k = 2 ∨ k = 3 ∨ k = 4 ∨ k = 5 ∨ k = 6 ∨ k = 7 ∨ k = 8 by omega) with rfl | rfl | rfl | rfl | rfl | rfl | rfl | rfl
    all_goals simp only [vrG, if_pos, if_neg, Int.reduceEq, reduceIte]
    · rcases hq : errT s 0 with _ | e | ⟨e, p⟩
      all_goals
        rw [hq] at h1
        simp only [Err.A, errA] at h1
        refine xw1 ?_
        intros
        exact ⟨[], List.nil_sublist _, .inl ⟨vNil, rfl, rfl, .inl ⟨rfl, rfl⟩⟩⟩
    · rcases hq : errT s 0 with _ | e | ⟨e, p⟩
      all_goals
        rw [hq] at h2
        simp only [Err.A, errA] at h2
        refine xn1 ?_
        intros
        first
          | exact ⟨[], List.nil_sublist _, .inl ⟨vNil, rfl, rfl, .inl ⟨rfl, rfl⟩⟩⟩
          | exact ⟨[], List.nil_sublist _, .inr ⟨_, rfl, rfl, rfl, rfl, rfl⟩⟩
    · rcases hq : errT s 0 with _ | e | ⟨e, p⟩
      all_goals
        rw [hq] at h3
        simp only [Err.A, errA] at h3
        refine xw1 ?_
        intros
        first
          | exact ⟨[], List.nil_sublist _, .inl ⟨_, rfl, rfl, .inr ⟨rfl, rfl⟩⟩⟩
          | exact ⟨[], List.nil_sublist _, .inl ⟨vNil, rfl, rfl, .inl ⟨rfl, rfl⟩⟩⟩
    · rcases hq : uriE s with _ | e | ⟨e, p⟩
      all_goals
        rw [hq] at h4
        simp only [Err.A, errA] at h4
        refine xw1 ?_
        intros
        exact ⟨[], List.nil_sublist _, .inl ⟨vNil, rfl, rfl, .inl ⟨rfl, rfl⟩⟩⟩
    · rcases hq : (whP s).2 with _ | e | ⟨e, p⟩
      all_goals
        rw [hq] at h5
        simp only [Err.A, errA] at h5
        generalize (whP s).1 = t at *
        refine xw1 ?_
        intros
        exact ⟨[], List.nil_sublist _, .inl ⟨vNil, rfl, rfl, .inl ⟨rfl, rfl⟩⟩⟩
    · rcases hq : zoneX s with _ | e | ⟨e, p⟩
      all_goals
        rw [hq] at h6
        simp only [Err.A, errA] at h6
        refine xw1 ?_
        intros
        exact ⟨[], List.nil_sublist _, .inl ⟨vNil, rfl, rfl, .inl ⟨rfl, rfl⟩⟩⟩
    · rcases hq : langX s with _ | e | ⟨e, p⟩
      all_goals
        rw [hq] at h7
        simp only [Err.A, errA] at h7
        refine xw1 ?_
        intros
        exact ⟨[], List.nil_sublist _, .inl ⟨vNil, rfl, rfl, .inl ⟨rfl, rfl⟩⟩⟩
    · refine xw1 ?_
      intros
      exact ⟨[], List.nil_sublist _, .inl ⟨vNil, rfl, rfl, .inl ⟨rfl, trivial⟩⟩⟩
end Go.Proofs.YtidcpikoeohfbaaGreatDoor
