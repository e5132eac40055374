/- Parts of the proof of valueWrites_card: Esq, Tjo, Tjp, Whe, Whf, Whg. -/
import Derived.Test.YtgjckfphallmeaaGreatDoorBai
import Derived.Test.YtgjckfphallmeaaGreatDoorBah
import Derived.Test.YtgjckfphallmeaaGreatDoorBaf
namespace Go.Proofs.YtgjckfphallmeaaGreatDoor
open Go Go.RowKit
set_option maxRecDepth 20000
set_option maxHeartbeats 4000000
set_option linter.unusedSimpArgs false
set_option linter.unusedVariables false
attribute [local irreducible] AWp AOps SrcOK OrOk GloAll FnSpec
attribute [local irreducible] tabE escF escS
theorem m_bsr (a : AVal) : ∀ R v, Rel R a v → ∀ w, ∃ u, (Go.method (Tryz.prog.types.size + Made.depth) 171 v "Replace").run Tryz.prog w = .ok (192, u) w ∧ Rel R a u := by
  intro R v hv w
  exact ⟨v, by kernel_rfl, hv⟩
theorem replace_esc {G : Glo} (br bl vc : Nat) (s : List UInt8) (hl : s.length ≤ 2000000) (hct : ∀ c, FnIs Tryz.prog G 95 [.str s, .str [c]] (.int .i64 (s.countP (· == c) : Nat))) :
    FnSpec Tryz.prog G 44 [.raw (pv bl 0), .str s] [escO br vc, .cells bl (some 119) (newC (.slice (some ⟨br, 0, none⟩) 8 vc))] (fun r H => r = .ret (.str (escS s)) ∧ H = []) := by
  have hGL : GloAll G [] := gloAll_nil
  have e1 := do_esc (G := G) br bl vc
  refine fn_xp 1 Tryz.func44 Tryz.call44 rfl rfl rfl rfl hGL rfl ?_
  intro C hC
  repeat' (first
    | (conv => whnf); first
      | refine .w ?_ | (first | refine Ix.v ?_ | refine Sd.v ?_ | refine Sl.v ?_) | apply sc_true | apply sc_false
      | (first | apply sc_lt | apply sc_nlt | apply sc_eq | apply sc_neq | apply sc_nil | apply sc_nnil) <;> (intro hb; try exact dd hb)
      | apply sc_not | (apply sc_i <;> intro hb) | (apply bx_i; intro hbd) | (apply gt_i; assumption; exact rfl)
      | (apply cx_is; first | fail) | (apply ab_i; intro bl) | (apply rt_is; exact rfl) | exact rt_w
      | exact True.intro | (apply bc_i; intro C hC) | apply bt_i | apply og_n | (apply og_a; exact rfl))
  all_goals (try conv => whnf)
  refine ⟨_, e1, ?_, fun v' H' ⟨y, e, _⟩ => by cases e⟩
  rintro v' H' ⟨y, e, rfl⟩
  cases e
  have e3 := esc_replace (G := G) br bl vc (escQ y) y.va y.vk y.vt y.bz y.b1 y.c1 y.b2 y.c2 y.b3 y.c3 y.b4 y.c4 y.h s hl hct
  repeat' (first
    | (conv => whnf); first
      | refine .w ?_ | (first | refine Ix.v ?_ | refine Sd.v ?_ | refine Sl.v ?_) | apply sc_true | apply sc_false
      | (first | apply sc_lt | apply sc_nlt | apply sc_eq | apply sc_neq | apply sc_nil | apply sc_nnil) <;> (intro hb; try exact dd hb)
      | apply sc_not | (apply sc_i <;> intro hb) | (apply bx_i; intro hbd) | (apply gt_i; assumption; exact rfl)
      | (apply cx_is; first | fail) | (apply ab_i; intro bl) | (apply rt_is; exact rfl) | exact rt_w
      | exact True.intro | (apply bc_i; intro C hC) | apply bt_i | apply og_n | (apply og_a; exact rfl))
  all_goals (try conv => whnf)
  refine iv 192 (.raw (pv y.bz 0)) (m_bsr _) (cx_all e3 ?_)
  repeat' (first
    | (conv => whnf); first
      | refine .w ?_ | (first | refine Ix.v ?_ | refine Sd.v ?_ | refine Sl.v ?_) | apply sc_true | apply sc_false
      | (first | apply sc_lt | apply sc_nlt | apply sc_eq | apply sc_neq | apply sc_nil | apply sc_nnil) <;> (intro hb; try exact dd hb)
      | apply sc_not | (apply sc_i <;> intro hb) | (apply bx_i; intro hbd) | (apply gt_i; assumption; exact rfl)
      | (apply cx_is; first | fail) | (apply ab_i; intro bl) | (apply rt_is; exact rfl) | exact rt_w
      | exact True.intro | (apply bc_i; intro C hC) | apply bt_i | apply og_n | (apply og_a; exact rfl))
  all_goals (try conv => whnf)
theorem text_Escape {G : Glo} (s : List UInt8) (hl : s.length ≤ 2000000) (hct : ∀ c, FnIs Tryz.prog G 95 [.str s, .str [c]] (.int .i64 (s.countP (· == c) : Nat))) : FnIs Tryz.prog G 16 [.str s] (.str (escS s)) := by
  have hGL : GloAll G [] := gloAll_nil
  refine fn_x Tryz.func16 Tryz.call16 rfl rfl rfl rfl hGL ?_
  intro C hC
  repeat' (first
    | (conv => whnf); first
      | refine .w ?_ | refine .v ?_ | apply sc_true | apply sc_false
      | (first | apply sc_lt | apply sc_nlt | apply sc_eq | apply sc_neq | apply sc_nil | apply sc_nnil | apply sc_seq | apply sc_nseq) <;> (intro hb; try exact dd hb)
      | apply sc_not | apply sc_or | (apply sc_i <;> intro hb)
      | (apply bx_i; intro hbd) | (apply gt_i; assumption; exact rfl)
      | (apply cx_is; first | fail) | (apply cx_do (i := 0) rfl; first | fail)
      | (apply ab_i; intro bl) | (apply as_i; intro va vk vc hva) | (apply av_i; intro v) | (apply ac_i; intro bl cap hcap)
      | apply bo_l | (apply nx_i <;> intro hnx) | (apply Ia.hit; assumption) | (apply Ia.miss; assumption)
      | (apply rt_is; exact rfl) | exact rt_w | (apply iv; assumption)
      | exact True.intro | (apply bc_i; intro C hC) | apply bt_i | apply og_n | (apply og_a; exact rfl))
  all_goals (try conv => whnf)
  refine ⟨_, new_replacer 8 _ (by decide) (by decide) ?_, ?_, ?_⟩
  · unfold SrcOK
    exact srcChk_ok rfl
  · rintro v H' ⟨bl, va, vk, vc, hva, e, rfl⟩
    cases e
    obtain ⟨br, rfl, rfl⟩ := hva (by omega)
    have e2 := replace_esc (G := G) br bl vc s hl hct
    repeat' (first
      | (conv => whnf); first
        | refine .w ?_ | (first | refine Ix.v ?_ | refine Sd.v ?_ | refine Sl.v ?_) | apply sc_true | apply sc_false
        | (first | apply sc_lt | apply sc_nlt | apply sc_eq | apply sc_neq | apply sc_nil | apply sc_nnil) <;> (intro hb; try exact dd hb)
        | apply sc_not | (apply sc_i <;> intro hb) | (apply bx_i; intro hbd) | (apply gt_i; assumption; exact rfl)
        | (apply cx_is; first | fail) | (apply ab_i; intro bl) | (apply rt_is; exact rfl) | exact rt_w
        | exact True.intro | (apply bc_i; intro C hC) | apply bt_i | apply og_n | (apply og_a; exact rfl))
    all_goals (try conv => whnf)
    refine cx_all e2 ?_
    repeat' (first
      | (conv => whnf); first
        | refine .w ?_ | (first | refine Ix.v ?_ | refine Sd.v ?_ | refine Sl.v ?_) | apply sc_true | apply sc_false
        | (first | apply sc_lt | apply sc_nlt | apply sc_eq | apply sc_neq | apply sc_nil | apply sc_nnil) <;> (intro hb; try exact dd hb)
        | apply sc_not | (apply sc_i <;> intro hb) | (apply bx_i; intro hbd) | (apply gt_i; assumption; exact rfl)
        | (apply cx_is; first | fail) | (apply ab_i; intro bl) | (apply rt_is; exact rfl) | exact rt_w
        | exact True.intro | (apply bc_i; intro C hC) | apply bt_i | apply og_n | (apply og_a; exact rfl))
    all_goals (try conv => whnf)
  · rintro v H' ⟨bl, va, vk, vc, hva, e, rfl⟩
    cases e
end Go.Proofs.YtgjckfphallmeaaGreatDoor
namespace Go.Proofs.YtgjckfphallmeaaGreatDoor
open Go Go.RowKit
set_option maxRecDepth 20000
set_option maxHeartbeats 4000000
set_option linter.unusedSimpArgs false
set_option linter.unusedVariables false
attribute [local irreducible] AWp AOps byteAt SrcOK OrOk GloAll FnSpec
attribute [local irreducible] escF escS
theorem text_Join {G : Glo} (l : List (List UInt8)) (hn : l.length ≤ 2000000) (hl : Lib.lens l ≤ 2000000) : FnIs Tryz.prog G 45 [.list 1 l.length (strsF l)] (.tuple [.str (joinT l), (joinE l).A]) := by
  have hE := fun k => text_Escape (G := G) (l.getD k []) (by have := lens_at (l := l) (k := k); omega) (count_one _)
  have hj := joinT_len l
  have hGL : GloAll G [] := gloAll_nil
  refine fn_x Tryz.func45 Tryz.call45 rfl rfl rfl rfl hGL ?_
  intro C hC
  cases l with
  | nil =>
    repeat' (first
      | (conv => whnf); first
        | refine .w ?_ | refine .v ?_ | apply sc_true | apply sc_false
        | (first | apply sc_lt | apply sc_nlt | apply sc_eq | apply sc_neq | apply sc_nil | apply sc_nnil | apply sc_seq | apply sc_nseq) <;> (intro hb; try exact dd hb)
        | apply sc_not | apply sc_or | (apply sc_i <;> intro hb)
        | (apply bx_i; intro hbd) | (apply gt_i; assumption; exact rfl)
        | (apply cx_is; first | fail) | (apply cx_do (i := 0) rfl; first | fail)
        | (apply ab_i; intro bl) | (apply as_i; intro va vk vc hva) | (apply av_i; intro v) | (apply ac_i; intro bl cap hcap)
        | apply bo_l | (apply nx_i <;> intro hnx) | (apply Ia.hit; assumption) | (apply Ia.miss; assumption)
        | (apply rt_is; exact rfl) | exact rt_w | (apply iv; assumption)
        | apply dw_q mixed hC hGL (by kernel_rfl) | (apply cq; assumption; (first | fail); exact rfl))
    all_goals (try conv => whnf)
  | cons x r =>
    repeat' (first
      | (conv => whnf); first
        | refine .w ?_ | refine .v ?_ | apply sc_true | apply sc_false
        | (first | apply sc_lt | apply sc_nlt | apply sc_eq | apply sc_neq | apply sc_nil | apply sc_nnil | apply sc_seq | apply sc_nseq) <;> (intro hb; try exact dd hb)
        | apply sc_not | apply sc_or | (apply sc_i <;> intro hb)
        | (apply bx_i; intro hbd) | (apply gt_i; assumption; exact rfl)
        | (apply cx_is; first | fail) | (apply cx_do (i := 0) rfl; first | fail)
        | (apply ab_i; intro bl) | (apply as_i; intro va vk vc hva) | (apply av_i; intro v) | (apply ac_i; intro bl cap hcap)
        | apply bo_l | (apply nx_i <;> intro hnx) | (apply Ia.hit; assumption) | (apply Ia.miss; assumption)
        | (apply rt_is; exact rfl) | exact rt_w | (apply iv; assumption)
        | apply dw_q mixed hC hGL (by kernel_rfl) | (apply cq; assumption; (first | fail); exact rfl))
    all_goals (try conv => whnf)
    refine lp_row 4 1 rfl ?_
    refine lp hC hGL (fun (y : List (List UInt8) × Value) => [(4, .own 0 y.2), (11, .list 1 (x :: r).length (strsF (x :: r))), (12, .int .i64 ((x :: r).length : Nat)), (13, .int .i64 (y.1.length : Nat))]) (fun y => [.row y.2 none 1 y.1.length (strsC y.1)]) (fun y => y.1.length ≤ (x :: r).length ∧ y.1 = ((x :: r).map escS).take y.1.length) (fun y => (x :: r).length - y.1.length) ([], .slice none 0 0) ?_ env_w rfl ?_
    · exact ⟨Nat.zero_le _, rfl⟩
    · rintro ⟨ps, v⟩ ⟨h1, h2⟩
      have h1 : ps.length ≤ (x :: r).length := h1
      have h2 : ps = ((x :: r).map escS).take ps.length := h2
      repeat' (first
        | (conv => whnf); first
          | refine .w ?_ | refine .v ?_ | apply sc_true | apply sc_false
          | (first | apply sc_lt | apply sc_nlt | apply sc_eq | apply sc_neq | apply sc_nil | apply sc_nnil | apply sc_seq | apply sc_nseq) <;> (intro hb; try exact dd hb)
          | apply sc_not | apply sc_or | (apply sc_i <;> intro hb)
          | (apply bx_i; intro hbd) | (apply gt_i; assumption; exact rfl)
          | (apply cx_is; first | exact hE _) | (apply cx_do (i := 0) rfl; first | exact hE _)
          | (apply ab_i; intro bl) | (apply as_i; intro va vk vc hva) | (apply av_i; intro v) | (apply ac_i; intro bl cap hcap)
          | apply bo_l | (apply nx_i <;> intro hnx) | (apply Ia.hit; assumption) | (apply Ia.miss; assumption)
          | (apply rt_is; exact rfl) | exact rt_w | (apply iv; assumption)
          | apply dw_q mixed hC hGL (by kernel_rfl) | (apply cq; assumption; (first | exact hE _); exact rfl))
      all_goals (try conv => whnf)
      · have hb : ((ps.length : Nat) : Int) < (((x :: r).length : Nat) : Int) := hb
        have hlt : ps.length < (x :: r).length := by omega
        refine nxt (ps ++ [escS ((x :: r).getD ps.length [])], .slice va vk vc) ?_ ?_ ⟨rfl, rfl, rfl, ?_, trivial⟩ ?_
        · refine ⟨?_, ?_⟩
          · show (ps ++ [escS ((x :: r).getD ps.length [])]).length ≤ (x :: r).length
            rw [List.length_append, List.length_singleton]; omega
          · show ps ++ [escS ((x :: r).getD ps.length [])] = ((x :: r).map escS).take (ps ++ [escS ((x :: r).getD ps.length [])]).length
            rw [List.length_append, List.length_singleton, take_map_succ hlt, ← h2]
        · show (x :: r).length - (ps ++ [escS ((x :: r).getD ps.length [])]).length < (x :: r).length - ps.length
          rw [List.length_append, List.length_singleton]; omega
        · show some (AVal.int .i64 (((ps.length : Nat) : Int) + 1)) = some (AVal.int .i64 ((ps ++ [escS ((x :: r).getD ps.length [])]).length : Nat))
          rw [List.length_append]; rfl
        · dsimp only
          rw [← strsC_snoc, List.length_append]
          rfl
      · have hb : (((x :: r).length : Nat) : Int) ≤ ((ps.length : Nat) : Int) := hb
        have h3 : ps = (x :: r).map escS := by rw [h2, List.take_of_length_le (by rw [List.length_map]; omega)]
        subst h3
        refine cx_do (i := 0) rfl (strings_Join_row ((x :: r).map escS) [44] v (by omega) (by have : (Lib.join ((x :: r).map escS) [44]).length ≤ _ := hj; omega)) ?_
        repeat' (first
          | (conv => whnf); first
            | refine .w ?_ | refine .v ?_ | apply sc_true | apply sc_false
            | (first | apply sc_lt | apply sc_nlt | apply sc_eq | apply sc_neq | apply sc_nil | apply sc_nnil | apply sc_seq | apply sc_nseq) <;> (intro hb; try exact dd hb)
            | apply sc_not | apply sc_or | (apply sc_i <;> intro hb)
            | (apply bx_i; intro hbd) | (apply gt_i; assumption; exact rfl)
            | (apply cx_is; first | fail) | (apply cx_do (i := 0) rfl; first | fail)
            | (apply ab_i; intro bl) | (apply as_i; intro va vk vc hva) | (apply av_i; intro v) | (apply ac_i; intro bl cap hcap)
            | apply bo_l | (apply nx_i <;> intro hnx) | (apply Ia.hit; assumption) | (apply Ia.miss; assumption)
            | (apply rt_is; exact rfl) | exact rt_w | (apply iv; assumption)
            | apply dw_q mixed hC hGL (by kernel_rfl) | (apply cq; assumption; (first | fail); exact rfl))
        all_goals (try conv => whnf)
theorem ref_Join {G : Glo} (l : List (List UInt8)) (hn : l.length ≤ 2000000) (hl : Lib.lens l ≤ 2000000) : FnIs Tryz.prog G 38 [.list 1 l.length (strsF l)] (.tuple [.str (joinT l), .int .i64 (joinE l).e]) := by
  have hE := fun k => ref_Escape (G := G) (l.getD k []) (by have := lens_at (l := l) (k := k); omega)
  have hj := joinT_len l
  have hGL : GloAll G [] := gloAll_nil
  refine fn_x Tryz.func38 Tryz.call38 rfl rfl rfl rfl hGL ?_
  intro C hC
  cases l with
  | nil =>
    repeat' (first
      | (conv => whnf); first
        | refine .w ?_ | refine .v ?_ | apply sc_true | apply sc_false
        | (first | apply sc_lt | apply sc_nlt | apply sc_eq | apply sc_neq | apply sc_nil | apply sc_nnil | apply sc_seq | apply sc_nseq) <;> (intro hb; try exact dd hb)
        | apply sc_not | apply sc_or | (apply sc_i <;> intro hb)
        | (apply bx_i; intro hbd) | (apply gt_i; assumption; exact rfl)
        | (apply cx_is; first | fail) | (apply cx_do (i := 0) rfl; first | fail)
        | (apply ab_i; intro bl) | (apply as_i; intro va vk vc hva) | (apply av_i; intro v) | (apply ac_i; intro bl cap hcap)
        | apply bo_l | (apply nx_i <;> intro hnx) | (apply Ia.hit; assumption) | (apply Ia.miss; assumption)
        | (apply rt_is; exact rfl) | exact rt_w | (apply iv; assumption)
        | apply dw_q mixed hC hGL (by kernel_rfl) | (apply cq; assumption; (first | fail); exact rfl))
    all_goals (try conv => whnf)
  | cons x r =>
    have hq : ∀ k, (escS x ++ Lib.joinTail [44] ((r.map escS).take k)).length ≤ (joinT (x :: r)).length := fun k => by
      unfold joinT
      rw [List.map_cons, Lib.join_cons, List.length_append, List.length_append]
      have := Lib.joinTail_take_le [44] (r.map escS) k
      omega
    have hx : ∀ k, (escS ((x :: r).getD k [])).length ≤ 4000000 := fun k => by
      have h1 := (escS_len ((x :: r).getD k [])).2
      have h2 := lens_at (l := x :: r) (k := k)
      omega
    repeat' (first
      | (conv => whnf); first
        | refine .w ?_ | refine .v ?_ | apply sc_true | apply sc_false
        | (first | apply sc_lt | apply sc_nlt | apply sc_eq | apply sc_neq | apply sc_nil | apply sc_nnil | apply sc_seq | apply sc_nseq) <;> (intro hb; try exact dd hb)
        | apply sc_not | apply sc_or | (apply sc_i <;> intro hb)
        | (apply bx_i; intro hbd) | (apply gt_i; assumption; exact rfl)
        | (apply cx_is; first | exact hE _) | (apply cx_do (i := 0) rfl; first | exact hE _)
        | (apply ab_i; intro bl) | (apply as_i; intro va vk vc hva) | (apply av_i; intro v) | (apply ac_i; intro bl cap hcap)
        | apply bo_l | (apply nx_i <;> intro hnx) | (apply Ia.hit; assumption) | (apply Ia.miss; assumption)
        | (apply rt_is; exact rfl) | exact rt_w | (apply iv; assumption)
        | apply dw_q mixed hC hGL (by kernel_rfl) | (apply cq; assumption; (first | exact hE _); exact rfl))
    all_goals (try conv => whnf)
    refine lp hC hGL (fun k : Nat => [(4, .str (escS x ++ Lib.joinTail [44] ((r.map escS).take k))), (15, .list 1 ((x :: r).length - 1) (fun k => strsF (x :: r) (1 + k))), (16, .int .i64 (((x :: r).length - 1 : Nat) : Int)), (17, .int .i64 (k : Nat))]) (fun _ => []) (fun k => k ≤ r.length) (fun k => r.length - k) 0 (Nat.zero_le _) ⟨?_, rfl, rfl, rfl, trivial⟩ rfl ?_
    · show some (AVal.str (escS x)) = some (AVal.str (escS x ++ Lib.joinTail [44] []))
      simp [Lib.joinTail]
    · intro k hk
      have hq1 := hq k
      have hx1 := hx (1 + k)
      have hgl : (x :: r).getD (1 + k) [] = r.getD k [] := by rw [Nat.add_comm]; rfl
      repeat' (first
        | (conv => whnf); first
          | refine .w ?_ | refine .v ?_ | apply sc_true | apply sc_false
          | (first | apply sc_lt | apply sc_nlt | apply sc_eq | apply sc_neq | apply sc_nil | apply sc_nnil | apply sc_seq | apply sc_nseq) <;> (intro hb; try exact dd hb)
          | apply sc_not | apply sc_or | (apply sc_i <;> intro hb)
          | (apply bx_i; intro hbd) | (apply gt_i; assumption; exact rfl)
          | (apply cx_is; first | exact hE _) | (apply cx_do (i := 0) rfl; first | exact hE _)
          | (apply ab_i; intro bl) | (apply as_i; intro va vk vc hva) | (apply av_i; intro v) | (apply ac_i; intro bl cap hcap)
          | apply bo_l | (apply nx_i <;> intro hnx) | (apply Ia.hit; assumption) | (apply Ia.miss; assumption)
          | (apply rt_is; exact rfl) | exact rt_w | (apply iv; assumption)
          | apply dw_q mixed hC hGL (by kernel_rfl) | (apply cq; assumption; (first | exact hE _); exact rfl))
      all_goals (try conv => whnf)
      · have hb2 : ((k : Nat) : Int) < ((r.length : Nat) : Int) := hb
        have hlt : k < r.length := by omega
        refine nxt (k + 1) ?_ ?_ ⟨?_, rfl, rfl, rfl, trivial⟩ rfl
        · exact hlt
        · show r.length - (k + 1) < r.length - k; omega
        · show some (AVal.str (escS x ++ Lib.joinTail [44] ((r.map escS).take k) ++ ([44] ++ escS ((x :: r).getD (1 + k) [])))) = some (AVal.str (escS x ++ Lib.joinTail [44] ((r.map escS).take (k + 1))))
          rw [Lib.joinTail_take_succ [44] (r.map escS) k (escS (r.getD k [])) (by rw [List.getElem?_map, List.getD_eq_getElem?_getD, List.getElem?_eq_getElem hlt]; rfl), hgl]
          simp only [List.append_assoc]
      · have hb2 : ((r.length : Nat) : Int) ≤ ((k : Nat) : Int) := hb
        apply rt_is
        unfold joinT
        rw [List.take_of_length_le (by rw [List.length_map]; omega), List.map_cons, Lib.join_cons]
        rfl
end Go.Proofs.YtgjckfphallmeaaGreatDoor
namespace Go.Proofs.YtgjckfphallmeaaGreatDoor
open Go Go.RowKit
set_option maxRecDepth 20000
set_option maxHeartbeats 4000000
set_option linter.unusedSimpArgs false
set_option linter.unusedVariables false
attribute [local irreducible] AWp AOps byteAt SrcOK OrOk GloAll FnSpec
attribute [local irreducible] escF escS joinT joinE
theorem joinE_nil : joinE [] = .errno 8 := by unfold joinE; rw [if_pos rfl]
theorem joinE_cons {l : List (List UInt8)} (h : l ≠ []) : joinE l = .none := by unfold joinE; rw [if_neg h]
theorem text_JoinParts {G : Glo} (L : List (List (List UInt8))) (hs : Small L) : FnIs Tryz.prog G 17 [.list 1 L.length (partsF L)] (.tuple [.str (joinPT L), (joinPE L).A]) := by
  have hJ := fun k => text_Join (G := G) (L.getD k []) (hs.k k).1 (hs.k k).2
  have hn := hs.n
  by_cases h0 : L = []
  · subst h0
    have hGL : GloAll G [] := gloAll_nil
    refine fn_x Tryz.func17 Tryz.call17 rfl rfl rfl rfl hGL ?_
    intro C hC
    repeat' (first
      | (conv => whnf); first
        | refine .w ?_ | refine .v ?_ | apply sc_true | apply sc_false
        | (first | apply sc_lt | apply sc_nlt | apply sc_eq | apply sc_neq | apply sc_nil | apply sc_nnil | apply sc_seq | apply sc_nseq) <;> (intro hb; try exact dd hb)
        | apply sc_not | apply sc_or | (apply sc_i <;> intro hb)
        | (apply bx_i; intro hbd) | (apply gt_i; assumption; exact rfl)
        | (apply cx_is; first | fail) | (apply cx_do (i := 0) rfl; first | fail)
        | (apply ab_i; intro bl) | (apply as_i; intro va vk vc hva) | (apply av_i; intro v) | (apply ac_i; intro bl cap hcap)
        | apply bo_l | (apply nx_i <;> intro hnx) | (apply Ia.hit; assumption) | (apply Ia.miss; assumption)
        | (apply rt_is; exact rfl) | exact rt_w | (apply iv; assumption)
        | apply dw_q mixed hC hGL (by kernel_rfl) | (apply cq; assumption; (first | fail); exact rfl))
    all_goals (try conv => whnf)
  · have h00 : L.length ≠ 0 := fun h => h0 (List.eq_nil_of_length_eq_zero h)
    have hGL : GloAll G [] := gloAll_nil
    refine fn_x Tryz.func17 Tryz.call17 rfl rfl rfl rfl hGL ?_
    intro C hC
    repeat' (first
      | (conv => whnf); first
        | refine .w ?_ | refine .v ?_ | apply sc_true | apply sc_false
        | (first | apply sc_lt | apply sc_nlt | apply sc_eq | apply sc_neq | apply sc_nil | apply sc_nnil | apply sc_seq | apply sc_nseq) <;> (intro hb; try exact dd hb)
        | apply sc_not | apply sc_or | (apply sc_i <;> intro hb)
        | (apply bx_i; intro hbd) | (apply gt_i; assumption; exact rfl)
        | (apply cx_is; first | fail) | (apply cx_do (i := 0) rfl; first | fail)
        | (apply ab_i; intro bl) | (apply as_i; intro va vk vc hva) | (apply av_i; intro v) | (apply ac_i; intro bl cap hcap)
        | apply bo_l | (apply nx_i <;> intro hnx) | (apply Ia.hit; assumption) | (apply Ia.miss; assumption)
        | (apply rt_is; exact rfl) | exact rt_w | (apply iv; assumption)
        | apply dw_q mixed hC hGL (by kernel_rfl) | (apply cq; assumption; (first | fail); exact rfl))
    all_goals (try conv => whnf)
    refine lp_row 4 1 rfl ?_
    refine lp hC hGL (fun (y : List (List UInt8) × Value) => [(4, .own 0 y.2), (13, .list 1 L.length (partsF L)), (14, .int .i64 (L.length : Nat)), (15, .int .i64 (y.1.length : Nat))]) (fun y => [.row y.2 none 1 y.1.length (strsC y.1)]) (fun y => y.1.length ≤ nilAt L ∧ y.1 = (L.map joinT).take y.1.length) (fun y => L.length - y.1.length) ([], .slice none 0 0) ?_ env_w rfl ?_
    · exact ⟨Nat.zero_le _, rfl⟩
    · rintro ⟨ps, v⟩ ⟨h1, h2⟩
      have h1 : ps.length ≤ nilAt L := h1
      have h2 : ps = (L.map joinT).take ps.length := h2
      have h3 := nilAt_le L
      by_cases hlt : ps.length < L.length
      · have hJ1 := hJ ps.length
        by_cases hnil : L.getD ps.length [] = []
        · have hk := nilAt_hit hlt h1 hnil
          rw [show joinE (L.getD ps.length []) = .errno 8 by rw [hnil]; exact joinE_nil] at hJ1
          repeat' (first
            | (conv => whnf); first
              | refine .w ?_ | refine .v ?_ | apply sc_true | apply sc_false
              | (first | apply sc_lt | apply sc_nlt | apply sc_eq | apply sc_neq | apply sc_nil | apply sc_nnil | apply sc_seq | apply sc_nseq) <;> (intro hb; try exact dd hb)
              | apply sc_not | apply sc_or | (apply sc_i <;> intro hb)
              | (apply bx_i; intro hbd) | (apply gt_i; assumption; exact rfl)
              | (apply cx_is; first | exact hJ1) | (apply cx_do (i := 0) rfl; first | exact hJ1)
              | (apply ab_i; intro bl) | (apply as_i; intro va vk vc hva) | (apply av_i; intro v) | (apply ac_i; intro bl cap hcap)
              | apply bo_l | (apply nx_i <;> intro hnx) | (apply Ia.hit; assumption) | (apply Ia.miss; assumption)
              | (apply rt_is; exact rfl) | exact rt_w | (apply iv; assumption)
              | apply dw_q mixed hC hGL (by kernel_rfl) | (apply cq; assumption; (first | exact hJ1); exact rfl))
          all_goals (try conv => whnf)
          apply rt_is
          unfold joinPT joinPE
          rw [if_pos (by omega), if_neg h0, if_pos (by omega), hk]
          rfl
        · rw [joinE_cons hnil] at hJ1
          repeat' (first
            | (conv => whnf); first
              | refine .w ?_ | refine .v ?_ | apply sc_true | apply sc_false
              | (first | apply sc_lt | apply sc_nlt | apply sc_eq | apply sc_neq | apply sc_nil | apply sc_nnil | apply sc_seq | apply sc_nseq) <;> (intro hb; try exact dd hb)
              | apply sc_not | apply sc_or | (apply sc_i <;> intro hb)
              | (apply bx_i; intro hbd) | (apply gt_i; assumption; exact rfl)
              | (apply cx_is; first | exact hJ1) | (apply cx_do (i := 0) rfl; first | exact hJ1)
              | (apply ab_i; intro bl) | (apply as_i; intro va vk vc hva) | (apply av_i; intro v) | (apply ac_i; intro bl cap hcap)
              | apply bo_l | (apply nx_i <;> intro hnx) | (apply Ia.hit; assumption) | (apply Ia.miss; assumption)
              | (apply rt_is; exact rfl) | exact rt_w | (apply iv; assumption)
              | apply dw_q mixed hC hGL (by kernel_rfl) | (apply cq; assumption; (first | exact hJ1); exact rfl))
          all_goals (try conv => whnf)
          have hm := nilAt_miss hlt h1 hnil
          refine nxt (ps ++ [joinT (L.getD ps.length [])], .slice va vk vc) ?_ ?_ ⟨rfl, rfl, rfl, ?_, trivial⟩ ?_
          · refine ⟨?_, ?_⟩
            · show (ps ++ [joinT (L.getD ps.length [])]).length ≤ nilAt L
              rw [List.length_append, List.length_singleton]; exact hm
            · show ps ++ [joinT (L.getD ps.length [])] = (L.map joinT).take (ps ++ [joinT (L.getD ps.length [])]).length
              rw [List.length_append, List.length_singleton, take_mapL_succ hlt, ← h2]
          · show L.length - (ps ++ [joinT (L.getD ps.length [])]).length < L.length - ps.length
            rw [List.length_append, List.length_singleton]; omega
          · show some (AVal.int .i64 (((ps.length : Nat) : Int) + 1)) = some (AVal.int .i64 ((ps ++ [joinT (L.getD ps.length [])]).length : Nat))
            rw [List.length_append]; rfl
          · dsimp only
            rw [← strsC_snoc, List.length_append]
            rfl
      · repeat' (first
          | (conv => whnf); first
            | refine .w ?_ | refine .v ?_ | apply sc_true | apply sc_false
            | (first | apply sc_lt | apply sc_nlt | apply sc_eq | apply sc_neq | apply sc_nil | apply sc_nnil | apply sc_seq | apply sc_nseq) <;> (intro hb; try exact dd hb)
            | apply sc_not | apply sc_or | (apply sc_i <;> intro hb)
            | (apply bx_i; intro hbd) | (apply gt_i; assumption; exact rfl)
            | (apply cx_is; first | fail) | (apply cx_do (i := 0) rfl; first | fail)
            | (apply ab_i; intro bl) | (apply as_i; intro va vk vc hva) | (apply av_i; intro v) | (apply ac_i; intro bl cap hcap)
            | apply bo_l | (apply nx_i <;> intro hnx) | (apply Ia.hit; assumption) | (apply Ia.miss; assumption)
            | (apply rt_is; exact rfl) | exact rt_w | (apply iv; assumption)
            | apply dw_q mixed hC hGL (by kernel_rfl) | (apply cq; assumption; (first | fail); exact rfl))
        all_goals (try conv => whnf)
        have h5 : nilAt L = L.length := by omega
        have h4 : ps = L.map joinT := by rw [h2, List.take_of_length_le (by rw [List.length_map]; omega)]
        subst h4
        refine cx_do (i := 0) rfl (strings_Join_row (L.map joinT) [59] v (by omega) (small_join hs)) ?_
        repeat' (first
          | (conv => whnf); first
            | refine .w ?_ | refine .v ?_ | apply sc_true | apply sc_false
            | (first | apply sc_lt | apply sc_nlt | apply sc_eq | apply sc_neq | apply sc_nil | apply sc_nnil | apply sc_seq | apply sc_nseq) <;> (intro hb; try exact dd hb)
            | apply sc_not | apply sc_or | (apply sc_i <;> intro hb)
            | (apply bx_i; intro hbd) | (apply gt_i; assumption; exact rfl)
            | (apply cx_is; first | fail) | (apply cx_do (i := 0) rfl; first | fail)
            | (apply ab_i; intro bl) | (apply as_i; intro va vk vc hva) | (apply av_i; intro v) | (apply ac_i; intro bl cap hcap)
            | apply bo_l | (apply nx_i <;> intro hnx) | (apply Ia.hit; assumption) | (apply Ia.miss; assumption)
            | (apply rt_is; exact rfl) | exact rt_w | (apply iv; assumption)
            | apply dw_q mixed hC hGL (by kernel_rfl) | (apply cq; assumption; (first | fail); exact rfl))
        all_goals (try conv => whnf)
        apply rt_is
        unfold joinPT joinPE
        rw [if_neg (by omega), if_neg h0, if_neg (by omega)]
        rfl
theorem ref_JoinParts {G : Glo} (L : List (List (List UInt8))) (hs : Small L) : FnIs Tryz.prog G 13 [.list 1 L.length (partsF L)] (.tuple [.str (joinPT L), .agg [.int .i64 (joinPE L).e, .int .i64 (joinPE L).p]]) := by
  have hJ := fun k => ref_Join (G := G) (L.getD k []) (hs.k k).1 (hs.k k).2
  have hn := hs.n
  have hb8 := ref_Bare (G := G) 8
  have hg := ref_Good (G := G)
  by_cases h0 : L = []
  · subst h0
    have hGL : GloAll G [] := gloAll_nil
    refine fn_x Tryz.func13 Tryz.call13 rfl rfl rfl rfl hGL ?_
    intro C hC
    repeat' (first
      | (conv => whnf); first
        | refine .w ?_ | refine .v ?_ | apply sc_true | apply sc_false
        | (first | apply sc_lt | apply sc_nlt | apply sc_eq | apply sc_neq | apply sc_nil | apply sc_nnil | apply sc_seq | apply sc_nseq) <;> (intro hb; try exact dd hb)
        | apply sc_not | apply sc_or | (apply sc_i <;> intro hb)
        | (apply bx_i; intro hbd) | (apply gt_i; assumption; exact rfl)
        | (apply cx_is; first | exact hb8) | (apply cx_do (i := 0) rfl; first | exact hb8)
        | (apply ab_i; intro bl) | (apply as_i; intro va vk vc hva) | (apply av_i; intro v) | (apply ac_i; intro bl cap hcap)
        | apply bo_l | (apply nx_i <;> intro hnx) | (apply Ia.hit; assumption) | (apply Ia.miss; assumption)
        | (apply rt_is; exact rfl) | exact rt_w | (apply iv; assumption)
        | apply dw_q mixed hC hGL (by kernel_rfl) | (apply cq; assumption; (first | exact hb8); exact rfl))
    all_goals (try conv => whnf)
  · have h00 : L.length ≠ 0 := fun h => h0 (List.eq_nil_of_length_eq_zero h)
    have hGL : GloAll G [] := gloAll_nil
    refine fn_x Tryz.func13 Tryz.call13 rfl rfl rfl rfl hGL ?_
    intro C hC
    repeat' (first
      | (conv => whnf); first
        | refine .w ?_ | refine .v ?_ | apply sc_true | apply sc_false
        | (first | apply sc_lt | apply sc_nlt | apply sc_eq | apply sc_neq | apply sc_nil | apply sc_nnil | apply sc_seq | apply sc_nseq) <;> (intro hb; try exact dd hb)
        | apply sc_not | apply sc_or | (apply sc_i <;> intro hb)
        | (apply bx_i; intro hbd) | (apply gt_i; assumption; exact rfl)
        | (apply cx_is; first | fail) | (apply cx_do (i := 0) rfl; first | fail)
        | (apply ab_i; intro bl) | (apply as_i; intro va vk vc hva) | (apply av_i; intro v) | (apply ac_i; intro bl cap hcap)
        | apply bo_l | (apply nx_i <;> intro hnx) | (apply Ia.hit; assumption) | (apply Ia.miss; assumption)
        | (apply rt_is; exact rfl) | exact rt_w | (apply iv; assumption)
        | apply dw_q mixed hC hGL (by kernel_rfl) | (apply cq; assumption; (first | fail); exact rfl))
    all_goals (try conv => whnf)
    refine lp_row 4 1 rfl ?_
    refine lp hC hGL (fun (y : List (List UInt8) × Value) => [(0, .list 1 L.length (partsF L)), (3, .own 0 (pv bl 0)), (4, .own 1 y.2), (13, .int .i64 (L.length : Nat)), (14, .int .i64 (y.1.length : Nat))]) (fun y => [.cells bl (some 42) [.int .i64 0, .int .i64 0], .row y.2 none 1 y.1.length (strsC y.1)]) (fun y => y.1.length ≤ nilAt L ∧ y.1 = (L.map joinT).take y.1.length) (fun y => L.length - y.1.length) ([], .slice none 0 0) ?_ env_w rfl ?_
    · exact ⟨Nat.zero_le _, rfl⟩
    · rintro ⟨ps, v⟩ ⟨h1, h2⟩
      have h1 : ps.length ≤ nilAt L := h1
      have h2 : ps = (L.map joinT).take ps.length := h2
      have h3 := nilAt_le L
      by_cases hlt : ps.length < L.length
      · have hJ1 := hJ ps.length
        by_cases hnil : L.getD ps.length [] = []
        · have hk := nilAt_hit hlt h1 hnil
          rw [show joinE (L.getD ps.length []) = .errno 8 by rw [hnil]; exact joinE_nil] at hJ1
          have hJ1 : FnIs Tryz.prog G 38 [.list 1 (L.getD ps.length []).length (strsF (L.getD ps.length []))] (.tuple [.str (joinT (L.getD ps.length [])), .int .i64 8]) := hJ1
          repeat' (first
            | (conv => whnf); first
              | refine .w ?_ | refine .v ?_ | apply sc_true | apply sc_false
              | (first | apply sc_lt | apply sc_nlt | apply sc_eq | apply sc_neq | apply sc_nil | apply sc_nnil | apply sc_seq | apply sc_nseq) <;> (intro hb; try exact dd hb)
              | apply sc_not | apply sc_or | (apply sc_i <;> intro hb)
              | (apply bx_i; intro hbd) | (apply gt_i; assumption; exact rfl)
              | (apply cx_is; first | exact hJ1) | (apply cx_do (i := 0) rfl; first | exact hJ1)
              | (apply ab_i; intro bl) | (apply as_i; intro va vk vc hva) | (apply av_i; intro v) | (apply ac_i; intro bl cap hcap)
              | apply bo_l | (apply nx_i <;> intro hnx) | (apply Ia.hit; assumption) | (apply Ia.miss; assumption)
              | (apply rt_is; exact rfl) | exact rt_w | (apply iv; assumption)
              | apply dw_q mixed hC hGL (by kernel_rfl) | (apply cq; assumption; (first | exact hJ1); exact rfl))
          all_goals (try conv => whnf)
          apply rt_is
          unfold joinPT joinPE
          rw [if_pos (by omega), if_neg h0, if_pos (by omega), hk]
          rfl
        · rw [joinE_cons hnil] at hJ1
          have hJ1 : FnIs Tryz.prog G 38 [.list 1 (L.getD ps.length []).length (strsF (L.getD ps.length []))] (.tuple [.str (joinT (L.getD ps.length [])), .int .i64 0]) := hJ1
          repeat' (first
            | (conv => whnf); first
              | refine .w ?_ | refine .v ?_ | apply sc_true | apply sc_false
              | (first | apply sc_lt | apply sc_nlt | apply sc_eq | apply sc_neq | apply sc_nil | apply sc_nnil | apply sc_seq | apply sc_nseq) <;> (intro hb; try exact dd hb)
              | apply sc_not | apply sc_or | (apply sc_i <;> intro hb)
              | (apply bx_i; intro hbd) | (apply gt_i; assumption; exact rfl)
              | (apply cx_is; first | exact hJ1) | (apply cx_do (i := 0) rfl; first | exact hJ1)
              | (apply ab_i; intro bl) | (apply as_i; intro va vk vc hva) | (apply av_i; intro v) | (apply ac_i; intro bl cap hcap)
              | apply bo_l | (apply nx_i <;> intro hnx) | (apply Ia.hit; assumption) | (apply Ia.miss; assumption)
              | (apply rt_is; exact rfl) | exact rt_w | (apply iv; assumption)
              | apply dw_q mixed hC hGL (by kernel_rfl) | (apply cq; assumption; (first | exact hJ1); exact rfl))
          all_goals (try conv => whnf)
          have hm := nilAt_miss hlt h1 hnil
          refine nxt (ps ++ [joinT (L.getD ps.length [])], .slice va vk vc) ?_ ?_ ⟨rfl, rfl, rfl, rfl, ?_, trivial⟩ ?_
          · refine ⟨?_, ?_⟩
            · show (ps ++ [joinT (L.getD ps.length [])]).length ≤ nilAt L
              rw [List.length_append, List.length_singleton]; exact hm
            · show ps ++ [joinT (L.getD ps.length [])] = (L.map joinT).take (ps ++ [joinT (L.getD ps.length [])]).length
              rw [List.length_append, List.length_singleton, take_mapL_succ hlt, ← h2]
          · show L.length - (ps ++ [joinT (L.getD ps.length [])]).length < L.length - ps.length
            rw [List.length_append, List.length_singleton]; omega
          · show some (AVal.int .i64 (((ps.length : Nat) : Int) + 1)) = some (AVal.int .i64 ((ps ++ [joinT (L.getD ps.length [])]).length : Nat))
            rw [List.length_append]; rfl
          · dsimp only
            rw [← strsC_snoc, List.length_append]
            rfl
      · repeat' (first
          | (conv => whnf); first
            | refine .w ?_ | refine .v ?_ | apply sc_true | apply sc_false
            | (first | apply sc_lt | apply sc_nlt | apply sc_eq | apply sc_neq | apply sc_nil | apply sc_nnil | apply sc_seq | apply sc_nseq) <;> (intro hb; try exact dd hb)
            | apply sc_not | apply sc_or | (apply sc_i <;> intro hb)
            | (apply bx_i; intro hbd) | (apply gt_i; assumption; exact rfl)
            | (apply cx_is; first | fail) | (apply cx_do (i := 0) rfl; first | fail)
            | (apply ab_i; intro bl) | (apply as_i; intro va vk vc hva) | (apply av_i; intro v) | (apply ac_i; intro bl cap hcap)
            | apply bo_l | (apply nx_i <;> intro hnx) | (apply Ia.hit; assumption) | (apply Ia.miss; assumption)
            | (apply rt_is; exact rfl) | exact rt_w | (apply iv; assumption)
            | apply dw_q mixed hC hGL (by kernel_rfl) | (apply cq; assumption; (first | fail); exact rfl))
        all_goals (try conv => whnf)
        have h5 : nilAt L = L.length := by omega
        have h4 : ps = L.map joinT := by rw [h2, List.take_of_length_le (by rw [List.length_map]; omega)]
        subst h4
        refine cx_do (i := 1) rfl (strings_Join_row (L.map joinT) [59] v (by omega) (small_join hs)) ?_
        repeat' (first
          | (conv => whnf); first
            | refine .w ?_ | refine .v ?_ | apply sc_true | apply sc_false
            | (first | apply sc_lt | apply sc_nlt | apply sc_eq | apply sc_neq | apply sc_nil | apply sc_nnil | apply sc_seq | apply sc_nseq) <;> (intro hb; try exact dd hb)
            | apply sc_not | apply sc_or | (apply sc_i <;> intro hb)
            | (apply bx_i; intro hbd) | (apply gt_i; assumption; exact rfl)
            | (apply cx_is; first | exact hg) | (apply cx_do (i := 0) rfl; first | exact hg)
            | (apply ab_i; intro bl) | (apply as_i; intro va vk vc hva) | (apply av_i; intro v) | (apply ac_i; intro bl cap hcap)
            | apply bo_l | (apply nx_i <;> intro hnx) | (apply Ia.hit; assumption) | (apply Ia.miss; assumption)
            | (apply rt_is; exact rfl) | exact rt_w | (apply iv; assumption)
            | apply dw_q mixed hC hGL (by kernel_rfl) | (apply cq; assumption; (first | exact hg); exact rfl))
        all_goals (try conv => whnf)
        apply rt_is
        unfold joinPT joinPE
        rw [if_neg (by omega), if_neg h0, if_neg (by omega)]
        rfl
end Go.Proofs.YtgjckfphallmeaaGreatDoor
namespace Go.Proofs.YtgjckfphallmeaaGreatDoor
open Go Go.RowKit
set_option maxRecDepth 20000
set_option maxHeartbeats 8000000
set_option linter.unusedSimpArgs false
set_option linter.unusedVariables false
attribute [local irreducible] AWp AOps SrcOK OrOk GloAll FnSpec
/-- The tests of the numbers, one by one. -/
def tstB (t : Stm) : Nat → Bool
  | 0 => witB t.y 0 9999
  | 1 => witB t.m 1 12
  | 2 => witB t.d 1 t.day
  | 3 => witB t.h 0 23
  | 4 => witB t.i 0 59
  | _ => witB t.s 0 59
theorem rng_of {t : Stm} (h : ∀ j, j < 6 → tstB t j = true) (z : zrB t.o = true) : t.rng = true := by
  have h0 : witB t.y 0 9999 = true := h 0 (by decide)
  have h1 : witB t.m 1 12 = true := h 1 (by decide)
  have h2 : witB t.d 1 t.day = true := h 2 (by decide)
  have h3 : witB t.h 0 23 = true := h 3 (by decide)
  have h4 : witB t.i 0 59 = true := h 4 (by decide)
  have h5 : witB t.s 0 59 = true := h 5 (by decide)
  unfold Stm.rng
  rw [h0, h1, h2, h3, h4, h5, z]
  rfl
theorem rng_no {t : Stm} (j : Nat) (h : tstB t j = false) : t.rng = false := by
  unfold Stm.rng
  match j, h with
  | 0, h => have h : witB t.y 0 9999 = false := h; simp [h]
  | 1, h => have h : witB t.m 1 12 = false := h; simp [h]
  | 2, h => have h : witB t.d 1 t.day = false := h; simp [h]
  | 3, h => have h : witB t.h 0 23 = false := h; simp [h]
  | 4, h => have h : witB t.i 0 59 = false := h; simp [h]
  | n + 5, h => have h : witB t.s 0 59 = false := h; simp [h]
theorem rng_z {t : Stm} (z : zrB t.o = false) : t.rng = false := by
  unfold Stm.rng
  rw [z]
  simp
theorem e_3 {t : Stm} (h : ¬ FrmP t.dn t.tn t.z t.h t.o) : t.e = 3 := by
  unfold Stm.e
  rw [if_neg (fun k => h ((frm_iff t).1 k))]
theorem e_2 {t : Stm} (h : FrmP t.dn t.tn t.z t.h t.o) (k : t.rng = false) : t.e = 2 := by
  unfold Stm.e
  rw [if_pos ((frm_iff t).2 h), k]
  rfl
theorem e_0 {t : Stm} (h : FrmP t.dn t.tn t.z t.h t.o) (k : t.rng = true) : t.e = 0 := by
  unfold Stm.e
  rw [if_pos ((frm_iff t).2 h), k]
  rfl
theorem tst_succ {t : Stm} {k : Nat} (h : ∀ j, j < k → tstB t j = true) (hk : tstB t k = true) : ∀ j, j < k + 1 → tstB t j = true := by
  intro j hj
  rcases Nat.lt_or_ge j k with g | g
  · exact h j g
  · rw [show j = k by omega]
    exact hk
theorem and_tt {p q : Prop} [Decidable p] [Decidable q] : ((decide p && decide q) = true) ↔ p ∧ q := by simp
theorem and_ff {p q : Prop} [Decidable p] [Decidable q] : ((decide p && decide q) = false) ↔ ¬ (p ∧ q) := by simp
theorem wT {n lo hi : Int} (h : n = -1 ∨ lo ≤ n ∧ n ≤ hi) : witB n lo hi = true := witB_t.2 h
theorem wF {n lo hi : Int} (h : ¬ (n = -1 ∨ lo ≤ n ∧ n ≤ hi)) : witB n lo hi = false := witB_f.2 h
attribute [local irreducible] whN
theorem ref_WhenRight {G : Glo} (hS : GloAll G shapesTy) (t : Stm) : FnIs Tryz.prog G 35 [t.A] (.int .i64 t.e) := by
  have h1 := ref_which hS t.y t.m t.d
  have h2 := ref_which hS t.h t.i t.s
  have h3 := ref_Days (G := G) t.y t.m
  have k1 := fun n lo hi (_ : (0 : Int) ≤ 0) => ref_within (G := G) n lo hi
  have h5 := ref_ZoneRight (G := G) t.o
  have hE3 := e_3 (t := t)
  have hE2 := e_2 (t := t)
  have hE0 := e_0 (t := t)
  unfold FrmP Stm.dn Stm.tn at hE3 hE2 hE0
  have hGL : GloAll G [] := gloAll_nil
  refine fn_a Tryz.func35 Tryz.call35 rfl rfl rfl rfl ?_
  intro C hC
  refine cut hC hGL [(1, .rop t.R 0), (2, .int .i64 0)] [] True ?_ fun _ => ?_
  · exact xw0
  refine cut hC hGL [(1, .rop t.R 0), (3, .int .i64 (whN (tlB t.y) (tlB t.m) (tlB t.d))), (4, .int .i64 (whN (tlB t.h) (tlB t.i) (tlB t.s)))] [] True ?_ fun _ => ?_
  · refine xn1 ?_
    refine dw_p mixed hC hGL false (fun (_ : Unit) => [(1, .rop t.R 0), (3, .int .i64 (whN (tlB t.y) (tlB t.m) (tlB t.d))), (4, .int .i64 (whN (tlB t.h) (tlB t.i) (tlB t.s)))]) (fun _ => []) (.take 0 (.take 1 (.take 2 (.take 3 (.take 4 (.take 5 (.take 8 (.take 9 (.take 10 (.take 11 (.take 12 (.take 13 (.br 6 (.br 7 (.br 14 (.br 15 (.take 16 (.take 17 (.done))) (.nil)) (.nil)) (.br 14 (.br 7 (.br 15 (.take 16 (.take 17 (.done))) (.nil)) (.nil)) (.nil))) (.br 14 (.br 6 (.br 7 (.br 15 (.take 16 (.take 17 (.done))) (.nil)) (.nil)) (.nil)) (.nil))))))))))))))) (by kernel_rfl) ?_ ?_
    · refine xn ?_
      repeat' (first | exact Le.n | refine Lc.mk ?_ ?_)
      all_goals intros
      all_goals exact ⟨(), ⟨rfl, rfl, rfl, trivial⟩, rfl⟩
    · intro _
      exact xn0
  clear h1 h2
  generalize whN (tlB t.y) (tlB t.m) (tlB t.d) = D at *
  generalize whN (tlB t.h) (tlB t.i) (tlB t.s) = T at *
  refine cut hC hGL [(1, .rop t.R 0), (3, .int .i64 D), (4, .int .i64 T)] [] (0 ≤ D ∧ 0 ≤ T ∧ ¬ (D = 0 ∧ T = 0)) ?_ fun p1 => ?_
  · clear hE2 hE0
    refine xw ?_
    repeat' (first | exact Le.n | refine Lc.mk ?_ ?_)
    all_goals intros
    all_goals first | omega | (apply rt_is; refine congrArg (AVal.int .i64) ?_; rw [hE3 (fun k => by have := k.1; omega)])
  refine cut hC hGL [(1, .rop t.R 0), (3, .int .i64 D), (4, .int .i64 T)] [] (0 < D ∧ 0 < T → (D = 3 ∨ D = 5 ∨ D = 6) ∧ T ≤ 3) ?_ fun p2 => ?_
  · clear hE2 hE0
    refine xw ?_
    repeat' (first | exact Le.n | refine Lc.mk ?_ ?_)
    all_goals intros
    all_goals first | omega | (apply rt_is; refine congrArg (AVal.int .i64) ?_; rw [hE3 (fun k => by have := k.1.2.2.2; omega)])
  refine cut hC hGL [(1, .rop t.R 0)] [] ((t.z = true → t.h ≠ -1) ∧ (t.z = false → t.o = 0)) ?_ fun p3 => ?_
  · clear hE2 hE0 p1 p2
    refine xw ?_
    repeat' (first | exact Le.n | refine Lc.mk ?_ ?_)
    all_goals intros
    all_goals first
      | exact Bool.noConfusion ((show t.z = true by assumption).symm.trans (show t.z = false by assumption))
      | exact ⟨fun _ => by assumption, fun k => Bool.noConfusion ((show t.z = true by assumption).symm.trans k)⟩
      | exact ⟨fun k => Bool.noConfusion (k.symm.trans (show t.z = false by assumption)), fun _ => by assumption⟩
      | (apply rt_is; refine congrArg (AVal.int .i64) ?_; rw [hE3 (fun k => by have := k.2; rw [if_pos (by assumption)] at this; omega)])
      | (apply rt_is; refine congrArg (AVal.int .i64) ?_; rw [hE3 (fun k => by have := k.2; rw [if_neg (by rw [show t.z = false by assumption]; decide)] at this; omega)])
  have hF : (0 ≤ D ∧ 0 ≤ T ∧ ¬ (D = 0 ∧ T = 0) ∧ (0 < D ∧ 0 < T → (D = 3 ∨ D = 5 ∨ D = 6) ∧ T ≤ 3)) ∧ (if t.z = true then t.h ≠ -1 else t.o = 0) := by
    refine ⟨⟨p1.1, p1.2.1, p1.2.2, p2⟩, ?_⟩
    split
    · exact p3.1 (by assumption)
    · rename_i k
      exact p3.2 (by simpa using k)
  have key2 := hE2 hF
  have key0 := hE0 hF
  clear hE2 hE0 hE3 hF p1 p2 p3
  refine cut hC hGL [(1, .rop t.R 0), (5, .int .i64 31)] [] True ?_ fun _ => ?_
  · exact xw0
  refine cuty hC hGL (fun q : Int => [(1, .rop t.R 0), (5, .int .i64 q)]) (fun _ => []) (fun q => q = t.day) ?_ fun q hq => ?_
  · refine xw ?_
    repeat' (first | exact Le.n | refine Lc.mk ?_ ?_)
    all_goals intros
    all_goals first
      | exact cy _ (by unfold Stm.day; rw [if_neg (by assumption)])
      | exact cy _ (by unfold Stm.day; rw [if_pos (by assumption)])
  subst hq
  refine cut hC hGL [(1, .rop t.R 0)] [] (∀ j, j < 6 → tstB t j = true) ?_ fun hj => ?_
  · refine xw1 ?_
    refine lp hC hGL (fun (k : Nat) => [(1, .rop t.R 0), (104, _), (105, .int .i64 6), (106, .int .i64 (k : Nat))]) (fun _ => []) (fun k => k ≤ 6 ∧ ∀ j, j < k → tstB t j = true) (fun k => 6 - k) 0 ?_ env_w rfl ?_
    · exact ⟨by omega, fun j hj => absurd hj (by omega)⟩
    rintro k ⟨hk, hj⟩
    rcases (show k = 0 ∨ k = 1 ∨ k = 2 ∨ k = 3 ∨ k = 4 ∨ k = 5 ∨ k = 6 by omega) with rfl | rfl | rfl | rfl | rfl | rfl | rfl
    all_goals
      refine xw ?_
      repeat' (first | exact Le.n | refine Lc.mk ?_ ?_)
      all_goals intros
      all_goals try simp only [and_tt, and_ff] at *
      all_goals first
        | exact hj _ (by assumption)
        | exact nxs 1 ⟨by decide, tst_succ hj (wT (by omega))⟩ (by decide) env_w sub_w
        | exact nxs 2 ⟨by decide, tst_succ hj (wT (by omega))⟩ (by decide) env_w sub_w
        | exact nxs 3 ⟨by decide, tst_succ hj (wT (by omega))⟩ (by decide) env_w sub_w
        | exact nxs 4 ⟨by decide, tst_succ hj (wT (by omega))⟩ (by decide) env_w sub_w
        | exact nxs 5 ⟨by decide, tst_succ hj (wT (by omega))⟩ (by decide) env_w sub_w
        | exact nxs 6 ⟨by decide, tst_succ hj (wT (by omega))⟩ (by decide) env_w sub_w
        | (apply rt_is; refine congrArg (AVal.int .i64) ?_; first
          | rw [key2 (rng_no 0 (wF (by omega)))]
          | rw [key2 (rng_no 1 (wF (by omega)))]
          | rw [key2 (rng_no 2 (wF (by omega)))]
          | rw [key2 (rng_no 3 (wF (by omega)))]
          | rw [key2 (rng_no 4 (wF (by omega)))]
          | rw [key2 (rng_no 5 (wF (by omega)))])
  refine aw_code hC hGL ?_
  refine xw ?_
  repeat' (first | exact Le.n | refine Lc.mk ?_ ?_)
  all_goals intros
  all_goals (apply rt_is; refine congrArg (AVal.int .i64) ?_; first | rw [key0 (rng_of hj (by assumption))] | rw [key2 (rng_z (by assumption))])
end Go.Proofs.YtgjckfphallmeaaGreatDoor
namespace Go.Proofs.YtgjckfphallmeaaGreatDoor
open Go Go.RowKit
set_option maxRecDepth 20000
set_option maxHeartbeats 8000000
set_option linter.unusedSimpArgs false
set_option linter.unusedVariables false
attribute [local irreducible] AWp AOps SrcOK OrOk GloAll FnSpec byteAt
theorem strconv_FormatInt {G : Glo} (hP : PowIs G) (n : Nat) (hn : n ≤ 9223372036854775807) : FnIs Tryz.prog G 67 [.int .i64 (n : Int), .int .i64 10] (.str (Lib.decDigits n)) := by
  refine fnis_of_calls rfl Tryz.call67 ?_
  intro R args hr w hG hs
  obtain ⟨x, t, e, hx, y, t', e', hy, rfl⟩ := hr
  have hx := rel_int.1 hx
  have hy := rel_int.1 hy
  subst hx hy
  obtain rfl : args = #[.int .i64 (n : Int), .int .i64 10] := by cases args; simp_all
  have ht : Lib.TabIs Tryz.prog w "internal/strconv.uint64pow10" .u64 Lib.pow10Tab := by
    obtain ⟨e, fz, hR⟩ := hP R hG
    have hg : Tryz.prog.globalNamed "internal/strconv.uint64pow10" = some 5 := by kernel_rfl
    show w.var? Tryz.prog "internal/strconv.uint64pow10" = _
    simp only [World.var?, hg, Option.bind_some, hs _ _ hR]
  refine (Tryz.strconv_FormatInt_10 n (by omega) (by omega) w ht).mono ?_
  rintro e w' ⟨rfl, k, os, rfl⟩
  refine ⟨?_, ⟨rfl, rfl, rfl, ?_, fun b hb => ?_⟩⟩
  · have : Lib.itoa (n : Int) = Lib.decDigits n := by unfold Lib.itoa; rw [if_neg (by omega)]; rfl
    rw [this]
    rfl
  · show w.heap.size ≤ (w.heap ++ os).size
    rw [Array.size_append]; omega
  · show (w.heap ++ os)[b]? = w.heap[b]?
    rw [Array.getElem?_append_left hb]
theorem decDigits_three {i : Nat} (h : 100 ≤ i) (h1 : i < 1000) : Lib.decDigits i = [UInt8.ofNat (48 + i / 100), UInt8.ofNat (48 + i / 10 % 10), UInt8.ofNat (48 + i % 10)] := by
  rw [Lib.decDigits, dif_neg (by omega), decDigits_two (by omega) (by omega), show i / 10 / 10 = i / 100 by omega]
  rfl
theorem decDigits_four {i : Nat} (h : 1000 ≤ i) (h1 : i < 10000) : Lib.decDigits i = [UInt8.ofNat (48 + i / 1000), UInt8.ofNat (48 + i / 100 % 10), UInt8.ofNat (48 + i / 10 % 10), UInt8.ofNat (48 + i % 10)] := by
  rw [Lib.decDigits, dif_neg (by omega), decDigits_three (by omega) (by omega), show i / 10 / 10 % 10 = i / 100 % 10 by omega, show i / 10 / 100 = i / 1000 by omega]
  rfl
theorem fourS_nat (i : Nat) : fourS (i : Int) = [UInt8.ofNat (48 + i / 1000), UInt8.ofNat (48 + i / 100 % 10), UInt8.ofNat (48 + i / 10 % 10), UInt8.ofNat (48 + i % 10)] := by
  unfold fourS bytesI
  simp only [List.map]
  rw [show (48 + (i : Int) / 1000).toNat = 48 + i / 1000 by omega, show (48 + (i : Int) / 100 % 10).toNat = 48 + i / 100 % 10 by omega, show (48 + (i : Int) / 10 % 10).toNat = 48 + i / 10 % 10 by omega, show (48 + (i : Int) % 10).toNat = 48 + i % 10 by omega]
theorem ref_digits_four {G : Glo} (hP : PowIs G) (i : Nat) (h1 : i < 10000) : FnIs Tryz.prog G 42 [.int .i64 (i : Int), .int .i64 10, .int .i64 4] (.str (fourS i)) := by
  have hf := strconv_FormatInt (G := G) hP i (by omega)
  rw [fourS_nat]
  by_cases h2 : i < 10
  · rw [decDigits_one h2] at hf
    have hGL : GloAll G [] := gloAll_nil
    refine fn_x Tryz.func42 Tryz.call42 rfl rfl rfl rfl hGL ?_
    intro C hC
    repeat' (first
      | (conv => whnf); first
        | refine .w ?_ | refine .v ?_ | apply sc_true | apply sc_false
        | (first | apply sc_lt | apply sc_nlt | apply sc_eq | apply sc_neq | apply sc_nil | apply sc_nnil | apply sc_seq | apply sc_nseq) <;> (intro hb; try exact dd hb)
        | apply sc_not | apply sc_or | (apply sc_i <;> intro hb)
        | (apply bx_i; intro hbd) | (apply gt_i; assumption; exact rfl)
        | (apply cx_is; first | exact hf) | (apply cx_do (i := 0) rfl; first | exact hf)
        | (apply ab_i; intro bl) | (apply as_i; intro va vk vc hva) | (apply av_i; intro v) | (apply ac_i; intro bl cap hcap)
        | apply bo_l | (apply nx_i <;> intro hnx) | (apply Ia.hit; assumption) | (apply Ia.miss; assumption)
        | (apply rt_is; exact rfl) | exact rt_w | (apply iv; assumption)
        | apply dw_q mixed hC hGL (by kernel_rfl) | (apply cq; assumption; (first | exact hf); exact rfl))
    all_goals (try conv => whnf)
    refine rds hC hGL 4 ?_
    repeat' (first
      | (conv => whnf); first
        | refine .w ?_ | refine .v ?_ | apply sc_true | apply sc_false
        | (first | apply sc_lt | apply sc_nlt | apply sc_eq | apply sc_neq | apply sc_nil | apply sc_nnil | apply sc_seq | apply sc_nseq) <;> (intro hb; try exact dd hb)
        | apply sc_not | apply sc_or | (apply sc_i <;> intro hb)
        | (apply bx_i; intro hbd) | (apply gt_i; assumption; exact rfl)
        | (apply cx_is; first | fail) | (apply cx_do (i := 0) rfl; first | fail)
        | (apply ab_i; intro bl) | (apply as_i; intro va vk vc hva) | (apply av_i; intro v) | (apply ac_i; intro bl cap hcap)
        | apply bo_l | (apply nx_i <;> intro hnx) | (apply Ia.hit; assumption) | (apply Ia.miss; assumption)
        | (apply rt_is; exact rfl) | exact rt_w | (apply iv; assumption)
        | apply dw_q mixed hC hGL (by kernel_rfl) | (apply cq; assumption; (first | fail); exact rfl))
    all_goals (try conv => whnf)
    apply rt_is
    rw [show i / 1000 = 0 by omega, show i / 100 % 10 = 0 by omega, show i / 10 % 10 = 0 by omega, show i % 10 = i by omega]
    rfl
  by_cases h3 : i < 100
  · rw [decDigits_two (by omega) h3] at hf
    have hGL : GloAll G [] := gloAll_nil
    refine fn_x Tryz.func42 Tryz.call42 rfl rfl rfl rfl hGL ?_
    intro C hC
    repeat' (first
      | (conv => whnf); first
        | refine .w ?_ | refine .v ?_ | apply sc_true | apply sc_false
        | (first | apply sc_lt | apply sc_nlt | apply sc_eq | apply sc_neq | apply sc_nil | apply sc_nnil | apply sc_seq | apply sc_nseq) <;> (intro hb; try exact dd hb)
        | apply sc_not | apply sc_or | (apply sc_i <;> intro hb)
        | (apply bx_i; intro hbd) | (apply gt_i; assumption; exact rfl)
        | (apply cx_is; first | exact hf) | (apply cx_do (i := 0) rfl; first | exact hf)
        | (apply ab_i; intro bl) | (apply as_i; intro va vk vc hva) | (apply av_i; intro v) | (apply ac_i; intro bl cap hcap)
        | apply bo_l | (apply nx_i <;> intro hnx) | (apply Ia.hit; assumption) | (apply Ia.miss; assumption)
        | (apply rt_is; exact rfl) | exact rt_w | (apply iv; assumption)
        | apply dw_q mixed hC hGL (by kernel_rfl) | (apply cq; assumption; (first | exact hf); exact rfl))
    all_goals (try conv => whnf)
    refine rds hC hGL 3 ?_
    repeat' (first
      | (conv => whnf); first
        | refine .w ?_ | refine .v ?_ | apply sc_true | apply sc_false
        | (first | apply sc_lt | apply sc_nlt | apply sc_eq | apply sc_neq | apply sc_nil | apply sc_nnil | apply sc_seq | apply sc_nseq) <;> (intro hb; try exact dd hb)
        | apply sc_not | apply sc_or | (apply sc_i <;> intro hb)
        | (apply bx_i; intro hbd) | (apply gt_i; assumption; exact rfl)
        | (apply cx_is; first | fail) | (apply cx_do (i := 0) rfl; first | fail)
        | (apply ab_i; intro bl) | (apply as_i; intro va vk vc hva) | (apply av_i; intro v) | (apply ac_i; intro bl cap hcap)
        | apply bo_l | (apply nx_i <;> intro hnx) | (apply Ia.hit; assumption) | (apply Ia.miss; assumption)
        | (apply rt_is; exact rfl) | exact rt_w | (apply iv; assumption)
        | apply dw_q mixed hC hGL (by kernel_rfl) | (apply cq; assumption; (first | fail); exact rfl))
    all_goals (try conv => whnf)
    apply rt_is
    rw [show i / 1000 = 0 by omega, show i / 100 % 10 = 0 by omega, show i / 10 % 10 = i / 10 by omega]
    rfl
  by_cases h4 : i < 1000
  · rw [decDigits_three (by omega) h4] at hf
    have hGL : GloAll G [] := gloAll_nil
    refine fn_x Tryz.func42 Tryz.call42 rfl rfl rfl rfl hGL ?_
    intro C hC
    repeat' (first
      | (conv => whnf); first
        | refine .w ?_ | refine .v ?_ | apply sc_true | apply sc_false
        | (first | apply sc_lt | apply sc_nlt | apply sc_eq | apply sc_neq | apply sc_nil | apply sc_nnil | apply sc_seq | apply sc_nseq) <;> (intro hb; try exact dd hb)
        | apply sc_not | apply sc_or | (apply sc_i <;> intro hb)
        | (apply bx_i; intro hbd) | (apply gt_i; assumption; exact rfl)
        | (apply cx_is; first | exact hf) | (apply cx_do (i := 0) rfl; first | exact hf)
        | (apply ab_i; intro bl) | (apply as_i; intro va vk vc hva) | (apply av_i; intro v) | (apply ac_i; intro bl cap hcap)
        | apply bo_l | (apply nx_i <;> intro hnx) | (apply Ia.hit; assumption) | (apply Ia.miss; assumption)
        | (apply rt_is; exact rfl) | exact rt_w | (apply iv; assumption)
        | apply dw_q mixed hC hGL (by kernel_rfl) | (apply cq; assumption; (first | exact hf); exact rfl))
    all_goals (try conv => whnf)
    refine rds hC hGL 2 ?_
    repeat' (first
      | (conv => whnf); first
        | refine .w ?_ | refine .v ?_ | apply sc_true | apply sc_false
        | (first | apply sc_lt | apply sc_nlt | apply sc_eq | apply sc_neq | apply sc_nil | apply sc_nnil | apply sc_seq | apply sc_nseq) <;> (intro hb; try exact dd hb)
        | apply sc_not | apply sc_or | (apply sc_i <;> intro hb)
        | (apply bx_i; intro hbd) | (apply gt_i; assumption; exact rfl)
        | (apply cx_is; first | fail) | (apply cx_do (i := 0) rfl; first | fail)
        | (apply ab_i; intro bl) | (apply as_i; intro va vk vc hva) | (apply av_i; intro v) | (apply ac_i; intro bl cap hcap)
        | apply bo_l | (apply nx_i <;> intro hnx) | (apply Ia.hit; assumption) | (apply Ia.miss; assumption)
        | (apply rt_is; exact rfl) | exact rt_w | (apply iv; assumption)
        | apply dw_q mixed hC hGL (by kernel_rfl) | (apply cq; assumption; (first | fail); exact rfl))
    all_goals (try conv => whnf)
    apply rt_is
    rw [show i / 1000 = 0 by omega, show i / 100 % 10 = i / 100 by omega]
    rfl
  · rw [decDigits_four (by omega) h1] at hf
    have hGL : GloAll G [] := gloAll_nil
    refine fn_x Tryz.func42 Tryz.call42 rfl rfl rfl rfl hGL ?_
    intro C hC
    repeat' (first
      | (conv => whnf); first
        | refine .w ?_ | refine .v ?_ | apply sc_true | apply sc_false
        | (first | apply sc_lt | apply sc_nlt | apply sc_eq | apply sc_neq | apply sc_nil | apply sc_nnil | apply sc_seq | apply sc_nseq) <;> (intro hb; try exact dd hb)
        | apply sc_not | apply sc_or | (apply sc_i <;> intro hb)
        | (apply bx_i; intro hbd) | (apply gt_i; assumption; exact rfl)
        | (apply cx_is; first | exact hf) | (apply cx_do (i := 0) rfl; first | exact hf)
        | (apply ab_i; intro bl) | (apply as_i; intro va vk vc hva) | (apply av_i; intro v) | (apply ac_i; intro bl cap hcap)
        | apply bo_l | (apply nx_i <;> intro hnx) | (apply Ia.hit; assumption) | (apply Ia.miss; assumption)
        | (apply rt_is; exact rfl) | exact rt_w | (apply iv; assumption)
        | apply dw_q mixed hC hGL (by kernel_rfl) | (apply cq; assumption; (first | exact hf); exact rfl))
    all_goals (try conv => whnf)
    refine rds hC hGL 1 ?_
    repeat' (first
      | (conv => whnf); first
        | refine .w ?_ | refine .v ?_ | apply sc_true | apply sc_false
        | (first | apply sc_lt | apply sc_nlt | apply sc_eq | apply sc_neq | apply sc_nil | apply sc_nnil | apply sc_seq | apply sc_nseq) <;> (intro hb; try exact dd hb)
        | apply sc_not | apply sc_or | (apply sc_i <;> intro hb)
        | (apply bx_i; intro hbd) | (apply gt_i; assumption; exact rfl)
        | (apply cx_is; first | fail) | (apply cx_do (i := 0) rfl; first | fail)
        | (apply ab_i; intro bl) | (apply as_i; intro va vk vc hva) | (apply av_i; intro v) | (apply ac_i; intro bl cap hcap)
        | apply bo_l | (apply nx_i <;> intro hnx) | (apply Ia.hit; assumption) | (apply Ia.miss; assumption)
        | (apply rt_is; exact rfl) | exact rt_w | (apply iv; assumption)
        | apply dw_q mixed hC hGL (by kernel_rfl) | (apply cq; assumption; (first | fail); exact rfl))
    all_goals (try conv => whnf)
end Go.Proofs.YtgjckfphallmeaaGreatDoor
namespace Go.Proofs.YtgjckfphallmeaaGreatDoor
open Go Go.RowKit
set_option maxRecDepth 20000
set_option maxHeartbeats 8000000
set_option linter.unusedSimpArgs false
set_option linter.unusedVariables false
/-- How many digits a form has. -/
def holes : List UInt8 → Nat
  | [] => 0
  | c :: r => if c = 57 then holes r + 1 else holes r
theorem fill_step {form : List UInt8} {i : Nat} (h : i < form.length) : form.drop i = form[i] :: form.drop (i + 1) := List.drop_eq_getElem_cons h
theorem hole_step {form : List UInt8} {i : Nat} (h : i < form.length) (hc : form[i] = 57) : holes (form.drop i) = holes (form.drop (i + 1)) + 1 := by
  rw [fill_step h, holes, if_pos hc]
theorem hole_else {form : List UInt8} {i : Nat} (h : i < form.length) (hc : form[i] ≠ 57) : holes (form.drop i) = holes (form.drop (i + 1)) := by
  rw [fill_step h, holes, if_neg hc]
theorem fillS_hole {form all : List UInt8} {i : Nat} (h : i < form.length) (hc : form[i] = 57) (ha : 0 < all.length) : fillS (form.drop i) all = bytesI [(byteAt all 0 : Int)] ++ fillS (form.drop (i + 1)) (all.drop 1) := by
  rw [fill_step h]
  cases all with
  | nil => cases ha
  | cons x t =>
    rw [fillS, if_pos hc]
    have : bytesI [(byteAt (x :: t) 0 : Int)] = [x] := by
      show [UInt8.ofNat x.toNat] = [x]
      rw [UInt8.ofNat_toNat]
    rw [this]
    rfl
theorem fillS_else {form all : List UInt8} {i : Nat} (h : i < form.length) (hc : form[i] ≠ 57) : fillS (form.drop i) all = bytesI [(byteAt form i : Int)] ++ fillS (form.drop (i + 1)) all := by
  rw [fill_step h]
  have e : fillS (form[i] :: form.drop (i + 1)) all = form[i] :: fillS (form.drop (i + 1)) all := by simp only [fillS, if_neg hc]
  rw [e]
  have : bytesI [(byteAt form i : Int)] = [form[i]] := by
    rw [byteAt_getElem h]
    show [UInt8.ofNat form[i].toNat] = _
    rw [UInt8.ofNat_toNat]
  rw [this]
  rfl
theorem at57 {form : List UInt8} {i : Nat} (h : i < form.length) : form[i] = 57 ↔ (byteAt form i : Int) = 57 := by
  rw [byteAt_getElem h, ← UInt8.toNat_inj]
  constructor
  · intro k; rw [k]; rfl
  · intro k; have : form[i].toNat = 57 := by omega
    rw [this]; rfl
theorem okN_d {t : Stm} (hf : t.frm = true) : 0 ≤ whN (tlB t.y) (tlB t.m) (tlB t.d) ∧ whN (tlB t.y) (tlB t.m) (tlB t.d) < 7 := by
  have := ((frm_iff t).1 hf).1
  have h2 := wh_le (tlB t.y) (tlB t.m) (tlB t.d)
  unfold Stm.dn Stm.tn at this
  omega
theorem okN_t {t : Stm} (hf : t.frm = true) : 0 ≤ whN (tlB t.h) (tlB t.i) (tlB t.s) ∧ whN (tlB t.h) (tlB t.i) (tlB t.s) < 7 := by
  have := ((frm_iff t).1 hf).1
  have h2 := wh_le (tlB t.h) (tlB t.i) (tlB t.s)
  unfold Stm.dn Stm.tn at this
  omega
theorem dateF_len (i : Nat) : (dateF i).length ≤ 8 := by
  match i with
  | 0 | 1 | 2 | 3 | 4 | 5 | 6 => decide
  | n + 7 => exact Nat.zero_le _
theorem clkF_len (i : Nat) : (clkF i).length ≤ 6 := by
  match i with
  | 0 | 1 | 2 | 3 | 4 | 5 | 6 => decide
  | n + 7 => exact Nat.zero_le _
def numP (t : Stm) : Nat → Int
  | 0 => t.m
  | 1 => t.d
  | 2 => t.h
  | 3 => t.i
  | _ => t.s
/-- The numbers of a stamp that are told, in digits: the first so many. -/
def allP (t : Stm) : Nat → List UInt8
  | 0 => if t.y = -1 then [] else fourS t.y
  | k + 1 => if numP t k = -1 then allP t k else allP t k ++ twoS (numP t k)
theorem all_in {t : Stm} {A : List UInt8} {k : Nat} (hA : A = allP t k) (h : numP t k ≠ -1) : A ++ twoS (numP t k) = allP t (k + 1) := by
  rw [allP, if_neg h, hA]
theorem all_out {t : Stm} {A : List UInt8} {k : Nat} (hA : A = allP t k) (h : numP t k = -1) : A = allP t (k + 1) := by
  rw [allP, if_pos h, hA]
theorem all_le (t : Stm) : ∀ k, (allP t k).length ≤ 4 + 2 * k
  | 0 => by
    unfold allP
    split
    · exact Nat.zero_le _
    · exact Nat.le_refl _
  | k + 1 => by
    have := all_le t k
    unfold allP
    split
    · omega
    · rw [List.length_append, show (twoS (numP t k)).length = 2 from rfl]; omega
/-- So far. -/
def FillP (form A : List UInt8) (i : Nat) (out all : List UInt8) : Prop := i ≤ form.length ∧ out.length = i ∧ all.length ≤ 100 ∧ holes (form.drop i) ≤ all.length ∧ out ++ fillS (form.drop i) all = fillS form A
theorem fill_init {form A : List UInt8} (h : holes form ≤ A.length) (hl : A.length ≤ 4 + 2 * 5) : FillP form A 0 [] A := ⟨Nat.zero_le _, rfl, by omega, by rw [List.drop_zero]; exact h, by rw [List.drop_zero]; rfl⟩
theorem fill_pos {form A : List UInt8} {i : Nat} {out all : List UInt8} (h : FillP form A i out all) (hb : i < form.length ∧ (byteAt form i : Int) = 57) : 0 < all.length := by
  have h4 := h.2.2.2.1
  rw [hole_step hb.1 ((at57 hb.1).2 hb.2)] at h4
  omega
theorem fill_hole {form A : List UInt8} {i : Nat} {out all : List UInt8} (h : FillP form A i out all) (h1 : i < form.length) (hb : (byteAt form i : Int) = 57) : FillP form A (i + 1) (out ++ bytesI [(byteAt all 0 : Int)]) (all.drop 1) := by
  have hp := fill_pos h ⟨h1, hb⟩
  obtain ⟨a, b, c, d, e⟩ := h
  have hc := (at57 h1).2 hb
  rw [hole_step h1 hc] at d
  rw [fillS_hole h1 hc hp, ← List.append_assoc] at e
  refine ⟨h1, ?_, ?_, ?_, e⟩
  · rw [List.length_append, b]; rfl
  · rw [List.length_drop]; omega
  · rw [List.length_drop]; omega
theorem fill_else {form A : List UInt8} {i : Nat} {out all : List UInt8} (h : FillP form A i out all) (h1 : i < form.length) (hb : (byteAt form i : Int) ≠ 57) : FillP form A (i + 1) (out ++ bytesI [(byteAt form i : Int)]) all := by
  obtain ⟨a, b, c, d, e⟩ := h
  have hc : form[i] ≠ 57 := fun k => hb ((at57 h1).1 k)
  rw [hole_else h1 hc] at d
  rw [fillS_else h1 hc, ← List.append_assoc] at e
  refine ⟨h1, ?_, c, d, e⟩
  rw [List.length_append, b]; rfl
theorem fill_end {form A : List UInt8} {i : Nat} {out all : List UInt8} (h : FillP form A i out all) (h1 : form.length ≤ i) : out = fillS form A := by
  obtain ⟨a, b, c, d, e⟩ := h
  rw [List.drop_of_length_le h1] at e
  rw [← e]
  simp [fillS]
theorem fill_time {t : Stm} (hf : t.frm = true) (h : 0 < whN (tlB t.h) (tlB t.i) (tlB t.s)) : holes (dateF (whN (tlB t.y) (tlB t.m) (tlB t.d)).toNat ++ ([84] ++ clkF (whN (tlB t.h) (tlB t.i) (tlB t.s)).toNat)) ≤ (allP t 5).length ∧ fillS (dateF (whN (tlB t.y) (tlB t.m) (tlB t.d)).toNat ++ ([84] ++ clkF (whN (tlB t.h) (tlB t.i) (tlB t.s)).toNat)) (allP t 5) = dateS (tlB t.y) (tlB t.m) (tlB t.d) t.y t.m t.d ++ timeS (tlB t.h) (tlB t.i) (tlB t.s) t.h t.i t.s := by
  refine tl_cases hf fun k kz => ?_
  clear kz
  revert h k
  cases e1 : tlB t.y <;> cases e2 : tlB t.m <;> cases e3 : tlB t.d <;> cases e4 : tlB t.h <;> cases e5 : tlB t.i <;> cases e6 : tlB t.s <;> intro h k <;> first | exact absurd k (by decide) | exact absurd h (by decide) | (simp only [tlB_t, tlB_f] at e1 e2 e3 e4 e5 e6; simp only [allP, numP, e1, e2, e3, e4, e5, e6, if_true, if_false]; exact ⟨Nat.le_refl _, rfl⟩)
theorem fill_date {t : Stm} (hf : t.frm = true) (h : whN (tlB t.h) (tlB t.i) (tlB t.s) ≤ 0) : holes (dateF (whN (tlB t.y) (tlB t.m) (tlB t.d)).toNat) ≤ (allP t 5).length ∧ fillS (dateF (whN (tlB t.y) (tlB t.m) (tlB t.d)).toNat) (allP t 5) = dateS (tlB t.y) (tlB t.m) (tlB t.d) t.y t.m t.d ++ timeS (tlB t.h) (tlB t.i) (tlB t.s) t.h t.i t.s := by
  refine tl_cases hf fun k kz => ?_
  clear kz
  revert h k
  cases e1 : tlB t.y <;> cases e2 : tlB t.m <;> cases e3 : tlB t.d <;> cases e4 : tlB t.h <;> cases e5 : tlB t.i <;> cases e6 : tlB t.s <;> intro h k <;> first | exact absurd k (by decide) | exact absurd h (by decide) | (simp only [tlB_t, tlB_f] at e1 e2 e3 e4 e5 e6; simp only [allP, numP, e1, e2, e3, e4, e5, e6, if_true, if_false]; exact ⟨Nat.le_refl _, rfl⟩)
attribute [local irreducible] AWp AOps SrcOK OrOk GloAll FnSpec byteAt fourS twoS zprS fillS
theorem when_two_int {G : Glo} (k : Int) (h0 : 0 ≤ k) (h1 : k < 100) : FnIs Tryz.prog G 42 [.int .i64 k, .int .i64 10, .int .i64 2] (.str (twoS k)) := by
  obtain ⟨i, rfl⟩ := Int.eq_ofNat_of_zero_le h0
  exact ref_digits_two i (by omega)
theorem when_four_int {G : Glo} (hP : PowIs G) (k : Int) (h0 : 0 ≤ k) (h1 : k < 10000) : FnIs Tryz.prog G 42 [.int .i64 k, .int .i64 10, .int .i64 4] (.str (fourS k)) := by
  obtain ⟨i, rfl⟩ := Int.eq_ofNat_of_zero_le h0
  exact ref_digits_four hP i (by omega)
theorem ref_whenText {G : Glo} (hGL : GloAll G shapesTy) (hP : PowIs G) (t : Stm) (hf : t.frm = true) (hr : t.rng = true) : FnIs Tryz.prog G 41 [t.A] (.str t.txt) := by
  have h1 := ref_which hGL t.y t.m t.d
  have h2 := ref_which hGL t.h t.i t.s
  have h3 := ref_ZonePrint (G := G) t.o
  have kd : 0 ≤ whN (tlB t.y) (tlB t.m) (tlB t.d) ∧ whN (tlB t.y) (tlB t.m) (tlB t.d) < 7 := okN_d hf
  have kt := okN_t hf
  have hc := Tryz.call62
  have l1 := four_len t.y
  have l2 := two_len t.m
  have l3 := two_len t.d
  have l4 := two_len t.h
  have l5 := two_len t.i
  have l6 := two_len t.s
  have l7 := zpr_len t.o
  have l8 := dateF_len (whN (tlB t.y) (tlB t.m) (tlB t.d)).toNat
  have l9 := clkF_len (whN (tlB t.h) (tlB t.i) (tlB t.s)).toNat
  have r := hr
  unfold Stm.rng at r
  simp only [Bool.and_eq_true, witB_t] at r
  obtain ⟨r1, r2, r3, r4, r5, r6, -⟩ := r
  have r3' : t.d = -1 ∨ 1 ≤ t.d ∧ t.d ≤ 31 := by
    refine r3.imp_right fun h => ⟨h.1, ?_⟩
    have := h.2
    unfold Stm.day dayN at this
    (repeat' split at this) <;> omega
  refine tl_cases hf fun k kz => ?_
  unfold Stm.txt
  refine fn_x Tryz.func41 Tryz.call41 rfl rfl rfl rfl hGL ?_
  intro C hC
  by_cases hy : t.y = -1
  · repeat' (first
      | (conv => whnf); first
        | refine .w ?_ | refine .v ?_ | apply sc_true | apply sc_false
        | (first | apply sc_lt | apply sc_nlt | apply sc_eq | apply sc_neq | apply sc_nil | apply sc_nnil | apply sc_seq | apply sc_nseq) <;> (intro hb; try exact dd hb)
        | apply sc_not | apply sc_or | (apply sc_i <;> intro hb)
        | (apply bx_i; intro hbd) | (apply gt_i; assumption; exact rfl)
        | (apply cx_is; first | exact when_four_int hP _ (by omega) (by omega)) | (apply cx_do (i := 0) rfl; first | exact when_four_int hP _ (by omega) (by omega))
        | (apply ab_i; intro bl) | (apply as_i; intro va vk vc hva) | (apply av_i; intro v) | (apply ac_i; intro bl cap hcap)
        | apply bo_l | (apply nx_i <;> intro hnx) | (apply Ia.hit; assumption) | (apply Ia.miss; assumption)
        | (apply rt_is; exact rfl) | exact rt_w | (apply iv; assumption)
        | exact True.intro | (apply bc_i; intro C hC) | apply bt_i | apply og_n | (apply og_a; exact rfl))
    all_goals (try conv => whnf)
    refine lp hC hGL (fun (x : Nat × List UInt8) => [(1, .rop [.int .i64 t.y, .int .i64 t.m, .int .i64 t.d, .int .i64 t.h, .int .i64 t.i, .int .i64 t.s, .bool t.z, .int .i64 t.o] 0), (3, .str x.2), (29, .list 1 5 (partElem [(0, .int .i64 t.m), (1, .int .i64 t.d), (2, .int .i64 t.h), (3, .int .i64 t.i), (4, .int .i64 t.s)])), (30, .int .i64 5), (31, .int .i64 (x.1 : Nat))]) (fun _ => []) (fun x => x.1 ≤ 5 ∧ x.2 = allP t x.1) (fun x => 5 - x.1) (0, []) ⟨show 0 ≤ 5 by decide, (if_pos hy).symm⟩ (by repeat (first | exact trivial | refine And.intro rfl ?_)) rfl ?_
    rintro ⟨k', A⟩ ⟨hk, hA⟩
    have hk : k' ≤ 5 := hk
    have hA : A = allP t k' := hA
    have hl := all_le t k'
    rw [← hA] at hl
    rcases (show k' = 0 ∨ k' = 1 ∨ k' = 2 ∨ k' = 3 ∨ k' = 4 ∨ k' = 5 by omega) with rfl | rfl | rfl | rfl | rfl | rfl
    · repeat' (first
        | (conv => whnf); first
          | refine .w ?_ | (first | refine Ix.v ?_ | refine Sd.v ?_ | refine Sl.v ?_) | apply sc_true | apply sc_false
          | (first | apply sc_lt | apply sc_nlt | apply sc_eq | apply sc_neq | apply sc_nil | apply sc_nnil) <;> (intro hb; try exact dd hb)
          | apply sc_not | (apply sc_i <;> intro hb) | (apply bx_i; intro hbd) | (apply gt_i; assumption; exact rfl)
          | (apply cx_is; first | exact when_two_int _ (by omega) (by omega)) | (apply ab_i; intro bl) | (apply rt_is; exact rfl) | exact rt_w
          | exact True.intro | (apply bc_i; intro C hC) | apply bt_i | apply og_n | (apply og_a; exact rfl))
      all_goals (try conv => whnf)
      · refine nxs (1, A ++ twoS (numP t 0)) ⟨show (1 : Nat) ≤ 5 by decide, all_in hA (by assumption)⟩ (show 5 - 1 < 5 - 0 by decide) (by repeat (first | exact trivial | refine And.intro rfl ?_)) (by repeat (first | exact List.nil_sublist _ | apply List.Sublist.cons_cons | apply List.Sublist.cons))
      · refine nxs (1, A) ⟨show (1 : Nat) ≤ 5 by decide, all_out hA (by assumption)⟩ (show 5 - 1 < 5 - 0 by decide) (by repeat (first | exact trivial | refine And.intro rfl ?_)) (by repeat (first | exact List.nil_sublist _ | apply List.Sublist.cons_cons | apply List.Sublist.cons))
    · repeat' (first
        | (conv => whnf); first
          | refine .w ?_ | (first | refine Ix.v ?_ | refine Sd.v ?_ | refine Sl.v ?_) | apply sc_true | apply sc_false
          | (first | apply sc_lt | apply sc_nlt | apply sc_eq | apply sc_neq | apply sc_nil | apply sc_nnil) <;> (intro hb; try exact dd hb)
          | apply sc_not | (apply sc_i <;> intro hb) | (apply bx_i; intro hbd) | (apply gt_i; assumption; exact rfl)
          | (apply cx_is; first | exact when_two_int _ (by omega) (by omega)) | (apply ab_i; intro bl) | (apply rt_is; exact rfl) | exact rt_w
          | exact True.intro | (apply bc_i; intro C hC) | apply bt_i | apply og_n | (apply og_a; exact rfl))
      all_goals (try conv => whnf)
      · refine nxs (2, A ++ twoS (numP t 1)) ⟨show (2 : Nat) ≤ 5 by decide, all_in hA (by assumption)⟩ (show 5 - 2 < 5 - 1 by decide) (by repeat (first | exact trivial | refine And.intro rfl ?_)) (by repeat (first | exact List.nil_sublist _ | apply List.Sublist.cons_cons | apply List.Sublist.cons))
      · refine nxs (2, A) ⟨show (2 : Nat) ≤ 5 by decide, all_out hA (by assumption)⟩ (show 5 - 2 < 5 - 1 by decide) (by repeat (first | exact trivial | refine And.intro rfl ?_)) (by repeat (first | exact List.nil_sublist _ | apply List.Sublist.cons_cons | apply List.Sublist.cons))
    · repeat' (first
        | (conv => whnf); first
          | refine .w ?_ | (first | refine Ix.v ?_ | refine Sd.v ?_ | refine Sl.v ?_) | apply sc_true | apply sc_false
          | (first | apply sc_lt | apply sc_nlt | apply sc_eq | apply sc_neq | apply sc_nil | apply sc_nnil) <;> (intro hb; try exact dd hb)
          | apply sc_not | (apply sc_i <;> intro hb) | (apply bx_i; intro hbd) | (apply gt_i; assumption; exact rfl)
          | (apply cx_is; first | exact when_two_int _ (by omega) (by omega)) | (apply ab_i; intro bl) | (apply rt_is; exact rfl) | exact rt_w
          | exact True.intro | (apply bc_i; intro C hC) | apply bt_i | apply og_n | (apply og_a; exact rfl))
      all_goals (try conv => whnf)
      · refine nxs (3, A ++ twoS (numP t 2)) ⟨show (3 : Nat) ≤ 5 by decide, all_in hA (by assumption)⟩ (show 5 - 3 < 5 - 2 by decide) (by repeat (first | exact trivial | refine And.intro rfl ?_)) (by repeat (first | exact List.nil_sublist _ | apply List.Sublist.cons_cons | apply List.Sublist.cons))
      · refine nxs (3, A) ⟨show (3 : Nat) ≤ 5 by decide, all_out hA (by assumption)⟩ (show 5 - 3 < 5 - 2 by decide) (by repeat (first | exact trivial | refine And.intro rfl ?_)) (by repeat (first | exact List.nil_sublist _ | apply List.Sublist.cons_cons | apply List.Sublist.cons))
    · repeat' (first
        | (conv => whnf); first
          | refine .w ?_ | (first | refine Ix.v ?_ | refine Sd.v ?_ | refine Sl.v ?_) | apply sc_true | apply sc_false
          | (first | apply sc_lt | apply sc_nlt | apply sc_eq | apply sc_neq | apply sc_nil | apply sc_nnil) <;> (intro hb; try exact dd hb)
          | apply sc_not | (apply sc_i <;> intro hb) | (apply bx_i; intro hbd) | (apply gt_i; assumption; exact rfl)
          | (apply cx_is; first | exact when_two_int _ (by omega) (by omega)) | (apply ab_i; intro bl) | (apply rt_is; exact rfl) | exact rt_w
          | exact True.intro | (apply bc_i; intro C hC) | apply bt_i | apply og_n | (apply og_a; exact rfl))
      all_goals (try conv => whnf)
      · refine nxs (4, A ++ twoS (numP t 3)) ⟨show (4 : Nat) ≤ 5 by decide, all_in hA (by assumption)⟩ (show 5 - 4 < 5 - 3 by decide) (by repeat (first | exact trivial | refine And.intro rfl ?_)) (by repeat (first | exact List.nil_sublist _ | apply List.Sublist.cons_cons | apply List.Sublist.cons))
      · refine nxs (4, A) ⟨show (4 : Nat) ≤ 5 by decide, all_out hA (by assumption)⟩ (show 5 - 4 < 5 - 3 by decide) (by repeat (first | exact trivial | refine And.intro rfl ?_)) (by repeat (first | exact List.nil_sublist _ | apply List.Sublist.cons_cons | apply List.Sublist.cons))
    · repeat' (first
        | (conv => whnf); first
          | refine .w ?_ | (first | refine Ix.v ?_ | refine Sd.v ?_ | refine Sl.v ?_) | apply sc_true | apply sc_false
          | (first | apply sc_lt | apply sc_nlt | apply sc_eq | apply sc_neq | apply sc_nil | apply sc_nnil) <;> (intro hb; try exact dd hb)
          | apply sc_not | (apply sc_i <;> intro hb) | (apply bx_i; intro hbd) | (apply gt_i; assumption; exact rfl)
          | (apply cx_is; first | exact when_two_int _ (by omega) (by omega)) | (apply ab_i; intro bl) | (apply rt_is; exact rfl) | exact rt_w
          | exact True.intro | (apply bc_i; intro C hC) | apply bt_i | apply og_n | (apply og_a; exact rfl))
      all_goals (try conv => whnf)
      · refine nxs (5, A ++ twoS (numP t 4)) ⟨show (5 : Nat) ≤ 5 by decide, all_in hA (by assumption)⟩ (show 5 - 5 < 5 - 4 by decide) (by repeat (first | exact trivial | refine And.intro rfl ?_)) (by repeat (first | exact List.nil_sublist _ | apply List.Sublist.cons_cons | apply List.Sublist.cons))
      · refine nxs (5, A) ⟨show (5 : Nat) ≤ 5 by decide, all_out hA (by assumption)⟩ (show 5 - 5 < 5 - 4 by decide) (by repeat (first | exact trivial | refine And.intro rfl ?_)) (by repeat (first | exact List.nil_sublist _ | apply List.Sublist.cons_cons | apply List.Sublist.cons))
    repeat' (first
      | (conv => whnf); first
        | refine .w ?_ | (first | refine Ix.v ?_ | refine Sd.v ?_ | refine Sl.v ?_) | apply sc_true | apply sc_false
        | (first | apply sc_lt | apply sc_nlt | apply sc_eq | apply sc_neq | apply sc_nil | apply sc_nnil) <;> (intro hb; try exact dd hb)
        | apply sc_not | (apply sc_i <;> intro hb) | (apply bx_i; intro hbd) | (apply gt_i; assumption; exact rfl)
        | (apply cx_is; first | fail) | (apply ab_i; intro bl) | (apply rt_is; exact rfl) | exact rt_w
        | exact True.intro | (apply bc_i; intro C hC) | apply bt_i | apply og_n | (apply og_a; exact rfl))
    all_goals (try conv => whnf)
    refine dw_p mixed hC hGL false (fun (_ : Unit) => [(1, .rop [.int .i64 t.y, .int .i64 t.m, .int .i64 t.d, .int .i64 t.h, .int .i64 t.i, .int .i64 t.s, .bool t.z, .int .i64 t.o] 0), (3, .str A), (6, .str (dateF (whN (tlB t.y) (tlB t.m) (tlB t.d)).toNat))]) (fun _ => []) (.take 1 (.take 2 (.take 3 (.take 4 (.take 5 (.take 6 (.br 0 (.br 7 (.br 8 (.take 9 (.take 10 (.take 11 (.take 12 (.done))))) (.nil)) (.nil)) (.br 7 (.br 0 (.br 8 (.take 9 (.take 10 (.take 11 (.take 12 (.done))))) (.nil)) (.br 8 (.br 0 (.take 9 (.take 10 (.take 11 (.take 12 (.done))))) (.nil)) (.nil))) (.nil))))))))) (by kernel_rfl) ?_ ?_
    · repeat' (first
        | (conv => whnf); first
          | refine .w ?_ | refine .v ?_ | apply sc_true | apply sc_false
          | (first | apply sc_lt | apply sc_nlt | apply sc_eq | apply sc_neq | apply sc_nil | apply sc_nnil | apply sc_seq | apply sc_nseq) <;> (intro hb; try exact dd hb)
          | apply sc_not | apply sc_or | (apply sc_i <;> intro hb)
          | (apply bx_i; intro hbd) | (apply gt_i; assumption; exact rfl)
          | (apply cx_is; first | exact h1) | (apply cx_do (i := 0) rfl; first | exact h1)
          | (apply ab_i; intro bl) | (apply as_i; intro va vk vc hva) | (apply av_i; intro v) | (apply ac_i; intro bl cap hcap)
          | apply bo_l | (apply nx_i <;> intro hnx) | (apply Ia.hit; assumption) | (apply Ia.miss; assumption)
          | (apply rt_is; exact rfl) | exact rt_w | (apply iv; assumption)
          | exact True.intro | (apply bc_i; intro C hC) | apply bt_i | apply og_n | (apply og_a; exact rfl))
      all_goals (try conv => whnf)
      all_goals exact ⟨(), ⟨rfl, rfl, rfl, trivial⟩, rfl⟩
    intro _
    repeat' (first
      | (conv => whnf); first
        | refine .w ?_ | refine .v ?_ | apply sc_true | apply sc_false
        | (first | apply sc_lt | apply sc_nlt | apply sc_eq | apply sc_neq | apply sc_nil | apply sc_nnil | apply sc_seq | apply sc_nseq) <;> (intro hb; try exact dd hb)
        | apply sc_not | apply sc_or | (apply sc_i <;> intro hb)
        | (apply bx_i; intro hbd) | (apply gt_i; assumption; exact rfl)
        | (apply cx_is; first | exact h2 | exact h3) | (apply cx_do (i := 0) rfl; first | exact h2 | exact h3)
        | (apply ab_i; intro bl) | (apply as_i; intro va vk vc hva) | (apply av_i; intro v) | (apply ac_i; intro bl cap hcap)
        | apply bo_l | (apply nx_i <;> intro hnx) | (apply Ia.hit; assumption) | (apply Ia.miss; assumption)
        | (apply rt_is; exact rfl) | exact rt_w | (apply iv; assumption)
        | exact True.intro | (apply bc_i; intro C hC) | apply bt_i | apply og_n | (apply og_a; exact rfl))
    all_goals (try conv => whnf)
    · have hG := fill_time hf (by assumption)
      have hLF : (dateF (whN (tlB t.y) (tlB t.m) (tlB t.d)).toNat ++ ([84] ++ clkF (whN (tlB t.h) (tlB t.i) (tlB t.s)).toNat)).length ≤ 15 := by first | (rw [List.length_append, List.length_append, List.length_singleton]; omega) | omega
      rw [← hA] at hG
      refine lp hC hGL (fun (x : Nat × List UInt8 × List UInt8) => [(1, .rop [.int .i64 t.y, .int .i64 t.m, .int .i64 t.d, .int .i64 t.h, .int .i64 t.i, .int .i64 t.s, .bool t.z, .int .i64 t.o] 0), (3, .str x.2.2), (8, .str x.2.1), (73, .own 0 (.slice (some ⟨bl, 0, none⟩) (dateF (whN (tlB t.y) (tlB t.m) (tlB t.d)).toNat ++ ([84] ++ clkF (whN (tlB t.h) (tlB t.i) (tlB t.s)).toNat)).length cap)), (74, .int .i64 ((dateF (whN (tlB t.y) (tlB t.m) (tlB t.d)).toNat ++ ([84] ++ clkF (whN (tlB t.h) (tlB t.i) (tlB t.s)).toNat)).length : Nat)), (75, .int .i64 (x.1 : Nat))]) (fun _ => [.buf bl (dateF (whN (tlB t.y) (tlB t.m) (tlB t.d)).toNat ++ ([84] ++ clkF (whN (tlB t.h) (tlB t.i) (tlB t.s)).toNat)) cap]) (fun x => FillP (dateF (whN (tlB t.y) (tlB t.m) (tlB t.d)).toNat ++ ([84] ++ clkF (whN (tlB t.h) (tlB t.i) (tlB t.s)).toNat)) A x.1 x.2.1 x.2.2) (fun x => (dateF (whN (tlB t.y) (tlB t.m) (tlB t.d)).toNat ++ ([84] ++ clkF (whN (tlB t.h) (tlB t.i) (tlB t.s)).toNat)).length - x.1) (0, [], A) (fill_init hG.1 hl) (by repeat (first | exact trivial | refine And.intro rfl ?_)) rfl ?_
      rintro ⟨i, out, all⟩ hI
      have hI : FillP (dateF (whN (tlB t.y) (tlB t.m) (tlB t.d)).toNat ++ ([84] ++ clkF (whN (tlB t.h) (tlB t.i) (tlB t.s)).toNat)) A i out all := hI
      have hI1 := hI.1
      have hI2 := hI.2.1
      have hI3 := hI.2.2.1
      have hI0 := fun h => fill_pos hI h
      repeat' (first
        | (conv => whnf); first
          | refine .w ?_ | refine .v ?_ | apply sc_true | apply sc_false
          | (first | apply sc_lt | apply sc_nlt | apply sc_eq | apply sc_neq | apply sc_nil | apply sc_nnil | apply sc_seq | apply sc_nseq) <;> (intro hb; try exact dd hb)
          | apply sc_not | apply sc_or | (apply sc_i <;> intro hb)
          | (apply bx_i; intro hbd) | (apply gt_i; assumption; exact rfl)
          | (apply cx_is; first | exact h3) | (apply cx_do (i := 0) rfl; first | exact h3)
          | (apply ab_i; intro bl) | (apply as_i; intro va vk vc hva) | (apply av_i; intro v) | (apply ac_i; intro bl cap hcap)
          | apply bo_l | (apply nx_i <;> intro hnx) | (apply Ia.hit; assumption) | (apply Ia.miss; assumption)
          | (apply rt_is; exact rfl) | exact rt_w | (apply iv; assumption)
          | apply dw_q mixed hC hGL (by kernel_rfl) | (apply cq; assumption; (first | exact h3); exact rfl))
      all_goals (try conv => whnf)
      · refine op1_run hC hGL (rv_bytes [_] rfl (by intro v hv; obtain rfl := List.mem_singleton.1 hv; exact ⟨Int.natCast_nonneg _, by exact_mod_cast byteAt_lt _ _⟩) rfl rfl rfl rfl rfl rfl) rfl rfl ?_
        repeat' (first
          | (conv => whnf); first
            | refine .w ?_ | (first | refine Ix.v ?_ | refine Sd.v ?_ | refine Sl.v ?_) | apply sc_true | apply sc_false
            | (first | apply sc_lt | apply sc_nlt | apply sc_eq | apply sc_neq | apply sc_nil | apply sc_nnil) <;> (intro hb; try exact dd hb)
            | apply sc_not | (apply sc_i <;> intro hb) | (apply bx_i; intro hbd) | (apply gt_i; assumption; exact rfl)
            | (apply cx_is; first | fail) | (apply ab_i; intro bl) | (apply rt_is; exact rfl) | exact rt_w
            | exact True.intro | (apply bc_i; intro C hC) | apply bt_i | apply og_n | (apply og_a; exact rfl))
        all_goals (try conv => whnf)
        refine sp_i (show out.length + 1 ≤ 9223372036854775807 by omega) ?_
        repeat' (first
          | (conv => whnf); first
            | refine .w ?_ | (first | refine Ix.v ?_ | refine Sd.v ?_ | refine Sl.v ?_) | apply sc_true | apply sc_false
            | (first | apply sc_lt | apply sc_nlt | apply sc_eq | apply sc_neq | apply sc_nil | apply sc_nnil) <;> (intro hb; try exact dd hb)
            | apply sc_not | (apply sc_i <;> intro hb) | (apply bx_i; intro hbd) | (apply gt_i; assumption; exact rfl)
            | (apply cx_is; first | fail) | (apply ab_i; intro bl) | (apply rt_is; exact rfl) | exact rt_w
            | exact True.intro | (apply bc_i; intro C hC) | apply bt_i | apply og_n | (apply og_a; exact rfl))
        all_goals (try conv => whnf)
        refine nxt (i + 1, out ++ bytesI [(byteAt all 0 : Int)], all.drop 1) ?_ ?_ (by repeat (first | exact trivial | refine And.intro rfl ?_)) rfl
        · exact fill_hole hI (by omega) (by assumption)
        · show _ - (i + 1) < _ - i
          omega
      · refine op1_run hC hGL (rv_bytes [_] rfl (by intro v hv; obtain rfl := List.mem_singleton.1 hv; exact ⟨Int.natCast_nonneg _, by exact_mod_cast byteAt_lt _ _⟩) rfl rfl rfl rfl rfl rfl) rfl rfl ?_
        repeat' (first
          | (conv => whnf); first
            | refine .w ?_ | (first | refine Ix.v ?_ | refine Sd.v ?_ | refine Sl.v ?_) | apply sc_true | apply sc_false
            | (first | apply sc_lt | apply sc_nlt | apply sc_eq | apply sc_neq | apply sc_nil | apply sc_nnil) <;> (intro hb; try exact dd hb)
            | apply sc_not | (apply sc_i <;> intro hb) | (apply bx_i; intro hbd) | (apply gt_i; assumption; exact rfl)
            | (apply cx_is; first | fail) | (apply ab_i; intro bl) | (apply rt_is; exact rfl) | exact rt_w
            | exact True.intro | (apply bc_i; intro C hC) | apply bt_i | apply og_n | (apply og_a; exact rfl))
        all_goals (try conv => whnf)
        refine sp_i (show out.length + 1 ≤ 9223372036854775807 by omega) ?_
        repeat' (first
          | (conv => whnf); first
            | refine .w ?_ | (first | refine Ix.v ?_ | refine Sd.v ?_ | refine Sl.v ?_) | apply sc_true | apply sc_false
            | (first | apply sc_lt | apply sc_nlt | apply sc_eq | apply sc_neq | apply sc_nil | apply sc_nnil) <;> (intro hb; try exact dd hb)
            | apply sc_not | (apply sc_i <;> intro hb) | (apply bx_i; intro hbd) | (apply gt_i; assumption; exact rfl)
            | (apply cx_is; first | fail) | (apply ab_i; intro bl) | (apply rt_is; exact rfl) | exact rt_w
            | exact True.intro | (apply bc_i; intro C hC) | apply bt_i | apply og_n | (apply og_a; exact rfl))
        all_goals (try conv => whnf)
        refine nxt (i + 1, out ++ bytesI [(byteAt (dateF (whN (tlB t.y) (tlB t.m) (tlB t.d)).toNat ++ ([84] ++ clkF (whN (tlB t.h) (tlB t.i) (tlB t.s)).toNat)) i : Int)], all) ?_ ?_ (by repeat (first | exact trivial | refine And.intro rfl ?_)) rfl
        · exact fill_else hI (by omega) (by assumption)
        · show _ - (i + 1) < _ - i
          omega
      all_goals
        apply rt_is
        refine congrArg AVal.str ?_
        have e := fill_end hI (by omega)
        rw [hG.2] at e
        first
          | (rw [if_pos (by assumption), ← e])
          | (rw [if_neg (by simp only [Bool.not_eq_true]; assumption), ← e, List.append_nil])
    · have hG := fill_date hf (by assumption)
      have hLF : (dateF (whN (tlB t.y) (tlB t.m) (tlB t.d)).toNat).length ≤ 15 := by first | (rw [List.length_append, List.length_append, List.length_singleton]; omega) | omega
      rw [← hA] at hG
      refine lp hC hGL (fun (x : Nat × List UInt8 × List UInt8) => [(1, .rop [.int .i64 t.y, .int .i64 t.m, .int .i64 t.d, .int .i64 t.h, .int .i64 t.i, .int .i64 t.s, .bool t.z, .int .i64 t.o] 0), (3, .str x.2.2), (8, .str x.2.1), (73, .own 0 (.slice (some ⟨bl, 0, none⟩) (dateF (whN (tlB t.y) (tlB t.m) (tlB t.d)).toNat).length cap)), (74, .int .i64 ((dateF (whN (tlB t.y) (tlB t.m) (tlB t.d)).toNat).length : Nat)), (75, .int .i64 (x.1 : Nat))]) (fun _ => [.buf bl (dateF (whN (tlB t.y) (tlB t.m) (tlB t.d)).toNat) cap]) (fun x => FillP (dateF (whN (tlB t.y) (tlB t.m) (tlB t.d)).toNat) A x.1 x.2.1 x.2.2) (fun x => (dateF (whN (tlB t.y) (tlB t.m) (tlB t.d)).toNat).length - x.1) (0, [], A) (fill_init hG.1 hl) (by repeat (first | exact trivial | refine And.intro rfl ?_)) rfl ?_
      rintro ⟨i, out, all⟩ hI
      have hI : FillP (dateF (whN (tlB t.y) (tlB t.m) (tlB t.d)).toNat) A i out all := hI
      have hI1 := hI.1
      have hI2 := hI.2.1
      have hI3 := hI.2.2.1
      have hI0 := fun h => fill_pos hI h
      repeat' (first
        | (conv => whnf); first
          | refine .w ?_ | refine .v ?_ | apply sc_true | apply sc_false
          | (first | apply sc_lt | apply sc_nlt | apply sc_eq | apply sc_neq | apply sc_nil | apply sc_nnil | apply sc_seq | apply sc_nseq) <;> (intro hb; try exact dd hb)
          | apply sc_not | apply sc_or | (apply sc_i <;> intro hb)
          | (apply bx_i; intro hbd) | (apply gt_i; assumption; exact rfl)
          | (apply cx_is; first | exact h3) | (apply cx_do (i := 0) rfl; first | exact h3)
          | (apply ab_i; intro bl) | (apply as_i; intro va vk vc hva) | (apply av_i; intro v) | (apply ac_i; intro bl cap hcap)
          | apply bo_l | (apply nx_i <;> intro hnx) | (apply Ia.hit; assumption) | (apply Ia.miss; assumption)
          | (apply rt_is; exact rfl) | exact rt_w | (apply iv; assumption)
          | apply dw_q mixed hC hGL (by kernel_rfl) | (apply cq; assumption; (first | exact h3); exact rfl))
      all_goals (try conv => whnf)
      · refine op1_run hC hGL (rv_bytes [_] rfl (by intro v hv; obtain rfl := List.mem_singleton.1 hv; exact ⟨Int.natCast_nonneg _, by exact_mod_cast byteAt_lt _ _⟩) rfl rfl rfl rfl rfl rfl) rfl rfl ?_
        repeat' (first
          | (conv => whnf); first
            | refine .w ?_ | (first | refine Ix.v ?_ | refine Sd.v ?_ | refine Sl.v ?_) | apply sc_true | apply sc_false
            | (first | apply sc_lt | apply sc_nlt | apply sc_eq | apply sc_neq | apply sc_nil | apply sc_nnil) <;> (intro hb; try exact dd hb)
            | apply sc_not | (apply sc_i <;> intro hb) | (apply bx_i; intro hbd) | (apply gt_i; assumption; exact rfl)
            | (apply cx_is; first | fail) | (apply ab_i; intro bl) | (apply rt_is; exact rfl) | exact rt_w
            | exact True.intro | (apply bc_i; intro C hC) | apply bt_i | apply og_n | (apply og_a; exact rfl))
        all_goals (try conv => whnf)
        refine sp_i (show out.length + 1 ≤ 9223372036854775807 by omega) ?_
        repeat' (first
          | (conv => whnf); first
            | refine .w ?_ | (first | refine Ix.v ?_ | refine Sd.v ?_ | refine Sl.v ?_) | apply sc_true | apply sc_false
            | (first | apply sc_lt | apply sc_nlt | apply sc_eq | apply sc_neq | apply sc_nil | apply sc_nnil) <;> (intro hb; try exact dd hb)
            | apply sc_not | (apply sc_i <;> intro hb) | (apply bx_i; intro hbd) | (apply gt_i; assumption; exact rfl)
            | (apply cx_is; first | fail) | (apply ab_i; intro bl) | (apply rt_is; exact rfl) | exact rt_w
            | exact True.intro | (apply bc_i; intro C hC) | apply bt_i | apply og_n | (apply og_a; exact rfl))
        all_goals (try conv => whnf)
        refine nxt (i + 1, out ++ bytesI [(byteAt all 0 : Int)], all.drop 1) ?_ ?_ (by repeat (first | exact trivial | refine And.intro rfl ?_)) rfl
        · exact fill_hole hI (by omega) (by assumption)
        · show _ - (i + 1) < _ - i
          omega
      · refine op1_run hC hGL (rv_bytes [_] rfl (by intro v hv; obtain rfl := List.mem_singleton.1 hv; exact ⟨Int.natCast_nonneg _, by exact_mod_cast byteAt_lt _ _⟩) rfl rfl rfl rfl rfl rfl) rfl rfl ?_
        repeat' (first
          | (conv => whnf); first
            | refine .w ?_ | (first | refine Ix.v ?_ | refine Sd.v ?_ | refine Sl.v ?_) | apply sc_true | apply sc_false
            | (first | apply sc_lt | apply sc_nlt | apply sc_eq | apply sc_neq | apply sc_nil | apply sc_nnil) <;> (intro hb; try exact dd hb)
            | apply sc_not | (apply sc_i <;> intro hb) | (apply bx_i; intro hbd) | (apply gt_i; assumption; exact rfl)
            | (apply cx_is; first | fail) | (apply ab_i; intro bl) | (apply rt_is; exact rfl) | exact rt_w
            | exact True.intro | (apply bc_i; intro C hC) | apply bt_i | apply og_n | (apply og_a; exact rfl))
        all_goals (try conv => whnf)
        refine sp_i (show out.length + 1 ≤ 9223372036854775807 by omega) ?_
        repeat' (first
          | (conv => whnf); first
            | refine .w ?_ | (first | refine Ix.v ?_ | refine Sd.v ?_ | refine Sl.v ?_) | apply sc_true | apply sc_false
            | (first | apply sc_lt | apply sc_nlt | apply sc_eq | apply sc_neq | apply sc_nil | apply sc_nnil) <;> (intro hb; try exact dd hb)
            | apply sc_not | (apply sc_i <;> intro hb) | (apply bx_i; intro hbd) | (apply gt_i; assumption; exact rfl)
            | (apply cx_is; first | fail) | (apply ab_i; intro bl) | (apply rt_is; exact rfl) | exact rt_w
            | exact True.intro | (apply bc_i; intro C hC) | apply bt_i | apply og_n | (apply og_a; exact rfl))
        all_goals (try conv => whnf)
        refine nxt (i + 1, out ++ bytesI [(byteAt (dateF (whN (tlB t.y) (tlB t.m) (tlB t.d)).toNat) i : Int)], all) ?_ ?_ (by repeat (first | exact trivial | refine And.intro rfl ?_)) rfl
        · exact fill_else hI (by omega) (by assumption)
        · show _ - (i + 1) < _ - i
          omega
      all_goals
        apply rt_is
        refine congrArg AVal.str ?_
        have e := fill_end hI (by omega)
        rw [hG.2] at e
        first
          | (rw [if_pos (by assumption), ← e])
          | (rw [if_neg (by simp only [Bool.not_eq_true]; assumption), ← e, List.append_nil])
  · repeat' (first
      | (conv => whnf); first
        | refine .w ?_ | refine .v ?_ | apply sc_true | apply sc_false
        | (first | apply sc_lt | apply sc_nlt | apply sc_eq | apply sc_neq | apply sc_nil | apply sc_nnil | apply sc_seq | apply sc_nseq) <;> (intro hb; try exact dd hb)
        | apply sc_not | apply sc_or | (apply sc_i <;> intro hb)
        | (apply bx_i; intro hbd) | (apply gt_i; assumption; exact rfl)
        | (apply cx_is; first | exact when_four_int hP _ (by omega) (by omega)) | (apply cx_do (i := 0) rfl; first | exact when_four_int hP _ (by omega) (by omega))
        | (apply ab_i; intro bl) | (apply as_i; intro va vk vc hva) | (apply av_i; intro v) | (apply ac_i; intro bl cap hcap)
        | apply bo_l | (apply nx_i <;> intro hnx) | (apply Ia.hit; assumption) | (apply Ia.miss; assumption)
        | (apply rt_is; exact rfl) | exact rt_w | (apply iv; assumption)
        | exact True.intro | (apply bc_i; intro C hC) | apply bt_i | apply og_n | (apply og_a; exact rfl))
    all_goals (try conv => whnf)
    refine lp hC hGL (fun (x : Nat × List UInt8) => [(1, .rop [.int .i64 t.y, .int .i64 t.m, .int .i64 t.d, .int .i64 t.h, .int .i64 t.i, .int .i64 t.s, .bool t.z, .int .i64 t.o] 0), (3, .str x.2), (29, .list 1 5 (partElem [(0, .int .i64 t.m), (1, .int .i64 t.d), (2, .int .i64 t.h), (3, .int .i64 t.i), (4, .int .i64 t.s)])), (30, .int .i64 5), (31, .int .i64 (x.1 : Nat))]) (fun _ => []) (fun x => x.1 ≤ 5 ∧ x.2 = allP t x.1) (fun x => 5 - x.1) (0, fourS t.y) ⟨show 0 ≤ 5 by decide, (if_neg hy).symm⟩ (by repeat (first | exact trivial | refine And.intro rfl ?_)) rfl ?_
    rintro ⟨k', A⟩ ⟨hk, hA⟩
    have hk : k' ≤ 5 := hk
    have hA : A = allP t k' := hA
    have hl := all_le t k'
    rw [← hA] at hl
    rcases (show k' = 0 ∨ k' = 1 ∨ k' = 2 ∨ k' = 3 ∨ k' = 4 ∨ k' = 5 by omega) with rfl | rfl | rfl | rfl | rfl | rfl
    · repeat' (first
        | (conv => whnf); first
          | refine .w ?_ | (first | refine Ix.v ?_ | refine Sd.v ?_ | refine Sl.v ?_) | apply sc_true | apply sc_false
          | (first | apply sc_lt | apply sc_nlt | apply sc_eq | apply sc_neq | apply sc_nil | apply sc_nnil) <;> (intro hb; try exact dd hb)
          | apply sc_not | (apply sc_i <;> intro hb) | (apply bx_i; intro hbd) | (apply gt_i; assumption; exact rfl)
          | (apply cx_is; first | exact when_two_int _ (by omega) (by omega)) | (apply ab_i; intro bl) | (apply rt_is; exact rfl) | exact rt_w
          | exact True.intro | (apply bc_i; intro C hC) | apply bt_i | apply og_n | (apply og_a; exact rfl))
      all_goals (try conv => whnf)
      · refine nxs (1, A ++ twoS (numP t 0)) ⟨show (1 : Nat) ≤ 5 by decide, all_in hA (by assumption)⟩ (show 5 - 1 < 5 - 0 by decide) (by repeat (first | exact trivial | refine And.intro rfl ?_)) (by repeat (first | exact List.nil_sublist _ | apply List.Sublist.cons_cons | apply List.Sublist.cons))
      · refine nxs (1, A) ⟨show (1 : Nat) ≤ 5 by decide, all_out hA (by assumption)⟩ (show 5 - 1 < 5 - 0 by decide) (by repeat (first | exact trivial | refine And.intro rfl ?_)) (by repeat (first | exact List.nil_sublist _ | apply List.Sublist.cons_cons | apply List.Sublist.cons))
    · repeat' (first
        | (conv => whnf); first
          | refine .w ?_ | (first | refine Ix.v ?_ | refine Sd.v ?_ | refine Sl.v ?_) | apply sc_true | apply sc_false
          | (first | apply sc_lt | apply sc_nlt | apply sc_eq | apply sc_neq | apply sc_nil | apply sc_nnil) <;> (intro hb; try exact dd hb)
          | apply sc_not | (apply sc_i <;> intro hb) | (apply bx_i; intro hbd) | (apply gt_i; assumption; exact rfl)
          | (apply cx_is; first | exact when_two_int _ (by omega) (by omega)) | (apply ab_i; intro bl) | (apply rt_is; exact rfl) | exact rt_w
          | exact True.intro | (apply bc_i; intro C hC) | apply bt_i | apply og_n | (apply og_a; exact rfl))
      all_goals (try conv => whnf)
      · refine nxs (2, A ++ twoS (numP t 1)) ⟨show (2 : Nat) ≤ 5 by decide, all_in hA (by assumption)⟩ (show 5 - 2 < 5 - 1 by decide) (by repeat (first | exact trivial | refine And.intro rfl ?_)) (by repeat (first | exact List.nil_sublist _ | apply List.Sublist.cons_cons | apply List.Sublist.cons))
      · refine nxs (2, A) ⟨show (2 : Nat) ≤ 5 by decide, all_out hA (by assumption)⟩ (show 5 - 2 < 5 - 1 by decide) (by repeat (first | exact trivial | refine And.intro rfl ?_)) (by repeat (first | exact List.nil_sublist _ | apply List.Sublist.cons_cons | apply List.Sublist.cons))
    · repeat' (first
        | (conv => whnf); first
          | refine .w ?_ | (first | refine Ix.v ?_ | refine Sd.v ?_ | refine Sl.v ?_) | apply sc_true | apply sc_false
          | (first | apply sc_lt | apply sc_nlt | apply sc_eq | apply sc_neq | apply sc_nil | apply sc_nnil) <;> (intro hb; try exact dd hb)
          | apply sc_not | (apply sc_i <;> intro hb) | (apply bx_i; intro hbd) | (apply gt_i; assumption; exact rfl)
          | (apply cx_is; first | exact when_two_int _ (by omega) (by omega)) | (apply ab_i; intro bl) | (apply rt_is; exact rfl) | exact rt_w
          | exact True.intro | (apply bc_i; intro C hC) | apply bt_i | apply og_n | (apply og_a; exact rfl))
      all_goals (try conv => whnf)
      · refine nxs (3, A ++ twoS (numP t 2)) ⟨show (3 : Nat) ≤ 5 by decide, all_in hA (by assumption)⟩ (show 5 - 3 < 5 - 2 by decide) (by repeat (first | exact trivial | refine And.intro rfl ?_)) (by repeat (first | exact List.nil_sublist _ | apply List.Sublist.cons_cons | apply List.Sublist.cons))
      · refine nxs (3, A) ⟨show (3 : Nat) ≤ 5 by decide, all_out hA (by assumption)⟩ (show 5 - 3 < 5 - 2 by decide) (by repeat (first | exact trivial | refine And.intro rfl ?_)) (by repeat (first | exact List.nil_sublist _ | apply List.Sublist.cons_cons | apply List.Sublist.cons))
    · repeat' (first
        | (conv => whnf); first
          | refine .w ?_ | (first | refine Ix.v ?_ | refine Sd.v ?_ | refine Sl.v ?_) | apply sc_true | apply sc_false
          | (first | apply sc_lt | apply sc_nlt | apply sc_eq | apply sc_neq | apply sc_nil | apply sc_nnil) <;> (intro hb; try exact dd hb)
          | apply sc_not | (apply sc_i <;> intro hb) | (apply bx_i; intro hbd) | (apply gt_i; assumption; exact rfl)
          | (apply cx_is; first | exact when_two_int _ (by omega) (by omega)) | (apply ab_i; intro bl) | (apply rt_is; exact rfl) | exact rt_w
          | exact True.intro | (apply bc_i; intro C hC) | apply bt_i | apply og_n | (apply og_a; exact rfl))
      all_goals (try conv => whnf)
      · refine nxs (4, A ++ twoS (numP t 3)) ⟨show (4 : Nat) ≤ 5 by decide, all_in hA (by assumption)⟩ (show 5 - 4 < 5 - 3 by decide) (by repeat (first | exact trivial | refine And.intro rfl ?_)) (by repeat (first | exact List.nil_sublist _ | apply List.Sublist.cons_cons | apply List.Sublist.cons))
      · refine nxs (4, A) ⟨show (4 : Nat) ≤ 5 by decide, all_out hA (by assumption)⟩ (show 5 - 4 < 5 - 3 by decide) (by repeat (first | exact trivial | refine And.intro rfl ?_)) (by repeat (first | exact List.nil_sublist _ | apply List.Sublist.cons_cons | apply List.Sublist.cons))
    · repeat' (first
        | (conv => whnf); first
          | refine .w ?_ | (first | refine Ix.v ?_ | refine Sd.v ?_ | refine Sl.v ?_) | apply sc_true | apply sc_false
          | (first | apply sc_lt | apply sc_nlt | apply sc_eq | apply sc_neq | apply sc_nil | apply sc_nnil) <;> (intro hb; try exact dd hb)
          | apply sc_not | (apply sc_i <;> intro hb) | (apply bx_i; intro hbd) | (apply gt_i; assumption; exact rfl)
          | (apply cx_is; first | exact when_two_int _ (by omega) (by omega)) | (apply ab_i; intro bl) | (apply rt_is; exact rfl) | exact rt_w
          | exact True.intro | (apply bc_i; intro C hC) | apply bt_i | apply og_n | (apply og_a; exact rfl))
      all_goals (try conv => whnf)
      · refine nxs (5, A ++ twoS (numP t 4)) ⟨show (5 : Nat) ≤ 5 by decide, all_in hA (by assumption)⟩ (show 5 - 5 < 5 - 4 by decide) (by repeat (first | exact trivial | refine And.intro rfl ?_)) (by repeat (first | exact List.nil_sublist _ | apply List.Sublist.cons_cons | apply List.Sublist.cons))
      · refine nxs (5, A) ⟨show (5 : Nat) ≤ 5 by decide, all_out hA (by assumption)⟩ (show 5 - 5 < 5 - 4 by decide) (by repeat (first | exact trivial | refine And.intro rfl ?_)) (by repeat (first | exact List.nil_sublist _ | apply List.Sublist.cons_cons | apply List.Sublist.cons))
    repeat' (first
      | (conv => whnf); first
        | refine .w ?_ | (first | refine Ix.v ?_ | refine Sd.v ?_ | refine Sl.v ?_) | apply sc_true | apply sc_false
        | (first | apply sc_lt | apply sc_nlt | apply sc_eq | apply sc_neq | apply sc_nil | apply sc_nnil) <;> (intro hb; try exact dd hb)
        | apply sc_not | (apply sc_i <;> intro hb) | (apply bx_i; intro hbd) | (apply gt_i; assumption; exact rfl)
        | (apply cx_is; first | fail) | (apply ab_i; intro bl) | (apply rt_is; exact rfl) | exact rt_w
        | exact True.intro | (apply bc_i; intro C hC) | apply bt_i | apply og_n | (apply og_a; exact rfl))
    all_goals (try conv => whnf)
    refine dw_p mixed hC hGL false (fun (_ : Unit) => [(1, .rop [.int .i64 t.y, .int .i64 t.m, .int .i64 t.d, .int .i64 t.h, .int .i64 t.i, .int .i64 t.s, .bool t.z, .int .i64 t.o] 0), (3, .str A), (6, .str (dateF (whN (tlB t.y) (tlB t.m) (tlB t.d)).toNat))]) (fun _ => []) (.take 1 (.take 2 (.take 3 (.take 4 (.take 5 (.take 6 (.br 0 (.br 7 (.br 8 (.take 9 (.take 10 (.take 11 (.take 12 (.done))))) (.nil)) (.nil)) (.br 7 (.br 0 (.br 8 (.take 9 (.take 10 (.take 11 (.take 12 (.done))))) (.nil)) (.br 8 (.br 0 (.take 9 (.take 10 (.take 11 (.take 12 (.done))))) (.nil)) (.nil))) (.nil))))))))) (by kernel_rfl) ?_ ?_
    · repeat' (first
        | (conv => whnf); first
          | refine .w ?_ | refine .v ?_ | apply sc_true | apply sc_false
          | (first | apply sc_lt | apply sc_nlt | apply sc_eq | apply sc_neq | apply sc_nil | apply sc_nnil | apply sc_seq | apply sc_nseq) <;> (intro hb; try exact dd hb)
          | apply sc_not | apply sc_or | (apply sc_i <;> intro hb)
          | (apply bx_i; intro hbd) | (apply gt_i; assumption; exact rfl)
          | (apply cx_is; first | exact h1) | (apply cx_do (i := 0) rfl; first | exact h1)
          | (apply ab_i; intro bl) | (apply as_i; intro va vk vc hva) | (apply av_i; intro v) | (apply ac_i; intro bl cap hcap)
          | apply bo_l | (apply nx_i <;> intro hnx) | (apply Ia.hit; assumption) | (apply Ia.miss; assumption)
          | (apply rt_is; exact rfl) | exact rt_w | (apply iv; assumption)
          | exact True.intro | (apply bc_i; intro C hC) | apply bt_i | apply og_n | (apply og_a; exact rfl))
      all_goals (try conv => whnf)
      all_goals exact ⟨(), ⟨rfl, rfl, rfl, trivial⟩, rfl⟩
    intro _
    repeat' (first
      | (conv => whnf); first
        | refine .w ?_ | refine .v ?_ | apply sc_true | apply sc_false
        | (first | apply sc_lt | apply sc_nlt | apply sc_eq | apply sc_neq | apply sc_nil | apply sc_nnil | apply sc_seq | apply sc_nseq) <;> (intro hb; try exact dd hb)
        | apply sc_not | apply sc_or | (apply sc_i <;> intro hb)
        | (apply bx_i; intro hbd) | (apply gt_i; assumption; exact rfl)
        | (apply cx_is; first | exact h2 | exact h3) | (apply cx_do (i := 0) rfl; first | exact h2 | exact h3)
        | (apply ab_i; intro bl) | (apply as_i; intro va vk vc hva) | (apply av_i; intro v) | (apply ac_i; intro bl cap hcap)
        | apply bo_l | (apply nx_i <;> intro hnx) | (apply Ia.hit; assumption) | (apply Ia.miss; assumption)
        | (apply rt_is; exact rfl) | exact rt_w | (apply iv; assumption)
        | exact True.intro | (apply bc_i; intro C hC) | apply bt_i | apply og_n | (apply og_a; exact rfl))
    all_goals (try conv => whnf)
    · have hG := fill_time hf (by assumption)
      have hLF : (dateF (whN (tlB t.y) (tlB t.m) (tlB t.d)).toNat ++ ([84] ++ clkF (whN (tlB t.h) (tlB t.i) (tlB t.s)).toNat)).length ≤ 15 := by first | (rw [List.length_append, List.length_append, List.length_singleton]; omega) | omega
      rw [← hA] at hG
      refine lp hC hGL (fun (x : Nat × List UInt8 × List UInt8) => [(1, .rop [.int .i64 t.y, .int .i64 t.m, .int .i64 t.d, .int .i64 t.h, .int .i64 t.i, .int .i64 t.s, .bool t.z, .int .i64 t.o] 0), (3, .str x.2.2), (8, .str x.2.1), (73, .own 0 (.slice (some ⟨bl, 0, none⟩) (dateF (whN (tlB t.y) (tlB t.m) (tlB t.d)).toNat ++ ([84] ++ clkF (whN (tlB t.h) (tlB t.i) (tlB t.s)).toNat)).length cap)), (74, .int .i64 ((dateF (whN (tlB t.y) (tlB t.m) (tlB t.d)).toNat ++ ([84] ++ clkF (whN (tlB t.h) (tlB t.i) (tlB t.s)).toNat)).length : Nat)), (75, .int .i64 (x.1 : Nat))]) (fun _ => [.buf bl (dateF (whN (tlB t.y) (tlB t.m) (tlB t.d)).toNat ++ ([84] ++ clkF (whN (tlB t.h) (tlB t.i) (tlB t.s)).toNat)) cap]) (fun x => FillP (dateF (whN (tlB t.y) (tlB t.m) (tlB t.d)).toNat ++ ([84] ++ clkF (whN (tlB t.h) (tlB t.i) (tlB t.s)).toNat)) A x.1 x.2.1 x.2.2) (fun x => (dateF (whN (tlB t.y) (tlB t.m) (tlB t.d)).toNat ++ ([84] ++ clkF (whN (tlB t.h) (tlB t.i) (tlB t.s)).toNat)).length - x.1) (0, [], A) (fill_init hG.1 hl) (by repeat (first | exact trivial | refine And.intro rfl ?_)) rfl ?_
      rintro ⟨i, out, all⟩ hI
      have hI : FillP (dateF (whN (tlB t.y) (tlB t.m) (tlB t.d)).toNat ++ ([84] ++ clkF (whN (tlB t.h) (tlB t.i) (tlB t.s)).toNat)) A i out all := hI
      have hI1 := hI.1
      have hI2 := hI.2.1
      have hI3 := hI.2.2.1
      have hI0 := fun h => fill_pos hI h
      repeat' (first
        | (conv => whnf); first
          | refine .w ?_ | refine .v ?_ | apply sc_true | apply sc_false
          | (first | apply sc_lt | apply sc_nlt | apply sc_eq | apply sc_neq | apply sc_nil | apply sc_nnil | apply sc_seq | apply sc_nseq) <;> (intro hb; try exact dd hb)
          | apply sc_not | apply sc_or | (apply sc_i <;> intro hb)
          | (apply bx_i; intro hbd) | (apply gt_i; assumption; exact rfl)
          | (apply cx_is; first | exact h3) | (apply cx_do (i := 0) rfl; first | exact h3)
          | (apply ab_i; intro bl) | (apply as_i; intro va vk vc hva) | (apply av_i; intro v) | (apply ac_i; intro bl cap hcap)
          | apply bo_l | (apply nx_i <;> intro hnx) | (apply Ia.hit; assumption) | (apply Ia.miss; assumption)
          | (apply rt_is; exact rfl) | exact rt_w | (apply iv; assumption)
          | apply dw_q mixed hC hGL (by kernel_rfl) | (apply cq; assumption; (first | exact h3); exact rfl))
      all_goals (try conv => whnf)
      · refine op1_run hC hGL (rv_bytes [_] rfl (by intro v hv; obtain rfl := List.mem_singleton.1 hv; exact ⟨Int.natCast_nonneg _, by exact_mod_cast byteAt_lt _ _⟩) rfl rfl rfl rfl rfl rfl) rfl rfl ?_
        repeat' (first
          | (conv => whnf); first
            | refine .w ?_ | (first | refine Ix.v ?_ | refine Sd.v ?_ | refine Sl.v ?_) | apply sc_true | apply sc_false
            | (first | apply sc_lt | apply sc_nlt | apply sc_eq | apply sc_neq | apply sc_nil | apply sc_nnil) <;> (intro hb; try exact dd hb)
            | apply sc_not | (apply sc_i <;> intro hb) | (apply bx_i; intro hbd) | (apply gt_i; assumption; exact rfl)
            | (apply cx_is; first | fail) | (apply ab_i; intro bl) | (apply rt_is; exact rfl) | exact rt_w
            | exact True.intro | (apply bc_i; intro C hC) | apply bt_i | apply og_n | (apply og_a; exact rfl))
        all_goals (try conv => whnf)
        refine sp_i (show out.length + 1 ≤ 9223372036854775807 by omega) ?_
        repeat' (first
          | (conv => whnf); first
            | refine .w ?_ | (first | refine Ix.v ?_ | refine Sd.v ?_ | refine Sl.v ?_) | apply sc_true | apply sc_false
            | (first | apply sc_lt | apply sc_nlt | apply sc_eq | apply sc_neq | apply sc_nil | apply sc_nnil) <;> (intro hb; try exact dd hb)
            | apply sc_not | (apply sc_i <;> intro hb) | (apply bx_i; intro hbd) | (apply gt_i; assumption; exact rfl)
            | (apply cx_is; first | fail) | (apply ab_i; intro bl) | (apply rt_is; exact rfl) | exact rt_w
            | exact True.intro | (apply bc_i; intro C hC) | apply bt_i | apply og_n | (apply og_a; exact rfl))
        all_goals (try conv => whnf)
        refine nxt (i + 1, out ++ bytesI [(byteAt all 0 : Int)], all.drop 1) ?_ ?_ (by repeat (first | exact trivial | refine And.intro rfl ?_)) rfl
        · exact fill_hole hI (by omega) (by assumption)
        · show _ - (i + 1) < _ - i
          omega
      · refine op1_run hC hGL (rv_bytes [_] rfl (by intro v hv; obtain rfl := List.mem_singleton.1 hv; exact ⟨Int.natCast_nonneg _, by exact_mod_cast byteAt_lt _ _⟩) rfl rfl rfl rfl rfl rfl) rfl rfl ?_
        repeat' (first
          | (conv => whnf); first
            | refine .w ?_ | (first | refine Ix.v ?_ | refine Sd.v ?_ | refine Sl.v ?_) | apply sc_true | apply sc_false
            | (first | apply sc_lt | apply sc_nlt | apply sc_eq | apply sc_neq | apply sc_nil | apply sc_nnil) <;> (intro hb; try exact dd hb)
            | apply sc_not | (apply sc_i <;> intro hb) | (apply bx_i; intro hbd) | (apply gt_i; assumption; exact rfl)
            | (apply cx_is; first | fail) | (apply ab_i; intro bl) | (apply rt_is; exact rfl) | exact rt_w
            | exact True.intro | (apply bc_i; intro C hC) | apply bt_i | apply og_n | (apply og_a; exact rfl))
        all_goals (try conv => whnf)
        refine sp_i (show out.length + 1 ≤ 9223372036854775807 by omega) ?_
        repeat' (first
          | (conv => whnf); first
            | refine .w ?_ | (first | refine Ix.v ?_ | refine Sd.v ?_ | refine Sl.v ?_) | apply sc_true | apply sc_false
            | (first | apply sc_lt | apply sc_nlt | apply sc_eq | apply sc_neq | apply sc_nil | apply sc_nnil) <;> (intro hb; try exact dd hb)
            | apply sc_not | (apply sc_i <;> intro hb) | (apply bx_i; intro hbd) | (apply gt_i; assumption; exact rfl)
            | (apply cx_is; first | fail) | (apply ab_i; intro bl) | (apply rt_is; exact rfl) | exact rt_w
            | exact True.intro | (apply bc_i; intro C hC) | apply bt_i | apply og_n | (apply og_a; exact rfl))
        all_goals (try conv => whnf)
        refine nxt (i + 1, out ++ bytesI [(byteAt (dateF (whN (tlB t.y) (tlB t.m) (tlB t.d)).toNat ++ ([84] ++ clkF (whN (tlB t.h) (tlB t.i) (tlB t.s)).toNat)) i : Int)], all) ?_ ?_ (by repeat (first | exact trivial | refine And.intro rfl ?_)) rfl
        · exact fill_else hI (by omega) (by assumption)
        · show _ - (i + 1) < _ - i
          omega
      all_goals
        apply rt_is
        refine congrArg AVal.str ?_
        have e := fill_end hI (by omega)
        rw [hG.2] at e
        first
          | (rw [if_pos (by assumption), ← e])
          | (rw [if_neg (by simp only [Bool.not_eq_true]; assumption), ← e, List.append_nil])
    · have hG := fill_date hf (by assumption)
      have hLF : (dateF (whN (tlB t.y) (tlB t.m) (tlB t.d)).toNat).length ≤ 15 := by first | (rw [List.length_append, List.length_append, List.length_singleton]; omega) | omega
      rw [← hA] at hG
      refine lp hC hGL (fun (x : Nat × List UInt8 × List UInt8) => [(1, .rop [.int .i64 t.y, .int .i64 t.m, .int .i64 t.d, .int .i64 t.h, .int .i64 t.i, .int .i64 t.s, .bool t.z, .int .i64 t.o] 0), (3, .str x.2.2), (8, .str x.2.1), (73, .own 0 (.slice (some ⟨bl, 0, none⟩) (dateF (whN (tlB t.y) (tlB t.m) (tlB t.d)).toNat).length cap)), (74, .int .i64 ((dateF (whN (tlB t.y) (tlB t.m) (tlB t.d)).toNat).length : Nat)), (75, .int .i64 (x.1 : Nat))]) (fun _ => [.buf bl (dateF (whN (tlB t.y) (tlB t.m) (tlB t.d)).toNat) cap]) (fun x => FillP (dateF (whN (tlB t.y) (tlB t.m) (tlB t.d)).toNat) A x.1 x.2.1 x.2.2) (fun x => (dateF (whN (tlB t.y) (tlB t.m) (tlB t.d)).toNat).length - x.1) (0, [], A) (fill_init hG.1 hl) (by repeat (first | exact trivial | refine And.intro rfl ?_)) rfl ?_
      rintro ⟨i, out, all⟩ hI
      have hI : FillP (dateF (whN (tlB t.y) (tlB t.m) (tlB t.d)).toNat) A i out all := hI
      have hI1 := hI.1
      have hI2 := hI.2.1
      have hI3 := hI.2.2.1
      have hI0 := fun h => fill_pos hI h
      repeat' (first
        | (conv => whnf); first
          | refine .w ?_ | refine .v ?_ | apply sc_true | apply sc_false
          | (first | apply sc_lt | apply sc_nlt | apply sc_eq | apply sc_neq | apply sc_nil | apply sc_nnil | apply sc_seq | apply sc_nseq) <;> (intro hb; try exact dd hb)
          | apply sc_not | apply sc_or | (apply sc_i <;> intro hb)
          | (apply bx_i; intro hbd) | (apply gt_i; assumption; exact rfl)
          | (apply cx_is; first | exact h3) | (apply cx_do (i := 0) rfl; first | exact h3)
          | (apply ab_i; intro bl) | (apply as_i; intro va vk vc hva) | (apply av_i; intro v) | (apply ac_i; intro bl cap hcap)
          | apply bo_l | (apply nx_i <;> intro hnx) | (apply Ia.hit; assumption) | (apply Ia.miss; assumption)
          | (apply rt_is; exact rfl) | exact rt_w | (apply iv; assumption)
          | apply dw_q mixed hC hGL (by kernel_rfl) | (apply cq; assumption; (first | exact h3); exact rfl))
      all_goals (try conv => whnf)
      · refine op1_run hC hGL (rv_bytes [_] rfl (by intro v hv; obtain rfl := List.mem_singleton.1 hv; exact ⟨Int.natCast_nonneg _, by exact_mod_cast byteAt_lt _ _⟩) rfl rfl rfl rfl rfl rfl) rfl rfl ?_
        repeat' (first
          | (conv => whnf); first
            | refine .w ?_ | (first | refine Ix.v ?_ | refine Sd.v ?_ | refine Sl.v ?_) | apply sc_true | apply sc_false
            | (first | apply sc_lt | apply sc_nlt | apply sc_eq | apply sc_neq | apply sc_nil | apply sc_nnil) <;> (intro hb; try exact dd hb)
            | apply sc_not | (apply sc_i <;> intro hb) | (apply bx_i; intro hbd) | (apply gt_i; assumption; exact rfl)
            | (apply cx_is; first | fail) | (apply ab_i; intro bl) | (apply rt_is; exact rfl) | exact rt_w
            | exact True.intro | (apply bc_i; intro C hC) | apply bt_i | apply og_n | (apply og_a; exact rfl))
        all_goals (try conv => whnf)
        refine sp_i (show out.length + 1 ≤ 9223372036854775807 by omega) ?_
        repeat' (first
          | (conv => whnf); first
            | refine .w ?_ | (first | refine Ix.v ?_ | refine Sd.v ?_ | refine Sl.v ?_) | apply sc_true | apply sc_false
            | (first | apply sc_lt | apply sc_nlt | apply sc_eq | apply sc_neq | apply sc_nil | apply sc_nnil) <;> (intro hb; try exact dd hb)
            | apply sc_not | (apply sc_i <;> intro hb) | (apply bx_i; intro hbd) | (apply gt_i; assumption; exact rfl)
            | (apply cx_is; first | fail) | (apply ab_i; intro bl) | (apply rt_is; exact rfl) | exact rt_w
            | exact True.intro | (apply bc_i; intro C hC) | apply bt_i | apply og_n | (apply og_a; exact rfl))
        all_goals (try conv => whnf)
        refine nxt (i + 1, out ++ bytesI [(byteAt all 0 : Int)], all.drop 1) ?_ ?_ (by repeat (first | exact trivial | refine And.intro rfl ?_)) rfl
        · exact fill_hole hI (by omega) (by assumption)
        · show _ - (i + 1) < _ - i
          omega
      · refine op1_run hC hGL (rv_bytes [_] rfl (by intro v hv; obtain rfl := List.mem_singleton.1 hv; exact ⟨Int.natCast_nonneg _, by exact_mod_cast byteAt_lt _ _⟩) rfl rfl rfl rfl rfl rfl) rfl rfl ?_
        repeat' (first
          | (conv => whnf); first
            | refine .w ?_ | (first | refine Ix.v ?_ | refine Sd.v ?_ | refine Sl.v ?_) | apply sc_true | apply sc_false
            | (first | apply sc_lt | apply sc_nlt | apply sc_eq | apply sc_neq | apply sc_nil | apply sc_nnil) <;> (intro hb; try exact dd hb)
            | apply sc_not | (apply sc_i <;> intro hb) | (apply bx_i; intro hbd) | (apply gt_i; assumption; exact rfl)
            | (apply cx_is; first | fail) | (apply ab_i; intro bl) | (apply rt_is; exact rfl) | exact rt_w
            | exact True.intro | (apply bc_i; intro C hC) | apply bt_i | apply og_n | (apply og_a; exact rfl))
        all_goals (try conv => whnf)
        refine sp_i (show out.length + 1 ≤ 9223372036854775807 by omega) ?_
        repeat' (first
          | (conv => whnf); first
            | refine .w ?_ | (first | refine Ix.v ?_ | refine Sd.v ?_ | refine Sl.v ?_) | apply sc_true | apply sc_false
            | (first | apply sc_lt | apply sc_nlt | apply sc_eq | apply sc_neq | apply sc_nil | apply sc_nnil) <;> (intro hb; try exact dd hb)
            | apply sc_not | (apply sc_i <;> intro hb) | (apply bx_i; intro hbd) | (apply gt_i; assumption; exact rfl)
            | (apply cx_is; first | fail) | (apply ab_i; intro bl) | (apply rt_is; exact rfl) | exact rt_w
            | exact True.intro | (apply bc_i; intro C hC) | apply bt_i | apply og_n | (apply og_a; exact rfl))
        all_goals (try conv => whnf)
        refine nxt (i + 1, out ++ bytesI [(byteAt (dateF (whN (tlB t.y) (tlB t.m) (tlB t.d)).toNat) i : Int)], all) ?_ ?_ (by repeat (first | exact trivial | refine And.intro rfl ?_)) rfl
        · exact fill_else hI (by omega) (by assumption)
        · show _ - (i + 1) < _ - i
          omega
      all_goals
        apply rt_is
        refine congrArg AVal.str ?_
        have e := fill_end hI (by omega)
        rw [hG.2] at e
        first
          | (rw [if_pos (by assumption), ← e])
          | (rw [if_neg (by simp only [Bool.not_eq_true]; assumption), ← e, List.append_nil])
end Go.Proofs.YtgjckfphallmeaaGreatDoor
