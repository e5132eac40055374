/- Parts of the proof of linePrints_card: Rpq, Lnc, Bu, Vr, Bw, Bx, Ia. -/
import Derived.Lib.Builder
import Derived.Lib.UnsafeStr
import Derived.Scope
import Derived.Lib.IndexAny
import Derived.Test.YtglapkioagenaaaGreatDoorBag
import Derived.Test.YtglapkioagenaaaGreatDoorBaf
import Derived.Test.YtglapkioagenaaaGreatDoorBae
import Derived.Test.YtglapkioagenaaaGreatDoorBad
set_option linter.unusedVariables false
set_option linter.unusedSimpArgs false
namespace Go.Proofs.YtglapkioagenaaaGreatDoor
open Go Go.RowKit
set_option maxRecDepth 20000
set_option maxHeartbeats 4000000
set_option linter.unusedSimpArgs false
set_option linter.unusedVariables false
attribute [local irreducible] AWp AOps byteAt SrcOK OrOk GloAll FnSpec
attribute [local irreducible] tabC encF encS
theorem ca_m_bsr (a : AVal) : ∀ R v, Rel R a v → ∀ w, ∃ u, (Go.method (Tryz.prog.types.size + Made.depth) 148 v "Replace").run Tryz.prog w = .ok (152, u) w ∧ Rel R a u := by
  intro R v hv w
  exact ⟨v, by kernel_rfl, hv⟩
/-- What a replacer's building leaves. -/
structure EncY where
  va : Option Addr
  vk : Nat
  vt : Nat
  bz : Nat
  b1 : Nat
  c1 : Nat
  b2 : Nat
  c2 : Nat
  b3 : Nat
  c3 : Nat
  h : RowV 3 va vk
abbrev encR (y : EncY) : List AVal := [.int .u32 0, .int .i32 1, .int .u32 0, .iface 148 (.own 3 (pv y.bz 0)), .raw (.slice none 0 0)]
abbrev encQ (y : EncY) : List AVal := [.int .u32 1, .int .i32 0, .int .u32 0, .iface 148 (.own 3 (pv y.bz 0)), .raw (.slice none 0 0)]
theorem do_enc {G : Glo} (br bl vc : Nat) : FnSpec Tryz.prog G 47 [.raw (pv bl 0), .func (.func 48) [.raw (pv bl 0)] []] [.row (.slice (some ⟨br, 0, none⟩) 6 vc) none 1 6 [.str [94], .str [94, 94], .str [10], .str [94, 110], .str [34], .str [94, 39]], .cells bl (some 95) (ca_newC (.slice (some ⟨br, 0, none⟩) 6 vc))]
    (fun r H => ∃ y : EncY, r = .ret (.tuple []) ∧ H = encH br bl vc (encQ y) y.va y.vk y.vt y.bz y.b1 y.c1 y.b2 y.c2 y.b3 y.c3) := by
  have e1 := build_once (G := G) br bl vc
  have e2 := once_do (G := G) (b := bl) (off := 0) (fid := 48) (eT := some 95) (cs := ca_newC (.slice (some ⟨br, 0, none⟩) 6 vc)) (T := [.row (.slice (some ⟨br, 0, none⟩) 6 vc) none 1 6 [.str [94], .str [94, 94], .str [10], .str [94, 110], .str [34], .str [94, 39]]]) (Y := EncY) (cs2 := encR) (T2 := fun y => (encH br bl vc (encR y) y.va y.vk y.vt y.bz y.b1 y.c1 y.b2 y.c2 y.b3 y.c3).eraseIdx 1) (l1 := [.raw (pv bl 0)]) (l2 := []) rfl rfl (fun _ => rfl) (fun _ => rfl) rfl rfl
    (by
      refine fn_heap (fn_perm (List.Perm.swap _ _ _) e1) ?_
      rintro r H ⟨va, vk, vt, bz, b1, c1, b2, c2, b3, c3, hva, rfl, rfl⟩
      exact ⟨_, List.Perm.swap _ _ _, ⟨va, vk, vt, bz, b1, c1, b2, c2, b3, c3, hva⟩, rfl, rfl⟩)
  refine fn_heap (fn_perm (List.Perm.swap _ _ _) e2) ?_
  rintro r H ⟨y, rfl, rfl⟩
  exact ⟨_, List.Perm.swap _ _ _, y, rfl, rfl⟩
theorem replace_enc {G : Glo} (br bl vc : Nat) (s : List UInt8) (hl : s.length ≤ 1000000) (hct : ∀ c, FnIs Tryz.prog G 154 [.str s, .str [c]] (.int .i64 (s.countP (· == c) : Nat))) :
    FnSpec Tryz.prog G 33 [.raw (pv bl 0), .str s] [.row (.slice (some ⟨br, 0, none⟩) 6 vc) none 1 6 [.str [94], .str [94, 94], .str [10], .str [94, 110], .str [34], .str [94, 39]], .cells bl (some 95) (ca_newC (.slice (some ⟨br, 0, none⟩) 6 vc))] (fun r H => r = .ret (.str (encS s)) ∧ H = []) := by
  have hGL : GloAll G [] := gloAll_nil
  have e1 := do_enc (G := G) br bl vc
  refine fn_xp 1 Tryz.func33 Tryz.call33 rfl rfl rfl rfl hGL rfl ?_
  intro C hC
  repeat' (first
    | (conv => whnf); first
      | refine .w ?_ | refine .v ?_ | apply sc_true | apply sc_false
      | (first | apply sc_lt | apply sc_nlt | apply sc_eq | apply sc_neq | apply sc_nil | apply sc_nnil | apply sc_seq | apply sc_nseq) <;> (intro hb; try exact dd hb)
      | apply sc_not | apply sc_or | (apply sc_i <;> intro hb)
      | (apply bx_i; intro hbd) | (apply gt_i; assumption; exact rfl)
      | (apply cx_is; first | fail) | (apply cx_do (i := 0) rfl; first | fail)
      | (apply ab_i; intro bl) | (apply as_i; intro va vk vc hva) | (apply av_i; intro v) | (apply ac_i; intro bl cap hcap)
      | apply bo_l | (apply nx_i <;> intro hnx) | (apply Ia.hit; assumption) | (apply Ia.miss; assumption)
      | (apply rt_is; exact rfl) | exact rt_w | (apply iv; assumption)
      | exact True.intro | (apply bc_i; intro C hC) | apply bt_i | apply og_n | (apply og_a; exact rfl))
  all_goals (try conv => whnf)
  refine ⟨_, e1, ?_, fun v' H' ⟨y, e, _⟩ => by cases e⟩
  rintro v' H' ⟨y, e, rfl⟩
  cases e
  have e3 := bsr_replace (G := G) br bl vc (encQ y) y.va y.vk y.vt y.bz y.b1 y.c1 y.b2 y.c2 y.b3 y.c3 y.h s hl hct
  repeat' (first
    | (conv => whnf); first
      | refine .w ?_ | refine .v ?_ | apply sc_true | apply sc_false
      | (first | apply sc_lt | apply sc_nlt | apply sc_eq | apply sc_neq | apply sc_nil | apply sc_nnil | apply sc_seq | apply sc_nseq) <;> (intro hb; try exact dd hb)
      | apply sc_not | apply sc_or | (apply sc_i <;> intro hb)
      | (apply bx_i; intro hbd) | (apply gt_i; assumption; exact rfl)
      | (apply cx_is; first | fail) | (apply cx_do (i := 0) rfl; first | fail)
      | (apply ab_i; intro bl) | (apply as_i; intro va vk vc hva) | (apply av_i; intro v) | (apply ac_i; intro bl cap hcap)
      | apply bo_l | (apply nx_i <;> intro hnx) | (apply Ia.hit; assumption) | (apply Ia.miss; assumption)
      | (apply rt_is; exact rfl) | exact rt_w | (apply iv; assumption)
      | exact True.intro | (apply bc_i; intro C hC) | apply bt_i | apply og_n | (apply og_a; exact rfl))
  all_goals (try conv => whnf)
  refine iv 152 (.raw (pv y.bz 0)) (ca_m_bsr _) (cx_all e3 ?_)
  repeat' (first
    | (conv => whnf); first
      | refine .w ?_ | refine .v ?_ | apply sc_true | apply sc_false
      | (first | apply sc_lt | apply sc_nlt | apply sc_eq | apply sc_neq | apply sc_nil | apply sc_nnil | apply sc_seq | apply sc_nseq) <;> (intro hb; try exact dd hb)
      | apply sc_not | apply sc_or | (apply sc_i <;> intro hb)
      | (apply bx_i; intro hbd) | (apply gt_i; assumption; exact rfl)
      | (apply cx_is; first | fail) | (apply cx_do (i := 0) rfl; first | fail)
      | (apply ab_i; intro bl) | (apply as_i; intro va vk vc hva) | (apply av_i; intro v) | (apply ac_i; intro bl cap hcap)
      | apply bo_l | (apply nx_i <;> intro hnx) | (apply Ia.hit; assumption) | (apply Ia.miss; assumption)
      | (apply rt_is; exact rfl) | exact rt_w | (apply iv; assumption)
      | exact True.intro | (apply bc_i; intro C hC) | apply bt_i | apply og_n | (apply og_a; exact rfl))
  all_goals (try conv => whnf)
theorem caret_Encode {G : Glo} (s : List UInt8) (hl : s.length ≤ 1000000) (hct : ∀ c, FnIs Tryz.prog G 154 [.str s, .str [c]] (.int .i64 (s.countP (· == c) : Nat))) : FnIs Tryz.prog G 19 [.str s] (.str (encS s)) := by
  have hGL : GloAll G [] := gloAll_nil
  refine fn_x Tryz.func19 Tryz.call19 rfl rfl rfl rfl hGL ?_
  intro C hC
  repeat' (first
    | (conv => whnf); first
      | refine .w ?_ | refine .v ?_ | apply sc_true | apply sc_false
      | (first | apply sc_lt | apply sc_nlt | apply sc_eq | apply sc_neq | apply sc_nil | apply sc_nnil | apply sc_seq | apply sc_nseq) <;> (intro hb; try exact dd hb)
      | apply sc_not | apply sc_or | (apply sc_i <;> intro hb)
      | (apply bx_i; intro hbd) | (apply gt_i; assumption; exact rfl)
      | (apply cx_is; first | fail) | (apply cx_do (i := 0) rfl; first | fail)
      | (apply ab_i; intro bl) | (apply as_i; intro va vk vc hva) | (apply av_i; intro v) | (apply ac_i; intro bl cap hcap)
      | apply bo_l | (apply nx_i <;> intro hnx) | (apply Ia.hit; assumption) | (apply Ia.miss; assumption)
      | (apply rt_is; exact rfl) | exact rt_w | (apply iv; assumption)
      | exact True.intro | (apply bc_i; intro C hC) | apply bt_i | apply og_n | (apply og_a; exact rfl))
  all_goals (try conv => whnf)
  refine ⟨_, ca_new_replacer 6 _ (by decide) (by decide) ?_, ?_, ?_⟩
  · unfold SrcOK
    exact srcChk_ok rfl
  · rintro v H' ⟨bl, va, vk, vc, hva, e, rfl⟩
    cases e
    obtain ⟨br, rfl, rfl⟩ := hva (by omega)
    have e2 := replace_enc (G := G) br bl vc s hl hct
    repeat' (first
      | (conv => whnf); first
        | refine .w ?_ | refine .v ?_ | apply sc_true | apply sc_false
        | (first | apply sc_lt | apply sc_nlt | apply sc_eq | apply sc_neq | apply sc_nil | apply sc_nnil | apply sc_seq | apply sc_nseq) <;> (intro hb; try exact dd hb)
        | apply sc_not | apply sc_or | (apply sc_i <;> intro hb)
        | (apply bx_i; intro hbd) | (apply gt_i; assumption; exact rfl)
        | (apply cx_is; first | fail) | (apply cx_do (i := 0) rfl; first | fail)
        | (apply ab_i; intro bl) | (apply as_i; intro va vk vc hva) | (apply av_i; intro v) | (apply ac_i; intro bl cap hcap)
        | apply bo_l | (apply nx_i <;> intro hnx) | (apply Ia.hit; assumption) | (apply Ia.miss; assumption)
        | (apply rt_is; exact rfl) | exact rt_w | (apply iv; assumption)
        | exact True.intro | (apply bc_i; intro C hC) | apply bt_i | apply og_n | (apply og_a; exact rfl))
    all_goals (try conv => whnf)
    refine cx_all e2 ?_
    repeat' (first
      | (conv => whnf); first
        | refine .w ?_ | refine .v ?_ | apply sc_true | apply sc_false
        | (first | apply sc_lt | apply sc_nlt | apply sc_eq | apply sc_neq | apply sc_nil | apply sc_nnil | apply sc_seq | apply sc_nseq) <;> (intro hb; try exact dd hb)
        | apply sc_not | apply sc_or | (apply sc_i <;> intro hb)
        | (apply bx_i; intro hbd) | (apply gt_i; assumption; exact rfl)
        | (apply cx_is; first | fail) | (apply cx_do (i := 0) rfl; first | fail)
        | (apply ab_i; intro bl) | (apply as_i; intro va vk vc hva) | (apply av_i; intro v) | (apply ac_i; intro bl cap hcap)
        | apply bo_l | (apply nx_i <;> intro hnx) | (apply Ia.hit; assumption) | (apply Ia.miss; assumption)
        | (apply rt_is; exact rfl) | exact rt_w | (apply iv; assumption)
        | exact True.intro | (apply bc_i; intro C hC) | apply bt_i | apply og_n | (apply og_a; exact rfl))
    all_goals (try conv => whnf)
  · rintro v H' ⟨bl, va, vk, vc, hva, e, rfl⟩
    cases e
end Go.Proofs.YtglapkioagenaaaGreatDoor
namespace Go.Proofs.YtglapkioagenaaaGreatDoor
open Go Go.RowKit
set_option maxRecDepth 20000
set_option maxHeartbeats 4000000
set_option linter.unusedSimpArgs false
set_option linter.unusedVariables false
attribute [local irreducible] AWp AOps byteAt SrcOK OrOk GloAll FnSpec
attribute [local irreducible] hdC hdB badI isS mayV encS
theorem line_control {G : Glo} (c : Int) : FnIs Tryz.prog G 37 [.int .u8 c] (.bool (hdC false c)) := by
  have hGL : GloAll G [] := gloAll_nil
  refine fn_x Tryz.func37 Tryz.call37 rfl rfl rfl rfl hGL ?_
  intro C hC
  refine xw ?_
  repeat' (first | exact Le.n | refine Lc.mk ?_ ?_)
  all_goals intros
  all_goals (apply rt_is; refine congrArg AVal.bool ?_)
  all_goals (rw [Bool.eq_iff_iff, hdC_f]; simp only [eqB_t, reduceCtorEq, true_iff, false_iff]; omega)
theorem line_clean {G : Glo} (s : List UInt8) (hl : s.length ≤ 9223372036854775807) : FnIs Tryz.prog G 24 [.str s] (.bool (hdB false s)) := by
  have hB := utf_Bad (G := G) s hl
  have k1 := fun i (_ : 0 ≤ (byteAt s i : Int)) => line_control (G := G) (byteAt s i)
  have hGL : GloAll G [] := gloAll_nil
  refine fn_x Tryz.func24 Tryz.call24 rfl rfl rfl rfl hGL ?_
  intro C hC
  refine xw1 ?_
  refine lp hC hGL (fun i : Nat => [(0, .str s), (5, .int .i64 (s.length : Nat)), (6, .int .i64 (i : Nat))]) (fun _ => []) (fun i => i ≤ s.length ∧ ∀ j, j < i → hdC false (byteAt s j : Int) = false) (fun i => s.length - i) 0 ?_ env_w rfl ?_
  · exact ⟨Nat.zero_le _, fun j h => absurd h (Nat.not_lt_zero _)⟩
  rintro i ⟨h1, h2⟩
  refine xw ?_
  repeat' (first | exact Le.n | refine Lc.mk ?_ ?_)
  all_goals intros
  all_goals first
    | (apply rt_is; rw [hdB_no (i := i) (by omega) (by assumption) h2]; rfl)
    | (refine nxt (i + 1) ⟨by omega, below_succ h2 (by assumption)⟩ (by omega) env_w rfl)
    | (apply rt_is; rw [hdB_end (i := i) (by omega) h2])
theorem line_Holds {G : Glo} (s : List UInt8) (c : Bool) (hl : s.length ≤ 1000000) : FnIs Tryz.prog G 9 [.str s, .bool c] (.bool (mayV c s)) := by
  have hq := fun t => strings_IndexByte (G := G) t 34 (by decide) (by decide)
  cases c with
  | true =>
    have hE := caret_Encode (G := G) s hl (count_one _)
    have hC1 := line_clean (G := G) (encS s) (by have := (encS_len s).2; omega)
    have hq1 := hq (encS s)
    have e : mayV true s = (hdB false (encS s) && decide (idxB (encS s) 34 < 0)) := by unfold mayV eIf; rfl
    rw [e]
    have hGL : GloAll G [] := gloAll_nil
    refine fn_x Tryz.func9 Tryz.call9 rfl rfl rfl rfl hGL ?_
    intro C hC
    refine xw ?_
    repeat' (first | exact Le.n | refine Lc.mk ?_ ?_)
    all_goals intros
    all_goals (apply rt_is; refine congrArg AVal.bool ?_; rw [show hdB false (encS s) = _ by assumption])
    all_goals (rw [Bool.eq_iff_iff]; simp [ltB_t])
  | false =>
    have hC1 := line_clean (G := G) s (by omega)
    have hq1 := hq s
    have e : mayV false s = (hdB false s && decide (idxB s 34 < 0)) := by unfold mayV eIf; rfl
    rw [e]
    have hGL : GloAll G [] := gloAll_nil
    refine fn_x Tryz.func9 Tryz.call9 rfl rfl rfl rfl hGL ?_
    intro C hC
    refine xw ?_
    repeat' (first | exact Le.n | refine Lc.mk ?_ ?_)
    all_goals intros
    all_goals (apply rt_is; refine congrArg AVal.bool ?_; rw [show hdB false s = _ by assumption])
    all_goals (rw [Bool.eq_iff_iff]; simp [ltB_t])
theorem line_Right {G : Glo} (p : Ln) (c : Bool) (ho : p.OK 2500) : FnIs Tryz.prog G 8 [p.A, .bool c] (p.E c).A := by
  have n1 := name_Is (G := G) p.n (by have := ho.n; omega)
  have n2 := name_Is (G := G) p.g (by have := ho.g; omega)
  have hv := line_clean (G := G) p.v (by have := ho.v; omega)
  have hps := ho.ps
  have hGL : GloAll G [] := gloAll_nil
  refine fn_x Tryz.func8 Tryz.call8 rfl rfl rfl rfl hGL ?_
  intro C hC
  refine xw ?_
  repeat' (first | exact Le.n | refine Lc.mk ?_ ?_)
  all_goals intros
  all_goals try (apply rt_is; first | (rw [Ln.E_5 (.inl (by assumption))]; rfl) | (rw [Ln.E_5 (.inr ⟨by assumption, by assumption⟩)]; rfl) | (rw [Ln.E_4 (by assumption) (.inl (by assumption)) (by omega)]; rfl) | (rw [Ln.E_4 (by assumption) (.inr (by assumption)) (by omega)]; rfl))
  all_goals
    have q1 : isS p.n = true := by assumption
    have q2 : p.g.length = 0 ∨ isS p.g = true := by first | exact .inl (by assumption) | exact .inr (by assumption)
    have q3 : p.ps.length ≤ 20 := by omega
    refine lp hC hGL (fun k : Nat => [(1, .bool c), (2, .rop [.str p.g, .str p.n, .list 2 p.ps.length (prF p.ps), .str p.v] 0), (34, .list 2 p.ps.length (prF p.ps)), (35, .int .i64 (p.ps.length : Nat)), (36, .int .i64 (k : Nat))]) (fun _ => []) (fun k => k ≤ p.ps.length ∧ ∀ j, j < k → prE c (p.ps.getD j Pr.z) = 0) (fun k => p.ps.length - k) 0 ?_ env_w rfl ?_
    · exact ⟨Nat.zero_le _, fun j h => absurd h (Nat.not_lt_zero _)⟩
    rintro k ⟨h1, h2⟩
    have hq := ho.q k
    have n3 := name_Is (G := G) (p.ps.getD k Pr.z).n (by omega)
    by_cases hk : k < p.ps.length
    · cases hn : isS (p.ps.getD k Pr.z).n with
      | false =>
        rw [hn] at n3
        refine xw ?_
        repeat' (first | exact Le.n | refine Lc.mk ?_ ?_)
        all_goals intros
        · refine lp hC hGL (fun x : Nat × Int => [(1, .bool c), (2, .rop [.str p.g, .str p.n, .list 2 p.ps.length (prF p.ps), .str p.v] 0), (5, .int .i64 (k : Nat)), (7, .int .i64 x.2), (34, .list 2 p.ps.length (prF p.ps)), (35, .int .i64 (p.ps.length : Nat)), (36, .int .i64 (k : Nat)), (52, .list 1 (p.ps.getD k Pr.z).vs.length (strsF (p.ps.getD k Pr.z).vs)), (53, .int .i64 ((p.ps.getD k Pr.z).vs.length : Nat)), (54, .int .i64 (x.1 : Nat))]) (fun _ => [.cells _ (some 41) [.str (p.ps.getD k Pr.z).n, .list 1 (p.ps.getD k Pr.z).vs.length (strsF (p.ps.getD k Pr.z).vs)]]) (fun x => x.1 ≤ (p.ps.getD k Pr.z).vs.length ∧ prI c (p.ps.getD k Pr.z) x.1 x.2) (fun x => (p.ps.getD k Pr.z).vs.length - x.1) (0, 5) ?_ env_w rfl ?_
          · exact ⟨Nat.zero_le _, .inl ⟨hn, rfl⟩⟩
          rintro ⟨j, e⟩ ⟨g1, g2⟩
          dsimp only at g1 g2
          have hj := line_Holds (G := G) ((p.ps.getD k Pr.z).vs.getD j []) c (by have := lens_at (l := (p.ps.getD k Pr.z).vs) (k := j); omega)
          refine xw ?_
          repeat' (first | exact Le.n | refine Lc.mk ?_ ?_)
          all_goals intros
          all_goals try dsimp only at *
          all_goals first
            | exact nxt (j + 1, e) ⟨by dsimp only; omega, prI_keep g2 (by assumption)⟩ (by dsimp only; omega) env_w rfl
            | exact nxt (j + 1, e) ⟨by dsimp only; omega, prI_ok g2 (by assumption) (by assumption)⟩ (by dsimp only; omega) env_w rfl
            | exact nxt (j + 1, 3) ⟨by dsimp only; omega, prI_bad g2 (by assumption) (by omega) (by assumption)⟩ (by dsimp only; omega) env_w rfl
            | exact nxs (k + 1) ⟨by omega, below_next h2 ((prI_end g2 (by omega)).symm.trans (by assumption))⟩ (by omega) env_w sub_w
            | (apply rt_is
               have e1 := prI_end g2 (by omega)
               rw [Ln.E_at q1 q2 q3 (by omega) h2 (by rw [← e1]; assumption), ← e1]
               rfl)
      | true =>
        rw [hn] at n3
        by_cases hz : (p.ps.getD k Pr.z).vs.length = 0
        · refine xw ?_
          repeat' (first | exact Le.n | refine Lc.mk ?_ ?_)
          all_goals intros
          · refine lp hC hGL (fun x : Nat × Int => [(1, .bool c), (2, .rop [.str p.g, .str p.n, .list 2 p.ps.length (prF p.ps), .str p.v] 0), (5, .int .i64 (k : Nat)), (7, .int .i64 x.2), (34, .list 2 p.ps.length (prF p.ps)), (35, .int .i64 (p.ps.length : Nat)), (36, .int .i64 (k : Nat)), (52, .list 1 (p.ps.getD k Pr.z).vs.length (strsF (p.ps.getD k Pr.z).vs)), (53, .int .i64 ((p.ps.getD k Pr.z).vs.length : Nat)), (54, .int .i64 (x.1 : Nat))]) (fun _ => [.cells _ (some 41) [.str (p.ps.getD k Pr.z).n, .list 1 (p.ps.getD k Pr.z).vs.length (strsF (p.ps.getD k Pr.z).vs)]]) (fun x => x.1 ≤ (p.ps.getD k Pr.z).vs.length ∧ prI c (p.ps.getD k Pr.z) x.1 x.2) (fun x => (p.ps.getD k Pr.z).vs.length - x.1) (0, 8) ?_ env_w rfl ?_
            · exact ⟨Nat.zero_le _, .inr (.inl ⟨hn, hz, rfl⟩)⟩
            rintro ⟨j, e⟩ ⟨g1, g2⟩
            dsimp only at g1 g2
            have hj := line_Holds (G := G) ((p.ps.getD k Pr.z).vs.getD j []) c (by have := lens_at (l := (p.ps.getD k Pr.z).vs) (k := j); omega)
            refine xw ?_
            repeat' (first | exact Le.n | refine Lc.mk ?_ ?_)
            all_goals intros
            all_goals try dsimp only at *
            all_goals first
              | exact nxt (j + 1, e) ⟨by dsimp only; omega, prI_keep g2 (by assumption)⟩ (by dsimp only; omega) env_w rfl
              | exact nxt (j + 1, e) ⟨by dsimp only; omega, prI_ok g2 (by assumption) (by assumption)⟩ (by dsimp only; omega) env_w rfl
              | exact nxt (j + 1, 3) ⟨by dsimp only; omega, prI_bad g2 (by assumption) (by omega) (by assumption)⟩ (by dsimp only; omega) env_w rfl
              | exact nxs (k + 1) ⟨by omega, below_next h2 ((prI_end g2 (by omega)).symm.trans (by assumption))⟩ (by omega) env_w sub_w
              | (apply rt_is
                 have e1 := prI_end g2 (by omega)
                 rw [Ln.E_at q1 q2 q3 (by omega) h2 (by rw [← e1]; assumption), ← e1]
                 rfl)
        · refine xw ?_
          repeat' (first | exact Le.n | refine Lc.mk ?_ ?_)
          all_goals intros
          · refine lp hC hGL (fun x : Nat × Int => [(1, .bool c), (2, .rop [.str p.g, .str p.n, .list 2 p.ps.length (prF p.ps), .str p.v] 0), (5, .int .i64 (k : Nat)), (7, .int .i64 x.2), (34, .list 2 p.ps.length (prF p.ps)), (35, .int .i64 (p.ps.length : Nat)), (36, .int .i64 (k : Nat)), (52, .list 1 (p.ps.getD k Pr.z).vs.length (strsF (p.ps.getD k Pr.z).vs)), (53, .int .i64 ((p.ps.getD k Pr.z).vs.length : Nat)), (54, .int .i64 (x.1 : Nat))]) (fun _ => [.cells _ (some 41) [.str (p.ps.getD k Pr.z).n, .list 1 (p.ps.getD k Pr.z).vs.length (strsF (p.ps.getD k Pr.z).vs)]]) (fun x => x.1 ≤ (p.ps.getD k Pr.z).vs.length ∧ prI c (p.ps.getD k Pr.z) x.1 x.2) (fun x => (p.ps.getD k Pr.z).vs.length - x.1) (0, 0) ?_ env_w rfl ?_
            · exact ⟨Nat.zero_le _, .inr (.inr ⟨hn, hz, .inl ⟨rfl, fun i hi => absurd hi (Nat.not_lt_zero _)⟩⟩)⟩
            rintro ⟨j, e⟩ ⟨g1, g2⟩
            dsimp only at g1 g2
            have hj := line_Holds (G := G) ((p.ps.getD k Pr.z).vs.getD j []) c (by have := lens_at (l := (p.ps.getD k Pr.z).vs) (k := j); omega)
            refine xw ?_
            repeat' (first | exact Le.n | refine Lc.mk ?_ ?_)
            all_goals intros
            all_goals try dsimp only at *
            all_goals first
              | exact nxt (j + 1, e) ⟨by dsimp only; omega, prI_keep g2 (by assumption)⟩ (by dsimp only; omega) env_w rfl
              | exact nxt (j + 1, e) ⟨by dsimp only; omega, prI_ok g2 (by assumption) (by assumption)⟩ (by dsimp only; omega) env_w rfl
              | exact nxt (j + 1, 3) ⟨by dsimp only; omega, prI_bad g2 (by assumption) (by omega) (by assumption)⟩ (by dsimp only; omega) env_w rfl
              | exact nxs (k + 1) ⟨by omega, below_next h2 ((prI_end g2 (by omega)).symm.trans (by assumption))⟩ (by omega) env_w sub_w
              | (apply rt_is
                 have e1 := prI_end g2 (by omega)
                 rw [Ln.E_at q1 q2 q3 (by omega) h2 (by rw [← e1]; assumption), ← e1]
                 rfl)
    · refine xw ?_
      repeat' (first | exact Le.n | refine Lc.mk ?_ ?_)
      all_goals intros
      all_goals (apply rt_is; first | (rw [Ln.E_3 q1 q2 q3 (by omega) h2 (by assumption)]; rfl) | (rw [Ln.E_0 q1 q2 q3 (by omega) h2 (by assumption)]; rfl))
end Go.Proofs.YtglapkioagenaaaGreatDoor
namespace Go.Proofs.YtglapkioagenaaaGreatDoor
open Go
set_option maxRecDepth 20000
set_option maxHeartbeats 4000000
set_option linter.unusedSimpArgs false
set_option linter.unusedVariables false
attribute [local irreducible] AWp AOps byteAt SrcOK OrOk GloAll FnSpec
abbrev bytesC (s : List UInt8) : List AVal := s.map fun c => .int .u8 (c.toNat : Int)
abbrev ptrA (b : Nat) : Value := .pointer (some ⟨b, 0, none⟩)
/-- A builder's two entries. -/
abbrev bldC (b : Nat) (p : Value) (j : Nat) (v : Value) : HEnt := .cells b (some 52) [.raw p, .own j v]
abbrev bldR (v : Value) (s : List UInt8) : HEnt := .row v (some 5) 1 s.length (bytesC s)
theorem fn_xo {P : Program} [Tab P] {G : Glo} {GL : List (Nat × List AVal)} {n : Nat} {H : Heap} {v : Value} (i : Nat) {f : FuncId} {fn : Func} {c : Code} {avs : List AVal} {Qf : ARes → Heap → Prop} {rs : List ResultVar} (hf : P.funcs[f]? = some fn)
    (hc : ∀ args w, (callFunc f args).run P w = .ok (.enter f args) w) (hb : fn.body = some c) (hn : fn.ntmps = n) (hrs : fn.results = rs.toArray) (hlen : Nat.ble (AVal.raw v :: avs).length n = true) (hGL : GloAll G GL) (hv : vAgg v = false)
    (h : ∀ C : Ctx, C.G = G → codeX P C n G GL c ((0, .own i v) :: argEnv 0 (.raw v :: avs)) H (RetX P rs Qf)) : FnSpec P G f (.raw v :: avs) H Qf :=
  fn_spec hf hb hc hn hrs hlen fun w0 R0 hG => (own_slot (C := ⟨w0, R0, blks H, G, hG, []⟩) (k := 0) i rfl hGL hv rfl (h ⟨w0, R0, blks H, G, hG, []⟩ rfl)).mono fun _ _ _ q => RetX_ok q
theorem no_escape {G : Glo} (b : Nat) : FnIs Tryz.prog G 46 [.raw (ptrA b)] (.raw (ptrA b)) := by
  refine fnis_extern Tryz.func46 (by kernel_rfl) (by kernel_rfl) (by kernel_rfl) (e := Go.Extern.AbiNoEscape.same) (by kernel_rfl) ?_
  rintro R args ⟨x, t, e, h1, h2⟩ w
  obtain rfl : t = [] := h2
  obtain ⟨l⟩ := args
  obtain rfl : l = [x] := e
  exact ⟨x, rfl, h1⟩
theorem ms_shape {C : Ctx} {R : Seal} {H : Heap} {w : World} (hm : MS C R H w) {i b : Nat} {e : TypeId} {cs : List AVal} (hi : H[i]? = some (.cells b (some e) cs)) : w.shape? b = some (e, cs.length) := by
  obtain ⟨Cs, el, fz, hb, hl, _, ht⟩ := own_cells hm hi
  have := relL_length hl
  simp only [Array.length_toList] at this
  simp [World.shape?, hb, this, ht e rfl]
section
variable {C : Ctx} {H : Heap} {env : Env} {x y : Operand} {i j b : Nat} {c0 c1 : AVal}
theorem rv_uptr (hx : evalA env x = some (.own i (ptrA b))) (hi : H[j]? = some (.cells b (some 52) [c0, c1])) : RunV Tryz.prog C H env (.convert 49 78 x) (.own i (ptrA b)) := by
  intro R ρ w hm hf dst t p af g
  refine ⟨ptrA b, ?_, rel_own.2 ⟨rfl, rfl⟩⟩
  obtain ⟨ie, hie, hs1, _⟩ := tab_info (P := Tryz.prog) (t := 52) rfl
  have hr := Lib.run_to_unsafe (P := Tryz.prog) w (src := 49) (dst := 78) (t := 52) (j := ie) ⟨b, 0, none⟩ Tryz.underlying49 Tryz.underlying78 hie (by rw [hs1]; exact Nat.succ_ne_zero _) (ms_shape hm hi) (Nat.zero_lt_succ _)
  simp only [execOp, (rel_own.1 (hf _ _ hx)).1, Sem.run_bind, hr, Result.andThen_ok, Sem.run_pure]
theorem rv_ptru (hx : evalA env x = some (.raw (ptrA b))) (hi : H[j]? = some (.cells b (some 52) [c0, c1])) : RunV Tryz.prog C H env (.convert 78 49 x) (.raw (ptrA b)) := by
  intro R ρ w hm hf dst t p af g
  refine ⟨ptrA b, ?_, rel_raw.2 rfl⟩
  obtain ⟨ie, hie, hs1, _⟩ := tab_info (P := Tryz.prog) (t := 52) rfl
  have hr := Lib.run_from_unsafe (P := Tryz.prog) w (src := 78) (dst := 49) (u := 52) (j := ie) ⟨b, 0, none⟩ Tryz.underlying78 Tryz.underlying49 hie (ms_shape hm hi) (by kernel_rfl)
  simp only [execOp, rel_raw.1 (hf _ _ hx), Sem.run_bind, hr, Result.andThen_ok, Sem.run_pure]
theorem rv_neptr (hx : evalA env x = some (.raw (ptrA b))) (hy : evalA env y = some (.own i (ptrA b))) : RunV Tryz.prog C H env (.binOp .neq 49 x y 49) (.bool false) := by
  intro R ρ w hm hf dst t p af g
  refine ⟨.bool false, ?_, rel_bool.2 rfl⟩
  obtain ⟨ie, hie, hs1, _⟩ := tab_info (P := Tryz.prog) (t := 52) rfl
  have hr := Lib.run_neq_ptr_same (P := Tryz.prog) w (tp := 49) (te := 52) (j := ie) ⟨b, 0, none⟩ Tryz.underlying49 hie
  have hg : (eqGuard BinOp.neq 49 x y (ptrA b) (ptrA b)).run Tryz.prog w = .ok () w := rfl
  simp only [execOp, rel_raw.1 (hf _ _ hx), (rel_own.1 (hf _ _ hy)).1, Sem.run_bind, hg, hr, Result.andThen_ok, Sem.run_pure]
end
theorem copyCheck_new {G : Glo} (b : Nat) (j : Nat) (v : Value) : FnSpec Tryz.prog G 31 [.raw (ptrA b)] [bldC b (.pointer none) j v] (fun r H => r = .ret (.tuple []) ∧ H = [bldC b (ptrA b) j v]) := by
  have hGL : GloAll G [] := gloAll_nil
  refine fn_xo 0 Tryz.func31 Tryz.call31 rfl rfl rfl rfl hGL rfl ?_
  intro C hC
  repeat' (first
    | (conv => whnf); first
      | refine .w ?_ | refine .v ?_ | apply sc_true | apply sc_false
      | (first | apply sc_lt | apply sc_nlt | apply sc_eq | apply sc_neq | apply sc_nil | apply sc_nnil | apply sc_seq | apply sc_nseq) <;> (intro hb; try exact dd hb)
      | apply sc_not | apply sc_or | (apply sc_i <;> intro hb)
      | (apply bx_i; intro hbd) | (apply gt_i; assumption; exact rfl)
      | (apply cx_is; first | exact no_escape _) | (apply cx_do (i := 0) rfl; first | exact no_escape _)
      | (apply ab_i; intro bl) | (apply as_i; intro va vk vc hva) | (apply av_i; intro v) | (apply ac_i; intro bl cap hcap)
      | apply bo_l | (apply nx_i <;> intro hnx) | (apply Ia.hit; assumption) | (apply Ia.miss; assumption)
      | (apply rt_is; exact rfl) | exact rt_w | (apply iv; assumption)
      | apply dw_q mixed hC hGL (by kernel_rfl) | (apply cq; assumption; (first | exact no_escape _); exact rfl))
  all_goals (try conv => whnf)
  refine op1_run hC hGL (rv_uptr (j := 0) rfl rfl) rfl rfl ?_
  repeat' (first
    | (conv => whnf); first
      | refine .w ?_ | refine .v ?_ | apply sc_true | apply sc_false
      | (first | apply sc_lt | apply sc_nlt | apply sc_eq | apply sc_neq | apply sc_nil | apply sc_nnil | apply sc_seq | apply sc_nseq) <;> (intro hb; try exact dd hb)
      | apply sc_not | apply sc_or | (apply sc_i <;> intro hb)
      | (apply bx_i; intro hbd) | (apply gt_i; assumption; exact rfl)
      | (apply cx_is; first | exact no_escape _) | (apply cx_do (i := 0) rfl; first | exact no_escape _)
      | (apply ab_i; intro bl) | (apply as_i; intro va vk vc hva) | (apply av_i; intro v) | (apply ac_i; intro bl cap hcap)
      | apply bo_l | (apply nx_i <;> intro hnx) | (apply Ia.hit; assumption) | (apply Ia.miss; assumption)
      | (apply rt_is; exact rfl) | exact rt_w | (apply iv; assumption)
      | apply dw_q mixed hC hGL (by kernel_rfl) | (apply cq; assumption; (first | exact no_escape _); exact rfl))
  all_goals (try conv => whnf)
  refine op1_run hC hGL (rv_ptru (j := 0) rfl rfl) rfl rfl ?_
  repeat' (first
    | (conv => whnf); first
      | refine .w ?_ | refine .v ?_ | apply sc_true | apply sc_false
      | (first | apply sc_lt | apply sc_nlt | apply sc_eq | apply sc_neq | apply sc_nil | apply sc_nnil | apply sc_seq | apply sc_nseq) <;> (intro hb; try exact dd hb)
      | apply sc_not | apply sc_or | (apply sc_i <;> intro hb)
      | (apply bx_i; intro hbd) | (apply gt_i; assumption; exact rfl)
      | (apply cx_is; first | exact no_escape _) | (apply cx_do (i := 0) rfl; first | exact no_escape _)
      | (apply ab_i; intro bl) | (apply as_i; intro va vk vc hva) | (apply av_i; intro v) | (apply ac_i; intro bl cap hcap)
      | apply bo_l | (apply nx_i <;> intro hnx) | (apply Ia.hit; assumption) | (apply Ia.miss; assumption)
      | (apply rt_is; exact rfl) | exact rt_w | (apply iv; assumption)
      | apply dw_q mixed hC hGL (by kernel_rfl) | (apply cq; assumption; (first | exact no_escape _); exact rfl))
  all_goals (try conv => whnf)
theorem copyCheck_old {G : Glo} (b : Nat) (j : Nat) (v : Value) : FnSpec Tryz.prog G 31 [.raw (ptrA b)] [bldC b (ptrA b) j v] (fun r H => r = .ret (.tuple []) ∧ H = [bldC b (ptrA b) j v]) := by
  have hGL : GloAll G [] := gloAll_nil
  refine fn_xo 0 Tryz.func31 Tryz.call31 rfl rfl rfl rfl hGL rfl ?_
  intro C hC
  repeat' (first
    | (conv => whnf); first
      | refine .w ?_ | refine .v ?_ | apply sc_true | apply sc_false
      | (first | apply sc_lt | apply sc_nlt | apply sc_eq | apply sc_neq | apply sc_nil | apply sc_nnil | apply sc_seq | apply sc_nseq) <;> (intro hb; try exact dd hb)
      | apply sc_not | apply sc_or | (apply sc_i <;> intro hb)
      | (apply bx_i; intro hbd) | (apply gt_i; assumption; exact rfl)
      | (apply cx_is; first | exact no_escape _) | (apply cx_do (i := 0) rfl; first | exact no_escape _)
      | (apply ab_i; intro bl) | (apply as_i; intro va vk vc hva) | (apply av_i; intro v) | (apply ac_i; intro bl cap hcap)
      | apply bo_l | (apply nx_i <;> intro hnx) | (apply Ia.hit; assumption) | (apply Ia.miss; assumption)
      | (apply rt_is; exact rfl) | exact rt_w | (apply iv; assumption)
      | apply dw_q mixed hC hGL (by kernel_rfl) | (apply cq; assumption; (first | exact no_escape _); exact rfl))
  all_goals (try conv => whnf)
  refine op1_run hC hGL (rv_neptr rfl rfl) rfl rfl ?_
  repeat' (first
    | (conv => whnf); first
      | refine .w ?_ | refine .v ?_ | apply sc_true | apply sc_false
      | (first | apply sc_lt | apply sc_nlt | apply sc_eq | apply sc_neq | apply sc_nil | apply sc_nnil | apply sc_seq | apply sc_nseq) <;> (intro hb; try exact dd hb)
      | apply sc_not | apply sc_or | (apply sc_i <;> intro hb)
      | (apply bx_i; intro hbd) | (apply gt_i; assumption; exact rfl)
      | (apply cx_is; first | exact no_escape _) | (apply cx_do (i := 0) rfl; first | exact no_escape _)
      | (apply ab_i; intro bl) | (apply as_i; intro va vk vc hva) | (apply av_i; intro v) | (apply ac_i; intro bl cap hcap)
      | apply bo_l | (apply nx_i <;> intro hnx) | (apply Ia.hit; assumption) | (apply Ia.miss; assumption)
      | (apply rt_is; exact rfl) | exact rt_w | (apply iv; assumption)
      | apply dw_q mixed hC hGL (by kernel_rfl) | (apply cq; assumption; (first | exact no_escape _); exact rfl))
  all_goals (try conv => whnf)
/-- What addr may hold. -/
def AddrOK (b : Nat) (p : Value) : Prop := p = .pointer none ∨ p = ptrA b
theorem copyCheck_any {G : Glo} {b : Nat} {p : Value} (hp : AddrOK b p) (j : Nat) (v : Value) : FnSpec Tryz.prog G 31 [.raw (ptrA b)] [bldC b p j v] (fun r H => r = .ret (.tuple []) ∧ H = [bldC b (ptrA b) j v]) := by
  rcases hp with rfl | rfl
  · exact copyCheck_new b j v
  · exact copyCheck_old b j v
section
variable {P : Program} [Tab P] {C : Ctx} {n : Nat} {env : Env} {H : Heap} {Q : AExit → Env → Heap → Prop} {ops : Array Oper} {rest : List Oper} {G : Glo} {GL : List (Nat × List AVal)}
variable {d : Nat} {t : TypeId} {p : String} {af : Array Edge} {g : Option (Nat × Bool)} {b : Bool}
variable {x y : Operand} {T : TypeId} {xT : TI} {tx ty : TypeId}
/-- A string's bytes, appended. -/
theorem op1_apps {i n0 : Nat} {v : Value} {s : List UInt8} {cs z : List AVal} {eT : Option TypeId} {e : TypeId} {xe xx : TI} (hC : C.G = G) (hGL : GloAll G GL) (hg : guardA ops env g = some (b, b)) (hdn : Nat.ble (d + 1) n = true)
    (hx : evalA env x = some (.own i v)) (hi : H[i]? = some (.row v eT 1 n0 cs)) (hy : evalA env y = some (.str s))
    (h1 : tab P T = some xT) (h2 : xT.desc = .slice e) (h3 : tab P e = some xe) (h4 : xe.size = 1) (h6 : Nat.ble xe.bytes 1024 = true) (h7 : zeroCellsA xe.zero = some z) (h8 : z.length = 1) (h9 : tab P tx = some xx) (h10 : xx.desc = .string)
    (hlen : n0 + s.length ≤ 137438953472) (hty : tyOK eT e = true)
    (h : ∀ a k c, opsX P C n G GL ops Q rest ((d, .own i (.slice a k c)) :: env) (H.set i (.row (.slice a k c) eT 1 (n0 + s.length) (cs ++ bytesC s)))) :
    Op1 P C n ops ({ dst := some d, op := .call { callee := .builtin .append, args := [x, y].toArray, argTypes := [T, tx].toArray }, type := t, pos := p, after := af, guard := g } :: rest) env H Q :=
  ⟨ow_append hg hdn hx hi hy h1 h2 h3 h4 rfl h6 h7 h8 (fun R v hv => src_str hv h9 h10) hlen (tyOK_ok hty) fun v' => ao_rowslice (get_set hi) fun ⟨a, k, c, e, _⟩ => by subst e; exact opsX_ok hC hGL _ _ _ (h a k c)⟩
end
theorem bldR_app (v : Value) (s t : List UInt8) : HEnt.row v (some 5) 1 (s.length + t.length) (bytesC s ++ bytesC t) = bldR v (s ++ t) := by
  simp only [bldR, bytesC, List.length_append, List.map_append]
/-- A builder's two entries, wherever they stand. -/
theorem two_perm {H : Heap} {i j : Nat} {x0 y0 : HEnt} (hne : i ≠ j) (hi : H[i]? = some x0) (hj : H[j]? = some y0) : ∃ rest : Heap, H.Perm ([x0, y0] ++ rest) ∧ ∀ x y, ((H.set i x).set j y).Perm ([x, y] ++ rest) := by
  have key : ∃ rest : Heap, ∀ x y, ((H.set i x).set j y).Perm ([x, y] ++ rest) := by
    rcases Nat.lt_or_gt_of_ne hne with h | h
    · refine ⟨(H.eraseIdx j).eraseIdx i, fun x y => ?_⟩
      have h1 := set_perm (H := H.set i x) (i := j) (x := y0) y (by rw [List.getElem?_set_ne (by omega)]; exact hj)
      rw [List.eraseIdx_set_gt h] at h1
      have h2 := set_perm (H := H.eraseIdx j) (i := i) (x := x0) x (by rw [List.getElem?_eraseIdx_of_lt h]; exact hi)
      refine h1.symm.trans ?_
      refine (List.Perm.append_left [y] h2.symm).trans ?_
      exact List.Perm.swap x y _
    · refine ⟨(H.eraseIdx j).eraseIdx (i - 1), fun x y => ?_⟩
      have h1 := set_perm (H := H.set i x) (i := j) (x := y0) y (by rw [List.getElem?_set_ne (by omega)]; exact hj)
      rw [List.eraseIdx_set_lt h] at h1
      have h2 := set_perm (H := H.eraseIdx j) (i := i - 1) (x := x0) x (by rw [List.getElem?_eraseIdx_of_ge (by omega), show i - 1 + 1 = i by omega]; exact hi)
      refine h1.symm.trans ?_
      refine (List.Perm.append_left [y] h2.symm).trans ?_
      exact List.Perm.swap x y _
  obtain ⟨rest, h⟩ := key
  refine ⟨rest, ?_, h⟩
  have := h x0 y0
  have e1 : H.set i x0 = H := by
    obtain ⟨hl, he⟩ := List.getElem?_eq_some_iff.1 hi
    rw [← he]; exact List.set_getElem_self hl
  have e2 : H.set j y0 = H := by
    obtain ⟨hl, he⟩ := List.getElem?_eq_some_iff.1 hj
    rw [← he]; exact List.set_getElem_self hl
  rw [e1, e2] at this
  exact this
/-- The hint within a builder's cell is of no account. -/
theorem ms_hint {C : Ctx} {R : Seal} {H : Heap} {w : World} {b j : Nat} {p v : Value} (k : Nat) (h : MS C R (bldC b p j v :: H) w) : MS C R (bldC b p k v :: H) w :=
  h.swap (i := 0) (x := bldC b p j v) (y := bldC b p k v) rfl rfl (h.heap.holds (bldC b p j v) List.mem_cons_self)
theorem fn_post {P : Program} {G : Glo} {f : FuncId} {avs : List AVal} {H H0 : Heap} {Qf Qf' : ARes → Heap → Prop} (hb : ∀ k, k ∈ blks H ↔ k ∈ blks H0) (hpre : ∀ C R w, MS C R H0 w → MS C R H w) (h : FnSpec P G f avs H Qf)
    (hq : ∀ r H', Qf r H' → ∃ H'', Qf' r H'' ∧ ∀ C R w, MS C R H' w → MS C R H'' w) : FnSpec P G f avs H0 Qf' := by
  unfold FnSpec at h ⊢
  intro R w args hG hm ha
  rcases h R w args hG ((hpre _ _ _ hm).blks_iff fun k => (hb k).symm) ha with ⟨h1, h2⟩ | ⟨v, w', h1, res, H', R', q, er, hm'⟩
  · exact .inl ⟨h1, h2.mono fun e w' ⟨res, H', R', q, er, hm'⟩ => let ⟨H'', q', hc⟩ := hq _ _ q; ⟨res, H'', R', q', er, hc _ _ _ (hm'.blks_iff hb)⟩⟩
  · obtain ⟨H'', q', hc⟩ := hq _ _ q
    exact .inr ⟨v, w', h1, res, H'', R', q', er, hc _ _ _ (hm'.blks_iff hb)⟩
theorem fn_hint {P : Program} {G : Glo} {f : FuncId} {avs : List AVal} {b j k : Nat} {p v : Value} {H : Heap} {Qf Qf' : ARes → Heap → Prop} (h : FnSpec P G f avs (bldC b p k v :: H) Qf)
    (hq : ∀ r H', Qf r H' → ∃ H'', Qf' r H'' ∧ ∀ C R w, MS C R H' w → MS C R H'' w) : FnSpec P G f avs (bldC b p j v :: H) Qf' :=
  fn_post (H := bldC b p k v :: H) (H0 := bldC b p j v :: H) (fun _ => Iff.rfl) (fun _ _ _ h => ms_hint k h) h hq
abbrev ghostR : HEnt := .row (.slice none 0 0) none 1 0 []
/-- An owned block written, and let go. -/
theorem MS.spoil {C : Ctx} {R : Seal} {H : Heap} {w w' : World} {i b : Nat} {x : HEnt} {o : Obj} (h : MS C R H w) (hi : H[i]? = some x) (hb : x.blk = some b) (hw : OneBlk w b o w') : MS C R (H.set i ghostR) w' := by
  obtain ⟨a, c, rfl, hset⟩ := set_split (y := ghostR) hi
  rw [hset]
  have hx : x ∈ a ++ x :: c := by simp
  have hRb := h.heap.apart x hx b hb
  have hnd := h.heap.nodup
  rw [List.filterMap_append, List.filterMap_cons, hb] at hnd
  have hd := List.nodup_append.1 hnd
  have hother : ∀ z, z ∈ a ∨ z ∈ c → ∀ k, z.blk = some k → k ≠ b := by
    rintro z hz k hk rfl
    rcases hz with hz | hz
    · exact hd.2.2 k (List.mem_filterMap.2 ⟨z, hz, hk⟩) k (by simp) rfl
    · exact (List.nodup_cons.1 hd.2.1).1 (List.mem_filterMap.2 ⟨z, hz, hk⟩)
  have hmem : ∀ z, z ∈ a ++ ghostR :: c → z = ghostR ∨ ((z ∈ a ∨ z ∈ c) ∧ z ∈ a ++ x :: c) := by
    intro z hz
    simp only [List.mem_append, List.mem_cons] at hz ⊢
    rcases hz with hz | hz | hz
    · exact .inr ⟨.inl hz, .inl hz⟩
    · exact .inl hz
    · exact .inr ⟨.inr hz, .inr (.inr hz)⟩
  refine ⟨?_, h.ge, h.fresh, ⟨?_, ?_, ?_⟩, ?_, ?_⟩
  · intro k o' hk
    rw [hw.other k (by rintro rfl; rw [hRb] at hk; cases hk)]
    exact h.sealed k o' hk
  · intro z hz
    rcases hmem z hz with rfl | ⟨hz', hz''⟩
    · exact ⟨rfl, .inl ⟨rfl, rfl⟩⟩
    · exact HEnt.holds_mono (h.heap.holds z hz'') (Seal.le_refl R) fun k hk => hw.other k (hother z hz' k hk)
  · rw [List.filterMap_append, List.filterMap_cons]
    refine List.nodup_append.2 ⟨hd.1, (List.nodup_cons.1 hd.2.1).2, fun k hk l hl => hd.2.2 k hk l (List.mem_cons_of_mem _ hl)⟩
  · intro z hz k hk
    rcases hmem z hz with rfl | ⟨_, hz''⟩
    · cases hk
    · exact h.heap.apart z hz'' k hk
  · intro z hz k hk
    rcases hmem z hz with rfl | ⟨_, hz''⟩
    · cases hk
    · exact h.own z hz'' k hk
  · have hob := h.own x hx b hb
    refine ⟨hw.os.trans h.ext.os, hw.tape.trans h.ext.tape, hw.output.trans h.ext.output, by rw [hw.size]; exact h.ext.size, fun k hk hB => ?_⟩
    rw [hw.other k (by rintro rfl; rcases hob with h1 | h1; omega; exact hB h1)]
    exact h.ext.block k hk hB
/-- A call that writes to a builder. -/
theorem cx_bld {P : Program} [Tab P] {G : Glo} {f : FuncId} {avs : List AVal} {H : Heap} {K Kp : AVal → Heap → Prop} {i j b : Nat} {p v : Value} {s s' : List UInt8} {r : AVal} (hi : H[i]? = some (bldC b p j v)) (hj : H[j]? = some (bldR v s)) (hne : i ≠ j)
    (hs : FnSpec P G f avs [bldC b p 1 v, bldR v s] (fun x H => ∃ va vk vc, x = .ret r ∧ H = [bldC b (ptrA b) 1 (.slice va vk vc), bldR (.slice va vk vc) s']))
    (k : ∀ va vk vc, forceH ((H.set i (bldC b (ptrA b) j (.slice va vk vc))).set j (bldR (.slice va vk vc) s')) (K r)) : Cx P G f avs H K Kp := by
  obtain ⟨rest, hp, hp2⟩ := two_perm hne hi hj
  have h1 : FnSpec P G f avs [bldC b p j v, bldR v s] (fun x H => ∃ va vk vc, x = .ret r ∧ H = [bldC b (ptrA b) j (.slice va vk vc), bldR (.slice va vk vc) s']) := by
    refine fn_hint hs ?_
    rintro x H' ⟨va, vk, vc, rfl, rfl⟩
    exact ⟨_, ⟨va, vk, vc, rfl, rfl⟩, fun C R w h => ms_hint j h⟩
  refine ⟨fun x H' => ∃ va vk vc, x = .ret r ∧ H' = (H.set i (bldC b (ptrA b) j (.slice va vk vc))).set j (bldR (.slice va vk vc) s'), fn_heap (fn_perm (H1 := [bldC b p j v, bldR v s] ++ rest) hp.symm (fn_frame rest h1)) ?_, ?_, ?_⟩
  · rintro x H' ⟨H1', ⟨va, vk, vc, rfl, rfl⟩, rfl⟩
    exact ⟨_, (hp2 _ _).symm, va, vk, vc, rfl, rfl⟩
  · rintro v' H' ⟨va, vk, vc, e, rfl⟩
    cases e
    have := k va vk vc
    rw [forceH_eq] at this
    exact this
  · rintro v' H' ⟨va, vk, vc, e, rfl⟩; cases e
/-- A call that ends a builder. -/
theorem cx_ble {P : Program} [Tab P] {G : Glo} {f : FuncId} {avs : List AVal} {H : Heap} {K Kp : AVal → Heap → Prop} {i j b : Nat} {p v : Value} {s : List UInt8} {r : AVal} (hi : H[i]? = some (bldC b p j v)) (hj : H[j]? = some (bldR v s)) (hne : i ≠ j)
    (hs : FnSpec P G f avs [bldC b p 1 v, bldR v s] (fun x H => x = .ret r ∧ H = []))
    (k : forceH ((H.set i ghostR).set j ghostR) (K r)) : Cx P G f avs H K Kp := by
  obtain ⟨rest, hp, hp2⟩ := two_perm hne hi hj
  have h1 : FnSpec P G f avs [bldC b p j v, bldR v s] (fun x H => x = .ret r ∧ H = [ghostR, ghostR]) := by
    refine fn_hint hs ?_
    rintro x H' ⟨rfl, rfl⟩
    exact ⟨_, ⟨rfl, rfl⟩, fun C R w h => (h.ghost 1).ghost 1⟩
  refine ⟨fun x H' => x = .ret r ∧ H' = (H.set i ghostR).set j ghostR, fn_heap (fn_perm (H1 := [bldC b p j v, bldR v s] ++ rest) hp.symm (fn_frame rest h1)) ?_, ?_, ?_⟩
  · rintro x H' ⟨H1', ⟨rfl, rfl⟩, rfl⟩
    exact ⟨_, (hp2 _ _).symm, rfl, rfl⟩
  · rintro v' H' ⟨e, rfl⟩
    cases e
    rw [forceH_eq] at k
    exact k
  · rintro v' H' ⟨e, rfl⟩; cases e
theorem write_string1 {G : Glo} {b : Nat} {p : Value} (hp : AddrOK b p) (v : Value) (s t : List UInt8) (hl : s.length + t.length ≤ 137438953472) : FnSpec Tryz.prog G 18 [.raw (ptrA b), .str t] [bldC b p 1 v, bldR v s]
    (fun r H => ∃ va vk vc, r = .ret (.tuple [.int .i64 t.length, .raw .nilIface]) ∧ H = [bldC b (ptrA b) 1 (.slice va vk vc), bldR (.slice va vk vc) (s ++ t)]) := by
  have hGL : GloAll G [] := gloAll_nil
  refine fn_xo 0 Tryz.func18 Tryz.call18 rfl rfl rfl rfl hGL rfl ?_
  intro C hC
  repeat' (first
    | (conv => whnf); first
      | refine .w ?_ | refine .v ?_ | apply sc_true | apply sc_false
      | (first | apply sc_lt | apply sc_nlt | apply sc_eq | apply sc_neq | apply sc_nil | apply sc_nnil | apply sc_seq | apply sc_nseq) <;> (intro hb; try exact dd hb)
      | apply sc_not | apply sc_or | (apply sc_i <;> intro hb)
      | (apply bx_i; intro hbd) | (apply gt_i; assumption; exact rfl)
      | (apply cx_is; first | exact copyCheck_any hp _ _) | (apply cx_do (i := 0) rfl; first | exact copyCheck_any hp _ _)
      | (apply ab_i; intro bl) | (apply as_i; intro va vk vc hva) | (apply av_i; intro v) | (apply ac_i; intro bl cap hcap)
      | apply bo_l | (apply nx_i <;> intro hnx) | (apply Ia.hit; assumption) | (apply Ia.miss; assumption)
      | (apply rt_is; exact rfl) | exact rt_w | (apply iv; assumption)
      | apply dw_q mixed hC hGL (by kernel_rfl) | (apply cq; assumption; (first | exact copyCheck_any hp _ _); exact rfl))
  all_goals (try conv => whnf)
  refine op1_apps hC hGL rfl rfl rfl rfl rfl rfl rfl rfl rfl rfl rfl rfl rfl rfl hl rfl ?_
  intro va vk vc
  repeat' (first
    | (conv => whnf); first
      | refine .w ?_ | refine .v ?_ | apply sc_true | apply sc_false
      | (first | apply sc_lt | apply sc_nlt | apply sc_eq | apply sc_neq | apply sc_nil | apply sc_nnil | apply sc_seq | apply sc_nseq) <;> (intro hb; try exact dd hb)
      | apply sc_not | apply sc_or | (apply sc_i <;> intro hb)
      | (apply bx_i; intro hbd) | (apply gt_i; assumption; exact rfl)
      | (apply cx_is; first | exact copyCheck_any hp _ _) | (apply cx_do (i := 0) rfl; first | exact copyCheck_any hp _ _)
      | (apply ab_i; intro bl) | (apply as_i; intro va vk vc hva) | (apply av_i; intro v) | (apply ac_i; intro bl cap hcap)
      | apply bo_l | (apply nx_i <;> intro hnx) | (apply Ia.hit; assumption) | (apply Ia.miss; assumption)
      | (apply rt_is; exact rfl) | exact rt_w | (apply iv; assumption)
      | apply dw_q mixed hC hGL (by kernel_rfl) | (apply cq; assumption; (first | exact copyCheck_any hp _ _); exact rfl))
  all_goals (try conv => whnf)
  exact ⟨_, List.Sublist.refl _, va, vk, vc, rfl, by rw [bldR_app]⟩
/-- A row's value at a call's beginning. -/
theorem fn_row {P : Program} {G : Glo} {f : FuncId} {avs : List AVal} {H : Heap} {Qf : ARes → Heap → Prop} {i sz m : Nat} {v : Value} {eT : Option TypeId} {cs : List AVal} (hi : H[i]? = some (.row v eT sz m cs))
    (h : ((v = .slice none 0 0 ∧ m = 0) ∨ ∃ g cap, v = .slice (some ⟨g, 0, none⟩) m cap ∧ m ≤ cap) → FnSpec P G f avs H Qf) : FnSpec P G f avs H Qf := by
  unfold FnSpec at h ⊢
  intro R w args hG hm ha
  obtain ⟨_, hh⟩ := hm.heap.holds _ (List.mem_of_getElem? hi)
  refine h ?_ R w args hG hm ha
  rcases hh with ⟨rfl, rfl⟩ | ⟨g, cap, _, _, _, rfl, _, _, hle, _⟩
  · exact .inl ⟨rfl, rfl⟩
  · exact .inr ⟨g, cap, rfl, hle⟩
section
variable {P : Program} [Tab P] {C : Ctx} {n : Nat} {env : Env} {H : Heap} {Q : AExit → Env → Heap → Prop} {ops : Array Oper} {rest : List Oper} {G : Glo} {GL : List (Nat × List AVal)}
variable {d : Nat} {t : TypeId} {p : String} {af : Array Edge} {g : Option (Nat × Bool)} {b : Bool} {x y : Operand}
omit [Tab P] in
theorem rv_usd {i k c : Nat} {a : Addr} {ts : Array TypeId} (hx : evalA env x = some (.own i (.slice (some a) k c))) (hc : c ≠ 0) : RunV P C H env (.call { callee := .builtin .unsafeSliceData, args := #[x], argTypes := ts }) (.raw (.pointer (some a))) := by
  intro R ρ w hm hf dst t p af g
  refine ⟨.pointer (some a), ?_, rel_raw.2 rfl⟩
  have hr := Lib.run_unsafeSliceData_row (P := P) w ts t a k c hc
  have e : (#[x].map ρ) = #[.slice (some a) k c] := by simp [(rel_own.1 (hf _ _ hx)).1]
  simp only [execOp, resolve, Sem.run_bind, Sem.run_pure, Result.andThen_ok, invoke, builtin, e, hr]
theorem op1_ustr {i0 gb cap : Nat} {s : List UInt8} {pt it : TypeId} {e : TypeId} (hC : C.G = G) (hGL : GloAll G GL) (hg : guardA ops env g = some (b, b)) (hdn : Nat.ble (d + 1) n = true)
    (hx : evalA env x = some (.raw (ptrA gb))) (hy : evalA env y = some (.int .i64 s.length)) (hi : H[i0]? = some (.row (.slice (some ⟨gb, 0, none⟩) s.length cap) (some e) 1 s.length (bytesC s))) (hs : s ≠ []) (hlen : s.length ≤ 137438953472)
    (hp : P.underlying pt = some (.pointer e)) (hce : P.cellsOf e = 1) (k : opsX P C n G GL ops Q rest ((d, .str s) :: env) (H.set i0 ghostR)) :
    Op1 P C n ops ({ dst := some d, op := .call { callee := .builtin .unsafeString, args := #[x, y], argTypes := #[pt, it] }, type := t, pos := p, after := af, guard := g } :: rest) env H Q := by
  refine ⟨ao_valX (X := Unit) (av := fun _ => .str s) (H' := fun _ => H.set i0 ghostR) hg rfl hdn (fun R ρ w hm hf => ?_) fun _ => opsX_ok hC hGL _ _ _ k⟩
  obtain ⟨_, hh⟩ := hm.heap.holds _ (List.mem_of_getElem? hi)
  rcases hh with ⟨h, _⟩ | ⟨g', cap', Cs, el, fz, h, hb, hcs, hle, hl, hfz, ht⟩
  · cases h
  · cases h
    obtain rfl := ht e rfl
    rw [Nat.mul_one] at hcs hl
    have hcell : ∀ j x, s[j]? = some x → w.cell? ((⟨gb, 0, none⟩ : Addr).add j) = some (.int .u8 x.toNat) := by
      intro j x hj
      obtain ⟨hj1, hj2⟩ := List.getElem?_eq_some_iff.1 hj
      have := bytes_cell (s := s) (o := 0) hb (by rw [List.drop_zero]; exact hl) j hj1
      rw [hj2] at this
      exact this
    have hsh : w.shape? gb = some (el, Cs.size) := by simp [World.shape?, hb]
    have hr := Lib.run_unsafeString_row (P := P) w pt it t el hp hce gb Cs.size hsh s hs (by omega) (by omega) hcell
    have e2 : (#[x, y].map ρ) = #[ptrA gb, .int .i64 s.length] := by simp [rel_raw.1 (hf _ _ hx), rel_int.1 (hf _ _ hy)]
    have hone : ∃ o, OneBlk w gb o (w.freeze ⟨gb, 0, none⟩ s.length) := by
      have h0 : s.length ≠ 0 := by simpa using hs
      unfold World.freeze
      rw [if_neg h0]
      obtain ⟨lo, hi⟩ := fz
      refine ⟨.cells Cs el (if lo == hi then (0, 0 + s.length) else (min lo 0, max hi (0 + s.length))), rfl, rfl, rfl, by simp, ?_, ?_⟩
      · simp [Array.getElem?_modify, hb]
      · intro k hk; simp [Array.getElem?_modify, Ne.symm hk]
    obtain ⟨o, hone⟩ := hone
    refine ⟨(), .string ⟨s.toArray⟩, w.freeze ⟨gb, 0, none⟩ s.length, R, ?_, Seal.le_refl R, rel_str.2 rfl, hm.spoil hi rfl hone⟩
    simp only [execOp, resolve, Sem.run_bind, Sem.run_pure, Result.andThen_ok, invoke, builtin, e2, hr]
omit [Tab P] in
theorem rv_usn {i k c : Nat} {ts : Array TypeId} (hx : evalA env x = some (.own i (.slice none k c))) : RunV P C H env (.call { callee := .builtin .unsafeSliceData, args := #[x], argTypes := ts }) (.raw (.pointer none)) := by
  intro R ρ w hm hf dst t p af g
  refine ⟨.pointer none, ?_, rel_raw.2 rfl⟩
  have hr := Lib.run_unsafeSliceData_nil (P := P) w ts t k c
  have e : (#[x].map ρ) = #[.slice none k c] := by simp [(rel_own.1 (hf _ _ hx)).1]
  simp only [execOp, resolve, Sem.run_bind, Sem.run_pure, Result.andThen_ok, invoke, builtin, e, hr]
omit [Tab P] in
theorem rv_ust0 {pt it : TypeId} {a : Option Addr} (hx : evalA env x = some (.raw (.pointer a))) (hy : evalA env y = some (.int .i64 0)) : RunV P C H env (.call { callee := .builtin .unsafeString, args := #[x, y], argTypes := #[pt, it] }) (.str []) := by
  intro R ρ w hm hf dst t p af g
  refine ⟨.string .empty, ?_, rel_str.2 rfl⟩
  have hr := Lib.run_unsafeString_none (P := P) w pt it t a
  have e : (#[x, y].map ρ) = #[.pointer a, .int .i64 0] := by simp [rel_raw.1 (hf _ _ hx), rel_int.1 (hf _ _ hy)]
  simp only [execOp, resolve, Sem.run_bind, Sem.run_pure, Result.andThen_ok, invoke, builtin, e, hr]
theorem op1_usz {i0 i k gb : Nat} {ts : Array TypeId} {e : TypeId} {eT : Option TypeId} {cs : List AVal} (hC : C.G = G) (hGL : GloAll G GL) (hg : guardA ops env g = some (b, b)) (hdn : Nat.ble (d + 1) n = true)
    (hx : evalA env x = some (.own i (.slice (some ⟨gb, 0, none⟩) k 0))) (hi : H[i0]? = some (.row (.slice (some ⟨gb, 0, none⟩) k 0) eT 1 k cs)) (hp : P.underlying t = some (.pointer e))
    (kk : ∀ bl, opsX P C n G GL ops Q rest ((d, .raw (ptrA bl)) :: env) H) :
    Op1 P C n ops ({ dst := some d, op := .call { callee := .builtin .unsafeSliceData, args := #[x], argTypes := ts }, type := t, pos := p, after := af, guard := g } :: rest) env H Q := by
  refine ⟨ao_valX (X := Nat) (av := fun bl => .raw (ptrA bl)) (H' := fun _ => H) hg rfl hdn (fun R ρ w hm hf => ?_) fun bl => opsX_ok hC hGL _ _ _ (kk bl)⟩
  obtain ⟨_, hh⟩ := hm.heap.holds _ (List.mem_of_getElem? hi)
  rcases hh with ⟨h, _⟩ | ⟨g', cap', Cs, el, fz, h, hb, hcs, hle, hl, hfz, ht⟩
  · cases h
  · cases h
    have hr := Lib.run_unsafeSliceData_zero (P := P) w ts t e hp ⟨gb, 0, none⟩ k (el, Cs.size) (by simp [World.shape?, hb])
    have e2 : (#[x].map ρ) = #[.slice (some ⟨gb, 0, none⟩) k 0] := by simp [(rel_own.1 (hf _ _ hx)).1]
    refine ⟨w.heap.size, ptrA w.heap.size, _, R.put w.heap.size (.view ⟨gb, 0, none⟩ e), ?_, Seal.put_le hm.seal_free, rel_raw.2 rfl, hm.alloc_sealed _⟩
    simp only [execOp, resolve, Sem.run_bind, Sem.run_pure, Result.andThen_ok, invoke, builtin, e2, hr]
    rfl
end
theorem builder_string1 {G : Glo} {b : Nat} {p : Value} (g cap : Nat) (s : List UInt8) (hs : s ≠ []) (hlen : s.length ≤ 137438953472) (hc0 : cap ≠ 0) : FnSpec Tryz.prog G 21 [.raw (ptrA b)] [bldC b p 1 (.slice (some ⟨g, 0, none⟩) s.length cap), bldR (.slice (some ⟨g, 0, none⟩) s.length cap) s] (fun r H => r = .ret (.str s) ∧ H = [bldC b p 1 (.slice (some ⟨g, 0, none⟩) s.length cap)]) := by
  have hGL : GloAll G [] := gloAll_nil
  refine fn_xo 0 Tryz.func21 Tryz.call21 rfl rfl rfl rfl hGL rfl ?_
  intro C hC
  repeat' (first
    | (conv => whnf); first
      | refine .w ?_ | (first | refine Ix.v ?_ | refine Sd.v ?_ | refine Sl.v ?_) | apply sc_true | apply sc_false
      | (first | apply sc_lt | apply sc_nlt | apply sc_eq | apply sc_neq | apply sc_nil | apply sc_nnil) <;> (intro hb; try exact dd hb)
      | apply sc_not | (apply sc_i <;> intro hb) | (apply bx_i; intro hbd) | (apply gt_i; assumption; exact rfl)
      | (apply cx_is; first | fail) | (apply ab_i; intro bl) | (apply rt_is; exact rfl) | exact rt_w
      | exact True.intro | (apply bc_i; intro C hC) | apply bt_i | apply og_n | (apply og_a; exact rfl))
  all_goals (try conv => whnf)
  refine dw_p mixed hC hGL false (fun (_ : Unit) => [(2, .str s)]) (fun _ => [bldC b p 1 (.slice (some ⟨g, 0, none⟩) s.length cap), ghostR]) (.take 0 (.take 1 (.take 2 (.take 5 (.take 6 (.take 7 (.br 3 (.br 4 (.br 8 (.br 9 (.br 10 (.take 11 (.done)) (.nil)) (.nil)) (.nil)) (.br 8 (.br 4 (.br 9 (.br 10 (.take 11 (.done)) (.nil)) (.nil)) (.br 9 (.br 4 (.br 10 (.take 11 (.done)) (.nil)) (.nil)) (.nil))) (.nil))) (.br 8 (.br 3 (.br 4 (.br 9 (.br 10 (.take 11 (.done)) (.nil)) (.nil)) (.br 9 (.br 4 (.br 10 (.take 11 (.done)) (.nil)) (.nil)) (.nil))) (.br 9 (.br 3 (.br 4 (.br 10 (.take 11 (.done)) (.nil)) (.nil)) (.nil)) (.nil))) (.nil))))))))) (by kernel_rfl) ?_ ?_
  · repeat' (first
      | (conv => whnf); first
        | refine .w ?_ | (first | refine Ix.v ?_ | refine Sd.v ?_ | refine Sl.v ?_) | apply sc_true | apply sc_false
        | (first | apply sc_lt | apply sc_nlt | apply sc_eq | apply sc_neq | apply sc_nil | apply sc_nnil) <;> (intro hb; try exact dd hb)
        | apply sc_not | (apply sc_i <;> intro hb) | (apply bx_i; intro hbd) | (apply gt_i; assumption; exact rfl)
        | (apply cx_is; first | fail) | (apply ab_i; intro bl) | (apply rt_is; exact rfl) | exact rt_w
        | exact True.intro | (apply bc_i; intro C hC) | apply bt_i | apply og_n | (apply og_a; exact rfl))
    all_goals (try conv => whnf)
    all_goals (apply op1_run hC hGL; exact rv_usd rfl hc0; exact rfl; exact rfl)
    all_goals (
      repeat' (first
        | (conv => whnf); first
          | refine .w ?_ | (first | refine Ix.v ?_ | refine Sd.v ?_ | refine Sl.v ?_) | apply sc_true | apply sc_false
          | (first | apply sc_lt | apply sc_nlt | apply sc_eq | apply sc_neq | apply sc_nil | apply sc_nnil) <;> (intro hb; try exact dd hb)
          | apply sc_not | (apply sc_i <;> intro hb) | (apply bx_i; intro hbd) | (apply gt_i; assumption; exact rfl)
          | (apply cx_is; first | fail) | (apply ab_i; intro bl) | (apply rt_is; exact rfl) | exact rt_w
          | exact True.intro | (apply bc_i; intro C hC) | apply bt_i | apply og_n | (apply og_a; exact rfl))
      all_goals (try conv => whnf)
    )
    all_goals (apply op1_ustr (i0 := 1) (s := s) (cap := cap) (gb := g) hC hGL; exact rfl; exact rfl; exact rfl; exact rfl; exact rfl; exact hs; exact hlen; exact Tryz.underlying70; kernel_rfl)
    all_goals (
      repeat' (first
        | (conv => whnf); first
          | refine .w ?_ | (first | refine Ix.v ?_ | refine Sd.v ?_ | refine Sl.v ?_) | apply sc_true | apply sc_false
          | (first | apply sc_lt | apply sc_nlt | apply sc_eq | apply sc_neq | apply sc_nil | apply sc_nnil) <;> (intro hb; try exact dd hb)
          | apply sc_not | (apply sc_i <;> intro hb) | (apply bx_i; intro hbd) | (apply gt_i; assumption; exact rfl)
          | (apply cx_is; first | fail) | (apply ab_i; intro bl) | (apply rt_is; exact rfl) | exact rt_w
          | exact True.intro | (apply bc_i; intro C hC) | apply bt_i | apply og_n | (apply og_a; exact rfl))
      all_goals (try conv => whnf)
    )
    all_goals (exact ⟨(), ⟨rfl, trivial⟩, rfl⟩)
  · intro _
    repeat' (first
      | (conv => whnf); first
        | refine .w ?_ | (first | refine Ix.v ?_ | refine Sd.v ?_ | refine Sl.v ?_) | apply sc_true | apply sc_false
        | (first | apply sc_lt | apply sc_nlt | apply sc_eq | apply sc_neq | apply sc_nil | apply sc_nnil) <;> (intro hb; try exact dd hb)
        | apply sc_not | (apply sc_i <;> intro hb) | (apply bx_i; intro hbd) | (apply gt_i; assumption; exact rfl)
        | (apply cx_is; first | fail) | (apply ab_i; intro bl) | (apply rt_is; exact rfl) | exact rt_w
        | exact True.intro | (apply bc_i; intro C hC) | apply bt_i | apply og_n | (apply og_a; exact rfl))
    all_goals (try conv => whnf)
theorem builder_string2 {G : Glo} {b : Nat} {p : Value} (g cap : Nat) (hc0 : cap ≠ 0) : FnSpec Tryz.prog G 21 [.raw (ptrA b)] [bldC b p 1 (.slice (some ⟨g, 0, none⟩) 0 cap), bldR (.slice (some ⟨g, 0, none⟩) 0 cap) []] (fun r H => r = .ret (.str []) ∧ H = [bldC b p 1 (.slice (some ⟨g, 0, none⟩) 0 cap)]) := by
  have hGL : GloAll G [] := gloAll_nil
  refine fn_xo 0 Tryz.func21 Tryz.call21 rfl rfl rfl rfl hGL rfl ?_
  intro C hC
  repeat' (first
    | (conv => whnf); first
      | refine .w ?_ | (first | refine Ix.v ?_ | refine Sd.v ?_ | refine Sl.v ?_) | apply sc_true | apply sc_false
      | (first | apply sc_lt | apply sc_nlt | apply sc_eq | apply sc_neq | apply sc_nil | apply sc_nnil) <;> (intro hb; try exact dd hb)
      | apply sc_not | (apply sc_i <;> intro hb) | (apply bx_i; intro hbd) | (apply gt_i; assumption; exact rfl)
      | (apply cx_is; first | fail) | (apply ab_i; intro bl) | (apply rt_is; exact rfl) | exact rt_w
      | exact True.intro | (apply bc_i; intro C hC) | apply bt_i | apply og_n | (apply og_a; exact rfl))
  all_goals (try conv => whnf)
  refine dw_p mixed hC hGL false (fun (_ : Unit) => [(2, .str [])]) (fun _ => [bldC b p 1 (.slice (some ⟨g, 0, none⟩) 0 cap), bldR (.slice (some ⟨g, 0, none⟩) 0 cap) []]) (.take 0 (.take 1 (.take 2 (.take 5 (.take 6 (.take 7 (.br 3 (.br 4 (.br 8 (.br 9 (.br 10 (.take 11 (.done)) (.nil)) (.nil)) (.nil)) (.br 8 (.br 4 (.br 9 (.br 10 (.take 11 (.done)) (.nil)) (.nil)) (.br 9 (.br 4 (.br 10 (.take 11 (.done)) (.nil)) (.nil)) (.nil))) (.nil))) (.br 8 (.br 3 (.br 4 (.br 9 (.br 10 (.take 11 (.done)) (.nil)) (.nil)) (.br 9 (.br 4 (.br 10 (.take 11 (.done)) (.nil)) (.nil)) (.nil))) (.br 9 (.br 3 (.br 4 (.br 10 (.take 11 (.done)) (.nil)) (.nil)) (.nil)) (.nil))) (.nil))))))))) (by kernel_rfl) ?_ ?_
  · repeat' (first
      | (conv => whnf); first
        | refine .w ?_ | (first | refine Ix.v ?_ | refine Sd.v ?_ | refine Sl.v ?_) | apply sc_true | apply sc_false
        | (first | apply sc_lt | apply sc_nlt | apply sc_eq | apply sc_neq | apply sc_nil | apply sc_nnil) <;> (intro hb; try exact dd hb)
        | apply sc_not | (apply sc_i <;> intro hb) | (apply bx_i; intro hbd) | (apply gt_i; assumption; exact rfl)
        | (apply cx_is; first | fail) | (apply ab_i; intro bl) | (apply rt_is; exact rfl) | exact rt_w
        | exact True.intro | (apply bc_i; intro C hC) | apply bt_i | apply og_n | (apply og_a; exact rfl))
    all_goals (try conv => whnf)
    all_goals (apply op1_run hC hGL; exact rv_usd rfl hc0; exact rfl; exact rfl)
    all_goals (
      repeat' (first
        | (conv => whnf); first
          | refine .w ?_ | (first | refine Ix.v ?_ | refine Sd.v ?_ | refine Sl.v ?_) | apply sc_true | apply sc_false
          | (first | apply sc_lt | apply sc_nlt | apply sc_eq | apply sc_neq | apply sc_nil | apply sc_nnil) <;> (intro hb; try exact dd hb)
          | apply sc_not | (apply sc_i <;> intro hb) | (apply bx_i; intro hbd) | (apply gt_i; assumption; exact rfl)
          | (apply cx_is; first | fail) | (apply ab_i; intro bl) | (apply rt_is; exact rfl) | exact rt_w
          | exact True.intro | (apply bc_i; intro C hC) | apply bt_i | apply og_n | (apply og_a; exact rfl))
      all_goals (try conv => whnf)
    )
    all_goals (apply op1_run hC hGL; exact rv_ust0 rfl rfl; exact rfl; exact rfl)
    all_goals (
      repeat' (first
        | (conv => whnf); first
          | refine .w ?_ | (first | refine Ix.v ?_ | refine Sd.v ?_ | refine Sl.v ?_) | apply sc_true | apply sc_false
          | (first | apply sc_lt | apply sc_nlt | apply sc_eq | apply sc_neq | apply sc_nil | apply sc_nnil) <;> (intro hb; try exact dd hb)
          | apply sc_not | (apply sc_i <;> intro hb) | (apply bx_i; intro hbd) | (apply gt_i; assumption; exact rfl)
          | (apply cx_is; first | fail) | (apply ab_i; intro bl) | (apply rt_is; exact rfl) | exact rt_w
          | exact True.intro | (apply bc_i; intro C hC) | apply bt_i | apply og_n | (apply og_a; exact rfl))
      all_goals (try conv => whnf)
    )
    all_goals (exact ⟨(), ⟨rfl, trivial⟩, rfl⟩)
  · intro _
    repeat' (first
      | (conv => whnf); first
        | refine .w ?_ | (first | refine Ix.v ?_ | refine Sd.v ?_ | refine Sl.v ?_) | apply sc_true | apply sc_false
        | (first | apply sc_lt | apply sc_nlt | apply sc_eq | apply sc_neq | apply sc_nil | apply sc_nnil) <;> (intro hb; try exact dd hb)
        | apply sc_not | (apply sc_i <;> intro hb) | (apply bx_i; intro hbd) | (apply gt_i; assumption; exact rfl)
        | (apply cx_is; first | fail) | (apply ab_i; intro bl) | (apply rt_is; exact rfl) | exact rt_w
        | exact True.intro | (apply bc_i; intro C hC) | apply bt_i | apply og_n | (apply og_a; exact rfl))
    all_goals (try conv => whnf)
theorem builder_string3 {G : Glo} {b : Nat} {p : Value}  : FnSpec Tryz.prog G 21 [.raw (ptrA b)] [bldC b p 1 (.slice none 0 0), bldR (.slice none 0 0) []] (fun r H => r = .ret (.str []) ∧ H = [bldC b p 1 (.slice none 0 0)]) := by
  have hGL : GloAll G [] := gloAll_nil
  refine fn_xo 0 Tryz.func21 Tryz.call21 rfl rfl rfl rfl hGL rfl ?_
  intro C hC
  repeat' (first
    | (conv => whnf); first
      | refine .w ?_ | (first | refine Ix.v ?_ | refine Sd.v ?_ | refine Sl.v ?_) | apply sc_true | apply sc_false
      | (first | apply sc_lt | apply sc_nlt | apply sc_eq | apply sc_neq | apply sc_nil | apply sc_nnil) <;> (intro hb; try exact dd hb)
      | apply sc_not | (apply sc_i <;> intro hb) | (apply bx_i; intro hbd) | (apply gt_i; assumption; exact rfl)
      | (apply cx_is; first | fail) | (apply ab_i; intro bl) | (apply rt_is; exact rfl) | exact rt_w
      | exact True.intro | (apply bc_i; intro C hC) | apply bt_i | apply og_n | (apply og_a; exact rfl))
  all_goals (try conv => whnf)
  refine dw_p mixed hC hGL false (fun (_ : Unit) => [(2, .str [])]) (fun _ => [bldC b p 1 (.slice none 0 0), bldR (.slice none 0 0) []]) (.take 0 (.take 1 (.take 2 (.take 5 (.take 6 (.take 7 (.br 3 (.br 4 (.br 8 (.br 9 (.br 10 (.take 11 (.done)) (.nil)) (.nil)) (.nil)) (.br 8 (.br 4 (.br 9 (.br 10 (.take 11 (.done)) (.nil)) (.nil)) (.br 9 (.br 4 (.br 10 (.take 11 (.done)) (.nil)) (.nil)) (.nil))) (.nil))) (.br 8 (.br 3 (.br 4 (.br 9 (.br 10 (.take 11 (.done)) (.nil)) (.nil)) (.br 9 (.br 4 (.br 10 (.take 11 (.done)) (.nil)) (.nil)) (.nil))) (.br 9 (.br 3 (.br 4 (.br 10 (.take 11 (.done)) (.nil)) (.nil)) (.nil)) (.nil))) (.nil))))))))) (by kernel_rfl) ?_ ?_
  · repeat' (first
      | (conv => whnf); first
        | refine .w ?_ | (first | refine Ix.v ?_ | refine Sd.v ?_ | refine Sl.v ?_) | apply sc_true | apply sc_false
        | (first | apply sc_lt | apply sc_nlt | apply sc_eq | apply sc_neq | apply sc_nil | apply sc_nnil) <;> (intro hb; try exact dd hb)
        | apply sc_not | (apply sc_i <;> intro hb) | (apply bx_i; intro hbd) | (apply gt_i; assumption; exact rfl)
        | (apply cx_is; first | fail) | (apply ab_i; intro bl) | (apply rt_is; exact rfl) | exact rt_w
        | exact True.intro | (apply bc_i; intro C hC) | apply bt_i | apply og_n | (apply og_a; exact rfl))
    all_goals (try conv => whnf)
    all_goals (apply op1_run hC hGL; exact rv_usn rfl; exact rfl; exact rfl)
    all_goals (
      repeat' (first
        | (conv => whnf); first
          | refine .w ?_ | (first | refine Ix.v ?_ | refine Sd.v ?_ | refine Sl.v ?_) | apply sc_true | apply sc_false
          | (first | apply sc_lt | apply sc_nlt | apply sc_eq | apply sc_neq | apply sc_nil | apply sc_nnil) <;> (intro hb; try exact dd hb)
          | apply sc_not | (apply sc_i <;> intro hb) | (apply bx_i; intro hbd) | (apply gt_i; assumption; exact rfl)
          | (apply cx_is; first | fail) | (apply ab_i; intro bl) | (apply rt_is; exact rfl) | exact rt_w
          | exact True.intro | (apply bc_i; intro C hC) | apply bt_i | apply og_n | (apply og_a; exact rfl))
      all_goals (try conv => whnf)
    )
    all_goals (apply op1_run hC hGL; exact rv_ust0 rfl rfl; exact rfl; exact rfl)
    all_goals (
      repeat' (first
        | (conv => whnf); first
          | refine .w ?_ | (first | refine Ix.v ?_ | refine Sd.v ?_ | refine Sl.v ?_) | apply sc_true | apply sc_false
          | (first | apply sc_lt | apply sc_nlt | apply sc_eq | apply sc_neq | apply sc_nil | apply sc_nnil) <;> (intro hb; try exact dd hb)
          | apply sc_not | (apply sc_i <;> intro hb) | (apply bx_i; intro hbd) | (apply gt_i; assumption; exact rfl)
          | (apply cx_is; first | fail) | (apply ab_i; intro bl) | (apply rt_is; exact rfl) | exact rt_w
          | exact True.intro | (apply bc_i; intro C hC) | apply bt_i | apply og_n | (apply og_a; exact rfl))
      all_goals (try conv => whnf)
    )
    all_goals (exact ⟨(), ⟨rfl, trivial⟩, rfl⟩)
  · intro _
    repeat' (first
      | (conv => whnf); first
        | refine .w ?_ | (first | refine Ix.v ?_ | refine Sd.v ?_ | refine Sl.v ?_) | apply sc_true | apply sc_false
        | (first | apply sc_lt | apply sc_nlt | apply sc_eq | apply sc_neq | apply sc_nil | apply sc_nnil) <;> (intro hb; try exact dd hb)
        | apply sc_not | (apply sc_i <;> intro hb) | (apply bx_i; intro hbd) | (apply gt_i; assumption; exact rfl)
        | (apply cx_is; first | fail) | (apply ab_i; intro bl) | (apply rt_is; exact rfl) | exact rt_w
        | exact True.intro | (apply bc_i; intro C hC) | apply bt_i | apply og_n | (apply og_a; exact rfl))
    all_goals (try conv => whnf)
theorem builder_string4 {G : Glo} {b : Nat} {p : Value} (g : Nat) : FnSpec Tryz.prog G 21 [.raw (ptrA b)] [bldC b p 1 (.slice (some ⟨g, 0, none⟩) 0 0), bldR (.slice (some ⟨g, 0, none⟩) 0 0) []] (fun r H => r = .ret (.str []) ∧ H = [bldC b p 1 (.slice (some ⟨g, 0, none⟩) 0 0)]) := by
  have hGL : GloAll G [] := gloAll_nil
  refine fn_xo 0 Tryz.func21 Tryz.call21 rfl rfl rfl rfl hGL rfl ?_
  intro C hC
  repeat' (first
    | (conv => whnf); first
      | refine .w ?_ | (first | refine Ix.v ?_ | refine Sd.v ?_ | refine Sl.v ?_) | apply sc_true | apply sc_false
      | (first | apply sc_lt | apply sc_nlt | apply sc_eq | apply sc_neq | apply sc_nil | apply sc_nnil) <;> (intro hb; try exact dd hb)
      | apply sc_not | (apply sc_i <;> intro hb) | (apply bx_i; intro hbd) | (apply gt_i; assumption; exact rfl)
      | (apply cx_is; first | fail) | (apply ab_i; intro bl) | (apply rt_is; exact rfl) | exact rt_w
      | exact True.intro | (apply bc_i; intro C hC) | apply bt_i | apply og_n | (apply og_a; exact rfl))
  all_goals (try conv => whnf)
  refine dw_p mixed hC hGL false (fun (_ : Unit) => [(2, .str [])]) (fun _ => [bldC b p 1 (.slice (some ⟨g, 0, none⟩) 0 0), bldR (.slice (some ⟨g, 0, none⟩) 0 0) []]) (.take 0 (.take 1 (.take 2 (.take 5 (.take 6 (.take 7 (.br 3 (.br 4 (.br 8 (.br 9 (.br 10 (.take 11 (.done)) (.nil)) (.nil)) (.nil)) (.br 8 (.br 4 (.br 9 (.br 10 (.take 11 (.done)) (.nil)) (.nil)) (.br 9 (.br 4 (.br 10 (.take 11 (.done)) (.nil)) (.nil)) (.nil))) (.nil))) (.br 8 (.br 3 (.br 4 (.br 9 (.br 10 (.take 11 (.done)) (.nil)) (.nil)) (.br 9 (.br 4 (.br 10 (.take 11 (.done)) (.nil)) (.nil)) (.nil))) (.br 9 (.br 3 (.br 4 (.br 10 (.take 11 (.done)) (.nil)) (.nil)) (.nil)) (.nil))) (.nil))))))))) (by kernel_rfl) ?_ ?_
  · repeat' (first
      | (conv => whnf); first
        | refine .w ?_ | (first | refine Ix.v ?_ | refine Sd.v ?_ | refine Sl.v ?_) | apply sc_true | apply sc_false
        | (first | apply sc_lt | apply sc_nlt | apply sc_eq | apply sc_neq | apply sc_nil | apply sc_nnil) <;> (intro hb; try exact dd hb)
        | apply sc_not | (apply sc_i <;> intro hb) | (apply bx_i; intro hbd) | (apply gt_i; assumption; exact rfl)
        | (apply cx_is; first | fail) | (apply ab_i; intro bl) | (apply rt_is; exact rfl) | exact rt_w
        | exact True.intro | (apply bc_i; intro C hC) | apply bt_i | apply og_n | (apply og_a; exact rfl))
    all_goals (try conv => whnf)
    all_goals (apply op1_usz (i0 := 1) hC hGL; exact rfl; exact rfl; exact rfl; exact rfl; exact Tryz.underlying70; intro bl)
    all_goals (
      repeat' (first
        | (conv => whnf); first
          | refine .w ?_ | (first | refine Ix.v ?_ | refine Sd.v ?_ | refine Sl.v ?_) | apply sc_true | apply sc_false
          | (first | apply sc_lt | apply sc_nlt | apply sc_eq | apply sc_neq | apply sc_nil | apply sc_nnil) <;> (intro hb; try exact dd hb)
          | apply sc_not | (apply sc_i <;> intro hb) | (apply bx_i; intro hbd) | (apply gt_i; assumption; exact rfl)
          | (apply cx_is; first | fail) | (apply ab_i; intro bl) | (apply rt_is; exact rfl) | exact rt_w
          | exact True.intro | (apply bc_i; intro C hC) | apply bt_i | apply og_n | (apply og_a; exact rfl))
      all_goals (try conv => whnf)
    )
    all_goals (apply op1_run hC hGL; exact rv_ust0 rfl rfl; exact rfl; exact rfl)
    all_goals (
      repeat' (first
        | (conv => whnf); first
          | refine .w ?_ | (first | refine Ix.v ?_ | refine Sd.v ?_ | refine Sl.v ?_) | apply sc_true | apply sc_false
          | (first | apply sc_lt | apply sc_nlt | apply sc_eq | apply sc_neq | apply sc_nil | apply sc_nnil) <;> (intro hb; try exact dd hb)
          | apply sc_not | (apply sc_i <;> intro hb) | (apply bx_i; intro hbd) | (apply gt_i; assumption; exact rfl)
          | (apply cx_is; first | fail) | (apply ab_i; intro bl) | (apply rt_is; exact rfl) | exact rt_w
          | exact True.intro | (apply bc_i; intro C hC) | apply bt_i | apply og_n | (apply og_a; exact rfl))
      all_goals (try conv => whnf)
    )
    all_goals (exact ⟨(), ⟨rfl, trivial⟩, rfl⟩)
  · intro _
    repeat' (first
      | (conv => whnf); first
        | refine .w ?_ | (first | refine Ix.v ?_ | refine Sd.v ?_ | refine Sl.v ?_) | apply sc_true | apply sc_false
        | (first | apply sc_lt | apply sc_nlt | apply sc_eq | apply sc_neq | apply sc_nil | apply sc_nnil) <;> (intro hb; try exact dd hb)
        | apply sc_not | (apply sc_i <;> intro hb) | (apply bx_i; intro hbd) | (apply gt_i; assumption; exact rfl)
        | (apply cx_is; first | fail) | (apply ab_i; intro bl) | (apply rt_is; exact rfl) | exact rt_w
        | exact True.intro | (apply bc_i; intro C hC) | apply bt_i | apply og_n | (apply og_a; exact rfl))
    all_goals (try conv => whnf)
/-- The text so far; the builder itself is left. -/
theorem builder_keep {G : Glo} {b : Nat} {p v : Value} (s : List UInt8) (hlen : s.length ≤ 137438953472) : FnSpec Tryz.prog G 21 [.raw (ptrA b)] [bldC b p 1 v, bldR v s] (fun r H => r = .ret (.str s) ∧ H = [bldC b p 1 v]) := by
  refine fn_row (i := 1) rfl ?_
  rintro (⟨rfl, h0⟩ | ⟨g, cap, rfl, hc⟩)
  · obtain rfl : s = [] := List.eq_nil_of_length_eq_zero h0
    exact builder_string3
  · by_cases hs : s = []
    · subst hs
      by_cases hc0 : cap = 0
      · subst hc0; exact builder_string4 g
      · exact builder_string2 g cap hc0
    · have h1 : s.length ≠ 0 := by simpa using hs
      exact builder_string1 g cap s hs hlen (by omega)
theorem builder_string {G : Glo} {b : Nat} {p v : Value} (s : List UInt8) (hlen : s.length ≤ 137438953472) : FnSpec Tryz.prog G 21 [.raw (ptrA b)] [bldC b p 1 v, bldR v s] (fun r H => r = .ret (.str s) ∧ H = []) :=
  fn_post (fun _ => Iff.rfl) (fun _ _ _ h => h) (builder_keep s hlen) fun r H' ⟨e, eH⟩ => ⟨[], ⟨e, rfl⟩, fun _ _ _ h => h.drop (List.nil_sublist _)⟩
end Go.Proofs.YtglapkioagenaaaGreatDoor
namespace Go.Proofs.YtglapkioagenaaaGreatDoor
open Go
set_option maxRecDepth 20000
set_option maxHeartbeats 4000000
set_option linter.unusedSimpArgs false
set_option linter.unusedVariables false
attribute [local irreducible] AWp AOps byteAt SrcOK OrOk GloAll FnSpec
attribute [local irreducible] nextS badI badS stepS rngR ownB mayZ
theorem valid_rune {G : Glo} (r : Int) : FnIs Tryz.prog G 65 [.int .i32 r] (.bool (mayZ r)) := by
  have hGL : GloAll G [] := gloAll_nil
  refine fn_x Tryz.func65 Tryz.call65 rfl rfl rfl rfl hGL ?_
  intro C hC
  repeat' (first
    | (conv => whnf); first
      | refine .w ?_ | refine .v ?_ | apply sc_true | apply sc_false
      | (first | apply sc_lt | apply sc_nlt | apply sc_eq | apply sc_neq | apply sc_nil | apply sc_nnil | apply sc_seq | apply sc_nseq) <;> (intro hb; try exact dd hb)
      | apply sc_not | apply sc_or | (apply sc_i <;> intro hb)
      | (apply bx_i; intro hbd) | (apply gt_i; assumption; exact rfl)
      | (apply cx_is; first | fail) | (apply cx_do (i := 0) rfl; first | fail)
      | (apply ab_i; intro bl) | (apply as_i; intro va vk vc hva) | (apply av_i; intro v) | (apply ac_i; intro bl cap hcap)
      | apply bo_l | (apply nx_i <;> intro hnx) | (apply Ia.hit; assumption) | (apply Ia.miss; assumption)
      | (apply rt_is; exact rfl) | exact rt_w | (apply iv; assumption)
      | apply dw_q mixed hC hGL (by kernel_rfl) | (apply cq; assumption; (first | fail); exact rfl))
  all_goals (try conv => whnf)
  all_goals (apply rt_is; refine congrArg AVal.bool ?_)
  all_goals (rw [Bool.eq_iff_iff]; simp [mayZ_t, ltB_t, ltB_f, Bool.not_eq_true'] <;> omega)
theorem enc_all {r : Int} (hz : 0 ≤ r ∧ r ≤ 1114111 ∧ (r < 55296 ∨ 57343 < r)) : (Utf8.encode r).data.toList =
    if r.toNat < 128 then [UInt8.ofNat r.toNat] else if r.toNat < 2048 then [UInt8.ofNat (192 + r.toNat / 64), UInt8.ofNat (128 + r.toNat % 64)]
    else if r.toNat < 65536 then [UInt8.ofNat (224 + r.toNat / 4096), UInt8.ofNat (128 + r.toNat / 64 % 64), UInt8.ofNat (128 + r.toNat % 64)]
    else [UInt8.ofNat (240 + r.toNat / 262144), UInt8.ofNat (128 + r.toNat / 4096 % 64), UInt8.ofNat (128 + r.toNat / 64 % 64), UInt8.ofNat (128 + r.toNat % 64)] := by
  have hv : Utf8.valid r = true := by simp [Utf8.valid]; omega
  unfold Utf8.encode
  simp only [hv, if_true]
  (repeat' split) <;> first | rfl | omega
end Go.Proofs.YtglapkioagenaaaGreatDoor
namespace Go.Proofs.YtglapkioagenaaaGreatDoor
open Go
theorem next_lo {x : UInt8} {t : List UInt8} (h : x.toNat < 128) : nextS (x :: t) = (x.toNat, 1) := by
  unfold nextS
  simp [byteAt, h]
theorem rng_lo {x : UInt8} {t : List UInt8} (h : x.toNat < 128) : rngR (x :: t) = x.toNat ∧ stepS (x :: t) = 1 := by
  unfold rngR stepS
  rw [next_lo h]
  simp
theorem two1 {a b : UInt8} : byteAt [a, b] 1 = b.toNat := rfl
/-- A scope through which nothing jumps. -/
def noGo (Q : AExit → Env → Heap → Prop) : AExit → Env → Heap → Prop
  | .goto _, _, _ => False
  | x, e, h => Q x e h
theorem cd_scope {P : Program} [Tab P] {C : Ctx} {n : Nat} {env : Env} {H : Heap} {Q : AExit → Env → Heap → Prop} {c : Code} {G : Glo} {GL : List (Nat × List AVal)} (hC : C.G = G) (hGL : GloAll G GL) (h : codeX P C n G GL c env H (noGo Q)) : Cd P C n (.scope c) env H Q := by
  refine ⟨fun R a w hm hf => wp_scope_straight (wp_mono (codeX_ok hC hGL c _ _ _ h R a w hm hf) ?_)⟩
  rintro ex a w ⟨x, e, h, R, hq, hr, hm, hf⟩
  cases x with
  | goto l => exact hq.elim
  | normal => simp only [ExitRel] at hr; subst hr; exact ⟨.normal, e, h, R, hq, rfl, hm, hf⟩
  | exit i => simp only [ExitRel] at hr; subst hr; exact ⟨.exit i, e, h, R, hq, rfl, hm, hf⟩
  | ret => simp only [ExitRel] at hr; subst hr; exact ⟨.ret, e, h, R, hq, rfl, hm, hf⟩
  | panic v =>
    obtain ⟨x, rfl, hx⟩ := hr
    exact ⟨.panic v, e, h, R, hq, ⟨x, rfl, hx⟩, hm, hf⟩
set_option maxRecDepth 20000
set_option maxHeartbeats 4000000
set_option linter.unusedSimpArgs false
set_option linter.unusedVariables false
attribute [local irreducible] AWp AOps byteAt SrcOK OrOk GloAll FnSpec
attribute [local irreducible] nextS badI badS stepS rngR ownB mayZ
end Go.Proofs.YtglapkioagenaaaGreatDoor
namespace Go.Proofs.YtglapkioagenaaaGreatDoor
open Go Go.RowKit
/-- The bytes of a first rune. -/
theorem nextS_bytes (t : List UInt8) (h : (nextS t).2 ≠ 0) : ((nextS t).1 < 128 → (nextS t).2 = 1 ∧ byteAt t 0 = (nextS t).1) ∧ (128 ≤ (nextS t).1 → ∀ j, j < (nextS t).2 → 128 ≤ byteAt t j) ∧ mayZ (nextS t).1 = true := by
  have hb := byteAt_lt t 0
  rw [mayZ_t]
  revert h
  unfold nextS
  repeat' split
  all_goals (intro h; try (exact absurd rfl h))
  all_goals (simp only [contAt, mayN, Bool.and_eq_true, Bool.or_eq_true, decide_eq_true_eq, beq_iff_eq] at *)
  · refine ⟨fun _ => by simp, fun h => by omega, by omega⟩
  · refine ⟨fun h => by omega, fun _ j hj => ?_, by omega⟩
    obtain rfl | rfl : j = 0 ∨ j = 1 := by omega
    all_goals omega
  · refine ⟨fun h => by omega, fun _ j hj => ?_, by omega⟩
    obtain rfl | rfl | rfl : j = 0 ∨ j = 1 ∨ j = 2 := by omega
    all_goals omega
  · refine ⟨fun h => by omega, fun _ j hj => ?_, by omega⟩
    obtain rfl | rfl | rfl | rfl : j = 0 ∨ j = 1 ∨ j = 2 ∨ j = 3 := by omega
    all_goals omega
/-- The byte at which no rune begins. -/
theorem nextS_none (t : List UInt8) (h : (nextS t).2 = 0) (h0 : t.length ≠ 0) : 128 ≤ byteAt t 0 := by
  rcases Nat.lt_or_ge (byteAt t 0) 128 with h1 | h1
  · exfalso
    revert h
    unfold nextS
    rw [if_neg h0, if_pos h1]
    simp
  · exact h1
theorem get_of_byteAt {s : List UInt8} {i : Nat} {x : UInt8} (h : s[i]? = some x) : x.toNat = byteAt s i := by simp [byteAt, List.getD, h]
set_option maxRecDepth 20000
set_option maxHeartbeats 4000000
set_option linter.unusedSimpArgs false
set_option linter.unusedVariables false
attribute [local irreducible] AWp AOps byteAt SrcOK OrOk GloAll FnSpec
attribute [local irreducible] nextS badI badS stepS rngR ownB mayZ
theorem should_set {G : Glo} (n : Int) : FnIs Tryz.prog G 50 [.int .i64 n] (.bool (ltB 8 n)) := by
  have hGL : GloAll G [] := gloAll_nil
  refine fn_x Tryz.func50 Tryz.call50 rfl rfl rfl rfl hGL ?_
  intro C hC
  repeat' (first
    | (conv => whnf); first
      | refine .w ?_ | refine .v ?_ | apply sc_true | apply sc_false
      | (first | apply sc_lt | apply sc_nlt | apply sc_eq | apply sc_neq | apply sc_nil | apply sc_nnil | apply sc_seq | apply sc_nseq) <;> (intro hb; try exact dd hb)
      | apply sc_not | apply sc_or | (apply sc_i <;> intro hb)
      | (apply bx_i; intro hbd) | (apply gt_i; assumption; exact rfl)
      | (apply cx_is; first | fail) | (apply cx_do (i := 0) rfl; first | fail)
      | (apply ab_i; intro bl) | (apply as_i; intro va vk vc hva) | (apply av_i; intro v) | (apply ac_i; intro bl cap hcap)
      | apply bo_l | (apply nx_i <;> intro hnx) | (apply Ia.hit; assumption) | (apply Ia.miss; assumption)
      | (apply rt_is; exact rfl) | exact rt_w | (apply iv; assumption)
      | apply dw_q mixed hC hGL (by kernel_rfl) | (apply cq; assumption; (first | fail); exact rfl))
  all_goals (try conv => whnf)
/-- What a round over a text takes. -/
theorem rng_round (t : List UInt8) (h0 : t.length ≠ 0) : mayZ (rngR t : Int) = true ∧ 0 < stepS t ∧ stepS t ≤ t.length ∧ ((rngR t : Int) < 128 → stepS t = 1 ∧ (byteAt t 0 : Int) = rngR t) ∧ (128 ≤ (rngR t : Int) → ∀ j, j < stepS t → 128 ≤ byteAt t j) := by
  have hle := nextS_le t
  by_cases hn : (nextS t).2 = 0
  · have h1 := nextS_none t hn h0
    unfold rngR stepS
    rw [if_pos hn, if_pos hn]
    refine ⟨by rw [mayZ_t]; omega, by omega, by omega, fun h => by omega, fun _ j hj => by rw [show j = 0 by omega]; exact h1⟩
  · have h1 := nextS_bytes t hn
    unfold rngR stepS
    rw [if_neg hn, if_neg hn]
    refine ⟨h1.2.2, by omega, hle.1, fun h => ?_, fun h => h1.2.1 (by omega)⟩
    have := h1.1 (by omega)
    omega
end Go.Proofs.YtglapkioagenaaaGreatDoor
namespace Go.Proofs.YtglapkioagenaaaGreatDoor
open Go Go.RowKit
/-- IndexRune in this text tells whether a rune is one of its bytes. -/
def AnyOK (G : Glo) (cs : List UInt8) : Prop := ∀ r : Int, mayZ r = true → ∃ z : Int, FnIs Tryz.prog G 49 [.str cs, .int .i32 r] (.int .i64 z) ∧ (0 ≤ z ↔ ∃ x ∈ cs, r = x.toNat)
theorem has_iff {cs : List UInt8} (x : UInt8) : cs.contains x = true ↔ ∃ y ∈ cs, (x.toNat : Int) = y.toNat := by
  rw [List.contains_iff_exists_mem_beq]
  exact ⟨fun ⟨y, h, e⟩ => ⟨y, h, by rw [beq_iff_eq.1 e]⟩, fun ⟨y, h, e⟩ => ⟨y, h, beq_iff_eq.2 (UInt8.toNat_inj.1 (by omega))⟩⟩
theorem has_not {cs : List UInt8} {x : UInt8} (h : ¬ ∃ y ∈ cs, (x.toNat : Int) = y.toNat) : cs.contains x = false := by
  cases hc : cs.contains x with
  | false => rfl
  | true => exact absurd ((has_iff x).1 hc) h
theorem enc_cases {r : Int} (h1 : 128 ≤ r) (hv : mayZ r = true) : (∃ x y : UInt8, (Utf8.encode r).data.toList = [x, y] ∧ 128 ≤ y.toNat) ∨ (∃ x y z : UInt8, (Utf8.encode r).data.toList = [x, y, z] ∧ 128 ≤ z.toNat) ∨ (∃ x y z u : UInt8, (Utf8.encode r).data.toList = [x, y, z, u] ∧ 128 ≤ u.toNat) := by
  rw [mayZ_t] at hv
  rw [enc_all hv]
  have hb : ∀ k : Nat, 128 ≤ ((UInt8.ofNat (128 + k % 64)).toNat) := by
    intro k
    have e : 128 + k % 64 < 256 := by omega
    rw [UInt8.toNat_ofNat_of_lt' (by simpa using e)]
    omega
  split
  · omega
  · split
    · exact .inl ⟨_, _, rfl, hb _⟩
    · split
      · exact .inr (.inl ⟨_, _, _, rfl, hb _⟩)
      · exact .inr (.inr ⟨_, _, _, _, rfl, hb _⟩)
theorem three_at {a b c : UInt8} : byteAt [a, b, c] 0 = a.toNat ∧ byteAt [a, b, c] 1 = b.toNat ∧ byteAt [a, b, c] 2 = c.toNat := ⟨rfl, rfl, rfl⟩
set_option maxRecDepth 20000
set_option maxHeartbeats 4000000
set_option linter.unusedSimpArgs false
set_option linter.unusedVariables false
attribute [local irreducible] AWp AOps byteAt SrcOK OrOk GloAll FnSpec
attribute [local irreducible] nextS badI badS stepS rngR ownB mayZ
theorem idx_three {a b c : UInt8} (r : Int) : (0 ≤ idxB [a, b, c] r ↔ ∃ x ∈ [a, b, c], r = x.toNat) := by
  unfold idxB
  simp only [idxF, List.mem_cons, List.not_mem_nil, or_false, exists_eq_or_imp, exists_eq_left]
  split
  · omega
  · split
    · omega
    · split <;> omega
theorem rune_no {a b c x y : UInt8} {p : Prop} (hb : b.toNat < 128) (hc : c.toNat < 128) (hy : 128 ≤ y.toNat) (h : (byteAt [a, b, c] 1 : Int) = (byteAt [x, y] 1 : Int)) : p := by
  rw [three_at.2.1, two1] at h
  omega
theorem rune_no3 {a b c x y z : UInt8} {p : Prop} (hb : b.toNat < 128) (hc : c.toNat < 128) (hy : 128 ≤ z.toNat) (h : (byteAt [a, b, c] 2 : Int) = (byteAt [x, y, z] 2 : Int)) : p := by
  rw [three_at.2.2, three_at.2.2] at h
  omega
theorem indexRune_hi3 {G : Glo} {a b c : UInt8} (ha : a.toNat < 128) (hb' : b.toNat < 128) (hc' : c.toNat < 128) (r : Int) (h1 : 128 ≤ r) (hv : mayZ r = true) (hne : r ≠ 65533) : FnIs Tryz.prog G 49 [.str [a, b, c], .int .i32 r] (.int .i64 (-1)) := by
  have hV := valid_rune (G := G) r
  rw [hv] at hV
  obtain ⟨g0, g1, g2⟩ := three_at (a := a) (b := b) (c := c)
  have hix : ∀ q : Int, 128 ≤ q → q ≤ 255 → FnIs Tryz.prog G 25 [.str [c], .int .u8 q] (.int .i64 (-1)) := fun q h0 h1 => by
    have := strings_IndexByte (G := G) [c] q (by omega) h1
    rwa [show idxB [c] q = -1 by unfold idxB; simp only [idxF]; split <;> omega] at this
  have hix0 : ∀ q : Int, 0 ≤ q → q ≤ 255 → FnIs Tryz.prog G 25 [.str [], .int .u8 q] (.int .i64 (-1)) := fun q h0 h1 => strings_IndexByte [] q h0 h1
  have hcall := Tryz.call25
  rcases enc_cases h1 hv with ⟨x, y, he, hy⟩ | ⟨x, y, z, he, hy⟩ | ⟨x, y, z, u, he, hy⟩
  · have f1 : byteAt [x, y] 1 = y.toNat := two1
    have e1 : byteAt [a, b, c] ([x, y].length - Nat.succ 0) = b.toNat := three_at.2.1
    have e2 : byteAt [x, y] ([x, y].length - Nat.succ 0) = y.toNat := two1
    have f2 := hix (byteAt [x, y] 1) (by omega) (by have := byteAt_lt [x, y] 1; omega)
    have hGL : GloAll G [] := gloAll_nil
    refine fn_x Tryz.func49 Tryz.call49 rfl rfl rfl rfl hGL ?_
    intro C hC
    repeat' (first
      | (conv => whnf); first
        | refine .w ?_ | refine .v ?_ | apply sc_true | apply sc_false
        | (first | apply sc_lt | apply sc_nlt | apply sc_eq | apply sc_neq | apply sc_nil | apply sc_nnil | apply sc_seq | apply sc_nseq) <;> (intro hb; try exact dd hb)
        | apply sc_not | apply sc_or | (apply sc_i <;> intro hb)
        | (apply bx_i; intro hbd) | (apply gt_i; assumption; exact rfl)
        | (apply cx_is; first | exact hV) | (apply cx_do (i := 0) rfl; first | exact hV)
        | (apply ab_i; intro bl) | (apply as_i; intro va vk vc hva) | (apply av_i; intro v) | (apply ac_i; intro bl cap hcap)
        | apply bo_l | (apply nx_i <;> intro hnx) | (apply Ia.hit; assumption) | (apply Ia.miss; assumption)
        | (apply rt_is; exact rfl) | exact rt_w | (apply iv; assumption)
        | apply dw_q mixed hC hGL (by kernel_rfl) | (apply cq; assumption; (first | exact hV); exact rfl))
    all_goals (try conv => whnf)
    apply cd_scope hC hGL
    repeat' (first
      | (conv => whnf); first
        | refine .w ?_ | refine .v ?_ | apply sc_true | apply sc_false
        | (first | apply sc_lt | apply sc_nlt | apply sc_eq | apply sc_neq | apply sc_nil | apply sc_nnil | apply sc_seq | apply sc_nseq) <;> (intro hb; try exact dd hb)
        | apply sc_not | apply sc_or | (apply sc_i <;> intro hb)
        | (apply bx_i; intro hbd) | (apply gt_i; assumption; exact rfl)
        | (apply cx_is; first | exact hV) | (apply cx_do (i := 0) rfl; first | exact hV)
        | (apply ab_i; intro bl) | (apply as_i; intro va vk vc hva) | (apply av_i; intro v) | (apply ac_i; intro bl cap hcap)
        | apply bo_l | (apply nx_i <;> intro hnx) | (apply Ia.hit; assumption) | (apply Ia.miss; assumption)
        | (apply rt_is; exact rfl) | exact rt_w | (apply iv; assumption)
        | apply dw_q mixed hC hGL (by kernel_rfl) | (apply cq; assumption; (first | exact hV); exact rfl))
    all_goals (try conv => whnf)
    refine op1_run hC hGL (rv_istr rfl rfl rfl rfl) rfl rfl ?_
    rw [he]
    repeat' (first
      | (conv => whnf); first
        | refine .w ?_ | refine .v ?_ | apply sc_true | apply sc_false
        | (first | apply sc_lt | apply sc_nlt | apply sc_eq | apply sc_neq | apply sc_nil | apply sc_nnil | apply sc_seq | apply sc_nseq) <;> (intro hb; try exact dd hb)
        | apply sc_not | apply sc_or | (apply sc_i <;> intro hb)
        | (apply bx_i; intro hbd) | (apply gt_i; assumption; exact rfl)
        | (apply cx_is; first | exact hV) | (apply cx_do (i := 0) rfl; first | exact hV)
        | (apply ab_i; intro bl) | (apply as_i; intro va vk vc hva) | (apply av_i; intro v) | (apply ac_i; intro bl cap hcap)
        | apply bo_l | (apply nx_i <;> intro hnx) | (apply Ia.hit; assumption) | (apply Ia.miss; assumption)
        | (apply rt_is; exact rfl) | exact rt_w | (apply iv; assumption)
        | apply dw_q mixed hC hGL (by kernel_rfl) | (apply cq; assumption; (first | exact hV); exact rfl))
    all_goals (try conv => whnf)
    refine rds hC hGL 1 ?_
    repeat' (first
      | (conv => whnf); first
        | refine .w ?_ | refine .v ?_ | apply sc_true | apply sc_false
        | (first | apply sc_lt | apply sc_nlt | apply sc_eq | apply sc_neq | apply sc_nil | apply sc_nnil | apply sc_seq | apply sc_nseq) <;> (intro hb; try exact dd hb)
        | apply sc_not | apply sc_or | (apply sc_i <;> intro hb)
        | (apply bx_i; intro hbd) | (apply gt_i; assumption; exact rfl)
        | (apply cx_is; first | exact hV | exact f2) | (apply cx_do (i := 0) rfl; first | exact hV | exact f2)
        | (apply ab_i; intro bl) | (apply as_i; intro va vk vc hva) | (apply av_i; intro v) | (apply ac_i; intro bl cap hcap)
        | apply bo_l | (apply nx_i <;> intro hnx) | (apply Ia.hit; assumption) | (apply Ia.miss; assumption)
        | (apply rt_is; exact rfl) | exact rt_w | (apply iv; assumption)
        | apply dw_q mixed hC hGL (by kernel_rfl) | (apply cq; assumption; (first | exact hV | exact f2); exact rfl))
    all_goals (try conv => whnf)
    all_goals first | exact rune_no hb' hc' hy hb | skip
    apply cd_scope hC hGL
    repeat' (first
      | (conv => whnf); first
        | refine .w ?_ | refine .v ?_ | apply sc_true | apply sc_false
        | (first | apply sc_lt | apply sc_nlt | apply sc_eq | apply sc_neq | apply sc_nil | apply sc_nnil | apply sc_seq | apply sc_nseq) <;> (intro hb; try exact dd hb)
        | apply sc_not | apply sc_or | (apply sc_i <;> intro hb)
        | (apply bx_i; intro hbd) | (apply gt_i; assumption; exact rfl)
        | (apply cx_is; first | exact hV | exact f2) | (apply cx_do (i := 0) rfl; first | exact hV | exact f2)
        | (apply ab_i; intro bl) | (apply as_i; intro va vk vc hva) | (apply av_i; intro v) | (apply ac_i; intro bl cap hcap)
        | apply bo_l | (apply nx_i <;> intro hnx) | (apply Ia.hit; assumption) | (apply Ia.miss; assumption)
        | (apply rt_is; exact rfl) | exact rt_w | (apply iv; assumption)
        | apply dw_q mixed hC hGL (by kernel_rfl) | (apply cq; assumption; (first | exact hV | exact f2); exact rfl))
    all_goals (try conv => whnf)
    all_goals first | exact rune_no hb' hc' hy hb | skip
  · have f1 : byteAt [x, y, z] 2 = z.toNat := three_at.2.2
    have e1 : byteAt [a, b, c] ([x, y, z].length - Nat.succ 0) = c.toNat := three_at.2.2
    have e2 : byteAt [x, y, z] ([x, y, z].length - Nat.succ 0) = z.toNat := three_at.2.2
    have f2 := hix0 (byteAt [x, y, z] 2) (by omega) (by have := byteAt_lt [x, y, z] 2; omega)
    have hGL : GloAll G [] := gloAll_nil
    refine fn_x Tryz.func49 Tryz.call49 rfl rfl rfl rfl hGL ?_
    intro C hC
    repeat' (first
      | (conv => whnf); first
        | refine .w ?_ | refine .v ?_ | apply sc_true | apply sc_false
        | (first | apply sc_lt | apply sc_nlt | apply sc_eq | apply sc_neq | apply sc_nil | apply sc_nnil | apply sc_seq | apply sc_nseq) <;> (intro hb; try exact dd hb)
        | apply sc_not | apply sc_or | (apply sc_i <;> intro hb)
        | (apply bx_i; intro hbd) | (apply gt_i; assumption; exact rfl)
        | (apply cx_is; first | exact hV) | (apply cx_do (i := 0) rfl; first | exact hV)
        | (apply ab_i; intro bl) | (apply as_i; intro va vk vc hva) | (apply av_i; intro v) | (apply ac_i; intro bl cap hcap)
        | apply bo_l | (apply nx_i <;> intro hnx) | (apply Ia.hit; assumption) | (apply Ia.miss; assumption)
        | (apply rt_is; exact rfl) | exact rt_w | (apply iv; assumption)
        | apply dw_q mixed hC hGL (by kernel_rfl) | (apply cq; assumption; (first | exact hV); exact rfl))
    all_goals (try conv => whnf)
    apply cd_scope hC hGL
    repeat' (first
      | (conv => whnf); first
        | refine .w ?_ | refine .v ?_ | apply sc_true | apply sc_false
        | (first | apply sc_lt | apply sc_nlt | apply sc_eq | apply sc_neq | apply sc_nil | apply sc_nnil | apply sc_seq | apply sc_nseq) <;> (intro hb; try exact dd hb)
        | apply sc_not | apply sc_or | (apply sc_i <;> intro hb)
        | (apply bx_i; intro hbd) | (apply gt_i; assumption; exact rfl)
        | (apply cx_is; first | exact hV) | (apply cx_do (i := 0) rfl; first | exact hV)
        | (apply ab_i; intro bl) | (apply as_i; intro va vk vc hva) | (apply av_i; intro v) | (apply ac_i; intro bl cap hcap)
        | apply bo_l | (apply nx_i <;> intro hnx) | (apply Ia.hit; assumption) | (apply Ia.miss; assumption)
        | (apply rt_is; exact rfl) | exact rt_w | (apply iv; assumption)
        | apply dw_q mixed hC hGL (by kernel_rfl) | (apply cq; assumption; (first | exact hV); exact rfl))
    all_goals (try conv => whnf)
    refine op1_run hC hGL (rv_istr rfl rfl rfl rfl) rfl rfl ?_
    rw [he]
    repeat' (first
      | (conv => whnf); first
        | refine .w ?_ | refine .v ?_ | apply sc_true | apply sc_false
        | (first | apply sc_lt | apply sc_nlt | apply sc_eq | apply sc_neq | apply sc_nil | apply sc_nnil | apply sc_seq | apply sc_nseq) <;> (intro hb; try exact dd hb)
        | apply sc_not | apply sc_or | (apply sc_i <;> intro hb)
        | (apply bx_i; intro hbd) | (apply gt_i; assumption; exact rfl)
        | (apply cx_is; first | exact hV) | (apply cx_do (i := 0) rfl; first | exact hV)
        | (apply ab_i; intro bl) | (apply as_i; intro va vk vc hva) | (apply av_i; intro v) | (apply ac_i; intro bl cap hcap)
        | apply bo_l | (apply nx_i <;> intro hnx) | (apply Ia.hit; assumption) | (apply Ia.miss; assumption)
        | (apply rt_is; exact rfl) | exact rt_w | (apply iv; assumption)
        | apply dw_q mixed hC hGL (by kernel_rfl) | (apply cq; assumption; (first | exact hV); exact rfl))
    all_goals (try conv => whnf)
    refine rds hC hGL 1 ?_
    repeat' (first
      | (conv => whnf); first
        | refine .w ?_ | refine .v ?_ | apply sc_true | apply sc_false
        | (first | apply sc_lt | apply sc_nlt | apply sc_eq | apply sc_neq | apply sc_nil | apply sc_nnil | apply sc_seq | apply sc_nseq) <;> (intro hb; try exact dd hb)
        | apply sc_not | apply sc_or | (apply sc_i <;> intro hb)
        | (apply bx_i; intro hbd) | (apply gt_i; assumption; exact rfl)
        | (apply cx_is; first | exact hV | exact f2) | (apply cx_do (i := 0) rfl; first | exact hV | exact f2)
        | (apply ab_i; intro bl) | (apply as_i; intro va vk vc hva) | (apply av_i; intro v) | (apply ac_i; intro bl cap hcap)
        | apply bo_l | (apply nx_i <;> intro hnx) | (apply Ia.hit; assumption) | (apply Ia.miss; assumption)
        | (apply rt_is; exact rfl) | exact rt_w | (apply iv; assumption)
        | apply dw_q mixed hC hGL (by kernel_rfl) | (apply cq; assumption; (first | exact hV | exact f2); exact rfl))
    all_goals (try conv => whnf)
    all_goals first | exact rune_no3 hb' hc' hy hb | skip
    apply cd_scope hC hGL
    repeat' (first
      | (conv => whnf); first
        | refine .w ?_ | refine .v ?_ | apply sc_true | apply sc_false
        | (first | apply sc_lt | apply sc_nlt | apply sc_eq | apply sc_neq | apply sc_nil | apply sc_nnil | apply sc_seq | apply sc_nseq) <;> (intro hb; try exact dd hb)
        | apply sc_not | apply sc_or | (apply sc_i <;> intro hb)
        | (apply bx_i; intro hbd) | (apply gt_i; assumption; exact rfl)
        | (apply cx_is; first | exact hV | exact f2) | (apply cx_do (i := 0) rfl; first | exact hV | exact f2)
        | (apply ab_i; intro bl) | (apply as_i; intro va vk vc hva) | (apply av_i; intro v) | (apply ac_i; intro bl cap hcap)
        | apply bo_l | (apply nx_i <;> intro hnx) | (apply Ia.hit; assumption) | (apply Ia.miss; assumption)
        | (apply rt_is; exact rfl) | exact rt_w | (apply iv; assumption)
        | apply dw_q mixed hC hGL (by kernel_rfl) | (apply cq; assumption; (first | exact hV | exact f2); exact rfl))
    all_goals (try conv => whnf)
    all_goals first | exact rune_no3 hb' hc' hy hb | skip
  · have hGL : GloAll G [] := gloAll_nil
    refine fn_x Tryz.func49 Tryz.call49 rfl rfl rfl rfl hGL ?_
    intro C hC
    repeat' (first
      | (conv => whnf); first
        | refine .w ?_ | refine .v ?_ | apply sc_true | apply sc_false
        | (first | apply sc_lt | apply sc_nlt | apply sc_eq | apply sc_neq | apply sc_nil | apply sc_nnil | apply sc_seq | apply sc_nseq) <;> (intro hb; try exact dd hb)
        | apply sc_not | apply sc_or | (apply sc_i <;> intro hb)
        | (apply bx_i; intro hbd) | (apply gt_i; assumption; exact rfl)
        | (apply cx_is; first | exact hV) | (apply cx_do (i := 0) rfl; first | exact hV)
        | (apply ab_i; intro bl) | (apply as_i; intro va vk vc hva) | (apply av_i; intro v) | (apply ac_i; intro bl cap hcap)
        | apply bo_l | (apply nx_i <;> intro hnx) | (apply Ia.hit; assumption) | (apply Ia.miss; assumption)
        | (apply rt_is; exact rfl) | exact rt_w | (apply iv; assumption)
        | apply dw_q mixed hC hGL (by kernel_rfl) | (apply cq; assumption; (first | exact hV); exact rfl))
    all_goals (try conv => whnf)
    apply cd_scope hC hGL
    repeat' (first
      | (conv => whnf); first
        | refine .w ?_ | refine .v ?_ | apply sc_true | apply sc_false
        | (first | apply sc_lt | apply sc_nlt | apply sc_eq | apply sc_neq | apply sc_nil | apply sc_nnil | apply sc_seq | apply sc_nseq) <;> (intro hb; try exact dd hb)
        | apply sc_not | apply sc_or | (apply sc_i <;> intro hb)
        | (apply bx_i; intro hbd) | (apply gt_i; assumption; exact rfl)
        | (apply cx_is; first | exact hV) | (apply cx_do (i := 0) rfl; first | exact hV)
        | (apply ab_i; intro bl) | (apply as_i; intro va vk vc hva) | (apply av_i; intro v) | (apply ac_i; intro bl cap hcap)
        | apply bo_l | (apply nx_i <;> intro hnx) | (apply Ia.hit; assumption) | (apply Ia.miss; assumption)
        | (apply rt_is; exact rfl) | exact rt_w | (apply iv; assumption)
        | apply dw_q mixed hC hGL (by kernel_rfl) | (apply cq; assumption; (first | exact hV); exact rfl))
    all_goals (try conv => whnf)
    refine op1_run hC hGL (rv_istr rfl rfl rfl rfl) rfl rfl ?_
    rw [he]
    repeat' (first
      | (conv => whnf); first
        | refine .w ?_ | refine .v ?_ | apply sc_true | apply sc_false
        | (first | apply sc_lt | apply sc_nlt | apply sc_eq | apply sc_neq | apply sc_nil | apply sc_nnil | apply sc_seq | apply sc_nseq) <;> (intro hb; try exact dd hb)
        | apply sc_not | apply sc_or | (apply sc_i <;> intro hb)
        | (apply bx_i; intro hbd) | (apply gt_i; assumption; exact rfl)
        | (apply cx_is; first | exact hV) | (apply cx_do (i := 0) rfl; first | exact hV)
        | (apply ab_i; intro bl) | (apply as_i; intro va vk vc hva) | (apply av_i; intro v) | (apply ac_i; intro bl cap hcap)
        | apply bo_l | (apply nx_i <;> intro hnx) | (apply Ia.hit; assumption) | (apply Ia.miss; assumption)
        | (apply rt_is; exact rfl) | exact rt_w | (apply iv; assumption)
        | apply dw_q mixed hC hGL (by kernel_rfl) | (apply cq; assumption; (first | exact hV); exact rfl))
    all_goals (try conv => whnf)
    refine rds hC hGL 1 ?_
    repeat' (first
      | (conv => whnf); first
        | refine .w ?_ | refine .v ?_ | apply sc_true | apply sc_false
        | (first | apply sc_lt | apply sc_nlt | apply sc_eq | apply sc_neq | apply sc_nil | apply sc_nnil | apply sc_seq | apply sc_nseq) <;> (intro hb; try exact dd hb)
        | apply sc_not | apply sc_or | (apply sc_i <;> intro hb)
        | (apply bx_i; intro hbd) | (apply gt_i; assumption; exact rfl)
        | (apply cx_is; first | exact hV) | (apply cx_do (i := 0) rfl; first | exact hV)
        | (apply ab_i; intro bl) | (apply as_i; intro va vk vc hva) | (apply av_i; intro v) | (apply ac_i; intro bl cap hcap)
        | apply bo_l | (apply nx_i <;> intro hnx) | (apply Ia.hit; assumption) | (apply Ia.miss; assumption)
        | (apply rt_is; exact rfl) | exact rt_w | (apply iv; assumption)
        | apply dw_q mixed hC hGL (by kernel_rfl) | (apply cq; assumption; (first | exact hV); exact rfl))
    all_goals (try conv => whnf)
theorem indexRune_rep3 {G : Glo} {a b c : UInt8} (ha : a.toNat < 128) (hb' : b.toNat < 128) (hc' : c.toNat < 128) : FnIs Tryz.prog G 49 [.str [a, b, c], .int .i32 65533] (.int .i64 (-1)) := by
  have hGL : GloAll G [] := gloAll_nil
  refine fn_x Tryz.func49 Tryz.call49 rfl rfl rfl rfl hGL ?_
  intro C hC
  repeat' (first
    | (conv => whnf); first
      | refine .w ?_ | refine .v ?_ | apply sc_true | apply sc_false
      | (first | apply sc_lt | apply sc_nlt | apply sc_eq | apply sc_neq | apply sc_nil | apply sc_nnil | apply sc_seq | apply sc_nseq) <;> (intro hb; try exact dd hb)
      | apply sc_not | apply sc_or | (apply sc_i <;> intro hb)
      | (apply bx_i; intro hbd) | (apply gt_i; assumption; exact rfl)
      | (apply cx_is; first | fail) | (apply cx_do (i := 0) rfl; first | fail)
      | (apply ab_i; intro bl) | (apply as_i; intro va vk vc hva) | (apply av_i; intro v) | (apply ac_i; intro bl cap hcap)
      | apply bo_l | (apply nx_i <;> intro hnx) | (apply Ia.hit; assumption) | (apply Ia.miss; assumption)
      | (apply rt_is; exact rfl) | exact rt_w | (apply iv; assumption)
      | apply dw_q mixed hC hGL (by kernel_rfl) | (apply cq; assumption; (first | fail); exact rfl))
  all_goals (try conv => whnf)
  refine rds hC hGL 4 ?_
  repeat' (first
    | (conv => whnf); first
      | refine .w ?_ | refine .v ?_ | apply sc_true | apply sc_false
      | (first | apply sc_lt | apply sc_nlt | apply sc_eq | apply sc_neq | apply sc_nil | apply sc_nnil | apply sc_seq | apply sc_nseq) <;> (intro hb; try exact dd hb)
      | apply sc_not | apply sc_or | (apply sc_i <;> intro hb)
      | (apply bx_i; intro hbd) | (apply gt_i; assumption; exact rfl)
      | (apply cx_is; first | fail) | (apply cx_do (i := 0) rfl; first | fail)
      | (apply ab_i; intro bl) | (apply as_i; intro va vk vc hva) | (apply av_i; intro v) | (apply ac_i; intro bl cap hcap)
      | apply bo_l | (apply nx_i <;> intro hnx) | (apply Ia.hit; assumption) | (apply Ia.miss; assumption)
      | (apply rt_is; exact rfl) | exact rt_w | (apply iv; assumption)
      | apply dw_q mixed hC hGL (by kernel_rfl) | (apply cq; assumption; (first | fail); exact rfl))
  all_goals (try conv => whnf)
  all_goals (
    exfalso
    have f1 := rng_lo (x := a) (t := [b, c]) ha
    have f2 := rng_lo (x := b) (t := [c]) hb'
    have f3 := rng_lo (x := c) (t := []) hc'
    simp only [List.drop_zero, f1, f2, f3, Nat.zero_add, List.drop_succ_cons, List.length_cons, List.length_nil] at *
    omega)
theorem indexRune_lo3 {G : Glo} {a b c : UInt8} (r : Int) (h0 : 0 ≤ r) (h1 : r < 128) : FnIs Tryz.prog G 49 [.str [a, b, c], .int .i32 r] (.int .i64 (idxB [a, b, c] r)) := by
  have hGL : GloAll G [] := gloAll_nil
  refine fn_x Tryz.func49 Tryz.call49 rfl rfl rfl rfl hGL ?_
  intro C hC
  have hI := strings_IndexByte (G := G) [a, b, c] r h0 (by omega)
  repeat' (first
    | (conv => whnf); first
      | refine .w ?_ | refine .v ?_ | apply sc_true | apply sc_false
      | (first | apply sc_lt | apply sc_nlt | apply sc_eq | apply sc_neq | apply sc_nil | apply sc_nnil | apply sc_seq | apply sc_nseq) <;> (intro hb; try exact dd hb)
      | apply sc_not | apply sc_or | (apply sc_i <;> intro hb)
      | (apply bx_i; intro hbd) | (apply gt_i; assumption; exact rfl)
      | (apply cx_is; first | exact hI) | (apply cx_do (i := 0) rfl; first | exact hI)
      | (apply ab_i; intro bl) | (apply as_i; intro va vk vc hva) | (apply av_i; intro v) | (apply ac_i; intro bl cap hcap)
      | apply bo_l | (apply nx_i <;> intro hnx) | (apply Ia.hit; assumption) | (apply Ia.miss; assumption)
      | (apply rt_is; exact rfl) | exact rt_w | (apply iv; assumption)
      | apply dw_q mixed hC hGL (by kernel_rfl) | (apply cq; assumption; (first | exact hI); exact rfl))
  all_goals (try conv => whnf)
theorem any_three {G : Glo} {a b c : UInt8} (ha : a.toNat < 128) (hb' : b.toNat < 128) (hc' : c.toNat < 128) : AnyOK G [a, b, c] := by
  intro r hv
  have hm := hv
  rw [mayZ_t] at hm
  have key : 128 ≤ r → ¬ ∃ x ∈ [a, b, c], r = x.toNat := by
    rintro h ⟨x, hx, e⟩
    simp only [List.mem_cons, List.not_mem_nil, or_false] at hx
    rcases hx with rfl | rfl | rfl <;> omega
  by_cases h1 : r < 128
  · exact ⟨_, indexRune_lo3 r hm.1 h1, idx_three r⟩
  · by_cases h2 : r = 65533
    · subst h2; exact ⟨-1, indexRune_rep3 ha hb' hc', by omega, fun h => absurd h (key (by omega))⟩
    · exact ⟨-1, indexRune_hi3 ha hb' hc' r (by omega) hv h2, by omega, fun h => absurd h (key (by omega))⟩
theorem indexAny_shortL {G : Glo} {cs : List UInt8} (hA : AnyOK G cs) (hlo : ∀ c ∈ cs, c.toNat < 128) (hc2 : 2 ≤ cs.length) (hc9 : cs.length ≤ 1000) (s : List UInt8) (hl : s.length ≤ 8) : FnIs Tryz.prog G 34 [.str s, .str cs] (.int .i64 (Lib.indexAny s cs)) := by
  have hGL : GloAll G [] := gloAll_nil
  refine fn_x Tryz.func34 Tryz.call34 rfl rfl rfl rfl hGL ?_
  intro C hC
  have hS := should_set (G := G) s.length
  repeat' (first
    | (conv => whnf); first
      | refine .w ?_ | refine .v ?_ | apply sc_true | apply sc_false
      | (first | apply sc_lt | apply sc_nlt | apply sc_eq | apply sc_neq | apply sc_nil | apply sc_nnil | apply sc_seq | apply sc_nseq) <;> (intro hb; try exact dd hb)
      | apply sc_not | apply sc_or | (apply sc_i <;> intro hb)
      | (apply bx_i; intro hbd) | (apply gt_i; assumption; exact rfl)
      | (apply cx_is; first | exact hS) | (apply cx_do (i := 0) rfl; first | exact hS)
      | (apply ab_i; intro bl) | (apply as_i; intro va vk vc hva) | (apply av_i; intro v) | (apply ac_i; intro bl cap hcap)
      | apply bo_l | (apply nx_i <;> intro hnx) | (apply Ia.hit; assumption) | (apply Ia.miss; assumption)
      | (apply rt_is; exact rfl) | exact rt_w | (apply iv; assumption)
      | apply dw_q mixed hC hGL (by kernel_rfl) | (apply cq; assumption; (first | exact hS); exact rfl))
  all_goals (try conv => whnf)
  refine lp hC hGL (fun (i : Nat) => [(1, .str cs), (45, .own 0 (.pointer (some ⟨bl, 0, none⟩)))]) (fun i => [.iter bl s i]) (fun i => i ≤ s.length ∧ Lib.NoAny s cs i) (fun i => s.length - i) 0 ?_ env_w rfl ?_
  · exact ⟨Nat.zero_le _, Lib.NoAny.zero _ _⟩
  rintro i ⟨hi, hno⟩
  have hz := fun (h : i < s.length) => rng_round (s.drop i) (by rw [List.length_drop]; omega)
  have hR : ∃ z : Int, i < s.length → FnIs Tryz.prog G 49 [.str cs, .int .i32 (rngR (s.drop i))] (.int .i64 z) ∧ (0 ≤ z ↔ ∃ x ∈ cs, (rngR (s.drop i) : Int) = x.toNat) := by
    by_cases h : i < s.length
    · obtain ⟨z, h1, h2⟩ := hA (rngR (s.drop i)) (hz h).1
      exact ⟨z, fun _ => ⟨h1, h2⟩⟩
    · exact ⟨0, fun h' => absurd h' h⟩
  obtain ⟨z, hR⟩ := hR
  repeat' (first
    | (conv => whnf); first
      | refine .w ?_ | refine .v ?_ | apply sc_true | apply sc_false
      | (first | apply sc_lt | apply sc_nlt | apply sc_eq | apply sc_neq | apply sc_nil | apply sc_nnil | apply sc_seq | apply sc_nseq) <;> (intro hb; try exact dd hb)
      | apply sc_not | apply sc_or | (apply sc_i <;> intro hb)
      | (apply bx_i; intro hbd) | (apply gt_i; assumption; exact rfl)
      | (apply cx_is; first | exact (hR (by omega)).1) | (apply cx_do (i := 0) rfl; first | exact (hR (by omega)).1)
      | (apply ab_i; intro bl) | (apply as_i; intro va vk vc hva) | (apply av_i; intro v) | (apply ac_i; intro bl cap hcap)
      | apply bo_l | (apply nx_i <;> intro hnx) | (apply Ia.hit; assumption) | (apply Ia.miss; assumption)
      | (apply rt_is; exact rfl) | exact rt_w | (apply iv; assumption)
      | apply dw_q mixed hC hGL (by kernel_rfl) | (apply cq; assumption; (first | exact (hR (by omega)).1); exact rfl))
  all_goals (try conv => whnf)
  · obtain ⟨z1, z2, z3, z4, z5⟩ := hz hnx
    obtain ⟨y, hy, hr⟩ := (hR hnx).2.1 hb
    have hy' := hlo y hy
    have h1 := z4 (by omega)
    have hx : s[i]? = some s[i] := List.getElem?_eq_getElem hnx
    have h2 := get_of_byteAt hx
    rw [drop_byteAt, Nat.add_zero] at h1
    refine rt_is ?_
    rw [Lib.indexAny_hit hno hx ((has_iff _).2 ⟨y, hy, by omega⟩)]
  · obtain ⟨z1, z2, z3, z4, z5⟩ := hz hnx
    rw [List.length_drop] at z3
    have hr : ¬ ∃ x ∈ cs, (rngR (s.drop i) : Int) = x.toNat := fun h => by have := (hR hnx).2.2 h; omega
    refine nxt (i + stepS (s.drop i)) ⟨by omega, ?_⟩ (by omega) ⟨rfl, rfl, trivial⟩ rfl
    intro j x hj hx
    by_cases h : j < i
    · exact hno j x h hx
    · have h2 := get_of_byteAt hx
      refine has_not fun ⟨y, hy, e⟩ => ?_
      have hy' := hlo y hy
      by_cases h128 : (rngR (s.drop i) : Int) < 128
      · have h3 := z4 h128
        rw [drop_byteAt, Nat.add_zero] at h3
        have : j = i := by omega
        subst this
        exact hr ⟨y, hy, by omega⟩
      · have h3 := z5 (by omega) (j - i) (by omega)
        rw [drop_byteAt, show i + (j - i) = j by omega] at h3
        omega
  · have : i = s.length := by omega
    subst this
    refine rt_is ?_
    rw [Lib.indexAny_none hno]
    rfl
theorem indexAny_longL {G : Glo} {cs : List UInt8} (hlo : ∀ c ∈ cs, c.toNat < 128) (hc2 : 2 ≤ cs.length) (hc9 : cs.length ≤ 1000) (s : List UInt8) (h8 : 8 < s.length) (hl : s.length < 4294967281) : FnIs Tryz.prog G 34 [.str s, .str cs] (.int .i64 (Lib.indexAny s cs)) := by
  refine fnis_of_calls rfl Tryz.call34 ?_
  rintro R args ⟨x, t, e, hx, y, t', e', hy, rfl⟩ w _ _
  obtain rfl := rel_str.1 hx
  obtain rfl := rel_str.1 hy
  subst e'
  obtain rfl := arr_of e
  refine (Tryz.strings_IndexAny_long (fun w => by kernel_rfl) ⟨s.toArray⟩ ⟨cs.toArray⟩ w (by rw [str_size]; omega) (by rw [str_size]; exact h8) (by rw [str_size]; omega) (by rw [str_size]; omega) ?_).mono ?_
  · intro j x hx
    exact hlo x (List.mem_of_getElem? (by simpa using hx))
  · rintro e w' ⟨rfl, rfl⟩
    exact ⟨by simp [AVal.conc], ((Below.refl w.heap.size w).alloc (Nat.le_refl _) _).alloc (by show w.heap.size ≤ (w.heap.push _).size; simp) _⟩
theorem indexAny_L {G : Glo} {cs : List UInt8} (hA : AnyOK G cs) (hlo : ∀ c ∈ cs, c.toNat < 128) (hc2 : 2 ≤ cs.length) (hc9 : cs.length ≤ 1000) (s : List UInt8) (hl : s.length < 4294967281) : FnIs Tryz.prog G 34 [.str s, .str cs] (.int .i64 (Lib.indexAny s cs)) := by
  by_cases h : s.length ≤ 8
  · exact indexAny_shortL hA hlo hc2 hc9 s h
  · exact indexAny_longL hlo hc2 hc9 s (by omega) hl
end Go.Proofs.YtglapkioagenaaaGreatDoor
