/- Parts of the proof of prints_root: Rpq, Lnc, Lne, Crp, Esq, Tjo, Tjp, Crq, Cro. -/
import Derived.Test.YtahebkecmlmlfaaGreatDoorBam
import Derived.Test.YtahebkecmlmlfaaGreatDoorBaj
import Derived.Test.YtahebkecmlmlfaaGreatDoorBaf
import Derived.Test.YtahebkecmlmlfaaGreatDoorBah
import Derived.Test.YtahebkecmlmlfaaGreatDoorBag
import Derived.Test.YtahebkecmlmlfaaGreatDoorBai
import Derived.Test.YtahebkecmlmlfaaGreatDoorBak
import Derived.Test.YtahebkecmlmlfaaGreatDoorBan
import Derived.Test.YtahebkecmlmlfaaGreatDoorBal
set_option linter.unusedVariables false
set_option linter.unusedSimpArgs false
set_option linter.unusedSectionVars false
namespace Go.Proofs.YtahebkecmlmlfaaGreatDoor
set_option maxRecDepth 20000
set_option maxHeartbeats 4000000
section
open Go Go.RowKit
attribute [local irreducible] AWp AOps aa az OrOk ad ah
attribute [local irreducible] tabC encF encS
theorem Ds (a : AVal) : ∀ R v, Rel R a v → ∀ w, ∃ u, (Go.method (Tryz.prog.types.size + Made.depth) 294 v "Replace").run Tryz.prog w = .ok (297, u) w ∧ Rel R a u := by
 intro R v hv w
 exact ⟨v, by kernel_rfl, hv⟩
structure EncY where
 va : Option Addr
 vk : Nat
 vt : Nat
 bz : Nat
 b1 : Nat
 c1 : Nat
 b2 : Nat
 c2 : Nat
 b3 : Nat
 c3 : Nat
 h : RowV 3 va vk
abbrev encR (y : EncY) : List AVal := [.int .u32 0, .int .i32 1, .int .u32 0, .iface 294 (.own 3 (pv y.bz 0)), .raw (.slice none 0 0)]
abbrev encQ (y : EncY) : List AVal := [.int .u32 1, .int .i32 0, .int .u32 0, .iface 294 (.own 3 (pv y.bz 0)), .raw (.slice none 0 0)]
theorem GE {G : Glo} (br bl vc : Nat) : ah Tryz.prog G 157 [.raw (pv bl 0), .func (.func 158) [.raw (pv bl 0)] []] [.row (.slice (some ⟨br, 0, none⟩) 6 vc) none 1 6 [.str [94], .str [94, 94], .str [10], .str [94, 110], .str [34], .str [94, 39]], .cells bl (some 214) (eF (.slice (some ⟨br, 0, none⟩) 6 vc))]
  (fun r H => ∃ y : EncY, r = .ret (.tuple []) ∧ H = encH br bl vc (encQ y) y.va y.vk y.vt y.bz y.b1 y.c1 y.b2 y.c2 y.b3 y.c3) := by
 have e1 := yh (G := G) br bl vc
 have e2 := yU (G := G) (b := bl) (off := 0) (fid := 158) (eT := some 214) (cs := eF (.slice (some ⟨br, 0, none⟩) 6 vc)) (T := [.row (.slice (some ⟨br, 0, none⟩) 6 vc) none 1 6 [.str [94], .str [94, 94], .str [10], .str [94, 110], .str [34], .str [94, 39]]]) (Y := EncY) (cs2 := encR) (T2 := fun y => (encH br bl vc (encR y) y.va y.vk y.vt y.bz y.b1 y.c1 y.b2 y.c2 y.b3 y.c3).eraseIdx 1) (l1 := [.raw (pv bl 0)]) (l2 := []) rfl rfl (fun _ => rfl) (fun _ => rfl) rfl rfl
  (by
   refine dR (dQ (List.Perm.swap _ _ _) e1) ?_
   rintro r H ⟨va, vk, vt, bz, b1, c1, b2, c2, b3, c3, hva, rfl, rfl⟩
   exact ⟨_, List.Perm.swap _ _ _, ⟨va, vk, vt, bz, b1, c1, b2, c2, b3, c3, hva⟩, rfl, rfl⟩)
 refine dR (dQ (List.Perm.swap _ _ _) e2) ?_
 rintro r H ⟨y, rfl, rfl⟩
 exact ⟨_, List.Perm.swap _ _ _, y, rfl, rfl⟩
theorem uh {G : Glo} (br bl vc : Nat) (s : List UInt8) (hl : s.length ≤ 1000000) (hct : ∀ c, FnIs Tryz.prog G 185 [.str s, .str [c]] (.int .i64 (s.countP (· == c) : Nat))) :
  ah Tryz.prog G 114 [.raw (pv bl 0), .str s] [.row (.slice (some ⟨br, 0, none⟩) 6 vc) none 1 6 [.str [94], .str [94, 94], .str [10], .str [94, 110], .str [34], .str [94, 39]], .cells bl (some 214) (eF (.slice (some ⟨br, 0, none⟩) 6 vc))] (fun r H => r = .ret (.str (encS s)) ∧ H = []) := by
 have hGL : ad G [] := ab
 have e1 := GE (G := G) br bl vc
 refine gk 1 Tryz.func114 Tryz.call114 rfl rfl rfl rfl hGL rfl ?_
 intro C hC
 repeat' (first | (conv => whnf); first | refine .w ?_ | refine .v ?_ | refine sc_c ?_ ?_ <;> (intro hb; try exact dd hb) | apply ae | apply an | (apply sc_i <;> intro hb) | (apply bx_i; intro hbd) | (apply aj; first | fail) | (apply am (i := 0) rfl; first | fail) | (apply ab_i; intro bl) | (apply as_i; intro va vk vc hva) | (apply av_i; intro v) | (apply ac_i; intro bl cap hcap) | apply bo_l | (apply nx_i <;> intro hnx) | exact rt_w | exact True.intro | (apply bc_i; intro C hC) | apply bt_i | apply og_n | (apply og_a; exact rfl))
 all_goals try conv => whnf
 refine ⟨_, e1, ?_, fun v' H' ⟨y, e, _⟩ => by cases e⟩
 rintro v' H' ⟨y, e, rfl⟩
 cases e
 have e3 := vK (G := G) br bl vc (encQ y) y.va y.vk y.vt y.bz y.b1 y.c1 y.b2 y.c2 y.b3 y.c3 y.h s hl hct
 repeat' (first | (conv => whnf); first | refine .w ?_ | refine .v ?_ | refine sc_c ?_ ?_ <;> (intro hb; try exact dd hb) | apply ae | apply an | (apply sc_i <;> intro hb) | (apply bx_i; intro hbd) | (apply aj; first | fail) | (apply am (i := 0) rfl; first | fail) | (apply ab_i; intro bl) | (apply as_i; intro va vk vc hva) | (apply av_i; intro v) | (apply ac_i; intro bl cap hcap) | apply bo_l | (apply nx_i <;> intro hnx) | exact rt_w | exact True.intro | (apply bc_i; intro C hC) | apply bt_i | apply og_n | (apply og_a; exact rfl))
 all_goals try conv => whnf
 refine iv 297 (.raw (pv y.bz 0)) (Ds _) (sW e3 ?_)
 repeat' (first | (conv => whnf); first | refine .w ?_ | refine .v ?_ | refine sc_c ?_ ?_ <;> (intro hb; try exact dd hb) | apply ae | apply an | (apply sc_i <;> intro hb) | (apply bx_i; intro hbd) | (apply aj; first | fail) | (apply am (i := 0) rfl; first | fail) | (apply ab_i; intro bl) | (apply as_i; intro va vk vc hva) | (apply av_i; intro v) | (apply ac_i; intro bl cap hcap) | apply bo_l | (apply nx_i <;> intro hnx) | exact rt_w | exact True.intro | (apply bc_i; intro C hC) | apply bt_i | apply og_n | (apply og_a; exact rfl))
 all_goals try conv => whnf
theorem lq {G : Glo} (s : List UInt8) (hl : s.length ≤ 1000000) (hct : ∀ c, FnIs Tryz.prog G 185 [.str s, .str [c]] (.int .i64 (s.countP (· == c) : Nat))) : FnIs Tryz.prog G 58 [.str s] (.str (encS s)) := by
 have hGL : ad G [] := ab
 refine fn_x Tryz.func58 Tryz.call58 rfl rfl rfl rfl hGL ?_
 intro C hC
 repeat' (first | (conv => whnf); first | refine .w ?_ | refine .v ?_ | refine sc_c ?_ ?_ <;> (intro hb; try exact dd hb) | apply ae | apply an | (apply sc_i <;> intro hb) | (apply bx_i; intro hbd) | (apply aj; first | fail) | (apply am (i := 0) rfl; first | fail) | (apply ab_i; intro bl) | (apply as_i; intro va vk vc hva) | (apply av_i; intro v) | (apply ac_i; intro bl cap hcap) | apply bo_l | (apply nx_i <;> intro hnx) | exact rt_w | exact True.intro | (apply bc_i; intro C hC) | apply bt_i | apply og_n | (apply og_a; exact rfl))
 all_goals try conv => whnf
 refine ⟨_, ni 6 _ (by decide) (by decide) ?_, ?_, ?_⟩
 ·unfold az
  exact f8 rfl
 ·rintro v H' ⟨bl, va, vk, vc, hva, e, rfl⟩
  cases e
  obtain ⟨br, rfl, rfl⟩ := hva (by omega)
  have e2 := uh (G := G) br bl vc s hl hct
  repeat' (first | (conv => whnf); first | refine .w ?_ | refine .v ?_ | refine sc_c ?_ ?_ <;> (intro hb; try exact dd hb) | apply ae | apply an | (apply sc_i <;> intro hb) | (apply bx_i; intro hbd) | (apply aj; first | fail) | (apply am (i := 0) rfl; first | fail) | (apply ab_i; intro bl) | (apply as_i; intro va vk vc hva) | (apply av_i; intro v) | (apply ac_i; intro bl cap hcap) | apply bo_l | (apply nx_i <;> intro hnx) | exact rt_w | exact True.intro | (apply bc_i; intro C hC) | apply bt_i | apply og_n | (apply og_a; exact rfl))
  all_goals try conv => whnf
  refine sW e2 ?_
  repeat' (first | (conv => whnf); first | refine .w ?_ | refine .v ?_ | refine sc_c ?_ ?_ <;> (intro hb; try exact dd hb) | apply ae | apply an | (apply sc_i <;> intro hb) | (apply bx_i; intro hbd) | (apply aj; first | fail) | (apply am (i := 0) rfl; first | fail) | (apply ab_i; intro bl) | (apply as_i; intro va vk vc hva) | (apply av_i; intro v) | (apply ac_i; intro bl cap hcap) | apply bo_l | (apply nx_i <;> intro hnx) | exact rt_w | exact True.intro | (apply bc_i; intro C hC) | apply bt_i | apply og_n | (apply og_a; exact rfl))
  all_goals try conv => whnf
 ·rintro v H' ⟨bl, va, vk, vc, hva, e, rfl⟩
  cases e
end
section
open Go Go.RowKit
attribute [local irreducible] AWp AOps aa az OrOk ad ah
attribute [local irreducible] hdC hdB badI isS mayV encS
theorem j5 {G : Glo} (s : List UInt8) (hl : s.length ≤ 9223372036854775807) : FnIs Tryz.prog G 99 [.str s] (.bool (hdB false s)) := by
 have hB := np (G := G) s hl
 have k1 := fun i (_ : 0 ≤ (aa s i : Int)) => su (G := G) (aa s i)
 have hGL : ad G [] := ab
 refine fn_x Tryz.func99 Tryz.call99 rfl rfl rfl rfl hGL ?_
 intro C hC
 refine xw1 ?_
 refine lp hC hGL (fun i : Nat => [(0, .str s), (5, .int .i64 (s.length : Nat)), (6, .int .i64 (i : Nat))]) (fun _ => []) (fun i => i ≤ s.length ∧ ∀ j, j < i → hdC false (aa s j : Int) = false) (fun i => s.length - i) 0 ?_ ak rfl ?_
 ·exact ⟨Nat.zero_le _, fun j h => absurd h (Nat.not_lt_zero _)⟩
 rintro i ⟨h1, h2⟩
 refine xw ?_
 repeat' (first | exact Le.n | refine Lc.mk ?_ ?_)
 all_goals intros
 all_goals first
  | (apply al; rw [CT (i := i) (by omega) (by assumption) h2]; rfl)
  | (refine nxt (i + 1) ⟨by omega, bF h2 (by assumption)⟩ (by omega) ak rfl)
  | (apply al; rw [zf (i := i) (by omega) h2])
theorem j7 {G : Glo} (s : List UInt8) (c : Bool) (hl : s.length ≤ 1000000) : FnIs Tryz.prog G 98 [.str s, .bool c] (.bool (mayV c s)) := by
 have hq := fun t => aM (G := G) t 34 (by decide) (by decide)
 cases c with
 | true =>
  have hE := lq (G := G) s hl (jv _)
  have hC1 := j5 (G := G) (encS s) (by have := (fj s).2; omega)
  have hq1 := hq (encS s)
  have e : mayV true s = (hdB false (encS s) && decide (idxB (encS s) 34 < 0)) := by unfold mayV eIf; rfl
  rw [e]
  have hGL : ad G [] := ab
  refine fn_x Tryz.func98 Tryz.call98 rfl rfl rfl rfl hGL ?_
  intro C hC
  refine xw ?_
  repeat' (first | exact Le.n | refine Lc.mk ?_ ?_)
  all_goals intros
  all_goals (apply al; refine congrArg AVal.bool ?_; rw [show hdB false (encS s) = _ by assumption])
  all_goals (rw [Bool.eq_iff_iff]; simp [jL])
 | false =>
  have hC1 := j5 (G := G) s (by omega)
  have hq1 := hq s
  have e : mayV false s = (hdB false s && decide (idxB s 34 < 0)) := by unfold mayV eIf; rfl
  rw [e]
  have hGL : ad G [] := ab
  refine fn_x Tryz.func98 Tryz.call98 rfl rfl rfl rfl hGL ?_
  intro C hC
  refine xw ?_
  repeat' (first | exact Le.n | refine Lc.mk ?_ ?_)
  all_goals intros
  all_goals (apply al; refine congrArg AVal.bool ?_; rw [show hdB false s = _ by assumption])
  all_goals (rw [Bool.eq_iff_iff]; simp [jL])
theorem oO {G : Glo} (p : Ln) (c : Bool) (ho : p.Fit) : FnIs Tryz.prog G 50 [p.A, .bool c] (p.E c).A := by
  have n1 := kS (G := G) p.n (by have := ho.n; omega)
  have n2 := kS (G := G) p.g (by have := ho.g; omega)
  have hv := j5 (G := G) p.v (by have := ho.v; omega)
  have hps := ho.ps
  have hGL : ad G [] := ab
  refine fn_x Tryz.func50 Tryz.call50 rfl rfl rfl rfl hGL ?_
  intro C hC
  refine xw ?_
  repeat' (first | exact Le.n | refine Lc.mk ?_ ?_)
  all_goals intros
  all_goals try (apply al; first | (rw [Ln.E_5 (.inl (by assumption))]; rfl) | (rw [Ln.E_5 (.inr ⟨by assumption, by assumption⟩)]; rfl) | (rw [Ln.E_4 (by assumption) (.inl (by assumption)) (by omega)]; rfl) | (rw [Ln.E_4 (by assumption) (.inr (by assumption)) (by omega)]; rfl))
  all_goals
    have q1 : isS p.n = true := by assumption
    have q2 : p.g.length = 0 ∨ isS p.g = true := by first | exact .inl (by assumption) | exact .inr (by assumption)
    have q3 : p.ps.length ≤ 20 := by omega
    refine lp hC hGL (fun k : Nat => [(1, .bool c), (2, .rop [.str p.g, .str p.n, .list 2 p.ps.length (prF p.ps), .str p.v] 0), (34, .list 2 p.ps.length (prF p.ps)), (35, .int .i64 (p.ps.length : Nat)), (36, .int .i64 (k : Nat))]) (fun _ => []) (fun k => k ≤ p.ps.length ∧ ∀ j, j < k → prE c (p.ps.getD j Pr.z) = 0) (fun k => p.ps.length - k) 0 ?_ ak rfl ?_
    · exact ⟨Nat.zero_le _, fun j h => absurd h (Nat.not_lt_zero _)⟩
    rintro k ⟨h1, h2⟩
    have hq := ho.q k
    have n3 := kS (G := G) (p.ps.getD k Pr.z).n (by omega)
    by_cases hk : k < p.ps.length
    · cases hn : isS (p.ps.getD k Pr.z).n with
      | false =>
        rw [hn] at n3
        refine xw ?_
        repeat' (first | exact Le.n | refine Lc.mk ?_ ?_)
        all_goals intros
        · refine lp hC hGL (fun x : Nat × Int => [(1, .bool c), (2, .rop [.str p.g, .str p.n, .list 2 p.ps.length (prF p.ps), .str p.v] 0), (5, .int .i64 (k : Nat)), (7, .int .i64 x.2), (34, .list 2 p.ps.length (prF p.ps)), (35, .int .i64 (p.ps.length : Nat)), (36, .int .i64 (k : Nat)), (52, .list 1 (p.ps.getD k Pr.z).vs.length (aG (p.ps.getD k Pr.z).vs)), (53, .int .i64 ((p.ps.getD k Pr.z).vs.length : Nat)), (54, .int .i64 (x.1 : Nat))]) (fun _ => [.cells _ (some 103) [.str (p.ps.getD k Pr.z).n, .list 1 (p.ps.getD k Pr.z).vs.length (aG (p.ps.getD k Pr.z).vs)]]) (fun x => x.1 ≤ (p.ps.getD k Pr.z).vs.length ∧ prI c (p.ps.getD k Pr.z) x.1 x.2) (fun x => (p.ps.getD k Pr.z).vs.length - x.1) (0, 5) ?_ ak rfl ?_
          · exact ⟨Nat.zero_le _, .inl ⟨hn, rfl⟩⟩
          rintro ⟨j, e⟩ ⟨g1, g2⟩
          dsimp only at g1 g2
          have hj := j7 (G := G) ((p.ps.getD k Pr.z).vs.getD j []) c (by have := cJ (l := (p.ps.getD k Pr.z).vs) (k := j); omega)
          refine xw ?_
          repeat' (first | exact Le.n | refine Lc.mk ?_ ?_)
          all_goals intros
          all_goals try dsimp only at *
          all_goals first
            | exact nxt (j + 1, e) ⟨by dsimp only; omega, oA g2 (by assumption)⟩ (by dsimp only; omega) ak rfl
            | exact nxt (j + 1, e) ⟨by dsimp only; omega, wR g2 (by assumption) (by assumption)⟩ (by dsimp only; omega) ak rfl
            | exact nxt (j + 1, 3) ⟨by dsimp only; omega, sh g2 (by assumption) (by omega) (by assumption)⟩ (by dsimp only; omega) ak rfl
            | exact nxs (k + 1) ⟨by omega, aN h2 ((jc g2 (by omega)).symm.trans (by assumption))⟩ (by omega) ak aS
            | (apply al
               have e1 := jc g2 (by omega)
               rw [Ln.E_at q1 q2 q3 (by omega) h2 (by rw [← e1]; assumption), ← e1]
               rfl)
      | true =>
        rw [hn] at n3
        by_cases hz : (p.ps.getD k Pr.z).vs.length = 0
        · refine xw ?_
          repeat' (first | exact Le.n | refine Lc.mk ?_ ?_)
          all_goals intros
          · refine lp hC hGL (fun x : Nat × Int => [(1, .bool c), (2, .rop [.str p.g, .str p.n, .list 2 p.ps.length (prF p.ps), .str p.v] 0), (5, .int .i64 (k : Nat)), (7, .int .i64 x.2), (34, .list 2 p.ps.length (prF p.ps)), (35, .int .i64 (p.ps.length : Nat)), (36, .int .i64 (k : Nat)), (52, .list 1 (p.ps.getD k Pr.z).vs.length (aG (p.ps.getD k Pr.z).vs)), (53, .int .i64 ((p.ps.getD k Pr.z).vs.length : Nat)), (54, .int .i64 (x.1 : Nat))]) (fun _ => [.cells _ (some 103) [.str (p.ps.getD k Pr.z).n, .list 1 (p.ps.getD k Pr.z).vs.length (aG (p.ps.getD k Pr.z).vs)]]) (fun x => x.1 ≤ (p.ps.getD k Pr.z).vs.length ∧ prI c (p.ps.getD k Pr.z) x.1 x.2) (fun x => (p.ps.getD k Pr.z).vs.length - x.1) (0, 8) ?_ ak rfl ?_
            · exact ⟨Nat.zero_le _, .inr (.inl ⟨hn, hz, rfl⟩)⟩
            rintro ⟨j, e⟩ ⟨g1, g2⟩
            dsimp only at g1 g2
            have hj := j7 (G := G) ((p.ps.getD k Pr.z).vs.getD j []) c (by have := cJ (l := (p.ps.getD k Pr.z).vs) (k := j); omega)
            refine xw ?_
            repeat' (first | exact Le.n | refine Lc.mk ?_ ?_)
            all_goals intros
            all_goals try dsimp only at *
            all_goals first
              | exact nxt (j + 1, e) ⟨by dsimp only; omega, oA g2 (by assumption)⟩ (by dsimp only; omega) ak rfl
              | exact nxt (j + 1, e) ⟨by dsimp only; omega, wR g2 (by assumption) (by assumption)⟩ (by dsimp only; omega) ak rfl
              | exact nxt (j + 1, 3) ⟨by dsimp only; omega, sh g2 (by assumption) (by omega) (by assumption)⟩ (by dsimp only; omega) ak rfl
              | exact nxs (k + 1) ⟨by omega, aN h2 ((jc g2 (by omega)).symm.trans (by assumption))⟩ (by omega) ak aS
              | (apply al
                 have e1 := jc g2 (by omega)
                 rw [Ln.E_at q1 q2 q3 (by omega) h2 (by rw [← e1]; assumption), ← e1]
                 rfl)
        · refine xw ?_
          repeat' (first | exact Le.n | refine Lc.mk ?_ ?_)
          all_goals intros
          · refine lp hC hGL (fun x : Nat × Int => [(1, .bool c), (2, .rop [.str p.g, .str p.n, .list 2 p.ps.length (prF p.ps), .str p.v] 0), (5, .int .i64 (k : Nat)), (7, .int .i64 x.2), (34, .list 2 p.ps.length (prF p.ps)), (35, .int .i64 (p.ps.length : Nat)), (36, .int .i64 (k : Nat)), (52, .list 1 (p.ps.getD k Pr.z).vs.length (aG (p.ps.getD k Pr.z).vs)), (53, .int .i64 ((p.ps.getD k Pr.z).vs.length : Nat)), (54, .int .i64 (x.1 : Nat))]) (fun _ => [.cells _ (some 103) [.str (p.ps.getD k Pr.z).n, .list 1 (p.ps.getD k Pr.z).vs.length (aG (p.ps.getD k Pr.z).vs)]]) (fun x => x.1 ≤ (p.ps.getD k Pr.z).vs.length ∧ prI c (p.ps.getD k Pr.z) x.1 x.2) (fun x => (p.ps.getD k Pr.z).vs.length - x.1) (0, 0) ?_ ak rfl ?_
            · exact ⟨Nat.zero_le _, .inr (.inr ⟨hn, hz, .inl ⟨rfl, fun i hi => absurd hi (Nat.not_lt_zero _)⟩⟩)⟩
            rintro ⟨j, e⟩ ⟨g1, g2⟩
            dsimp only at g1 g2
            have hj := j7 (G := G) ((p.ps.getD k Pr.z).vs.getD j []) c (by have := cJ (l := (p.ps.getD k Pr.z).vs) (k := j); omega)
            refine xw ?_
            repeat' (first | exact Le.n | refine Lc.mk ?_ ?_)
            all_goals intros
            all_goals try dsimp only at *
            all_goals first
              | exact nxt (j + 1, e) ⟨by dsimp only; omega, oA g2 (by assumption)⟩ (by dsimp only; omega) ak rfl
              | exact nxt (j + 1, e) ⟨by dsimp only; omega, wR g2 (by assumption) (by assumption)⟩ (by dsimp only; omega) ak rfl
              | exact nxt (j + 1, 3) ⟨by dsimp only; omega, sh g2 (by assumption) (by omega) (by assumption)⟩ (by dsimp only; omega) ak rfl
              | exact nxs (k + 1) ⟨by omega, aN h2 ((jc g2 (by omega)).symm.trans (by assumption))⟩ (by omega) ak aS
              | (apply al
                 have e1 := jc g2 (by omega)
                 rw [Ln.E_at q1 q2 q3 (by omega) h2 (by rw [← e1]; assumption), ← e1]
                 rfl)
    · refine xw ?_
      repeat' (first | exact Le.n | refine Lc.mk ?_ ?_)
      all_goals intros
      all_goals (apply al; first | (rw [Ln.E_3 q1 q2 q3 (by omega) h2 (by assumption)]; rfl) | (rw [Ln.E_0 q1 q2 q3 (by omega) h2 (by assumption)]; rfl))
end
section
open Go Go.RowKit
theorem pg {c : Bool} : ∀ {l : List Pr} {i : Nat}, firE c l i = .none → ∀ q ∈ l, prE c q = 0
 | [], _, _, q, h => by cases h
 | x :: l, i, h, q, hq => by
  simp only [firE] at h
  split at h
  ·rename_i h0
   rcases List.mem_cons.1 hq with rfl | hq
   ·exact h0
   ·exact pg h q hq
  ·cases h
theorem Ln.E_inv {c : Bool} {p : Ln} (h : p.E c = .none) : p.ps.length ≤ 20 ∧ ∀ k, k < p.ps.length → (p.ps.getD k Pr.z).vs.length ≠ 0 := by
 unfold Ln.E at h
 split at h
 ·cases h
 ·split at h
  ·cases h
  ·refine ⟨by omega, fun k hk h0 => ?_⟩
   have hf : firE c p.ps 0 = .none := by
    cases hf : firE c p.ps 0 with
    | none => rfl
    | errno e => rw [hf] at h; cases h
    | «at» e q => rw [hf] at h; cases h
   have h1 := pg hf (p.ps.getD k Pr.z) (by rw [List.getD_eq_getElem?_getD, List.getElem?_eq_getElem hk]; exact List.getElem_mem hk)
   cases hn : isS (p.ps.getD k Pr.z).n with
   | false => rw [uu hn] at h1; cases h1
   | true => rw [yR hn h0] at h1; cases h1
theorem Fa {P : Program} [Tab P] {C : Ctx} {n : Nat} {env : Env} {H : Heap} {Q : AExit → Env → Heap → Prop} {c : Code} (i : Nat) {b : Nat} (hi : H[i]? = some (.cells b (some 94) [.raw (.pointer none), .raw (.slice none 0 0)]))
  (h : AWp P C n c env (H.set i (bldC b (.pointer none) H.length (.slice none 0 0)) ++ [bldR (.slice none 0 0) []]) Q) : AWp P C n c env H Q := by
 refine gV (eT := some 5) 1 ?_
 unfold AWp at h ⊢
 intro R a w hm hf
 obtain ⟨Cs, e, fz, hb, hl, hr⟩ := hm.heap.holds (.cells b (some 94) [.raw (.pointer none), .raw (.slice none 0 0)]) (List.mem_cons_of_mem _ (List.mem_of_getElem? hi))
 obtain ⟨v1, t1, e1, r1, v2, t2, e2, r2, e3⟩ := hl
 have r2' : RelC R (.own H.length (.slice none 0 0)) [v2] := by
  have : v2 = .slice none 0 0 := by simpa [RelC, Value.cells] using r2
  subst this
  simp [RelC, vAgg]
 have h1 := hm.swap (i := i + 1) (x := .cells b (some 94) [.raw (.pointer none), .raw (.slice none 0 0)]) (y := bldC b (.pointer none) H.length (.slice none 0 0)) (by rw [List.getElem?_cons_succ]; exact hi) rfl
  ⟨Cs, e, fz, hb, ⟨v1, t1, e1, r1, v2, t2, e2, r2', e3⟩, hr⟩
 rw [List.set_cons_succ] at h1
 exact h R a w (h1.perm (List.perm_append_singleton _ _).symm) hf
theorem Fh {s : List UInt8} : 0 ≤ Lib.indexAny s [44, 59, 58] ↔ 0 ≤ fstB quoC s := by
 have key : ∀ x : UInt8, ([44, 59, 58] : List UInt8).contains x = quoC (x.toNat : Int) := by
  intro x
  unfold quoC
  rw [Bool.eq_iff_iff, sD, decide_eq_true_eq]
  simp only [List.mem_cons, List.not_mem_nil, or_false, exists_eq_or_imp, exists_eq_left]
  exact Iff.rfl
 rcases gP quoC s with ⟨h1, h2⟩ | ⟨m, h1, h2, h3, h4⟩
 ·rw [Lib.indexAny_none (fun j x hj hx => by
   rw [key, bu hx]
   exact h2 j hj), h1]
 ·have hx : s[m]? = some s[m] := List.getElem?_eq_getElem h1
  rw [Lib.indexAny_hit (i := m) (fun j x hj hx => by
   rw [key, bu hx]
   exact h4 j hj) hx (by rw [key, bu hx]; exact h3), h2]
attribute [local irreducible] AWp AOps aa az OrOk ad ah
attribute [local irreducible] hdC hdB badI isS mayV encS quoS vaT psT hdT eIf
theorem s3 {G : Glo} (s : List UInt8) (hl : s.length ≤ 1000000) : FnIs Tryz.prog G 59 [.str s, .str [44, 59, 58]] (.bool (decide (0 ≤ fstB quoC s))) := by
 have hI := xr (G := G) (cs := [44, 59, 58]) (A7 (by decide) (by decide) (by decide)) (by decide) (by decide) (by decide) s (by omega)
 have hGL : ad G [] := ab
 refine fn_x Tryz.func59 Tryz.call59 rfl rfl rfl rfl hGL ?_
 intro C hC
 refine xw1 ?_
 apply al
 refine congrArg AVal.bool ?_
 rw [Bool.eq_iff_iff]
 simp only [Bool.not_eq_true', g9, decide_eq_true_eq, Fh]
theorem G1 {c : Bool} {s : List UInt8} (h : decide (0 ≤ fstB quoC (eIf c s)) = true) : quoS c s = 34 :: eIf c s ++ [34] := by
 unfold quoS
 rw [if_neg (by have := of_decide_eq_true h; omega)]
theorem G2 {c : Bool} {s : List UInt8} (h : decide (0 ≤ fstB quoC (eIf c s)) = false) : quoS c s = eIf c s := by
 unfold quoS
 rw [if_pos (by have := of_decide_eq_false h; omega)]
theorem Fv (s : List UInt8) : eIf true s = encS s := by unfold eIf; rfl
theorem Fw (s : List UInt8) : eIf false s = s := by unfold eIf; rfl
theorem va_0 {c : Bool} {vs : List (List UInt8)} {j : Nat} (hj : j < vs.length) (h : (j : Int) = 0) (t : List UInt8) : t ++ vaT c vs (j + 1) = t ++ vaT c vs j ++ [61] ++ quoS c (vs.getD j []) := by
 rw [tv hj, if_pos (by omega)]
 simp only [List.append_assoc]
theorem va_1 {c : Bool} {vs : List (List UInt8)} {j : Nat} (hj : j < vs.length) (h : (j : Int) ≠ 0) (t : List UInt8) : t ++ vaT c vs (j + 1) = t ++ vaT c vs j ++ [44] ++ quoS c (vs.getD j []) := by
 rw [tv hj, if_neg (by omega)]
 simp only [List.append_assoc]
theorem j6 {G : Glo} (p : Ln) (c : Bool) (ho : p.Fit) : FnIs Tryz.prog G 23 [p.A, .bool c] (.tuple [.str (p.T c), (p.E c).A]) := by
  have h0 := oO (G := G) p c ho
  rcases hq : p.E c with _ | e | ⟨e, i⟩
  case errno =>
    rw [hq] at h0
    rw [show p.T c = [] by unfold Ln.T; rw [hq]]
    have hGL : ad G [] := ab
    refine fn_x Tryz.func23 Tryz.call23 rfl rfl rfl rfl hGL ?_
    intro C hC
    exact xw0
  case «at» =>
    rw [hq] at h0
    rw [show p.T c = [] by unfold Ln.T; rw [hq]]
    have hGL : ad G [] := ab
    refine fn_x Tryz.func23 Tryz.call23 rfl rfl rfl rfl hGL ?_
    intro C hC
    exact xw0
  rw [hq] at h0
  rw [show p.T c = p.txt c by unfold Ln.T; rw [hq], yA]
  obtain ⟨i1, i2⟩ := Ln.E_inv hq
  have o1 := ho.g
  have o2 := ho.n
  have o3 := ho.v
  have o4 : ∀ k, k ≤ p.ps.length → (psT c p.ps k).length ≤ 20 * 15002 := fun k hk => by
    have h1 := sg (c := c) ho.q k hk
    rw [show 2 + 6 * 2500 = 15002 by decide] at h1
    have h2 := Nat.mul_le_mul_right 15002 (show k ≤ 20 by omega)
    exact Nat.le_trans h1 h2
  have hd1 : p.g.length ≠ 0 → p.g ++ [46] ++ p.n = hdT p := fun h => by unfold hdT; rw [if_neg h]
  have hd0 : p.g.length = 0 → p.n = hdT p := fun h => by unfold hdT; rw [if_pos h]
  have hdl : (hdT p).length ≤ 5001 := by
    unfold hdT
    split
    · omega
    · simp only [List.length_append, List.length_cons, List.length_nil]; omega
  have hGL : ad G [] := ab
  refine fn_a Tryz.func23 Tryz.call23 rfl rfl rfl rfl ?_
  intro C hC
  refine cut hC hGL [(1, .bool c), (2, .rop [.str p.g, .str p.n, .list 2 p.ps.length (prF p.ps), .str p.v] 0)] [] True ?_ fun _ => ?_
  · exact xw0
  refine cut hC hGL [(1, .bool c), (2, .rop [.str p.g, .str p.n, .list 2 p.ps.length (prF p.ps), .str p.v] 0)] [] True ?_ fun _ => ?_
  · exact xw0
  refine cuty hC hGL (fun bl : Nat => [(1, .bool c), (2, .rop [.str p.g, .str p.n, .list 2 p.ps.length (prF p.ps), .str p.v] 0), (7, .own 0 (ptrA bl))]) (fun bl => [.cells bl (some 94) [.raw (.pointer none), .raw (.slice none 0 0)]]) (fun _ => True) ?_ fun bl _ => ?_
  · refine xw1 ?_
    intro bl
    exact cy bl trivial
  refine Fa 0 rfl ?_
  refine cuty hC hGL (fun x : Value × Value × List UInt8 => [(1, .bool c), (2, .rop [.str p.g, .str p.n, .list 2 p.ps.length (prF p.ps), .str p.v] 0), (7, .own 0 (ptrA bl))]) (fun x => [bldC bl x.1 1 x.2.1, bldR x.2.1 x.2.2]) (fun x => mC bl x.1 ∧ x.2.2.length ≤ 2501 ∧ x.2.2 ++ p.n = hdT p) ?_ fun x hx => ?_
  · refine xw ?_
    repeat' (first | exact Le.n | refine Lc.mk ?_ ?_)
    all_goals intros
    · apply dJ (i := 0) (j := 1) rfl rfl (by decide) (aV (.inl rfl) _ [] (p.g ++ [46]) (by simp only [List.length_append, List.length_cons, List.length_nil]; omega))
      intro ua uk uc
      refine xw1 ?_
      exact cy (ptrA bl, .slice ua uk uc, [] ++ (p.g ++ [46])) ⟨.inr rfl, by simp only [List.length_append, List.length_cons, List.length_nil]; omega, by rw [List.nil_append]; exact hd1 (by assumption)⟩
    · exact cy (.pointer none, .slice none 0 0, []) ⟨.inl rfl, by simp, by rw [List.nil_append]; exact hd0 (by assumption)⟩
  obtain ⟨pa, va, tx⟩ := x
  obtain ⟨hp, hlx, htx⟩ := hx
  dsimp only at hp hlx htx
  refine cuty hC hGL (fun x : Value => [(1, .bool c), (2, .rop [.str p.g, .str p.n, .list 2 p.ps.length (prF p.ps), .str p.v] 0), (7, .own 0 (ptrA bl))]) (fun x => [bldC bl (ptrA bl) 1 x, bldR x (hdT p ++ psT c p.ps 0)]) (fun x => True) ?_ fun vb _ => ?_
  · refine xw1 ?_
    apply dJ (i := 0) (j := 1) rfl rfl (by decide) (aV hp va tx p.n (by omega))
    intro ua uk uc
    rw [htx.trans (show hdT p = hdT p ++ psT c p.ps 0 by rw [show psT c p.ps 0 = [] by unfold psT; rfl, List.append_nil])]
    refine xw1 ?_
    exact cy (.slice ua uk uc) trivial
  clear htx hp hlx
  refine bw hC hGL ?_
  refine xw1 ?_
  refine lp hC hGL (fun x : Nat × Value => [(1, .bool c), (2, .rop [.str p.g, .str p.n, .list 2 p.ps.length (prF p.ps), .str p.v] 0), (7, .own 0 (ptrA bl)), (29, .list 2 p.ps.length (prF p.ps)), (30, .int .i64 (p.ps.length : Nat)), (31, .int .i64 (x.1 : Nat))]) (fun x => [bldC bl (ptrA bl) 1 x.2, bldR x.2 (hdT p ++ psT c p.ps x.1)]) (fun x => x.1 ≤ p.ps.length) (fun x => p.ps.length - x.1) (0, vb) ?_ ak rfl ?_
  · exact Nat.zero_le _
  rintro ⟨k, v⟩ h1
  dsimp only at h1
  have ol := o4 k h1
  have hqk := ho.q k
  refine xn ?_
  repeat' (first | exact Le.n | refine Lc.mk ?_ ?_)
  all_goals intros
  · rename_i b9 hkl
    dsimp only at hkl
    have hk : k < p.ps.length := by omega
    apply dJ (i := 0) (j := 1) rfl rfl (by decide) (aV (.inr rfl) v (hdT p ++ psT c p.ps k) ([59] ++ (p.ps.getD k Pr.z).n) (by simp only [List.length_append, List.length_cons, List.length_nil]; omega))
    intro ua uk uc
    generalize hX : hdT p ++ psT c p.ps k ++ ([59] ++ (p.ps.getD k Pr.z).n) = X
    have hXl : X.length ≤ 500000 := by
      rw [← hX]
      simp only [List.length_append, List.length_cons, List.length_nil]
      omega
    refine xw1 ?_
    refine lp hC hGL (fun x : Nat × Value => [(1, .bool c), (2, .rop [.str p.g, .str p.n, .list 2 p.ps.length (prF p.ps), .str p.v] 0), (7, .own 0 (ptrA bl)), (29, .list 2 p.ps.length (prF p.ps)), (30, .int .i64 (p.ps.length : Nat)), (31, .int .i64 (k : Nat)), (40, .list 1 (p.ps.getD k Pr.z).vs.length (aG (p.ps.getD k Pr.z).vs)), (41, .int .i64 ((p.ps.getD k Pr.z).vs.length : Nat)), (42, .int .i64 (x.1 : Nat))]) (fun x => [bldC bl (ptrA bl) 1 x.2, bldR x.2 (X ++ vaT c (p.ps.getD k Pr.z).vs x.1), .cells b9 (some 103) [.str (p.ps.getD k Pr.z).n, .list 1 (p.ps.getD k Pr.z).vs.length (aG (p.ps.getD k Pr.z).vs)]]) (fun x => x.1 ≤ (p.ps.getD k Pr.z).vs.length) (fun x => (p.ps.getD k Pr.z).vs.length - x.1) (0, .slice ua uk uc) ?_ ak ?_ ?_
    · exact Nat.zero_le _
    · dsimp only
      rw [show vaT c (p.ps.getD k Pr.z).vs 0 = [] by unfold vaT; rfl, List.append_nil]
    rintro ⟨j, u⟩ g1
    dsimp only at g1
    have hvl := DW c (p.ps.getD k Pr.z).vs j
    have hj1 := cJ (l := (p.ps.getD k Pr.z).vs) (k := j)
    have hel := sS c ((p.ps.getD k Pr.z).vs.getD j [])
    have hql := ur c ((p.ps.getD k Pr.z).vs.getD j [])
    have hE := lq (G := G) ((p.ps.getD k Pr.z).vs.getD j []) (by omega) (jv _)
    have hQ := s3 (G := G) (eIf c ((p.ps.getD k Pr.z).vs.getD j [])) (by omega)
    have hY := G1 (c := c) (s := (p.ps.getD k Pr.z).vs.getD j [])
    have hN := G2 (c := c) (s := (p.ps.getD k Pr.z).vs.getD j [])
    have hv0 := fun (hj : j < (p.ps.getD k Pr.z).vs.length) (h : (j : Int) = 0) => va_0 (c := c) hj h X
    have hv1 := fun (hj : j < (p.ps.getD k Pr.z).vs.length) (h : (j : Int) ≠ 0) => va_1 (c := c) hj h X
    refine xw ?_
    repeat' (first | exact Le.n | refine Lc.mk ?_ ?_)
    all_goals intros
    all_goals first
      | (have hj0 := hv0 (by omega) (by assumption)
         apply dJ (i := 0) (j := 1) rfl rfl (by decide) (aV (.inr rfl) u (X ++ vaT c (p.ps.getD k Pr.z).vs j) [61] (by simp only [List.length_append, List.length_cons, List.length_nil]; omega))
         intro xa xk xc
         cases c
         all_goals
           simp only [Fv, Fw] at hQ hY hN hel
           refine xw ?_
           repeat' (first | exact Le.n | refine Lc.mk ?_ ?_)
           all_goals intros
           all_goals
             first
             | (have hy := hY (by assumption)
                apply dJ (i := 0) (j := 1) rfl rfl (by decide) (aV (.inr rfl) (.slice xa xk xc) _ _ (by rw [hy] at hql; simp only [List.length_append, List.length_cons, List.length_nil] at *; omega))
                intro ya yk yc
                refine xw1 ?_
                refine nxs (j + 1, .slice ya yk yc) (by dsimp only; omega) (by dsimp only; omega) ak ?_
                dsimp only
                rw [hj0, hy]
                exact aS)
             | (have hy := hN (by assumption)
                apply dJ (i := 0) (j := 1) rfl rfl (by decide) (aV (.inr rfl) (.slice xa xk xc) _ _ (by simp only [List.length_append, List.length_cons, List.length_nil] at *; omega))
                intro ya yk yc
                refine xw1 ?_
                refine nxs (j + 1, .slice ya yk yc) (by dsimp only; omega) (by dsimp only; omega) ak ?_
                dsimp only
                rw [hj0, hy]
                exact aS))
      | (have hj1 := hv1 (by omega) (by assumption)
         apply dJ (i := 0) (j := 1) rfl rfl (by decide) (aV (.inr rfl) u (X ++ vaT c (p.ps.getD k Pr.z).vs j) [44] (by simp only [List.length_append, List.length_cons, List.length_nil]; omega))
         intro xa xk xc
         cases c
         all_goals
           simp only [Fv, Fw] at hQ hY hN hel
           refine xw ?_
           repeat' (first | exact Le.n | refine Lc.mk ?_ ?_)
           all_goals intros
           all_goals
             first
             | (have hy := hY (by assumption)
                apply dJ (i := 0) (j := 1) rfl rfl (by decide) (aV (.inr rfl) (.slice xa xk xc) _ _ (by rw [hy] at hql; simp only [List.length_append, List.length_cons, List.length_nil] at *; omega))
                intro ya yk yc
                refine xw1 ?_
                refine nxs (j + 1, .slice ya yk yc) (by dsimp only; omega) (by dsimp only; omega) ak ?_
                dsimp only
                rw [hj1, hy]
                exact aS)
             | (have hy := hN (by assumption)
                apply dJ (i := 0) (j := 1) rfl rfl (by decide) (aV (.inr rfl) (.slice xa xk xc) _ _ (by simp only [List.length_append, List.length_cons, List.length_nil] at *; omega))
                intro ya yk yc
                refine xw1 ?_
                refine nxs (j + 1, .slice ya yk yc) (by dsimp only; omega) (by dsimp only; omega) ak ?_
                dsimp only
                rw [hj1, hy]
                exact aS))
      | (have hj9 : (p.ps.getD k Pr.z).vs.length = j := by omega
         refine nxs (k + 1, u) (by dsimp only; omega) (by dsimp only; omega) ak ?_
         dsimp only
         rw [show hdT p ++ psT c p.ps (k + 1) = X ++ vaT c (p.ps.getD k Pr.z).vs j by
           rw [oz hk, DX (i2 k hk), ← hX, hj9]
           simp only [List.append_assoc, List.cons_append, List.nil_append]]
         exact aS)
  · have hkk : k = p.ps.length := by dsimp only at *; omega
    subst hkk
    refine dw_p mixed hC hGL false (fun (_ : Unit) => [(4, .str (hdT p ++ psT c p.ps p.ps.length ++ [58] ++ p.v)), (5, .raw .nilIface)]) (fun _ => [cV, cV]) (.take 2 (.take 3 (.br 0 (.take 1 (.take 4 (.take 5 (.take 6 (.done))))) (.nil)))) (by kernel_rfl) ?_ ?_
    · refine xn1 ?_
      intro C hC
      refine sV (i := 0) (j := 1) rfl rfl (by decide) (dw (hdT p ++ psT c p.ps p.ps.length) (by rw [List.length_append]; omega)) ?_
      have hlen : (hdT p ++ psT c p.ps p.ps.length).length ≤ 400000 := by rw [List.length_append]; omega
      refine xn ?_
      repeat' (first | exact Le.n | refine Lc.mk ?_ ?_)
      all_goals intros
      all_goals exact ⟨(), ⟨rfl, rfl, trivial⟩, rfl⟩
    · intro _
      exact xn0
end
section
open Go Go.RowKit
def fstN (f : Nat → Int) : Nat → Int
 | 0 => 0
 | n + 1 => if fstN f n = 0 then f n else fstN f n
theorem gi {f : Nat → Int} : ∀ {n : Nat}, (∀ j, j < n → f j = 0) → fstN f n = 0
 | 0, _ => rfl
 | n + 1, h => by rw [fstN, if_pos (gi fun j hj => h j (by omega)), h n (by omega)]
theorem nx {f : Nat → Int} {k : Nat} : ∀ {n : Nat}, k < n → (∀ j, j < k → f j = 0) → f k ≠ 0 → fstN f n = f k
 | 0, h, _, _ => absurd h (Nat.not_lt_zero _)
 | n + 1, h, h1, h2 => by
  rw [fstN]
  rcases Nat.lt_or_ge k n with g | g
  ·rw [nx g h1 h2, if_neg h2]
  ·obtain rfl : k = n := by omega
   rw [if_pos (gi h1)]
def fstE (f : Nat → Int) : Nat → Err
 | 0 => .none
 | n + 1 => match fstE f n with
  | .none => if f n = 0 then .none else .at (f n) n
  | e => e
theorem gj {f : Nat → Int} : ∀ {n : Nat}, (∀ j, j < n → f j = 0) → fstE f n = .none
 | 0, _ => rfl
 | n + 1, h => by rw [fstE, gj fun j hj => h j (by omega)]; simp only [h n (by omega), if_true]
theorem sH {f : Nat → Int} {k : Nat} : ∀ {n : Nat}, k < n → (∀ j, j < k → f j = 0) → f k ≠ 0 → fstE f n = .at (f k) k
 | 0, h, _, _ => absurd h (Nat.not_lt_zero _)
 | n + 1, h, h1, h2 => by
  rw [fstE]
  rcases Nat.lt_or_ge k n with g | g
  ·rw [sH g h1 h2]
  ·obtain rfl : k = n := by omega
   rw [gj h1]
   simp only [h2, if_false]
def frB (n : List UInt8) : Bool := seqB (ap 97 122 (-32) n) [66, 69, 71, 73, 78] || (seqB (ap 97 122 (-32) n) [69, 78, 68] || seqB (ap 97 122 (-32) n) [86, 69, 82, 83, 73, 79, 78])
def pE (ps : List Pr) (i : Nat) : Int := if (ps.getD i Pr.z).fit = false then 3 else if ap 97 122 (-32) (ps.getD i Pr.z).n ≠ nTYP ∧ bO (ps.getD i Pr.z).n ps 0 < (i : Int) then 9 else 0
def parE (ps : List Pr) : Int := fstN (pE ps) ps.length
theorem C3 {s : List UInt8} {l : List Pr} : ∀ {j : Nat}, j < l.length → ap 97 122 (-32) (l.getD j Pr.z).n = ap 97 122 (-32) s → bO s l 0 ≤ (j : Int) := by
 intro j
 induction j using Nat.strongRecOn with
 | _ j ih =>
  intro hj he
  by_cases h : ∃ i, i < j ∧ ap 97 122 (-32) (l.getD i Pr.z).n = ap 97 122 (-32) s
  ·obtain ⟨i, hi, h⟩ := h
   have := ih i hi (by omega) h
   omega
  ·rw [iK 0 hj (fun i hi e => h ⟨i, hi, e⟩) he]
   omega
theorem rc {l : List Pr} {i : Nat} (hi : i < l.length) : bO (l.getD i Pr.z).n l 0 < (i : Int) ↔ ∃ j, j < i ∧ ap 97 122 (-32) (l.getD j Pr.z).n = ap 97 122 (-32) (l.getD i Pr.z).n := by
 constructor
 ·intro h
  apply Classical.byContradiction
  intro hn
  rw [iK 0 hi (fun j hj e => hn ⟨j, hj, e⟩) rfl] at h
  omega
 ·rintro ⟨j, hj, h⟩
  have := C3 (s := (l.getD i Pr.z).n) (l := l) (j := j) (by omega) h
  omega
theorem pE_3 {ps : List Pr} {i : Nat} (h : (ps.getD i Pr.z).fit = false) : pE ps i = 3 := by unfold pE; rw [if_pos h]
theorem pE_9 {ps : List Pr} {i : Nat} (h : (ps.getD i Pr.z).fit = true) (h1 : ap 97 122 (-32) (ps.getD i Pr.z).n ≠ nTYP) (h2 : bO (ps.getD i Pr.z).n ps 0 < (i : Int)) : pE ps i = 9 := by unfold pE; rw [if_neg (by rw [h]; decide), if_pos ⟨h1, h2⟩]
theorem pE_0 {ps : List Pr} {i : Nat} (h : (ps.getD i Pr.z).fit = true) (h1 : ¬ (ap 97 122 (-32) (ps.getD i Pr.z).n ≠ nTYP ∧ bO (ps.getD i Pr.z).n ps 0 < (i : Int))) : pE ps i = 0 := by unfold pE; rw [if_neg (by rw [h]; decide), if_neg h1]
theorem fy {ps : List Pr} {k : Nat} (hk : k < ps.length) (h : ∀ j, j < k → pE ps j = 0) (h1 : pE ps k ≠ 0) : parE ps = pE ps k := nx hk h h1
theorem Cc {ps : List Pr} {k : Nat} (hk : ps.length ≤ k) (h : ∀ j, j < k → pE ps j = 0) : parE ps = 0 := gi fun j hj => h j (by omega)
def Itm.k (v : Int) (x : Itm) : Int := eQ v x.1.n x.1.ps
def Itm.ln (x : Itm) : Ln := ⟨x.1.g, x.1.n, x.1.ps, x.2.T⟩
def Itm.L (v : Int) (x : Itm) : List UInt8 := x.ln.T (eqB v 4)
def Itm.r (v : Int) (x : Itm) : Int := if x.2.t = 3 ∧ 0 < (ba v x.1.n).p ∧ (ba v x.1.n).p ≠ (x.2.L.length : Int) then 2 else if 1500 < (x.L v).length then 4 else 0
def Itm.w (v : Int) (x : Itm) : Int := match x.p.E (eqB v 4) with
 | .none => if frB x.1.n = true then 5 else if parE x.1.ps ≠ 0 then parE x.1.ps else if x.k v ≠ x.2.t then 1 else match x.2.E with
  | .none => x.r v
  | e => e.e
 | e => e.e
theorem w_ln {v : Int} {x : Itm} (h : x.p.E (eqB v 4) ≠ .none) : x.w v = (x.p.E (eqB v 4)).e := by
 unfold Itm.w
 split
 ·rename_i k; exact absurd k h
 ·rfl
theorem w_fr {v : Int} {x : Itm} (h : x.p.E (eqB v 4) = .none) (h1 : frB x.1.n = true) : x.w v = 5 := by
 unfold Itm.w
 rw [h]
 simp only [h1, if_true]
theorem Fj {v : Int} {x : Itm} (h : x.p.E (eqB v 4) = .none) (h1 : frB x.1.n = false) (h2 : parE x.1.ps ≠ 0) : x.w v = parE x.1.ps := by
 unfold Itm.w
 rw [h]
 simp only [h1, Bool.false_eq_true, if_false, if_pos h2]
theorem Fk {v : Int} {x : Itm} (h : x.p.E (eqB v 4) = .none) (h1 : frB x.1.n = false) (h2 : parE x.1.ps = 0) (h3 : x.k v ≠ x.2.t) : x.w v = 1 := by
 unfold Itm.w
 rw [h]
 simp only [h1, Bool.false_eq_true, if_false, h2, ne_eq, not_true_eq_false, if_pos h3]
theorem Fi {v : Int} {x : Itm} (h : x.p.E (eqB v 4) = .none) (h1 : frB x.1.n = false) (h2 : parE x.1.ps = 0) (h3 : x.k v = x.2.t) (h4 : x.2.E ≠ .none) : x.w v = x.2.E.e := by
 unfold Itm.w
 rw [h]
 simp only [h1, Bool.false_eq_true, if_false, h2, h3, ne_eq, not_true_eq_false]
theorem w_r {v : Int} {x : Itm} (h : x.p.E (eqB v 4) = .none) (h1 : frB x.1.n = false) (h2 : parE x.1.ps = 0) (h3 : x.k v = x.2.t) (h4 : x.2.E = .none) : x.w v = x.r v := by
 unfold Itm.w
 rw [h]
 simp only [h1, Bool.false_eq_true, if_false, h2, h3, h4, ne_eq, not_true_eq_false]
theorem Ln.E_v {c : Bool} {p : Ln} {v : List UInt8} (h : Ln.E c ⟨p.g, p.n, p.ps, []⟩ = .none) (hv : hdB false v = true) : Ln.E c ⟨p.g, p.n, p.ps, v⟩ = .none := by
 unfold Ln.E at h ⊢
 dsimp only at h ⊢
 split at h
 ·cases h
 ·rename_i h1
  rw [if_neg h1]
  split at h
  ·cases h
  ·rename_i h2
   rw [if_neg h2]
   split at h
   ·rename_i h3
    simp only [hv, if_true]
   ·rename_i h3
    exact absurd h h3
theorem C1 {c : Bool} : ∀ {l : List Pr} {i : Nat}, (firE c l i).e = 0 → firE c l i = .none
 | [], _, _ => rfl
 | q :: l, i, h => by
  simp only [firE] at h ⊢
  split at h
  ·rename_i g
   rw [if_pos g]
   exact C1 h
  ·rename_i g
   exact absurd h g
theorem Hb {c : Bool} {p : Ln} (h : (p.E c).e = 0) : p.E c = .none := by
 unfold Ln.E at h ⊢
 split
 ·rename_i g; rw [if_pos g] at h; cases h
 ·rename_i g
  rw [if_neg g] at h
  split
  ·rename_i g2; rw [if_pos g2] at h; cases h
  ·rename_i g2
   rw [if_neg g2] at h
   have h0 := C1 (c := c) (l := p.ps) (i := 0)
   cases hf : firE c p.ps 0 with
   | none =>
    rw [hf] at h
    dsimp only at h ⊢
    split
    ·rfl
    ·rename_i g3; rw [if_neg g3] at h; cases h
   | errno e => rw [hf] at h h0; exact absurd (h0 h) (fun k => by cases k)
   | «at» e q => rw [hf] at h h0; exact absurd (h0 h) (fun k => by cases k)
theorem w_ok {v : Int} {x : Itm} (h : x.w v = 0) : x.p.E (eqB v 4) = .none := by
 unfold Itm.w at h
 split at h
 ·rename_i k; exact k
 ·exact Hb h
theorem Be {v : Int} {x : Itm} (h : x.w v = 0) : x.ln.E (eqB v 4) = .none := Ln.E_v (p := x.ln) (w_ok h) (Vl.T_hd _)
theorem w_E {v : Int} {x : Itm} (h : x.w v = 0) : x.2.E = .none := by
 have h0 := w_ok h
 unfold Itm.w at h
 rw [h0] at h
 dsimp only at h
 split at h
 ·cases h
 split at h
 ·rename_i k; exact absurd h k
 split at h
 ·cases h
 split at h
 ·assumption
 ·rename_i k
  exact Vl.E_zero _ h
def Itm.lE (v : Int) (x : Itm) : Err := if v = 3 ∨ v = 4 then if x.w v = 0 then .none else .errno (x.w v) else .errno 1
def Itm.lT (v : Int) (x : Itm) : List UInt8 := if v = 3 ∨ v = 4 then if x.w v = 0 then x.L v else [] else []
def cntI (l : List Itm) (s : List UInt8) (k : Nat) : Nat := ((l.take k).filter fun x => seqB (ap 97 122 (-32) x.1.n) s).length
theorem rj (l : List Itm) (s : List UInt8) : cntI l s 0 = 0 := rfl
theorem mu {l : List Itm} {s : List UInt8} {k : Nat} (hk : k < l.length) : cntI l s (k + 1) = cntI l s k + if seqB (ap 97 122 (-32) (l.getD k Itm.z).1.n) s then 1 else 0 := by
 unfold cntI
 rw [List.take_succ_eq_append_getElem hk, List.filter_append, List.length_append, List.getD_eq_getElem?_getD, List.getElem?_eq_getElem hk, Option.getD_some]
 congr 1
 simp only [List.filter_cons, List.filter_nil]
 split <;> rfl
theorem lk (l : List Itm) (s : List UInt8) (k : Nat) : cntI l s k ≤ k := by
 unfold cntI
 refine Nat.le_trans (List.length_filter_le _ _) ?_
 rw [List.length_take]
 omega
def fA (v : Int) (l : List Itm) (i : Nat) : Int := if 0 < (ba v (l.getD i Itm.z).1.n).b ∧ (ba v (l.getD i Itm.z).1.n).b ≤ (cntI l (ap 97 122 (-32) (l.getD i Itm.z).1.n) i : Int) then 9 else 0
def leE (v : Int) (l : List Itm) (i : Nat) : Int := if (cntI l ((ax v).getD i []) l.length : Int) < (ba v ((ax v).getD i [])).a then 7 else 0
def Crd.E (c : Crd) : Err := if c.v = 3 ∨ c.v = 4 then
  if 60 < c.l.length then .errno 4
  else match fstE (fun i => (c.l.getD i Itm.z).w c.v) c.l.length with
   | .none => match fstE (fA c.v c.l) c.l.length with
    | .none => if fstN (leE c.v c.l) (ax c.v).length = 0 then .none else .errno 7
    | e => e
   | e => e
 else .errno 1
theorem qm : ∀ s : List UInt8, ap 97 122 (-32) (ap 97 122 (-32) s) = ap 97 122 (-32) s
 | [] => rfl
 | c :: s => by
  have ih := qm s
  have hc : UInt8.ofNat (bR 97 122 (-32) (UInt8.ofNat (bR 97 122 (-32) c.toNat).toNat).toNat).toNat = UInt8.ofNat (bR 97 122 (-32) c.toNat).toNat := by
   have h1 := c.toNat_lt
   rw [← UInt8.toNat_inj]
   simp only [UInt8.toNat_ofNat']
   unfold bR
   (repeat' split) <;> omega
  unfold ap at ih ⊢
  simp only [List.map_cons, List.cons.injEq]
  exact ⟨hc, ih⟩
theorem Eg (v : Int) (s : List UInt8) : ba v (ap 97 122 (-32) s) = ba v s := by unfold ba; rw [qm]
theorem vj {s : List UInt8} : ∀ l : List (List UInt8 × Rl), (∀ x ∈ l, 0 ≤ x.2.p) → 0 ≤ (cF s l).p
 | [], _ => by show (0 : Int) ≤ 0; decide
 | x :: t, h => by
  unfold cF
  split
  ·exact h x (List.mem_cons_self ..)
  ·exact vj t fun y hy => h y (List.mem_cons_of_mem _ hy)
theorem F7 (v : Int) (s : List UInt8) : 0 ≤ (ba v s).p := by
 unfold ba
 split
 ·rename_i h
  refine vj _ fun x hx => ?_
  have : ∀ w : Int, (w = 3 ∨ w = 4) → (rowV w).all (fun x => decide (0 ≤ x.2.p)) = true := by
   rintro w (rfl | rfl) <;> decide
  exact of_decide_eq_true (List.all_eq_true.1 (this v h) x hx)
 ·decide
theorem Cp {v : Int} {n : List UInt8} (h : n ∈ ax v) : ap 97 122 (-32) n = n ∧ n.length ≤ 20 := by
 unfold ax at h
 split at h
 ·rename_i hv
  have : ∀ w : Int, (w = 3 ∨ w = 4) → ((rowV w).map (·.1)).all (fun n => decide (ap 97 122 (-32) n = n ∧ n.length ≤ 20)) = true := by
   rintro w (rfl | rfl) <;> decide
  exact of_decide_eq_true (List.all_eq_true.1 (this v hv) n h)
 ·cases h
theorem qI (v : Int) : (ax v).length ≤ 100 := by
 unfold ax
 split
 ·rename_i hv
  have : ∀ w : Int, (w = 3 ∨ w = 4) → ((rowV w).map (·.1)).length ≤ 100 := by
   rintro w (rfl | rfl) <;> decide
  exact this v hv
 ·exact Nat.zero_le _
theorem uF {v : Int} {i : Nat} (h : i < (ax v).length) : ap 97 122 (-32) ((ax v).getD i []) = (ax v).getD i [] ∧ ((ax v).getD i []).length ≤ 20 := by
 rw [List.getD_eq_getElem?_getD, List.getElem?_eq_getElem h]
 exact Cp (List.getElem_mem h)
def Crd.ok (c : Crd) : Prop := c.l.length ≤ 1000000 ∧ ∀ x ∈ c.l, Itm.OK 2500 x
theorem Crd.fine.ok {c : Crd} (h : c.fine) : c.ok := ⟨by have := h.1; omega, h.2⟩
theorem Itm.fit {x : Itm} (h : x.OK 2500) : x.ln.Fit := ⟨h.p.g, h.p.n, Vl.T_len (by have := h.s; omega) h.L, h.p.ps, h.p.q⟩
theorem Itm.OK.v {x : Itm} (h : x.OK 2500) : x.2.OK := ⟨by have := h.s; omega, h.L.n, fun k => (h.L.k k).1, fun k j => by have := (h.L.k k).2; have := cJ (l := x.2.L.getD k []) (k := j); omega⟩
end
section
open Go Go.RowKit
attribute [local irreducible] AWp AOps az OrOk ad ah
attribute [local irreducible] tabE escF escS
theorem G9 (a : AVal) : ∀ R v, Rel R a v → ∀ w, ∃ u, (Go.method (Tryz.prog.types.size + Made.depth) 294 v "Replace").run Tryz.prog w = .ok (297, u) w ∧ Rel R a u := by
 intro R v hv w
 exact ⟨v, by kernel_rfl, hv⟩
theorem ug {G : Glo} (br bl vc : Nat) (s : List UInt8) (hl : s.length ≤ 2000000) (hct : ∀ c, FnIs Tryz.prog G 185 [.str s, .str [c]] (.int .i64 (s.countP (· == c) : Nat))) :
  ah Tryz.prog G 114 [.raw (pv bl 0), .str s] [escO br vc, .cells bl (some 214) (newC (.slice (some ⟨br, 0, none⟩) 8 vc))] (fun r H => r = .ret (.str (escS s)) ∧ H = []) := by
 have hGL : ad G [] := ab
 have e1 := GD (G := G) br bl vc
 refine gk 1 Tryz.func114 Tryz.call114 rfl rfl rfl rfl hGL rfl ?_
 intro C hC
 repeat' (first | (conv => whnf); first | refine .w ?_ | refine Ix.v ?_ | refine Sd.v ?_ | refine Sl.v ?_ | apply au | refine sc_d ?_ ?_ <;> (intro hb; try exact dd hb) | apply ae | (apply sc_i <;> intro hb) | (apply bx_i; intro hbd) | (apply aj; first | fail) | (apply ab_i; intro bl) | exact rt_w | exact True.intro | (apply bc_i; intro C hC) | apply bt_i | apply og_n | (apply og_a; exact rfl))
 all_goals try conv => whnf
 refine ⟨_, e1, ?_, fun v' H' ⟨y, e, _⟩ => by cases e⟩
 rintro v' H' ⟨y, e, rfl⟩
 cases e
 have e3 := vn (G := G) br bl vc (escQ y) y.va y.vk y.vt y.bz y.b1 y.c1 y.b2 y.c2 y.b3 y.c3 y.b4 y.c4 y.h s hl hct
 repeat' (first | (conv => whnf); first | refine .w ?_ | refine Ix.v ?_ | refine Sd.v ?_ | refine Sl.v ?_ | apply au | refine sc_d ?_ ?_ <;> (intro hb; try exact dd hb) | apply ae | (apply sc_i <;> intro hb) | (apply bx_i; intro hbd) | (apply aj; first | fail) | (apply ab_i; intro bl) | exact rt_w | exact True.intro | (apply bc_i; intro C hC) | apply bt_i | apply og_n | (apply og_a; exact rfl))
 all_goals try conv => whnf
 refine iv 297 (.raw (pv y.bz 0)) (G9 _) (sW e3 ?_)
 repeat' (first | (conv => whnf); first | refine .w ?_ | refine Ix.v ?_ | refine Sd.v ?_ | refine Sl.v ?_ | apply au | refine sc_d ?_ ?_ <;> (intro hb; try exact dd hb) | apply ae | (apply sc_i <;> intro hb) | (apply bx_i; intro hbd) | (apply aj; first | fail) | (apply ab_i; intro bl) | exact rt_w | exact True.intro | (apply bc_i; intro C hC) | apply bt_i | apply og_n | (apply og_a; exact rfl))
 all_goals try conv => whnf
theorem mF {G : Glo} (s : List UInt8) (hl : s.length ≤ 2000000) (hct : ∀ c, FnIs Tryz.prog G 185 [.str s, .str [c]] (.int .i64 (s.countP (· == c) : Nat))) : FnIs Tryz.prog G 109 [.str s] (.str (escS s)) := by
 have hGL : ad G [] := ab
 refine fn_x Tryz.func109 Tryz.call109 rfl rfl rfl rfl hGL ?_
 intro C hC
 repeat' (first | (conv => whnf); first | refine .w ?_ | refine .v ?_ | refine sc_c ?_ ?_ <;> (intro hb; try exact dd hb) | apply ae | apply an | (apply sc_i <;> intro hb) | (apply bx_i; intro hbd) | (apply aj; first | fail) | (apply am (i := 0) rfl; first | fail) | (apply ab_i; intro bl) | (apply as_i; intro va vk vc hva) | (apply av_i; intro v) | (apply ac_i; intro bl cap hcap) | apply bo_l | (apply nx_i <;> intro hnx) | exact rt_w | exact True.intro | (apply bc_i; intro C hC) | apply bt_i | apply og_n | (apply og_a; exact rfl))
 all_goals try conv => whnf
 refine ⟨_, sm 8 _ (by decide) (by decide) ?_, ?_, ?_⟩
 ·unfold az
  exact f8 rfl
 ·rintro v H' ⟨bl, va, vk, vc, hva, e, rfl⟩
  cases e
  obtain ⟨br, rfl, rfl⟩ := hva (by omega)
  have e2 := ug (G := G) br bl vc s hl hct
  repeat' (first | (conv => whnf); first | refine .w ?_ | refine Ix.v ?_ | refine Sd.v ?_ | refine Sl.v ?_ | apply au | refine sc_d ?_ ?_ <;> (intro hb; try exact dd hb) | apply ae | (apply sc_i <;> intro hb) | (apply bx_i; intro hbd) | (apply aj; first | fail) | (apply ab_i; intro bl) | exact rt_w | exact True.intro | (apply bc_i; intro C hC) | apply bt_i | apply og_n | (apply og_a; exact rfl))
  all_goals try conv => whnf
  refine sW e2 ?_
  repeat' (first | (conv => whnf); first | refine .w ?_ | refine Ix.v ?_ | refine Sd.v ?_ | refine Sl.v ?_ | apply au | refine sc_d ?_ ?_ <;> (intro hb; try exact dd hb) | apply ae | (apply sc_i <;> intro hb) | (apply bx_i; intro hbd) | (apply aj; first | fail) | (apply ab_i; intro bl) | exact rt_w | exact True.intro | (apply bc_i; intro C hC) | apply bt_i | apply og_n | (apply og_a; exact rfl))
  all_goals try conv => whnf
 ·rintro v H' ⟨bl, va, vk, vc, hva, e, rfl⟩
  cases e
end
section
open Go Go.RowKit
attribute [local irreducible] AWp AOps aa az OrOk ad ah
attribute [local irreducible] escF escS
theorem zM {G : Glo} (l : List (List UInt8)) (hn : l.length ≤ 2000000) (hl : Lib.lens l ≤ 2000000) : FnIs Tryz.prog G 154 [.list 1 l.length (aG l)] (.tuple [.str (joinT l), (kW l).A]) := by
 have hE := fun k => mF (G := G) (l.getD k []) (by have := cJ (l := l) (k := k); omega) (jv _)
 have hj := jf l
 have hGL : ad G [] := ab
 refine fn_x Tryz.func154 Tryz.call154 rfl rfl rfl rfl hGL ?_
 intro C hC
 cases l with
 | nil =>
  repeat' (first | (conv => whnf); first | refine .w ?_ | refine .v ?_ | refine sc_c ?_ ?_ <;> (intro hb; try exact dd hb) | apply ae | apply an | (apply sc_i <;> intro hb) | (apply bx_i; intro hbd) | (apply aj; first | fail) | (apply am (i := 0) rfl; first | fail) | (apply ab_i; intro bl) | (apply as_i; intro va vk vc hva) | (apply av_i; intro v) | (apply ac_i; intro bl cap hcap) | apply bo_l | (apply nx_i <;> intro hnx) | exact rt_w | apply dw_q mixed hC hGL (by kernel_rfl) | (apply cq; assumption; (first | fail); exact rfl))
  all_goals try conv => whnf
 | cons x r =>
  repeat' (first | (conv => whnf); first | refine .w ?_ | refine .v ?_ | refine sc_c ?_ ?_ <;> (intro hb; try exact dd hb) | apply ae | apply an | (apply sc_i <;> intro hb) | (apply bx_i; intro hbd) | (apply aj; first | fail) | (apply am (i := 0) rfl; first | fail) | (apply ab_i; intro bl) | (apply as_i; intro va vk vc hva) | (apply av_i; intro v) | (apply ac_i; intro bl cap hcap) | apply bo_l | (apply nx_i <;> intro hnx) | exact rt_w | apply dw_q mixed hC hGL (by kernel_rfl) | (apply cq; assumption; (first | fail); exact rfl))
  all_goals try conv => whnf
  refine oN 4 1 rfl ?_
  refine lp hC hGL (fun (y : List (List UInt8) × Value) => [(4, .own 0 y.2), (11, .list 1 (x :: r).length (aG (x :: r))), (12, .int .i64 ((x :: r).length : Nat)), (13, .int .i64 (y.1.length : Nat))]) (fun y => [.row y.2 none 1 y.1.length (aO y.1)]) (fun y => y.1.length ≤ (x :: r).length ∧ y.1 = ((x :: r).map escS).take y.1.length) (fun y => (x :: r).length - y.1.length) ([], .slice none 0 0) ?_ ak rfl ?_
  ·exact ⟨Nat.zero_le _, rfl⟩
  ·rintro ⟨ps, v⟩ ⟨h1, h2⟩
   have h1 : ps.length ≤ (x :: r).length := h1
   have h2 : ps = ((x :: r).map escS).take ps.length := h2
   repeat' (first | (conv => whnf); first | refine .w ?_ | refine .v ?_ | refine sc_c ?_ ?_ <;> (intro hb; try exact dd hb) | apply ae | apply an | (apply sc_i <;> intro hb) | (apply bx_i; intro hbd) | (apply aj; first | exact hE _) | (apply am (i := 0) rfl; first | exact hE _) | (apply ab_i; intro bl) | (apply as_i; intro va vk vc hva) | (apply av_i; intro v) | (apply ac_i; intro bl cap hcap) | apply bo_l | (apply nx_i <;> intro hnx) | exact rt_w | apply dw_q mixed hC hGL (by kernel_rfl) | (apply cq; assumption; (first | exact hE _); exact rfl))
   all_goals try conv => whnf
   ·have hb : ((ps.length : Nat) : Int) < (((x :: r).length : Nat) : Int) := hb
    have hlt : ps.length < (x :: r).length := by omega
    refine nxt (ps ++ [escS ((x :: r).getD ps.length [])], .slice va vk vc) ?_ ?_ ⟨rfl, rfl, rfl, ?_, trivial⟩ ?_
    ·refine ⟨?_, ?_⟩
     ·show (ps ++ [escS ((x :: r).getD ps.length [])]).length ≤ (x :: r).length
      rw [List.length_append, List.length_singleton]; omega
     ·show ps ++ [escS ((x :: r).getD ps.length [])] = ((x :: r).map escS).take (ps ++ [escS ((x :: r).getD ps.length [])]).length
      rw [List.length_append, List.length_singleton, pP hlt, ← h2]
    ·show (x :: r).length - (ps ++ [escS ((x :: r).getD ps.length [])]).length < (x :: r).length - ps.length
     rw [List.length_append, List.length_singleton]; omega
    ·show some (AVal.int .i64 (((ps.length : Nat) : Int) + 1)) = some (AVal.int .i64 ((ps ++ [escS ((x :: r).getD ps.length [])]).length : Nat))
     rw [List.length_append]; rfl
    ·dsimp only
     rw [← bS, List.length_append]
     rfl
   ·have hb : (((x :: r).length : Nat) : Int) ≤ ((ps.length : Nat) : Int) := hb
    have h3 : ps = (x :: r).map escS := by rw [h2, List.take_of_length_le (by rw [List.length_map]; omega)]
    subst h3
    refine am (i := 0) rfl (bP ((x :: r).map escS) [44] v (by omega) (by have : (Lib.join ((x :: r).map escS) [44]).length ≤ _ := hj; omega)) ?_
    repeat' (first | (conv => whnf); first | refine .w ?_ | refine .v ?_ | refine sc_c ?_ ?_ <;> (intro hb; try exact dd hb) | apply ae | apply an | (apply sc_i <;> intro hb) | (apply bx_i; intro hbd) | (apply aj; first | fail) | (apply am (i := 0) rfl; first | fail) | (apply ab_i; intro bl) | (apply as_i; intro va vk vc hva) | (apply av_i; intro v) | (apply ac_i; intro bl cap hcap) | apply bo_l | (apply nx_i <;> intro hnx) | exact rt_w | apply dw_q mixed hC hGL (by kernel_rfl) | (apply cq; assumption; (first | fail); exact rfl))
    all_goals try conv => whnf
theorem B5 {G : Glo} (l : List (List UInt8)) (hn : l.length ≤ 2000000) (hl : Lib.lens l ≤ 2000000) : FnIs Tryz.prog G 145 [.list 1 l.length (aG l)] (.tuple [.str (joinT l), .int .i64 (kW l).e]) := by
 have hE := fun k => ou (G := G) (l.getD k []) (by have := cJ (l := l) (k := k); omega)
 have hj := jf l
 have hGL : ad G [] := ab
 refine fn_x Tryz.func145 Tryz.call145 rfl rfl rfl rfl hGL ?_
 intro C hC
 cases l with
 | nil =>
  repeat' (first | (conv => whnf); first | refine .w ?_ | refine .v ?_ | refine sc_c ?_ ?_ <;> (intro hb; try exact dd hb) | apply ae | apply an | (apply sc_i <;> intro hb) | (apply bx_i; intro hbd) | (apply aj; first | fail) | (apply am (i := 0) rfl; first | fail) | (apply ab_i; intro bl) | (apply as_i; intro va vk vc hva) | (apply av_i; intro v) | (apply ac_i; intro bl cap hcap) | apply bo_l | (apply nx_i <;> intro hnx) | exact rt_w | apply dw_q mixed hC hGL (by kernel_rfl) | (apply cq; assumption; (first | fail); exact rfl))
  all_goals try conv => whnf
 | cons x r =>
  have hq : ∀ k, (escS x ++ Lib.joinTail [44] ((r.map escS).take k)).length ≤ (joinT (x :: r)).length := fun k => by
   unfold joinT
   rw [List.map_cons, Lib.join_cons, List.length_append, List.length_append]
   have := Lib.joinTail_take_le [44] (r.map escS) k
   omega
  have hx : ∀ k, (escS ((x :: r).getD k [])).length ≤ 4000000 := fun k => by
   have h1 := (fh ((x :: r).getD k [])).2
   have h2 := cJ (l := x :: r) (k := k)
   omega
  repeat' (first | (conv => whnf); first | refine .w ?_ | refine .v ?_ | refine sc_c ?_ ?_ <;> (intro hb; try exact dd hb) | apply ae | apply an | (apply sc_i <;> intro hb) | (apply bx_i; intro hbd) | (apply aj; first | exact hE _) | (apply am (i := 0) rfl; first | exact hE _) | (apply ab_i; intro bl) | (apply as_i; intro va vk vc hva) | (apply av_i; intro v) | (apply ac_i; intro bl cap hcap) | apply bo_l | (apply nx_i <;> intro hnx) | exact rt_w | apply dw_q mixed hC hGL (by kernel_rfl) | (apply cq; assumption; (first | exact hE _); exact rfl))
  all_goals try conv => whnf
  refine lp hC hGL (fun k : Nat => [(4, .str (escS x ++ Lib.joinTail [44] ((r.map escS).take k))), (15, .list 1 ((x :: r).length - 1) (fun k => aG (x :: r) (1 + k))), (16, .int .i64 (((x :: r).length - 1 : Nat) : Int)), (17, .int .i64 (k : Nat))]) (fun _ => []) (fun k => k ≤ r.length) (fun k => r.length - k) 0 (Nat.zero_le _) ⟨?_, rfl, rfl, rfl, trivial⟩ rfl ?_
  ·show some (AVal.str (escS x)) = some (AVal.str (escS x ++ Lib.joinTail [44] []))
   simp [Lib.joinTail]
  ·intro k hk
   have hq1 := hq k
   have hx1 := hx (1 + k)
   have hgl : (x :: r).getD (1 + k) [] = r.getD k [] := by rw [Nat.add_comm]; rfl
   repeat' (first | (conv => whnf); first | refine .w ?_ | refine .v ?_ | refine sc_c ?_ ?_ <;> (intro hb; try exact dd hb) | apply ae | apply an | (apply sc_i <;> intro hb) | (apply bx_i; intro hbd) | (apply aj; first | exact hE _) | (apply am (i := 0) rfl; first | exact hE _) | (apply ab_i; intro bl) | (apply as_i; intro va vk vc hva) | (apply av_i; intro v) | (apply ac_i; intro bl cap hcap) | apply bo_l | (apply nx_i <;> intro hnx) | exact rt_w | apply dw_q mixed hC hGL (by kernel_rfl) | (apply cq; assumption; (first | exact hE _); exact rfl))
   all_goals try conv => whnf
   ·have hb2 : ((k : Nat) : Int) < ((r.length : Nat) : Int) := hb
    have hlt : k < r.length := by omega
    refine nxt (k + 1) ?_ ?_ ⟨?_, rfl, rfl, rfl, trivial⟩ rfl
    ·exact hlt
    ·show r.length - (k + 1) < r.length - k; omega
    ·show some (AVal.str (escS x ++ Lib.joinTail [44] ((r.map escS).take k) ++ ([44] ++ escS ((x :: r).getD (1 + k) [])))) = some (AVal.str (escS x ++ Lib.joinTail [44] ((r.map escS).take (k + 1))))
     rw [Lib.joinTail_take_succ [44] (r.map escS) k (escS (r.getD k [])) (by rw [List.getElem?_map, List.getD_eq_getElem?_getD, List.getElem?_eq_getElem hlt]; rfl), hgl]
     simp only [List.append_assoc]
   ·have hb2 : ((r.length : Nat) : Int) ≤ ((k : Nat) : Int) := hb
    apply al
    unfold joinT
    rw [List.take_of_length_le (by rw [List.length_map]; omega), List.map_cons, Lib.join_cons]
    rfl
end
section
open Go Go.RowKit
attribute [local irreducible] AWp AOps aa az OrOk ad ah
attribute [local irreducible] escF escS joinT kW
theorem qT : kW [] = .errno 8 := by unfold kW; rw [if_pos rfl]
theorem oX {l : List (List UInt8)} (h : l ≠ []) : kW l = .none := by unfold kW; rw [if_neg h]
theorem nT {G : Glo} (L : List (List (List UInt8))) (hs : Small L) : FnIs Tryz.prog G 110 [.list 1 L.length (cC L)] (.tuple [.str (cT L), (dp L).A]) := by
 have hJ := fun k => zM (G := G) (L.getD k []) (hs.k k).1 (hs.k k).2
 have hn := hs.n
 by_cases h0 : L = []
 ·subst h0
  have hGL : ad G [] := ab
  refine fn_x Tryz.func110 Tryz.call110 rfl rfl rfl rfl hGL ?_
  intro C hC
  repeat' (first | (conv => whnf); first | refine .w ?_ | refine .v ?_ | refine sc_c ?_ ?_ <;> (intro hb; try exact dd hb) | apply ae | apply an | (apply sc_i <;> intro hb) | (apply bx_i; intro hbd) | (apply aj; first | fail) | (apply am (i := 0) rfl; first | fail) | (apply ab_i; intro bl) | (apply as_i; intro va vk vc hva) | (apply av_i; intro v) | (apply ac_i; intro bl cap hcap) | apply bo_l | (apply nx_i <;> intro hnx) | exact rt_w | apply dw_q mixed hC hGL (by kernel_rfl) | (apply cq; assumption; (first | fail); exact rfl))
  all_goals try conv => whnf
 ·have h00 : L.length ≠ 0 := fun h => h0 (List.eq_nil_of_length_eq_zero h)
  have hGL : ad G [] := ab
  refine fn_x Tryz.func110 Tryz.call110 rfl rfl rfl rfl hGL ?_
  intro C hC
  repeat' (first | (conv => whnf); first | refine .w ?_ | refine .v ?_ | refine sc_c ?_ ?_ <;> (intro hb; try exact dd hb) | apply ae | apply an | (apply sc_i <;> intro hb) | (apply bx_i; intro hbd) | (apply aj; first | fail) | (apply am (i := 0) rfl; first | fail) | (apply ab_i; intro bl) | (apply as_i; intro va vk vc hva) | (apply av_i; intro v) | (apply ac_i; intro bl cap hcap) | apply bo_l | (apply nx_i <;> intro hnx) | exact rt_w | apply dw_q mixed hC hGL (by kernel_rfl) | (apply cq; assumption; (first | fail); exact rfl))
  all_goals try conv => whnf
  refine oN 4 1 rfl ?_
  refine lp hC hGL (fun (y : List (List UInt8) × Value) => [(4, .own 0 y.2), (13, .list 1 L.length (cC L)), (14, .int .i64 (L.length : Nat)), (15, .int .i64 (y.1.length : Nat))]) (fun y => [.row y.2 none 1 y.1.length (aO y.1)]) (fun y => y.1.length ≤ bV L ∧ y.1 = (L.map joinT).take y.1.length) (fun y => L.length - y.1.length) ([], .slice none 0 0) ?_ ak rfl ?_
  ·exact ⟨Nat.zero_le _, rfl⟩
  ·rintro ⟨ps, v⟩ ⟨h1, h2⟩
   have h1 : ps.length ≤ bV L := h1
   have h2 : ps = (L.map joinT).take ps.length := h2
   have h3 := kR L
   by_cases hlt : ps.length < L.length
   ·have hJ1 := hJ ps.length
    by_cases hnil : L.getD ps.length [] = []
    ·have hk := mb hlt h1 hnil
     rw [show kW (L.getD ps.length []) = .errno 8 by rw [hnil]; exact qT] at hJ1
     repeat' (first | (conv => whnf); first | refine .w ?_ | refine .v ?_ | refine sc_c ?_ ?_ <;> (intro hb; try exact dd hb) | apply ae | apply an | (apply sc_i <;> intro hb) | (apply bx_i; intro hbd) | (apply aj; first | exact hJ1) | (apply am (i := 0) rfl; first | exact hJ1) | (apply ab_i; intro bl) | (apply as_i; intro va vk vc hva) | (apply av_i; intro v) | (apply ac_i; intro bl cap hcap) | apply bo_l | (apply nx_i <;> intro hnx) | exact rt_w | apply dw_q mixed hC hGL (by kernel_rfl) | (apply cq; assumption; (first | exact hJ1); exact rfl))
     all_goals try conv => whnf
     apply al
     unfold cT dp
     rw [if_pos (by omega), if_neg h0, if_pos (by omega), hk]
     rfl
    ·rw [oX hnil] at hJ1
     repeat' (first | (conv => whnf); first | refine .w ?_ | refine .v ?_ | refine sc_c ?_ ?_ <;> (intro hb; try exact dd hb) | apply ae | apply an | (apply sc_i <;> intro hb) | (apply bx_i; intro hbd) | (apply aj; first | exact hJ1) | (apply am (i := 0) rfl; first | exact hJ1) | (apply ab_i; intro bl) | (apply as_i; intro va vk vc hva) | (apply av_i; intro v) | (apply ac_i; intro bl cap hcap) | apply bo_l | (apply nx_i <;> intro hnx) | exact rt_w | apply dw_q mixed hC hGL (by kernel_rfl) | (apply cq; assumption; (first | exact hJ1); exact rfl))
     all_goals try conv => whnf
     have hm := j4 hlt h1 hnil
     refine nxt (ps ++ [joinT (L.getD ps.length [])], .slice va vk vc) ?_ ?_ ⟨rfl, rfl, rfl, ?_, trivial⟩ ?_
     ·refine ⟨?_, ?_⟩
      ·show (ps ++ [joinT (L.getD ps.length [])]).length ≤ bV L
       rw [List.length_append, List.length_singleton]; exact hm
      ·show ps ++ [joinT (L.getD ps.length [])] = (L.map joinT).take (ps ++ [joinT (L.getD ps.length [])]).length
       rw [List.length_append, List.length_singleton, im hlt, ← h2]
     ·show L.length - (ps ++ [joinT (L.getD ps.length [])]).length < L.length - ps.length
      rw [List.length_append, List.length_singleton]; omega
     ·show some (AVal.int .i64 (((ps.length : Nat) : Int) + 1)) = some (AVal.int .i64 ((ps ++ [joinT (L.getD ps.length [])]).length : Nat))
      rw [List.length_append]; rfl
     ·dsimp only
      rw [← bS, List.length_append]
      rfl
   ·repeat' (first | (conv => whnf); first | refine .w ?_ | refine .v ?_ | refine sc_c ?_ ?_ <;> (intro hb; try exact dd hb) | apply ae | apply an | (apply sc_i <;> intro hb) | (apply bx_i; intro hbd) | (apply aj; first | fail) | (apply am (i := 0) rfl; first | fail) | (apply ab_i; intro bl) | (apply as_i; intro va vk vc hva) | (apply av_i; intro v) | (apply ac_i; intro bl cap hcap) | apply bo_l | (apply nx_i <;> intro hnx) | exact rt_w | apply dw_q mixed hC hGL (by kernel_rfl) | (apply cq; assumption; (first | fail); exact rfl))
    all_goals try conv => whnf
    have h5 : bV L = L.length := by omega
    have h4 : ps = L.map joinT := by rw [h2, List.take_of_length_le (by rw [List.length_map]; omega)]
    subst h4
    refine am (i := 0) rfl (bP (L.map joinT) [59] v (by omega) (nY hs)) ?_
    repeat' (first | (conv => whnf); first | refine .w ?_ | refine .v ?_ | refine sc_c ?_ ?_ <;> (intro hb; try exact dd hb) | apply ae | apply an | (apply sc_i <;> intro hb) | (apply bx_i; intro hbd) | (apply aj; first | fail) | (apply am (i := 0) rfl; first | fail) | (apply ab_i; intro bl) | (apply as_i; intro va vk vc hva) | (apply av_i; intro v) | (apply ac_i; intro bl cap hcap) | apply bo_l | (apply nx_i <;> intro hnx) | exact rt_w | apply dw_q mixed hC hGL (by kernel_rfl) | (apply cq; assumption; (first | fail); exact rfl))
    all_goals try conv => whnf
    apply al
    unfold cT dp
    rw [if_neg (by omega), if_neg h0, if_neg (by omega)]
    rfl
theorem p5 {G : Glo} (L : List (List (List UInt8))) (hs : Small L) : FnIs Tryz.prog G 91 [.list 1 L.length (cC L)] (.tuple [.str (cT L), .agg [.int .i64 (dp L).e, .int .i64 (dp L).p]]) := by
 have hJ := fun k => B5 (G := G) (L.getD k []) (hs.k k).1 (hs.k k).2
 have hn := hs.n
 have hb8 := dk (G := G) 8
 have hg := dj (G := G)
 by_cases h0 : L = []
 ·subst h0
  have hGL : ad G [] := ab
  refine fn_x Tryz.func91 Tryz.call91 rfl rfl rfl rfl hGL ?_
  intro C hC
  repeat' (first | (conv => whnf); first | refine .w ?_ | refine .v ?_ | refine sc_c ?_ ?_ <;> (intro hb; try exact dd hb) | apply ae | apply an | (apply sc_i <;> intro hb) | (apply bx_i; intro hbd) | (apply aj; first | exact hb8) | (apply am (i := 0) rfl; first | exact hb8) | (apply ab_i; intro bl) | (apply as_i; intro va vk vc hva) | (apply av_i; intro v) | (apply ac_i; intro bl cap hcap) | apply bo_l | (apply nx_i <;> intro hnx) | exact rt_w | apply dw_q mixed hC hGL (by kernel_rfl) | (apply cq; assumption; (first | exact hb8); exact rfl))
  all_goals try conv => whnf
 ·have h00 : L.length ≠ 0 := fun h => h0 (List.eq_nil_of_length_eq_zero h)
  have hGL : ad G [] := ab
  refine fn_x Tryz.func91 Tryz.call91 rfl rfl rfl rfl hGL ?_
  intro C hC
  repeat' (first | (conv => whnf); first | refine .w ?_ | refine .v ?_ | refine sc_c ?_ ?_ <;> (intro hb; try exact dd hb) | apply ae | apply an | (apply sc_i <;> intro hb) | (apply bx_i; intro hbd) | (apply aj; first | fail) | (apply am (i := 0) rfl; first | fail) | (apply ab_i; intro bl) | (apply as_i; intro va vk vc hva) | (apply av_i; intro v) | (apply ac_i; intro bl cap hcap) | apply bo_l | (apply nx_i <;> intro hnx) | exact rt_w | apply dw_q mixed hC hGL (by kernel_rfl) | (apply cq; assumption; (first | fail); exact rfl))
  all_goals try conv => whnf
  refine oN 4 1 rfl ?_
  refine lp hC hGL (fun (y : List (List UInt8) × Value) => [(0, .list 1 L.length (cC L)), (3, .own 0 (pv bl 0)), (4, .own 1 y.2), (13, .int .i64 (L.length : Nat)), (14, .int .i64 (y.1.length : Nat))]) (fun y => [.cells bl (some 45) [.int .i64 0, .int .i64 0], .row y.2 none 1 y.1.length (aO y.1)]) (fun y => y.1.length ≤ bV L ∧ y.1 = (L.map joinT).take y.1.length) (fun y => L.length - y.1.length) ([], .slice none 0 0) ?_ ak rfl ?_
  ·exact ⟨Nat.zero_le _, rfl⟩
  ·rintro ⟨ps, v⟩ ⟨h1, h2⟩
   have h1 : ps.length ≤ bV L := h1
   have h2 : ps = (L.map joinT).take ps.length := h2
   have h3 := kR L
   by_cases hlt : ps.length < L.length
   ·have hJ1 := hJ ps.length
    by_cases hnil : L.getD ps.length [] = []
    ·have hk := mb hlt h1 hnil
     rw [show kW (L.getD ps.length []) = .errno 8 by rw [hnil]; exact qT] at hJ1
     have hJ1 : FnIs Tryz.prog G 145 [.list 1 (L.getD ps.length []).length (aG (L.getD ps.length []))] (.tuple [.str (joinT (L.getD ps.length [])), .int .i64 8]) := hJ1
     repeat' (first | (conv => whnf); first | refine .w ?_ | refine .v ?_ | refine sc_c ?_ ?_ <;> (intro hb; try exact dd hb) | apply ae | apply an | (apply sc_i <;> intro hb) | (apply bx_i; intro hbd) | (apply aj; first | exact hJ1) | (apply am (i := 0) rfl; first | exact hJ1) | (apply ab_i; intro bl) | (apply as_i; intro va vk vc hva) | (apply av_i; intro v) | (apply ac_i; intro bl cap hcap) | apply bo_l | (apply nx_i <;> intro hnx) | exact rt_w | apply dw_q mixed hC hGL (by kernel_rfl) | (apply cq; assumption; (first | exact hJ1); exact rfl))
     all_goals try conv => whnf
     apply al
     unfold cT dp
     rw [if_pos (by omega), if_neg h0, if_pos (by omega), hk]
     rfl
    ·rw [oX hnil] at hJ1
     have hJ1 : FnIs Tryz.prog G 145 [.list 1 (L.getD ps.length []).length (aG (L.getD ps.length []))] (.tuple [.str (joinT (L.getD ps.length [])), .int .i64 0]) := hJ1
     repeat' (first | (conv => whnf); first | refine .w ?_ | refine .v ?_ | refine sc_c ?_ ?_ <;> (intro hb; try exact dd hb) | apply ae | apply an | (apply sc_i <;> intro hb) | (apply bx_i; intro hbd) | (apply aj; first | exact hJ1) | (apply am (i := 0) rfl; first | exact hJ1) | (apply ab_i; intro bl) | (apply as_i; intro va vk vc hva) | (apply av_i; intro v) | (apply ac_i; intro bl cap hcap) | apply bo_l | (apply nx_i <;> intro hnx) | exact rt_w | apply dw_q mixed hC hGL (by kernel_rfl) | (apply cq; assumption; (first | exact hJ1); exact rfl))
     all_goals try conv => whnf
     have hm := j4 hlt h1 hnil
     refine nxt (ps ++ [joinT (L.getD ps.length [])], .slice va vk vc) ?_ ?_ ⟨rfl, rfl, rfl, rfl, ?_, trivial⟩ ?_
     ·refine ⟨?_, ?_⟩
      ·show (ps ++ [joinT (L.getD ps.length [])]).length ≤ bV L
       rw [List.length_append, List.length_singleton]; exact hm
      ·show ps ++ [joinT (L.getD ps.length [])] = (L.map joinT).take (ps ++ [joinT (L.getD ps.length [])]).length
       rw [List.length_append, List.length_singleton, im hlt, ← h2]
     ·show L.length - (ps ++ [joinT (L.getD ps.length [])]).length < L.length - ps.length
      rw [List.length_append, List.length_singleton]; omega
     ·show some (AVal.int .i64 (((ps.length : Nat) : Int) + 1)) = some (AVal.int .i64 ((ps ++ [joinT (L.getD ps.length [])]).length : Nat))
      rw [List.length_append]; rfl
     ·dsimp only
      rw [← bS, List.length_append]
      rfl
   ·repeat' (first | (conv => whnf); first | refine .w ?_ | refine .v ?_ | refine sc_c ?_ ?_ <;> (intro hb; try exact dd hb) | apply ae | apply an | (apply sc_i <;> intro hb) | (apply bx_i; intro hbd) | (apply aj; first | fail) | (apply am (i := 0) rfl; first | fail) | (apply ab_i; intro bl) | (apply as_i; intro va vk vc hva) | (apply av_i; intro v) | (apply ac_i; intro bl cap hcap) | apply bo_l | (apply nx_i <;> intro hnx) | exact rt_w | apply dw_q mixed hC hGL (by kernel_rfl) | (apply cq; assumption; (first | fail); exact rfl))
    all_goals try conv => whnf
    have h5 : bV L = L.length := by omega
    have h4 : ps = L.map joinT := by rw [h2, List.take_of_length_le (by rw [List.length_map]; omega)]
    subst h4
    refine am (i := 1) rfl (bP (L.map joinT) [59] v (by omega) (nY hs)) ?_
    repeat' (first | (conv => whnf); first | refine .w ?_ | refine .v ?_ | refine sc_c ?_ ?_ <;> (intro hb; try exact dd hb) | apply ae | apply an | (apply sc_i <;> intro hb) | (apply bx_i; intro hbd) | (apply aj; first | exact hg) | (apply am (i := 0) rfl; first | exact hg) | (apply ab_i; intro bl) | (apply as_i; intro va vk vc hva) | (apply av_i; intro v) | (apply ac_i; intro bl cap hcap) | apply bo_l | (apply nx_i <;> intro hnx) | exact rt_w | apply dw_q mixed hC hGL (by kernel_rfl) | (apply cq; assumption; (first | exact hg); exact rfl))
    all_goals try conv => whnf
    apply al
    unfold cT dp
    rw [if_neg (by omega), if_neg h0, if_neg (by omega)]
    rfl
end
section
open Go Go.RowKit
theorem Gw (n : List UInt8) : (seqB (ap 65 90 32 n) (ap 65 90 32 [98, 101, 103, 105, 110]) || (seqB (ap 65 90 32 n) (ap 65 90 32 [101, 110, 100]) || seqB (ap 65 90 32 n) (ap 65 90 32 [118, 101, 114, 115, 105, 111, 110]))) = frB n := by
 rw [fb, fb, fb]
 rfl
theorem FK (n : List UInt8) : seqB (ap 65 90 32 n) (ap 65 90 32 [116, 121, 112, 101]) = seqB (ap 97 122 (-32) n) nTYP := by
 rw [fb]
 rfl
attribute [local irreducible] AWp AOps aa az OrOk ad ah
attribute [local irreducible] ap bO Pr.fit Ln.E Ln.T Vl.E Vl.T eQ ba cntI
theorem F9 {G : Glo} {m : Int} (hU : ad G utfTy) (hM : ad G (bI m)) (hH : ad G shapesTy) (hP : co G) (x : Vl) (hs : x.s.length ≤ 2500) (hL : Small x.L) (hv : x.OK) : FnIs Tryz.prog G 48 [x.A] (.tuple [.str x.T, .int .i64 x.E.e]) :=
 oq x (ix hU hM x hv (by omega) (fN hH x.st)) (ou x.s (by omega)) (p5 x.L hL) (pX hH hP x.st) x.E_zero
theorem jX {G : Glo} {m : Int} (hU : ad G utfTy) (hM : ad G (bI m)) (hH : ad G shapesTy) (hP : co G) (v : Int) (x : Itm) (hx : x.OK 2500) : FnIs Tryz.prog G 20 [itR x, .int .i64 v] (.str (x.L v)) := by
 have h1 := F9 hU hM hH hP x.2 hx.s hx.L hx.v
 have h2 := pZ hU x.ln (eqB v 4) (Itm.fit hx)
 unfold Itm.L
 unfold Vl.A at h1
 unfold Ln.A at h2
 unfold itR
 obtain ⟨⟨g, n, ps, vv⟩, u⟩ := x
 unfold Itm.ln at h2 ⊢
 dsimp only at *
 generalize Ln.E (eqB v 4) ⟨g, n, ps, u.T⟩ = eL at *
 generalize Ln.T (eqB v 4) ⟨g, n, ps, u.T⟩ = tL at *
 generalize u.E = eV at *
 generalize u.T = tV at *
 have hGL : ad G [] := ab
 refine fn_x Tryz.func20 Tryz.call20 rfl rfl rfl rfl hGL ?_
 intro C hC
 exact xw0
theorem qA {G : Glo} {m : Int} (hU : ad G utfTy) (hM : ad G (bI m)) (hH : ad G shapesTy) (hP : co G) (v : Int) (hv : v = 3 ∨ v = 4) (x : Itm) (hx : x.OK 2500) : FnIs Tryz.prog G 19 [itR x, .int .i64 v] (.int .i64 (x.w v)) := by
 have h1 := jF hU x.p (eqB v 4) hx.p.fit
 have h4 := fun e p => pi (G := G) e p
 have hn : x.1.n.length ≤ 2500 := hx.p.n
 have hps : x.1.ps.length ≤ 2500 := hx.p.ps
 have hq : ∀ k, (x.1.ps.getD k Pr.z).n.length ≤ 2500 ∧ (x.1.ps.getD k Pr.z).vs.length ≤ 2500 ∧ Lib.lens (x.1.ps.getD k Pr.z).vs ≤ 2500 := hx.p.q
 have hvl : ∀ k j, ((x.1.ps.getD k Pr.z).vs.getD j []).length ≤ 2500 := fun k j => by
  have := cJ (l := (x.1.ps.getD k Pr.z).vs) (k := j); have := (hq k).2.2; omega
 have b1 := d8 (G := G) x.1.n [98, 101, 103, 105, 110] (by omega) (by decide)
 have b2 := d8 (G := G) x.1.n [101, 110, 100] (by omega) (by decide)
 have b3 := d8 (G := G) x.1.n [118, 101, 114, 115, 105, 111, 110] (by omega) (by decide)
 have hfr := Gw x.1.n
 generalize seqB (ap 65 90 32 x.1.n) (ap 65 90 32 [98, 101, 103, 105, 110]) = f1 at *
 generalize seqB (ap 65 90 32 x.1.n) (ap 65 90 32 [101, 110, 100]) = f2 at *
 generalize seqB (ap 65 90 32 x.1.n) (ap 65 90 32 [118, 101, 114, 115, 105, 111, 110]) = f3 at *
 have hve : verE v = .none := by unfold verE; rw [if_pos hv]
 have hT := B4 (G := G) v x.1.n x.1.ps (by omega) (by omega) (fun k => by have := (hq k).1; omega) (fun k => ⟨by have := (hq k).2.1; omega, by have := hvl k 0; omega⟩)
 have hV := ix hU hM x.2 hx.v (by have := hx.s; omega) (fN hH x.2.st)
 have hR := kM (G := G) v x.1.n (by omega)
 have hrp := F7 v x.1.n
 have hlo := jX hU hM hH hP v x hx
 have hw : ∀ (_ : x.p.E (eqB v 4) = .none) (_ : frB x.1.n = false), (parE x.1.ps ≠ 0 → x.w v = parE x.1.ps) ∧ (parE x.1.ps = 0 → (x.k v ≠ x.2.t → x.w v = 1) ∧ (x.k v = x.2.t → (x.2.E ≠ .none → x.w v = x.2.E.e) ∧ (x.2.E = .none → x.w v = x.r v))) := fun a b => ⟨Fj a b, fun c => ⟨Fk a b c, fun d => ⟨Fi a b c d, w_r a b c d⟩⟩⟩
 have hwl := fun a => w_ln (v := v) (x := x) a
 have hwf := fun a b => w_fr (v := v) (x := x) a b
 have hz := Vl.E_zero x.2
 have hok : ∀ k, x.p.E (eqB v 4) = .none → k < x.1.ps.length → isS (x.1.ps.getD k Pr.z).n = true := fun k h hk => by
  have h1 : firE (eqB v 4) x.p.ps 0 = .none := by
   unfold Ln.E at h
   split at h
   ·cases h
   ·split at h
    ·cases h
    ·cases hf : firE (eqB v 4) x.p.ps 0 with
     | none => rfl
     | errno e => rw [hf] at h; cases h
     | «at» e q => rw [hf] at h; cases h
  have h2 := pg h1 (x.1.ps.getD k Pr.z) (by rw [List.getD_eq_getElem?_getD, List.getElem?_eq_getElem hk]; exact List.getElem_mem hk)
  cases hn : isS (x.1.ps.getD k Pr.z).n with
  | true => rfl
  | false => rw [uu hn] at h2; cases h2
 rw [hve] at hT hR
 generalize x.w v = W at *
 unfold Itm.r at hw
 generalize x.L v = tL at *
 unfold Itm.k at hw
 obtain ⟨⟨g, n, ps, vv⟩, u⟩ := x
 unfold itR at hlo ⊢
 unfold Vl.A at hV
 unfold Itm.p at h1 hw hwl hwf hok
 dsimp only at *
 generalize eQ v n ps = K at *
 generalize ba v n = r at *
 unfold Rl.A at hR
 obtain ⟨r0, r1, r2, r3⟩ := r
 dsimp only at *
 generalize u.E = eV at *
 generalize hE0 : Ln.E (eqB v 4) ⟨g, n, ps, []⟩ = e0 at *
 have hfin : e0 ≠ .none → e0.e ≠ 0 := fun h h2 => by
  have := w_ok (v := v) (x := (⟨g, n, ps, vv⟩, u))
  unfold Itm.p at this
  dsimp only at this
  rw [hE0] at this
  refine h (this ?_)
  rw [w_ln (by unfold Itm.p; dsimp only; rw [hE0]; exact h)]
  unfold Itm.p
  dsimp only
  rw [hE0]
  exact h2
 by_cases he : e0 = .none
 ·subst he
  simp only [Err.e, Err.p] at h1
  have h4 := h4 0 (-1)
  cases hf : frB n with
  | true =>
   rw [hwf rfl hf]
   rw [hf] at hfr
   have hGL : ad G [] := ab
   refine fn_x Tryz.func19 Tryz.call19 rfl rfl rfl rfl hGL ?_
   intro C hC
   refine xw ?_
   repeat' (first | exact Le.n | refine Lc.mk ?_ ?_)
   all_goals intros
   all_goals (first | exact al rfl | (exfalso; revert hfr; simp [*]; done))
  | false =>
   rw [hf] at hfr
   have hw := hw rfl hf
   simp only [Bool.or_eq_false_iff] at hfr
   obtain ⟨rfl, rfl, rfl⟩ := hfr
   have hGL : ad G [] := ab
   refine fn_x Tryz.func19 Tryz.call19 rfl rfl rfl rfl hGL ?_
   intro C hC
   refine xw1 ?_
   intro b5
   intros
   refine lp hC hGL (fun k : Nat => [(1, .int .i64 v), (2, .rop (y7 (⟨g, n, ps, vv⟩, u)) 0), (44, .list 2 ps.length (prF ps)), (45, .int .i64 (ps.length : Nat)), (46, .int .i64 (k : Nat))]) (fun _ => [.cells b5 (some 45) [.int .i64 0, .int .i64 (-1)]]) (fun k => k ≤ ps.length ∧ ∀ j, j < k → pE ps j = 0) (fun k => ps.length - k) 0 ⟨Nat.zero_le _, fun j h => absurd h (Nat.not_lt_zero _)⟩ ak rfl ?_
   rintro k ⟨k1, k2⟩
   by_cases hk : k < ps.length
   ·have hqk := hq k
    have hfi := B7 hP hM (ps.getD k Pr.z) (hok k rfl hk) (by omega) (by omega) (fun j => by have := hvl k j; omega)
    have hsa := d8 (G := G) (ps.getD k Pr.z).n [116, 121, 112, 101] (by omega) (by decide)
    rw [FK] at hsa
    cases hf : (ps.getD k Pr.z).fit with
    | false =>
     rw [hf] at hfi
     have e := pE_3 hf
     rw [hw.1 (by rw [fy hk k2 (by rw [e]; decide), e]; decide), fy hk k2 (by rw [e]; decide), e]
     exact xw0
    | true =>
     rw [hf] at hfi
     refine xw1 ?_
     intro b7
     intros
     refine lp hC hGL (fun j : Nat => [(1, .int .i64 v), (2, .rop (y7 (⟨g, n, ps, vv⟩, u)) 0), (7, .own 1 (.pointer (some ⟨b7, 0, none⟩))), (44, .list 2 ps.length (prF ps)), (45, .int .i64 (ps.length : Nat)), (46, .int .i64 (k : Nat)), (57, .list 2 k (prF ps)), (58, .int .i64 (k : Nat)), (59, .int .i64 (j : Nat))]) (fun _ => [.cells b5 (some 45) [.int .i64 0, .int .i64 (-1)], .cells b7 (some 103) [.str (ps.getD k Pr.z).n, .list 1 (ps.getD k Pr.z).vs.length (aG (ps.getD k Pr.z).vs)]]) (fun j => j ≤ k ∧ ∀ i, i < j → (seqB (ap 97 122 (-32) (ps.getD k Pr.z).n) (ap 97 122 (-32) (ps.getD i Pr.z).n) && !seqB (ap 97 122 (-32) (ps.getD k Pr.z).n) nTYP) = false) (fun j => k - j) 0 ⟨Nat.zero_le _, fun j h => absurd h (Nat.not_lt_zero _)⟩ ak rfl ?_
     rintro j ⟨j1, j2⟩
     by_cases hj : j < k
     ·have hqj := hq j
      have hss := d8 (G := G) (ps.getD k Pr.z).n (ps.getD j Pr.z).n (by omega) (by omega)
      rw [fb] at hss
      obtain ⟨bt, hbt⟩ : ∃ b, seqB (ap 97 122 (-32) (ps.getD k Pr.z).n) nTYP = b := ⟨_, rfl⟩
      cases bt with
      | true =>
       rw [hbt] at hsa
       have e : (seqB (ap 97 122 (-32) (ps.getD k Pr.z).n) (ap 97 122 (-32) (ps.getD j Pr.z).n) && !seqB (ap 97 122 (-32) (ps.getD k Pr.z).n) nTYP) = false := by rw [hbt, Bool.not_true, Bool.and_false]
       obtain ⟨bs, hsm⟩ : ∃ b, seqB (ap 97 122 (-32) (ps.getD k Pr.z).n) (ap 97 122 (-32) (ps.getD j Pr.z).n) = b := ⟨_, rfl⟩
       cases bs with
       | true =>
        rw [hsm] at hss
        refine xw1 ?_
        intros
        exact nxs (j + 1) ⟨hj, fun i hi => by
         rcases Nat.lt_or_eq_of_le (Nat.le_of_lt_succ hi) with g | rfl
         ·exact j2 i g
         ·exact e⟩ (by omega) ak aS
       | false =>
        rw [hsm] at hss
        refine xw1 ?_
        intros
        exact nxs (j + 1) ⟨hj, fun i hi => by
         rcases Nat.lt_or_eq_of_le (Nat.le_of_lt_succ hi) with g | rfl
         ·exact j2 i g
         ·exact e⟩ (by omega) ak aS
      | false =>
       rw [hbt] at hsa
       obtain ⟨bs, hsm⟩ : ∃ b, seqB (ap 97 122 (-32) (ps.getD k Pr.z).n) (ap 97 122 (-32) (ps.getD j Pr.z).n) = b := ⟨_, rfl⟩
       cases bs with
       | true =>
        rw [hsm] at hss
        have hd : bO (ps.getD k Pr.z).n ps 0 < (k : Int) := (rc hk).2 ⟨j, hj, (a7.1 hsm).symm⟩
        have e := pE_9 hf (ip.1 hbt) hd
        rw [hw.1 (by rw [fy hk k2 (by rw [e]; decide), e]; decide), fy hk k2 (by rw [e]; decide), e]
        exact xw0
       | false =>
        rw [hsm] at hss
        refine xw1 ?_
        intros
        exact nxs (j + 1) ⟨hj, fun i hi => by
         rcases Nat.lt_or_eq_of_le (Nat.le_of_lt_succ hi) with g | rfl
         ·exact j2 i g
         ·rw [hsm, Bool.false_and]⟩ (by omega) ak aS
     ·obtain rfl : j = k := by omega
      have e : pE ps j = 0 := pE_0 hf (fun h => by
       obtain ⟨i, hi, hs⟩ := (rc hk).1 h.2
       have := j2 i hi
       rw [a7.2 hs.symm, ip.2 h.1] at this
       cases this)
      refine xw1 ?_
      intros
      exact nxs (j + 1) ⟨by omega, aN k2 e⟩ (by omega) ak aS
   ·have hw := hw.2 (Cc (by omega) k2)
    by_cases hK : K = u.t
    ·have hw := hw.2 hK
     by_cases hV0 : eV.e = 0
     ·obtain rfl := hz hV0
      have hw := hw.2 rfl
      simp only [Err.e] at hV
      subst hw
      by_cases ha : u.t = 3 ∧ 0 < r3 ∧ r3 ≠ (u.L.length : Int)
      ·rw [if_pos ha]
       obtain ⟨a1, a2, a3⟩ := ha
       have a4 : r3 ≠ 0 := by omega
       exact xw0
      ·rw [if_neg ha]
       by_cases a1 : u.t = 3
       ·by_cases a2 : r3 = 0
        ·by_cases hl : 1500 < tL.length
         ·rw [if_pos hl]
          exact xw0
         ·rw [if_neg hl]
          exact xw0
        ·have a3 : r3 = (u.L.length : Int) := by omega
         by_cases hl : 1500 < tL.length
         ·rw [if_pos hl]
          exact xw0
         ·rw [if_neg hl]
          exact xw0
       ·by_cases hl : 1500 < tL.length
        ·rw [if_pos hl]
         exact xw0
        ·rw [if_neg hl]
         exact xw0
     ·rw [hw.1 (fun h => hV0 (by rw [h]; rfl))]
      exact xw0
    ·rw [hw.1 hK]
     exact xw0
 ·have h0 := hfin he
  rw [hwl he]
  have h4 := h4 e0.e e0.p
  generalize e0.e = ee at *
  generalize e0.p = pp at *
  rw [show eqB ee 0 = false from jO.2 h0] at h4
  have hGL : ad G [] := ab
  refine fn_x Tryz.func19 Tryz.call19 rfl rfl rfl rfl hGL ?_
  intro C hC
  exact xw0
end
section
open Go Go.RowKit
attribute [local irreducible] AWp AOps aa az OrOk ad ah
attribute [local irreducible] ap bO Pr.fit Ln.E Ln.T Vl.E Vl.T eQ ba cntI
theorem vD {G : Glo} (s : List UInt8) (hs : s.length ≤ 1000000) : FnIs Tryz.prog G 51 [.str s] (.bool (frB s)) := by
 have h1 := dH (G := G) s (by omega)
 unfold frB
 generalize ap 97 122 (-32) s = u at *
 have hGL : ad G [] := ab
 refine fn_x Tryz.func51 Tryz.call51 rfl rfl rfl rfl hGL ?_
 intro C hC
 refine xw ?_
 repeat' (first | exact Le.n | refine Lc.mk ?_ ?_)
 all_goals intros
 all_goals
  apply al
  refine congrArg AVal.bool ?_
  rw [Bool.eq_iff_iff]
  simp only [Bool.or_eq_true, a7]
  simp [*]
theorem Bi {G : Glo} {m : Int} (hE : ad G errTy) (hM : ad G (bI m)) (x : Vl) (hs : x.s.length ≤ 2500) (hL : Small x.L) (hv : x.OK) : FnIs Tryz.prog G 57 [x.A] (.tuple [.str x.T, x.E.A]) :=
 tt x (mD hE hM x hv) (mF x.s (by omega) (jv _)) (nT x.L hL) (vX hM x.st)
theorem mw {G : Glo} {m : Int} (hE : ad G errTy) (hM : ad G (bI m)) (v : Int) (x : Itm) (hx : x.OK 2500) : FnIs Tryz.prog G 22 [itR x, .int .i64 v] (.tuple [x.ln.A, x.2.E.A]) := by
 have h1 := Bi hE hM x.2 hx.s hx.L hx.v
 generalize x.2.E = e at *
 unfold Vl.A at h1
 rcases e with _ | e | ⟨e, p⟩
 ·simp only [Err.A] at h1 ⊢
  have hGL : ad G [] := ab
  refine fn_x Tryz.func22 Tryz.call22 rfl rfl rfl rfl hGL ?_
  intro C hC
  exact xw0
 ·simp only [Err.A, errA] at h1 ⊢
  have hGL : ad G [] := ab
  refine fn_x Tryz.func22 Tryz.call22 rfl rfl rfl rfl hGL ?_
  intro C hC
  exact xw0
 ·simp only [Err.A, atA] at h1 ⊢
  have hGL : ad G [] := ab
  refine fn_x Tryz.func22 Tryz.call22 rfl rfl rfl rfl hGL ?_
  intro C hC
  exact xw0
theorem vC {G : Glo} {m : Int} (hE : ad G errTy) (hE2 : ik G) (hP : co G) (hM : ad G (bI m)) (hS : SpIs G) (v : Int) (hv : v = 3 ∨ v = 4) (x : Itm) (hx : x.OK 2500) : FnIs Tryz.prog G 21 [itR x, .int .i64 v] (.int .i64 (x.w v)) := by
 have q1 := Tryz.call24
 have q2 := Tryz.call50
 have q3 := Tryz.call23
 have hc := iO (G := G) v
 have h1 := oO (G := G) x.p (eqB v 4) hx.p.fit
 have h4 := lx (G := G) hE (x.p.E (eqB v 4))
 have hn : x.1.n.length ≤ 2500 := hx.p.n
 have hps : x.1.ps.length ≤ 2500 := hx.p.ps
 have hq : ∀ k, (x.1.ps.getD k Pr.z).n.length ≤ 2500 ∧ (x.1.ps.getD k Pr.z).vs.length ≤ 2500 ∧ Lib.lens (x.1.ps.getD k Pr.z).vs ≤ 2500 := hx.p.q
 have hvl : ∀ k j, ((x.1.ps.getD k Pr.z).vs.getD j []).length ≤ 2500 := fun k j => by
  have := cJ (l := (x.1.ps.getD k Pr.z).vs) (k := j); have := (hq k).2.2; omega
 have hF := vD (G := G) x.1.n (by omega)
 have hve : verE v = .none := by unfold verE; rw [if_pos hv]
 have hT := wD (G := G) hS v x.1.n x.1.ps (by omega) (by omega) (fun k => by have := (hq k).1; omega) (fun k => ⟨by have := (hq k).2.1; omega, by have := hvl k 0; omega⟩)
 have hV := mD hE hM x.2 hx.v
 have h5 := lx (G := G) hE x.2.E
 have hR := kE (G := G) hS v x.1.n (by omega)
 have hpr := mw (G := G) hE hM v x hx
 have hLP := j6 (G := G) x.ln (eqB v 4) (Itm.fit hx)
 have hw : ∀ (_ : x.p.E (eqB v 4) = .none) (_ : frB x.1.n = false), (parE x.1.ps ≠ 0 → x.w v = parE x.1.ps) ∧ (parE x.1.ps = 0 → (x.k v ≠ x.2.t → x.w v = 1) ∧ (x.k v = x.2.t → (x.2.E ≠ .none → x.w v = x.2.E.e) ∧ (x.2.E = .none → x.w v = x.r v))) := fun a b => ⟨Fj a b, fun c => ⟨Fk a b c, fun d => ⟨Fi a b c d, w_r a b c d⟩⟩⟩
 have hwl := fun a => w_ln (v := v) (x := x) a
 have hwf := fun a b => w_fr (v := v) (x := x) a b
 have hln : x.2.E = .none → x.p.E (eqB v 4) = .none → x.ln.E (eqB v 4) = .none := fun _ b => Ln.E_v (p := x.ln) b (Vl.T_hd _)
 rw [hve] at hT hR
 generalize x.w v = W at *
 unfold Itm.r Itm.L at hw
 unfold Itm.k at hw
 obtain ⟨⟨g, n, ps, vv⟩, u⟩ := x
 unfold itR at hpr ⊢
 unfold Vl.A at hV
 unfold Itm.p at h1 h4 hw hwl hwf hln
 unfold Itm.ln at hpr hLP hln hw
 dsimp only at *
 generalize Ln.E (eqB v 4) ⟨g, n, ps, u.T⟩ = eL at *
 generalize Ln.T (eqB v 4) ⟨g, n, ps, u.T⟩ = tL at *
 generalize eQ v n ps = K at *
 generalize ba v n = r at *
 unfold Rl.A at hR
 obtain ⟨r0, r1, r2, r3⟩ := r
 dsimp only at *
 generalize u.E = eV at *
 generalize u.T = tV at *
 generalize hE0 : Ln.E (eqB v 4) ⟨g, n, ps, []⟩ = e0 at *
 rcases e0 with _ | e | ⟨e, p⟩
 ·simp only [Err.A] at h1
  cases hfr : frB n with
  | true =>
   rw [hwf rfl hfr]
   rw [hfr] at hF
   have hGL : ad G [] := ab
   refine fn_x Tryz.func21 Tryz.call21 rfl rfl rfl rfl hGL ?_
   intro C hC
   exact xw0
  | false =>
   rw [hfr] at hF
   have hw := hw rfl hfr
   have hGL : ad G [] := ab
   refine fn_x Tryz.func21 Tryz.call21 rfl rfl rfl rfl hGL ?_
   intro C hC
   refine xw1 ?_
   intros
   refine lp hC hGL (fun k : Nat => [(1, .int .i64 v), (2, .rop (y7 (⟨g, n, ps, vv⟩, u)) 0), (35, .list 2 ps.length (prF ps)), (36, .int .i64 (ps.length : Nat)), (37, .int .i64 (k : Nat))]) (fun _ => []) (fun k => k ≤ ps.length ∧ ∀ j, j < k → pE ps j = 0) (fun k => ps.length - k) 0 ⟨Nat.zero_le _, fun j h => absurd h (Nat.not_lt_zero _)⟩ ak rfl ?_
   rintro k ⟨k1, k2⟩
   by_cases hk : k < ps.length
   ·have hqk := hq k
    have hfi := wE hE2 hP hM (ps.getD k Pr.z) (by omega) (by omega) (fun j => by have := hvl k j; omega)
    have hsa := qK (G := G) (ps.getD k Pr.z).n nTYP (by omega) (by decide)
    rw [show ap 97 122 (-32) nTYP = nTYP by decide +kernel] at hsa
    have hfd := oh (G := G) ps (ps.getD k Pr.z).n (by omega) (fun k => by have := (hq k).1; omega) (by omega)
    cases hf : (ps.getD k Pr.z).fit with
    | false =>
     rw [hf] at hfi
     have e := pE_3 hf
     rw [hw.1 (by rw [fy hk k2 (by rw [e]; decide), e]; decide), fy hk k2 (by rw [e]; decide), e]
     exact xw0
    | true =>
     rw [hf] at hfi
     cases hty : seqB (ap 97 122 (-32) (ps.getD k Pr.z).n) nTYP with
     | true =>
      rw [hty] at hsa
      have e := pE_0 hf (fun h => h.1 (a7.1 hty))
      refine xw1 ?_
      intros
      exact nxs (k + 1) ⟨by omega, aN k2 e⟩ (by omega) ak aS
     | false =>
      rw [hty] at hsa
      by_cases hd : bO (ps.getD k Pr.z).n ps 0 < (k : Int)
      ·have e := pE_9 hf (ip.1 hty) hd
       rw [hw.1 (by rw [fy hk k2 (by rw [e]; decide), e]; decide), fy hk k2 (by rw [e]; decide), e]
       exact xw0
      ·have e := pE_0 hf (fun h => hd h.2)
       refine xw1 ?_
       intros
       exact nxs (k + 1) ⟨by omega, aN k2 e⟩ (by omega) ak aS
   ·have hw := hw.2 (Cc (by omega) k2)
    by_cases hK : K = u.t
    ·have hw := hw.2 hK
     rcases eV with _ | e | ⟨e, p⟩
     ·have hw := hw.2 rfl
      have hln := hln rfl rfl
      subst hln
      simp only [Err.A] at hV hpr hLP
      subst hw
      obtain rfl := hK
      by_cases ha : u.t = 3 ∧ 0 < r3 ∧ r3 ≠ (u.L.length : Int)
      ·rw [if_pos ha]
       obtain ⟨a1, a2, a3⟩ := ha
       have a4 : (u.L.length : Int) ≠ r3 := fun h => a3 h.symm
       exact xw0
      ·rw [if_neg ha]
       by_cases a1 : u.t = 3
       ·by_cases a2 : 0 < r3
        ·have a3 : (u.L.length : Int) = r3 := by
          apply Classical.byContradiction
          intro h
          exact ha ⟨a1, a2, fun k => h k.symm⟩
         by_cases hl : 1500 < tL.length
         ·rw [if_pos hl]
          refine xn1 ?_
          intros
          rename_i b11 b13 _ _ _ _ _
          refine eg (aX (i := 1) (k := 13) rfl rfl) ?_
          refine dw_p mixed hC hGL false (fun _ : Unit => [(15, .str tL)]) (fun _ => [.cells b11 (some 76) [.int .i64 r0, .int .i64 r1, .int .i64 r2, .int .i64 r3], bE]) (.take 0 (.take 1 (.br 2 (.br 3 (.take 4 (.take 5 (.take 6 (.take 7 (.take 8 (.done)))))) (.nil)) (.nil)))) (by kernel_rfl) ?_ ?_
          ·refine xn ?_
           repeat' (first | exact Le.n | refine Lc.mk ?_ ?_)
           all_goals intros
           all_goals exact ⟨(), ak, rfl⟩
          intro _
          exact xw0
         ·rw [if_neg hl]
          refine xn1 ?_
          intros
          rename_i b11 b13 _ _ _ _ _
          refine eg (aX (i := 1) (k := 13) rfl rfl) ?_
          refine dw_p mixed hC hGL false (fun _ : Unit => [(15, .str tL)]) (fun _ => [.cells b11 (some 76) [.int .i64 r0, .int .i64 r1, .int .i64 r2, .int .i64 r3], bE]) (.take 0 (.take 1 (.br 2 (.br 3 (.take 4 (.take 5 (.take 6 (.take 7 (.take 8 (.done)))))) (.nil)) (.nil)))) (by kernel_rfl) ?_ ?_
          ·refine xn ?_
           repeat' (first | exact Le.n | refine Lc.mk ?_ ?_)
           all_goals intros
           all_goals exact ⟨(), ak, rfl⟩
          intro _
          exact xw0
        ·have a2' : ¬ 0 < r3 := a2
         by_cases hl : 1500 < tL.length
         ·rw [if_pos hl]
          refine xn1 ?_
          intros
          rename_i b11 b13 _ _ _ _
          refine eg (aX (i := 1) (k := 13) rfl rfl) ?_
          refine dw_p mixed hC hGL false (fun _ : Unit => [(15, .str tL)]) (fun _ => [.cells b11 (some 76) [.int .i64 r0, .int .i64 r1, .int .i64 r2, .int .i64 r3], bE]) (.take 0 (.take 1 (.br 2 (.br 3 (.take 4 (.take 5 (.take 6 (.take 7 (.take 8 (.done)))))) (.nil)) (.nil)))) (by kernel_rfl) ?_ ?_
          ·refine xn ?_
           repeat' (first | exact Le.n | refine Lc.mk ?_ ?_)
           all_goals intros
           all_goals exact ⟨(), ak, rfl⟩
          intro _
          exact xw0
         ·rw [if_neg hl]
          refine xn1 ?_
          intros
          rename_i b11 b13 _ _ _ _
          refine eg (aX (i := 1) (k := 13) rfl rfl) ?_
          refine dw_p mixed hC hGL false (fun _ : Unit => [(15, .str tL)]) (fun _ => [.cells b11 (some 76) [.int .i64 r0, .int .i64 r1, .int .i64 r2, .int .i64 r3], bE]) (.take 0 (.take 1 (.br 2 (.br 3 (.take 4 (.take 5 (.take 6 (.take 7 (.take 8 (.done)))))) (.nil)) (.nil)))) (by kernel_rfl) ?_ ?_
          ·refine xn ?_
           repeat' (first | exact Le.n | refine Lc.mk ?_ ?_)
           all_goals intros
           all_goals exact ⟨(), ak, rfl⟩
          intro _
          exact xw0
       ·by_cases hl : 1500 < tL.length
        ·rw [if_pos hl]
         refine xn1 ?_
         intros
         rename_i b11 b13 _ _ _
         refine eg (aX (i := 1) (k := 13) rfl rfl) ?_
         refine dw_p mixed hC hGL false (fun _ : Unit => [(15, .str tL)]) (fun _ => [.cells b11 (some 76) [.int .i64 r0, .int .i64 r1, .int .i64 r2, .int .i64 r3], bE]) (.take 0 (.take 1 (.br 2 (.br 3 (.take 4 (.take 5 (.take 6 (.take 7 (.take 8 (.done)))))) (.nil)) (.nil)))) (by kernel_rfl) ?_ ?_
         ·refine xn ?_
          repeat' (first | exact Le.n | refine Lc.mk ?_ ?_)
          all_goals intros
          all_goals exact ⟨(), ak, rfl⟩
         intro _
         exact xw0
        ·rw [if_neg hl]
         refine xn1 ?_
         intros
         rename_i b11 b13 _ _ _
         refine eg (aX (i := 1) (k := 13) rfl rfl) ?_
         refine dw_p mixed hC hGL false (fun _ : Unit => [(15, .str tL)]) (fun _ => [.cells b11 (some 76) [.int .i64 r0, .int .i64 r1, .int .i64 r2, .int .i64 r3], bE]) (.take 0 (.take 1 (.br 2 (.br 3 (.take 4 (.take 5 (.take 6 (.take 7 (.take 8 (.done)))))) (.nil)) (.nil)))) (by kernel_rfl) ?_ ?_
         ·refine xn ?_
          repeat' (first | exact Le.n | refine Lc.mk ?_ ?_)
          all_goals intros
          all_goals exact ⟨(), ak, rfl⟩
         intro _
         exact xw0
     ·rw [hw.1 (fun h => by cases h)]
      simp only [Err.A, Err.e, errA] at hV h5 ⊢
      exact xw0
     ·rw [hw.1 (fun h => by cases h)]
      simp only [Err.A, Err.e, atA] at hV h5 ⊢
      exact xw0
    ·rw [hw.1 hK]
     exact xw0
 ·rw [hwl (fun h => by cases h)]
  simp only [Err.A, Err.e, errA] at h1 h4 ⊢
  have hGL : ad G [] := ab
  refine fn_x Tryz.func21 Tryz.call21 rfl rfl rfl rfl hGL ?_
  intro C hC
  exact xw0
 ·rw [hwl (fun h => by cases h)]
  simp only [Err.A, Err.e, atA] at h1 h4 ⊢
  have hGL : ad G [] := ab
  refine fn_x Tryz.func21 Tryz.call21 rfl rfl rfl rfl hGL ?_
  intro C hC
  refine xn1 ?_
  intros
  refine dw_p mixed hC hGL false (fun _ : Unit => [(5, atA e p)]) (fun _ => []) (.take 0 (.take 1 (.take 2 (.take 3 (.take 4 (.take 5 (.take 6 (.take 7 (.br 8 (.br 9 (.take 10 (.done)) (.nil)) (.nil)))))))))) (by kernel_rfl) ?_ ?_
  ·refine xn ?_
   repeat' (first | exact Le.n | refine Lc.mk ?_ ?_)
   all_goals intros
   all_goals exact ⟨(), ak, rfl⟩
  intro _
  exact xw0
end
end Go.Proofs.YtahebkecmlmlfaaGreatDoor
