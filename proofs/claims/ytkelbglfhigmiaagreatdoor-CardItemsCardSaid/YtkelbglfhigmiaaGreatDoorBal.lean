/- Parts of the proof of cardItems_card: Lpk, Ruk, Vlb, Buk, Bur, Trc, Wpb, End, Han, Wpc, Wpd, Wpe. -/
import Derived.Lib.MapLaws
import Derived.Test.YtkelbglfhigmiaaGreatDoorRows
import Derived.ProofKit
import Derived.LaidMore
import Derived.Lay
import Derived.Stop.Joined
import Derived.LaidSub
import Derived.LaidHandle
import Derived.OpenShut
import Derived.Shelf.Unicode.DecodeSlow
import Derived.Lib.LastIndexByte
import Derived.Lib.Replace
import Derived.Test.YtkelbglfhigmiaaGreatDoorBak
import Derived.Test.YtkelbglfhigmiaaGreatDoorBae
import Derived.Test.YtkelbglfhigmiaaGreatDoorBai
import Derived.Test.YtkelbglfhigmiaaGreatDoorBaj
import Derived.Test.YtkelbglfhigmiaaGreatDoorBah
import Derived.Test.YtkelbglfhigmiaaGreatDoorBad
import Derived.Test.YtkelbglfhigmiaaGreatDoorBaf
import Derived.Test.YtkelbglfhigmiaaGreatDoorBag
set_option linter.unusedVariables false
set_option linter.unusedSimpArgs false
set_option linter.unusedSectionVars false
namespace Go.Proofs.YtkelbglfhigmiaaGreatDoor
set_option maxRecDepth 20000
set_option maxHeartbeats 4000000
section
open Go Go.RowKit
theorem px {c : Bool} {s : List UInt8} : ∀ (n : Nat) {a b : Nat} {acc ps : List Pr}, s.length - a ≤ n → acc.length ≤ 20 → (∀ q ∈ acc, q.vs.length ≤ s.length + 1) → bq c s a acc = .ok (ps, b) → ps.length ≤ 20 ∧ ∀ q ∈ ps, q.vs.length ≤ s.length + 1
 | n, a, b, acc, ps, hn, h0, h1, h => by
  cases hq : atB s a 59 with
  | false => rw [eD hq] at h; cases h; exact ⟨h0, h1⟩
  | true =>
   have g1 := bB.1 hq
   cases hw : aR s (a + 1) with
   | bad e' p' => rw [dB hq hw] at h; cases h
   | ok x =>
    obtain ⟨w, j⟩ := x
    have g2 := bL hw
    cases hj : atB s j 61 with
    | false => rw [fM hq hw hj] at h; cases h
    | true =>
     have g4 := (bB.1 hj).1
     cases hv : ca c s (j + 1) [] with
     | bad e' p' => rw [cz hq hw hj hv] at h; cases h
     | ok x =>
      obtain ⟨vs, d⟩ := x
      have g3 := fF _ (Nat.le_refl _) hv
      by_cases h20 : acc.length = 20
      ·rw [eC hq hw hj hv h20] at h; cases h
      ·rw [fL hq hw hj hv h20] at h
       cases n with
       | zero => omega
       | succ n =>
        refine px n (by omega) (by rw [List.length_append, List.length_singleton]; omega) (fun q hq => ?_) h
        rcases List.mem_append.1 hq with hq | hq
        ·exact h1 q hq
        ·rw [List.mem_singleton.1 hq]
         have := g3.2.1 (by omega)
         have := g3.2.2.2
         rw [List.length_nil] at this
         show vs.length ≤ _
         omega
theorem qR (c : Bool) (s : List UInt8) : (lpL c s).ps.length ≤ 20 ∧ ∀ q ∈ (lpL c s).ps, q.vs.length ≤ s.length + 1 := by
 unfold lpL
 cases hl : bT c s with
 | bad e p => exact ⟨Nat.zero_le _, fun q hq => by cases hq⟩
 | ok l =>
  unfold bT at hl
  split at hl
  ·cases hh : cT s with
   | bad e p => rw [hh] at hl; cases hl
   | ok x =>
    obtain ⟨⟨g, n⟩, a⟩ := x
    rw [hh] at hl
    dsimp only at hl
    cases hp : bq c s a [] with
    | bad e p => rw [hp] at hl; cases hl
    | ok x =>
     obtain ⟨ps, b⟩ := x
     rw [hp] at hl
     dsimp only at hl
     have hb := px _ (Nat.le_refl _) (Nat.zero_le _) (fun q hq => by cases hq) hp
     unfold eo at hl
     (repeat' split at hl) <;> first | (cases hl; exact hb) | cases hl
  ·cases hl
attribute [local irreducible] AWp AOps aa ax OrOk ab ae
attribute [local irreducible] lpL lpE
theorem uI {G : Glo} (l : List (List UInt8)) (hn : l.length ≤ 20000) : FnIs Tryz.prog G 24 [.list 1 l.length (aO l), .list 1 l.length (aO l)] (.bool true) := by
 have hGL : ab G [] := ad
 refine fn_x Tryz.func24 Tryz.call24 rfl rfl rfl rfl hGL ?_
 intro C hC
 refine xw1 ?_
 intros
 refine lp hC hGL (fun (k : Nat) => [(0, .list 1 l.length (aO l)), (1, .list 1 l.length (aO l)), (12, .int .i64 (l.length : Nat)), (13, .int .i64 (k : Nat))]) (fun _ => []) (fun k => k ≤ l.length) (fun k => l.length - k) 0 (Nat.zero_le _) aj rfl ?_
 intro k hk
 have hk : k ≤ l.length := hk
 by_cases hk2 : k < l.length
 ·refine xw1 ?_
  intros
  exact nxt (k + 1) (show k + 1 ≤ l.length by omega) (by omega) aj rfl
 ·exact xw0
theorem AE {G : Glo} (q : Pr) (hq : q.vs.length ≤ 20000) : FnIs Tryz.prog G 23 [.agg [.str q.n, .list 1 q.vs.length (aO q.vs)], .agg [.str q.n, .list 1 q.vs.length (aO q.vs)]] (.bool true) := by
 have h1 := uI (G := G) q.vs hq
 have hGL : ab G [] := ad
 refine fn_x Tryz.func23 Tryz.call23 rfl rfl rfl rfl hGL ?_
 intro C hC
 exact xw0
theorem nv {G : Glo} (L : List Pr) (hn : L.length ≤ 20) (hk : ∀ q ∈ L, q.vs.length ≤ 20000) : FnIs Tryz.prog G 22 [.list 2 L.length (prF L), .list 2 L.length (prF L), .func (.func 23) [] []] (.bool true) := by
 have hGL : ab G [] := ad
 refine fn_x Tryz.func22 Tryz.call22 rfl rfl rfl rfl hGL ?_
 intro C hC
 refine xw1 ?_
 intros
 refine lp hC hGL (fun (k : Nat) => [(1, .list 2 L.length (prF L)), (2, .func (.func 23) [] []), (15, .list 2 L.length (prF L)), (16, .int .i64 (L.length : Nat)), (17, .int .i64 (k : Nat))]) (fun _ => []) (fun k => k ≤ L.length) (fun k => L.length - k) 0 (Nat.zero_le _) aj rfl ?_
 intro k hkl
 have hkl : k ≤ L.length := hkl
 by_cases hk2 : k < L.length
 ·have h1 := AE (G := G) (L.getD k Pr.z) (hk _ (by rw [List.getD_eq_getElem?_getD, List.getElem?_eq_getElem hk2]; exact List.getElem_mem hk2))
  have hcl := Tryz.call23
  refine xw1 ?_
  intros
  exact nxs (k + 1) (show k + 1 ≤ L.length by omega) (by omega) aj (List.nil_sublist _)
 ·exact xw0
theorem yN {G : Glo} (l : Ln) (hn : l.ps.length ≤ 20) (hk : ∀ q ∈ l.ps, q.vs.length ≤ 20000) : FnIs Tryz.prog G 7 [l.A, l.A] (.bool true) := by
 have h1 := nv (G := G) l.ps hn hk
 have hGL : ab G [] := ad
 refine fn_x Tryz.func7 Tryz.call7 rfl rfl rfl rfl hGL ?_
 intro C hC
 exact xw0
end
section
open Go Go.RowKit
theorem rS {t : Int} {l : List Pr} (h : da valN l 0 = -1) : jZ t l = t := by unfold jZ; rw [h, if_pos (.inl (by decide))]
theorem pa {t : Int} {l : List Pr} {k : Nat} (h : da valN l 0 = (k : Int)) (h2 : (l.getD k Pr.z).vs.length = 0) : jZ t l = t := by unfold jZ; rw [h, Int.toNat_natCast, if_pos (.inr h2)]
theorem rT {t : Int} {l : List Pr} {k : Nat} (h : da valN l 0 = (k : Int)) (h2 : (l.getD k Pr.z).vs.length ≠ 0) : jZ t l = tyL t (aJ 65 90 32 ((l.getD k Pr.z).vs.getD 0 [])) := by unfold jZ; rw [h, Int.toNat_natCast, if_neg (by rintro (h | h); omega; exact h2 h)]
attribute [local irreducible] AWp AOps aa ax OrOk ab ae
attribute [local irreducible] aJ da fd
theorem u7 {G : Glo} (hS : SpIs G) (v : Int) (s : List UInt8) (l : List Pr) (hs : s.length ≤ 1000000) (hl : l.length ≤ 9223372036854775807) (hn : ∀ k, (l.getD k Pr.z).n.length ≤ 9223372036854775807) (hv : ∀ k, (l.getD k Pr.z).vs.length ≤ 9223372036854775807 ∧ ((l.getD k Pr.z).vs.getD 0 []).length ≤ 9223372036854775807) :
  FnIs Tryz.prog G 18 [.str s, .list 2 l.length (prF l), .int .i64 v] (.tuple [.int .i64 (gt v s l), (verE v).A]) := by
 have h1 := AM (G := G) hS v s hs
 have h2 : FnIs Tryz.prog G 59 [.list 2 l.length (prF l), .str [86, 65, 76, 85, 69]] (.int .i64 (da valN l 0)) := u9 (G := G) l valN hl hn (by decide)
 by_cases hver : v = 3 ∨ v = 4
 ·have e2 : verE v = .none := by unfold verE; rw [if_pos hver]
  have e3 : gt v s l = jZ (fd v s).t l := by unfold gt; rw [if_pos hver]
  rw [e2] at h1 ⊢
  rw [e3]
  generalize fd v s = r at *
  simp only [Err.A, errA] at h1 ⊢
  rcases iO valN l 0 with hf | ⟨k, hk, hf⟩
  ·rw [rS hf]
   rw [hf] at h2
   have hGL : ab G [] := ad
   refine fn_x Tryz.func18 Tryz.call18 rfl rfl rfl rfl hGL ?_
   intro C hC
   refine xw ?_
   repeat' (first | exact Le.n | refine Lc.mk ?_ ?_)
   all_goals intros
   all_goals intros
   all_goals first
    | (apply ar; rfl)
    | (exfalso; omega)
  ·rw [Nat.zero_add] at hf
   rw [hf] at h2
   by_cases h0 : (l.getD k Pr.z).vs.length = 0
   ·rw [pa hf h0]
    have hGL : ab G [] := ad
    refine fn_x Tryz.func18 Tryz.call18 rfl rfl rfl rfl hGL ?_
    intro C hC
    refine xw ?_
    repeat' (first | exact Le.n | refine Lc.mk ?_ ?_)
    all_goals intros
    all_goals intros
    all_goals first
     | (apply ar; rfl)
     | (exfalso; omega)
     | trace_state
   ·rw [rT hf h0]
    have h3 := vy (G := G) ((l.getD k Pr.z).vs.getD 0 []) (by have := (hv k).2; omega)
    have h3 : FnIs Tryz.prog G 60 [aO (l.getD k Pr.z).vs 0] _ := h3
    generalize aJ 65 90 32 ((l.getD k Pr.z).vs.getD 0 []) = x at *
    have hGL : ab G [] := ad
    refine fn_x Tryz.func18 Tryz.call18 rfl rfl rfl rfl hGL ?_
    intro C hC
    refine xw ?_
    repeat' (first | exact Le.n | refine Lc.mk ?_ ?_)
    all_goals intros
    all_goals intros
    all_goals try (exfalso; omega)
    all_goals
     apply ar
     refine congrArg (fun z => AVal.tuple [.int .i64 z, .raw .nilIface]) (Eq.symm ?_)
     clear h1 h2 h3 hn hv hf hC hGL
     unfold tyL
     simp [*]
 ·have e2 : verE v = .errno 1 := by unfold verE; rw [if_neg hver]
  have e3 : gt v s l = 0 := by unfold gt; rw [if_neg hver]
  rw [e2] at h1 ⊢
  rw [e3]
  simp only [Err.A, errA] at h1 ⊢
  have hGL : ab G [] := ad
  refine fn_x Tryz.func18 Tryz.call18 rfl rfl rfl rfl hGL ?_
  intro C hC
  refine xw ?_
  repeat' (first | exact Le.n | refine Lc.mk ?_ ?_)
  all_goals intros
  all_goals intros
  all_goals first
   | (apply ar; rfl)
   | (exfalso; omega)
theorem AY {G : Glo} (v : Int) (s : List UInt8) (l : List Pr) (hs : s.length ≤ 1000000) (hl : l.length ≤ 9223372036854775807) (hn : ∀ k, (l.getD k Pr.z).n.length ≤ 9223372036854775807) (hv : ∀ k, (l.getD k Pr.z).vs.length ≤ 9223372036854775807 ∧ ((l.getD k Pr.z).vs.getD 0 []).length ≤ 9223372036854775807) :
  FnIs Tryz.prog G 13 [.str s, .list 2 l.length (prF l), .int .i64 v] (.tuple [.int .i64 (gt v s l), .int .i64 (verE v).e]) := by
 have h1 := AZ (G := G) v s hs
 have h2 : FnIs Tryz.prog G 40 [.list 2 l.length (prF l), .str [86, 65, 76, 85, 69]] (.int .i64 (da valN l 0)) := A2 (G := G) l valN hl hn (by decide)
 by_cases hver : v = 3 ∨ v = 4
 ·have e2 : verE v = .none := by unfold verE; rw [if_pos hver]
  have e3 : gt v s l = jZ (fd v s).t l := by unfold gt; rw [if_pos hver]
  rw [e2] at h1 ⊢
  rw [e3]
  generalize fd v s = r at *
  simp only [Err.e] at h1 ⊢
  rcases iO valN l 0 with hf | ⟨k, hk, hf⟩
  ·rw [rS hf]
   rw [hf] at h2
   have hGL : ab G [] := ad
   refine fn_x Tryz.func13 Tryz.call13 rfl rfl rfl rfl hGL ?_
   intro C hC
   refine xw ?_
   repeat' (first | exact Le.n | refine Lc.mk ?_ ?_)
   all_goals intros
   all_goals intros
   all_goals first
    | (apply ar; rfl)
    | (exfalso; omega)
  ·rw [Nat.zero_add] at hf
   rw [hf] at h2
   by_cases h0 : (l.getD k Pr.z).vs.length = 0
   ·rw [pa hf h0]
    have hGL : ab G [] := ad
    refine fn_x Tryz.func13 Tryz.call13 rfl rfl rfl rfl hGL ?_
    intro C hC
    refine xw ?_
    repeat' (first | exact Le.n | refine Lc.mk ?_ ?_)
    all_goals intros
    all_goals intros
    all_goals first
     | (apply ar; rfl)
     | (exfalso; omega)
   ·rw [rT hf h0]
    have h3 := lu (G := G) ((l.getD k Pr.z).vs.getD 0 []) (by have := (hv k).2; omega)
    have h3 : FnIs Tryz.prog G 41 [aO (l.getD k Pr.z).vs 0] _ := h3
    generalize aJ 65 90 32 ((l.getD k Pr.z).vs.getD 0 []) = x at *
    have hGL : ab G [] := ad
    refine fn_x Tryz.func13 Tryz.call13 rfl rfl rfl rfl hGL ?_
    intro C hC
    refine xn ?_
    repeat' (first | exact Le.n | refine Lc.mk ?_ ?_)
    all_goals intros
    all_goals intros
    all_goals try (exfalso; omega)
    all_goals
     apply ar
     refine congrArg (fun z => AVal.tuple [.int .i64 z, .int .i64 0]) (Eq.symm ?_)
     clear h1 h2 h3 hn hv hf hC hGL
     unfold tyL
     simp [*]
 ·have e2 : verE v = .errno 1 := by unfold verE; rw [if_neg hver]
  have e3 : gt v s l = 0 := by unfold gt; rw [if_neg hver]
  rw [e2] at h1 ⊢
  rw [e3]
  simp only [Err.e] at h1 ⊢
  have hGL : ab G [] := ad
  refine fn_x Tryz.func13 Tryz.call13 rfl rfl rfl rfl hGL ?_
  intro C hC
  refine xw ?_
  repeat' (first | exact Le.n | refine Lc.mk ?_ ?_)
  all_goals intros
  all_goals intros
  all_goals first
   | (apply ar; rfl)
   | (exfalso; omega)
end
section
open Go Go.RowKit
attribute [local irreducible] AWp AOps aa ax OrOk ab ae
attribute [local irreducible] hdC hdB badI
theorem rM {G : Glo} (s : List UInt8) (b : Bool) (hl : s.length ≤ 9223372036854775807) : FnIs Tryz.prog G 61 [.str s, .bool b] (.bool (hdB b s)) := by
 have hB := wO (G := G) s hl
 have hGL : ab G [] := ad
 refine fn_x Tryz.func61 Tryz.call61 rfl rfl rfl rfl hGL ?_
 intro C hC
 refine xw1 ?_
 refine lp hC hGL (fun i : Nat => [(0, .str s), (1, .bool b), (8, .int .i64 (s.length : Nat)), (9, .int .i64 (i : Nat))]) (fun _ => []) (fun i => i ≤ s.length ∧ ∀ j, j < i → hdC b (aa s j : Int) = false) (fun i => s.length - i) 0 ?_ aj rfl ?_
 ·exact ⟨Nat.zero_le _, fun j h => absurd h (Nat.not_lt_zero _)⟩
 rintro i ⟨h1, h2⟩
 refine xw ?_
 repeat' (first | exact Le.n | refine Lc.mk ?_ ?_)
 all_goals intros
 all_goals first
  | (apply ar; rw [F2 (i := i) (by omega) (by first | exact kG (.inl (by omega)) | exact kG (.inr (.inl (by omega))) | exact kG (.inr (.inr ⟨by omega, by assumption⟩))) h2]; rfl)
  | (refine nxt (i + 1) ⟨by omega, bK h2 (by first | exact qZ (by omega) (.inl (by omega)) | exact qZ (by omega) (.inr (.inl (by omega))) | exact qZ (by omega) (.inr (.inr ⟨by omega, by assumption⟩)))⟩ (by omega) aj rfl)
  | (apply ar; rw [Eb (i := i) (by omega) h2])
theorem qF {G : Glo} (s : List UInt8) (f : Nat) (cs : List AVal) (p : Int → Bool) (hl : s.length ≤ 9223372036854775807) (hp : ∀ c : Nat, c < 256 → FnIs Tryz.prog G f [.int .u8 (c : Int), .rop cs 0] (.bool (p c))) : FnIs Tryz.prog G 38 [.str s, .func (.func f) [] [.rop cs 0]] (.int .i64 (fstB p s)) := by
 have k1 := fun i (_ : 0 ≤ (aa s i : Int)) => hp (aa s i) (aX s i)
 have hGL : ab G [] := ad
 refine fn_x Tryz.func38 Tryz.call38 rfl rfl rfl rfl hGL ?_
 intro C hC
 refine xw1 ?_
 intro bl cap hcap
 refine lp hC hGL (fun (i : Nat) => [(1, .func (.func f) [] [.rop cs 0]), (8, .own 0 (.slice (some ⟨bl, 0, none⟩) s.length cap)), (9, .int .i64 s.length), (10, .int .i64 i)]) (fun _ => [.buf bl s cap]) (fun i => i ≤ s.length ∧ ∀ j, j < i → p (aa s j : Int) = false) (fun i => s.length - i) 0 ?_ aj rfl ?_
 ·exact ⟨Nat.zero_le _, fun j h => absurd h (Nat.not_lt_zero _)⟩
 rintro i ⟨hi, hb0⟩
 refine xw ?_
 repeat' (first | exact Le.n | refine Lc.mk ?_ ?_)
 all_goals intros
 all_goals first
  | (apply ar; rw [gf (i := i) (by omega) (by assumption) hb0])
  | (refine nxt (i + 1) ⟨by omega, bK hb0 (by assumption)⟩ (by omega) aj rfl)
  | (apply ar; rw [dO (fun j hj => hb0 j (by omega))]; rfl)
theorem vm {G : Glo} (b : Bool) (c : Int) : FnIs Tryz.prog G 77 [.int .u8 c, .rop [.bool b] 0] (.bool (hdC b c)) := by
 have h := iB (G := G) c
 have hGL : ab G [] := ad
 refine fn_x Tryz.func77 Tryz.call77 rfl rfl rfl rfl hGL ?_
 intro C hC
 refine xw ?_; refine ⟨fun h1 h2 => ?_, fun h1 h2 => ?_, fun h1 => ?_, .n⟩
 all_goals (apply ar; refine congrArg AVal.bool ?_; first | rw [pP] at h1 | rw [← Bool.not_eq_true, pP] at h1)
 ·rcases h1 with h1 | h1
  ·exact (kG (.inl ⟨h1.1, h1.2, h2⟩)).symm
  ·exact (kG (.inr (.inl h1))).symm
 ·rw [Bool.eq_iff_iff]; cases b
  ·rw [pP]; simp; omega
  ·rw [EX]; simp; omega
 ·cases b
  ·rw [Bool.eq_iff_iff, pP]; simp; omega
  ·rw [Bool.eq_iff_iff, EX]; simp; omega
theorem y7 {G : Glo} (hU : ab G utfTy) (s : List UInt8) (b : Bool) (hl : s.length ≤ 9223372036854775807) : FnIs Tryz.prog G 43 [.str s, .bool b] (.bool (hdB b s)) := by
 have h1 := xm hU s hl
 have h2 := qF (G := G) s 77 [.bool b] (hdC b) hl (fun c _ => vm b c)
 have hGL : ab G [] := ad
 refine fn_x Tryz.func43 Tryz.call43 rfl rfl rfl rfl hGL ?_
 intro C hC
 refine xw ?_; refine ⟨fun h => ?_, fun h => ?_, .n⟩
 all_goals (apply ar; refine congrArg AVal.bool ?_; unfold hdB; rw [Bool.eq_iff_iff]; simp only [lZ, decide_eq_true_eq, reduceCtorEq, false_iff]; omega)
end
section
open Go
attribute [local irreducible] AWp AOps aa ax OrOk ab ae
abbrev nilU : Value := .slice none 0 0
theorem wg {P : Program} [Tab P] {G : Glo} {f : FuncId} {avs : List AVal} {H : Heap} {K Kp : AVal → Heap → Prop} {i j b : Nat} {p v p' v' : Value} {y y' : HEnt} {r : AVal} (hi : H[i]? = some (bldC b p j v)) (hj : H[j]? = some y) (hne : i ≠ j)
  (hs : ae P G f avs [bldC b p 1 v, y] (fun x H => x = .ret r ∧ H = [bldC b p' 1 v', y']))
  (k : bV ((H.set i (bldC b p' j v')).set j y') (K r)) : Cx P G f avs H K Kp := by
 obtain ⟨rest, hp, hp2⟩ := rU hne hi hj
 have h1 : ae P G f avs [bldC b p j v, y] (fun x H => x = .ret r ∧ H = [bldC b p' j v', y']) := by
  refine ya hs ?_
  rintro x H' ⟨rfl, rfl⟩
  exact ⟨_, ⟨rfl, rfl⟩, fun C R w h => qO j h⟩
 refine ⟨fun x H' => x = .ret r ∧ H' = (H.set i (bldC b p' j v')).set j y', gh (gg (H1 := [bldC b p j v, y] ++ rest) hp.symm (cf rest h1)) ?_, ?_, ?_⟩
 ·rintro x H' ⟨H1', ⟨rfl, rfl⟩, rfl⟩
  exact ⟨_, (hp2 _ _).symm, rfl, rfl⟩
 ·rintro v' H' ⟨e, rfl⟩
  cases e
  rw [aP] at k
  exact k
 ·rintro v' H' ⟨e, rfl⟩; cases e
theorem kS {G : Glo} {b : Nat} {p v : Value} (s : List UInt8) (hlen : s.length ≤ 137438953472) : ae Tryz.prog G 114 [.raw (ptrA b)] [bldC b p 1 v, bldR v s] (fun r H => r = .ret (.str s) ∧ H = [bldC b p 1 v, bldR nilU []]) :=
 q6 (fun _ => Iff.rfl) (fun _ _ _ h => h) (rl s hlen) fun r H' ⟨e, eH⟩ => ⟨_, ⟨e, rfl⟩, fun _ _ _ h => by
  rw [eH] at h
  exact (h.ghost (eT := some 5) 1).perm (List.Perm.swap _ _ _)⟩
theorem DY {P : Program} [Tab P] {C : Ctx} {n : Nat} {env : Env} {H : Heap} {Q : AExit → Env → Heap → Prop} {c : Code} (i : Nat) {b : Nat} (hi : H[i]? = some (.cells b (some 184) [.raw (.pointer none), .raw (.slice none 0 0)]))
  (h : Lp P C n c env (H.set i (bldC b (.pointer none) H.length (.slice none 0 0)) ++ [bldR (.slice none 0 0) []]) Q) : Lp P C n c env H Q := by
 refine ⟨kU (eT := some 5) 1 ?_⟩
 have h := h.h
 unfold AWp at h ⊢
 intro R a w hm hf
 obtain ⟨Cs, e, fz, hb, hl, hr⟩ := hm.heap.holds (.cells b (some 184) [.raw (.pointer none), .raw (.slice none 0 0)]) (List.mem_cons_of_mem _ (List.mem_of_getElem? hi))
 obtain ⟨v1, t1, e1, r1, v2, t2, e2, r2, e3⟩ := hl
 have r2' : RelC R (.own H.length (.slice none 0 0)) [v2] := by
  have : v2 = .slice none 0 0 := by simpa [RelC, Value.cells] using r2
  subst this
  simp [RelC, vAgg]
 have h1 := hm.swap (i := i + 1) (x := .cells b (some 184) [.raw (.pointer none), .raw (.slice none 0 0)]) (y := bldC b (.pointer none) H.length (.slice none 0 0)) (by rw [List.getElem?_cons_succ]; exact hi) rfl
  ⟨Cs, e, fz, hb, ⟨v1, t1, e1, r1, v2, t2, e2, r2', e3⟩, hr⟩
 rw [List.set_cons_succ] at h1
 exact h R a w (h1.perm (List.perm_append_singleton _ _).symm) hf
end
section
open Go Go.RowKit
attribute [local irreducible] AWp AOps aa ax OrOk ab ae
theorem o2 {G : Glo} {b : Nat} {p v : Value} : ae Tryz.prog G 133 [.raw (ptrA b)] [bldC b p 1 v, bldR nilU []] (fun r H => r = .ret (.tuple []) ∧ H = [bldC b (.pointer none) 1 nilU, bldR nilU []]) := by
 have key : ae Tryz.prog G 133 [.raw (ptrA b)] [bldC b p 1 v, bldR nilU []] (fun r H => r = .ret (.tuple []) ∧ H = [.cells b (some 184) [.raw (.pointer none), .raw nilU], bldR nilU []]) := by
  have hGL : ab G [] := ad
  refine l5 0 Tryz.func133 Tryz.call133 rfl rfl rfl rfl hGL rfl ?_
  intro C hC
  repeat' (first | (conv => whnf); first | refine .w ?_ | refine .v ?_ | refine sc_c ?_ ?_ <;> (intro hb; try exact dd hb) | apply ah | apply aq | (apply sc_i <;> intro hb) | (apply bx_i; intro hbd) | (apply ak; first | fail) | (apply ap (i := 0) rfl; first | fail) | (apply ab_i; intro bl) | (apply as_i; intro va vk vc hva) | (apply av_i; intro v) | (apply ac_i; intro bl cap hcap) | apply bo_l | (apply nx_i <;> intro hnx) | exact rt_w | apply dw_q mixed hC hGL (by kernel_rfl) | (apply cq; assumption; (first | fail); exact rfl))
  all_goals try conv => whnf
 refine q6 (fun _ => Iff.rfl) (fun _ _ _ h => h) key ?_
 rintro r H' ⟨rfl, rfl⟩
 refine ⟨_, ⟨rfl, rfl⟩, fun C R w h => ?_⟩
 have h0 := h.heap.holds _ List.mem_cons_self
 refine h.swap (i := 0) rfl rfl ?_
 obtain ⟨Cs, el, fz, hW, hr, hl⟩ := h0
 obtain ⟨u1, t1, e1, k1, u2, t2, e2, k2, e3⟩ := hr
 exact ⟨Cs, el, fz, hW, ⟨u1, t1, e1, k1, u2, t2, e2, mF k2, e3⟩, hl⟩
end
section
open Go Go.RowKit
theorem xg (a : List UInt8) : ∀ T : List Tk, (sgP a T).1.length ≤ T.length ∧ (sgP a T).2.1.length ≤ T.length ∧ (sgP a T).2.2.length ≤ T.length := by
 refine dT ⟨Nat.le_refl _, Nat.le_refl _, Nat.le_refl _⟩ fun T t ih => ?_
 rw [fG]
 cases t with
 | one b =>
  unfold fY
  by_cases hb : b ∈ a
  ·simp only [hb, if_true, List.length_append, List.length_singleton, List.length_nil]
   omega
  ·simp only [hb, if_false, List.length_append, List.length_singleton]
   omega
 | two d =>
  unfold fY
  simp only [List.length_append, List.length_singleton]
  omega
theorem nZ (c : UInt8) : ∀ (l : List UInt8) (k : Nat), (0 ≤ idxF (c.toNat : Int) l k ∧ c ∈ l) ∨ (idxF (c.toNat : Int) l k < 0 ∧ c ∉ l)
 | [], k => .inr ⟨by simp [idxF], by simp⟩
 | x :: t, k => by
  unfold idxF
  by_cases h : (x.toNat : Int) = c.toNat
  ·have : x = c := UInt8.toNat_inj.1 (by omega)
   rw [if_pos h]
   exact .inl ⟨by omega, by simp [this]⟩
  ·have hne : c ≠ x := fun e => h (by rw [e])
   rw [if_neg h]
   rcases nZ c t (k + 1) with ⟨h1, h2⟩ | ⟨h1, h2⟩
   ·exact .inl ⟨h1, List.mem_cons_of_mem _ h2⟩
   ·exact .inr ⟨h1, fun h3 => (List.mem_cons.1 h3).elim hne h2⟩
theorem D9 {a : List UInt8} {c : UInt8} (h : 0 ≤ idxB a (c.toNat : Int)) : c ∈ a := by
 rcases nZ c a 0 with ⟨_, h2⟩ | ⟨h1, _⟩
 ·exact h2
 ·unfold idxB at h; omega
theorem BR {a : List UInt8} {c : UInt8} (h : idxB a (c.toNat : Int) < 0) : c ∉ a := by
 rcases nZ c a 0 with ⟨h1, _⟩ | ⟨_, h2⟩
 ·unfold idxB at h; omega
 ·exact h2
theorem AB (a : List UInt8) : sgP a [] = ([], [], []) := rfl
theorem Fm {a : List UInt8} {T : List Tk} {c : UInt8} (h : c ∈ a) : sgP a (T ++ [.one c]) = ((sgP a T).1 ++ [(sgP a T).2.1], [], (sgP a T).2.2 ++ [c]) := by rw [fG]; simp [fY, h]
theorem DC {a : List UInt8} {T : List Tk} {c : UInt8} (h : c ∉ a) : sgP a (T ++ [.one c]) = ((sgP a T).1, (sgP a T).2.1 ++ [c], (sgP a T).2.2) := by rw [fG]; simp [fY, h]
theorem ki {a : List UInt8} {T : List Tk} {d : UInt8} : sgP a (T ++ [.two d]) = ((sgP a T).1, (sgP a T).2.1 ++ [escV d], (sgP a T).2.2) := by rw [fG]; rfl
def pcL (a s : List UInt8) : List (List UInt8) := match errT s 0 with
 | .none => (sgP a (tokT s)).1 ++ [(sgP a (tokT s)).2.1]
 | _ => []
def pcC (a s : List UInt8) : List UInt8 := match errT s 0 with
 | .none => (sgP a (tokT s)).2.2
 | _ => []
theorem nA {a s : List UInt8} (h : errT s 0 = .none) : pcL a s = (sgP a (tokT s)).1 ++ [(sgP a (tokT s)).2.1] := by unfold pcL; rw [h]
theorem vr {a s : List UInt8} (h : errT s 0 = .none) : pcC a s = (sgP a (tokT s)).2.2 := by unfold pcC; rw [h]
theorem A8 {a s : List UInt8} {e p : Int} (h : errT s 0 = .at e p) : pcL a s = [] := by unfold pcL; rw [h]
theorem FJ {a s : List UInt8} {e p : Int} (h : errT s 0 = .at e p) : pcC a s = [] := by unfold pcC; rw [h]
def bytF (l : List UInt8) (i : Nat) : AVal := .int .u8 ((l.getD i 0).toNat : Int)
theorem Et (l : List UInt8) : ∀ i, i < l.length → (bytF l i).cells = ((cM l).drop (i * 1)).take 1 ∧ (bytF l i).plain = true := by
 intro i hi
 refine ⟨?_, rfl⟩
 rw [Nat.mul_one, List.drop_eq_getElem_cons (by simpa using hi)]
 simp [bytF, AVal.cells, List.getD, hi]
theorem BX {s : List UInt8} {i : Nat} (h : i < s.length) : (aa s i : Int) = (s[i].toNat : Int) := (ff h).1 rfl
theorem kA {s : List UInt8} {i : Nat} (h : i < s.length) : UInt8.ofNat ((aa s i : Nat) : Int).toNat = s[i] := by
 have : aa s i = s[i].toNat := by simp [aa, List.getD, List.getElem?_eq_getElem h]
 rw [Int.toNat_natCast, this, UInt8.ofNat_toNat]
set_option maxHeartbeats 8000000
attribute [local irreducible] AWp AOps ax OrOk ab ae aa errT tokT sgP escV idxB
theorem mb {G : Glo} (s a : List UInt8) (hl : s.length ≤ 2000000) : ae Tryz.prog G 98 [.str s, .str a] [] (fun r H =>
  (∃ e p, errT s 0 = .at e p ∧ r = .ret (.tuple [.raw (.slice none 0 0), .raw (.slice none 0 0), atA e p]) ∧ H = []) ∨
  (errT s 0 = .none ∧ ∃ vt vc, r = .ret (.tuple [.own 2 vt, .own 3 vc, .raw .nilIface]) ∧ H = [.row vt none 1 (pcL a s).length (bM (pcL a s)), .row vc none 1 (pcC a s).length (cM (pcC a s))])) := by
 have hI := fun (b : Int) h0 h1 => aL (G := G) a b h0 h1
 have hGL : ab G [] := ad
 refine fn_x Tryz.func98 Tryz.call98 rfl rfl rfl rfl hGL ?_
 intro C hC
 repeat' (first | (conv => whnf); first | refine .w ?_ | refine Ix.v ?_ | refine Sd.v ?_ | refine Sl.v ?_ | apply am | refine sc_d ?_ ?_ <;> (intro hb; try exact dd hb) | apply ah | (apply sc_i <;> intro hb) | (apply bx_i; intro hbd) | (apply ak; first | fail) | (apply ab_i; intro bl) | exact rt_w | exact True.intro | (apply bc_i; intro C hC) | apply bt_i | apply og_n | (apply og_a; exact rfl))
 all_goals try conv => whnf
 refine DY 0 rfl ?_
 refine nJ 4 1 rfl ?_
 refine nJ 5 1 rfl ?_
 refine lp hC hGL (fun (x : (Nat × List Tk) × (List (List UInt8) × List UInt8 × List UInt8) × Value × Value × Value × Value) => [(0, .str s), (1, .str a), (4, .own 2 x.2.2.2.2.1), (5, .own 3 x.2.2.2.2.2), (7, .own 0 (ptrA bl)), (8, .int .i64 (x.1.1 : Nat))]) (fun x => [bldC bl x.2.2.1 1 x.2.2.2.1, bldR x.2.2.2.1 x.2.1.2.1, .row x.2.2.2.2.1 none 1 x.2.1.1.length (bM x.2.1.1), .row x.2.2.2.2.2 none 1 x.2.1.2.2.length (cM x.2.1.2.2)]) (fun x => TokP s x.1.1 x.1.2 ∧ x.1.2.length ≤ x.1.1 ∧ wK bl x.2.2.1 ∧ sgP a x.1.2 = x.2.1) (fun x => s.length - x.1.1) ((0, []), ([], [], []), .pointer none, nilU, nilU, nilU) ?_ aj rfl ?_
 ·exact ⟨pd s, Nat.le_refl _, .inl rfl, AB a⟩
 rintro ⟨⟨i, T⟩, ⟨tx, cur, cu⟩, p, v, vt, vd⟩ ⟨hT, hlT, hp, hS⟩
 dsimp only at hT hlT hp hS
 dsimp only
 have hi := hT.1
 have hv := xg a T
 rw [hS] at hv
 dsimp only at hv
 by_cases hA : i + 1 < s.length ∧ (aa s i : Int) = 92
 ·obtain ⟨hA1, hA2⟩ := hA
  have hok := Bj hA1
  repeat' (first | (conv => whnf); first | refine .w ?_ | refine .v ?_ | refine sc_c ?_ ?_ <;> (intro hb; try exact dd hb) | apply ah | apply aq | (apply sc_i <;> intro hb) | (apply bx_i; intro hbd) | (apply ak; first | fail) | (apply ap (i := 0) rfl; first | fail) | (apply ab_i; intro bl) | (apply as_i; intro va vk vc hva) | (apply av_i; intro v) | (apply ac_i; intro bl cap hcap) | apply bo_l | (apply nx_i <;> intro hnx) | exact rt_w | apply dw_q mixed hC hGL (by kernel_rfl) | (apply cq; assumption; (first | fail); exact rfl))
  all_goals try conv => whnf
  ·have hq : (aa s (i + 1) : Int) = 92 := by assumption
   apply lJ (i := 0) (j := 1) rfl rfl (by decide) (dF hp v cur (aa s (i + 1) : Int) (by omega) (by omega) (by omega))
   intro wa wk wc
   repeat' (first | (conv => whnf); first | refine .w ?_ | refine Ix.v ?_ | refine Sd.v ?_ | refine Sl.v ?_ | apply am | refine sc_d ?_ ?_ <;> (intro hb; try exact dd hb) | apply ah | (apply sc_i <;> intro hb) | (apply bx_i; intro hbd) | (apply ak; first | fail) | (apply ab_i; intro bl) | exact rt_w | exact True.intro | (apply bc_i; intro C hC) | apply bt_i | apply og_n | (apply og_a; exact rfl))
   all_goals try conv => whnf
   refine nxt ((i + 2, T ++ [.two s[i + 1]]), (tx, cur ++ [UInt8.ofNat ((aa s (i + 1) : Int) : Int).toNat], cu), ptrA bl, .slice wa wk wc, vt, vd) ?_ ?_ ⟨rfl, rfl, rfl, rfl, rfl, rfl, trivial⟩ rfl
   ·exact ⟨dq hT hA1 hA2 (by rw [hok]; exact decide_eq_true (by omega)), by simp; omega, .inr rfl, by rw [ki, hS, lF hA1 (by omega), kA hA1]⟩
   ·show s.length - (i + 2) < s.length - i
    omega
  ·have hq : (aa s (i + 1) : Int) = 44 := by assumption
   apply lJ (i := 0) (j := 1) rfl rfl (by decide) (dF hp v cur (aa s (i + 1) : Int) (by omega) (by omega) (by omega))
   intro wa wk wc
   repeat' (first | (conv => whnf); first | refine .w ?_ | refine Ix.v ?_ | refine Sd.v ?_ | refine Sl.v ?_ | apply am | refine sc_d ?_ ?_ <;> (intro hb; try exact dd hb) | apply ah | (apply sc_i <;> intro hb) | (apply bx_i; intro hbd) | (apply ak; first | fail) | (apply ab_i; intro bl) | exact rt_w | exact True.intro | (apply bc_i; intro C hC) | apply bt_i | apply og_n | (apply og_a; exact rfl))
   all_goals try conv => whnf
   refine nxt ((i + 2, T ++ [.two s[i + 1]]), (tx, cur ++ [UInt8.ofNat ((aa s (i + 1) : Int) : Int).toNat], cu), ptrA bl, .slice wa wk wc, vt, vd) ?_ ?_ ⟨rfl, rfl, rfl, rfl, rfl, rfl, trivial⟩ rfl
   ·exact ⟨dq hT hA1 hA2 (by rw [hok]; exact decide_eq_true (by omega)), by simp; omega, .inr rfl, by rw [ki, hS, lF hA1 (by omega), kA hA1]⟩
   ·show s.length - (i + 2) < s.length - i
    omega
  ·have hq : (aa s (i + 1) : Int) = 59 := by assumption
   apply lJ (i := 0) (j := 1) rfl rfl (by decide) (dF hp v cur (aa s (i + 1) : Int) (by omega) (by omega) (by omega))
   intro wa wk wc
   repeat' (first | (conv => whnf); first | refine .w ?_ | refine Ix.v ?_ | refine Sd.v ?_ | refine Sl.v ?_ | apply am | refine sc_d ?_ ?_ <;> (intro hb; try exact dd hb) | apply ah | (apply sc_i <;> intro hb) | (apply bx_i; intro hbd) | (apply ak; first | fail) | (apply ab_i; intro bl) | exact rt_w | exact True.intro | (apply bc_i; intro C hC) | apply bt_i | apply og_n | (apply og_a; exact rfl))
   all_goals try conv => whnf
   refine nxt ((i + 2, T ++ [.two s[i + 1]]), (tx, cur ++ [UInt8.ofNat ((aa s (i + 1) : Int) : Int).toNat], cu), ptrA bl, .slice wa wk wc, vt, vd) ?_ ?_ ⟨rfl, rfl, rfl, rfl, rfl, rfl, trivial⟩ rfl
   ·exact ⟨dq hT hA1 hA2 (by rw [hok]; exact decide_eq_true (by omega)), by simp; omega, .inr rfl, by rw [ki, hS, lF hA1 (by omega), kA hA1]⟩
   ·show s.length - (i + 2) < s.length - i
    omega
  ·have hq : (aa s (i + 1) : Int) = 110 := by assumption
   apply lJ (i := 0) (j := 1) rfl rfl (by decide) (dF hp v cur 10 (by omega) (by omega) (by omega))
   intro wa wk wc
   repeat' (first | (conv => whnf); first | refine .w ?_ | refine Ix.v ?_ | refine Sd.v ?_ | refine Sl.v ?_ | apply am | refine sc_d ?_ ?_ <;> (intro hb; try exact dd hb) | apply ah | (apply sc_i <;> intro hb) | (apply bx_i; intro hbd) | (apply ak; first | fail) | (apply ab_i; intro bl) | exact rt_w | exact True.intro | (apply bc_i; intro C hC) | apply bt_i | apply og_n | (apply og_a; exact rfl))
   all_goals try conv => whnf
   refine nxt ((i + 2, T ++ [.two s[i + 1]]), (tx, cur ++ [UInt8.ofNat (10 : Int).toNat], cu), ptrA bl, .slice wa wk wc, vt, vd) ?_ ?_ ⟨rfl, rfl, rfl, rfl, rfl, rfl, trivial⟩ rfl
   ·exact ⟨dq hT hA1 hA2 (by rw [hok]; exact decide_eq_true (by omega)), by simp; omega, .inr rfl, by rw [ki, hS, q8 hA1 (by omega)]; rfl⟩
   ·show s.length - (i + 2) < s.length - i
    omega
  ·have hq : (aa s (i + 1) : Int) = 78 := by assumption
   apply lJ (i := 0) (j := 1) rfl rfl (by decide) (dF hp v cur 10 (by omega) (by omega) (by omega))
   intro wa wk wc
   repeat' (first | (conv => whnf); first | refine .w ?_ | refine Ix.v ?_ | refine Sd.v ?_ | refine Sl.v ?_ | apply am | refine sc_d ?_ ?_ <;> (intro hb; try exact dd hb) | apply ah | (apply sc_i <;> intro hb) | (apply bx_i; intro hbd) | (apply ak; first | fail) | (apply ab_i; intro bl) | exact rt_w | exact True.intro | (apply bc_i; intro C hC) | apply bt_i | apply og_n | (apply og_a; exact rfl))
   all_goals try conv => whnf
   refine nxt ((i + 2, T ++ [.two s[i + 1]]), (tx, cur ++ [UInt8.ofNat (10 : Int).toNat], cu), ptrA bl, .slice wa wk wc, vt, vd) ?_ ?_ ⟨rfl, rfl, rfl, rfl, rfl, rfl, trivial⟩ rfl
   ·exact ⟨dq hT hA1 hA2 (by rw [hok]; exact decide_eq_true (by omega)), by simp; omega, .inr rfl, by rw [ki, hS, q8 hA1 (by omega)]; rfl⟩
   ·show s.length - (i + 2) < s.length - i
    omega
  ·have q1 : (aa s (i + 1) : Int) ≠ 92 := by assumption
   have q2 : (aa s (i + 1) : Int) ≠ 44 := by assumption
   have q3 : (aa s (i + 1) : Int) ≠ 59 := by assumption
   have q4 : (aa s (i + 1) : Int) ≠ 110 := by assumption
   have q5 : (aa s (i + 1) : Int) ≠ 78 := by assumption
   have he := rX hT hA1 hA2 (by rw [hok]; exact decide_eq_false (by omega))
   exact ⟨_, List.nil_sublist _, .inl ⟨_, _, he, rfl, rfl⟩⟩
 ·repeat' (first | (conv => whnf); first | refine .w ?_ | refine .v ?_ | refine sc_c ?_ ?_ <;> (intro hb; try exact dd hb) | apply ah | apply aq | (apply sc_i <;> intro hb) | (apply bx_i; intro hbd) | (apply ak; first | exact hI _ (by omega) (by omega)) | (apply ap (i := 0) rfl; first | exact hI _ (by omega) (by omega)) | (apply ab_i; intro bl) | (apply as_i; intro va vk vc hva) | (apply av_i; intro v) | (apply ac_i; intro bl cap hcap) | apply bo_l | (apply nx_i <;> intro hnx) | exact rt_w | apply dw_q mixed hC hGL (by kernel_rfl) | (apply cq; assumption; (first | exact hI _ (by omega) (by omega)); exact rfl))
  all_goals try conv => whnf
  ·have he := pc hT (by omega) (by assumption)
   exact ⟨_, List.nil_sublist _, .inl ⟨_, _, he, rfl, rfl⟩⟩
  ·have hlt : i < s.length := by omega
   have hne : (aa s i : Int) ≠ 92 := by assumption
   have hin : 0 ≤ idxB a (aa s i : Int) := by assumption
   rw [BX hlt] at hin
   refine wg (i := 0) (j := 1) rfl rfl (by decide) (kS cur (by omega)) ?_
   repeat' (first | (conv => whnf); first | refine .w ?_ | refine .v ?_ | refine sc_c ?_ ?_ <;> (intro hb; try exact dd hb) | apply ah | apply aq | (apply sc_i <;> intro hb) | (apply bx_i; intro hbd) | (apply ak; first | fail) | (apply ap (i := 0) rfl; first | fail) | (apply ab_i; intro bl) | (apply as_i; intro va vk vc hva) | (apply av_i; intro v) | (apply ac_i; intro bl cap hcap) | apply bo_l | (apply nx_i <;> intro hnx) | exact rt_w | apply dw_q mixed hC hGL (by kernel_rfl) | (apply cq; assumption; (first | fail); exact rfl))
   all_goals try conv => whnf
   refine wg (i := 0) (j := 1) rfl rfl (by decide) o2 ?_
   repeat' (first | (conv => whnf); first | refine .w ?_ | refine Ix.v ?_ | refine Sd.v ?_ | refine Sl.v ?_ | apply am | refine sc_d ?_ ?_ <;> (intro hb; try exact dd hb) | apply ah | (apply sc_i <;> intro hb) | (apply bx_i; intro hbd) | (apply ak; first | fail) | (apply ab_i; intro bl) | exact rt_w | exact True.intro | (apply bc_i; intro C hC) | apply bt_i | apply og_n | (apply og_a; exact rfl))
   all_goals try conv => whnf
   refine nxt ((i + 1, T ++ [.one s[i]]), (tx ++ [cur], [], cu ++ [s[i]]), .pointer none, nilU, _, _) ?_ ?_ ⟨rfl, rfl, rfl, rfl, rfl, rfl, trivial⟩ ?_
   ·exact ⟨mY hT hlt hne, by simp; omega, .inl rfl, by rw [Fm (D9 hin), hS]⟩
   ·show s.length - (i + 1) < s.length - i
    omega
   ·dsimp only
    rw [← cx, List.length_append, List.length_append, show cM (cu ++ [s[i]]) = cM cu ++ [.int .u8 (aa s i : Int)] by rw [BX hlt]; simp]
    rfl
  ·have hlt : i < s.length := by omega
   have hne : (aa s i : Int) ≠ 92 := by assumption
   have hin : idxB a (aa s i : Int) < 0 := by assumption
   rw [BX hlt] at hin
   apply lJ (i := 0) (j := 1) rfl rfl (by decide) (dF hp v cur (aa s i : Int) (by omega) (by omega) (by omega))
   intro wa wk wc
   repeat' (first | (conv => whnf); first | refine .w ?_ | refine Ix.v ?_ | refine Sd.v ?_ | refine Sl.v ?_ | apply am | refine sc_d ?_ ?_ <;> (intro hb; try exact dd hb) | apply ah | (apply sc_i <;> intro hb) | (apply bx_i; intro hbd) | (apply ak; first | fail) | (apply ab_i; intro bl) | exact rt_w | exact True.intro | (apply bc_i; intro C hC) | apply bt_i | apply og_n | (apply og_a; exact rfl))
   all_goals try conv => whnf
   refine nxt ((i + 1, T ++ [.one s[i]]), (tx, cur ++ [UInt8.ofNat ((aa s i : Int) : Int).toNat], cu), ptrA bl, .slice wa wk wc, vt, vd) ?_ ?_ ⟨rfl, rfl, rfl, rfl, rfl, rfl, trivial⟩ rfl
   ·exact ⟨mY hT hlt hne, by simp; omega, .inr rfl, by rw [DC (BR hin), hS, kA hlt]⟩
   ·show s.length - (i + 1) < s.length - i
    omega
  ·have hlt : s.length ≤ i := by omega
   refine wg (i := 0) (j := 1) rfl rfl (by decide) (kS cur (by omega)) ?_
   repeat' (first | (conv => whnf); first | refine .w ?_ | refine .v ?_ | refine sc_c ?_ ?_ <;> (intro hb; try exact dd hb) | apply ah | apply aq | (apply sc_i <;> intro hb) | (apply bx_i; intro hbd) | (apply ak; first | fail) | (apply ap (i := 0) rfl; first | fail) | (apply ab_i; intro bl) | (apply as_i; intro va vk vc hva) | (apply av_i; intro v) | (apply ac_i; intro bl cap hcap) | apply bo_l | (apply nx_i <;> intro hnx) | exact rt_w | apply dw_q mixed hC hGL (by kernel_rfl) | (apply cq; assumption; (first | fail); exact rfl))
   all_goals try conv => whnf
   obtain ⟨he, ht⟩ := rW hT hlt
   refine ⟨_, .cons _ (.cons _ (.refl _)), .inr ⟨he, _, _, rfl, ?_⟩⟩
   rw [nA he, vr he, ht, hS]
   dsimp only
   rw [← cx, List.length_append]
   rfl
end
section
open Go Go.RowKit
theorem Aj {R R' : Seal} {a a' b b' c : AVal} {x : Value} (hle : R.le R') (h : Rel R (.tuple [a, b, c]) x) (ha : ∀ v, Rel R a v → Rel R' a' v) (hb : ∀ v, Rel R b v → Rel R' b' v) : Rel R' (.tuple [a', b', c]) x := by
 obtain ⟨⟨ws, e, u, t, e1, hu, u2, t2, e2, hu2, u3, t3, e3, hu3, rfl⟩, h2⟩ := h
 have k := ha u ⟨hu.1, hu.2⟩
 have k2 := hb u2 ⟨hu2.1, hu2.2⟩
 have k3 := cD hle (show Rel R c u3 from ⟨hu3.1, hu3.2⟩)
 exact ⟨⟨ws, e, _, _, e1, ⟨k.1, k.2⟩, _, _, e2, ⟨k2.1, k2.2⟩, _, _, e3, ⟨k3.1, k3.2⟩, rfl⟩, h2⟩
theorem xE {R : Seal} {sz : Nat} {f : Nat → AVal} {v : Value} (h : Rel R (.raw (.slice none 0 0)) v) : Rel R (.list sz 0 f) v := by
 rw [an] at h
 subst h
 exact ⟨⟨none, 0, rfl, Nat.le_refl _, .inl rfl⟩, rfl⟩
theorem fX {G : Glo} (s a : List UInt8) (hl : s.length ≤ 2000000) : FnIs Tryz.prog G 98 [.str s, .str a] (.tuple [.list 1 (pcL a s).length (aO (pcL a s)), .list 1 (pcC a s).length (bytF (pcC a s)), (errT s 0).A]) := by
 refine dz (mb s a hl) ?_
 rintro r H (⟨e, p, he, rfl, rfl⟩ | ⟨he, vt, vc, rfl, rfl⟩)
 ·rintro C R w en hm ⟨x, rfl, hx⟩
  rw [A8 he, FJ he, he]
  exact ⟨R, hm, x, rfl, Aj (Seal.le_refl R) hx (fun v => xE) (fun v => xE)⟩
 ·rintro C R w en hm ⟨x, rfl, hx⟩
  obtain ⟨R1, l1, m1, r1⟩ := hm.seal_row (f := aO (pcL a s)) (dS _)
  obtain ⟨R2, l2, m2, r2⟩ := m1.seal_row (f := bytF (pcC a s)) (Et _)
  rw [he]
  exact ⟨R2, m2, x, rfl, Aj (Seal.le_trans l1 l2) hx (fun v h => by rw [(aA.1 h).1]; exact cD l2 r1) (fun v h => by rw [(aA.1 h).1]; exact r2)⟩
theorem lG (s : List UInt8) : errT s 0 = .none ∨ ∃ e p, errT s 0 = .at e p := by
 rcases jn s.length s 0 (Nat.le_refl _) with k | ⟨p, k⟩ | ⟨p, k⟩
 ·exact .inl k
 ·exact .inr ⟨_, _, k⟩
 ·exact .inr ⟨_, _, k⟩
theorem A7 {s : List UInt8} (h : errT s 0 = .none) : pcL [] s = [unS s] := by
 rw [nA h, DD, uB h]
 rfl
theorem za (s : List UInt8) : pcL [44] s = lstS s := by
 rcases lG s with h | ⟨e, p, h⟩
 ·rw [nA h, qQ h, qP, (xd 44 _).1, (xd 44 _).2]
 ·rw [A8 h, xL (by rw [h]; exact fun k => by cases k)]
set_option maxHeartbeats 8000000
attribute [local irreducible] AWp AOps ax OrOk ab ae aa errT tokT pcL pcC unS lstS
theorem oC {G : Glo} (s : List UInt8) (hl : s.length ≤ 2000000) : FnIs Tryz.prog G 62 [.str s] (.tuple [.str (unS s), (errT s 0).A]) := by
 have hP := fX (G := G) s [] hl
 rcases lG s with h | ⟨e, p, h⟩
 ·rw [h, A7 h] at hP
  rw [h]
  have hGL : ab G [] := ad
  refine fn_x Tryz.func62 Tryz.call62 rfl rfl rfl rfl hGL ?_
  intro C hC
  repeat' (first | (conv => whnf); first | refine .w ?_ | refine .v ?_ | refine sc_c ?_ ?_ <;> (intro hb; try exact dd hb) | apply ah | apply aq | (apply sc_i <;> intro hb) | (apply bx_i; intro hbd) | (apply ak; first | exact hP) | (apply ap (i := 0) rfl; first | exact hP) | (apply ab_i; intro bl) | (apply as_i; intro va vk vc hva) | (apply av_i; intro v) | (apply ac_i; intro bl cap hcap) | apply bo_l | (apply nx_i <;> intro hnx) | exact rt_w | apply dw_q mixed hC hGL (by kernel_rfl) | (apply cq; assumption; (first | exact hP); exact rfl))
  all_goals try conv => whnf
 ·rw [h] at hP
  rw [h, uC h]
  have hGL : ab G [] := ad
  refine fn_x Tryz.func62 Tryz.call62 rfl rfl rfl rfl hGL ?_
  intro C hC
  repeat' (first | (conv => whnf); first | refine .w ?_ | refine .v ?_ | refine sc_c ?_ ?_ <;> (intro hb; try exact dd hb) | apply ah | apply aq | (apply sc_i <;> intro hb) | (apply bx_i; intro hbd) | (apply ak; first | exact hP) | (apply ap (i := 0) rfl; first | exact hP) | (apply ab_i; intro bl) | (apply as_i; intro va vk vc hva) | (apply av_i; intro v) | (apply ac_i; intro bl cap hcap) | apply bo_l | (apply nx_i <;> intro hnx) | exact rt_w | apply dw_q mixed hC hGL (by kernel_rfl) | (apply cq; assumption; (first | exact hP); exact rfl))
  all_goals try conv => whnf
theorem yI {G : Glo} (s : List UInt8) (hl : s.length ≤ 2000000) : FnIs Tryz.prog G 63 [.str s] (.tuple [.list 1 (lstS s).length (aO (lstS s)), (errT s 0).A]) := by
 have hP := fX (G := G) s [44] hl
 rw [za] at hP
 have hGL : ab G [] := ad
 refine fn_x Tryz.func63 Tryz.call63 rfl rfl rfl rfl hGL ?_
 intro C hC
 repeat' (first | (conv => whnf); first | refine .w ?_ | refine .v ?_ | refine sc_c ?_ ?_ <;> (intro hb; try exact dd hb) | apply ah | apply aq | (apply sc_i <;> intro hb) | (apply bx_i; intro hbd) | (apply ak; first | exact hP) | (apply ap (i := 0) rfl; first | exact hP) | (apply ab_i; intro bl) | (apply as_i; intro va vk vc hva) | (apply av_i; intro v) | (apply ac_i; intro bl cap hcap) | apply bo_l | (apply nx_i <;> intro hnx) | exact rt_w | apply dw_q mixed hC hGL (by kernel_rfl) | (apply cq; assumption; (first | exact hP); exact rfl))
 all_goals try conv => whnf
end
section
open Go Go.RowKit
def grpK (l : List (List UInt8)) (cuts : List UInt8) (k : Nat) : List (List (List UInt8)) := ((cuts.zip l.tail).take k).foldl jw [[l.headD []]]
theorem zm (l : List (List UInt8)) (cuts : List UInt8) : grpK l cuts 0 = [] ++ [[l.headD []]] := rfl
theorem zn {l : List (List UInt8)} {cuts : List UInt8} (hl : l.length = cuts.length + 1) {k : Nat} (hk : k < cuts.length) : grpK l cuts (k + 1) = jw (grpK l cuts k) (cuts.getD k 0, l.getD (k + 1) []) := by
 unfold grpK
 have h1 : k < (cuts.zip l.tail).length := by rw [List.length_zip, List.length_tail]; omega
 rw [List.take_succ_eq_append_getElem h1, List.foldl_append]
 have e : (cuts.zip l.tail)[k] = (cuts.getD k 0, l.getD (k + 1) []) := by
  have h2 : k + 1 < l.length := by omega
  rw [List.getElem_zip]
  simp [List.getD, hk, h2]
 rw [e]
 rfl
theorem BT {l : List (List UInt8)} {cuts : List UInt8} (hl : l.length = cuts.length + 1) : grpK l cuts cuts.length = grpS l cuts := by
 unfold grpK grpS
 rw [List.take_of_length_le (by rw [List.length_zip]; omega)]
theorem FG {s : List UInt8} (h : errT s 0 = .none) : (pcL [44, 59] s).length = (pcC [44, 59] s).length + 1 := by
 rw [nA h, vr h]
 have := (w9 (tokT s)).1
 simp [this]
theorem FH {s : List UInt8} (h : errT s 0 = .none) : grpS (pcL [44, 59] s) (pcC [44, 59] s) = prtS s := by
 rw [nA h, vr h, xy h, Ec]
 rfl
theorem xq : ∀ T : List Tk, T.length ≤ (rawT T).length
 | [] => Nat.le_refl _
 | t :: T => by
  have ih := xq T
  rw [show rawT (t :: T) = t.raw ++ rawT T from rfl, List.length_append, List.length_cons]
  cases t with
  | one c => show _ ≤ 1 + _; omega
  | two d => show _ ≤ 2 + _; omega
theorem FI (a : List UInt8) (s : List UInt8) : (pcC a s).length ≤ s.length := by
 unfold pcC
 split
 ·have h1 := (xg a (tokT s)).2.2
  have h2 := xq (tokT s)
  rename_i he
  rw [mB s.length s 0 (Nat.le_refl _) he] at h2
  omega
 ·exact Nat.zero_le _
theorem B3 {A : List AVal} {x w : AVal} {N : Nat} (hA : A.length = N) : (A ++ [x]).take N ++ [w] ++ (A ++ [x]).drop (N + 1) = A ++ [w] := by
 subst hA
 simp
theorem Dm {C : Ctx} {n : Nat} {e : Env} {h h' : Heap} (hp : h.Perm h') : To C n e h e h' := fun R _ _ hm hf => ⟨R, Seal.le_refl R, hm.perm hp, hf⟩
theorem Dk {C : Ctx} {n : Nat} {e : Env} {I : List (List (List UInt8))} {l : List (List UInt8)} {u : Value} {b cap m : Nat} (hm : m = (I ++ [l]).length + 1) : To C n e [.row u none 1 l.length (bM l), .row (.slice (some ⟨b, 0, none⟩) m cap) none 1 m (prtC I ++ [.own 0 u] ++ [.raw (.slice none 0 0)])] e
  [.row nilU none 1 0 [], .row (.slice (some ⟨b, 0, none⟩) ((I ++ [l]).length + 1) cap) none 1 ((I ++ [l]).length + 1) (prtC (I ++ [l]) ++ [.own 0 nilU])] := by
 subst hm
 have hI : (prtC I).length = I.length := by simp [prtC]
 have hI2 : (prtC (I ++ [l])).length = (I ++ [l]).length := by simp [prtC]
 refine aN (qc (i := 0) (k := 0) (p := I.length) (aO l) rfl rfl (dS _) (fun R hr => .row (a := .own 0 u) ?_ fun _ => gC hr)) ?_
 ·rw [List.append_assoc, List.getElem?_append_right (by omega), hI, Nat.sub_self]; rfl
 have e1 : (prtC I ++ [AVal.own 0 u] ++ [AVal.raw (.slice none 0 0)]).set I.length (.list 1 l.length (aO l)) = prtC (I ++ [l]) ++ [.raw (.slice none 0 0)] := by
  rw [List.append_assoc, List.set_append_right _ _ (by omega), hI, Nat.sub_self, ← lv, List.append_assoc]
  rfl
 rw [e1]
 refine aN (j7 1) (aN (Dm (List.Perm.swap _ _ _)) ?_)
 have e2 : (prtC (I ++ [l]) ++ [AVal.raw (.slice none 0 0)]).set (I ++ [l]).length (.own 0 (.slice none 0 0)) = prtC (I ++ [l]) ++ [.own 0 nilU] := by
  rw [List.set_append_right _ _ (by omega), hI2, Nat.sub_self]
  rfl
 rw [← e2]
 refine qd (i := 1) (p := (I ++ [l]).length) (x := .row (.slice (some ⟨b, 0, none⟩) ((I ++ [l]).length + 1) cap) none 1 ((I ++ [l]).length + 1) (prtC (I ++ [l]) ++ [.raw (.slice none 0 0)])) (a' := .own 0 (.slice none 0 0)) rfl (fun R => .row (a := .raw (.slice none 0 0)) ?_ fun _ => mF)
 rw [List.getElem?_append_right (by omega), hI2, Nat.sub_self]; rfl
set_option maxHeartbeats 8000000
attribute [local irreducible] AWp AOps ax OrOk ab ae aa errT tokT pcL pcC unS lstS prtS grpK
theorem mZ {G : Glo} (s : List UInt8) (hl : s.length ≤ 2000000) (he : errT s 0 = .none) : ae Tryz.prog G 64 [.str s] [] (fun r H => ∃ I l u v, I ++ [l] = prtS s ∧ r = .ret (.tuple [.own 1 v, .raw .nilIface]) ∧ H = [.row u none 1 l.length (bM l), .row v none 1 (I.length + 1) (prtC I ++ [.own 0 u])]) := by
 have hP := fX (G := G) s [44, 59] hl
 rw [he] at hP
 have hn := FG he
 have hg := FH he
 have hc := FI [44, 59] s
 generalize pcL [44, 59] s = L at *
 generalize pcC [44, 59] s = cu at *
 have hGL : ab G [] := ad
 refine fn_x Tryz.func64 Tryz.call64 rfl rfl rfl rfl hGL ?_
 intro C hC
 repeat' (first | (conv => whnf); first | refine .w ?_ | refine .v ?_ | refine sc_c ?_ ?_ <;> (intro hb; try exact dd hb) | apply ah | apply aq | (apply sc_i <;> intro hb) | (apply bx_i; intro hbd) | (apply ak; first | exact hP) | (apply ap (i := 0) rfl; first | exact hP) | (apply ab_i; intro bl) | (apply as_i; intro va vk vc hva) | (apply av_i; intro v) | (apply ac_i; intro bl cap hcap) | apply bo_r | (apply nx_i <;> intro hnx) | exact rt_w | exact True.intro | (apply bc_i; intro C hC) | apply bt_i | apply og_n | (apply og_a; exact rfl))
 all_goals try conv => whnf
 rename_i va1 vk1 vc1 hva1
 obtain ⟨bv, rfl, rfl⟩ := hva (by decide)
 refine lpT hC hGL (fun (x : Nat × List (List (List UInt8)) × List (List UInt8) × Nat × Nat × Value) => [(4, .list 1 L.length (aO L)), (7, .own 1 (.slice (some ⟨x.2.2.2.1, 0, none⟩) (x.2.1.length + 1) x.2.2.2.2.1)), (25, .list 1 cu.length (bytF cu)), (26, .int .i64 (cu.length : Nat)), (27, .int .i64 (x.1 : Nat))])
  (fun x => [.row x.2.2.2.2.2 none 1 x.2.2.1.length (bM x.2.2.1), .row (.slice (some ⟨x.2.2.2.1, 0, none⟩) (x.2.1.length + 1) x.2.2.2.2.1) none 1 (x.2.1.length + 1) (prtC x.2.1 ++ [.own 0 x.2.2.2.2.2])])
  (fun x => x.1 ≤ cu.length ∧ x.2.1 ++ [x.2.2.1] = grpK L cu x.1 ∧ x.2.1.length ≤ x.1 ∧ x.2.2.1.length ≤ x.1 + 1) (fun x => cu.length - x.1) (0, [], [L.getD 0 []], bv, vc, .slice va1 vk1 vc1) ?_ ?_ ?_
 ·refine ⟨Nat.zero_le _, ?_, Nat.le_refl _, Nat.le_refl _⟩
  rw [zm]
  cases L <;> rfl
 ·exact dl ⟨rfl, rfl, rfl, rfl, rfl, trivial⟩ (List.Sublist.refl _)
 rintro ⟨k, I, l, b, cap, u⟩ ⟨g1, g2, g3, g4⟩
 dsimp only at g1 g2 g3 g4 ⊢
 have hIl : (prtC I).length = I.length := by simp [prtC]
 by_cases hk : k < cu.length
 ·have gs := zn hn hk
  rw [← g2] at gs
  by_cases hc59 : cu.getD k 0 = 59
  ·have hcb : ((cu.getD k 0).toNat : Int) = 59 := by rw [hc59]; rfl
   repeat' (first | (conv => whnf); first | refine .w ?_ | refine .v ?_ | refine sc_c ?_ ?_ <;> (intro hb; try exact dd hb) | apply ah | apply aq | (apply sc_i <;> intro hb) | (apply bx_i; intro hbd) | (apply ak; first | fail) | (apply ap (i := 0) rfl; first | fail) | (apply ab_i; intro bl) | (apply as_i; intro va vk vc hva) | (apply av_i; intro v) | (apply ac_i; intro bl cap hcap) | apply bo_l | (apply nx_i <;> intro hnx) | exact rt_w | exact True.intro | (apply bc_i; intro C hC) | apply bt_i | apply og_n | (apply og_a; exact rfl))
   all_goals try conv => whnf
   obtain ⟨b2, rfl, rfl⟩ := hva (by omega)
   refine eq (e' := [(8, .int .i64 (k : Nat)), (10, .int .i64 ((I ++ [l]).length : Nat)), (4, .list 1 L.length (aO L)), (7, .own 1 (.slice (some ⟨b2, 0, none⟩) ((I ++ [l]).length + 1) vc)), (25, .list 1 cu.length (bytF cu)), (26, .int .i64 (cu.length : Nat)), (27, .int .i64 (k : Nat))]) (aN (dl (e' := [(8, .int .i64 (k : Nat)), (10, .int .i64 ((I ++ [l]).length : Nat)), (4, .list 1 L.length (aO L)), (7, .own 1 (.slice (some ⟨b2, 0, none⟩) ((I ++ [l]).length + 1) vc)), (25, .list 1 cu.length (bytF cu)), (26, .int .i64 (cu.length : Nat)), (27, .int .i64 (k : Nat))]) ⟨rfl, congrArg (fun z => some (AVal.int .i64 z)) (by rw [List.length_append, List.length_singleton]; omega), rfl, congrArg (fun z => some (AVal.own 1 (.slice (some ⟨b2, 0, none⟩) z vc))) (by rw [List.length_append]; rfl), rfl, rfl, rfl, trivial⟩ (List.Sublist.refl _)) (Dk (by rw [List.length_append]; rfl))) ?_
   have hI2 : (prtC (I ++ [l])).length = (I ++ [l]).length := by simp [prtC]
   have hn2 : (I ++ [l]).length = I.length + 1 := by simp
   generalize hI3 : I ++ [l] = I2 at *
   have q2 : (prtC I2 ++ [AVal.own 0 nilU])[I2.length]? = some (.own 0 nilU) := by rw [List.getElem?_append_right (by omega), hI2, Nat.sub_self]; rfl
   have ra : ct (.slice (some ⟨b2, 0, none⟩) (I2.length + 1) vc) b2 (I2.length + 1) := ⟨vc, rfl⟩
   have ra2 : ct (.slice (some ⟨b2, 0, none⟩) (I2.length + 1) vc) b2 (I2.length + 1) ∧ I2.length < (I2.length + 1) * 1 := ⟨ra, by omega⟩
   refine dw_p mixed hC hGL false (fun (_ : Option Addr × Nat × Nat) => [(4, .list 1 L.length (aO L)), (7, .own 1 (.slice (some ⟨b2, 0, none⟩) (I2.length + 1) vc)), (25, .list 1 cu.length (bytF cu)), (26, .int .i64 (cu.length : Nat)), (27, .int .i64 (k : Nat))]) (fun y => [.row (.slice y.1 y.2.1 y.2.2) none 1 (0 + 1) ([] ++ [.str (L.getD (k + 1) [])]), .row (.slice (some ⟨b2, 0, none⟩) (I2.length + 1) vc) none 1 (I2.length + 1) ((prtC I2 ++ [AVal.own 0 nilU]).take I2.length ++ [.own 0 (.slice y.1 y.2.1 y.2.2)] ++ (prtC I2 ++ [AVal.own 0 nilU]).drop (I2.length + 1))]) (.take 0 (.take 1 (.take 2 (.take 3 (.take 4 (.take 6 (.take 7 (.take 8 (.take 9 (.br 5 (.br 10 (.br 11 (.br 12 (.take 13 (.br 14 (.done) (.nil))) (.nil)) (.nil)) (.nil)) (.br 10 (.br 5 (.br 11 (.br 12 (.take 13 (.br 14 (.done) (.nil))) (.nil)) (.nil)) (.br 11 (.br 5 (.br 12 (.take 13 (.br 14 (.done) (.nil))) (.nil)) (.nil)) (.nil))) (.nil)))))))))))) (by kernel_rfl) ?_ ?_
   ·repeat' (first | (conv => whnf); first | refine .w ?_ | refine .v ?_ | refine sc_c ?_ ?_ <;> (intro hb; try exact dd hb) | apply ah | apply aq | (apply sc_i <;> intro hb) | (apply bx_i; intro hbd) | (apply ak; first | fail) | (apply ap (i := 0) rfl; first | fail) | (apply ab_i; intro bl) | (apply as_i; intro va vk vc hva) | (apply av_i; intro v) | (apply ac_i; intro bl cap hcap) | apply bo_l | (apply nx_i <;> intro hnx) | exact rt_w | exact True.intro | (apply bc_i; intro C hC) | apply bt_i | apply og_n | (apply og_a; exact rfl))
    all_goals try conv => whnf
    all_goals exact ⟨(_, _, _), ⟨rfl, rfl, rfl, rfl, rfl, trivial⟩, rfl⟩
   rintro ⟨wa, wk, wc⟩
   dsimp only
   rw [B3 hI2]
   repeat' (first | (conv => whnf); first | refine .w ?_ | refine .v ?_ | refine sc_c ?_ ?_ <;> (intro hb; try exact dd hb) | apply ah | apply aq | (apply sc_i <;> intro hb) | (apply bx_i; intro hbd) | (apply ak; first | fail) | (apply ap (i := 0) rfl; first | fail) | (apply ab_i; intro bl) | (apply as_i; intro va vk vc hva) | (apply av_i; intro v) | (apply ac_i; intro bl cap hcap) | apply bo_l | (apply nx_i <;> intro hnx) | exact rt_w | exact True.intro | (apply bc_i; intro C hC) | apply bt_i | apply og_n | (apply og_a; exact rfl))
   all_goals try conv => whnf
   refine nxT (k + 1, I2, [L.getD (k + 1) []], b2, vc, .slice wa wk wc) ⟨hk, ?_, by dsimp only; omega, by simp⟩ (show cu.length - (k + 1) < cu.length - k by omega) ?_
   ·dsimp only
    rw [gs, show jw I2 (cu.getD k 0, L.getD (k + 1) []) = nQ (I2 ++ [[]]) (L.getD (k + 1) []) by unfold jw; rw [if_pos hc59], gY]
    rfl
   ·dsimp only
    exact dl ⟨rfl, rfl, rfl, rfl, rfl, trivial⟩ (List.Sublist.refl _)
  ·have hcb : ((cu.getD k 0).toNat : Int) ≠ 59 := fun h => hc59 (UInt8.toNat_inj.1 (by have : (59 : UInt8).toNat = 59 := rfl; omega))
   have q2 : (prtC I ++ [AVal.own 0 u])[I.length]? = some (.own 0 u) := by rw [List.getElem?_append_right (by omega), hIl, Nat.sub_self]; rfl
   have ra : ct (.slice (some ⟨b, 0, none⟩) (I.length + 1) cap) b (I.length + 1) := ⟨cap, rfl⟩
   have ra2 : ct (.slice (some ⟨b, 0, none⟩) (I.length + 1) cap) b (I.length + 1) ∧ I.length < (I.length + 1) * 1 := ⟨ra, by omega⟩
   repeat' (first | (conv => whnf); first | refine .w ?_ | refine .v ?_ | refine sc_c ?_ ?_ <;> (intro hb; try exact dd hb) | apply ah | apply aq | (apply sc_i <;> intro hb) | (apply bx_i; intro hbd) | (apply ak; first | fail) | (apply ap (i := 0) rfl; first | fail) | (apply ab_i; intro bl) | (apply as_i; intro va vk vc hva) | (apply av_i; intro v) | (apply ac_i; intro bl cap hcap) | apply bo_l | (apply nx_i <;> intro hnx) | exact rt_w | exact True.intro | (apply bc_i; intro C hC) | apply bt_i | apply og_n | (apply og_a; exact rfl))
   all_goals try conv => whnf
   refine eq (e' := [(8, .int .i64 (k : Nat)), (10, .int .i64 (I.length : Nat)), (4, .list 1 L.length (aO L)), (7, .own 1 (.slice (some ⟨b, 0, none⟩) (I.length + 1) cap)), (25, .list 1 cu.length (bytF cu)), (26, .int .i64 (cu.length : Nat)), (27, .int .i64 (k : Nat))]) (dl ⟨rfl, congrArg (fun z => some (AVal.int .i64 z)) (by omega), rfl, rfl, rfl, rfl, rfl, trivial⟩ (List.Sublist.refl _)) ?_
   refine dw_p mixed hC hGL false (fun (_ : Option Addr × Nat × Nat) => [(4, .list 1 L.length (aO L)), (7, .own 1 (.slice (some ⟨b, 0, none⟩) (I.length + 1) cap)), (25, .list 1 cu.length (bytF cu)), (26, .int .i64 (cu.length : Nat)), (27, .int .i64 (k : Nat))]) (fun y => [.row (.slice y.1 y.2.1 y.2.2) none 1 (l.length + 1) (bM l ++ [.str (L.getD (k + 1) [])]), .row (.slice (some ⟨b, 0, none⟩) (I.length + 1) cap) none 1 (I.length + 1) ((prtC I ++ [AVal.own 0 u]).take I.length ++ [.own 0 (.slice y.1 y.2.1 y.2.2)] ++ (prtC I ++ [AVal.own 0 u]).drop (I.length + 1))]) (.take 0 (.take 1 (.take 2 (.take 3 (.take 4 (.take 6 (.take 7 (.take 8 (.take 9 (.br 5 (.br 10 (.br 11 (.br 12 (.take 13 (.br 14 (.done) (.nil))) (.nil)) (.nil)) (.nil)) (.br 10 (.br 5 (.br 11 (.br 12 (.take 13 (.br 14 (.done) (.nil))) (.nil)) (.nil)) (.br 11 (.br 5 (.br 12 (.take 13 (.br 14 (.done) (.nil))) (.nil)) (.nil)) (.nil))) (.nil)))))))))))) (by kernel_rfl) ?_ ?_
   ·repeat' (first | (conv => whnf); first | refine .w ?_ | refine .v ?_ | refine sc_c ?_ ?_ <;> (intro hb; try exact dd hb) | apply ah | apply aq | (apply sc_i <;> intro hb) | (apply bx_i; intro hbd) | (apply ak; first | fail) | (apply ap (i := 0) rfl; first | fail) | (apply ab_i; intro bl) | (apply as_i; intro va vk vc hva) | (apply av_i; intro v) | (apply ac_i; intro bl cap hcap) | apply bo_l | (apply nx_i <;> intro hnx) | exact rt_w | exact True.intro | (apply bc_i; intro C hC) | apply bt_i | apply og_n | (apply og_a; exact rfl))
    all_goals try conv => whnf
    all_goals exact ⟨(va, vk, vc), ⟨rfl, rfl, rfl, rfl, rfl, trivial⟩, rfl⟩
   rintro ⟨va, vk, vc⟩
   dsimp only
   rw [B3 hIl]
   repeat' (first | (conv => whnf); first | refine .w ?_ | refine .v ?_ | refine sc_c ?_ ?_ <;> (intro hb; try exact dd hb) | apply ah | apply aq | (apply sc_i <;> intro hb) | (apply bx_i; intro hbd) | (apply ak; first | fail) | (apply ap (i := 0) rfl; first | fail) | (apply ab_i; intro bl) | (apply as_i; intro va vk vc hva) | (apply av_i; intro v) | (apply ac_i; intro bl cap hcap) | apply bo_l | (apply nx_i <;> intro hnx) | exact rt_w | exact True.intro | (apply bc_i; intro C hC) | apply bt_i | apply og_n | (apply og_a; exact rfl))
   all_goals try conv => whnf
   refine nxT (k + 1, I, l ++ [L.getD (k + 1) []], b, cap, .slice va vk vc) ⟨hk, ?_, Nat.le_succ_of_le g3, by simp; omega⟩ (show cu.length - (k + 1) < cu.length - k by omega) ?_
   ·dsimp only
    rw [gs, show jw (I ++ [l]) (cu.getD k 0, L.getD (k + 1) []) = nQ (I ++ [l]) (L.getD (k + 1) []) by unfold jw; rw [if_neg hc59], gY]
   ·dsimp only
    rw [← cx, List.length_append]
    exact dl ⟨rfl, rfl, rfl, rfl, rfl, trivial⟩ (List.Sublist.refl _)
 ·repeat' (first | (conv => whnf); first | refine .w ?_ | refine .v ?_ | refine sc_c ?_ ?_ <;> (intro hb; try exact dd hb) | apply ah | apply aq | (apply sc_i <;> intro hb) | (apply bx_i; intro hbd) | (apply ak; first | fail) | (apply ap (i := 0) rfl; first | fail) | (apply ab_i; intro bl) | (apply as_i; intro va vk vc hva) | (apply av_i; intro v) | (apply ac_i; intro bl cap hcap) | apply bo_l | (apply nx_i <;> intro hnx) | exact rt_w | exact True.intro | (apply bc_i; intro C hC) | apply bt_i | apply og_n | (apply og_a; exact rfl))
  all_goals try conv => whnf
  refine ⟨_, List.Sublist.refl _, I, l, u, _, ?_, rfl, rfl⟩
  rw [g2, show k = cu.length by omega, BT hn, hg]
theorem Bn {C : Ctx} {R : Seal} {w : World} {I : List (List (List UInt8))} {l : List (List UInt8)} {v u : Value} (hm : MS C R [.row u none 1 l.length (bM l), .row v none 1 (I.length + 1) (prtC I ++ [.own 0 u])] w) : ∃ R', R.le R' ∧ MS C R' [] w ∧ Rel R' (.list 1 (I ++ [l]).length (prtF (I ++ [l]))) v := by
 have hI : (prtC I).length = I.length := by simp [prtC]
 obtain ⟨R1, l1, m1, r1⟩ := MS.seal_row (f := aO l) hm (dS _)
 have hc : CellTo R1 I.length (.list 1 l.length (aO l)) (.row v none 1 (I.length + 1) (prtC I ++ [.own 0 u])) _ := .row (a := .own 0 u) (by rw [List.getElem?_append_right (by omega), hI, Nat.sub_self]; rfl) fun _ => gC r1
 obtain ⟨h1, h2⟩ := hc.holds (m1.heap.holds _ (List.mem_cons_self ..))
 have m2 := m1.setEnt (i := 0) rfl h2 h1
 have e1 : (prtC I ++ [AVal.own 0 u]).set I.length (.list 1 l.length (aO l)) = prtC (I ++ [l]) := by
  rw [List.set_append_right _ _ (by omega), hI, Nat.sub_self, ← lv]
  rfl
 rw [e1] at m2
 have e2 : I.length + 1 = (I ++ [l]).length := by simp
 rw [e2] at m2
 obtain ⟨R2, l2, m3, r2⟩ := MS.seal_row (f := prtF (I ++ [l])) m2 (xA _)
 exact ⟨R2, Seal.le_trans l1 l2, m3, r2⟩
theorem Fe {R R' : Seal} {a a' b : AVal} {x : Value} (hle : R.le R') (h : Rel R (.tuple [a, b]) x) (ht : ∀ v, Rel R a v → Rel R' a' v) : Rel R' (.tuple [a', b]) x := by
 obtain ⟨⟨ws, e, u, t, e1, hu, u2, t2, e2, hu2, rfl⟩, h2⟩ := h
 have k := ht u ⟨hu.1, hu.2⟩
 have k2 := cD hle (show Rel R b u2 from ⟨hu2.1, hu2.2⟩)
 exact ⟨⟨ws, e, _, _, e1, ⟨k.1, k.2⟩, _, _, e2, ⟨k2.1, k2.2⟩, rfl⟩, h2⟩
theorem uF {G : Glo} (s : List UInt8) (hl : s.length ≤ 2000000) : FnIs Tryz.prog G 64 [.str s] (.tuple [.list 1 (prtS s).length (prtF (prtS s)), (errT s 0).A]) := by
 rcases lG s with h | ⟨e, p, h⟩
 ·rw [h]
  refine dz (mZ s hl h) ?_
  rintro r H ⟨I, l, u, v, hg, rfl, rfl⟩
  rintro C R w en hm ⟨x, rfl, hx⟩
  obtain ⟨R', hle, m2, hr⟩ := Bn hm
  rw [hg] at hr
  exact ⟨R', m2, x, rfl, Fe hle hx fun v2 h => by rw [(aA.1 h).1]; exact hr⟩
 ·have hP := fX (G := G) s [44, 59] hl
  rw [h] at hP
  rw [h, xz (by rw [h]; exact fun k => by cases k)]
  refine dz (H := []) (Qf := fun r H => r = .ret (.tuple [.raw (.slice none 0 0), (Err.at e p).A]) ∧ H = []) ?_ (fun r H h => by obtain ⟨rfl, rfl⟩ := h; exact qB)
  have hGL : ab G [] := ad
  refine fn_x Tryz.func64 Tryz.call64 rfl rfl rfl rfl hGL ?_
  intro C hC
  repeat' (first | (conv => whnf); first | refine .w ?_ | refine .v ?_ | refine sc_c ?_ ?_ <;> (intro hb; try exact dd hb) | apply ah | apply aq | (apply sc_i <;> intro hb) | (apply bx_i; intro hbd) | (apply ak; first | exact hP) | (apply ap (i := 0) rfl; first | exact hP) | (apply ab_i; intro bl) | (apply as_i; intro va vk vc hva) | (apply av_i; intro v) | (apply ac_i; intro bl cap hcap) | apply bo_l | (apply nx_i <;> intro hnx) | exact rt_w | apply dw_q mixed hC hGL (by kernel_rfl) | (apply cq; assumption; (first | exact hP); exact rfl))
  all_goals try conv => whnf
end
section
open Go Go.RowKit
def bI (r : Int) : Int := if 48 ≤ r ∧ r ≤ 57 then 57 else r
theorem Cf {l : List UInt8} (h : l ≠ []) : Lib.decodeL l = (rngR l, cm l) := by
 have h0 : 0 < l.length := List.length_pos_iff.2 h
 unfold Lib.decodeL
 rw [kO l 0 h0, List.drop_zero]
 unfold rngR cm
 split <;> rfl
theorem Ei {r : Int} (h : 128 ≤ r) : ∃ x t, Lib.encodeRune r = x :: t ∧ 128 ≤ x.toNat := by
 unfold Lib.encodeRune Lib.encodeRuneZ
 rw [if_neg (by omega)]
 have hb : ∀ z : Int, 128 ≤ z → z < 256 → 128 ≤ (z.toNat.toUInt8).toNat := by
  intro z h1 h2
  rw [Nat.toUInt8, UInt8.toNat_ofNat_of_lt' (by simp; omega)]
  omega
 split
 ·exact ⟨_, _, rfl, hb _ (by omega) (by omega)⟩
 ·split
  ·exact ⟨_, _, rfl, hb _ (by omega) (by omega)⟩
  ·split
   ·exact ⟨_, _, rfl, hb _ (by omega) (by omega)⟩
   ·exact ⟨_, _, rfl, hb _ (by omega) (by omega)⟩
theorem Eh {r : Int} (h0 : 0 ≤ r) (h : r < 128) : Lib.encodeRune r = [UInt8.ofNat r.toNat] := by
 unfold Lib.encodeRune
 rw [Lib.encodeRuneZ_one h0 (by omega)]
 rfl
theorem r8 (x : UInt8) (l : List UInt8) : shpS (x :: l) = UInt8.ofNat (cF x.toNat) :: shpS l := rfl
theorem xI : ∀ (n : Nat) (l u : List UInt8), l.length ≤ n → (∀ c ∈ u, c.toNat < 128) → (Lib.mapD bI l = u ↔ shpS l = u)
 | n, [], u, _, _ => by
  have e : Lib.mapD bI [] = [] := rfl
  rw [e]
  exact Iff.rfl
 | 0, x :: l, u, h, _ => by simp at h
 | n + 1, x :: l, u, h, hu => by
  have hne : x :: l ≠ [] := by simp
  have hr := pn (x :: l) (by simp)
  have hx : aa (x :: l) 0 = x.toNat := rfl
  rw [Lib.mapD_step bI (x :: l) hne, Cf hne]
  dsimp only
  by_cases h1 : (rngR (x :: l) : Int) < 128
  ·obtain ⟨h2, h3⟩ := hr.2.2.2.1 h1
   rw [hx] at h3
   have e1 : bI (rngR (x :: l) : Int) = (cF x.toNat : Int) := by
    rw [← h3]
    unfold bI cF
    split <;> split <;> omega
   have h4 : cF x.toNat < 128 := by unfold cF; split <;> omega
   rw [if_pos (by rw [e1]; omega), e1, Eh (by omega) (by omega), h2, List.drop_succ_cons, List.drop_zero, Int.toNat_natCast, r8, List.singleton_append]
   cases u with
   | nil => simp
   | cons y t =>
    have ih := xI n l t (by simpa using h) (fun c hc => hu c (List.mem_cons_of_mem _ hc))
    simp only [List.cons.injEq, ih]
  ·have h5 := hr.2.2.2.2 (by omega) 0 hr.2.1
   rw [hx] at h5
   have e1 : bI (rngR (x :: l) : Int) = rngR (x :: l) := by unfold bI; rw [if_neg (by omega)]
   obtain ⟨y, t, e2, h6⟩ := Ei (r := (rngR (x :: l) : Int)) (by omega)
   rw [if_pos (by rw [e1]; omega), e1, e2, r8]
   have e3 : cF x.toNat = x.toNat := by unfold cF; rw [if_neg (by omega)]
   constructor
   ·rintro rfl
    have := hu y (by simp)
    omega
   ·rintro rfl
    have := hu (UInt8.ofNat (cF x.toNat)) (by simp)
    rw [e3, UInt8.ofNat_toNat] at this
    omega
theorem ly {l u : List UInt8} (hu : ∀ c ∈ u, c.toNat < 128) : Lib.mapD bI l = u ↔ shpS l = u := xI l.length l u (Nat.le_refl _) hu
end
section
open Go
theorem Tryz.own : ownKnob Tryz.prog.godebug = none := by kernel_rfl
def bE (W : World) (k : Nat) : Seal := fun b => if b < k then W.heap[b]? else none
theorem ql (W : World) (k : Nat) : cO (bE W k) W := by
 intro b o h
 unfold bE at h
 split at h
 ·exact h
 ·cases h
theorem s4 (W : World) (R : Seal) (G : Glo) (hG : G.p R) (hs : cO R W) : MS ⟨W, R, blks [], G, hG, []⟩ R [] W :=
 ⟨hs, Seal.le_refl R, fun _ hb => .inl hb, ⟨fun _ h => absurd h List.not_mem_nil, List.nodup_nil, fun _ h => absurd h List.not_mem_nil⟩, fun _ h => absurd h List.not_mem_nil, Ext.refl W _⟩
theorem nU {W W' : World} (h : Ext W [] W') (may : MemPlace → Prop) : W.keptBut W' may := by
 refine ⟨h.os, h.output, fun i hi => ?_⟩
 rw [h.block i hi (by simp)]
 generalize W.heap[i]? = o
 cases o with
 | none => rfl
 | some o =>
  cases o with
  | cells c t fr => exact ⟨rfl, rfl, rfl, fun _ _ => rfl⟩
  | map es clock => exact .inr ⟨rfl, rfl⟩
  | _ => rfl
theorem D1 {P : Program} {G : Glo} {f : FuncId} {avs : List AVal} {c : Bool} {args : Array Value} {W : World} {R : Seal} (hs : FnIs P G f avs (.bool c)) (hc : (callFunc f args).run P W = .ok (.enter f args) W)
  (hG : G.p R) (hR : cO R W) (ha : RelV R avs args.toList) : Calls P f args W fun e W' => e = .returned (.bool c) ∧ ∀ may, W.keptBut W' may := by
 rcases hs R W args hG (s4 W R G hG hR) ha with ⟨_, h⟩ | ⟨v, w', h, _⟩
 ·refine h.mono fun e W' ⟨res, H', R', ⟨hr, hH⟩, he, hm⟩ => ?_
  subst hr
  obtain ⟨x, rfl, hx⟩ := he
  refine ⟨by rw [aE.1 hx], fun may => nU hm.ext may⟩
 ·rw [hc] at h
  cases h
theorem tj {x : ByteArray} (h : x.size ≤ maxLen) : x.data.toList.length ≤ 9223372036854775807 := by
 have : x.data.toList.length = x.size := by cases x; rfl
 rw [this]
 exact h
end
section
open Go
theorem mV {P : Program} {w : World} {n : String} {g : Nat} {cs : Array Value} (hg : P.globalNamed n = some g) (hv : w.var? P n = some cs) : ∃ e fz, w.heap[g]? = some (.cells cs e fz) := by
 simp only [World.var?, hg, Option.bind_some] at hv
 split at hv
 ·rename_i c e fz hh
  cases hv
  exact ⟨_, _, hh⟩
 ·cases hv
def E0 (L : List (Nat × List AVal)) : Glo := ⟨fun R => ∀ x, x ∈ L → bN R x.1 0 x.2, fun _ _ hle h x hx => by
 obtain ⟨C, e, fz, h1, h2⟩ := h x hx
 exact ⟨C, e, fz, hle _ _ h1, bX hle _ _ h2⟩⟩
theorem n8 : ∀ (L : List (Nat × List AVal)) {g : Nat} {cs : List AVal}, iK L g = some cs → (g, cs) ∈ L
 | [], _, _, h => by simp [iK] at h
 | (k, c) :: r, g, cs, h => by
  unfold iK at h
  split at h
  ·rename_i e
   obtain rfl := Nat.eq_of_beq_eq_true e
   cases h
   exact List.mem_cons_self
  ·exact List.mem_cons_of_mem _ (n8 r h)
theorem jh {L L' : List (Nat × List AVal)} (h : ∀ x, x ∈ L' → x ∈ L) : ab (E0 L) L' := fun g cs hg R hR => hR (g, cs) (h _ (n8 L' hg))
theorem dX {W : World} {k g : Nat} {C : Array Value} {e : TypeId} {fz : Nat × Nat} {cs : List AVal} (hk : g < k) (hW : W.heap[g]? = some (.cells C e fz)) (h : RelL (bE W k) cs (C.toList.take cs.length)) : bN (bE W k) g 0 cs :=
 ⟨C, e, fz, by unfold bE; rw [if_pos hk]; exact hW, by rw [List.drop_zero]; exact h⟩
theorem ni : ∀ ty, ty < Tryz.prog.types.size → Tryz.prog.rowNamed ty [101, 114, 114, 111, 114] = true → ty = 39 := by
 have h : ((List.range Tryz.prog.types.size).all fun ty => !Tryz.prog.rowNamed ty [101, 114, 114, 111, 114] || Nat.beq ty 39) = true := by kernel_rfl
 intro ty h1 h2
 have := List.all_eq_true.1 h ty (List.mem_range.2 h1)
 rw [h2] at this
 exact Nat.eq_of_beq_eq_true (by simpa using this)
theorem v7 {W : World} {k : Nat} (hk : 1 < k) {laid : List (String × DataW Unit)} (hL : laidMetH Tryz.prog laid W) (hm : ("errors.errorType", Rows.laid_errors_errorType) ∈ laid) : bN (bE W k) 1 0 [rty 39] := by
 have h := (laidMetH_iff.1 hL).2 _ (List.mem_filter.2 ⟨hm, by kernel_rfl⟩)
 have h : ∃ name u ty, (Rows.laid_errors_errorType (H := Unit)).handleName? = some name ∧ (Tryz.prog.cutTypes.find? (·.1 == "internal/reflectlite.rtype")).map (·.2) = some u ∧ ty < Tryz.prog.types.size ∧ Tryz.prog.rowNamed ty name = true ∧
   W.var? Tryz.prog "errors.errorType" = some #[.iface u (.agg #[typeHandle Tryz.prog ty])] := h
 obtain ⟨name, u, ty, h1, h2, h3, h4, h5⟩ := h
 obtain rfl : [101, 114, 114, 111, 114] = name := Option.some.inj ((show (Rows.laid_errors_errorType (H := Unit)).handleName? = some [101, 114, 114, 111, 114] by kernel_rfl).symm.trans h1)
 obtain rfl : 215 = u := Option.some.inj ((show (Tryz.prog.cutTypes.find? (·.1 == "internal/reflectlite.rtype")).map (·.2) = some 215 by kernel_rfl).symm.trans h2)
 obtain rfl := ni ty h3 h4
 obtain ⟨e, fz, hh⟩ := mV (show Tryz.prog.globalNamed "errors.errorType" = some 1 by kernel_rfl) h5
 exact dX hk hh ⟨_, _, rfl, (ks _).1, rfl⟩
noncomputable def gd (os : Os) : World :=
 let w0 := World.holding Tryz.prog os ⟨#[], #[], []⟩
 { w0 with heap := w0.heap.modify 1 fun
   | .cells _ t frozen => .cells #[.iface 215 (.agg #[hdl 39])] t frozen
   | o => o }
def eM (laid : List (String × DataW Unit)) : List (String × DataW Unit) := laid.filter fun x => x.2.handleName?.isNone
noncomputable def eG (os : Os) (laid : List (String × DataW Unit)) : World := (gd os).layVars Tryz.prog (eM laid)
theorem oY (os : Os) (laid : List (String × DataW Unit)) : (eG os laid).os = os := World.layVars_os _ _ _
theorem n6 {os : Os} {laid : List (String × DataW Unit)} (args : Array Value) (hf : (gd os).layFits Tryz.prog (eM laid) [] = true) (hi : (gd os).layIfaces Tryz.prog (eM laid) (eG os laid) = true)
  (hh : ((laid.filter fun x => x.2.handleName?.isSome).all (handleAtB Tryz.prog ((eG os laid).forCall (fun _ _ => 0) ⟨#[], args, []⟩).memory)) = true) :
  laidMetH Tryz.prog laid ((eG os laid).forCall (fun _ _ => 0) ⟨#[], args, []⟩).memory := by
 refine laidMetH_of_parts ?_ hh
 have e1 : ((eM laid).filter fun x => ((eM laid).map (·.1)).contains x.1) = eM laid := List.filter_eq_self.2 fun x hx => List.contains_iff_mem.2 (List.mem_map.2 ⟨x, hx, rfl⟩)
 have e2 : ((eM laid).filter fun x => !((eM laid).map (·.1)).contains x.1) = [] := List.filter_eq_nil_iff.2 fun x hx => by rw [List.contains_iff_mem.2 (List.mem_map.2 ⟨x, hx, rfl⟩)]; simp
 have h : laidMet Tryz.prog (eM laid) (eG os laid) := laidMet_layVars (w0 := gd os) ((eM laid).map (·.1)) [] (by rw [e1]; rfl) (by rw [e1]; exact hf) (by rw [e1]; exact hi) (by rw [e2]; exact LaidIn.none)
 exact h.of_heap (by simp [World.memory, World.forCall, Input.heap])
theorem F9 {W : World} {laid : List (String × DataW Unit)} (hL : laidMetH Tryz.prog laid W) (hm : ("errors.errorType", Rows.laid_errors_errorType) ∈ laid) : 1 < W.heap.size := by
 have h := (laidMetH_iff.1 hL).2 _ (List.mem_filter.2 ⟨hm, by kernel_rfl⟩)
 obtain ⟨name, u, ty, h1, h2, h3, h4, h5⟩ := h
 obtain ⟨e, fz, hh⟩ := mV (show Tryz.prog.globalNamed "errors.errorType" = some 1 by kernel_rfl) h5
 exact (Array.getElem?_eq_some_iff.1 hh).1
end
section
open Go Go.RowKit
theorem oF {R : Seal} {w W : World} (hs : cO R w) (hb : Below w.heap.size w W) : cO R W := fun b o h => by
 have h1 := hs b o h
 rw [hb.block b ((Array.getElem?_eq_some_iff.1 h1).1)]
 exact h1
theorem B2 (c : Nat) (h : c < 256) : firstTab[c]? = some (.int .u8 (Lib.firstT c)) := by
 have := l6 c h
 rwa [Nat.mul_one] at this
theorem C5 (i : Nat) (h : i < 16) : acceptTab[2 * i]? = some (.int .u8 (Lib.accLo i)) ∧ acceptTab[2 * i + 1]? = some (.int .u8 (Lib.accHi i)) := by
 match i, h with
 | 0, _ => exact ⟨rfl, rfl⟩
 | 1, _ => exact ⟨rfl, rfl⟩
 | 2, _ => exact ⟨rfl, rfl⟩
 | 3, _ => exact ⟨rfl, rfl⟩
 | 4, _ => exact ⟨rfl, rfl⟩
 | 5, _ => exact ⟨rfl, rfl⟩
 | 6, _ => exact ⟨rfl, rfl⟩
 | 7, _ => exact ⟨rfl, rfl⟩
 | 8, _ => exact ⟨rfl, rfl⟩
 | 9, _ => exact ⟨rfl, rfl⟩
 | 10, _ => exact ⟨rfl, rfl⟩
 | 11, _ => exact ⟨rfl, rfl⟩
 | 12, _ => exact ⟨rfl, rfl⟩
 | 13, _ => exact ⟨rfl, rfl⟩
 | 14, _ => exact ⟨rfl, rfl⟩
 | 15, _ => exact ⟨rfl, rfl⟩
 | n + 16, h => exact absurd h (by omega)
theorem zZ {G : Glo} (hU : ab G utfTy) {R : Seal} {w : World} (hG : G.p R) (hs : cO R w) : Lib.Utf8Tabs 5 6 w := by
 have h1 : bN R 5 0 firstTab := hU _ _ rfl R hG
 have h2 : bN R 6 0 acceptTab := hU _ _ rfl R hG
 refine ⟨fun c hc => ?_, fun i hi => ⟨?_, ?_⟩⟩
 ·obtain ⟨v, hv, hr⟩ := h1.cell hs (B2 c hc)
  rw [Nat.zero_add] at hv
  rw [hv, ao.1 (bn hr rfl)]
 ·obtain ⟨v, hv, hr⟩ := h2.cell hs (C5 i hi).1
  rw [Nat.zero_add] at hv
  rw [hv, ao.1 (bn hr rfl)]
 ·obtain ⟨v, hv, hr⟩ := h2.cell hs (C5 i hi).2
  rw [Nat.zero_add] at hv
  rw [hv, ao.1 (bn hr rfl)]
theorem vH {P : Program} {G : Glo} {f : FuncId} {avs : List AVal} {k : IntKind} {c : Int} {args : Array Value} {W : World} {R : Seal} (hs : FnIs P G f avs (.int k c)) (hc : (callFunc f args).run P W = .ok (.enter f args) W)
  (hG : G.p R) (hR : cO R W) (ha : RelV R avs args.toList) : Calls P f args W fun e W' => e = .returned (.int k c) ∧ Go.RowKit.Below W.heap.size W W' := by
 rcases hs R W args hG (s4 W R G hG hR) ha with ⟨_, h⟩ | ⟨v, w', h, _⟩
 ·refine h.mono fun e W' ⟨res, H', R', ⟨hr, hH⟩, he, hm⟩ => ?_
  subst hr
  obtain ⟨x, rfl, hx⟩ := he
  exact ⟨by rw [ao.1 hx], ⟨hm.ext.os, hm.ext.tape, hm.ext.output, hm.ext.size, fun k hk => hm.ext.block k hk (fun h => absurd h List.not_mem_nil)⟩⟩
 ·rw [hc] at h
  cases h
theorem rZ {G : Glo} (hU : ab G utfTy) (f : Int → Int) (g : Nat) (s : List UInt8) (hl : s.length ≤ 1000000) (hg : ∀ r : Nat, r ≤ 1114111 → FnIs Tryz.prog G g [.int .i32 (r : Int)] (.int .i32 (f r))) (hf : ∀ x : Nat, x ≤ 1114111 → -2147483648 ≤ f x ∧ f x ≤ 2147483647)
  (hc : ∀ args w, (callFunc g args).run Tryz.prog w = .ok (.enter g args) w) : FnIs Tryz.prog G 115 [.func (.func g) [] [], .str s] (.str (Lib.mapD f s)) := by
 refine ci rfl Tryz.call115 ?_
 rintro R args ⟨x, t, e, hx, y, t', e', hy, rfl⟩ w hG hs
 have hx0 := hx
 obtain ⟨⟨xa, xb, ex, r1, r2⟩, hx2⟩ := hx0
 obtain rfl := az.1 hy
 have hxv : x = .func (.func g) #[] #[] := by
  cases x <;> first | (simp [Value.cells] at ex; done) | skip
  all_goals (try (simp [vAgg, AVal.isAgg] at hx2; done))
  simp only [Value.cells, List.cons.injEq, and_true, Value.func.injEq] at ex
  obtain ⟨e1, e2, e3⟩ := ex
  have h1 : xa.toList = [] := r1
  have h2 : xb.toList = [] := r2
  rw [Array.toList_eq_nil_iff] at h1 h2
  rw [e1, e2, e3, h1, h2]
 subst hxv
 subst e'
 obtain rfl := fW e
 refine (Tryz.strings_Map_grows g #[] hc f ⟨s.toArray⟩ w (by rw [aY]; omega) ?_ hf (zZ hU hG hs)).mono ?_
 ·intro W r hr hb
  exact (vH (hg r hr) (hc _ _) hG (oF hs hb) ⟨_, _, rfl, ao.2 rfl, rfl⟩).mono fun e w' h => h
 ·rintro e w' ⟨rfl, hb⟩
  exact ⟨by simp [AVal.conc], hb⟩
end
section
open Go Go.RowKit
theorem aK {s u : List UInt8} {i : Nat} (h : shpS s = u) (hi : i < u.length) (h57 : aa u i = 57) : 48 ≤ aa s i ∧ aa s i ≤ 57 := cR.1 (((bS h).2 i hi).trans h57)
theorem fb {s : List UInt8} {a b i : Nat} (h : i < b - a) : aa ((s.take b).drop a) i = aa s (a + i) := by
 rw [bu, dw (by omega)]
attribute [local irreducible] AWp AOps aa ax OrOk ab ae
attribute [local irreducible] shpS bI
theorem ma {G : Glo} (s : List UInt8) (hl : s.length = 2) (h0 : 48 ≤ aa s 0 ∧ aa s 0 ≤ 57) (h1 : 48 ≤ aa s 1 ∧ aa s 1 ≤ 57) : FnIs Tryz.prog G 136 [.str s] (.tuple [.int .i64 (two2 s 0), .bool true]) := by
 have hGL : ab G [] := ad
 refine fn_x Tryz.func136 Tryz.call136 rfl rfl rfl rfl hGL ?_
 intro C hC
 refine xw1 ?_
 refine rds hC hGL 3 ?_
 refine xw ?_
 repeat' (first | exact Le.n | refine Lc.mk ?_ ?_)
 all_goals intros
 all_goals try (exfalso; simp only [Nat.zero_add, Nat.reduceAdd] at *; omega)
 apply ar
 unfold two2 digN
 simp only [Nat.zero_add, Nat.reduceAdd] at *
 congr 3
 omega
theorem k7 {G : Glo} (s : List UInt8) (hl : s.length = 4) (h0 : 48 ≤ aa s 0 ∧ aa s 0 ≤ 57) (h1 : 48 ≤ aa s 1 ∧ aa s 1 ≤ 57) (h2 : 48 ≤ aa s 2 ∧ aa s 2 ≤ 57) (h3 : 48 ≤ aa s 3 ∧ aa s 3 ≤ 57) : FnIs Tryz.prog G 136 [.str s] (.tuple [.int .i64 (eU s 0), .bool true]) := by
 have hGL : ab G [] := ad
 refine fn_x Tryz.func136 Tryz.call136 rfl rfl rfl rfl hGL ?_
 intro C hC
 refine xw1 ?_
 refine rds hC hGL 5 ?_
 refine xw ?_
 repeat' (first | exact Le.n | refine Lc.mk ?_ ?_)
 all_goals intros
 all_goals try (exfalso; simp only [Nat.zero_add, Nat.reduceAdd] at *; omega)
 apply ar
 unfold eU digN
 simp only [Nat.zero_add, Nat.reduceAdd] at *
 congr 3
 omega
theorem rK {G : Glo} (r : Nat) (h : r ≤ 1114111) : FnIs Tryz.prog G 172 [.int .i32 (r : Int)] (.int .i32 (bI r)) := by
 have hGL : ab G [] := ad
 refine fn_x Tryz.func172 Tryz.call172 rfl rfl rfl rfl hGL ?_
 intro C hC
 refine xw ?_
 repeat' (first | exact Le.n | refine Lc.mk ?_ ?_)
 all_goals intros
 all_goals (apply ar; refine congrArg (AVal.int .i32) ?_; unfold bI; split <;> omega)
theorem mU {G : Glo} (hU : ab G utfTy) (s : List UInt8) (hl : s.length ≤ 1000000) : FnIs Tryz.prog G 135 [.str s] (.str (Lib.mapD bI s)) := by
 have k1 := rZ (G := G) hU bI 172 s hl (fun r hr => rK r hr) (fun x hx => by unfold bI; split <;> omega) Tryz.call172
 have hGL : ab G [] := ad
 refine fn_x Tryz.func135 Tryz.call135 rfl rfl rfl rfl hGL ?_
 intro C hC
 exact xw0
end
section
open Go Go.RowKit
def dL (k i : Nat) : Int := ([[-1, -1, -1], [0, -1, -1], [0, 5, -1], [0, 4, 6], [-1, 2, -1], [-1, 2, 4], [-1, -1, 3]].getD k [0, 0, 0]).getD i 0
def dV (k : Nat) (s : List UInt8) (i : Nat) : Int := if i = 0 then dY k s else if i = 1 then dM k s else dD k s
def dW (i : Nat) : Int := if i = 0 then 4 else 2
def cL (k i : Nat) : Int := ([[0, 0, 0], [0, -1, -1], [0, 2, -1], [0, 2, 4], [-1, 1, -1], [-1, 1, 3], [-1, -1, 2]].getD k [0, 0, 0]).getD i 0
def cV (k : Nat) (s : List UInt8) (i : Nat) : Int := if i = 0 then cH k s else if i = 1 then cI k s else cS k s
def cIx (d : List UInt8) : Nat := if shpS d = clkF 1 then 1 else if shpS d = clkF 2 then 2 else if shpS d = clkF 3 then 3 else if shpS d = clkF 4 then 4 else if shpS d = clkF 5 then 5 else if shpS d = clkF 6 then 6 else 7
theorem wu {d : List UInt8} {k : Nat} (h1 : 1 ≤ k) (hk : k ≤ 6) (h : shpS d = clkF k) : cIx d = k := by
  unfold cIx
  (repeat' split)
  all_goals first
    | (rename_i e; exact (yk h1 hk (by decide) (by decide) (h.symm.trans e)).symm)
    | (exfalso
       rcases (show k = 1 ∨ k = 2 ∨ k = 3 ∨ k = 4 ∨ k = 5 ∨ k = 6 by omega) with rfl | rfl | rfl | rfl | rfl | rfl <;> contradiction)
theorem CD {d : List UInt8} (h : ∀ k, 1 ≤ k → k ≤ 6 → shpS d ≠ clkF k) : cIx d = 7 := by
 unfold cIx
 rw [if_neg (h 1 (by decide) (by decide)), if_neg (h 2 (by decide) (by decide)), if_neg (h 3 (by decide) (by decide)), if_neg (h 4 (by decide) (by decide)), if_neg (h 5 (by decide) (by decide)), if_neg (h 6 (by decide) (by decide))]
theorem p4 (d : List UInt8) : (cIx d = 7 ∧ ∀ k, 1 ≤ k → k ≤ 6 → shpS d ≠ clkF k) ∨ ∃ k, 1 ≤ k ∧ k ≤ 6 ∧ cIx d = k ∧ shpS d = clkF k := by
 by_cases h : ∃ k, 1 ≤ k ∧ k ≤ 6 ∧ shpS d = clkF k
 ·obtain ⟨k, h1, h2, h3⟩ := h
  exact .inr ⟨k, h1, h2, wu h1 h2 h3, h3⟩
 ·have h : ∀ k, 1 ≤ k → k ≤ 6 → shpS d ≠ clkF k := fun k h1 h2 h3 => h ⟨k, h1, h2, h3⟩
  exact .inl ⟨CD h, h⟩
theorem zy (d : List UInt8) : (dIx d = 7 ∧ ∀ k, k ≤ 6 → shpS d ≠ aC k) ∨ ∃ k, k ≤ 6 ∧ dIx d = k ∧ shpS d = aC k := by
 by_cases h : ∃ k, k ≤ 6 ∧ shpS d = aC k
 ·obtain ⟨k, h2, h3⟩ := h
  exact .inr ⟨k, h2, ol h2 h3, h3⟩
 ·have h : ∀ k, k ≤ 6 → shpS d ≠ aC k := fun k h2 h3 => h ⟨k, h2, h3⟩
  exact .inl ⟨wf h, h⟩
theorem Ai {s : List UInt8} {a b : Nat} (h : b = a + 2) : two2 ((s.take b).drop a) 0 = two2 s a := by
 subst h
 unfold two2 digN
 rw [fb (by omega), fb (by omega)]
 simp only [Nat.add_zero, Nat.zero_add]
theorem zo {s : List UInt8} {a b : Nat} (h : b = a + 4) : eU ((s.take b).drop a) 0 = eU s a := by
 subst h
 unfold eU digN
 rw [fb (by omega), fb (by omega), fb (by omega), fb (by omega)]
 simp only [Nat.add_zero, Nat.zero_add]
theorem xD {G : Glo} {s u : List UInt8} (h : shpS s = u) (a b : Nat) (hb : b = a + 2) (hl : b ≤ u.length) (h0 : aa u a = 57) (h1 : aa u (a + 1) = 57) : FnIs Tryz.prog G 136 [.str ((s.take b).drop a)] (.tuple [.int .i64 (two2 s a), .bool true]) := by
 have hsl := (bS h).1
 have := ma (G := G) ((s.take b).drop a) (by rw [List.length_drop, List.length_take]; omega) (by rw [fb (by omega)]; exact aK h (by omega) h0) (by rw [fb (by omega)]; exact aK h (by omega) h1)
 rwa [Ai hb] at this
theorem Bl {G : Glo} {s u : List UInt8} (h : shpS s = u) (a b : Nat) (hb : b = a + 4) (hl : b ≤ u.length) (h0 : aa u a = 57) (h1 : aa u (a + 1) = 57) (h2 : aa u (a + 2) = 57) (h3 : aa u (a + 3) = 57) : FnIs Tryz.prog G 136 [.str ((s.take b).drop a)] (.tuple [.int .i64 (eU s a), .bool true]) := by
 have hsl := (bS h).1
 have := k7 (G := G) ((s.take b).drop a) (by rw [List.length_drop, List.length_take]; omega) (by rw [fb (by omega)]; exact aK h (by omega) h0) (by rw [fb (by omega)]; exact aK h (by omega) h1) (by rw [fb (by omega)]; exact aK h (by omega) h2) (by rw [fb (by omega)]; exact aK h (by omega) h3)
 rwa [zo hb] at this
def E6 (G : Glo) (s : List UInt8) (l w v : Int) : Prop := (l < 0 ∧ v = -1) ∨ (0 ≤ l ∧ 0 ≤ l + w ∧ l ≤ l + w ∧ l + w ≤ s.length ∧ FnIs Tryz.prog G 136 [.str ((s.take (l + w).toNat).drop l.toNat)] (.tuple [.int .i64 v, .bool true]))
theorem oi {G : Glo} {s : List UInt8} {k : Nat} (hk : k ≤ 6) (h : shpS s = aC k) : ∀ i, i < 3 → E6 G s (dL k i) (dW i) (dV k s i) := by
 have hl := (bS h).1
 intro i hi
 rcases (show k = 0 ∨ k = 1 ∨ k = 2 ∨ k = 3 ∨ k = 4 ∨ k = 5 ∨ k = 6 by omega) with rfl | rfl | rfl | rfl | rfl | rfl | rfl <;> rcases (show i = 0 ∨ i = 1 ∨ i = 2 by omega) with rfl | rfl | rfl
 all_goals first
  | exact .inl ⟨by decide, rfl⟩
  | exact .inr ⟨by decide, by decide, by decide, by rw [hl]; decide, Bl h _ _ (by decide) (by decide) (by decide) (by decide) (by decide) (by decide)⟩
  | exact .inr ⟨by decide, by decide, by decide, by rw [hl]; decide, xD h _ _ (by decide) (by decide) (by decide) (by decide)⟩
theorem lL {G : Glo} {s : List UInt8} {k : Nat} (h1 : 1 ≤ k) (hk : k ≤ 6) (h : shpS s = clkF k) : ∀ i, i < 3 → E6 G s (cL k i) 2 (cV k s i) := by
 have hl := (bS h).1
 intro i hi
 rcases (show k = 1 ∨ k = 2 ∨ k = 3 ∨ k = 4 ∨ k = 5 ∨ k = 6 by omega) with rfl | rfl | rfl | rfl | rfl | rfl <;> rcases (show i = 0 ∨ i = 1 ∨ i = 2 by omega) with rfl | rfl | rfl
 all_goals first
  | exact .inl ⟨by decide, rfl⟩
  | exact .inr ⟨by decide, by decide, by decide, by rw [hl]; decide, xD h _ _ (by decide) (by decide) (by decide) (by decide)⟩
theorem xH {s u : List UInt8} (hu : ∀ c ∈ u, c.toNat < 128) (h : Lib.mapD bI s = u) : shpS s = u := (ly hu).1 h
theorem yg : ∀ k, k ≤ 6 → ∀ c ∈ aC k, c.toNat < 128 := by
 intro k hk
 rcases (show k = 0 ∨ k = 1 ∨ k = 2 ∨ k = 3 ∨ k = 4 ∨ k = 5 ∨ k = 6 by omega) with rfl | rfl | rfl | rfl | rfl | rfl | rfl <;> decide
theorem Cw : ∀ k, k ≤ 6 → ∀ c ∈ clkF k, c.toNat < 128 := by
 intro k hk
 rcases (show k = 0 ∨ k = 1 ∨ k = 2 ∨ k = 3 ∨ k = 4 ∨ k = 5 ∨ k = 6 by omega) with rfl | rfl | rfl | rfl | rfl | rfl | rfl <;> decide
theorem g9 {s : List UInt8} (k : Nat) (hk : k ≤ 6) (h : Lib.mapD bI s = aC k) : k = dIx s := (ol hk (xH (yg k hk) h)).symm
theorem jp {s : List UInt8} (k : Nat) (h1 : 1 ≤ k) (hk : k ≤ 6) (h : Lib.mapD bI s = clkF k) : k = cIx s := (wu h1 hk (xH (Cw k hk) h)).symm
theorem Cj {s : List UInt8} (h : (Lib.mapD bI s).length = 0) : 0 = dIx s := g9 0 (by decide) (List.eq_nil_of_length_eq_zero h)
theorem Ci {s : List UInt8} (g0 : (Lib.mapD bI s).length ≠ 0) (h1 : Lib.mapD bI s ≠ aC 1) (h2 : Lib.mapD bI s ≠ aC 2) (h3 : Lib.mapD bI s ≠ aC 3) (h4 : Lib.mapD bI s ≠ aC 4) (h5 : Lib.mapD bI s ≠ aC 5) (h6 : Lib.mapD bI s ≠ aC 6) : 7 = dIx s := by
 have h0 : Lib.mapD bI s ≠ aC 0 := fun h => g0 (by rw [h]; rfl)
 refine (wf fun k hk h => ?_).symm
 have h := (ly (yg k hk)).2 h
 rcases (show k = 0 ∨ k = 1 ∨ k = 2 ∨ k = 3 ∨ k = 4 ∨ k = 5 ∨ k = 6 by omega) with rfl | rfl | rfl | rfl | rfl | rfl | rfl <;> contradiction
theorem CE {s : List UInt8} (h1 : Lib.mapD bI s ≠ clkF 1) (h2 : Lib.mapD bI s ≠ clkF 2) (h3 : Lib.mapD bI s ≠ clkF 3) (h4 : Lib.mapD bI s ≠ clkF 4) (h5 : Lib.mapD bI s ≠ clkF 5) (h6 : Lib.mapD bI s ≠ clkF 6) : 7 = cIx s := by
 refine (CD fun k g1 hk h => ?_).symm
 have h := (ly (Cw k hk)).2 h
 rcases (show k = 1 ∨ k = 2 ∨ k = 3 ∨ k = 4 ∨ k = 5 ∨ k = 6 by omega) with rfl | rfl | rfl | rfl | rfl | rfl <;> contradiction
abbrev pW (b : Nat) : Value := .pointer (some ⟨b, 0, none⟩)
abbrev pF (b o : Nat) : AVal := .own 0 (.pointer (some ⟨b, o, none⟩))
abbrev stC (b : Nat) (y m d h i s : Int) (z : Bool) (o : Int) : HEnt := .cells b (some 28) [.int .i64 y, .int .i64 m, .int .i64 d, .int .i64 h, .int .i64 i, .int .i64 s, .bool z, .int .i64 o]
def got (v : Int) (i r : Nat) : Int := if i < r then v else -1
attribute [local irreducible] AWp AOps aa ax OrOk ab ae
attribute [local irreducible] shpS bI dIx cIx
theorem EY (v : Int) (i : Nat) : got v i 0 = -1 := by unfold got; rw [if_neg (by omega)]
theorem yx {G : Glo} (hU : ab G utfTy) (b : Nat) (s : List UInt8) (hl : s.length ≤ 1000000) (h i c : Int) (z : Bool) (o : Int) : ae Tryz.prog G 100 [.str s, .raw (pW b)] [stC b (-1) (-1) (-1) h i c z o]
  (fun r H => r = .ret (.bool (decide (dIx s ≠ 7))) ∧ H = [stC b (dY (dIx s) s) (dM (dIx s) s) (dD (dIx s) s) h i c z o]) := by
 have k0 := mU (G := G) hU s hl
 have hGL : ab G [] := ad
 refine fR [(1, 0, pW b)] Tryz.func100 Tryz.call100 rfl rfl rfl rfl (by repeat (first | exact trivial | refine And.intro ⟨rfl, rfl⟩ ?_)) ?_
 intro C hC
 refine cut hC hGL [(0, .str s), (1, .own 0 (pW b))] [stC b (-1) (-1) (-1) h i c z o] True xw0 fun _ => ?_
 refine cuty hC hGL (X := Nat) (fun bm => [(0, .str s), (1, .own 0 (pW b)), (5, .own 1 (.map (some bm)))]) (fun bm => [stC b (-1) (-1) (-1) h i c z o, .mp bm [(.str [], .agg [.int .i64 (-1), .int .i64 (-1), .int .i64 (-1)]), (.str [57, 57, 57, 57], .agg [.int .i64 0, .int .i64 (-1), .int .i64 (-1)]), (.str [57, 57, 57, 57, 45, 57, 57], .agg [.int .i64 0, .int .i64 5, .int .i64 (-1)]), (.str [57, 57, 57, 57, 57, 57, 57, 57], .agg [.int .i64 0, .int .i64 4, .int .i64 6]), (.str [45, 45, 57, 57], .agg [.int .i64 (-1), .int .i64 2, .int .i64 (-1)]), (.str [45, 45, 57, 57, 57, 57], .agg [.int .i64 (-1), .int .i64 2, .int .i64 4]), (.str [45, 45, 45, 57, 57], .agg [.int .i64 (-1), .int .i64 (-1), .int .i64 3])]]) (fun _ => True) ?_ fun bm _ => ?_
 ·refine xw1 ?_
  intro bm
  intros
  exact cy bm trivial
 refine cuty hC hGL (X := Nat × Nat) (fun x => [(0, .str s), (1, .own 0 (pW b)), (6, .own 2 (pW x.2)), (7, .bool (decide (x.1 ≠ 7)))]) (fun x => [stC b (-1) (-1) (-1) h i c z o, .mp bm [(.str [], .agg [.int .i64 (-1), .int .i64 (-1), .int .i64 (-1)]), (.str [57, 57, 57, 57], .agg [.int .i64 0, .int .i64 (-1), .int .i64 (-1)]), (.str [57, 57, 57, 57, 45, 57, 57], .agg [.int .i64 0, .int .i64 5, .int .i64 (-1)]), (.str [57, 57, 57, 57, 57, 57, 57, 57], .agg [.int .i64 0, .int .i64 4, .int .i64 6]), (.str [45, 45, 57, 57], .agg [.int .i64 (-1), .int .i64 2, .int .i64 (-1)]), (.str [45, 45, 57, 57, 57, 57], .agg [.int .i64 (-1), .int .i64 2, .int .i64 4]), (.str [45, 45, 45, 57, 57], .agg [.int .i64 (-1), .int .i64 (-1), .int .i64 3])], .cells x.2 (some 202) [.int .i64 (dL x.1 0), .int .i64 (dL x.1 1), .int .i64 (dL x.1 2)]]) (fun x => x.1 = dIx s) ?_ fun x hx => ?_
 ·refine xw ?_
  repeat' (first | exact Le.n | refine Lc.mk ?_ ?_)
  all_goals intros
  all_goals first
   | exact cy (0, _) (Cj (by assumption))
   | exact cy (1, _) (g9 1 (by decide) (by assumption))
   | exact cy (2, _) (g9 2 (by decide) (by assumption))
   | exact cy (3, _) (g9 3 (by decide) (by assumption))
   | exact cy (4, _) (g9 4 (by decide) (by assumption))
   | exact cy (5, _) (g9 5 (by decide) (by assumption))
   | exact cy (6, _) (g9 6 (by decide) (by assumption))
   | exact cy (7, _) (Ci (by assumption) (by assumption) (by assumption) (by assumption) (by assumption) (by assumption) (by assumption))
 obtain ⟨k, b6⟩ := x
 obtain rfl : k = dIx s := hx
 dsimp only
 rcases zy s with ⟨h7, -⟩ | ⟨k, hk, hk2, hk3⟩
 ·rw [h7]
  exact aH hC hGL xw0
 have n0 := oi (G := G) hk hk3 0 (by decide)
 have n1 := oi (G := G) hk hk3 1 (by decide)
 have n2 := oi (G := G) hk hk3 2 (by decide)
 rw [hk2]
 have e7 : decide (k ≠ 7) = true := decide_eq_true (by omega)
 rw [e7]
 rw [show dY k s = dV k s 0 from rfl]
 rw [show dM k s = dV k s 1 from rfl]
 rw [show dD k s = dV k s 2 from rfl]
 generalize dL k 0 = l0 at *
 generalize dL k 1 = l1 at *
 generalize dL k 2 = l2 at *
 generalize dV k s 0 = v0 at *
 generalize dV k s 1 = v1 at *
 generalize dV k s 2 = v2 at *
 rw [show dW 0 = 4 from rfl] at n0
 rw [show dW 1 = 2 from rfl] at n1
 rw [show dW 2 = 2 from rfl] at n2
 refine aH hC hGL (xn1 ?_)
 intros
 refine a8 mixed hC hGL false (fun _ _ => False) (fun (_ : Unit) => [(0, .str s), (6, .own 2 (pW b6)), (37, .list 1 3 (aV [(0, pF b 0), (1, pF b 1), (2, pF b 2)])), (38, .int .i64 3), (39, .int .i64 0)]) (fun _ => [stC b (-1) (-1) (-1) h i c z o, .mp bm [(.str [], .agg [.int .i64 (-1), .int .i64 (-1), .int .i64 (-1)]), (.str [57, 57, 57, 57], .agg [.int .i64 0, .int .i64 (-1), .int .i64 (-1)]), (.str [57, 57, 57, 57, 45, 57, 57], .agg [.int .i64 0, .int .i64 5, .int .i64 (-1)]), (.str [57, 57, 57, 57, 57, 57, 57, 57], .agg [.int .i64 0, .int .i64 4, .int .i64 6]), (.str [45, 45, 57, 57], .agg [.int .i64 (-1), .int .i64 2, .int .i64 (-1)]), (.str [45, 45, 57, 57, 57, 57], .agg [.int .i64 (-1), .int .i64 2, .int .i64 4]), (.str [45, 45, 45, 57, 57], .agg [.int .i64 (-1), .int .i64 (-1), .int .i64 3])], .cells b6 (some 202) [.int .i64 l0, .int .i64 l1, .int .i64 l2]]) (.take 0 (.take 1 (.take 2 (.take 3 (.take 4 (.take 5 (.take 6 (.take 7 (.take 8 (.take 11 (.br 9 (.take 10 (.done)) (.nil)))))))))))) (by kernel_rfl) ?_ ?_ (fun _ _ h => h.elim)
 ·refine xn ?_
  repeat' (first | exact Le.n | refine Lc.mk ?_ ?_)
  all_goals intros
  all_goals (exact ⟨(), aj, aD⟩)
 intro _
 refine xn1 ?_
 refine EV (aN (aM (i := 2) (k := 6) rfl rfl) (dl (e' := [(0, .str s), (6, .rop [.int .i64 l0, .int .i64 l1, .int .i64 l2] 0), (37, .list 1 3 (aV [(0, pF b 0), (1, pF b 1), (2, pF b 2)])), (38, .int .i64 3), (39, .int .i64 0)]) (h' := [stC b (-1) (-1) (-1) h i c z o]) aj (List.Sublist.cons_cons _ (List.nil_sublist _)))) ?_
 refine lp hC hGL (fun r : Nat => [(0, .str s), (6, .rop [.int .i64 l0, .int .i64 l1, .int .i64 l2] 0), (37, .list 1 3 (aV [(0, pF b 0), (1, pF b 1), (2, pF b 2)])), (38, .int .i64 3), (39, .int .i64 (r : Nat))]) (fun r => [stC b (got v0 0 r) (got v1 1 r) (got v2 2 r) h i c z o]) (fun r => r ≤ 3) (fun r => 3 - r) 0 (by decide) aj (by simp only [EY]) ?_
 intro r hr
 rcases (show r = 0 ∨ r = 1 ∨ r = 2 ∨ r = 3 by omega) with rfl | rfl | rfl | rfl
 ·rcases n0 with ⟨g1, g2⟩ | ⟨g1, g2, g3, g4, g5⟩
  ·refine xw1 ?_
   intros
   refine nxt 1 (by decide) (by decide) aj ?_
   simp [got, g2]
  ·refine xn1 ?_
   intros
   refine a8 mixed hC hGL false (fun _ _ => False) (fun (_ : Unit) => [(0, .str s), (6, .rop [.int .i64 l0, .int .i64 l1, .int .i64 l2] 0), (37, .list 1 3 (aV [(0, pF b 0), (1, pF b 1), (2, pF b 2)])), (38, .int .i64 3), (39, .int .i64 (0 : Nat)), (8, .int .i64 (0 : Nat))]) (fun _ => [stC b (got v0 0 1) (got v1 1 1) (got v2 2 1) h i c z o]) (.take 0 (.take 1 (.take 2 (.take 3 (.take 4 (.take 5 (.take 6 (.take 7 (.take 12 (.take 13 (.br 8 (.br 9 (.br 10 (.take 11 (.br 14 (.take 15 (.take 16 (.br 17 (.take 18 (.take 19 (.take 20 (.take 21 (.br 22 (.done) (.nil)))))) (.nil)))) (.nil))) (.nil)) (.br 10 (.br 9 (.take 11 (.br 14 (.take 15 (.take 16 (.br 17 (.take 18 (.take 19 (.take 20 (.take 21 (.br 22 (.done) (.nil)))))) (.nil)))) (.nil))) (.nil)) (.nil))) (.nil)))))))))))) (by kernel_rfl) ?_ ?_ (fun _ _ h => h.elim)
   ·refine xn ?_
    repeat' (first | exact Le.n | refine Lc.mk ?_ ?_)
    all_goals intros
    all_goals (exact ⟨(), aj, aD⟩)
   ·intro _
    refine xw1 ?_
    intros
    exact nxt 1 (by decide) (by decide) aj rfl
 ·rcases n1 with ⟨g1, g2⟩ | ⟨g1, g2, g3, g4, g5⟩
  ·refine xw1 ?_
   intros
   refine nxt 2 (by decide) (by decide) aj ?_
   simp [got, g2]
  ·refine xn1 ?_
   intros
   refine a8 mixed hC hGL false (fun _ _ => False) (fun (_ : Unit) => [(0, .str s), (6, .rop [.int .i64 l0, .int .i64 l1, .int .i64 l2] 0), (37, .list 1 3 (aV [(0, pF b 0), (1, pF b 1), (2, pF b 2)])), (38, .int .i64 3), (39, .int .i64 (1 : Nat)), (8, .int .i64 (1 : Nat))]) (fun _ => [stC b (got v0 0 2) (got v1 1 2) (got v2 2 2) h i c z o]) (.take 0 (.take 1 (.take 2 (.take 3 (.take 4 (.take 5 (.take 6 (.take 7 (.take 12 (.take 13 (.br 8 (.br 9 (.br 10 (.take 11 (.br 14 (.take 15 (.take 16 (.br 17 (.take 18 (.take 19 (.take 20 (.take 21 (.br 22 (.done) (.nil)))))) (.nil)))) (.nil))) (.nil)) (.br 10 (.br 9 (.take 11 (.br 14 (.take 15 (.take 16 (.br 17 (.take 18 (.take 19 (.take 20 (.take 21 (.br 22 (.done) (.nil)))))) (.nil)))) (.nil))) (.nil)) (.nil))) (.nil)))))))))))) (by kernel_rfl) ?_ ?_ (fun _ _ h => h.elim)
   ·refine xn ?_
    repeat' (first | exact Le.n | refine Lc.mk ?_ ?_)
    all_goals intros
    all_goals (exact ⟨(), aj, aD⟩)
   ·intro _
    refine xw1 ?_
    intros
    exact nxt 2 (by decide) (by decide) aj rfl
 ·rcases n2 with ⟨g1, g2⟩ | ⟨g1, g2, g3, g4, g5⟩
  ·refine xw1 ?_
   intros
   refine nxt 3 (by decide) (by decide) aj ?_
   simp [got, g2]
  ·refine xn1 ?_
   intros
   refine a8 mixed hC hGL false (fun _ _ => False) (fun (_ : Unit) => [(0, .str s), (6, .rop [.int .i64 l0, .int .i64 l1, .int .i64 l2] 0), (37, .list 1 3 (aV [(0, pF b 0), (1, pF b 1), (2, pF b 2)])), (38, .int .i64 3), (39, .int .i64 (2 : Nat)), (8, .int .i64 (2 : Nat))]) (fun _ => [stC b (got v0 0 3) (got v1 1 3) (got v2 2 3) h i c z o]) (.take 0 (.take 1 (.take 2 (.take 3 (.take 4 (.take 5 (.take 6 (.take 7 (.take 12 (.take 13 (.br 8 (.br 9 (.br 10 (.take 11 (.br 14 (.take 15 (.take 16 (.br 17 (.take 18 (.take 19 (.take 20 (.take 21 (.br 22 (.done) (.nil)))))) (.nil)))) (.nil))) (.nil)) (.br 10 (.br 9 (.take 11 (.br 14 (.take 15 (.take 16 (.br 17 (.take 18 (.take 19 (.take 20 (.take 21 (.br 22 (.done) (.nil)))))) (.nil)))) (.nil))) (.nil)) (.nil))) (.nil)))))))))))) (by kernel_rfl) ?_ ?_ (fun _ _ h => h.elim)
   ·refine xn ?_
    repeat' (first | exact Le.n | refine Lc.mk ?_ ?_)
    all_goals intros
    all_goals (exact ⟨(), aj, aD⟩)
   ·intro _
    refine xw1 ?_
    intros
    exact nxt 3 (by decide) (by decide) aj rfl
 ·exact xw0
theorem uu {G : Glo} (hU : ab G utfTy) (b : Nat) (s : List UInt8) (hl : s.length ≤ 1000000) (y m d : Int) (z : Bool) (o : Int) : ae Tryz.prog G 103 [.str s, .raw (pW b)] [stC b y m d (-1) (-1) (-1) z o]
  (fun r H => r = .ret (.bool (decide (cIx s ≠ 7))) ∧ H = [stC b y m d (cH (cIx s) s) (cI (cIx s) s) (cS (cIx s) s) z o]) := by
 have k0 := mU (G := G) hU s hl
 have hGL : ab G [] := ad
 refine fR [(1, 0, pW b)] Tryz.func103 Tryz.call103 rfl rfl rfl rfl (by repeat (first | exact trivial | refine And.intro ⟨rfl, rfl⟩ ?_)) ?_
 intro C hC
 refine cut hC hGL [(0, .str s), (1, .own 0 (pW b))] [stC b y m d (-1) (-1) (-1) z o] True xw0 fun _ => ?_
 refine cuty hC hGL (X := Nat) (fun bm => [(0, .str s), (1, .own 0 (pW b)), (5, .own 1 (.map (some bm)))]) (fun bm => [stC b y m d (-1) (-1) (-1) z o, .mp bm [(.str [57, 57], .agg [.int .i64 0, .int .i64 (-1), .int .i64 (-1)]), (.str [57, 57, 57, 57], .agg [.int .i64 0, .int .i64 2, .int .i64 (-1)]), (.str [57, 57, 57, 57, 57, 57], .agg [.int .i64 0, .int .i64 2, .int .i64 4]), (.str [45, 57, 57], .agg [.int .i64 (-1), .int .i64 1, .int .i64 (-1)]), (.str [45, 57, 57, 57, 57], .agg [.int .i64 (-1), .int .i64 1, .int .i64 3]), (.str [45, 45, 57, 57], .agg [.int .i64 (-1), .int .i64 (-1), .int .i64 2])]]) (fun _ => True) ?_ fun bm _ => ?_
 ·refine xw1 ?_
  intro bm
  intros
  exact cy bm trivial
 refine cuty hC hGL (X := Nat × Nat) (fun x => [(0, .str s), (1, .own 0 (pW b)), (6, .own 2 (pW x.2)), (7, .bool (decide (x.1 ≠ 7)))]) (fun x => [stC b y m d (-1) (-1) (-1) z o, .mp bm [(.str [57, 57], .agg [.int .i64 0, .int .i64 (-1), .int .i64 (-1)]), (.str [57, 57, 57, 57], .agg [.int .i64 0, .int .i64 2, .int .i64 (-1)]), (.str [57, 57, 57, 57, 57, 57], .agg [.int .i64 0, .int .i64 2, .int .i64 4]), (.str [45, 57, 57], .agg [.int .i64 (-1), .int .i64 1, .int .i64 (-1)]), (.str [45, 57, 57, 57, 57], .agg [.int .i64 (-1), .int .i64 1, .int .i64 3]), (.str [45, 45, 57, 57], .agg [.int .i64 (-1), .int .i64 (-1), .int .i64 2])], .cells x.2 (some 202) [.int .i64 (cL x.1 0), .int .i64 (cL x.1 1), .int .i64 (cL x.1 2)]]) (fun x => x.1 = cIx s) ?_ fun x hx => ?_
 ·refine xw ?_
  repeat' (first | exact Le.n | refine Lc.mk ?_ ?_)
  all_goals intros
  all_goals first
   | exact cy (1, _) (jp 1 (by decide) (by decide) (by assumption))
   | exact cy (2, _) (jp 2 (by decide) (by decide) (by assumption))
   | exact cy (3, _) (jp 3 (by decide) (by decide) (by assumption))
   | exact cy (4, _) (jp 4 (by decide) (by decide) (by assumption))
   | exact cy (5, _) (jp 5 (by decide) (by decide) (by assumption))
   | exact cy (6, _) (jp 6 (by decide) (by decide) (by assumption))
   | exact cy (7, _) (CE (by assumption) (by assumption) (by assumption) (by assumption) (by assumption) (by assumption))
 obtain ⟨k, b6⟩ := x
 obtain rfl : k = cIx s := hx
 dsimp only
 rcases p4 s with ⟨h7, -⟩ | ⟨k, hk1, hk, hk2, hk3⟩
 ·rw [h7]
  exact aH hC hGL xw0
 have n0 := lL (G := G) hk1 hk hk3 0 (by decide)
 have n1 := lL (G := G) hk1 hk hk3 1 (by decide)
 have n2 := lL (G := G) hk1 hk hk3 2 (by decide)
 rw [hk2]
 have e7 : decide (k ≠ 7) = true := decide_eq_true (by omega)
 rw [e7]
 rw [show cH k s = cV k s 0 from rfl]
 rw [show cI k s = cV k s 1 from rfl]
 rw [show cS k s = cV k s 2 from rfl]
 generalize cL k 0 = l0 at *
 generalize cL k 1 = l1 at *
 generalize cL k 2 = l2 at *
 generalize cV k s 0 = v0 at *
 generalize cV k s 1 = v1 at *
 generalize cV k s 2 = v2 at *
 refine aH hC hGL (xn1 ?_)
 intros
 refine a8 mixed hC hGL false (fun _ _ => False) (fun (_ : Unit) => [(0, .str s), (6, .own 2 (pW b6)), (36, .list 1 3 (aV [(0, pF b 3), (1, pF b 4), (2, pF b 5)])), (37, .int .i64 3), (38, .int .i64 0)]) (fun _ => [stC b y m d (-1) (-1) (-1) z o, .mp bm [(.str [57, 57], .agg [.int .i64 0, .int .i64 (-1), .int .i64 (-1)]), (.str [57, 57, 57, 57], .agg [.int .i64 0, .int .i64 2, .int .i64 (-1)]), (.str [57, 57, 57, 57, 57, 57], .agg [.int .i64 0, .int .i64 2, .int .i64 4]), (.str [45, 57, 57], .agg [.int .i64 (-1), .int .i64 1, .int .i64 (-1)]), (.str [45, 57, 57, 57, 57], .agg [.int .i64 (-1), .int .i64 1, .int .i64 3]), (.str [45, 45, 57, 57], .agg [.int .i64 (-1), .int .i64 (-1), .int .i64 2])], .cells b6 (some 202) [.int .i64 l0, .int .i64 l1, .int .i64 l2]]) (.take 0 (.take 1 (.take 2 (.take 3 (.take 4 (.take 5 (.take 6 (.take 7 (.take 8 (.take 11 (.br 9 (.take 10 (.done)) (.nil)))))))))))) (by kernel_rfl) ?_ ?_ (fun _ _ h => h.elim)
 ·refine xn ?_
  repeat' (first | exact Le.n | refine Lc.mk ?_ ?_)
  all_goals intros
  all_goals (exact ⟨(), aj, aD⟩)
 intro _
 refine xn1 ?_
 refine EV (aN (aM (i := 2) (k := 6) rfl rfl) (dl (e' := [(0, .str s), (6, .rop [.int .i64 l0, .int .i64 l1, .int .i64 l2] 0), (36, .list 1 3 (aV [(0, pF b 3), (1, pF b 4), (2, pF b 5)])), (37, .int .i64 3), (38, .int .i64 0)]) (h' := [stC b y m d (-1) (-1) (-1) z o]) aj (List.Sublist.cons_cons _ (List.nil_sublist _)))) ?_
 refine lp hC hGL (fun r : Nat => [(0, .str s), (6, .rop [.int .i64 l0, .int .i64 l1, .int .i64 l2] 0), (36, .list 1 3 (aV [(0, pF b 3), (1, pF b 4), (2, pF b 5)])), (37, .int .i64 3), (38, .int .i64 (r : Nat))]) (fun r => [stC b y m d (got v0 0 r) (got v1 1 r) (got v2 2 r) z o]) (fun r => r ≤ 3) (fun r => 3 - r) 0 (by decide) aj (by simp only [EY]) ?_
 intro r hr
 rcases (show r = 0 ∨ r = 1 ∨ r = 2 ∨ r = 3 by omega) with rfl | rfl | rfl | rfl
 ·rcases n0 with ⟨g1, g2⟩ | ⟨g1, g2, g3, g4, g5⟩
  ·refine xw1 ?_
   intros
   refine nxt 1 (by decide) (by decide) aj ?_
   simp [got, g2]
  ·refine xn1 ?_
   intros
   refine a8 mixed hC hGL false (fun _ _ => False) (fun (_ : Unit) => [(0, .str s), (6, .rop [.int .i64 l0, .int .i64 l1, .int .i64 l2] 0), (36, .list 1 3 (aV [(0, pF b 3), (1, pF b 4), (2, pF b 5)])), (37, .int .i64 3), (38, .int .i64 (0 : Nat)), (8, .int .i64 (0 : Nat))]) (fun _ => [stC b y m d (got v0 0 1) (got v1 1 1) (got v2 2 1) z o]) (.take 0 (.take 1 (.take 2 (.take 3 (.take 4 (.take 5 (.take 6 (.take 7 (.take 8 (.take 9 (.br 10 (.take 11 (.take 12 (.take 13 (.take 14 (.br 15 (.done) (.nil)))))) (.nil)))))))))))) (by kernel_rfl) ?_ ?_ (fun _ _ h => h.elim)
   ·refine xn ?_
    repeat' (first | exact Le.n | refine Lc.mk ?_ ?_)
    all_goals intros
    all_goals (exact ⟨(), aj, aD⟩)
   ·intro _
    refine xw1 ?_
    intros
    exact nxt 1 (by decide) (by decide) aj rfl
 ·rcases n1 with ⟨g1, g2⟩ | ⟨g1, g2, g3, g4, g5⟩
  ·refine xw1 ?_
   intros
   refine nxt 2 (by decide) (by decide) aj ?_
   simp [got, g2]
  ·refine xn1 ?_
   intros
   refine a8 mixed hC hGL false (fun _ _ => False) (fun (_ : Unit) => [(0, .str s), (6, .rop [.int .i64 l0, .int .i64 l1, .int .i64 l2] 0), (36, .list 1 3 (aV [(0, pF b 3), (1, pF b 4), (2, pF b 5)])), (37, .int .i64 3), (38, .int .i64 (1 : Nat)), (8, .int .i64 (1 : Nat))]) (fun _ => [stC b y m d (got v0 0 2) (got v1 1 2) (got v2 2 2) z o]) (.take 0 (.take 1 (.take 2 (.take 3 (.take 4 (.take 5 (.take 6 (.take 7 (.take 8 (.take 9 (.br 10 (.take 11 (.take 12 (.take 13 (.take 14 (.br 15 (.done) (.nil)))))) (.nil)))))))))))) (by kernel_rfl) ?_ ?_ (fun _ _ h => h.elim)
   ·refine xn ?_
    repeat' (first | exact Le.n | refine Lc.mk ?_ ?_)
    all_goals intros
    all_goals (exact ⟨(), aj, aD⟩)
   ·intro _
    refine xw1 ?_
    intros
    exact nxt 2 (by decide) (by decide) aj rfl
 ·rcases n2 with ⟨g1, g2⟩ | ⟨g1, g2, g3, g4, g5⟩
  ·refine xw1 ?_
   intros
   refine nxt 3 (by decide) (by decide) aj ?_
   simp [got, g2]
  ·refine xn1 ?_
   intros
   refine a8 mixed hC hGL false (fun _ _ => False) (fun (_ : Unit) => [(0, .str s), (6, .rop [.int .i64 l0, .int .i64 l1, .int .i64 l2] 0), (36, .list 1 3 (aV [(0, pF b 3), (1, pF b 4), (2, pF b 5)])), (37, .int .i64 3), (38, .int .i64 (2 : Nat)), (8, .int .i64 (2 : Nat))]) (fun _ => [stC b y m d (got v0 0 3) (got v1 1 3) (got v2 2 3) z o]) (.take 0 (.take 1 (.take 2 (.take 3 (.take 4 (.take 5 (.take 6 (.take 7 (.take 8 (.take 9 (.br 10 (.take 11 (.take 12 (.take 13 (.take 14 (.br 15 (.done) (.nil)))))) (.nil)))))))))))) (by kernel_rfl) ?_ ?_ (fun _ _ h => h.elim)
   ·refine xn ?_
    repeat' (first | exact Le.n | refine Lc.mk ?_ ?_)
    all_goals intros
    all_goals (exact ⟨(), aj, aD⟩)
   ·intro _
    refine xw1 ?_
    intros
    exact nxt 3 (by decide) (by decide) aj rfl
 ·exact xw0
end
end Go.Proofs.YtkelbglfhigmiaaGreatDoor
