/- Parts of the proof of cardItems_card: Trb, Vra, Fli, Thr, Fll, Cia, Cnt, Rqe, Lpf, Lpg, Lph, Lpi, Lpe, Lpj. -/
import Derived.Test.YtkelbglfhigmiaaGreatDoorBaj
import Derived.Test.YtkelbglfhigmiaaGreatDoorBad
import Derived.Test.YtkelbglfhigmiaaGreatDoorBae
import Derived.Test.YtkelbglfhigmiaaGreatDoorBaf
import Derived.Test.YtkelbglfhigmiaaGreatDoorBai
import Derived.Test.YtkelbglfhigmiaaGreatDoorBah
set_option linter.unusedVariables false
set_option linter.unusedSimpArgs false
set_option linter.unusedSectionVars false
namespace Go.Proofs.YtkelbglfhigmiaaGreatDoor
set_option maxRecDepth 20000
set_option maxHeartbeats 4000000
section
open Go Go.RowKit
theorem idx5 (b : Int) : idxB [92, 44, 59, 110, 78] b = if b = 92 then 0 else if b = 44 then 1 else if b = 59 then 2 else if b = 110 then 3 else if b = 78 then 4 else -1 := by
 unfold idxB
 simp only [idxF]
 by_cases h1 : b = 92
 ·subst h1; rfl
 by_cases h2 : b = 44
 ·subst h2; rfl
 by_cases h3 : b = 59
 ·subst h3; rfl
 by_cases h4 : b = 110
 ·subst h4; rfl
 by_cases h5 : b = 78
 ·subst h5; rfl
 rw [if_neg h1, if_neg h2, if_neg h3, if_neg h4, if_neg h5, if_neg (fun h => h1 h.symm), if_neg (fun h => h2 h.symm), if_neg (fun h => h3 h.symm), if_neg (fun h => h4 h.symm), if_neg (fun h => h5 h.symm)]
def unS (s : List UInt8) : List UInt8 := match errT s 0 with
 | .none => valT (tokT s)
 | _ => []
theorem uB {s : List UInt8} (h : errT s 0 = .none) : unS s = valT (tokT s) := by unfold unS; rw [h]
theorem uC {s : List UInt8} {e p : Int} (h : errT s 0 = .at e p) : unS s = [] := by unfold unS; rw [h]
theorem Bj {s : List UInt8} {i : Nat} (h : i < s.length) : okE s[i] = decide ((aa s i : Int) = 92 ∨ (aa s i : Int) = 44 ∨ (aa s i : Int) = 59 ∨ (aa s i : Int) = 110 ∨ (aa s i : Int) = 78) := by
 unfold okE
 simp only [ff h]
 rfl
theorem q8 {s : List UInt8} {i : Nat} (h : i < s.length) (hb : (aa s i : Int) = 110 ∨ (aa s i : Int) = 78) : escV s[i] = 10 := by
 unfold escV
 rw [if_pos (hb.imp (ff (c := 110) h).2 (ff (c := 78) h).2)]
theorem lF {s : List UInt8} {i : Nat} (h : i < s.length) (hb : ¬ ((aa s i : Int) = 110 ∨ (aa s i : Int) = 78)) : escV s[i] = s[i] := by
 unfold escV
 rw [if_neg (fun k => hb (k.imp (ff (c := 110) h).1 (ff (c := 78) h).1))]
theorem Am {s : List UInt8} {i : Nat} (h : i < s.length) : (s.take (i + 1)).drop i = [s[i]] := by
 rw [List.take_succ_eq_append_getElem h, List.drop_append_of_le_length (by rw [List.length_take]; omega), List.drop_of_length_le (by rw [List.length_take]; omega)]
 rfl
theorem Db (T : List Tk) : (valT T).length = T.length := by simp
set_option maxHeartbeats 8000000
attribute [local irreducible] AWp AOps ax OrOk ab ae aa escV idxB
theorem fo {G : Glo} (s : List UInt8) (hl : s.length ≤ 2000000) : FnIs Tryz.prog G 44 [.str s] (.tuple [.str (unS s), .agg [.int .i64 (errT s 0).e, .int .i64 (errT s 0).p]]) := by
 have hgd := fK (G := G)
 have hI := fun (b : Int) h0 h1 => aL (G := G) [92, 44, 59, 110, 78] b h0 h1
 have hGL : ab G [] := ad
 refine fn_x Tryz.func44 Tryz.call44 rfl rfl rfl rfl hGL ?_
 intro C hC
 repeat' (first | (conv => whnf); first | refine .w ?_ | refine Ix.v ?_ | refine Sd.v ?_ | refine Sl.v ?_ | apply am | refine sc_d ?_ ?_ <;> (intro hb; try exact dd hb) | apply ah | (apply sc_i <;> intro hb) | (apply bx_i; intro hbd) | (apply ak; first | fail) | (apply ab_i; intro bl) | exact rt_w | exact True.intro | (apply bc_i; intro C hC) | apply bt_i | apply og_n | (apply og_a; exact rfl))
 all_goals try conv => whnf
 refine lp hC hGL (fun (x : Nat × List Tk) => [(0, .str s), (3, .own 0 (.pointer (some ⟨bl, 0, none⟩))), (4, .str (valT x.2)), (5, .int .i64 (x.1 : Nat))]) (fun _ => [.cells bl (some 35) [.int .i64 0, .int .i64 0]]) (fun x => TokP s x.1 x.2 ∧ x.2.length ≤ x.1) (fun x => s.length - x.1) (0, []) ?_ aj rfl ?_
 ·exact ⟨pd s, Nat.le_refl _⟩
 rintro ⟨i, T⟩ ⟨hT, hlT⟩
 have hT : TokP s i T := hT
 have hlT : T.length ≤ i := hlT
 have hi := hT.1
 have hv := Db T
 by_cases hA : i + 1 < s.length ∧ (aa s i : Int) = 92
 ·obtain ⟨hA1, hA2⟩ := hA
  have hbl := aX s (i + 1)
  have hJ := hI (aa s (i + 1) : Int) (by omega) (by omega)
  rw [idx5] at hJ
  have hok := Bj hA1
  by_cases k1 : (aa s (i + 1) : Int) = 92
  ·rw [if_pos k1] at hJ
   refine xn1 ?_
   intros
   refine nxt (i + 2, T ++ [.two s[i + 1]]) ?_ ?_ ⟨rfl, rfl, ?_, rfl, trivial⟩ rfl
   ·exact ⟨dq hT hA1 hA2 (by rw [hok]; simp [k1]), by simp; omega⟩
   ·show s.length - (i + 2) < s.length - i
    omega
   ·refine congrArg (fun l => some (AVal.str l)) ?_
    rw [dQ]
    refine congrArg (valT T ++ ·) ?_
    show [92] = [escV s[i + 1]]
    rw [lF hA1 (by omega), (ff hA1).2 (show _ = ((92 : UInt8).toNat : Int) from k1)]
  by_cases k2 : (aa s (i + 1) : Int) = 44
  ·rw [if_neg k1, if_pos k2] at hJ
   refine xn1 ?_
   intros
   refine nxt (i + 2, T ++ [.two s[i + 1]]) ?_ ?_ ⟨rfl, rfl, ?_, rfl, trivial⟩ rfl
   ·exact ⟨dq hT hA1 hA2 (by rw [hok]; simp [k2]), by simp; omega⟩
   ·show s.length - (i + 2) < s.length - i
    omega
   ·refine congrArg (fun l => some (AVal.str l)) ?_
    rw [dQ]
    refine congrArg (valT T ++ ·) ?_
    show [44] = [escV s[i + 1]]
    rw [lF hA1 (by omega), (ff hA1).2 (show _ = ((44 : UInt8).toNat : Int) from k2)]
  by_cases k3 : (aa s (i + 1) : Int) = 59
  ·rw [if_neg k1, if_neg k2, if_pos k3] at hJ
   refine xn1 ?_
   intros
   refine nxt (i + 2, T ++ [.two s[i + 1]]) ?_ ?_ ⟨rfl, rfl, ?_, rfl, trivial⟩ rfl
   ·exact ⟨dq hT hA1 hA2 (by rw [hok]; simp [k3]), by simp; omega⟩
   ·show s.length - (i + 2) < s.length - i
    omega
   ·refine congrArg (fun l => some (AVal.str l)) ?_
    rw [dQ]
    refine congrArg (valT T ++ ·) ?_
    show [59] = [escV s[i + 1]]
    rw [lF hA1 (by omega), (ff hA1).2 (show _ = ((59 : UInt8).toNat : Int) from k3)]
  by_cases k4 : (aa s (i + 1) : Int) = 110
  ·rw [if_neg k1, if_neg k2, if_neg k3, if_pos k4] at hJ
   refine xn1 ?_
   intros
   refine nxt (i + 2, T ++ [.two s[i + 1]]) ?_ ?_ ⟨rfl, rfl, ?_, rfl, trivial⟩ rfl
   ·exact ⟨dq hT hA1 hA2 (by rw [hok]; simp [k4]), by simp; omega⟩
   ·show s.length - (i + 2) < s.length - i
    omega
   ·refine congrArg (fun l => some (AVal.str l)) ?_
    rw [dQ]
    refine congrArg (valT T ++ ·) ?_
    show [10] = [escV s[i + 1]]
    rw [q8 hA1 (by omega)]
  by_cases k5 : (aa s (i + 1) : Int) = 78
  ·rw [if_neg k1, if_neg k2, if_neg k3, if_neg k4, if_pos k5] at hJ
   refine xn1 ?_
   intros
   refine nxt (i + 2, T ++ [.two s[i + 1]]) ?_ ?_ ⟨rfl, rfl, ?_, rfl, trivial⟩ rfl
   ·exact ⟨dq hT hA1 hA2 (by rw [hok]; simp [k5]), by simp; omega⟩
   ·show s.length - (i + 2) < s.length - i
    omega
   ·refine congrArg (fun l => some (AVal.str l)) ?_
    rw [dQ]
    refine congrArg (valT T ++ ·) ?_
    show [10] = [escV s[i + 1]]
    rw [q8 hA1 (by omega)]
  rw [if_neg k1, if_neg k2, if_neg k3, if_neg k4, if_neg k5] at hJ
  have he := rX hT hA1 hA2 (by rw [hok]; simp [k1, k2, k3, k4, k5])
  refine xn1 ?_
  intros
  apply ar
  rw [uC he, he]
  rfl
 ·refine xn ?_
  repeat' (first | exact Le.n | refine Lc.mk ?_ ?_)
  all_goals intros
  ·have hlt : i < s.length := by dsimp only at *; omega
   have hne : (aa s i : Int) ≠ 92 := by assumption
   refine nxt (i + 1, T ++ [.one s[i]]) ?_ ?_ ⟨rfl, rfl, ?_, rfl, trivial⟩ rfl
   ·exact ⟨mY hT hlt hne, by simp; omega⟩
   ·show s.length - (i + 1) < s.length - i
    omega
   ·refine congrArg (fun l => some (AVal.str l)) ?_
    rw [dQ]
    exact congrArg (valT T ++ ·) (Am hlt)
  ·have he := pc hT (by dsimp only at *; omega) (by assumption)
   apply ar
   rw [uC he, he]
   rfl
  ·exfalso
   dsimp only at *
   omega
  ·obtain ⟨he, ht⟩ := rW hT (by dsimp only at *; omega)
   apply ar
   rw [uB he, he, ht]
   rfl
end
section
open Go Go.RowKit
theorem Gj {s : List UInt8} {i n : Nat} (h : n ≤ bsN s i) (hb : (aa s (i - n - 1) : Int) = 92) (hi : n < i) : n + 1 ≤ bsN s i := by
 rcases Nat.lt_or_ge n (bsN s i) with k | k
 ·exact k
 ·have e : n = bsN s i := by omega
  rcases ud s i with h1 | h1
  ·omega
  ·rw [← e] at h1; exact absurd hb h1
theorem Gk {s : List UInt8} {i n : Nat} (h : n ≤ bsN s i) (hb : (aa s (i - n - 1) : Int) ≠ 92) : n = bsN s i := by
 rcases Nat.lt_or_ge n (bsN s i) with k | k
 ·exact absurd (CI s i n k) hb
 ·omega
theorem CH {s : List UInt8} {i n : Nat} (h : n ≤ bsN s i) (hi : i ≤ n) : n = bsN s i := by
 have := wz s i
 omega
set_option maxHeartbeats 8000000
attribute [local irreducible] AWp AOps ax OrOk ab ae aa bsN
theorem xl {G : Glo} (s : List UInt8) (c : UInt8) (hl : s.length ≤ 2000000) : FnIs Tryz.prog G 78 [.str s, .int .u8 (c.toNat : Int)] (.list 1 (cutL c s).length (aO (cutL c s))) := by
  refine kJ (fun a => a) Bp (aO (cutL c s)) (dS _) (cs := bM (cutL c s)) (eT := none) ?_
  have hGL : ab G [] := ad
  refine fn_x Tryz.func78 Tryz.call78 rfl rfl rfl rfl hGL ?_
  intro C hC
  refine xn1 ?_
  intros
  refine nJ 5 1 rfl ?_
  refine lp hC hGL (fun (x : Nat × Nat × List (List UInt8) × Value) => [(0, .str s), (1, .int .u8 (c.toNat : Int)), (5, .own 0 x.2.2.2), (6, .int .i64 (x.2.1 : Nat)), (10, .int .i64 (s.length : Nat)), (11, .int .i64 (x.1 : Nat))]) (fun x => [.row x.2.2.2 none 1 x.2.2.1.length (bM x.2.2.1)]) (fun x => CutP s c x.1 x.2.2.1 x.2.1) (fun x => s.length - x.1) (0, 0, [], .slice none 0 0) ?_ aj rfl ?_
  · exact zz s c
  rintro ⟨i, fr, out, v⟩ hT
  have hT : CutP s c i out fr := hT
  have h1 := hT.1
  have h2 := hT.2.1
  have h3 := hT.2.2.1
  refine xn ?_
  repeat' (first | exact Le.n | refine Lc.mk ?_ ?_)
  all_goals intros
  · have hlt : i < s.length := by dsimp only at *; omega
    refine lp hC hGL (fun (n : Nat) => [(0, .str s), (1, .int .u8 (c.toNat : Int)), (5, .own 0 v), (6, .int .i64 (fr : Nat)), (7, .int .i64 (i : Nat)), (8, .int .i64 (n : Nat)), (10, .int .i64 (s.length : Nat)), (11, .int .i64 (i : Nat))]) (fun _ => [.row v none 1 out.length (bM out)]) (fun n => n ≤ bsN s i) (fun n => i - n) 0 ?_ aj rfl ?_
    · exact Nat.zero_le _
    intro n hn
    have hn : n ≤ bsN s i := hn
    have hni := wz s i
    have e : 0 < (i : Int) - n → ((i : Int) - n - 1).toNat = i - n - 1 := fun _ => by omega
    repeat' (first | (conv => whnf); first | refine .w ?_ | refine .v ?_ | refine sc_c ?_ ?_ <;> (intro hb; try exact dd hb) | apply ah | apply aq | (apply sc_i <;> intro hb) | (apply bx_i; intro hbd) | (apply ak; first | fail) | (apply ap (i := 0) rfl; first | fail) | (apply ab_i; intro bl) | (apply as_i; intro va vk vc hva) | (apply av_i; intro v) | (apply ac_i; intro bl cap hcap) | apply bo_l | (apply nx_i <;> intro hnx) | exact rt_w | apply dw_q mixed hC hGL (by kernel_rfl) | (apply cq; assumption; (first | fail); exact rfl))
    all_goals try conv => whnf
    · rw [e (by omega)] at hb
      refine nxt (n + 1) (Gj hn hb (by omega)) ?_ ⟨rfl, rfl, rfl, rfl, rfl, rfl, rfl, rfl, trivial⟩ rfl
      show i - (n + 1) < i - n
      omega
    all_goals
      have en : n = bsN s i := by first | exact CH hn (by omega) | (rw [e (by omega)] at *; exact Gk hn (by assumption))
      first
        | (refine nxt (i + 1, i + 1, out ++ [(s.take i).drop fr], .slice va vk vc) ?_ ?_ ⟨rfl, rfl, rfl, rfl, rfl, rfl, trivial⟩ ?_
           · exact Cn hT hlt (by assumption) (by rw [← en]; omega)
           · show s.length - (i + 1) < s.length - i
             omega
           · dsimp only
             rw [← cx, List.length_append]
             rfl)
        | (refine nxt (i + 1, fr, out, v) ?_ ?_ ⟨rfl, rfl, rfl, rfl, rfl, rfl, trivial⟩ rfl
           · exact En hT hlt (by rw [← en]; omega)
           · show s.length - (i + 1) < s.length - i
             omega)
  · have h3p : (((i, fr, out, v) : Nat × Nat × List (List UInt8) × Value).2.2.1).length ≤ i := h3
    repeat' (first | (conv => whnf); first | refine .w ?_ | refine .v ?_ | refine sc_c ?_ ?_ <;> (intro hb; try exact dd hb) | apply ah | apply aq | (apply sc_i <;> intro hb) | (apply bx_i; intro hbd) | (apply ak; first | fail) | (apply ap (i := 0) rfl; first | fail) | (apply ab_i; intro bl) | (apply as_i; intro va vk vc hva) | (apply av_i; intro v) | (apply ac_i; intro bl cap hcap) | apply bo_l | (apply nx_i <;> intro hnx) | exact rt_w | apply dw_q mixed hC hGL (by kernel_rfl) | (apply cq; assumption; (first | fail); exact rfl))
    all_goals try conv => whnf
    have hlt : s.length ≤ i := by dsimp only at *; omega
    refine ⟨_, List.Sublist.refl _, 0, .slice va vk vc, rfl, ?_⟩
    dsimp only
    rw [Cm hT hlt, ← cx, List.length_append]
    rfl
end
section
open Go Go.RowKit
theorem wX (c : UInt8) : ∀ s : List UInt8, (∀ x ∈ (stB c s).1, x.length ≤ s.length) ∧ (stB c s).2.1.length ≤ s.length := by
 refine dT ⟨fun _ h => by simp [stB] at h, by simp [stB]⟩ fun s b ih => ?_
 rw [iw]
 unfold ir
 split
 ·refine ⟨fun x hx => ?_, by simp⟩
  rw [List.length_append]
  rcases List.mem_append.1 hx with hx | hx
  ·have := ih.1 x hx; omega
  ·rw [List.mem_singleton.1 hx]; have := ih.2; omega
 ·refine ⟨fun x hx => ?_, ?_⟩
  ·rw [List.length_append]
   have := ih.1 x hx; omega
  ·rw [List.length_append, List.length_append]
   have := ih.2
   simp
   omega
theorem tQ (c : UInt8) (s : List UInt8) {x : List UInt8} (h : x ∈ cutL c s) : x.length ≤ s.length := by
 rcases List.mem_append.1 h with h | h
 ·exact (wX c s).1 x h
 ·rw [List.mem_singleton.1 h]; exact (wX c s).2
theorem Dv (c : UInt8) : ∀ s : List UInt8, (stB c s).1.length ≤ s.length := by
 refine dT (Nat.le_refl _) fun s b ih => ?_
 rw [iw, List.length_append]
 unfold ir
 split
 ·simp; exact ih
 ·simp; omega
theorem tR (c : UInt8) (s : List UInt8) : (cutL c s).length ≤ s.length + 1 := by
 have := Dv c s
 simp [cutL]; exact this
theorem jn : ∀ (n : Nat) (s : List UInt8) (i : Nat), s.length ≤ n → errT s i = .none ∨ (∃ p, errT s i = .at 7 p) ∨ ∃ p, errT s i = .at 3 p
 | _, [], _, _ => .inl rfl
 | 0, c :: r, _, hn => by simp at hn
 | n + 1, c :: r, i, hn => by
  have hn : r.length ≤ n := by simpa using hn
  by_cases hc : c = 92
  ·subst hc
   cases r with
   | nil => exact .inr (.inl ⟨_, rfl⟩)
   | cons d r =>
    by_cases hd : okE d = true
    ·rw [iP hd]
     exact jn n r _ (by simp at hn; omega)
    ·exact .inr (.inr ⟨_, by simp [errT, hd]; rfl⟩)
  ·rw [iQ hc]
   exact jn n r _ hn
theorem yd {s : List UInt8} (h : errT s 0 ≠ .none) : ¬ (errT s 0).e = 0 := by
 rcases jn s.length s 0 (Nat.le_refl _) with k | ⟨p, k⟩ | ⟨p, k⟩
 ·exact absurd k h
 ·rw [k]; exact (by decide : ¬ (7 : Int) = 0)
 ·rw [k]; exact (by decide : ¬ (3 : Int) = 0)
def lstS (s : List UInt8) : List (List UInt8) := match errT s 0 with
 | .none => lstT (tokT s)
 | _ => []
theorem qQ {s : List UInt8} (h : errT s 0 = .none) : lstS s = lstT (tokT s) := by unfold lstS; rw [h]
theorem xL {s : List UInt8} (h : errT s 0 ≠ .none) : lstS s = [] := by
 unfold lstS
 split
 ·rename_i h2; exact absurd h2 h
 ·rfl
theorem Ag {s : List UInt8} (h : errT s 0 ≠ .none) : unS s = [] := by
 unfold unS
 split
 ·rename_i h2; exact absurd h2 h
 ·rfl
theorem lw {s : List UInt8} {c : UInt8} (hc : c ≠ 92) (h : errT s 0 = .none) : cutL c s = (splT c (tokT s)).map rawT ∧ ∀ T' ∈ splT c (tokT s), errT (rawT T') 0 = .none ∧ tokT (rawT T') = T' := by
 have hok := uE s.length s (Nat.le_refl _)
 have hraw := mB s.length s 0 (Nat.le_refl _) h
 refine ⟨?_, fun T' hT => xp T' 0 (Dy hok T' hT)⟩
 have := Co hc hok
 rwa [hraw] at this
theorem sN {s : List UInt8} {c : UInt8} (hc : c ≠ 92) (h : errT s 0 = .none) {k : Nat} (hk : k < (cutL c s).length) : ∃ T', (splT c (tokT s))[k]? = some T' ∧ (cutL c s).getD k [] = rawT T' ∧ errT ((cutL c s).getD k []) 0 = .none ∧ tokT ((cutL c s).getD k []) = T' := by
 obtain ⟨h1, h2⟩ := lw hc h
 have hk' : k < (splT c (tokT s)).length := by rw [h1, List.length_map] at hk; exact hk
 refine ⟨(splT c (tokT s))[k], List.getElem?_eq_getElem hk', ?_⟩
 have e : (cutL c s).getD k [] = rawT (splT c (tokT s))[k] := by
  rw [h1, List.getD_eq_getElem?_getD, List.getElem?_map, List.getElem?_eq_getElem hk']
  rfl
 rw [e]
 exact ⟨rfl, h2 _ (List.getElem_mem hk')⟩
theorem jv {α β : Type} {l : List α} {k : Nat} {a : α} (f : α → β) (h : l[k]? = some a) : (l.map f).take (k + 1) = (l.map f).take k ++ [f a] := by
 obtain ⟨hlt, e⟩ := List.getElem?_eq_some_iff.1 h
 rw [List.take_succ_eq_append_getElem (by simpa using hlt)]
 simp [e]
theorem qB {sz : Nat} {f : Nat → AVal} {b : AVal} : yu (.ret (.tuple [.raw (.slice none 0 0), b])) [] (.tuple [.list sz 0 f, b]) := by
 rintro C R w e hm ⟨x, rfl, ⟨ws, e2, u, t, e1, hu, h3⟩, h2⟩
 refine ⟨R, hm, x, rfl, ⟨ws, e2, u, t, e1, ⟨?_, ?_⟩, h3⟩, h2⟩
 ·have hr : Rel R (.raw (.slice none 0 0)) u := hu
  obtain rfl := an.1 hr
  exact ⟨none, 0, rfl, Nat.le_refl _, .inl rfl⟩
 ·have hr : Rel R (.raw (.slice none 0 0)) u := hu
  obtain rfl := an.1 hr
  rfl
set_option maxHeartbeats 8000000
attribute [local irreducible] AWp AOps ax OrOk ab ae aa cutL unS errT tokT lstT lstS
theorem oc {G : Glo} (e p : Int) : FnIs Tryz.prog G 11 [.agg [.int .i64 e, .int .i64 p]] (.bool (eqB e 0)) := by
 have hGL : ab G [] := ad
 refine fn_x Tryz.func11 Tryz.call11 rfl rfl rfl rfl hGL ?_
 intro C hC
 exact xw0
theorem sE {G : Glo} (s : List UInt8) (hl : s.length ≤ 2000000) : FnIs Tryz.prog G 45 [.str s] (.tuple [.list 1 (lstS s).length (aO (lstS s)), .agg [.int .i64 (errT s 0).e, .int .i64 (errT s 0).p]]) := by
 have hU := fo (G := G) s hl
 have hF := oc (G := G) (errT s 0).e (errT s 0).p
 have hgd := fK (G := G)
 have hcut := xl (G := G) s 44 hl
 have hcc := tR 44 s
 by_cases he : errT s 0 = .none
 ·rw [he] at hU hF ⊢
  rw [qQ he]
  have hUp := fun k (hk : k < (cutL 44 s).length) => fo (G := G) ((cutL 44 s).getD k []) (Nat.le_trans (tQ 44 s (by rw [List.getD_eq_getElem?_getD, List.getElem?_eq_getElem hk]; exact List.getElem_mem hk)) hl)
  refine kJ (fun a => .tuple [a, .agg [.int .i64 (Err.none).e, .int .i64 (Err.none).p]]) (Bq _) (aO (lstT (tokT s))) (dS _) (cs := bM (lstT (tokT s))) (eT := none) ?_
  have hGL : ab G [] := ad
  refine fn_x Tryz.func45 Tryz.call45 rfl rfl rfl rfl hGL ?_
  intro C hC
  repeat' (first | (conv => whnf); first | refine .w ?_ | refine Ix.v ?_ | refine Sd.v ?_ | refine Sl.v ?_ | apply am | refine sc_d ?_ ?_ <;> (intro hb; try exact dd hb) | apply ah | (apply sc_i <;> intro hb) | (apply bx_i; intro hbd) | (apply ak; first | exact hU | exact hF | exact hcut) | (apply ab_i; intro bl) | exact rt_w | exact True.intro | (apply bc_i; intro C hC) | apply bt_i | apply og_n | (apply og_a; exact rfl))
  all_goals try conv => whnf
  rename_i bl0
  refine nJ 6 1 rfl ?_
  obtain ⟨hp1, _⟩ := lw (c := 44) (by decide) he
  have hn : (lstT (tokT s)).length = (cutL 44 s).length := by rw [hp1]; unfold lstT; simp
  refine lp hC hGL (fun (y : List (List UInt8) × Value) => [(3, .own 0 (.pointer (some ⟨bl0, 0, none⟩))), (6, .own 2 y.2), (21, .list 1 (cutL 44 s).length (aO (cutL 44 s))), (22, .int .i64 ((cutL 44 s).length : Nat)), (23, .int .i64 (y.1.length : Nat))]) (fun y => [.cells bl0 (some 35) [.int .i64 0, .int .i64 0], .cells bl (some 35) [.int .i64 (Err.none).e, .int .i64 (Err.none).p], .row y.2 none 1 y.1.length (bM y.1)]) (fun y => y.1.length ≤ (cutL 44 s).length ∧ y.1 = (lstT (tokT s)).take y.1.length) (fun y => (cutL 44 s).length - y.1.length) ([], .slice none 0 0) ?_ aj rfl ?_
  ·exact ⟨Nat.zero_le _, rfl⟩
  rintro ⟨ps, v⟩ ⟨h1, h2⟩
  have h1 : ps.length ≤ (cutL 44 s).length := h1
  have h2 : ps = (lstT (tokT s)).take ps.length := h2
  by_cases hlt : ps.length < (cutL 44 s).length
  ·obtain ⟨T', k1, k2, k3, k4⟩ := sN (c := 44) (by decide) he hlt
   have hU1 := hUp ps.length hlt
   rw [k3, uB k3, k4] at hU1
   have hU1 : FnIs Tryz.prog G 44 [aO (cutL 44 s) ps.length] (.tuple [.str (valT T'), .agg [.int .i64 (Err.none).e, .int .i64 (Err.none).p]]) := hU1
   repeat' (first | (conv => whnf); first | refine .w ?_ | refine .v ?_ | refine sc_c ?_ ?_ <;> (intro hb; try exact dd hb) | apply ah | apply aq | (apply sc_i <;> intro hb) | (apply bx_i; intro hbd) | (apply ak; first | exact hU1) | (apply ap (i := 0) rfl; first | exact hU1) | (apply ab_i; intro bl) | (apply as_i; intro va vk vc hva) | (apply av_i; intro v) | (apply ac_i; intro bl cap hcap) | apply bo_l | (apply nx_i <;> intro hnx) | exact rt_w | apply dw_q mixed hC hGL (by kernel_rfl) | (apply cq; assumption; (first | exact hU1); exact rfl))
   all_goals try conv => whnf
   refine nxs (ps ++ [valT T'], .slice va vk vc) ?_ ?_ ⟨rfl, rfl, rfl, rfl, ?_, trivial⟩ ?_
   ·refine ⟨?_, ?_⟩
    ·show (ps ++ [valT T']).length ≤ _
     rw [List.length_append, List.length_singleton]; exact hlt
    ·show ps ++ [valT T'] = (lstT (tokT s)).take (ps ++ [valT T']).length
     have e1 : (lstT (tokT s)).take (ps.length + 1) = (lstT (tokT s)).take ps.length ++ [valT T'] := by
      unfold lstT
      exact jv valT k1
     rw [List.length_append, List.length_singleton, e1, ← h2]
   ·show (cutL 44 s).length - (ps ++ [valT T']).length < (cutL 44 s).length - ps.length
    rw [List.length_append, List.length_singleton]; omega
   ·show some (AVal.int .i64 (((ps.length : Nat) : Int) + 1)) = some (AVal.int .i64 ((ps ++ [valT T']).length : Nat))
    rw [List.length_append]; rfl
   ·dsimp only
    rw [← cx, List.length_append]
    exact .cons_cons _ (.cons_cons _ (.cons_cons _ (List.nil_sublist _)))
  ·refine xw1 ?_
   intros
   have h3 : ps = lstT (tokT s) := by rw [h2, List.take_of_length_le (by omega)]
   subst h3
   exact ⟨_, .cons _ (.cons _ (.refl _)), 2, v, rfl, rfl⟩
 ·have hne := yd he
  rw [Ag he] at hU
  rw [xL he]
  refine dz (H := []) (Qf := fun r H => r = .ret (.tuple [.raw (.slice none 0 0), .agg [.int .i64 (errT s 0).e, .int .i64 (errT s 0).p]]) ∧ H = []) ?_ (fun r H h => by obtain ⟨rfl, rfl⟩ := h; exact qB)
  have hGL : ab G [] := ad
  refine fn_x Tryz.func45 Tryz.call45 rfl rfl rfl rfl hGL ?_
  intro C hC
  repeat' (first | (conv => whnf); first | refine .w ?_ | refine .v ?_ | refine sc_c ?_ ?_ <;> (intro hb; try exact dd hb) | apply ah | apply aq | (apply sc_i <;> intro hb) | (apply bx_i; intro hbd) | (apply ak; first | exact hU | exact hF) | (apply ap (i := 0) rfl; first | exact hU | exact hF) | (apply ab_i; intro bl) | (apply as_i; intro va vk vc hva) | (apply av_i; intro v) | (apply ac_i; intro bl cap hcap) | apply bo_l | (apply nx_i <;> intro hnx) | exact rt_w | exact True.intro | (apply bc_i; intro C hC) | apply bt_i | apply og_n | (apply og_a; exact rfl))
  all_goals try conv => whnf
  rename_i bl0
  refine dw_p mixed hC hGL false (fun (_ : Unit) => [(2, .raw (.slice none 0 0)), (3, .own 0 (.pointer (some ⟨bl0, 0, none⟩)))]) (fun _ => [.cells bl0 (some 35) [.int .i64 (errT s 0).e, .int .i64 (errT s 0).p], .cells bl (some 35) [.int .i64 (errT s 0).e, .int .i64 (errT s 0).p]]) (.take 1 (.br 0 (.br 2 (.done) (.nil)) (.nil))) (by kernel_rfl) ?_ ?_
  ·refine xn ?_
   repeat' (first | exact Le.n | refine Lc.mk ?_ ?_)
   all_goals intros
   all_goals exact ⟨(), ⟨rfl, rfl, trivial⟩, rfl⟩
  intro _
  exact xn0
end
section
open Go Go.RowKit
def lstA (l : List (List UInt8)) : AVal := .list 1 l.length (aO l)
def prtC (L : List (List (List UInt8))) : List AVal := L.map lstA
def prtF (L : List (List (List UInt8))) (i : Nat) : AVal := lstA (L.getD i [])
theorem xA (L : List (List (List UInt8))) : ∀ i, i < L.length → (prtF L i).cells = ((prtC L).drop (i * 1)).take 1 ∧ (prtF L i).plain = true := by
 intro i hi
 refine ⟨?_, rfl⟩
 rw [Nat.mul_one, List.drop_eq_getElem_cons (by simpa [prtC] using hi)]
 simp [prtF, prtC, AVal.cells, List.getD, List.getElem?_eq_getElem hi, lstA]
theorem lv (L : List (List (List UInt8))) (l : List (List UInt8)) : prtC L ++ [lstA l] = prtC (L ++ [l]) := by simp [prtC]
def prtT (T : List Tk) : List (List (List UInt8)) := (splT 59 T).map lstT
def prtS (s : List UInt8) : List (List (List UInt8)) := match errT s 0 with
 | .none => prtT (tokT s)
 | _ => []
theorem xy {s : List UInt8} (h : errT s 0 = .none) : prtS s = prtT (tokT s) := by unfold prtS; rw [h]
theorem xz {s : List UInt8} (h : errT s 0 ≠ .none) : prtS s = [] := by
 unfold prtS
 split
 ·rename_i h2; exact absurd h2 h
 ·rfl
set_option maxHeartbeats 8000000
attribute [local irreducible] AWp AOps ax OrOk ab ae aa cutL unS errT tokT lstT lstS prtT prtS
theorem y6 {G : Glo} (s : List UInt8) (hl : s.length ≤ 2000000) : FnIs Tryz.prog G 46 [.str s] (.tuple [.list 1 (prtS s).length (prtF (prtS s)), .agg [.int .i64 (errT s 0).e, .int .i64 (errT s 0).p]]) := by
 have hU := fo (G := G) s hl
 have hF := oc (G := G) (errT s 0).e (errT s 0).p
 have hgd := fK (G := G)
 have hcut := xl (G := G) s 59 hl
 have hcc := tR 59 s
 by_cases he : errT s 0 = .none
 ·rw [he] at hU hF ⊢
  rw [xy he]
  have hUp := fun k (hk : k < (cutL 59 s).length) => sE (G := G) ((cutL 59 s).getD k []) (Nat.le_trans (tQ 59 s (by rw [List.getD_eq_getElem?_getD, List.getElem?_eq_getElem hk]; exact List.getElem_mem hk)) hl)
  refine kJ (fun a => .tuple [a, .agg [.int .i64 (Err.none).e, .int .i64 (Err.none).p]]) (Bq _) (prtF (prtT (tokT s))) (xA _) (cs := prtC (prtT (tokT s))) (eT := none) ?_
  have hGL : ab G [] := ad
  refine fn_x Tryz.func46 Tryz.call46 rfl rfl rfl rfl hGL ?_
  intro C hC
  repeat' (first | (conv => whnf); first | refine .w ?_ | refine Ix.v ?_ | refine Sd.v ?_ | refine Sl.v ?_ | apply am | refine sc_d ?_ ?_ <;> (intro hb; try exact dd hb) | apply ah | (apply sc_i <;> intro hb) | (apply bx_i; intro hbd) | (apply ak; first | exact hU | exact hF | exact hcut) | (apply ab_i; intro bl) | exact rt_w | exact True.intro | (apply bc_i; intro C hC) | apply bt_i | apply og_n | (apply og_a; exact rfl))
  all_goals try conv => whnf
  rename_i bl0
  refine nJ 6 1 rfl ?_
  obtain ⟨hp1, _⟩ := lw (c := 59) (by decide) he
  have hn : (prtT (tokT s)).length = (cutL 59 s).length := by rw [hp1]; unfold prtT; simp
  refine lp hC hGL (fun (y : List (List (List UInt8)) × Value) => [(3, .own 0 (.pointer (some ⟨bl0, 0, none⟩))), (6, .own 2 y.2), (21, .list 1 (cutL 59 s).length (aO (cutL 59 s))), (22, .int .i64 ((cutL 59 s).length : Nat)), (23, .int .i64 (y.1.length : Nat))]) (fun y => [.cells bl0 (some 35) [.int .i64 0, .int .i64 0], .cells bl (some 35) [.int .i64 (Err.none).e, .int .i64 (Err.none).p], .row y.2 none 1 y.1.length (prtC y.1)]) (fun y => y.1.length ≤ (cutL 59 s).length ∧ y.1 = (prtT (tokT s)).take y.1.length) (fun y => (cutL 59 s).length - y.1.length) ([], .slice none 0 0) ?_ aj rfl ?_
  ·exact ⟨Nat.zero_le _, rfl⟩
  rintro ⟨ps, v⟩ ⟨h1, h2⟩
  have h1 : ps.length ≤ (cutL 59 s).length := h1
  have h2 : ps = (prtT (tokT s)).take ps.length := h2
  by_cases hlt : ps.length < (cutL 59 s).length
  ·obtain ⟨T', k1, k2, k3, k4⟩ := sN (c := 59) (by decide) he hlt
   have hU1 := hUp ps.length hlt
   rw [k3, qQ k3, k4] at hU1
   have hU1 : FnIs Tryz.prog G 45 [aO (cutL 59 s) ps.length] (.tuple [.list 1 (lstT T').length (aO (lstT T')), .agg [.int .i64 (Err.none).e, .int .i64 (Err.none).p]]) := hU1
   repeat' (first | (conv => whnf); first | refine .w ?_ | refine .v ?_ | refine sc_c ?_ ?_ <;> (intro hb; try exact dd hb) | apply ah | apply aq | (apply sc_i <;> intro hb) | (apply bx_i; intro hbd) | (apply ak; first | exact hU1) | (apply ap (i := 0) rfl; first | exact hU1) | (apply ab_i; intro bl) | (apply as_i; intro va vk vc hva) | (apply av_i; intro v) | (apply ac_i; intro bl cap hcap) | apply bo_l | (apply nx_i <;> intro hnx) | exact rt_w | apply dw_q mixed hC hGL (by kernel_rfl) | (apply cq; assumption; (first | exact hU1); exact rfl))
   all_goals try conv => whnf
   refine nxs (ps ++ [lstT T'], .slice va vk vc) ?_ ?_ ⟨rfl, rfl, rfl, rfl, ?_, trivial⟩ ?_
   ·refine ⟨?_, ?_⟩
    ·show (ps ++ [lstT T']).length ≤ _
     rw [List.length_append, List.length_singleton]; exact hlt
    ·show ps ++ [lstT T'] = (prtT (tokT s)).take (ps ++ [lstT T']).length
     have e1 : (prtT (tokT s)).take (ps.length + 1) = (prtT (tokT s)).take ps.length ++ [lstT T'] := by
      unfold prtT
      exact jv lstT k1
     rw [List.length_append, List.length_singleton, e1, ← h2]
   ·show (cutL 59 s).length - (ps ++ [lstT T']).length < (cutL 59 s).length - ps.length
    rw [List.length_append, List.length_singleton]; omega
   ·show some (AVal.int .i64 (((ps.length : Nat) : Int) + 1)) = some (AVal.int .i64 ((ps ++ [lstT T']).length : Nat))
    rw [List.length_append]; rfl
   ·dsimp only
    rw [← lv, List.length_append]
    exact .cons_cons _ (.cons_cons _ (.cons_cons _ (List.nil_sublist _)))
  ·refine xw1 ?_
   intros
   have h3 : ps = prtT (tokT s) := by rw [h2, List.take_of_length_le (by omega)]
   subst h3
   exact ⟨_, .cons _ (.cons _ (.refl _)), 2, v, rfl, rfl⟩
 ·have hne := yd he
  rw [Ag he] at hU
  rw [xz he]
  refine dz (H := []) (Qf := fun r H => r = .ret (.tuple [.raw (.slice none 0 0), .agg [.int .i64 (errT s 0).e, .int .i64 (errT s 0).p]]) ∧ H = []) ?_ (fun r H h => by obtain ⟨rfl, rfl⟩ := h; exact qB)
  have hGL : ab G [] := ad
  refine fn_x Tryz.func46 Tryz.call46 rfl rfl rfl rfl hGL ?_
  intro C hC
  repeat' (first | (conv => whnf); first | refine .w ?_ | refine .v ?_ | refine sc_c ?_ ?_ <;> (intro hb; try exact dd hb) | apply ah | apply aq | (apply sc_i <;> intro hb) | (apply bx_i; intro hbd) | (apply ak; first | exact hU | exact hF) | (apply ap (i := 0) rfl; first | exact hU | exact hF) | (apply ab_i; intro bl) | (apply as_i; intro va vk vc hva) | (apply av_i; intro v) | (apply ac_i; intro bl cap hcap) | apply bo_l | (apply nx_i <;> intro hnx) | exact rt_w | exact True.intro | (apply bc_i; intro C hC) | apply bt_i | apply og_n | (apply og_a; exact rfl))
  all_goals try conv => whnf
  rename_i bl0
  refine dw_p mixed hC hGL false (fun (_ : Unit) => [(2, .raw (.slice none 0 0)), (3, .own 0 (.pointer (some ⟨bl0, 0, none⟩)))]) (fun _ => [.cells bl0 (some 35) [.int .i64 (errT s 0).e, .int .i64 (errT s 0).p], .cells bl (some 35) [.int .i64 (errT s 0).e, .int .i64 (errT s 0).p]]) (.take 1 (.br 0 (.br 2 (.done) (.nil)) (.nil))) (by kernel_rfl) ?_ ?_
  ·refine xn ?_
   repeat' (first | exact Le.n | refine Lc.mk ?_ ?_)
   all_goals intros
   all_goals exact ⟨(), ⟨rfl, rfl, trivial⟩, rfl⟩
  intro _
  exact xn0
end
section
open Go Go.RowKit
def Vl.no : Vl := ⟨0, [], [], Stm.no, 0⟩
def vrG (s : List UInt8) (k : Int) : Vl × Err :=
 if k = 1 then (⟨k, unS s, [], Stm.no, 0⟩, errT s 0)
 else if k = 2 then (⟨k, [], [lstS s], Stm.no, 0⟩, errT s 0)
 else if k = 3 then (⟨k, [], prtS s, Stm.no, 0⟩, errT s 0)
 else if k = 4 then (⟨k, s, [], Stm.no, 0⟩, uriE s)
 else if k = 5 then (⟨k, [], [], (whP s).1, 0⟩, (whP s).2)
 else if k = 6 then (⟨k, [], [], Stm.no, (aS s).1⟩, dp s)
 else if k = 7 then (⟨k, s, [], Stm.no, 0⟩, ij s)
 else (⟨k, s, [], Stm.no, 0⟩, .none)
def vrV (s : List UInt8) (k : Int) : Vl × Err :=
 if k < 1 ∨ 9 ≤ k then (Vl.no, .errno 1)
 else if hdB false s = false then (Vl.no, .errno 3)
 else match (vrG s k).2 with
  | .none => vrG s k
  | e => (Vl.no, e)
end
section
open Go Go.RowKit
structure LineS where
 t : List UInt8
 a : Nat
 f : List Int
def nO (l : LineS) : AVal := .agg [.str l.t, .int .i64 l.a, .list 1 l.f.length (nV l.f)]
/-! ### The first break -/
end
section
open Go Go.RowKit
attribute [local irreducible] AWp AOps aa ax OrOk ab ae
attribute [local irreducible] cj Lv AWpD To
abbrev thrA (e p : Int) : AVal := .iface 135 (.agg [.int .i64 e, .int .i64 p])
theorem ls {G : Glo} (e p : Int) : ae Tryz.prog G 30 [.int .i64 e, .int .i64 p] [] (fun r H => r = .panic (thrA e p) ∧ H = []) := by
 have hGL : ab G [] := ad
 refine fn_x Tryz.func30 Tryz.call30 rfl rfl rfl rfl hGL ?_
 intro C hC
 repeat' (first | (conv => whnf); first | refine .w ?_ | refine .v ?_ | refine sc_c ?_ ?_ <;> (intro hb; try exact dd hb) | apply ah | apply aq | (apply sc_i <;> intro hb) | (apply bx_i; intro hbd) | (apply ak; first | fail) | (apply ap (i := 0) rfl; first | fail) | (apply ab_i; intro bl) | (apply as_i; intro va vk vc hva) | (apply av_i; intro v) | (apply ac_i; intro bl cap hcap) | apply bo_l | (apply nx_i <;> intro hnx) | exact rt_w | apply dw_q mixed hC hGL (by kernel_rfl) | (apply cq; assumption; (first | fail); exact rfl))
 all_goals try conv => whnf
 exact EQ rfl
theorem vj {G : Glo} (b : Nat) (e p : Int) (x y : AVal) : cj Tryz.prog G 28 [.own 0 (.pointer (some ⟨b, 0, none⟩))] (.pan (thrA e p)) [.cells b (some 35) [x, y]]
  (fun r m H => m = .rcv (thrA e p) ∧ r = .ret (.tuple []) ∧ H = [.cells b (some 35) [.int .i64 e, .int .i64 p]]) := by
 have hGL : ab G [] := ad
 refine rb (rs := []) (GL := []) Tryz.func28 rfl rfl rfl rfl rfl rfl hGL ?_
 intro C hC
 repeat' (first | (conv => whnf); first | refine .w ?_ | refine .v ?_ | refine sc_c ?_ ?_ <;> (intro hb; try exact dd hb) | apply ah | apply aq | (apply sc_i <;> intro hb) | (apply bx_i; intro hbd) | (apply ak; first | fail) | (apply ap (i := 0) rfl; first | fail) | (apply ab_i; intro bl) | (apply as_i; intro va vk vc hva) | (apply av_i; intro v) | (apply ac_i; intro bl cap hcap) | apply bo_l | (apply nx_i <;> intro hnx) | exact rt_w | apply dw_q mixed hC hGL (by kernel_rfl) | (apply cq; assumption; (first | fail); exact rfl))
 all_goals try conv => whnf
 all_goals skip
theorem qD {G : Glo} (b : Nat) (x : HEnt) : cj Tryz.prog G 28 [.own 0 (.pointer (some ⟨b, 0, none⟩))] .ret [x]
  (fun r m H => m = .ret ∧ r = .ret (.tuple []) ∧ H = [x]) := by
 have hGL : ab G [] := ad
 refine rb (rs := []) (GL := []) Tryz.func28 rfl rfl rfl rfl rfl rfl hGL ?_
 intro C hC
 repeat' (first | (conv => whnf); first | refine .w ?_ | refine .v ?_ | refine sc_c ?_ ?_ <;> (intro hb; try exact dd hb) | apply ah | apply aq | (apply sc_i <;> intro hb) | (apply bx_i; intro hbd) | (apply ak; first | fail) | (apply ap (i := 0) rfl; first | fail) | (apply ab_i; intro bl) | (apply as_i; intro va vk vc hva) | (apply av_i; intro v) | (apply ac_i; intro bl cap hcap) | apply bo_l | (apply nx_i <;> intro hnx) | exact rt_w | apply dw_q mixed hC hGL (by kernel_rfl) | (apply cq; assumption; (first | fail); exact rfl))
 all_goals try conv => whnf
 all_goals skip
theorem gS {G : Glo} (e p : Int) : FnIs Tryz.prog G 11 [.agg [.int .i64 e, .int .i64 p]] (.bool (eqB e 0)) := by
 have hGL : ab G [] := ad
 refine fn_x Tryz.func11 Tryz.call11 rfl rfl rfl rfl hGL ?_
 intro C hC
 repeat' (first | (conv => whnf); first | refine .w ?_ | refine .v ?_ | refine sc_c ?_ ?_ <;> (intro hb; try exact dd hb) | apply ah | apply aq | (apply sc_i <;> intro hb) | (apply bx_i; intro hbd) | (apply ak; first | fail) | (apply ap (i := 0) rfl; first | fail) | (apply ab_i; intro bl) | (apply as_i; intro va vk vc hva) | (apply av_i; intro v) | (apply ac_i; intro bl cap hcap) | apply bo_l | (apply nx_i <;> intro hnx) | exact rt_w | apply dw_q mixed hC hGL (by kernel_rfl) | (apply cq; assumption; (first | fail); exact rfl))
 all_goals try conv => whnf
 all_goals skip
end
section
open Go Go.RowKit
def bndL (t : List UInt8) (l : LineS) : Prop := l.a ≤ t.length ∧ l.t.length ≤ 1500 ∧ l.f.length ≤ t.length
def bk (l : LineS) (i : Int) (k : Nat) : Int := (l.a : Int) + i + 3 * ((l.f.take k).filter fun f => decide (f ≤ i)).length
theorem sL (l : LineS) (i : Int) : bk l i 0 = l.a + i := by simp [bk]
theorem sJ {l : LineS} {i : Int} {k : Nat} (h : k < l.f.length) (hf : l.f.getD k 0 ≤ i) : bk l i (k + 1) = bk l i k + 3 := by
 unfold bk
 rw [List.take_succ_eq_append_getElem h, List.filter_append, List.length_append]
 rw [List.getD_eq_getElem?_getD, List.getElem?_eq_getElem h] at hf
 simp only [Option.getD_some] at hf
 simp [hf]
 omega
theorem sK {l : LineS} {i : Int} {k : Nat} (h : k < l.f.length) (hf : ¬ l.f.getD k 0 ≤ i) : bk l i (k + 1) = bk l i k := by
 unfold bk
 rw [List.take_succ_eq_append_getElem h, List.filter_append, List.length_append]
 rw [List.getD_eq_getElem?_getD, List.getElem?_eq_getElem h] at hf
 simp only [Option.getD_some] at hf
 simp [hf]
theorem pu (l : LineS) (i : Int) (k : Nat) : l.a + i ≤ bk l i k ∧ bk l i k ≤ l.a + i + 3 * l.f.length := by
 unfold bk
 have h1 := List.length_filter_le (fun f => decide (f ≤ i)) (l.f.take k)
 have h2 : (l.f.take k).length ≤ l.f.length := by rw [List.length_take]; omega
 omega
attribute [local irreducible] AWp AOps aa ax OrOk ab ae
attribute [local irreducible] bk
theorem vW {G : Glo} (t : List UInt8) (l : LineS) (i : Int) (h0 : 0 ≤ i) (h1 : i ≤ 3000) (hl : t.length ≤ 20100) (hb : bndL t l) : FnIs Tryz.prog G 17 [nO l, .int .i64 i] (.int .i64 (bk l i l.f.length)) := by
 obtain ⟨b1, b2, b3⟩ := hb
 have hGL : ab G [] := ad
 refine fn_x Tryz.func17 Tryz.call17 rfl rfl rfl rfl hGL ?_
 intro C hC
 refine xw1 ?_
 intros
 rw [← sL l i]
 refine lp hC hGL (fun (k : Nat) => [(1, .int .i64 i), (5, .int .i64 (bk l i k)), (13, .list 1 l.f.length (nV l.f)), (14, .int .i64 l.f.length), (15, .int .i64 k)]) (fun _ => []) (fun k => k ≤ l.f.length) (fun k => l.f.length - k) 0 ?_ aj rfl ?_
 ·exact Nat.zero_le _
 intro k hk
 have hk : k ≤ l.f.length := hk
 have hp := pu l i k
 by_cases hk2 : k < l.f.length
 ·have e1 := sJ (l := l) (i := i) hk2
  have e2 := sK (l := l) (i := i) hk2
  refine xw ?_
  repeat' (first | exact Le.n | refine Lc.mk ?_ ?_)
  all_goals intros
  ·refine nxt (k + 1) (show k + 1 ≤ _ by omega) (by omega) ⟨rfl, congrArg (fun z => some (AVal.int .i64 z)) (e1 (by assumption)).symm, rfl, rfl, rfl, trivial⟩ rfl
  ·refine nxt (k + 1) (show k + 1 ≤ _ by omega) (by omega) ⟨rfl, congrArg (fun z => some (AVal.int .i64 z)) (e2 (by omega)).symm, rfl, rfl, rfl, trivial⟩ rfl
 ·refine xw1 ?_
  intros
  apply ar
  rw [show k = l.f.length by omega]
theorem y5 {G : Glo} (t : List UInt8) (l : LineS) (i : Int) (h0 : 0 ≤ i) (h1 : i ≤ 3000) (hl : t.length ≤ 20100) (hb : bndL t l) : FnIs Tryz.prog G 12 [nO l, .int .i64 i] (.int .i64 (bk l i l.f.length)) := by
 obtain ⟨b1, b2, b3⟩ := hb
 have hGL : ab G [] := ad
 refine fn_x Tryz.func12 Tryz.call12 rfl rfl rfl rfl hGL ?_
 intro C hC
 refine xw1 ?_
 intros
 rw [← sL l i]
 refine lp hC hGL (fun (k : Nat) => [(1, .int .i64 i), (2, .rop [.str l.t, .int .i64 l.a, .list 1 l.f.length (nV l.f)] 0), (5, .int .i64 (bk l i k)), (13, .int .i64 l.f.length), (14, .int .i64 k)]) (fun _ => []) (fun k => k ≤ l.f.length) (fun k => l.f.length - k) 0 ?_ aj rfl ?_
 ·exact Nat.zero_le _
 intro k hk
 have hk : k ≤ l.f.length := hk
 have hp := pu l i k
 by_cases hk2 : k < l.f.length
 ·have e1 := sJ (l := l) (i := i) hk2
  have e2 := sK (l := l) (i := i) hk2
  refine xw ?_
  repeat' (first | exact Le.n | refine Lc.mk ?_ ?_)
  all_goals intros
  ·refine nxt (k + 1) (show k + 1 ≤ _ by omega) (by omega) ⟨rfl, rfl, congrArg (fun z => some (AVal.int .i64 z)) (e1 (by assumption)).symm, rfl, rfl, trivial⟩ rfl
  ·refine nxt (k + 1) (show k + 1 ≤ _ by omega) (by omega) ⟨rfl, rfl, congrArg (fun z => some (AVal.int .i64 z)) (e2 (by omega)).symm, rfl, rfl, trivial⟩ rfl
 ·refine xw1 ?_
  intros
  apply ar
  rw [show k = l.f.length by omega]
end
section
open Go Go.RowKit
def Err.in (n : Nat) : Err → Prop
 | .at _ p => 0 ≤ p ∧ p ≤ (n : Int)
 | _ => True
theorem yn : ∀ (k : Nat) {s : List UInt8} {i : Nat}, badF k s = some i → i < s.length
 | 0, s, i, h => by cases h
 | k + 1, s, i, h => by
  unfold badF at h
  split at h
  ·cases h
  ·split at h
   ·cases h; omega
   ·cases hq : badF k (s.drop (aB s).2) with
    | none => rw [hq] at h; cases h
    | some j =>
     have ih := yn k hq
     rw [hq] at h
     cases h
     rw [List.length_drop] at ih
     show j + (aB s).2 < _
     omega
section
variable {c : Bool} {s : List UInt8} {e : Int} {p : Nat}
theorem mT {a : Nat} (ha : a ≤ s.length) (h : aR s a = .bad e p) : p ≤ s.length := by
 unfold aR at h
 split at h
 ·cases h
 ·cases h; exact ha
theorem Dg {a : Nat} (ha : a ≤ s.length) : valJ s a ≤ s.length := qk ((mA s a).2.2 ha)
theorem De {a : Nat} (ha : a ≤ s.length) (h : valP c s a = .bad e p) : p ≤ s.length := by
 have h1 := Dg ha
 unfold valP at h
 (repeat' split at h) <;> (cases h; try exact h1)
theorem Fc {v : List UInt8} {a b : Nat} (h : valP c s a = .ok (v, b)) : v.length ≤ s.length := by
 have h1 : ∀ i j : Nat, (dIf c ((s.take i).drop j)).length ≤ s.length := fun i j => by
  have e1 : ((s.take i).drop j).length ≤ s.length := by rw [List.length_drop, List.length_take]; omega
  unfold dIf
  split
  ·exact Nat.le_trans (oh _) e1
  ·exact e1
 unfold valP at h
 (repeat' split at h) <;> (cases h; try exact h1 _ _)
theorem rP : ∀ (n : Nat) {a : Nat} {acc : List (List UInt8)}, s.length - a ≤ n → a ≤ s.length → ca c s a acc = .bad e p → p ≤ s.length
 | n, a, acc, hn, ha, h => by
  cases hv : valP c s a with
  | bad e' p' => rw [dH hv] at h; cases h; exact De ha hv
  | ok x =>
   obtain ⟨v, d⟩ := x
   have h1 := fh hv
   cases hb : atB s d 44 with
   | true =>
    have h2 := bB.1 hb
    rw [im hv hb] at h
    cases n with
    | zero => omega
    | succ n => exact rP n (by omega) (by omega) h
   | false => rw [gq hv hb] at h; cases h
theorem wN : ∀ (n : Nat) {a b : Nat} {acc vs : List (List UInt8)}, s.length - a ≤ n → (∀ v ∈ acc, v.length ≤ s.length) → ca c s a acc = .ok (vs, b) → ∀ v ∈ vs, v.length ≤ s.length
 | n, a, b, acc, vs, hn, h0, h => by
  cases hv : valP c s a with
  | bad e' p' => rw [dH hv] at h; cases h
  | ok x =>
   obtain ⟨v, d⟩ := x
   have h1 := fh hv
   have h3 : ∀ u ∈ acc ++ [v], u.length ≤ s.length := fun u hu => by
    rcases List.mem_append.1 hu with hu | hu
    ·exact h0 u hu
    ·rw [List.mem_singleton.1 hu]; exact Fc hv
   cases hb : atB s d 44 with
   | true =>
    have h2 := bB.1 hb
    rw [im hv hb] at h
    cases n with
    | zero => omega
    | succ n => exact wN n (by omega) h3 h
   | false => rw [gq hv hb] at h; cases h; exact h3
theorem sT : ∀ (n : Nat) {a : Nat} {acc : List Pr}, s.length - a ≤ n → a ≤ s.length → bq c s a acc = .bad e p → p ≤ s.length
 | n, a, acc, hn, ha, h => by
  cases hq : atB s a 59 with
  | false => rw [eD hq] at h; cases h
  | true =>
   have h1 := (bB.1 hq).1
   cases hw : aR s (a + 1) with
   | bad e' p' => rw [dB hq hw] at h; cases h; exact mT h1 hw
   | ok x =>
    obtain ⟨w, j⟩ := x
    have h2 := bL hw
    have h4 := h2.2.1 h1
    cases hj : atB s j 61 with
    | false => rw [fM hq hw hj] at h; cases h; exact h4
    | true =>
     have h5 := (bB.1 hj).1
     cases hv : ca c s (j + 1) [] with
     | bad e' p' => rw [cz hq hw hj hv] at h; cases h; exact rP _ (Nat.le_refl _) h5 hv
     | ok x =>
      obtain ⟨vs, d⟩ := x
      have h3 := fF _ (Nat.le_refl _) hv
      by_cases h20 : acc.length = 20
      ·rw [eC hq hw hj hv h20] at h; cases h; exact h1
      ·rw [fL hq hw hj hv h20] at h
       cases n with
       | zero => omega
       | succ n => exact sT n (by omega) (h3.2.1 h5) h
def Pr.in (n : Nat) (q : Pr) : Prop := q.n.length ≤ n ∧ q.vs.length ≤ n + 1 ∧ ∀ v ∈ q.vs, v.length ≤ n
theorem xC : ∀ (n : Nat) {a b : Nat} {acc ps : List Pr}, s.length - a ≤ n → (∀ q ∈ acc, q.in s.length) → bq c s a acc = .ok (ps, b) → ∀ q ∈ ps, q.in s.length
 | n, a, b, acc, ps, hn, h0, h => by
  cases hq : atB s a 59 with
  | false => rw [eD hq] at h; cases h; exact h0
  | true =>
   have h1 := (bB.1 hq).1
   cases hw : aR s (a + 1) with
   | bad e' p' => rw [dB hq hw] at h; cases h
   | ok x =>
    obtain ⟨w, j⟩ := x
    have h2 := bL hw
    have h4 := h2.2.1 h1
    cases hj : atB s j 61 with
    | false => rw [fM hq hw hj] at h; cases h
    | true =>
     have h5 := (bB.1 hj).1
     cases hv : ca c s (j + 1) [] with
     | bad e' p' => rw [cz hq hw hj hv] at h; cases h
     | ok x =>
      obtain ⟨vs, d⟩ := x
      have h3 := fF _ (Nat.le_refl _) hv
      by_cases h20 : acc.length = 20
      ·rw [eC hq hw hj hv h20] at h; cases h
      ·rw [fL hq hw hj hv h20] at h
       cases n with
       | zero => omega
       | succ n =>
        refine xC n (by omega) (fun q hq => ?_) h
        rcases List.mem_append.1 hq with hq | hq
        ·exact h0 q hq
        ·rw [List.mem_singleton.1 hq]
         have := h3.2.1 h5
         have := h3.2.2.2
         rw [List.length_nil] at this
         refine ⟨?_, by show vs.length ≤ _; omega, wN _ (Nat.le_refl _) (fun v hv => by cases hv) hv⟩
         show w.length ≤ _
         rw [h2.2.2.1, List.length_drop, List.length_take]
         omega
theorem BH (c : Bool) (s : List UInt8) : (lpE c s).in s.length := by
 unfold lpE
 cases hl : bT c s with
 | ok l => trivial
 | bad e p =>
  suffices h : p ≤ s.length from ⟨Int.natCast_nonneg p, by omega⟩
  unfold bT at hl
  split at hl
  ·cases hh : cT s with
   | bad e' p' =>
    rw [hh] at hl
    cases hl
    unfold cT at hh
    cases hw : aR s 0 with
    | bad e'' p'' => rw [hw] at hh; cases hh; exact mT (Nat.zero_le _) hw
    | ok x =>
     obtain ⟨w, j⟩ := x
     rw [hw] at hh
     dsimp only at hh
     split at hh
     ·rename_i hj
      cases hv : aR s (j + 1) with
      | bad e'' p'' => rw [hv] at hh; cases hh; exact mT (bB.1 hj).1 hv
      | ok x => rw [hv] at hh; cases hh
     ·cases hh
   | ok x =>
    obtain ⟨⟨g, n⟩, a⟩ := x
    have ha : a ≤ s.length := by
     unfold cT at hh
     cases hw : aR s 0 with
     | bad e'' p'' => rw [hw] at hh; cases hh
     | ok x =>
      obtain ⟨w, j⟩ := x
      have g1 := (bL hw).2.1 (Nat.zero_le _)
      rw [hw] at hh
      dsimp only at hh
      split at hh
      ·rename_i hj
       cases hv : aR s (j + 1) with
       | bad e'' p'' => rw [hv] at hh; cases hh
       | ok x =>
        obtain ⟨w2, j2⟩ := x
        rw [hv] at hh
        cases hh
        exact (bL hv).2.1 (bB.1 hj).1
      ·cases hh; exact g1
    rw [hh] at hl
    dsimp only at hl
    cases hp : bq c s a [] with
    | bad e' p' => rw [hp] at hl; cases hl; exact sT _ (Nat.le_refl _) ha hp
    | ok x =>
     obtain ⟨ps, b⟩ := x
     have hb := (nB _ (Nat.le_refl _) hp).2 ha
     rw [hp] at hl
     dsimp only at hl
     unfold eo at hl
     split at hl
     ·rename_i hq
      have hq := (bB.1 hq).1
      split at hl
      ·cases hl
      ·cases hl
       rcases gZ (hdC false) (s.drop (b + 1)) with ⟨g1, _⟩ | ⟨m, g1, g2, _⟩
       ·omega
       ·rw [List.length_drop] at g1
        omega
     ·cases hl; exact hb
  ·rename_i hb
   cases hl
   unfold badI at hb ⊢
   cases hq : badS s with
   | none => rw [hq] at hb; exact absurd (by decide) hb
   | some i =>
    have := yn _ hq
    show (i : Int).toNat ≤ _
    omega
theorem vC (c : Bool) (s : List UInt8) : (lpL c s).n.length ≤ s.length ∧ (lpL c s).v.length ≤ s.length ∧ ∀ q ∈ (lpL c s).ps, q.in s.length := by
 unfold lpL
 cases hl : bT c s with
 | bad e p => exact ⟨Nat.zero_le _, Nat.zero_le _, fun q hq => by cases hq⟩
 | ok l =>
  unfold bT at hl
  split at hl
  ·cases hh : cT s with
   | bad e p => rw [hh] at hl; cases hl
   | ok x =>
    obtain ⟨⟨g, n⟩, a⟩ := x
    have hn : n.length ≤ s.length := by
     unfold cT at hh
     cases hw : aR s 0 with
     | bad e'' p'' => rw [hw] at hh; cases hh
     | ok x =>
      obtain ⟨w, j⟩ := x
      have g1 := (bL hw).2.2.1
      rw [hw] at hh
      dsimp only at hh
      split at hh
      ·cases hv : aR s (j + 1) with
       | bad e'' p'' => rw [hv] at hh; cases hh
       | ok x =>
        obtain ⟨w2, j2⟩ := x
        have g2 := (bL hv).2.2.1
        rw [hv] at hh
        cases hh
        rw [g2, List.length_drop, List.length_take]
        omega
      ·cases hh
       rw [g1, List.length_drop, List.length_take]
       omega
    rw [hh] at hl
    dsimp only at hl
    cases hp : bq c s a [] with
    | bad e p => rw [hp] at hl; cases hl
    | ok x =>
     obtain ⟨ps, b⟩ := x
     rw [hp] at hl
     dsimp only at hl
     have hb := xC _ (Nat.le_refl _) (fun q hq => by cases hq) hp
     unfold eo at hl
     (repeat' split at hl) <;> first | (cases hl; exact ⟨hn, by show (s.drop _).length ≤ _; rw [List.length_drop]; omega, hb⟩) | cases hl
  ·cases hl
end
theorem q9 : ∀ (s : List UInt8) (i : Nat), (errT s i).in (i + s.length)
 | [], _ => trivial
 | [c], i => by
  unfold errT
  split
  ·exact ⟨Int.natCast_nonneg _, Int.le_refl _⟩
  ·trivial
 | c :: d :: r, i => by
  have h1 := q9 r (i + 2)
  have h2 := q9 (d :: r) (i + 1)
  rw [show i + (c :: d :: r).length = i + 2 + r.length by simp only [List.length_cons]; omega]
  rw [show i + 1 + (d :: r).length = i + 2 + r.length by simp only [List.length_cons]; omega] at h2
  unfold errT
  split
  ·split
   ·exact h1
   ·exact ⟨Int.natCast_nonneg _, by omega⟩
  ·exact h2
theorem Dh (s : List UInt8) : (uriE s).in s.length := by
 unfold uriE
 split
 ·trivial
 ·split
  ·rename_i h
   rcases gZ cE s with ⟨g1, _⟩ | ⟨m, g1, g2, _⟩
   ·omega
   ·exact ⟨h, by omega⟩
  ·split
   ·exact ⟨Int.natCast_nonneg _, Int.le_refl _⟩
   ·trivial
def sumL : List (List UInt8) → Nat
 | [] => 0
 | x :: l => x.length + 1 + sumL l
theorem rY (c : UInt8) : ∀ s : List UInt8, sumL (splS c s) = s.length + 1
 | [] => rfl
 | x :: t => by
  have ih := rY c t
  unfold splS
  split
  ·simp only [sumL, ih, List.length_nil, List.length_cons]; omega
  ·cases hq : splS c t with
   | nil => exact absurd hq (ka c t)
   | cons p ps =>
    rw [hq] at ih
    simp only [sumL, List.length_cons] at ih ⊢
    omega
theorem y9 (f : Bool) (a : Nat) (x : List UInt8) : (dm f a x).in (a + x.length) := by
 unfold dm
 split
 ·rename_i h
  rcases gZ (fun c => !lgB f c) x with ⟨g1, _⟩ | ⟨m, g1, g2, _⟩
  ·omega
  ·exact ⟨by omega, by omega⟩
 ·split
  ·exact ⟨Int.natCast_nonneg _, by omega⟩
  ·split
   ·exact ⟨Int.natCast_nonneg _, by omega⟩
   ·trivial
theorem Err.in_le {n m : Nat} (hn : n ≤ m) : ∀ {x : Err}, x.in n → x.in m
 | .none, _ => trivial
 | .errno _, _ => trivial
 | .at _ _, h => ⟨h.1, by have := h.2; omega⟩
theorem tl : ∀ (l : List (List UInt8)) (f : Bool) (a : Nat), (dK f a l).in (a + sumL l)
 | [], _, _ => trivial
 | x :: l, f, a => by
  unfold dK
  split
  ·exact Err.in_le (by simp only [sumL]; omega) (tl l false (a + x.length + 1))
  ·exact Err.in_le (by simp only [sumL]; omega) (y9 f a x)
theorem zX (s : List UInt8) (k : Int) : (vrV s k).2.in (s.length + 1) := by
 have h0 : (vrG s k).2.in (s.length + 1) := by
  have h1 : (errT s 0).in (s.length + 1) := Err.in_le (by omega) (q9 s 0)
  have h2 : (uriE s).in (s.length + 1) := Err.in_le (by omega) (Dh s)
  have h3 : (ij s).in (s.length + 1) := by
   have := tl (splS 45 s) true 0
   rw [rY] at this
   exact Err.in_le (by omega) this
  have h4 : (dp s).in (s.length + 1) := by
   unfold dp
   split <;> trivial
  have h5 : (whP s).2.in (s.length + 1) := by
   unfold whP whR finP
   (repeat' split) <;> trivial
  unfold vrG
  (repeat' split) <;> first | assumption | trivial
 unfold vrV
 split
 ·trivial
 ·split
  ·trivial
  ·split
   ·exact h0
   ·exact h0
def ciK (v : Int) (s : List UInt8) : Int := gt v (lpL (eqB v 4) s).n (lpL (eqB v 4) s).ps
def ciV (v : Int) (s : List UInt8) : Vl × Err := vrV (lpL (eqB v 4) s).v (ciK v s)
def ciE (v : Int) (l : LineS) : Err :=
 if v = 3 ∨ v = 4 then
  match lpE (eqB v 4) l.t with
  | .none => match (ciV v l.t).2 with
   | .none => .none
   | x => .at x.e (bk l ((l.t.length : Int) - (lpL (eqB v 4) l.t).v.length + max 0 x.p) l.f.length)
  | x => .at x.e (bk l x.p l.f.length)
 else .errno 1
def ciL (v : Int) (l : LineS) : Ln × Vl := match ciE v l with
 | .none => (lpL (eqB v 4) l.t, (ciV v l.t).1)
 | _ => (Ln.no, Vl.no)
end
section
open Go Go.RowKit
theorem oD {G : Glo} {m : Int} (hU : ab G (ce m)) (s t : List UInt8) (hl : s.length < 100000) : FnIs Tryz.prog G 74 [.str s, .str t] (.int .i64 (Lib.index s t)) := by
 refine ci rfl Tryz.call74 ?_
 rintro R args ⟨x, u, e, hx, y, u', e', hy, rfl⟩ w hG hs
 obtain rfl := az.1 hx
 obtain rfl := az.1 hy
 subst e'
 obtain rfl := fW e
 refine (Tryz.strings_Index ⟨s.toArray⟩ ⟨t.toArray⟩ m w (by show s.toArray.size < _; simp; omega) (kC hU hG hs)).mono ?_
 rintro e w' ⟨rfl, rfl⟩
 exact ⟨by simp [AVal.conc], Below.refl _ _⟩
end
section
open Go Go.RowKit
theorem u8_l {c : UInt8} {k : Nat} (hk : k < 256) (h : c.toNat = k) : c = UInt8.ofNat k := by
 rw [← h, UInt8.ofNat_toNat]
def carP : List UInt8 := [94, 94, 94, 110, 94, 39]
theorem D7 : ∀ d : _root_.Fin 256, Lib.index carP [94, UInt8.ofNat d.1] = if d.1 = 94 then 0 else if d.1 = 110 then 2 else if d.1 = 39 then 4 else -1 := by decide +kernel
theorem wr {d : UInt8} : Lib.index carP [94, d] = if d.toNat = 94 then 0 else if d.toNat = 110 then 2 else if d.toNat = 39 then 4 else -1 := by
 have := D7 ⟨d.toNat, d.toNat_lt⟩
 rwa [UInt8.ofNat_toNat] at this
attribute [local irreducible] AWp AOps aa ax OrOk ab ae
attribute [local irreducible] encF encS decS
theorem vn {G : Glo} {m : Int} (hU : ab G (ce m)) (s : List UInt8) (hl : s.length ≤ 1000000) : FnIs Tryz.prog G 37 [.str s] (.str (decS s)) := by
 have hI := fun t : List UInt8 => oD (G := G) hU carP t (by decide)
 have hGL : ab G [] := ad
 refine fn_x Tryz.func37 Tryz.call37 rfl rfl rfl rfl hGL ?_
 intro C hC
 refine xw1 ?_
 intros
 refine lp hC hGL (fun x : Nat × List UInt8 => [(0, .str s), (3, .str x.2), (4, .int .i64 (x.1 : Nat))]) (fun _ => []) (fun x => x.1 ≤ s.length ∧ x.2.length ≤ x.1 ∧ x.2 ++ decS (s.drop x.1) = decS s) (fun x => s.length - x.1) (0, []) ⟨Nat.zero_le _, Nat.zero_le _, rfl⟩ ⟨rfl, rfl, rfl, trivial⟩ rfl ?_
 rintro ⟨i, out⟩ ⟨hi, ho, hd⟩
 have hi : i ≤ s.length := hi
 have ho : out.length ≤ i := ho
 have hd : out ++ decS (s.drop i) = decS s := hd
 by_cases hlt : i < s.length
 ·have hT : ((s.take (min ((s.length : Nat) : Int) (((i : Nat) : Int) + 2)).toNat).drop ((i : Nat) : Int).toNat) = (s.drop i).take (min 2 (s.length - i)) := by
   rw [Int.toNat_natCast, show (min ((s.length : Nat) : Int) (((i : Nat) : Int) + 2)).toNat = i + min 2 (s.length - i) by omega, List.drop_take, show i + min 2 (s.length - i) - i = min 2 (s.length - i) by omega]
  have hTl : ((s.take (min ((s.length : Nat) : Int) (((i : Nat) : Int) + 2)).toNat).drop ((i : Nat) : Int).toNat).length = min 2 (s.length - i) := by rw [hT, List.length_take, List.length_drop]; omega
  by_cases hk : aa s i = 94
  ·by_cases hi2 : i + 1 < s.length
   ·have e0 := dh hlt
    have e1 := dh hi2
    have hT2 : ((s.take (min ((s.length : Nat) : Int) (((i : Nat) : Int) + 2)).toNat).drop ((i : Nat) : Int).toNat) = [94, s[i + 1]] := by
     rw [hT, show min 2 (s.length - i) = 2 by omega, List.drop_eq_getElem_cons hlt, List.drop_eq_getElem_cons hi2, u8_l (by decide) (e0.symm.trans hk)]
     rfl
    have hx := hI ((s.take (min ((s.length : Nat) : Int) (((i : Nat) : Int) + 2)).toNat).drop ((i : Nat) : Int).toNat)
    rw [show Lib.index carP ((s.take (min ((s.length : Nat) : Int) (((i : Nat) : Int) + 2)).toNat).drop ((i : Nat) : Int).toNat) = _ from (congrArg (Lib.index carP) hT2).trans wr, ← e1] at hx
    have hTl2 : ((((s.take (min ((s.length : Nat) : Int) (((i : Nat) : Int) + 2)).toNat).drop ((i : Nat) : Int).toNat).length : Nat) : Int) = 2 := by rw [hTl]; omega
    rcases (show aa s (i + 1) = 94 ∨ aa s (i + 1) = 110 ∨ aa s (i + 1) = 39 ∨ (aa s (i + 1) ≠ 94 ∧ aa s (i + 1) ≠ 110 ∧ aa s (i + 1) ≠ 39) by omega) with hq | hq | hq | ⟨k1, k2, k3⟩
    ·rw [if_pos hq] at hx
     refine xw ?_
     repeat' (first | exact Le.n | refine Lc.mk ?_ ?_)
     all_goals intros
     ·refine nxt (i + 2, out ++ [94]) ?_ ?_ ⟨rfl, rfl, rfl, trivial⟩ rfl
      ·refine ⟨hi2, ?_, ?_⟩
       ·show (out ++ [(94 : UInt8)]).length ≤ i + 2
        rw [List.length_append, List.length_singleton]; omega
       ·show out ++ [94] ++ decS (s.drop (i + 2)) = decS s
        rw [← hd, mJ hi2 hk (e := 94) (.inl ⟨hq, rfl⟩), List.append_assoc]; rfl
      ·show s.length - (i + 2) < s.length - i; omega
     all_goals exact absurd hTl2 ‹_›
    ·rw [if_neg (by omega), if_pos hq] at hx
     refine xw ?_
     repeat' (first | exact Le.n | refine Lc.mk ?_ ?_)
     all_goals intros
     ·refine nxt (i + 2, out ++ [10]) ?_ ?_ ⟨rfl, rfl, rfl, trivial⟩ rfl
      ·refine ⟨hi2, ?_, ?_⟩
       ·show (out ++ [(10 : UInt8)]).length ≤ i + 2
        rw [List.length_append, List.length_singleton]; omega
       ·show out ++ [10] ++ decS (s.drop (i + 2)) = decS s
        rw [← hd, mJ hi2 hk (e := 10) (.inr (.inl ⟨hq, rfl⟩)), List.append_assoc]; rfl
      ·show s.length - (i + 2) < s.length - i; omega
     all_goals exact absurd hTl2 ‹_›
    ·rw [if_neg (by omega), if_neg (by omega), if_pos hq] at hx
     refine xw ?_
     repeat' (first | exact Le.n | refine Lc.mk ?_ ?_)
     all_goals intros
     ·refine nxt (i + 2, out ++ [34]) ?_ ?_ ⟨rfl, rfl, rfl, trivial⟩ rfl
      ·refine ⟨hi2, ?_, ?_⟩
       ·show (out ++ [(34 : UInt8)]).length ≤ i + 2
        rw [List.length_append, List.length_singleton]; omega
       ·show out ++ [34] ++ decS (s.drop (i + 2)) = decS s
        rw [← hd, mJ hi2 hk (e := 34) (.inr (.inr ⟨hq, rfl⟩)), List.append_assoc]; rfl
      ·show s.length - (i + 2) < s.length - i; omega
     all_goals exact absurd hTl2 ‹_›
    ·rw [if_neg k1, if_neg k2, if_neg k3] at hx
     refine xw ?_
     repeat' (first | exact Le.n | refine Lc.mk ?_ ?_)
     all_goals intros
     ·refine nxt (i + 1, out ++ (s.take (i + 1)).drop i) ?_ ?_ ⟨rfl, rfl, rfl, trivial⟩ rfl
      ·refine ⟨hlt, ?_, ?_⟩
       ·show (out ++ (s.take (i + 1)).drop i).length ≤ i + 1
        rw [List.length_append, List.length_drop, List.length_take]; omega
       ·show out ++ (s.take (i + 1)).drop i ++ decS (s.drop (i + 1)) = decS s
        rw [List.append_assoc, List.drop_take, show i + 1 - i = 1 by omega, ← g8 hlt (.inr (.inr ⟨k1, k2, k3⟩))]; exact hd
      ·show s.length - (i + 1) < s.length - i; omega
     all_goals exact absurd hTl2 ‹_›
   ·repeat' (first | (conv => whnf); first | refine .w ?_ | refine .v ?_ | refine sc_c ?_ ?_ <;> (intro hb; try exact dd hb) | apply ah | apply aq | (apply sc_i <;> intro hb) | (apply bx_i; intro hbd) | (apply ak; first | exact hI _) | (apply ap (i := 0) rfl; first | exact hI _) | (apply ab_i; intro bl) | (apply as_i; intro va vk vc hva) | (apply av_i; intro v) | (apply ac_i; intro bl cap hcap) | apply bo_l | (apply nx_i <;> intro hnx) | exact rt_w | apply dw_q mixed hC hGL (by kernel_rfl) | (apply cq; assumption; (first | exact hI _); exact rfl))
    all_goals try conv => whnf
    refine nxt (i + 1, out ++ (s.take (i + 1)).drop i) ?_ ?_ ⟨rfl, rfl, rfl, trivial⟩ rfl
    ·refine ⟨hlt, ?_, ?_⟩
     ·show (out ++ (s.take (i + 1)).drop i).length ≤ i + 1
      rw [List.length_append, List.length_drop, List.length_take]; omega
     ·show out ++ (s.take (i + 1)).drop i ++ decS (s.drop (i + 1)) = decS s
      rw [List.append_assoc, List.drop_take, show i + 1 - i = 1 by omega, ← g8 hlt (.inr (.inl (by omega)))]; exact hd
    ·show s.length - (i + 1) < s.length - i; omega
  ·repeat' (first | (conv => whnf); first | refine .w ?_ | refine .v ?_ | refine sc_c ?_ ?_ <;> (intro hb; try exact dd hb) | apply ah | apply aq | (apply sc_i <;> intro hb) | (apply bx_i; intro hbd) | (apply ak; first | exact hI _) | (apply ap (i := 0) rfl; first | exact hI _) | (apply ab_i; intro bl) | (apply as_i; intro va vk vc hva) | (apply av_i; intro v) | (apply ac_i; intro bl cap hcap) | apply bo_l | (apply nx_i <;> intro hnx) | exact rt_w | apply dw_q mixed hC hGL (by kernel_rfl) | (apply cq; assumption; (first | exact hI _); exact rfl))
   all_goals try conv => whnf
   refine nxt (i + 1, out ++ (s.take (i + 1)).drop i) ?_ ?_ ⟨rfl, rfl, rfl, trivial⟩ rfl
   ·refine ⟨hlt, ?_, ?_⟩
    ·show (out ++ (s.take (i + 1)).drop i).length ≤ i + 1
     rw [List.length_append, List.length_drop, List.length_take]; omega
    ·show out ++ (s.take (i + 1)).drop i ++ decS (s.drop (i + 1)) = decS s
     rw [List.append_assoc, List.drop_take, show i + 1 - i = 1 by omega, ← g8 hlt (.inl hk)]; exact hd
   ·show s.length - (i + 1) < s.length - i; omega
 ·have h9 : out = decS s := by rw [← hd, List.drop_eq_nil_of_le (by omega), tN, List.append_nil]
  refine xw1 ?_
  intros
  apply ar
  rw [h9]
end
section
open Go Go.RowKit
abbrev atC (b a : Nat) : HEnt := .cells b (some 3) [.int .i64 (a : Nat)]
abbrev bxS (b : Nat) (s : List UInt8) : HEnt := .cells b (some 9) [.str s]
abbrev bxB (b : Nat) (c : Bool) : HEnt := .cells b (some 4) [.bool c]
def nxB (s : List UInt8) (a : Nat) : Nat := if a < s.length then aa s a else 0
theorem Bk {s : List UInt8} {a : Nat} {c : Int} (h : c ≠ 0) : (nxB s a : Int) = c ↔ atB s a c = true := by
 unfold nxB
 rw [bB]
 split <;> omega
theorem pA {s : List UInt8} {a : Nat} {c : Int} (h : c ≠ 0) (k : atB s a c = true) : (nxB s a : Int) = c := (Bk h).2 k
theorem pB {s : List UInt8} {a : Nat} {c : Int} (h : c ≠ 0) (k : atB s a c = false) : (nxB s a : Int) ≠ c := fun e => by rw [(Bk h).1 e] at k; cases k
attribute [local irreducible] AWp AOps aa ax OrOk ab ae
attribute [local irreducible] hdC hdB badI isS decS aG
theorem sC {G : Glo} (ba bs : Nat) (s : List UInt8) (a : Nat) (hl : s.length ≤ 1000000) (ha : a ≤ s.length) : ae Tryz.prog G 31 [.raw (pS ba), .raw (pS bs)] [atC ba a, bxS bs s]
  (fun r H => r = .ret (.int .u8 (nxB s a : Nat)) ∧ H = [atC ba a, bxS bs s]) := by
 have hGL : ab G [] := ad
 refine fR [(0, 0, pS ba), (1, 1, pS bs)] Tryz.func31 Tryz.call31 rfl rfl rfl rfl (by repeat (first | exact trivial | refine And.intro ⟨rfl, rfl⟩ ?_)) ?_
 intro C hC
 by_cases h : a < s.length
 ·have e : nxB s a = aa s a := if_pos h
  rw [e]
  exact aH hC hGL xw0
 ·have e : nxB s a = 0 := if_neg h
  rw [e]
  exact aH hC hGL xw0
theorem AX {G : Glo} (ba bs : Nat) (s : List UInt8) (a : Nat) (hl : s.length ≤ 1000000) (ha : a ≤ s.length) : ae Tryz.prog G 32 [.raw (pS ba), .raw (pS bs)] [atC ba a, bxS bs s]
  (fun r H => (∃ w j, aR s a = .ok (w, j) ∧ r = .ret (.str w) ∧ H = [atC ba j, bxS bs s]) ∨ (∃ e p j, aR s a = .bad e p ∧ r = .panic (thrA e p) ∧ H = [atC ba j, bxS bs s])) := by
 have hI := fun t h => A1 (G := G) t h
 have hc := Tryz.call33
 have hT := fun e p => ls (G := G) e p
 have hGL : ab G [] := ad
 refine fR [(0, 0, pS ba), (1, 1, pS bs)] Tryz.func32 Tryz.call32 rfl rfl rfl rfl (by repeat (first | exact trivial | refine And.intro ⟨rfl, rfl⟩ ?_)) ?_
 intro C hC
 refine aH hC hGL (xw1 ?_)
 refine lp hC hGL (fun x : Nat => [(0, .own 0 (pS ba)), (1, .own 1 (pS bs)), (3, .int .i64 (x : Nat))]) (fun x => [atC ba a, bxS bs s]) (fun x => a + x ≤ s.length ∧ cb aG s (a + x) = cb aG s a) (fun x => s.length - x) 0 ⟨ha, rfl⟩ aj rfl ?_
 rintro x ⟨h2, h3⟩
 have hlen : ((s.take (a + x)).drop a).length ≤ 9223372036854775807 := by rw [List.length_drop, List.length_take]; omega
 have k2 := hI ((s.take (a + x)).drop a) hlen
 have fin : cb aG s a = a + x → (isS ((s.take (a + x)).drop a) = true → aR s a = .ok ((s.take (a + x)).drop a, a + x)) ∧ (isS ((s.take (a + x)).drop a) = false → aR s a = .bad 5 a) := fun hsp =>
  ⟨fun hw => by unfold aR; rw [hsp, if_pos hw], fun hw => by unfold aR; rw [hsp, if_neg (by rw [hw]; decide)]⟩
 by_cases hx : a + x < s.length
 ·have k1 : FnIs Tryz.prog G 33 [.str ((s.take (a + x + 1)).drop (a + x))] (.bool (aG (aa s (a + x) : Int))) := by
   have := hI ((s.take (a + x + 1)).drop (a + x)) (by rw [List.length_drop, List.length_take]; omega)
   rwa [nD hx] at this
  cases hk : aG (aa s (a + x) : Int) with
  | true =>
   rw [hk] at k1
   refine xw1 ?_
   intros
   exact nxt (x + 1) ⟨by omega, (kc hx hk).symm.trans h3⟩ (by omega) aj rfl
  | false =>
   rw [hk] at k1
   have hf := fin (h3.symm.trans (gM hk))
   cases hw : isS ((s.take (a + x)).drop a) with
   | true =>
    have hr := hf.1 hw
    rw [hw] at k2
    refine xw1 ?_
    intros
    exact ⟨_, List.Sublist.refl _, .inl ⟨_, _, hr, rfl, rfl⟩⟩
   | false =>
    have hr := hf.2 hw
    rw [hw] at k2
    refine xw1 ?_
    intros
    refine bC (hT 5 a) ?_
    exact ⟨_, List.Sublist.refl _, .inr ⟨_, _, _, hr, rfl, rfl⟩⟩
 ·have hf := fin (h3.symm.trans (iy (by omega)))
  cases hw : isS ((s.take (a + x)).drop a) with
  | true =>
   have hr := hf.1 hw
   rw [hw] at k2
   refine xw1 ?_
   intros
   exact ⟨_, List.Sublist.refl _, .inl ⟨_, _, hr, rfl, rfl⟩⟩
  | false =>
   have hr := hf.2 hw
   rw [hw] at k2
   refine xw1 ?_
   intros
   refine bC (hT 5 a) ?_
   exact ⟨_, List.Sublist.refl _, .inr ⟨_, _, _, hr, rfl, rfl⟩⟩
end
section
open Go Go.RowKit
abbrev nxF (i j ba bs : Nat) : AVal := .func (.func 31) [] [.own i (pS ba), .own j (pS bs)]
abbrev fnC (b i j ba bs : Nat) : HEnt := .cells b (some 83) [nxF i j ba bs]
theorem BQ {a b c d : UInt8} (r : Int) : (0 ≤ idxB [a, b, c, d] r ↔ ∃ x ∈ [a, b, c, d], r = x.toNat) := by
 unfold idxB
 simp only [idxF, List.mem_cons, List.not_mem_nil, or_false, exists_eq_or_imp, exists_eq_left]
 split
 ·omega
 ·split
  ·omega
  ·split
   ·omega
   ·split <;> omega
theorem B4 {q : Bool} {c : Int} : endQ q c = decide (0 ≤ (if q then idxB [34] c else idxB [44, 59, 58, 34] c)) := by
 have e0 : ((34 : UInt8).toNat : Int) = 34 := by decide
 have e1 : 0 ≤ idxB [34] c ↔ c = 34 := by
  unfold idxB
  simp only [idxF]
  split <;> omega
 have e2 : 0 ≤ idxB [44, 59, 58, 34] c ↔ (c = 44 ∨ c = 59 ∨ c = 58 ∨ c = 34) := by
  have := BQ (a := 44) (b := 59) (c := 58) (d := 34) c
  rw [this]
  simp
 rw [Bool.eq_iff_iff, v8, decide_eq_true_eq]
 cases q with
 | true => rw [if_pos rfl, e1]; simp
 | false => rw [if_neg (by decide), e2]; simp; omega
theorem rh (is : List Nat) {P : Program} [Tab P] {G : Glo} {f : FuncId} {avs : List AVal} {H H1 : Heap} {K Kp : AVal → Heap → Prop} {v : AVal} (hs : ae P G f avs H1 (fun r H => r = .ret v ∧ H = H1)) (e1 : nz is H = H1) (k : K v H) : Cx P G f avs H K Kp :=
 rg is hs e1 (by rintro v H1' ⟨e, rfl⟩; cases e; exact ⟨H, e1, rfl, k⟩) (by rintro v H1' ⟨e, _⟩; cases e)
attribute [local irreducible] AWp AOps aa ax OrOk ab ae
attribute [local irreducible] hdC hdB badI isS decS aG
theorem DP {G : Glo} {m : Int} (hM : ab G (ce m)) (bf i0 j0 ba bs bc : Nat) (s : List UInt8) (a : Nat) (cr : Bool) (hl : s.length ≤ 1000000) (ha : a ≤ s.length) :
  ae Tryz.prog G 34 [.raw (pS bf), .raw (pS ba), .raw (pS bs), .raw (pS bc)] [fnC bf i0 j0 ba bs, atC ba a, bxS bs s, bxB bc cr]
  (fun r H => (∃ v j, valP cr s a = .ok (v, j) ∧ r = .ret (.str v) ∧ H = [fnC bf i0 j0 ba bs, atC ba j, bxS bs s, bxB bc cr]) ∨ (∃ e p j, valP cr s a = .bad e p ∧ r = .panic (thrA e p) ∧ H = [fnC bf i0 j0 ba bs, atC ba j, bxS bs s, bxB bc cr])) := by
 have hX := fun l c h0 h1 => aL (G := G) l c h0 h1
 have hN := fun c => iB (G := G) c
 have hT := fun e p => ls (G := G) e p
 have hD := fun t h => vn (G := G) hM t h
 have hNx := sC (G := G) ba bs s a hl ha
 have hq := mA s a
 have hGL : ab G [] := ad
 refine fR [(0, 0, pS bf), (1, 1, pS ba), (2, 2, pS bs), (3, 3, pS bc)] Tryz.func34 Tryz.call34 rfl rfl rfl rfl (by repeat (first | exact trivial | refine And.intro ⟨rfl, rfl⟩ ?_)) ?_
 intro C hC
 refine cut hC hGL [(0, .own 0 (pS bf)), (1, .own 1 (pS ba)), (2, .own 2 (pS bs)), (3, .own 3 (pS bc))] [fnC bf i0 j0 ba bs, atC ba a, bxS bs s, bxB bc cr] True xn0 fun _ => ?_
 refine cut hC hGL [(0, .own 0 (pS bf)), (1, .own 1 (pS ba)), (2, .own 2 (pS bs)), (3, .own 3 (pS bc)), (5, .str [44, 59, 58, 34])] [fnC bf i0 j0 ba bs, atC ba a, bxS bs s, bxB bc cr] True xn0 fun _ => ?_
 refine cut hC hGL [(0, .own 0 (pS bf)), (1, .own 1 (pS ba)), (2, .own 2 (pS bs)), (3, .own 3 (pS bc)), (5, .str [44, 59, 58, 34]), (6, .bool (atB s a 34))] [fnC bf i0 j0 ba bs, atC ba a, bxS bs s, bxB bc cr] True ?_ fun _ => ?_
 ·rcases Bool.eq_false_or_eq_true (atB s a 34) with h | h
  ·have e1 := pA (by decide) h
   have e2 := (bB.1 h).1
   rw [e1] at hNx
   rw [show atB s a 34 = ltB (a : Int) (s.length : Int) from h.trans (lZ.2 (by omega)).symm]
   refine xn1 ?_
   refine rh [1, 1] hNx rfl ?_
   exact xn0
  ·have e1 := pB (by decide) h
   rw [h]
   refine xn1 ?_
   refine rh [1, 1] hNx rfl ?_
   exact xn0
 refine cut hC hGL [(0, .own 0 (pS bf)), (1, .own 1 (pS ba)), (2, .own 2 (pS bs)), (3, .own 3 (pS bc)), (5, .str (if atB s a 34 then [34] else [44, 59, 58, 34])), (6, .bool (atB s a 34))] [fnC bf i0 j0 ba bs, atC ba (valF s a), bxS bs s, bxB bc cr] True ?_ fun _ => ?_
 ·cases h : atB s a 34 with
  | true =>
   have e2 := (bB.1 h).1
   have e3 : valF s a = a + 1 := by unfold valF; rw [h, if_pos rfl]
   rw [e3, if_pos rfl]
   exact xn0
  | false =>
   have e3 : valF s a = a := by unfold valF; rw [h, if_neg (by decide)]
   rw [e3, if_neg (by decide)]
   exact xn0
 refine aH hC hGL (xn1 ?_)
 intros
 have hlv : (if atB s a 34 then [34] else [44, 59, 58, 34] : List UInt8).length ≤ 4 := by split <;> decide
 have hE := fun c => B4 (q := atB s a 34) (c := c)
 have hEq : ∀ c, (if atB s a 34 then idxB [34] c else idxB [44, 59, 58, 34] c) = idxB (if atB s a 34 then [34] else [44, 59, 58, 34]) c := fun c => by split <;> rfl
 simp only [hEq] at hE
 generalize (if atB s a 34 then [34] else [44, 59, 58, 34] : List UInt8) = ends at *
 refine lp hC hGL (fun x : Nat => [(1, .own 1 (pS ba)), (2, .own 2 (pS bs)), (3, .own 3 (pS bc)), (5, .str ends), (6, .bool (atB s a 34)), (7, .int .i64 (valF s a : Nat))]) (fun x => [fnC bf i0 j0 ba bs, atC ba x, bxS bs s, bxB bc cr]) (fun x => valF s a ≤ x ∧ x ≤ s.length ∧ cb (goQ (atB s a 34)) s x = valJ s a) (fun x => s.length - x) (valF s a) ⟨Nat.le_refl _, hq.2.2 ha, rfl⟩ aj rfl ?_
 rintro x ⟨h1, h2, h3⟩
 have hlv : ((s.take x).drop (valF s a)).length ≤ 1000000 := by rw [List.length_drop, List.length_take]; omega
 have hd := hD ((s.take x).drop (valF s a)) hlv
 have fin : ∀ {v : List UInt8} {j : Nat} {w : AVal} {H : Heap}, valP cr s a = .ok (v, j) → w = .str v → H = [fnC bf i0 j0 ba bs, atC ba j, bxS bs s, bxB bc cr] → Rt (fun r H => (∃ v j, valP cr s a = .ok (v, j) ∧ r = .ret (.str v) ∧ H = [fnC bf i0 j0 ba bs, atC ba j, bxS bs s, bxB bc cr]) ∨ (∃ e p j, valP cr s a = .bad e p ∧ r = .panic (thrA e p) ∧ H = [fnC bf i0 j0 ba bs, atC ba j, bxS bs s, bxB bc cr])) w H := by
  rintro v j w H h1 rfl rfl
  exact ⟨_, List.Sublist.refl _, .inl ⟨_, _, h1, rfl, rfl⟩⟩
 have bad : ∀ {e p : Int} {n j : Nat} {H : Heap}, valP cr s a = .bad e n → p = n → H = [fnC bf i0 j0 ba bs, atC ba j, bxS bs s, bxB bc cr] → Pn (fun r H => (∃ v j, valP cr s a = .ok (v, j) ∧ r = .ret (.str v) ∧ H = [fnC bf i0 j0 ba bs, atC ba j, bxS bs s, bxB bc cr]) ∨ (∃ e p j, valP cr s a = .bad e p ∧ r = .panic (thrA e p) ∧ H = [fnC bf i0 j0 ba bs, atC ba j, bxS bs s, bxB bc cr])) (thrA e p) H := by
  rintro e p n j H h1 rfl rfl
  exact ⟨_, List.Sublist.refl _, .inr ⟨_, _, _, h1, rfl, rfl⟩⟩
 by_cases hx : x < s.length
 ·have hb := aX s x
  have hx1 := hX ends (aa s x : Int) (by omega) (by omega)
  have hn1 := hN (aa s x : Int)
  have he := hE (aa s x : Int)
  generalize idxB ends (aa s x : Int) = ix at hx1 he
  cases hk : endQ (atB s a 34) (aa s x : Int) with
  | false =>
   have hix : ix < 0 := by
    rw [hk] at he
    have := of_decide_eq_false he.symm
    omega
   cases hc : hdC false (aa s x : Int) with
   | false =>
    rw [hc] at hn1
    have hgo : goQ (atB s a 34) (aa s x : Int) = true := by unfold goQ; rw [hk, hc]; rfl
    refine xw1 ?_
    intros
    exact nxt (x + 1) ⟨by omega, by omega, (kc hx hgo).symm.trans h3⟩ (by omega) aj rfl
   | true =>
    rw [hc] at hn1
    have hJ : valJ s a = x := h3.symm.trans (gM (by unfold goQ; rw [hk, hc]; rfl))
    have hv : valP cr s a = .bad 3 x := by unfold valP; rw [hJ, if_pos ⟨hx, hk⟩]
    refine xw1 ?_
    intros
    refine bC (hT 3 x) ?_
    exact bad hv rfl rfl
  | true =>
   have hix : 0 ≤ ix := by
    rw [hk] at he
    exact of_decide_eq_true he.symm
   have hJ : valJ s a = x := h3.symm.trans (gM (by unfold goQ; rw [hk]; rfl))
   cases hqa : atB s a 34 with
   | true =>
    have hv : valP cr s a = .ok (dIf cr ((s.take x).drop (valF s a)), x + 1) := by
     unfold valP
     rw [hJ, if_neg (by rw [hk]; simp), hqa, if_neg (by decide), if_pos hx]
    cases cr with
    | true =>
     refine xw1 ?_
     intros
     exact fin hv rfl rfl
    | false =>
     refine xw1 ?_
     intros
     exact fin hv rfl rfl
   | false =>
    have hv : valP cr s a = .ok (dIf cr ((s.take x).drop (valF s a)), x) := by
     unfold valP
     rw [hJ, hk, if_neg (by simp), if_pos hqa]
    cases cr with
    | true =>
     refine xw1 ?_
     intros
     exact fin hv rfl rfl
    | false =>
     refine xw1 ?_
     intros
     exact fin hv rfl rfl
 ·have hJ : valJ s a = x := h3.symm.trans (iy (by omega))
  cases hqa : atB s a 34 with
  | true =>
   have hv : valP cr s a = .bad 7 x := by
    unfold valP
    rw [hJ, hqa, if_neg (by omega), if_neg (by decide), if_neg hx]
   refine xw1 ?_
   intros
   refine bC (hT 7 x) ?_
   exact bad hv rfl rfl
  | false =>
   have hv : valP cr s a = .ok (dIf cr ((s.take x).drop (valF s a)), x) := by
    unfold valP
    rw [hJ, hqa, if_neg (by omega), if_pos rfl]
   cases cr with
   | true =>
    refine xw1 ?_
    intros
    exact fin hv rfl rfl
   | false =>
    refine xw1 ?_
    intros
    exact fin hv rfl rfl
end
section
open Go Go.RowKit
abbrev flC (b : Nat) (e p : Int) : HEnt := .cells b (some 35) [.int .i64 e, .int .i64 p]
abbrev dCau (b5 : Nat) : Deferred := { target := .fn (.func 28) #[], args := #[pS b5] }
abbrev dLp1 (b4 b5 : Nat) : Deferred := { target := .fn (.func 27) #[pS b5, pS b4], args := #[] }
theorem BD {P : Program} [Tab P] {G : Glo} {n : Nat} {rs : List ResultVar} {env : Env} {H H' : Heap} {D : List Deferred} {m : AMode} {Qf : ARes → Heap → Prop} (hs : H'.Sublist H) (h : Lv P G n rs env D m H' Qf) : Lv P G n rs env D m H Qf := by
 unfold Lv at *
 intro C R a w fn u D0 hC hrs hm hf hu
 exact h C R a w fn u D0 hC hrs (hm.drop hs) hf hu
section
variable {c : Bool} {s : List UInt8} {e : Int} {p : Nat}
theorem mS {a : Nat} (h : aR s a = .bad e p) : e ≠ 0 := by
 unfold aR at h
 split at h
 ·cases h
 ·cases h; decide
theorem Dd {a : Nat} (h : valP c s a = .bad e p) : e ≠ 0 := by
 unfold valP at h
 (repeat' split at h) <;> (cases h; try decide)
theorem rO : ∀ (n : Nat) {a : Nat} {acc : List (List UInt8)}, s.length - a ≤ n → ca c s a acc = .bad e p → e ≠ 0
 | n, a, acc, hn, h => by
  cases hv : valP c s a with
  | bad e' p' => rw [dH hv] at h; cases h; exact Dd hv
  | ok x =>
   obtain ⟨v, d⟩ := x
   have h1 := fh hv
   cases hb : atB s d 44 with
   | true =>
    have h2 := bB.1 hb
    rw [im hv hb] at h
    cases n with
    | zero => omega
    | succ n => exact rO n (by omega) h
   | false => rw [gq hv hb] at h; cases h
theorem sR : ∀ (n : Nat) {a : Nat} {acc : List Pr}, s.length - a ≤ n → bq c s a acc = .bad e p → e ≠ 0
 | n, a, acc, hn, h => by
  cases hq : atB s a 59 with
  | false => rw [eD hq] at h; cases h
  | true =>
   have h1 := bB.1 hq
   cases hw : aR s (a + 1) with
   | bad e' p' => rw [dB hq hw] at h; cases h; exact mS hw
   | ok x =>
    obtain ⟨w, j⟩ := x
    have h2 := bL hw
    cases hj : atB s j 61 with
    | false => rw [fM hq hw hj] at h; cases h; decide
    | true =>
     cases hv : ca c s (j + 1) [] with
     | bad e' p' => rw [cz hq hw hj hv] at h; cases h; exact rO _ (Nat.le_refl _) hv
     | ok x =>
      obtain ⟨vs, d⟩ := x
      have h3 := fF _ (Nat.le_refl _) hv
      by_cases h20 : acc.length = 20
      ·rw [eC hq hw hj hv h20] at h; cases h; decide
      ·rw [fL hq hw hj hv h20] at h
       cases n with
       | zero => omega
       | succ n => exact sR n (by omega) h
theorem ti (h : bT c s = .bad e p) : e ≠ 0 := by
 unfold bT at h
 split at h
 ·cases hh : cT s with
  | bad e' p' =>
   rw [hh] at h
   cases h
   unfold cT at hh
   cases hw : aR s 0 with
   | bad e'' p'' => rw [hw] at hh; cases hh; exact mS hw
   | ok x =>
    obtain ⟨w, j⟩ := x
    rw [hw] at hh
    dsimp only at hh
    split at hh
    ·cases hv : aR s (j + 1) with
     | bad e'' p'' => rw [hv] at hh; cases hh; exact mS hv
     | ok x => rw [hv] at hh; cases hh
    ·cases hh
  | ok x =>
   obtain ⟨⟨g, n⟩, a⟩ := x
   rw [hh] at h
   dsimp only at h
   cases hp : bq c s a [] with
   | bad e' p' => rw [hp] at h; cases h; exact sR _ (Nat.le_refl _) hp
   | ok x =>
    obtain ⟨ps, b⟩ := x
    rw [hp] at h
    dsimp only at h
    unfold eo at h
    (repeat' split at h) <;> (cases h; try decide)
 ·cases h; decide
end
attribute [local irreducible] AWp AOps aa ax OrOk ab ae
attribute [local irreducible] hdC hdB badI isS decS aG prsC To cj Lv AWpD
theorem iC {G : Glo} (b4 b5 : Nat) (g n v : List UInt8) (q : AVal) (e p : Int) : cj Tryz.prog G 27 [.own 1 (pS b5), .own 0 (pS b4)] .ret [prC b4 g n q v, flC b5 e p]
  (fun r m H => m = .ret ∧ r = .ret (.tuple []) ∧ H = [if e = 0 then prC b4 g n q v else prC b4 [] [] nilS [], flC b5 e p]) := by
 have hGL : ab G [] := ad
 have hI := gS (G := G) e p
 refine rc (rs := []) (GL := []) Tryz.func27 rfl rfl rfl rfl hGL ?_
 intro C hC
 by_cases he : e = 0
 ·rw [eV.2 he] at hI
  rw [if_pos he]
  exact xw0
 ·rw [oe.2 he] at hI
  rw [if_neg he]
  exact xw0
section
variable {G : Glo} {n : Nat} {env : Env} {Qf : ARes → Heap → Prop} {b4 b5 : Nat} {T : Heap} {q : AVal} {y z : AVal} {e p : Int} {g m v : List UInt8}
theorem xM (h4 : Env.get env 4 = some (.own 2 (pS b4))) (h5 : Env.get env 5 = some (.own 3 (pS b5))) {H' : Heap} (hs : H'.Sublist T) (hq : Qf (.ret (.tuple [.agg [.str g, .str m, q, .str v], .agg [.int .i64 e, .int .i64 p]])) H') :
  Lv Tryz.prog G n [.cell 4 45, .cell 5 35] env [] .ret (prC b4 g m q v :: flC b5 e p :: T) Qf := by
 refine EU ⟨[.agg [.str g, .str m, q, .str v], .agg [.int .i64 e, .int .i64 p]], H', ⟨_, _, rfl, ⟨b4, 0, _, _, _, .inr ⟨2, h4⟩, rfl, rfl, rfl, .inl ⟨rfl, rfl⟩⟩, _, _, rfl, ⟨b5, 1, _, _, _, .inr ⟨3, h5⟩, rfl, rfl, rfl, .inl ⟨rfl, rfl⟩⟩, rfl⟩, (hs.cons _).cons _, hq⟩
theorem DX (h4 : Env.get env 4 = some (.own 2 (pS b4))) (h5 : Env.get env 5 = some (.own 3 (pS b5))) (he : e ≠ 0) (hq : Qf (.ret (.tuple [.agg [.str [], .str [], nilS, .str []], .agg [.int .i64 e, .int .i64 p]])) []) :
  Lv Tryz.prog G n [.cell 4 45, .cell 5 35] env [dLp1 b4 b5] .ret (prC b4 g m q v :: flC b5 e p :: T) Qf := by
 have h1 := iC (G := G) b4 b5 g m v q e p
 rw [if_neg he] at h1
 refine f9 (lI T h1) (fun R => ⟨_, _, rfl, aA.2 ⟨rfl, rfl⟩, _, _, rfl, aA.2 ⟨rfl, rfl⟩, rfl⟩) Tryz.call27 ?_
 exact xM h4 h5 (List.nil_sublist _) hq
theorem vB {c0 c1 : HEnt} (h4 : Env.get env 4 = some (.own 2 (pS b4))) (h5 : Env.get env 5 = some (.own 3 (pS b5))) (he : e ≠ 0) (hq : Qf (.ret (.tuple [.agg [.str [], .str [], nilS, .str []], .agg [.int .i64 e, .int .i64 p]])) []) :
  Lv Tryz.prog G n [.cell 4 45, .cell 5 35] env [dCau b5, dLp1 b4 b5] (.pan (thrA e p)) (c0 :: c1 :: prC b4 g m q v :: .cells b5 (some 35) [y, z] :: T) Qf := by
 refine BD (H' := prC b4 g m q v :: .cells b5 (some 35) [y, z] :: T) ((List.Sublist.refl _).cons _ |>.cons _) ?_
 refine f9 (E4 (i := 1) rfl (vj b5 e p y z)) (fun R => ⟨_, _, rfl, aA.2 ⟨rfl, rfl⟩, rfl⟩) Tryz.call28 ?_
 exact DX h4 h5 he hq
theorem BF {c0 c1 : HEnt} (h4 : Env.get env 4 = some (.own 2 (pS b4))) (h5 : Env.get env 5 = some (.own 3 (pS b5))) {H' : Heap} (hs : H'.Sublist T) (hq : Qf (.ret (.tuple [.agg [.str g, .str m, q, .str v], .agg [.int .i64 0, .int .i64 p]])) H') :
  Lv Tryz.prog G n [.cell 4 45, .cell 5 35] env [dCau b5, dLp1 b4 b5] .ret (c0 :: c1 :: prC b4 g m q v :: flC b5 0 p :: T) Qf := by
 refine BD (H' := prC b4 g m q v :: flC b5 0 p :: T) ((List.Sublist.refl _).cons _ |>.cons _) ?_
 refine f9 (E4 (i := 0) rfl (qD b5 _)) (fun R => ⟨_, _, rfl, aA.2 ⟨rfl, rfl⟩, rfl⟩) Tryz.call28 ?_
 have h1 := iC (G := G) b4 b5 g m v q 0 p
 rw [if_pos rfl] at h1
 refine f9 (lI T h1) (fun R => ⟨_, _, rfl, aA.2 ⟨rfl, rfl⟩, _, _, rfl, aA.2 ⟨rfl, rfl⟩, rfl⟩) Tryz.call27 ?_
 exact xM h4 h5 hs hq
end
section
variable {G : Glo} {K Kp : AVal → Heap → Prop} {b7 b2 b3 b8 : Nat} {s : List UInt8} {a : Nat} {cr : Bool} {c1 c2 c3 c5 : HEnt} {T : Heap} {m : Int}
theorem bU (hl : s.length ≤ 1000000) (ha : a ≤ s.length) (k : K (.int .u8 (nxB s a : Nat)) (bxS b2 s :: c1 :: c2 :: c3 :: atC b7 a :: c5 :: T)) : Cx Tryz.prog G 31 [.raw (pS b7), .raw (pS b2)] (bxS b2 s :: c1 :: c2 :: c3 :: atC b7 a :: c5 :: T) K Kp :=
 rh [4, 0] (sC b7 b2 s a hl ha) rfl k
theorem om (hl : s.length ≤ 1000000) (ha : a ≤ s.length) (k : ∀ w j, aR s a = .ok (w, j) → K (.str w) (bxS b2 s :: c1 :: c2 :: c3 :: atC b7 j :: c5 :: T)) (k2 : ∀ (e : Int) (p : Nat) j, aR s a = .bad e p → Kp (thrA e p) (bxS b2 s :: c1 :: c2 :: c3 :: atC b7 j :: c5 :: T)) :
  Cx Tryz.prog G 32 [.raw (pS b7), .raw (pS b2)] (bxS b2 s :: c1 :: c2 :: c3 :: atC b7 a :: c5 :: T) K Kp := by
 refine rg [4, 0] (AX b7 b2 s a hl ha) rfl ?_ ?_
 ·rintro v H1' (⟨w, j, h1, e, rfl⟩ | ⟨_, _, _, _, e, _⟩)
  ·cases e
   exact ⟨bxS b2 s :: c1 :: c2 :: c3 :: atC b7 j :: c5 :: T, rfl, rfl, k w j h1⟩
  ·cases e
 ·rintro v H1' (⟨_, _, _, e, _⟩ | ⟨e', p, j, h1, e, rfl⟩)
  ·cases e
  ·cases e
   exact ⟨bxS b2 s :: c1 :: c2 :: c3 :: atC b7 j :: c5 :: T, rfl, rfl, k2 e' p j h1⟩
theorem yh (hM : ab G (ce m)) (hl : s.length ≤ 1000000) (ha : a ≤ s.length) {i0 j0 : Nat} (k : ∀ w j, valP cr s a = .ok (w, j) → K (.str w) (bxS b2 s :: bxB b3 cr :: c2 :: c3 :: atC b7 j :: fnC b8 i0 j0 b7 b2 :: T)) (k2 : ∀ (e : Int) (p : Nat) j, valP cr s a = .bad e p → Kp (thrA e p) (bxS b2 s :: bxB b3 cr :: c2 :: c3 :: atC b7 j :: fnC b8 i0 j0 b7 b2 :: T)) :
  Cx Tryz.prog G 34 [.raw (pS b8), .raw (pS b7), .raw (pS b2), .raw (pS b3)] (bxS b2 s :: bxB b3 cr :: c2 :: c3 :: atC b7 a :: fnC b8 i0 j0 b7 b2 :: T) K Kp := by
 refine rg [5, 4, 0, 0] (DP hM b8 i0 j0 b7 b2 b3 s a cr hl ha) rfl ?_ ?_
 ·rintro v H1' (⟨w, j, h1, e, rfl⟩ | ⟨_, _, _, _, e, _⟩)
  ·cases e
   exact ⟨bxS b2 s :: bxB b3 cr :: c2 :: c3 :: atC b7 j :: fnC b8 i0 j0 b7 b2 :: T, rfl, rfl, k w j h1⟩
  ·cases e
 ·rintro v H1' (⟨_, _, _, e, _⟩ | ⟨e', p, j, h1, e, rfl⟩)
  ·cases e
  ·cases e
   exact ⟨bxS b2 s :: bxB b3 cr :: c2 :: c3 :: atC b7 j :: fnC b8 i0 j0 b7 b2 :: T, rfl, rfl, k2 e' p j h1⟩
end
end
section
open Go Go.RowKit
theorem Dp {s g n : List UInt8} {ps : List Pr} {b : Nat} (h : atB s b 58 = true) (hf : ¬ fstB (hdC false) (s.drop (b + 1)) < 0) : eo s g n ps b = .bad 3 (b + 1 + (fstB (hdC false) (s.drop (b + 1))).toNat) := by
 unfold eo
 rw [h, if_pos rfl, if_neg hf]
theorem Do {s g n : List UInt8} {ps : List Pr} {b : Nat} (h : atB s b 58 = true) (hf : fstB (hdC false) (s.drop (b + 1)) < 0) : eo s g n ps b = .ok ⟨g, n, ps, s.drop (b + 1)⟩ := by
 unfold eo
 rw [h, if_pos rfl, if_pos hf]
section
variable {C : Ctx} {n : Nat} {e : Env}
theorem Dl {c0 c1 c2 c3 c4 c5 : HEnt} {va : Value} {acc : List Pr} {w : List UInt8} {vs : List (List UInt8)} {u : Value} {m bp : Nat} (hm : m = (acc ++ [(⟨w, vs⟩ : Pr)]).length) : To C n e [c0, c1, c2, c3, c4, c5, .row va none 2 m (prsC acc ++ ([.str w, .own 8 u] : List AVal)), .cells bp (some 74) [.str w, .own 8 u], .row u none 1 vs.length (bM vs)] e
  [c0, c1, c2, c3, c4, c5, .row va none 2 (acc ++ [(⟨w, vs⟩ : Pr)]).length (prsC (acc ++ [⟨w, vs⟩]))] := by
 have hI := nu acc
 rw [← hm]
 have e1 : (prsC acc ++ ([.str w, .own 8 u] : List AVal)).set (acc.length * 2 + 1) (.list 1 vs.length (aO vs)) = prsC (acc ++ [⟨w, vs⟩]) := by
  rw [List.set_append_right _ _ (by omega), hI, Nat.add_sub_cancel_left, pr]
  rfl
 rw [← e1]
 refine aN (qc (i := 8) (k := 6) (p := acc.length * 2 + 1) (aO vs) rfl rfl (dS vs) (fun R hr => .row (a := .own 8 u) ?_ fun _ => gC hr)) (wU ?_)
 ·rw [List.getElem?_append_right (by omega), hI, Nat.add_sub_cancel_left]; rfl
 ·exact List.Sublist.cons_cons _ (List.Sublist.cons_cons _ (List.Sublist.cons_cons _ (List.Sublist.cons_cons _ (List.Sublist.cons_cons _ (List.Sublist.cons_cons _ (List.Sublist.cons_cons _ (List.nil_sublist _)))))))
end
attribute [local irreducible] AWp AOps aa ax OrOk ab ae
attribute [local irreducible] hdC hdB badI isS decS aG prsC To cj Lv AWpD bT cT aR eo nxB
theorem nq {G : Glo} {m : Int} (hU : ab G utfTy) (hM : ab G (ce m)) (s : List UInt8) (cr : Bool) (hl : s.length ≤ 1000000) : ae Tryz.prog G 10 [.str s, .bool cr] []
  (fun r H => (∃ (e : Int) (p : Nat), bT cr s = .bad e p ∧ r = .ret (.tuple [.agg [.str [], .str [], nilS, .str []], .agg [.int .i64 e, .int .i64 p]]) ∧ H = []) ∨
   (∃ (l : Ln) (i : Nat) (v : Value), bT cr s = .ok l ∧ r = .ret (.tuple [.agg [.str l.g, .str l.n, .own i v, .str l.v], .agg [.int .i64 0, .int .i64 (-1)]]) ∧ H = [.row v none 2 l.ps.length (prsC l.ps)])) := by
 have hGL : ab G [] := ad
 have hB := xm (G := G) hU s (by omega)
 have hG0 := fK (G := G)
 have hT := fun e p => ls (G := G) e p
 refine fn_d (rs := [.cell 4 45, .cell 5 35]) Tryz.func10 Tryz.call10 rfl rfl rfl rfl ?_
 intro C hC hD
 refine bx hC hGL (fun x : Nat × Nat × Nat × Nat => [(2, .own 0 (pS x.1)), (3, .own 1 (pS x.2.1)), (4, .own 2 (pS x.2.2.1)), (5, .own 3 (pS x.2.2.2))]) (fun x => [bxS x.1 s, bxB x.2.1 cr, prC x.2.2.1 [] [] nilS [], flC x.2.2.2 0 0]) (fun _ => True) ?_ ?_
 ·refine xb1 ?_
  intro b2 b3 b4 b5
  intros
  exact cy (b2, b3, b4, b5) trivial
 rintro ⟨b2, b3, b4, b5⟩ -
 dsimp only
 refine bx hC hGL (fun _ : Unit => [(2, .own 0 (pS b2)), (3, .own 1 (pS b3)), (4, .own 2 (pS b4)), (5, .own 3 (pS b5))]) (fun _ => [bxS b2 s, bxB b3 cr, prC b4 [] [] nilS [], flC b5 0 (-1)]) (fun _ => True) ?_ ?_
 ·refine xn1 ?_
  intros
  exact cy () trivial
 intro _ _
 refine fw (gH hC hGL rfl ?_)
 refine xn1 ?_
 refine ⟨_, rfl, ?_⟩
 refine fw (gH hC hGL rfl ?_)
 refine xn1 ?_
 refine ⟨_, rfl, ?_⟩
 refine (fun (h : ∀ C2 : Ctx, C2.G = G → C2.D = [dCau b5, dLp1 b4 b5] → AWpD Tryz.prog C2 _ _ _ _ _) => h (withD C (dCau b5 :: dLp1 b4 b5 :: C.D)) hC (by show dCau b5 :: dLp1 b4 b5 :: C.D = _; rw [hD])) ?_
 clear hC hD C
 intro C hC hD
 have thr : ∀ {n : Nat} {env : Env} {T : Heap} {q : AVal} {y z : AVal} {g m v : List UInt8} {e : Int} {p : Nat} {p' : Int}, Env.get env 4 = some (.own 2 (pS b4)) → Env.get env 5 = some (.own 3 (pS b5)) → bT cr s = .bad e p → p' = p → Lv Tryz.prog G n [.cell 4 45, .cell 5 35] env [dCau b5, dLp1 b4 b5] (.pan (thrA e p')) (bxS b2 s :: bxB b3 cr :: prC b4 g m q v :: .cells b5 (some 35) [y, z] :: T)
   (fun r H => (∃ (e : Int) (p : Nat), bT cr s = .bad e p ∧ r = .ret (.tuple [.agg [.str [], .str [], nilS, .str []], .agg [.int .i64 e, .int .i64 p]]) ∧ H = []) ∨
   (∃ (l : Ln) (i : Nat) (v : Value), bT cr s = .ok l ∧ r = .ret (.tuple [.agg [.str l.g, .str l.n, .own i v, .str l.v], .agg [.int .i64 0, .int .i64 (-1)]]) ∧ H = [.row v none 2 l.ps.length (prsC l.ps)])) := by
  rintro n env T q y z g m v e p p' h4 h5 h rfl
  exact vB h4 h5 (ti h) (.inl ⟨_, _, h, rfl, rfl⟩)
 refine bx hC hGL (fun _ : Unit => [(2, .own 0 (pS b2)), (3, .own 1 (pS b3)), (4, .own 2 (pS b4)), (5, .own 3 (pS b5))]) (fun _ => [bxS b2 s, bxB b3 cr, prC b4 [] [] nilS [], flC b5 0 (-1)]) (fun _ => badI s < 0) ?_ ?_
 ·by_cases hb : 0 ≤ badI s
  ·have e9 : badI s = (((badI s).toNat : Nat) : Int) := by omega
   refine xn1 ?_
   intros
   refine bC (hT 3 (badI s)) ?_
   (conv => whnf)
   rw [hD]
   exact thr rfl rfl (pI hb) e9
  ·refine xn1 ?_
   intros
   exact cy () (by omega)
 intro _ hb
 refine bx hC hGL (fun b7 : Nat => [(2, .own 0 (pS b2)), (3, .own 1 (pS b3)), (4, .own 2 (pS b4)), (5, .own 3 (pS b5)), (7, .own 4 (pS b7))]) (fun b7 => [bxS b2 s, bxB b3 cr, prC b4 [] [] nilS [], flC b5 0 (-1), atC b7 0]) (fun _ => True) ?_ ?_
 ·refine xb1 ?_
  intro b7
  intros
  exact cy b7 trivial
 intro b7 _
 refine bx hC hGL (fun b8 : Nat => [(2, .own 0 (pS b2)), (3, .own 1 (pS b3)), (4, .own 2 (pS b4)), (5, .own 3 (pS b5)), (7, .own 4 (pS b7)), (8, .own 5 (pS b8))]) (fun b8 => [bxS b2 s, bxB b3 cr, prC b4 [] [] nilS [], flC b5 0 (-1), atC b7 0, fnC b8 4 0 b7 b2]) (fun _ => True) ?_ ?_
 ·refine xb1 ?_
  intro b8
  intros
  exact cy b8 trivial
 intro b8 _
 refine bx hC hGL (fun _ : Unit => [(2, .own 0 (pS b2)), (3, .own 1 (pS b3)), (4, .own 2 (pS b4)), (5, .own 3 (pS b5)), (7, .own 4 (pS b7)), (8, .own 5 (pS b8)), (9, .func (.func 32) [] [.own 4 (pS b7), .own 0 (pS b2)])]) (fun _ => [bxS b2 s, bxB b3 cr, prC b4 [] [] nilS [], flC b5 0 (-1), atC b7 0, fnC b8 4 0 b7 b2]) (fun _ => True) ?_ ?_
 ·refine xn1 ?_
  intros
  exact cy () trivial
 intro _ _
 refine bx hC hGL (fun _ : Unit => [(2, .own 0 (pS b2)), (4, .own 2 (pS b4)), (5, .own 3 (pS b5)), (7, .own 4 (pS b7)), (8, .own 5 (pS b8)), (9, .func (.func 32) [] [.own 4 (pS b7), .own 0 (pS b2)]), (10, .func (.func 34) [] [.own 5 (pS b8), .own 4 (pS b7), .own 0 (pS b2), .own 1 (pS b3)])]) (fun _ => [bxS b2 s, bxB b3 cr, prC b4 [] [] nilS [], flC b5 0 (-1), atC b7 0, fnC b8 4 0 b7 b2]) (fun _ => True) ?_ ?_
 ·refine xn1 ?_
  intros
  exact cy () trivial
 intro _ _
 refine bx hC hGL (fun _ : List UInt8 × Nat => [(2, .own 0 (pS b2)), (4, .own 2 (pS b4)), (5, .own 3 (pS b5)), (7, .own 4 (pS b7)), (8, .own 5 (pS b8)), (9, .func (.func 32) [] [.own 4 (pS b7), .own 0 (pS b2)]), (10, .func (.func 34) [] [.own 5 (pS b8), .own 4 (pS b7), .own 0 (pS b2), .own 1 (pS b3)])]) (fun x => [bxS b2 s, bxB b3 cr, prC b4 [] x.1 nilS [], flC b5 0 (-1), atC b7 x.2, fnC b8 4 0 b7 b2]) (fun x => aR s 0 = .ok x) ?_ ?_
 ·refine xn1 ?_
  refine om hl (Nat.zero_le _) (fun w j hw => ?_) (fun e p j hw => ?_)
  ·refine xn1 ?_
   intros
   exact cy (w, j) hw
  ·(conv => whnf)
   rw [hD]
   exact thr rfl rfl (gX hb (xY hw)) rfl
 rintro ⟨w, j⟩ hw
 dsimp only
 have hg := bL hw
 have hjl := hg.2.1 (Nat.zero_le _)
 refine bx hC hGL (fun _ : List UInt8 × List UInt8 × Nat => [(2, .own 0 (pS b2)), (4, .own 2 (pS b4)), (5, .own 3 (pS b5)), (7, .own 4 (pS b7)), (8, .own 5 (pS b8)), (9, .func (.func 32) [] [.own 4 (pS b7), .own 0 (pS b2)]), (10, .func (.func 34) [] [.own 5 (pS b8), .own 4 (pS b7), .own 0 (pS b2), .own 1 (pS b3)])]) (fun x => [bxS b2 s, bxB b3 cr, prC b4 x.1 x.2.1 nilS [], flC b5 0 (-1), atC b7 x.2.2, fnC b8 4 0 b7 b2]) (fun x => cT s = .ok ((x.1, x.2.1), x.2.2) ∧ x.2.2 ≤ s.length) ?_ ?_
 ·cases h46 : atB s j 46 with
  | false =>
   have hne := pB (by decide) h46
   refine xn1 ?_
   refine bU hl hjl ?_
   refine xn1 ?_
   intros
   exact cy ([], w, j) ⟨xX hw h46, hjl⟩
  | true =>
   have hy := pA (by decide) h46
   have hb1 : j + 1 ≤ s.length := (bB.1 h46).1
   refine xn1 ?_
   refine bU hl hjl ?_
   rw [hy]
   refine xn1 ?_
   intros
   refine om hl hb1 (fun n k hn => ?_) (fun e p k hn => ?_)
   ·refine xn1 ?_
    intros
    exact cy (w, n, k) ⟨xV hw h46 hn, (bL hn).2.1 hb1⟩
   ·(conv => whnf)
    rw [hD]
    exact thr rfl rfl (gX hb (xW hw h46 hn)) rfl
 rintro ⟨g, n, a⟩ ⟨hh, hal⟩
 dsimp only at hh hal ⊢
 refine bx hC hGL (fun _ : List Pr × Nat × Option Addr × Nat × Nat => [(2, .own 0 (pS b2)), (4, .own 2 (pS b4)), (5, .own 3 (pS b5)), (7, .own 4 (pS b7)), (8, .own 5 (pS b8)), (9, .func (.func 32) [] [.own 4 (pS b7), .own 0 (pS b2)]), (10, .func (.func 34) [] [.own 5 (pS b8), .own 4 (pS b7), .own 0 (pS b2), .own 1 (pS b3)])]) (fun x => [bxS b2 s, bxB b3 cr, prC b4 g n (.own 6 (slV x.2.2.1 x.2.2.2.1 x.2.2.2.2)) [], flC b5 0 (-1), atC b7 x.2.1, fnC b8 4 0 b7 b2, .row (slV x.2.2.1 x.2.2.2.1 x.2.2.2.2) none 2 x.1.length (prsC x.1)]) (fun x => bq cr s a [] = .ok (x.1, x.2.1) ∧ x.2.1 ≤ s.length) ?_ ?_
 ·refine xn1 ?_
  refine lpT hC hGL (fun x : Nat × List Pr × Option Addr × Nat × Nat => [(2, .own 0 (pS b2)), (4, .own 2 (pS b4)), (5, .own 3 (pS b5)), (7, .own 4 (pS b7)), (8, .own 5 (pS b8)), (9, .func (.func 32) [] [.own 4 (pS b7), .own 0 (pS b2)]), (10, .func (.func 34) [] [.own 5 (pS b8), .own 4 (pS b7), .own 0 (pS b2), .own 1 (pS b3)])]) (fun x => [bxS b2 s, bxB b3 cr, prC b4 g n (.own 6 (slV x.2.2.1 x.2.2.2.1 x.2.2.2.2)) [], flC b5 0 (-1), atC b7 x.1, fnC b8 4 0 b7 b2, .row (slV x.2.2.1 x.2.2.2.1 x.2.2.2.2) none 2 x.2.1.length (prsC x.2.1)]) (fun x => x.1 ≤ s.length ∧ x.2.1.length ≤ 20 ∧ bq cr s x.1 x.2.1 = bq cr s a []) (fun x => s.length - x.1) (a, [], none, 0, 0) ⟨hal, Nat.zero_le _, rfl⟩ ?_ ?_
  ·refine aN (j7 2) (aN (qd (i := 2) (p := 2) (x := prC b4 g n nilS []) (a' := .own 6 (.slice none 0 0)) rfl (fun R => .cells rfl fun _ => mF)) (dl aj ?_))
   rw [show prsC [] = [] by unfold prsC; rfl]
   exact List.Sublist.refl _
  rintro ⟨at0, acc, va, vk, vc⟩ ⟨h1, h2, h3⟩
  dsimp only at h1 h2 h3 ⊢
  cases hq : atB s at0 59 with
  | false =>
   have hne := pB (by decide) hq
   refine xn1 ?_
   refine bU hl h1 ?_
   refine xn1 ?_
   intros
   exact cy (acc, at0, va, vk, vc) ⟨h3.symm.trans (eD hq), h1⟩
  | true =>
   have hy := pA (by decide) hq
   have hb1 : at0 + 1 ≤ s.length := (bB.1 hq).1
   refine xn1 ?_
   refine bU hl h1 ?_
   rw [hy]
   refine xn1 ?_
   intros
   refine om hl hb1 (fun w j hw => ?_) (fun e p j hw => ?_)
   rotate_left
   ·(conv => whnf)
    rw [hD]
    exact thr rfl rfl (eE hb hh (h3.symm.trans (dB hq hw))) rfl
   have hj := bL hw
   have hjl : j ≤ s.length := hj.2.1 hb1
   refine xn1 ?_
   intro bp
   intros
   refine bU hl hjl ?_
   cases h61 : atB s j 61 with
   | false =>
    have hne := pB (by decide) h61
    refine xn1 ?_
    intros
    refine bC (hT 7 j) ?_
    (conv => whnf)
    rw [hD]
    exact thr rfl rfl (eE hb hh (h3.symm.trans (fM hq hw h61))) rfl
   | true =>
    have hy61 := pA (by decide) h61
    have hb2 : j + 1 ≤ s.length := (bB.1 h61).1
    rw [hy61]
    refine xn1 ?_
    intros
    refine lpT hC hGL (fun x : Nat × List (List UInt8) × Option Addr × Nat × Nat => [(2, .own 0 (pS b2)), (4, .own 2 (pS b4)), (5, .own 3 (pS b5)), (7, .own 4 (pS b7)), (8, .own 5 (pS b8)), (9, .func (.func 32) [] [.own 4 (pS b7), .own 0 (pS b2)]), (10, .func (.func 34) [] [.own 5 (pS b8), .own 4 (pS b7), .own 0 (pS b2), .own 1 (pS b3)]), (11, .int .i64 ((at0 + 1 : Nat) : Int)), (12, .own 7 (pS bp))])
     (fun x => [bxS b2 s, bxB b3 cr, prC b4 g n (.own 6 (slV va vk vc)) [], flC b5 0 (-1), atC b7 x.1, fnC b8 4 0 b7 b2, .row (slV va vk vc) none 2 acc.length (prsC acc), .cells bp (some 74) [.str w, .own 8 (slV x.2.2.1 x.2.2.2.1 x.2.2.2.2)], .row (slV x.2.2.1 x.2.2.2.1 x.2.2.2.2) none 1 x.2.1.length (bM x.2.1)])
     (fun x => x.1 ≤ s.length ∧ x.2.1.length ≤ x.1 ∧ ((x.2.1 = [] ∧ j = x.1) ∨ (x.2.1 ≠ [] ∧ j + 1 ≤ x.1 ∧ ju cr s x.1 x.2.1 = ca cr s (j + 1) []))) (fun x => s.length - x.1) (j, [], none, 0, 0) ⟨hjl, Nat.zero_le _, .inl ⟨rfl, rfl⟩⟩ ?_ ?_
    ·refine aN (j7 1) (aN (qd (i := 7) (p := 1) (x := .cells bp (some 74) [.str w, .raw (.slice none 0 0)]) (a' := .own 8 (.slice none 0 0)) rfl (fun R => .cells rfl fun _ => mF)) (dl aj ?_))
     exact List.Sublist.refl _
    rintro ⟨at2, vs, ua, uk, uc⟩ ⟨g1, g2, g3⟩
    dsimp only at g1 g2 g3 ⊢
    rcases g3 with ⟨rfl, rfl⟩ | ⟨g3, g4, g5⟩
    ·refine xn1 ?_
     refine bU hl hjl ?_
     rw [hy61]
     refine xn1 ?_
     intros
     refine E2 [(4, .own 2 (pS b4)), (5, .own 3 (pS b5))] (by kernel_rfl) mixed hC hGL false (fun v h => ∃ (e : Int) (q : Nat) (jj : Nat) (T : Heap), valP cr s (j + 1) = .bad e q ∧ v = thrA e q ∧ h = bxS b2 s :: bxB b3 cr :: prC b4 g n (.own 6 (slV va vk vc)) [] :: flC b5 0 (-1) :: T)
      (fun _ : { x : List UInt8 × Nat × Option Addr × Nat × Nat // valP cr s (j + 1) = .ok (x.1, x.2.1) } => [(2, .own 0 (pS b2)), (4, .own 2 (pS b4)), (5, .own 3 (pS b5)), (7, .own 4 (pS b7)), (8, .own 5 (pS b8)), (9, .func (.func 32) [] [.own 4 (pS b7), .own 0 (pS b2)]), (10, .func (.func 34) [] [.own 5 (pS b8), .own 4 (pS b7), .own 0 (pS b2), .own 1 (pS b3)]), (11, .int .i64 ((at0 + 1 : Nat) : Int)), (12, .own 7 (pS bp))])
      (fun x => [bxS b2 s, bxB b3 cr, prC b4 g n (.own 6 (slV va vk vc)) [], flC b5 0 (-1), atC b7 x.1.2.1, fnC b8 4 0 b7 b2, .row (slV va vk vc) none 2 acc.length (prsC acc), .cells bp (some 74) [.str w, .own 8 (slV x.1.2.2.1 x.1.2.2.2.1 x.1.2.2.2.2)], .row (slV x.1.2.2.1 x.1.2.2.2.1 x.1.2.2.2.2) none 1 (([] : List (List UInt8)) ++ [x.1.1]).length (bM (([] : List (List UInt8)) ++ [x.1.1]))])
      (.take 0 (.take 2 (.br 1 (.br 3 (.br 4 (.br 5 (.take 6 (.br 7 (.done) (.nil))) (.nil)) (.nil)) (.nil)) (.br 3 (.br 1 (.br 4 (.br 5 (.take 6 (.br 7 (.done) (.nil))) (.nil)) (.nil)) (.br 4 (.br 1 (.br 5 (.take 6 (.br 7 (.done) (.nil))) (.nil)) (.nil)) (.nil))) (.nil))))) (by kernel_rfl) ?_ ?_ ?_
     ·refine xn ?_
      repeat' (first | exact Le.n | refine Lc.mk ?_ ?_)
      all_goals intros
      all_goals (
       refine yh hM hl (hb2) (fun v b' hv => ?_) (fun e' q jj hv => ?_)
       ·refine xn ?_
        repeat' (first | exact Le.n | refine Lc.mk ?_ ?_)
        all_goals intros
        all_goals (
         rename_i wa wk wc wh
         refine ⟨⟨(v, b', wa, wk, wc), hv⟩, aj, ?_⟩
         dsimp only
         rw [← cx, List.length_append]
         exact aD)
       ·exact ⟨⟨e', q, jj, _, hv, rfl, rfl⟩, rfl, rfl, trivial⟩)
     rotate_left
     ·rintro v h ⟨e', q, jj, T, hv, rfl, rfl⟩
      (conv => whnf)
      rw [hD]
      exact thr rfl rfl (eE hb hh (h3.symm.trans (cz hq hw h61 (dH hv)))) rfl
     rintro ⟨⟨v3, b3', xa, xk, xc⟩, hv3⟩
     dsimp only at hv3 ⊢
     have hg3 := fh hv3
     refine xn1 ?_
     intros
     exact nxT (b3', [] ++ [v3], xa, xk, xc) ⟨hg3.2 hb2, by simp only [List.nil_append, List.length_cons, List.length_nil]; omega, .inr ⟨by simp, hg3.1, (iV (acc := []) hv3).symm⟩⟩ (by dsimp only; omega) (dl aj aD)
    ·have hvl : vs.length ≠ 0 := fun h => g3 (List.eq_nil_of_length_eq_zero h)
     cases h44 : atB s at2 44 with
     | true =>
      have hy := pA (by decide) h44
      have hb3 : at2 + 1 ≤ s.length := (bB.1 h44).1
      have hgo : ju cr s at2 vs = ca cr s (at2 + 1) vs := by unfold ju; rw [h44, if_pos rfl]
      refine xn1 ?_
      refine bU hl g1 ?_
      rw [hy]
      refine xn1 ?_
      intros
      refine bU hl g1 ?_
      rw [hy]
      refine xn1 ?_
      intros
      refine E2 [(4, .own 2 (pS b4)), (5, .own 3 (pS b5))] (by kernel_rfl) mixed hC hGL false (fun v h => ∃ (e : Int) (q : Nat) (jj : Nat) (T : Heap), valP cr s (at2 + 1) = .bad e q ∧ v = thrA e q ∧ h = bxS b2 s :: bxB b3 cr :: prC b4 g n (.own 6 (slV va vk vc)) [] :: flC b5 0 (-1) :: T)
       (fun _ : { x : List UInt8 × Nat × Option Addr × Nat × Nat // valP cr s (at2 + 1) = .ok (x.1, x.2.1) } => [(2, .own 0 (pS b2)), (4, .own 2 (pS b4)), (5, .own 3 (pS b5)), (7, .own 4 (pS b7)), (8, .own 5 (pS b8)), (9, .func (.func 32) [] [.own 4 (pS b7), .own 0 (pS b2)]), (10, .func (.func 34) [] [.own 5 (pS b8), .own 4 (pS b7), .own 0 (pS b2), .own 1 (pS b3)]), (11, .int .i64 ((at0 + 1 : Nat) : Int)), (12, .own 7 (pS bp))])
       (fun x => [bxS b2 s, bxB b3 cr, prC b4 g n (.own 6 (slV va vk vc)) [], flC b5 0 (-1), atC b7 x.1.2.1, fnC b8 4 0 b7 b2, .row (slV va vk vc) none 2 acc.length (prsC acc), .cells bp (some 74) [.str w, .own 8 (slV x.1.2.2.1 x.1.2.2.2.1 x.1.2.2.2.2)], .row (slV x.1.2.2.1 x.1.2.2.2.1 x.1.2.2.2.2) none 1 (vs ++ [x.1.1]).length (bM (vs ++ [x.1.1]))])
       (.take 0 (.take 2 (.br 1 (.br 3 (.br 4 (.br 5 (.take 6 (.br 7 (.done) (.nil))) (.nil)) (.nil)) (.nil)) (.br 3 (.br 1 (.br 4 (.br 5 (.take 6 (.br 7 (.done) (.nil))) (.nil)) (.nil)) (.br 4 (.br 1 (.br 5 (.take 6 (.br 7 (.done) (.nil))) (.nil)) (.nil)) (.nil))) (.nil))))) (by kernel_rfl) ?_ ?_ ?_
      ·refine xn ?_
       repeat' (first | exact Le.n | refine Lc.mk ?_ ?_)
       all_goals intros
       all_goals (
        refine yh hM hl (hb3) (fun v b' hv => ?_) (fun e' q jj hv => ?_)
        ·refine xn ?_
         repeat' (first | exact Le.n | refine Lc.mk ?_ ?_)
         all_goals intros
         all_goals (
          rename_i wa wk wc wh
          refine ⟨⟨(v, b', wa, wk, wc), hv⟩, aj, ?_⟩
          dsimp only
          rw [← cx, List.length_append]
          exact aD)
        ·exact ⟨⟨e', q, jj, _, hv, rfl, rfl⟩, rfl, rfl, trivial⟩)
      rotate_left
      ·rintro v h ⟨e', q, jj, T, hv, rfl, rfl⟩
       (conv => whnf)
       rw [hD]
       exact thr rfl rfl (eE hb hh (h3.symm.trans (cz hq hw h61 (g5.symm.trans (hgo.trans (dH hv)))))) rfl
      rintro ⟨⟨v3, b3', xa, xk, xc⟩, hv3⟩
      dsimp only at hv3 ⊢
      have hg3 := fh hv3
      refine xn1 ?_
      intros
      exact nxT (b3', vs ++ [v3], xa, xk, xc) ⟨hg3.2 hb3, by simp only [List.length_append, List.length_cons, List.length_nil]; omega, .inr ⟨by simp, by omega, ((iV hv3).symm.trans hgo.symm).trans g5⟩⟩ (by dsimp only; omega) (dl aj aD)
     | false =>
      have hvs : ca cr s (j + 1) [] = .ok (vs, at2) := by rw [← g5]; unfold ju; rw [h44, if_neg (by decide)]
      have hne := pB (by decide) h44
      by_cases h20 : acc.length = 20
      ·by_cases h61' : (nxB s at2 : Int) = 61
       all_goals (
        refine xn1 ?_
        refine bU hl g1 ?_
        try rw [h61']
        refine xn1 ?_
        intros
        refine bU hl g1 ?_
        try rw [h61']
        refine xn1 ?_
        intros
        refine bC (hT 4 ((at0 + 1 : Nat) : Int)) ?_
        (conv => whnf)
        rw [hD]
        exact thr rfl rfl (eE hb hh (h3.symm.trans (eC hq hw h61 hvs h20))) rfl)
      ·by_cases h61' : (nxB s at2 : Int) = 61
       all_goals (
        refine xn1 ?_
        refine bU hl g1 ?_
        try rw [h61']
        refine xn1 ?_
        intros
        refine bU hl g1 ?_
        try rw [h61']
        refine xn1 ?_
        intro wa wk wc _
        intros
        refine nxT (at2, acc ++ [⟨w, vs⟩], wa, wk, wc) ⟨g1, by simp only [List.length_append, List.length_cons, List.length_nil]; omega, (fL hq hw h61 hvs h20).symm.trans h3⟩ (by dsimp only; omega) ?_
        exact aN (dl aj (List.Sublist.refl _)) (Dl (by simp)))
 rintro ⟨ps, k, va, vk, vc⟩ ⟨hp, hkl⟩
 dsimp only at hp hkl ⊢
 have hLP := nN (c := cr) hb hh hp
 cases h58 : atB s k 58 with
 | false =>
  have hne := pB (by decide) h58
  refine ec hC hGL (xn1 ?_)
  refine bU hl hkl ?_
  refine xn1 ?_
  intros
  refine bC (hT 7 k) ?_
  (conv => whnf)
  rw [hD]
  exact thr rfl rfl (hLP.trans (wV h58)) rfl
 | true =>
  have hy := pA (by decide) h58
  have hb2 : k + 1 ≤ s.length := (bB.1 h58).1
  have hf := lT (G := G) (s.drop (k + 1)) 36 (hdC false) (by rw [List.length_drop]; omega) (fun c _ => iB (c : Int))
  by_cases hfst : fstB (hdC false) (s.drop (k + 1)) < 0
  ·have hE := hLP.trans (Do h58 hfst)
   generalize fstB (hdC false) (s.drop (k + 1)) = fi at *
   refine ec hC hGL (xn1 ?_)
   refine bU hl hkl ?_
   rw [hy]
   refine xn1 ?_
   intros
   refine dw_p mixed hC hGL false (fun (_ : Unit) => [(4, .own 2 (pS b4)), (5, .own 3 (pS b5))]) (fun _ => [bxS b2 s, bxB b3 cr, prC b4 g n (.own 6 (slV va vk vc)) (s.drop (k + 1)), flC b5 0 (-1), atC b7 (k + 1), fnC b8 4 0 b7 b2, .row (slV va vk vc) none 2 ps.length (prsC ps)]) (.br 0 (.br 1 (.br 2 (.br 3 (.done) (.nil)) (.nil)) (.br 2 (.br 1 (.br 3 (.done) (.nil)) (.nil)) (.nil))) (.br 1 (.br 0 (.br 2 (.br 3 (.done) (.nil)) (.nil)) (.nil)) (.nil))) (by kernel_rfl) ?_ ?_
   ·refine xn ?_
    repeat' (first | exact Le.n | refine Lc.mk ?_ ?_)
    all_goals intros
    all_goals exact ⟨(), aj, rfl⟩
   intro _
   refine xn1 ?_
   intros
   rw [hD]
   refine BF (H' := [.row (slV va vk vc) none 2 ps.length (prsC ps)]) rfl rfl ?_ ?_
   ·exact List.Sublist.cons _ (List.Sublist.cons _ (List.Sublist.refl _))
   ·exact .inr ⟨⟨g, n, ps, s.drop (k + 1)⟩, 6, _, hE, rfl, rfl⟩
  ·have hE := hLP.trans (Dp h58 hfst)
   have hfl : fstB (hdC false) (s.drop (k + 1)) ≤ 1000000 := by
    rcases gZ (hdC false) (s.drop (k + 1)) with ⟨h, _⟩ | ⟨m', h1, h2, _⟩
    ·rw [h]; omega
    ·rw [h2]; rw [List.length_drop] at h1; omega
   generalize fstB (hdC false) (s.drop (k + 1)) = fi at *
   refine ec hC hGL (xn1 ?_)
   refine bU hl hkl ?_
   rw [hy]
   refine xn1 ?_
   intros
   refine bC (hT 3 _) ?_
   (conv => whnf)
   rw [hD]
   exact thr rfl rfl hE (by omega)
end
section
open Go Go.RowKit
theorem vq : ∀ (l : List Pr) (i : Nat), i < l.length → (prF l i).cells = ((prsC l).drop (i * 2)).take 2 ∧ (prF l i).plain = true
 | [], i, h => absurd h (Nat.not_lt_zero _)
 | q :: l, 0, h => ⟨by simp [prF, AVal.cells, prsC], rfl⟩
 | q :: l, i + 1, h => by
  have ih := vq l i (by simpa using h)
  refine ⟨?_, rfl⟩
  have e : prF (q :: l) (i + 1) = prF l i := rfl
  have e2 : prsC (q :: l) = [.str q.n, .list 1 q.vs.length (aO q.vs)] ++ prsC l := by simp [prsC]
  rw [e, ih.1, e2, show (i + 1) * 2 = 2 + i * 2 by omega, ← List.drop_drop]
  rfl
theorem vE {G : Glo} (s : List UInt8) (cr : Bool) (hl : s.length ≤ 1000000) : FnIs Tryz.prog G 15 [.str s, .bool cr] (.tuple [(lpL cr s).A, (lpE cr s).A]) := by
 refine dz (th s cr hl) ?_
 rintro r H (⟨e, p, h, rfl, rfl⟩ | ⟨l, v, h, rfl, rfl⟩)
 ·rintro C R w e' hm ⟨x, rfl, hx⟩
  have e1 : lpL cr s = Ln.no := by unfold lpL; rw [h]
  have e2 : lpE cr s = .at e p := by unfold lpE; rw [h]
  rw [e1, e2]
  exact ⟨R, hm, x, rfl, fy (Seal.le_refl R) hx fun u hu => ef (p := 2) (a' := .list 2 0 (prF [])) (Seal.le_refl R) hu rfl (fun v => iF)⟩
 ·rintro C R w e' hm ⟨x, rfl, hx⟩
  have e1 : lpL cr s = l := by unfold lpL; rw [h]
  have e2 : lpE cr s = .none := by unfold lpE; rw [h]
  rw [e1, e2]
  obtain ⟨R', hle, m2, hr⟩ := MS.seal_row (f := prF l.ps) hm (vq l.ps)
  exact ⟨R', m2, x, rfl, fy hle hx fun u hu => ef (p := 2) (a' := .list 2 l.ps.length (prF l.ps)) hle hu rfl (fun v => gC hr)⟩
end
section
open Go Go.RowKit
theorem oP {G : Glo} {m : Int} (hU : ab G utfTy) (hM : ab G (ce m)) (s : List UInt8) (cr : Bool) (hl : s.length ≤ 1000000) : FnIs Tryz.prog G 10 [.str s, .bool cr] (.tuple [(lpL cr s).A, .agg [.int .i64 (lpE cr s).e, .int .i64 (lpE cr s).p]]) := by
 refine dz (nq hU hM s cr hl) ?_
 rintro r H (⟨e, p, h, rfl, rfl⟩ | ⟨l, i, v, h, rfl, rfl⟩)
 ·rintro C R w e' hm ⟨x, rfl, hx⟩
  have e1 : lpL cr s = Ln.no := by unfold lpL; rw [h]
  have e2 : lpE cr s = .at e p := by unfold lpE; rw [h]
  rw [e1, e2]
  exact ⟨R, hm, x, rfl, fy (Seal.le_refl R) hx fun u hu => ef (p := 2) (a' := .list 2 0 (prF [])) (Seal.le_refl R) hu rfl (fun v => iF)⟩
 ·rintro C R w e' hm ⟨x, rfl, hx⟩
  have e1 : lpL cr s = l := by unfold lpL; rw [h]
  have e2 : lpE cr s = .none := by unfold lpE; rw [h]
  rw [e1, e2]
  obtain ⟨R', hle, m2, hr⟩ := MS.seal_row (f := prF l.ps) hm (vq l.ps)
  exact ⟨R', m2, x, rfl, fy hle hx fun u hu => ef (p := 2) (a' := .list 2 l.ps.length (prF l.ps)) hle hu rfl (fun v => gC hr)⟩
end
end Go.Proofs.YtkelbglfhigmiaaGreatDoor
