/- Texts of lists and of parts: the reference's side (6.1). -/
import Derived.Test.YtlmihggafbmkaaaGreatDoorTra
import Derived.Test.YtlmihggafbmkaaaGreatDoorExt
import Derived.Test.YtlmihggafbmkaaaGreatDoorPlc
import Derived.Test.YtlmihggafbmkaaaGreatDoorExh
import Derived.Test.YtlmihggafbmkaaaGreatDoorShc
import Derived.Test.YtlmihggafbmkaaaGreatDoorDeh
import Derived.Test.YtlmihggafbmkaaaGreatDoorExd
namespace Go.Proofs.YtlmihggafbmkaaaGreatDoor
open Go Go.RowKit
theorem idx5 (b : Int) : idxB [92, 44, 59, 110, 78] b = if b = 92 then 0 else if b = 44 then 1 else if b = 59 then 2 else if b = 110 then 3 else if b = 78 then 4 else -1 := by
  unfold idxB
  simp only [idxF]
  by_cases h1 : b = 92
  · subst h1; rfl
  by_cases h2 : b = 44
  · subst h2; rfl
  by_cases h3 : b = 59
  · subst h3; rfl
  by_cases h4 : b = 110
  · subst h4; rfl
  by_cases h5 : b = 78
  · subst h5; rfl
  rw [if_neg h1, if_neg h2, if_neg h3, if_neg h4, if_neg h5, if_neg (fun h => h1 h.symm), if_neg (fun h => h2 h.symm), if_neg (fun h => h3 h.symm), if_neg (fun h => h4 h.symm), if_neg (fun h => h5 h.symm)]
/-- The text without \; none where it isn't right. -/
def unS (s : List UInt8) : List UInt8 := match errT s 0 with
  | .none => valT (tokT s)
  | _ => []
theorem unS_ok {s : List UInt8} (h : errT s 0 = .none) : unS s = valT (tokT s) := by unfold unS; rw [h]
theorem unS_at {s : List UInt8} {e p : Int} (h : errT s 0 = .at e p) : unS s = [] := by unfold unS; rw [h]
theorem okE_at {s : List UInt8} {i : Nat} (h : i < s.length) : okE s[i] = decide ((byteAt s i : Int) = 92 ∨ (byteAt s i : Int) = 44 ∨ (byteAt s i : Int) = 59 ∨ (byteAt s i : Int) = 110 ∨ (byteAt s i : Int) = 78) := by
  unfold okE
  simp only [at_eq h]
  rfl
theorem escV_n {s : List UInt8} {i : Nat} (h : i < s.length) (hb : (byteAt s i : Int) = 110 ∨ (byteAt s i : Int) = 78) : escV s[i] = 10 := by
  unfold escV
  rw [if_pos (hb.imp (at_eq (c := 110) h).2 (at_eq (c := 78) h).2)]
theorem escV_s {s : List UInt8} {i : Nat} (h : i < s.length) (hb : ¬ ((byteAt s i : Int) = 110 ∨ (byteAt s i : Int) = 78)) : escV s[i] = s[i] := by
  unfold escV
  rw [if_neg (fun k => hb (k.imp (at_eq (c := 110) h).1 (at_eq (c := 78) h).1))]
theorem take_one {s : List UInt8} {i : Nat} (h : i < s.length) : (s.take (i + 1)).drop i = [s[i]] := by
  rw [List.take_succ_eq_append_getElem h, List.drop_append_of_le_length (by rw [List.length_take]; omega), List.drop_of_length_le (by rw [List.length_take]; omega)]
  rfl
theorem val_len (T : List Tk) : (valT T).length = T.length := by simp
set_option maxRecDepth 20000
set_option maxHeartbeats 8000000
set_option linter.unusedSimpArgs false
set_option linter.unusedVariables false
attribute [local irreducible] AWp AOps SrcOK OrOk GloAll FnSpec byteAt escV idxB
theorem ref_Unescape {G : Glo} (s : List UInt8) (hl : s.length ≤ 2000000) : FnIs Tryz.prog G 11 [.str s] (.tuple [.str (unS s), .agg [.int .i64 (errT s 0).e, .int .i64 (errT s 0).p]]) := by
  have hgd := ref_Good (G := G)
  have hI := fun (b : Int) h0 h1 => strings_IndexByte (G := G) [92, 44, 59, 110, 78] b h0 h1
  have hGL : GloAll G [] := gloAll_nil
  refine fn_x Tryz.func11 Tryz.call11 rfl rfl rfl rfl hGL ?_
  intro C hC
  repeat' (first
    | (conv => whnf); first
      | (apply ch_l; apply sp_i; first | exact rfl | omega | exact ⟨rfl, by omega⟩ | exact ⟨rfl, by omega, by omega, by omega⟩ | exact ⟨rfl, by simp, by omega, by omega⟩ | exact ⟨⟨_, rfl⟩, by omega⟩ | assumption | (simp; omega))
      | (apply sp_i; first | exact rfl | omega | exact ⟨rfl, rfl, by omega⟩ | exact ⟨rfl, by omega⟩ | exact ⟨rfl, by omega, by omega, by omega⟩ | exact ⟨rfl, by simp, by omega, by omega⟩ | exact ⟨⟨_, rfl⟩, by omega⟩ | assumption | (simp; omega))
      | (apply sc_true) | (apply sc_false)
      | (first | apply sc_lt | apply sc_nlt | apply sc_eq | apply sc_neq | apply sc_nil | apply sc_nnil); all_goals (intro hb; try (first | (exfalso; omega) | exact absurd rfl hb | exact absurd hb (by decide) | exact absurd (by assumption) hb | (exfalso; simp only [List.length_cons, List.length_nil] at hb; omega)))
      | (apply sc_not) | (apply sc_i; all_goals intro hb)
      | (first | apply ix_nat | apply ix_int | apply sd_nat | apply sd_int | apply sl_nat | apply sl_int); first | omega | (simp only [List.length_cons, List.length_nil, List.length_drop, List.length_take] at *; omega)
      | (apply bx_i; intro hbd) | (apply gt_i; assumption; exact rfl)
      | (apply cx_is; first | fail) | (apply ab_i; intro bl)
      | (apply rt_is; exact rfl) | (apply rt_do; exact rfl; (repeat (first | exact List.nil_sublist _ | apply List.Sublist.cons_cons)))
      | (exact True.intro) | (apply bc_i; intro C hC) | (apply bt_i) | (apply og_n) | (apply og_a; exact rfl))
  all_goals (try conv => whnf)
  refine lp hC hGL (fun (x : Nat × List Tk) => [(0, .str s), (3, .own 0 (.pointer (some ⟨bl, 0, none⟩))), (4, .str (valT x.2)), (5, .int .i64 (x.1 : Nat))]) (fun _ => [.cells bl (some 26) [.int .i64 0, .int .i64 0]]) (fun x => TokP s x.1 x.2 ∧ x.2.length ≤ x.1) (fun x => s.length - x.1) (0, []) ?_ (by repeat (first | exact trivial | refine And.intro rfl ?_)) rfl ?_
  · exact ⟨tokP_init s, Nat.le_refl _⟩
  rintro ⟨i, T⟩ ⟨hT, hlT⟩
  have hT : TokP s i T := hT
  have hlT : T.length ≤ i := hlT
  have hi := hT.1
  have hv := val_len T
  by_cases hA : i + 1 < s.length ∧ (byteAt s i : Int) = 92
  · obtain ⟨hA1, hA2⟩ := hA
    have hbl := byteAt_lt s (i + 1)
    have hJ := hI (byteAt s (i + 1) : Int) (by omega) (by omega)
    rw [idx5] at hJ
    have hok := okE_at hA1
    by_cases k1 : (byteAt s (i + 1) : Int) = 92
    · rw [if_pos k1] at hJ
      repeat' (first
        | (conv => whnf); first
          | (apply ch_l; apply sp_i; first | exact rfl | omega | exact ⟨rfl, by omega⟩ | exact ⟨rfl, by omega, by omega, by omega⟩ | exact ⟨rfl, by simp, by omega, by omega⟩ | exact ⟨⟨_, rfl⟩, by omega⟩ | assumption | (simp; omega))
          | (apply sp_i; first | exact rfl | omega | exact ⟨rfl, rfl, by omega⟩ | exact ⟨rfl, by omega⟩ | exact ⟨rfl, by omega, by omega, by omega⟩ | exact ⟨rfl, by simp, by omega, by omega⟩ | exact ⟨⟨_, rfl⟩, by omega⟩ | assumption | (simp; omega))
          | (apply sc_true) | (apply sc_false)
          | (first | apply sc_lt | apply sc_nlt | apply sc_eq | apply sc_neq | apply sc_nil | apply sc_nnil); all_goals (intro hb; try (first | (exfalso; omega) | exact absurd rfl hb | exact absurd hb (by decide) | exact absurd (by assumption) hb | (exfalso; simp only [List.length_cons, List.length_nil] at hb; omega)))
          | (apply sc_not) | (apply sc_i; all_goals intro hb)
          | (first | apply ix_nat | apply ix_int | apply sd_nat | apply sd_int | apply sl_nat | apply sl_int); first | omega | (simp only [List.length_cons, List.length_nil, List.length_drop, List.length_take] at *; omega)
          | (apply bx_i; intro hbd) | (apply gt_i; assumption; exact rfl)
          | (apply cx_is; first | exact hJ) | (apply ab_i; intro bl)
          | (apply rt_is; exact rfl) | (apply rt_do; exact rfl; (repeat (first | exact List.nil_sublist _ | apply List.Sublist.cons_cons)))
          | (exact True.intro) | (apply bc_i; intro C hC) | (apply bt_i) | (apply og_n) | (apply og_a; exact rfl))
      all_goals (try conv => whnf)
      refine nxt (i + 2, T ++ [.two s[i + 1]]) ?_ ?_ ⟨rfl, rfl, ?_, rfl, trivial⟩ rfl
      · exact ⟨tokP_two hT hA1 hA2 (by rw [hok]; simp [k1]), by simp; omega⟩
      · show s.length - (i + 2) < s.length - i
        omega
      · refine congrArg (fun l => some (AVal.str l)) ?_
        rw [val_snoc]
        refine congrArg (valT T ++ ·) ?_
        show [92] = [escV s[i + 1]]
        rw [escV_s hA1 (by omega), (at_eq hA1).2 (show _ = ((92 : UInt8).toNat : Int) from k1)]
    by_cases k2 : (byteAt s (i + 1) : Int) = 44
    · rw [if_neg k1, if_pos k2] at hJ
      repeat' (first
        | (conv => whnf); first
          | (apply ch_l; apply sp_i; first | exact rfl | omega | exact ⟨rfl, by omega⟩ | exact ⟨rfl, by omega, by omega, by omega⟩ | exact ⟨rfl, by simp, by omega, by omega⟩ | exact ⟨⟨_, rfl⟩, by omega⟩ | assumption | (simp; omega))
          | (apply sp_i; first | exact rfl | omega | exact ⟨rfl, rfl, by omega⟩ | exact ⟨rfl, by omega⟩ | exact ⟨rfl, by omega, by omega, by omega⟩ | exact ⟨rfl, by simp, by omega, by omega⟩ | exact ⟨⟨_, rfl⟩, by omega⟩ | assumption | (simp; omega))
          | (apply sc_true) | (apply sc_false)
          | (first | apply sc_lt | apply sc_nlt | apply sc_eq | apply sc_neq | apply sc_nil | apply sc_nnil); all_goals (intro hb; try (first | (exfalso; omega) | exact absurd rfl hb | exact absurd hb (by decide) | exact absurd (by assumption) hb | (exfalso; simp only [List.length_cons, List.length_nil] at hb; omega)))
          | (apply sc_not) | (apply sc_i; all_goals intro hb)
          | (first | apply ix_nat | apply ix_int | apply sd_nat | apply sd_int | apply sl_nat | apply sl_int); first | omega | (simp only [List.length_cons, List.length_nil, List.length_drop, List.length_take] at *; omega)
          | (apply bx_i; intro hbd) | (apply gt_i; assumption; exact rfl)
          | (apply cx_is; first | exact hJ) | (apply ab_i; intro bl)
          | (apply rt_is; exact rfl) | (apply rt_do; exact rfl; (repeat (first | exact List.nil_sublist _ | apply List.Sublist.cons_cons)))
          | (exact True.intro) | (apply bc_i; intro C hC) | (apply bt_i) | (apply og_n) | (apply og_a; exact rfl))
      all_goals (try conv => whnf)
      refine nxt (i + 2, T ++ [.two s[i + 1]]) ?_ ?_ ⟨rfl, rfl, ?_, rfl, trivial⟩ rfl
      · exact ⟨tokP_two hT hA1 hA2 (by rw [hok]; simp [k2]), by simp; omega⟩
      · show s.length - (i + 2) < s.length - i
        omega
      · refine congrArg (fun l => some (AVal.str l)) ?_
        rw [val_snoc]
        refine congrArg (valT T ++ ·) ?_
        show [44] = [escV s[i + 1]]
        rw [escV_s hA1 (by omega), (at_eq hA1).2 (show _ = ((44 : UInt8).toNat : Int) from k2)]
    by_cases k3 : (byteAt s (i + 1) : Int) = 59
    · rw [if_neg k1, if_neg k2, if_pos k3] at hJ
      repeat' (first
        | (conv => whnf); first
          | (apply ch_l; apply sp_i; first | exact rfl | omega | exact ⟨rfl, by omega⟩ | exact ⟨rfl, by omega, by omega, by omega⟩ | exact ⟨rfl, by simp, by omega, by omega⟩ | exact ⟨⟨_, rfl⟩, by omega⟩ | assumption | (simp; omega))
          | (apply sp_i; first | exact rfl | omega | exact ⟨rfl, rfl, by omega⟩ | exact ⟨rfl, by omega⟩ | exact ⟨rfl, by omega, by omega, by omega⟩ | exact ⟨rfl, by simp, by omega, by omega⟩ | exact ⟨⟨_, rfl⟩, by omega⟩ | assumption | (simp; omega))
          | (apply sc_true) | (apply sc_false)
          | (first | apply sc_lt | apply sc_nlt | apply sc_eq | apply sc_neq | apply sc_nil | apply sc_nnil); all_goals (intro hb; try (first | (exfalso; omega) | exact absurd rfl hb | exact absurd hb (by decide) | exact absurd (by assumption) hb | (exfalso; simp only [List.length_cons, List.length_nil] at hb; omega)))
          | (apply sc_not) | (apply sc_i; all_goals intro hb)
          | (first | apply ix_nat | apply ix_int | apply sd_nat | apply sd_int | apply sl_nat | apply sl_int); first | omega | (simp only [List.length_cons, List.length_nil, List.length_drop, List.length_take] at *; omega)
          | (apply bx_i; intro hbd) | (apply gt_i; assumption; exact rfl)
          | (apply cx_is; first | exact hJ) | (apply ab_i; intro bl)
          | (apply rt_is; exact rfl) | (apply rt_do; exact rfl; (repeat (first | exact List.nil_sublist _ | apply List.Sublist.cons_cons)))
          | (exact True.intro) | (apply bc_i; intro C hC) | (apply bt_i) | (apply og_n) | (apply og_a; exact rfl))
      all_goals (try conv => whnf)
      refine nxt (i + 2, T ++ [.two s[i + 1]]) ?_ ?_ ⟨rfl, rfl, ?_, rfl, trivial⟩ rfl
      · exact ⟨tokP_two hT hA1 hA2 (by rw [hok]; simp [k3]), by simp; omega⟩
      · show s.length - (i + 2) < s.length - i
        omega
      · refine congrArg (fun l => some (AVal.str l)) ?_
        rw [val_snoc]
        refine congrArg (valT T ++ ·) ?_
        show [59] = [escV s[i + 1]]
        rw [escV_s hA1 (by omega), (at_eq hA1).2 (show _ = ((59 : UInt8).toNat : Int) from k3)]
    by_cases k4 : (byteAt s (i + 1) : Int) = 110
    · rw [if_neg k1, if_neg k2, if_neg k3, if_pos k4] at hJ
      repeat' (first
        | (conv => whnf); first
          | (apply ch_l; apply sp_i; first | exact rfl | omega | exact ⟨rfl, by omega⟩ | exact ⟨rfl, by omega, by omega, by omega⟩ | exact ⟨rfl, by simp, by omega, by omega⟩ | exact ⟨⟨_, rfl⟩, by omega⟩ | assumption | (simp; omega))
          | (apply sp_i; first | exact rfl | omega | exact ⟨rfl, rfl, by omega⟩ | exact ⟨rfl, by omega⟩ | exact ⟨rfl, by omega, by omega, by omega⟩ | exact ⟨rfl, by simp, by omega, by omega⟩ | exact ⟨⟨_, rfl⟩, by omega⟩ | assumption | (simp; omega))
          | (apply sc_true) | (apply sc_false)
          | (first | apply sc_lt | apply sc_nlt | apply sc_eq | apply sc_neq | apply sc_nil | apply sc_nnil); all_goals (intro hb; try (first | (exfalso; omega) | exact absurd rfl hb | exact absurd hb (by decide) | exact absurd (by assumption) hb | (exfalso; simp only [List.length_cons, List.length_nil] at hb; omega)))
          | (apply sc_not) | (apply sc_i; all_goals intro hb)
          | (first | apply ix_nat | apply ix_int | apply sd_nat | apply sd_int | apply sl_nat | apply sl_int); first | omega | (simp only [List.length_cons, List.length_nil, List.length_drop, List.length_take] at *; omega)
          | (apply bx_i; intro hbd) | (apply gt_i; assumption; exact rfl)
          | (apply cx_is; first | exact hJ) | (apply ab_i; intro bl)
          | (apply rt_is; exact rfl) | (apply rt_do; exact rfl; (repeat (first | exact List.nil_sublist _ | apply List.Sublist.cons_cons)))
          | (exact True.intro) | (apply bc_i; intro C hC) | (apply bt_i) | (apply og_n) | (apply og_a; exact rfl))
      all_goals (try conv => whnf)
      refine nxt (i + 2, T ++ [.two s[i + 1]]) ?_ ?_ ⟨rfl, rfl, ?_, rfl, trivial⟩ rfl
      · exact ⟨tokP_two hT hA1 hA2 (by rw [hok]; simp [k4]), by simp; omega⟩
      · show s.length - (i + 2) < s.length - i
        omega
      · refine congrArg (fun l => some (AVal.str l)) ?_
        rw [val_snoc]
        refine congrArg (valT T ++ ·) ?_
        show [10] = [escV s[i + 1]]
        rw [escV_n hA1 (by omega)]
    by_cases k5 : (byteAt s (i + 1) : Int) = 78
    · rw [if_neg k1, if_neg k2, if_neg k3, if_neg k4, if_pos k5] at hJ
      repeat' (first
        | (conv => whnf); first
          | (apply ch_l; apply sp_i; first | exact rfl | omega | exact ⟨rfl, by omega⟩ | exact ⟨rfl, by omega, by omega, by omega⟩ | exact ⟨rfl, by simp, by omega, by omega⟩ | exact ⟨⟨_, rfl⟩, by omega⟩ | assumption | (simp; omega))
          | (apply sp_i; first | exact rfl | omega | exact ⟨rfl, rfl, by omega⟩ | exact ⟨rfl, by omega⟩ | exact ⟨rfl, by omega, by omega, by omega⟩ | exact ⟨rfl, by simp, by omega, by omega⟩ | exact ⟨⟨_, rfl⟩, by omega⟩ | assumption | (simp; omega))
          | (apply sc_true) | (apply sc_false)
          | (first | apply sc_lt | apply sc_nlt | apply sc_eq | apply sc_neq | apply sc_nil | apply sc_nnil); all_goals (intro hb; try (first | (exfalso; omega) | exact absurd rfl hb | exact absurd hb (by decide) | exact absurd (by assumption) hb | (exfalso; simp only [List.length_cons, List.length_nil] at hb; omega)))
          | (apply sc_not) | (apply sc_i; all_goals intro hb)
          | (first | apply ix_nat | apply ix_int | apply sd_nat | apply sd_int | apply sl_nat | apply sl_int); first | omega | (simp only [List.length_cons, List.length_nil, List.length_drop, List.length_take] at *; omega)
          | (apply bx_i; intro hbd) | (apply gt_i; assumption; exact rfl)
          | (apply cx_is; first | exact hJ) | (apply ab_i; intro bl)
          | (apply rt_is; exact rfl) | (apply rt_do; exact rfl; (repeat (first | exact List.nil_sublist _ | apply List.Sublist.cons_cons)))
          | (exact True.intro) | (apply bc_i; intro C hC) | (apply bt_i) | (apply og_n) | (apply og_a; exact rfl))
      all_goals (try conv => whnf)
      refine nxt (i + 2, T ++ [.two s[i + 1]]) ?_ ?_ ⟨rfl, rfl, ?_, rfl, trivial⟩ rfl
      · exact ⟨tokP_two hT hA1 hA2 (by rw [hok]; simp [k5]), by simp; omega⟩
      · show s.length - (i + 2) < s.length - i
        omega
      · refine congrArg (fun l => some (AVal.str l)) ?_
        rw [val_snoc]
        refine congrArg (valT T ++ ·) ?_
        show [10] = [escV s[i + 1]]
        rw [escV_n hA1 (by omega)]
    rw [if_neg k1, if_neg k2, if_neg k3, if_neg k4, if_neg k5] at hJ
    have he := tokP_bad hT hA1 hA2 (by rw [hok]; simp [k1, k2, k3, k4, k5])
    repeat' (first
      | (conv => whnf); first
        | (apply ch_l; apply sp_i; first | exact rfl | omega | exact ⟨rfl, by omega⟩ | exact ⟨rfl, by omega, by omega, by omega⟩ | exact ⟨rfl, by simp, by omega, by omega⟩ | exact ⟨⟨_, rfl⟩, by omega⟩ | assumption | (simp; omega))
        | (apply sp_i; first | exact rfl | omega | exact ⟨rfl, rfl, by omega⟩ | exact ⟨rfl, by omega⟩ | exact ⟨rfl, by omega, by omega, by omega⟩ | exact ⟨rfl, by simp, by omega, by omega⟩ | exact ⟨⟨_, rfl⟩, by omega⟩ | assumption | (simp; omega))
        | (apply sc_true) | (apply sc_false)
        | (first | apply sc_lt | apply sc_nlt | apply sc_eq | apply sc_neq | apply sc_nil | apply sc_nnil); all_goals (intro hb; try (first | (exfalso; omega) | exact absurd rfl hb | exact absurd hb (by decide) | exact absurd (by assumption) hb | (exfalso; simp only [List.length_cons, List.length_nil] at hb; omega)))
        | (apply sc_not) | (apply sc_i; all_goals intro hb)
        | (first | apply ix_nat | apply ix_int | apply sd_nat | apply sd_int | apply sl_nat | apply sl_int); first | omega | (simp only [List.length_cons, List.length_nil, List.length_drop, List.length_take] at *; omega)
        | (apply bx_i; intro hbd) | (apply gt_i; assumption; exact rfl)
        | (apply cx_is; first | exact hJ) | (apply ab_i; intro bl)
        | (apply rt_is; exact rfl) | (apply rt_do; exact rfl; (repeat (first | exact List.nil_sublist _ | apply List.Sublist.cons_cons)))
        | (exact True.intro) | (apply bc_i; intro C hC) | (apply bt_i) | (apply og_n) | (apply og_a; exact rfl))
    all_goals (try conv => whnf)
    apply rt_is
    rw [unS_at he, he]
    rfl
  · repeat' (first
      | (conv => whnf); first
        | (apply ch_l; apply sp_i; first | exact rfl | omega | exact ⟨rfl, by omega⟩ | exact ⟨rfl, by omega, by omega, by omega⟩ | exact ⟨rfl, by simp, by omega, by omega⟩ | exact ⟨⟨_, rfl⟩, by omega⟩ | assumption | (simp; omega))
        | (apply sp_i; first | exact rfl | omega | exact ⟨rfl, rfl, by omega⟩ | exact ⟨rfl, by omega⟩ | exact ⟨rfl, by omega, by omega, by omega⟩ | exact ⟨rfl, by simp, by omega, by omega⟩ | exact ⟨⟨_, rfl⟩, by omega⟩ | assumption | (simp; omega))
        | (apply sc_true) | (apply sc_false)
        | (first | apply sc_lt | apply sc_nlt | apply sc_eq | apply sc_neq | apply sc_nil | apply sc_nnil); all_goals (intro hb; try (first | (exfalso; omega) | exact absurd rfl hb | exact absurd hb (by decide) | exact absurd (by assumption) hb | (exfalso; simp only [List.length_cons, List.length_nil] at hb; omega)))
        | (apply sc_not) | (apply sc_i; all_goals intro hb)
        | (first | apply ix_nat | apply ix_int | apply sd_nat | apply sd_int | apply sl_nat | apply sl_int); first | omega | (simp only [List.length_cons, List.length_nil, List.length_drop, List.length_take] at *; omega)
        | (apply bx_i; intro hbd) | (apply gt_i; assumption; exact rfl)
        | (apply cx_is; first | exact hgd) | (apply ab_i; intro bl)
        | (apply rt_is; exact rfl) | (apply rt_do; exact rfl; (repeat (first | exact List.nil_sublist _ | apply List.Sublist.cons_cons)))
        | (exact True.intro) | (apply bc_i; intro C hC) | (apply bt_i) | (apply og_n) | (apply og_a; exact rfl))
    all_goals (try conv => whnf)
    · have hlt : i < s.length := by dsimp only at *; omega
      have hne : (byteAt s i : Int) ≠ 92 := by assumption
      refine nxt (i + 1, T ++ [.one s[i]]) ?_ ?_ ⟨rfl, rfl, ?_, rfl, trivial⟩ rfl
      · exact ⟨tokP_one hT hlt hne, by simp; omega⟩
      · show s.length - (i + 1) < s.length - i
        omega
      · refine congrArg (fun l => some (AVal.str l)) ?_
        rw [val_snoc]
        exact congrArg (valT T ++ ·) (take_one hlt)
    · have he := tokP_miss hT (by dsimp only at *; omega) (by assumption)
      apply rt_is
      rw [unS_at he, he]
      rfl
    · exfalso
      dsimp only at *
      omega
    · obtain ⟨he, ht⟩ := tokP_end hT (by dsimp only at *; omega)
      apply rt_is
      rw [unS_ok he, he, ht]
      rfl
end Go.Proofs.YtlmihggafbmkaaaGreatDoor
namespace Go.Proofs.YtlmihggafbmkaaaGreatDoor
open Go Go.RowKit
theorem bsN_up {s : List UInt8} {i n : Nat} (h : n ≤ bsN s i) (hb : (byteAt s (i - n - 1) : Int) = 92) (hi : n < i) : n + 1 ≤ bsN s i := by
  rcases Nat.lt_or_ge n (bsN s i) with k | k
  · exact k
  · have e : n = bsN s i := by omega
    rcases bsN_stop s i with h1 | h1
    · omega
    · rw [← e] at h1; exact absurd hb h1
theorem bsN_eq {s : List UInt8} {i n : Nat} (h : n ≤ bsN s i) (hb : (byteAt s (i - n - 1) : Int) ≠ 92) : n = bsN s i := by
  rcases Nat.lt_or_ge n (bsN s i) with k | k
  · exact absurd (bsN_at s i n k) hb
  · omega
theorem bsN_full {s : List UInt8} {i n : Nat} (h : n ≤ bsN s i) (hi : i ≤ n) : n = bsN s i := by
  have := bsN_le s i
  omega
set_option maxRecDepth 20000
set_option maxHeartbeats 8000000
set_option linter.unusedSimpArgs false
set_option linter.unusedVariables false
attribute [local irreducible] AWp AOps SrcOK OrOk GloAll FnSpec byteAt bsN
theorem ref_cut {G : Glo} (s : List UInt8) (c : UInt8) (hl : s.length ≤ 2000000) : FnIs Tryz.prog G 28 [.str s, .int .u8 (c.toNat : Int)] (.list 1 (cutL c s).length (strsF (cutL c s))) := by
  refine fn_seal (fun a => a) mk_id (strsF (cutL c s)) (strsF_ok _) (cs := strsC (cutL c s)) (eT := none) ?_
  have hGL : GloAll G [] := gloAll_nil
  refine fn_x Tryz.func28 Tryz.call28 rfl rfl rfl rfl hGL ?_
  intro C hC
  repeat' (first
    | (conv => whnf); first
      | (apply ch_l; apply sp_i; first | exact rfl | omega | exact ⟨rfl, by omega⟩ | exact ⟨rfl, by omega, by omega, by omega⟩ | exact ⟨rfl, by simp, by omega, by omega⟩ | exact ⟨⟨_, rfl⟩, by omega⟩ | assumption | (simp; omega))
      | (apply sp_i; first | exact rfl | omega | exact ⟨rfl, rfl, by omega⟩ | exact ⟨rfl, by omega⟩ | exact ⟨rfl, by omega, by omega, by omega⟩ | exact ⟨rfl, by simp, by omega, by omega⟩ | exact ⟨⟨_, rfl⟩, by omega⟩ | assumption | (simp; omega))
      | (apply sc_true) | (apply sc_false)
      | (first | apply sc_lt | apply sc_nlt | apply sc_eq | apply sc_neq | apply sc_nil | apply sc_nnil); all_goals (intro hb; try (first | (exfalso; omega) | exact absurd rfl hb | exact absurd hb (by decide) | exact absurd (by assumption) hb | (exfalso; simp only [List.length_cons, List.length_nil] at hb; omega)))
      | (apply sc_not) | (apply sc_i; all_goals intro hb)
      | (first | apply ix_nat | apply ix_int | apply sd_nat | apply sd_int | apply sl_nat | apply sl_int); first | omega | (simp only [List.length_cons, List.length_nil, List.length_drop, List.length_take] at *; omega)
      | (apply bx_i; intro hbd) | (apply gt_i; assumption; exact rfl)
      | (apply cx_is; first | fail) | (apply ab_i; intro bl)
      | (apply rt_is; exact rfl) | (apply rt_do; exact rfl; (repeat (first | exact List.nil_sublist _ | apply List.Sublist.cons_cons)))
      | (exact True.intro) | (apply bc_i; intro C hC) | (apply bt_i) | (apply og_n) | (apply og_a; exact rfl))
  all_goals (try conv => whnf)
  refine lp_row 5 1 rfl ?_
  refine lp hC hGL (fun (x : Nat × Nat × List (List UInt8) × Value) => [(0, .str s), (1, .int .u8 (c.toNat : Int)), (5, .own 0 x.2.2.2), (6, .int .i64 (x.2.1 : Nat)), (10, .int .i64 (s.length : Nat)), (11, .int .i64 (x.1 : Nat))]) (fun x => [.row x.2.2.2 none 1 x.2.2.1.length (strsC x.2.2.1)]) (fun x => CutP s c x.1 x.2.2.1 x.2.1) (fun x => s.length - x.1) (0, 0, [], .slice none 0 0) ?_ (by repeat (first | exact trivial | refine And.intro rfl ?_)) rfl ?_
  · exact cutP_init s c
  rintro ⟨i, fr, out, v⟩ hT
  have hT : CutP s c i out fr := hT
  have h1 := hT.1
  have h2 := hT.2.1
  have h3 := hT.2.2.1
  repeat' (first
    | (conv => whnf); first
      | (apply ch_l; apply sp_i; first | exact rfl | omega | exact ⟨rfl, by omega⟩ | exact ⟨rfl, by omega, by omega, by omega⟩ | exact ⟨rfl, by simp, by omega, by omega⟩ | exact ⟨⟨_, rfl⟩, by omega⟩ | assumption | (simp; omega))
      | (apply sp_i; first | exact rfl | omega | exact ⟨rfl, rfl, by omega⟩ | exact ⟨rfl, by omega⟩ | exact ⟨rfl, by omega, by omega, by omega⟩ | exact ⟨rfl, by simp, by omega, by omega⟩ | exact ⟨⟨_, rfl⟩, by omega⟩ | assumption | (simp; omega))
      | (apply sc_true) | (apply sc_false)
      | (first | apply sc_lt | apply sc_nlt | apply sc_eq | apply sc_neq | apply sc_nil | apply sc_nnil); all_goals (intro hb; try (first | (exfalso; omega) | exact absurd rfl hb | exact absurd hb (by decide) | exact absurd (by assumption) hb | (exfalso; simp only [List.length_cons, List.length_nil] at hb; omega)))
      | (apply sc_not) | (apply sc_i; all_goals intro hb)
      | (first | apply ix_nat | apply ix_int | apply sd_nat | apply sd_int | apply sl_nat | apply sl_int); first | omega | (simp only [List.length_cons, List.length_nil, List.length_drop, List.length_take] at *; omega)
      | (apply bx_i; intro hbd) | (apply gt_i; assumption; exact rfl)
      | (apply cx_is; first | fail) | (apply ab_i; intro bl)
      | (apply rt_is; exact rfl) | (apply rt_do; exact rfl; (repeat (first | exact List.nil_sublist _ | apply List.Sublist.cons_cons)))
      | (exact True.intro) | (apply bc_i; intro C hC) | (apply bt_i) | (apply og_n) | (apply og_a; exact rfl))
  all_goals (try conv => whnf)
  · have hlt : i < s.length := by dsimp only at *; omega
    refine lp hC hGL (fun (n : Nat) => [(0, .str s), (1, .int .u8 (c.toNat : Int)), (5, .own 0 v), (6, .int .i64 (fr : Nat)), (7, .int .i64 (i : Nat)), (8, .int .i64 (n : Nat)), (10, .int .i64 (s.length : Nat)), (11, .int .i64 (i : Nat))]) (fun _ => [.row v none 1 out.length (strsC out)]) (fun n => n ≤ bsN s i) (fun n => i - n) 0 ?_ (by repeat (first | exact trivial | refine And.intro rfl ?_)) rfl ?_
    · exact Nat.zero_le _
    intro n hn
    have hn : n ≤ bsN s i := hn
    have hni := bsN_le s i
    have e : 0 < (i : Int) - n → ((i : Int) - n - 1).toNat = i - n - 1 := fun _ => by omega
    repeat' (first
      | (conv => whnf); first
        | (apply ch_l; apply sp_i; first | exact rfl | omega | exact ⟨rfl, rfl, by omega⟩ | exact ⟨rfl, by omega⟩ | exact ⟨rfl, by omega, by omega, by omega⟩ | exact ⟨rfl, by simp, by omega, by omega⟩ | exact ⟨⟨_, rfl⟩, by omega⟩ | exact ⟨⟨_, rfl⟩, by omega, by omega⟩ | assumption | decide | (simp only [List.length_drop, List.length_take, List.length_append, List.length_set, List.length_cons, List.length_nil, OrOk] at *; omega) | (simp; omega))
        | (apply sp_i; first | exact rfl | omega | exact ⟨rfl, rfl, by omega⟩ | exact ⟨rfl, by omega⟩ | exact ⟨rfl, by omega, by omega, by omega⟩ | exact ⟨rfl, by simp, by omega, by omega⟩ | exact ⟨⟨_, rfl⟩, by omega⟩ | exact ⟨⟨_, rfl⟩, by omega, by omega⟩ | assumption | decide | (simp only [List.length_drop, List.length_take, List.length_append, List.length_set, List.length_cons, List.length_nil, OrOk] at *; omega) | (simp; omega))
        | (apply sc_true) | (apply sc_false)
        | (first | apply sc_lt | apply sc_nlt | apply sc_eq | apply sc_neq | apply sc_nil | apply sc_nnil | apply sc_seq | apply sc_nseq); all_goals (intro hb; try (first | (exfalso; omega) | exact absurd rfl hb | exact absurd hb (by decide) | exact absurd hb (by assumption) | exact absurd (by assumption) hb | (exfalso; simp only [List.length_cons, List.length_nil, List.length_append] at hb; omega)))
        | (apply sc_not) | (apply sc_or) | (apply sc_i; all_goals intro hb)
        | (first | apply ix_nat | apply ix_int); first | omega | (simp only [List.length_drop, List.length_take, List.length_append, List.length_set, List.length_cons, List.length_nil] at *; omega)
        | (apply bx_i; intro hbd) | (apply gt_i; assumption; exact rfl)
        | (first | apply sd_nat | apply sd_int | apply sl_nat | apply sl_int); first | omega | (simp only [List.length_drop, List.length_take, List.length_append, List.length_set, List.length_cons, List.length_nil] at *; omega)
        | (apply cx_is; first | fail) | (apply cx_do (i := 0) rfl; first | fail)
        | (apply ab_i; intro bl) | (apply as_i; intro va vk vc hva) | (apply av_i; intro v) | (apply ac_i; intro bl cap hcap)
        | (apply bo_l) | (apply ch_r; apply sp_i; first | assumption | decide) | (apply ch_r; apply sp_i; intro i hi; exact ⟨rfl, rfl, rfl⟩) | (apply nx_i; all_goals intro hnx)
        | (apply Ia.hit; assumption) | (apply Ia.miss; assumption)
        | (apply rt_is; exact rfl) | (apply rt_do; exact rfl; (repeat (first | exact List.nil_sublist _ | apply List.Sublist.cons_cons))) | (apply iv; assumption)
        | (apply dw_q mixed hC hGL (by kernel_rfl))
        | (apply cq; assumption; (first | fail); exact rfl))
    all_goals (try conv => whnf)
    · rw [e (by omega)] at hb
      refine nxt (n + 1) (bsN_up hn hb (by omega)) ?_ ⟨rfl, rfl, rfl, rfl, rfl, rfl, rfl, rfl, trivial⟩ rfl
      show i - (n + 1) < i - n
      omega
    all_goals
      have en : n = bsN s i := by first | exact bsN_full hn (by omega) | (rw [e (by omega)] at *; exact bsN_eq hn (by assumption))
      first
        | (refine nxt (i + 1, i + 1, out ++ [(s.take i).drop fr], .slice va vk vc) ?_ ?_ ⟨rfl, rfl, rfl, rfl, rfl, rfl, trivial⟩ ?_
           · exact cutP_cut hT hlt (by assumption) (by rw [← en]; omega)
           · show s.length - (i + 1) < s.length - i
             omega
           · dsimp only
             rw [← strsC_snoc, List.length_append]
             rfl)
        | (refine nxt (i + 1, fr, out, v) ?_ ?_ ⟨rfl, rfl, rfl, rfl, rfl, rfl, trivial⟩ rfl
           · exact cutP_go hT hlt (by rw [← en]; omega)
           · show s.length - (i + 1) < s.length - i
             omega)
  · have h3p : (((i, fr, out, v) : Nat × Nat × List (List UInt8) × Value).2.2.1).length ≤ i := h3
    repeat' (first
      | (conv => whnf); first
        | (apply ch_l; apply sp_i; first | exact rfl | omega | exact ⟨rfl, rfl, by omega⟩ | exact ⟨rfl, by omega⟩ | exact ⟨rfl, by omega, by omega, by omega⟩ | exact ⟨rfl, by simp, by omega, by omega⟩ | exact ⟨⟨_, rfl⟩, by omega⟩ | exact ⟨⟨_, rfl⟩, by omega, by omega⟩ | assumption | decide | (simp only [List.length_drop, List.length_take, List.length_append, List.length_set, List.length_cons, List.length_nil, OrOk] at *; omega) | (simp; omega))
        | (apply sp_i; first | exact rfl | omega | exact ⟨rfl, rfl, by omega⟩ | exact ⟨rfl, by omega⟩ | exact ⟨rfl, by omega, by omega, by omega⟩ | exact ⟨rfl, by simp, by omega, by omega⟩ | exact ⟨⟨_, rfl⟩, by omega⟩ | exact ⟨⟨_, rfl⟩, by omega, by omega⟩ | assumption | decide | (simp only [List.length_drop, List.length_take, List.length_append, List.length_set, List.length_cons, List.length_nil, OrOk] at *; omega) | (simp; omega))
        | (apply sc_true) | (apply sc_false)
        | (first | apply sc_lt | apply sc_nlt | apply sc_eq | apply sc_neq | apply sc_nil | apply sc_nnil | apply sc_seq | apply sc_nseq); all_goals (intro hb; try (first | (exfalso; omega) | exact absurd rfl hb | exact absurd hb (by decide) | exact absurd hb (by assumption) | exact absurd (by assumption) hb | (exfalso; simp only [List.length_cons, List.length_nil, List.length_append] at hb; omega)))
        | (apply sc_not) | (apply sc_or) | (apply sc_i; all_goals intro hb)
        | (first | apply ix_nat | apply ix_int); first | omega | (simp only [List.length_drop, List.length_take, List.length_append, List.length_set, List.length_cons, List.length_nil] at *; omega)
        | (apply bx_i; intro hbd) | (apply gt_i; assumption; exact rfl)
        | (first | apply sd_nat | apply sd_int | apply sl_nat | apply sl_int); first | omega | (simp only [List.length_drop, List.length_take, List.length_append, List.length_set, List.length_cons, List.length_nil] at *; omega)
        | (apply cx_is; first | fail) | (apply cx_do (i := 0) rfl; first | fail)
        | (apply ab_i; intro bl) | (apply as_i; intro va vk vc hva) | (apply av_i; intro v) | (apply ac_i; intro bl cap hcap)
        | (apply bo_l) | (apply ch_r; apply sp_i; first | assumption | decide) | (apply ch_r; apply sp_i; intro i hi; exact ⟨rfl, rfl, rfl⟩) | (apply nx_i; all_goals intro hnx)
        | (apply Ia.hit; assumption) | (apply Ia.miss; assumption)
        | (apply rt_is; exact rfl) | (apply rt_do; exact rfl; (repeat (first | exact List.nil_sublist _ | apply List.Sublist.cons_cons))) | (apply iv; assumption)
        | (apply dw_q mixed hC hGL (by kernel_rfl))
        | (apply cq; assumption; (first | fail); exact rfl))
    all_goals (try conv => whnf)
    have hlt : s.length ≤ i := by dsimp only at *; omega
    refine ⟨_, List.Sublist.refl _, 0, .slice va vk vc, rfl, ?_⟩
    dsimp only
    rw [cutP_end hT hlt, ← strsC_snoc, List.length_append]
    rfl
end Go.Proofs.YtlmihggafbmkaaaGreatDoor
namespace Go.Proofs.YtlmihggafbmkaaaGreatDoor
open Go Go.RowKit
theorem stB_len (c : UInt8) : ∀ s : List UInt8, (∀ x ∈ (stB c s).1, x.length ≤ s.length) ∧ (stB c s).2.1.length ≤ s.length := by
  refine snoc_ind ⟨fun _ h => by simp [stB] at h, by simp [stB]⟩ fun s b ih => ?_
  rw [stB_snoc]
  unfold stepB
  split
  · refine ⟨fun x hx => ?_, by simp⟩
    rw [List.length_append]
    rcases List.mem_append.1 hx with hx | hx
    · have := ih.1 x hx; omega
    · rw [List.mem_singleton.1 hx]; have := ih.2; omega
  · refine ⟨fun x hx => ?_, ?_⟩
    · rw [List.length_append]
      have := ih.1 x hx; omega
    · rw [List.length_append, List.length_append]
      have := ih.2
      simp
      omega
theorem cutL_len (c : UInt8) (s : List UInt8) {x : List UInt8} (h : x ∈ cutL c s) : x.length ≤ s.length := by
  rcases List.mem_append.1 h with h | h
  · exact (stB_len c s).1 x h
  · rw [List.mem_singleton.1 h]; exact (stB_len c s).2
theorem stB_cnt (c : UInt8) : ∀ s : List UInt8, (stB c s).1.length ≤ s.length := by
  refine snoc_ind (Nat.le_refl _) fun s b ih => ?_
  rw [stB_snoc, List.length_append]
  unfold stepB
  split
  · simp; exact ih
  · simp; omega
theorem cutL_cnt (c : UInt8) (s : List UInt8) : (cutL c s).length ≤ s.length + 1 := by
  have := stB_cnt c s
  simp [cutL]; exact this
theorem errT_form : ∀ (n : Nat) (s : List UInt8) (i : Nat), s.length ≤ n → errT s i = .none ∨ (∃ p, errT s i = .at 7 p) ∨ ∃ p, errT s i = .at 3 p
  | _, [], _, _ => .inl rfl
  | 0, c :: r, _, hn => by simp at hn
  | n + 1, c :: r, i, hn => by
    have hn : r.length ≤ n := by simpa using hn
    by_cases hc : c = 92
    · subst hc
      cases r with
      | nil => exact .inr (.inl ⟨_, rfl⟩)
      | cons d r =>
        by_cases hd : okE d = true
        · rw [errT_two hd]
          exact errT_form n r _ (by simp at hn; omega)
        · exact .inr (.inr ⟨_, by simp [errT, hd]; rfl⟩)
    · rw [errT_one hc]
      exact errT_form n r _ hn
theorem errT_ne {s : List UInt8} (h : errT s 0 ≠ .none) : ¬ (errT s 0).e = 0 := by
  rcases errT_form s.length s 0 (Nat.le_refl _) with k | ⟨p, k⟩ | ⟨p, k⟩
  · exact absurd k h
  · rw [k]; exact (by decide : ¬ (7 : Int) = 0)
  · rw [k]; exact (by decide : ¬ (3 : Int) = 0)
/-- The list that a text is; none where it isn't right. -/
def lstS (s : List UInt8) : List (List UInt8) := match errT s 0 with
  | .none => lstT (tokT s)
  | _ => []
theorem lstS_ok {s : List UInt8} (h : errT s 0 = .none) : lstS s = lstT (tokT s) := by unfold lstS; rw [h]
theorem lstS_no {s : List UInt8} (h : errT s 0 ≠ .none) : lstS s = [] := by
  unfold lstS
  split
  · rename_i h2; exact absurd h2 h
  · rfl
theorem unS_no {s : List UInt8} (h : errT s 0 ≠ .none) : unS s = [] := by
  unfold unS
  split
  · rename_i h2; exact absurd h2 h
  · rfl
/-- What the pieces of a right text are. -/
theorem piece_tok {s : List UInt8} {c : UInt8} (hc : c ≠ 92) (h : errT s 0 = .none) : cutL c s = (splT c (tokT s)).map rawT ∧ ∀ T' ∈ splT c (tokT s), errT (rawT T') 0 = .none ∧ tokT (rawT T') = T' := by
  have hok := tok_ok s.length s (Nat.le_refl _)
  have hraw := tok_raw s.length s 0 (Nat.le_refl _) h
  refine ⟨?_, fun T' hT => raw_tok T' 0 (splT_ok hok T' hT)⟩
  have := cutL_tok hc hok
  rwa [hraw] at this
theorem piece_at {s : List UInt8} {c : UInt8} (hc : c ≠ 92) (h : errT s 0 = .none) {k : Nat} (hk : k < (cutL c s).length) : ∃ T', (splT c (tokT s))[k]? = some T' ∧ (cutL c s).getD k [] = rawT T' ∧ errT ((cutL c s).getD k []) 0 = .none ∧ tokT ((cutL c s).getD k []) = T' := by
  obtain ⟨h1, h2⟩ := piece_tok hc h
  have hk' : k < (splT c (tokT s)).length := by rw [h1, List.length_map] at hk; exact hk
  refine ⟨(splT c (tokT s))[k], List.getElem?_eq_getElem hk', ?_⟩
  have e : (cutL c s).getD k [] = rawT (splT c (tokT s))[k] := by
    rw [h1, List.getD_eq_getElem?_getD, List.getElem?_map, List.getElem?_eq_getElem hk']
    rfl
  rw [e]
  exact ⟨rfl, h2 _ (List.getElem_mem hk')⟩
theorem take_succ_map {α β : Type} {l : List α} {k : Nat} {a : α} (f : α → β) (h : l[k]? = some a) : (l.map f).take (k + 1) = (l.map f).take k ++ [f a] := by
  obtain ⟨hlt, e⟩ := List.getElem?_eq_some_iff.1 h
  rw [List.take_succ_eq_append_getElem (by simpa using hlt)]
  simp [e]
/-- Nothing, as a list. -/
theorem res_nil {sz : Nat} {f : Nat → AVal} {b : AVal} : ResTo (.ret (.tuple [.raw (.slice none 0 0), b])) [] (.tuple [.list sz 0 f, b]) := by
  rintro C R w e hm ⟨x, rfl, ⟨ws, e2, u, t, e1, hu, h3⟩, h2⟩
  refine ⟨R, hm, x, rfl, ⟨ws, e2, u, t, e1, ⟨?_, ?_⟩, h3⟩, h2⟩
  · have hr : Rel R (.raw (.slice none 0 0)) u := hu
    obtain rfl := rel_raw.1 hr
    exact ⟨none, 0, rfl, Nat.le_refl _, .inl rfl⟩
  · have hr : Rel R (.raw (.slice none 0 0)) u := hu
    obtain rfl := rel_raw.1 hr
    rfl
set_option maxRecDepth 20000
set_option maxHeartbeats 8000000
set_option linter.unusedSimpArgs false
set_option linter.unusedVariables false
attribute [local irreducible] AWp AOps SrcOK OrOk GloAll FnSpec byteAt cutL unS errT tokT lstT lstS
theorem fault_Is {G : Glo} (e p : Int) : FnIs Tryz.prog G 27 [.agg [.int .i64 e, .int .i64 p]] (.bool (eqB e 0)) := by
  have hGL : GloAll G [] := gloAll_nil
  refine fn_x Tryz.func27 Tryz.call27 rfl rfl rfl rfl hGL ?_
  intro C hC
  repeat' (first
    | (conv => whnf); first
      | (apply ch_l; apply sp_i; first | exact rfl | omega | exact ⟨rfl, rfl, by omega⟩ | exact ⟨rfl, by omega⟩ | exact ⟨rfl, by omega, by omega, by omega⟩ | exact ⟨rfl, by simp, by omega, by omega⟩ | exact ⟨⟨_, rfl⟩, by omega⟩ | exact ⟨⟨_, rfl⟩, by omega, by omega⟩ | assumption | decide | (simp only [List.length_drop, List.length_take, List.length_append, List.length_set, List.length_cons, List.length_nil, OrOk] at *; omega) | (simp; omega))
      | (apply sp_i; first | exact rfl | omega | exact ⟨rfl, rfl, by omega⟩ | exact ⟨rfl, by omega⟩ | exact ⟨rfl, by omega, by omega, by omega⟩ | exact ⟨rfl, by simp, by omega, by omega⟩ | exact ⟨⟨_, rfl⟩, by omega⟩ | exact ⟨⟨_, rfl⟩, by omega, by omega⟩ | assumption | decide | (simp only [List.length_drop, List.length_take, List.length_append, List.length_set, List.length_cons, List.length_nil, OrOk] at *; omega) | (simp; omega))
      | (apply sc_true) | (apply sc_false)
      | (first | apply sc_lt | apply sc_nlt | apply sc_eq | apply sc_neq | apply sc_nil | apply sc_nnil | apply sc_seq | apply sc_nseq); all_goals (intro hb; try (first | (exfalso; omega) | exact absurd rfl hb | exact absurd hb (by decide) | exact absurd hb (by assumption) | exact absurd (by assumption) hb | (exfalso; simp only [List.length_cons, List.length_nil, List.length_append] at hb; omega)))
      | (apply sc_not) | (apply sc_or) | (apply sc_i; all_goals intro hb)
      | (first | apply ix_nat | apply ix_int); first | omega | (simp only [List.length_drop, List.length_take, List.length_append, List.length_set, List.length_cons, List.length_nil] at *; omega)
      | (apply bx_i; intro hbd) | (apply gt_i; assumption; exact rfl)
      | (first | apply sd_nat | apply sd_int | apply sl_nat | apply sl_int); first | omega | (simp only [List.length_drop, List.length_take, List.length_append, List.length_set, List.length_cons, List.length_nil] at *; omega)
      | (apply cx_is; first | fail) | (apply cx_do (i := 0) rfl; first | fail)
      | (apply ab_i; intro bl) | (apply as_i; intro va vk vc hva) | (apply av_i; intro v) | (apply ac_i; intro bl cap hcap)
      | (apply bo_l) | (apply ch_r; apply sp_i; first | assumption | decide) | (apply ch_r; apply sp_i; intro i hi; exact ⟨rfl, rfl, rfl⟩) | (apply nx_i; all_goals intro hnx)
      | (apply Ia.hit; assumption) | (apply Ia.miss; assumption)
      | (apply rt_is; exact rfl) | (apply rt_do; exact rfl; (repeat (first | exact List.nil_sublist _ | apply List.Sublist.cons_cons))) | (apply iv; assumption)
      | (apply dw_q mixed hC hGL (by kernel_rfl))
      | (apply cq; assumption; (first | fail); exact rfl))
  all_goals (try conv => whnf)
theorem ref_List {G : Glo} (s : List UInt8) (hl : s.length ≤ 2000000) : FnIs Tryz.prog G 13 [.str s] (.tuple [.list 1 (lstS s).length (strsF (lstS s)), .agg [.int .i64 (errT s 0).e, .int .i64 (errT s 0).p]]) := by
  have hU := ref_Unescape (G := G) s hl
  have hF := fault_Is (G := G) (errT s 0).e (errT s 0).p
  have hgd := ref_Good (G := G)
  have hcut := ref_cut (G := G) s 44 hl
  have hcc := cutL_cnt 44 s
  by_cases he : errT s 0 = .none
  · rw [he] at hU hF ⊢
    rw [lstS_ok he]
    have hUp := fun k (hk : k < (cutL 44 s).length) => ref_Unescape (G := G) ((cutL 44 s).getD k []) (Nat.le_trans (cutL_len 44 s (by rw [List.getD_eq_getElem?_getD, List.getElem?_eq_getElem hk]; exact List.getElem_mem hk)) hl)
    refine fn_seal (fun a => .tuple [a, .agg [.int .i64 (Err.none).e, .int .i64 (Err.none).p]]) (mk_fst _) (strsF (lstT (tokT s))) (strsF_ok _) (cs := strsC (lstT (tokT s))) (eT := none) ?_
    have hGL : GloAll G [] := gloAll_nil
    refine fn_x Tryz.func13 Tryz.call13 rfl rfl rfl rfl hGL ?_
    intro C hC
    repeat' (first
      | (conv => whnf); first
        | (apply ch_l; apply sp_i; first | exact rfl | omega | exact ⟨rfl, by omega⟩ | exact ⟨rfl, by omega, by omega, by omega⟩ | exact ⟨rfl, by simp, by omega, by omega⟩ | exact ⟨⟨_, rfl⟩, by omega⟩ | assumption | (simp; omega))
        | (apply sp_i; first | exact rfl | omega | exact ⟨rfl, rfl, by omega⟩ | exact ⟨rfl, by omega⟩ | exact ⟨rfl, by omega, by omega, by omega⟩ | exact ⟨rfl, by simp, by omega, by omega⟩ | exact ⟨⟨_, rfl⟩, by omega⟩ | assumption | (simp; omega))
        | (apply sc_true) | (apply sc_false)
        | (first | apply sc_lt | apply sc_nlt | apply sc_eq | apply sc_neq | apply sc_nil | apply sc_nnil); all_goals (intro hb; try (first | (exfalso; omega) | exact absurd rfl hb | exact absurd hb (by decide) | exact absurd (by assumption) hb | (exfalso; simp only [List.length_cons, List.length_nil] at hb; omega)))
        | (apply sc_not) | (apply sc_i; all_goals intro hb)
        | (first | apply ix_nat | apply ix_int | apply sd_nat | apply sd_int | apply sl_nat | apply sl_int); first | omega | (simp only [List.length_cons, List.length_nil, List.length_drop, List.length_take] at *; omega)
        | (apply bx_i; intro hbd) | (apply gt_i; assumption; exact rfl)
        | (apply cx_is; first | exact hU | exact hF | exact hcut) | (apply ab_i; intro bl)
        | (apply rt_is; exact rfl) | (apply rt_do; exact rfl; (repeat (first | exact List.nil_sublist _ | apply List.Sublist.cons_cons)))
        | (exact True.intro) | (apply bc_i; intro C hC) | (apply bt_i) | (apply og_n) | (apply og_a; exact rfl))
    all_goals (try conv => whnf)
    rename_i bl0
    refine lp_row 6 1 rfl ?_
    obtain ⟨hp1, _⟩ := piece_tok (c := 44) (by decide) he
    have hn : (lstT (tokT s)).length = (cutL 44 s).length := by rw [hp1]; unfold lstT; simp
    refine lp hC hGL (fun (y : List (List UInt8) × Value) => [(3, .own 0 (.pointer (some ⟨bl0, 0, none⟩))), (6, .own 2 y.2), (21, .list 1 (cutL 44 s).length (strsF (cutL 44 s))), (22, .int .i64 ((cutL 44 s).length : Nat)), (23, .int .i64 (y.1.length : Nat))]) (fun y => [.cells bl0 (some 26) [.int .i64 0, .int .i64 0], .cells bl (some 26) [.int .i64 (Err.none).e, .int .i64 (Err.none).p], .row y.2 none 1 y.1.length (strsC y.1)]) (fun y => y.1.length ≤ (cutL 44 s).length ∧ y.1 = (lstT (tokT s)).take y.1.length) (fun y => (cutL 44 s).length - y.1.length) ([], .slice none 0 0) ?_ (by repeat (first | exact trivial | refine And.intro rfl ?_)) rfl ?_
    · exact ⟨Nat.zero_le _, rfl⟩
    rintro ⟨ps, v⟩ ⟨h1, h2⟩
    have h1 : ps.length ≤ (cutL 44 s).length := h1
    have h2 : ps = (lstT (tokT s)).take ps.length := h2
    by_cases hlt : ps.length < (cutL 44 s).length
    · obtain ⟨T', k1, k2, k3, k4⟩ := piece_at (c := 44) (by decide) he hlt
      have hU1 := hUp ps.length hlt
      rw [k3, unS_ok k3, k4] at hU1
      have hU1 : FnIs Tryz.prog G 11 [strsF (cutL 44 s) ps.length] (.tuple [.str (valT T'), .agg [.int .i64 (Err.none).e, .int .i64 (Err.none).p]]) := hU1
      repeat' (first
        | (conv => whnf); first
          | (apply ch_l; apply sp_i; first | exact rfl | omega | exact ⟨rfl, rfl, by omega⟩ | exact ⟨rfl, by omega⟩ | exact ⟨rfl, by omega, by omega, by omega⟩ | exact ⟨rfl, by simp, by omega, by omega⟩ | exact ⟨⟨_, rfl⟩, by omega⟩ | exact ⟨⟨_, rfl⟩, by omega, by omega⟩ | assumption | decide | (simp only [List.length_drop, List.length_take, List.length_append, List.length_set, List.length_cons, List.length_nil, OrOk] at *; omega) | (simp; omega))
          | (apply sp_i; first | exact rfl | omega | exact ⟨rfl, rfl, by omega⟩ | exact ⟨rfl, by omega⟩ | exact ⟨rfl, by omega, by omega, by omega⟩ | exact ⟨rfl, by simp, by omega, by omega⟩ | exact ⟨⟨_, rfl⟩, by omega⟩ | exact ⟨⟨_, rfl⟩, by omega, by omega⟩ | assumption | decide | (simp only [List.length_drop, List.length_take, List.length_append, List.length_set, List.length_cons, List.length_nil, OrOk] at *; omega) | (simp; omega))
          | (apply sc_true) | (apply sc_false)
          | (first | apply sc_lt | apply sc_nlt | apply sc_eq | apply sc_neq | apply sc_nil | apply sc_nnil | apply sc_seq | apply sc_nseq); all_goals (intro hb; try (first | (exfalso; omega) | exact absurd rfl hb | exact absurd hb (by decide) | exact absurd hb (by assumption) | exact absurd (by assumption) hb | (exfalso; simp only [List.length_cons, List.length_nil, List.length_append] at hb; omega)))
          | (apply sc_not) | (apply sc_or) | (apply sc_i; all_goals intro hb)
          | (first | apply ix_nat | apply ix_int); first | omega | (simp only [List.length_drop, List.length_take, List.length_append, List.length_set, List.length_cons, List.length_nil] at *; omega)
          | (apply bx_i; intro hbd) | (apply gt_i; assumption; exact rfl)
          | (first | apply sd_nat | apply sd_int | apply sl_nat | apply sl_int); first | omega | (simp only [List.length_drop, List.length_take, List.length_append, List.length_set, List.length_cons, List.length_nil] at *; omega)
          | (apply cx_is; first | exact hU1) | (apply cx_do (i := 0) rfl; first | exact hU1)
          | (apply ab_i; intro bl) | (apply as_i; intro va vk vc hva) | (apply av_i; intro v) | (apply ac_i; intro bl cap hcap)
          | (apply bo_l) | (apply ch_r; apply sp_i; first | assumption | decide) | (apply ch_r; apply sp_i; intro i hi; exact ⟨rfl, rfl, rfl⟩) | (apply nx_i; all_goals intro hnx)
          | (apply Ia.hit; assumption) | (apply Ia.miss; assumption)
          | (apply rt_is; exact rfl) | (apply rt_do; exact rfl; (repeat (first | exact List.nil_sublist _ | apply List.Sublist.cons_cons))) | (apply iv; assumption)
          | (apply dw_q mixed hC hGL (by kernel_rfl))
          | (apply cq; assumption; (first | exact hU1); exact rfl))
      all_goals (try conv => whnf)
      refine nxs (ps ++ [valT T'], .slice va vk vc) ?_ ?_ ⟨rfl, rfl, rfl, rfl, ?_, trivial⟩ ?_
      · refine ⟨?_, ?_⟩
        · show (ps ++ [valT T']).length ≤ _
          rw [List.length_append, List.length_singleton]; exact hlt
        · show ps ++ [valT T'] = (lstT (tokT s)).take (ps ++ [valT T']).length
          have e1 : (lstT (tokT s)).take (ps.length + 1) = (lstT (tokT s)).take ps.length ++ [valT T'] := by
            unfold lstT
            exact take_succ_map valT k1
          rw [List.length_append, List.length_singleton, e1, ← h2]
      · show (cutL 44 s).length - (ps ++ [valT T']).length < (cutL 44 s).length - ps.length
        rw [List.length_append, List.length_singleton]; omega
      · show some (AVal.int .i64 (((ps.length : Nat) : Int) + 1)) = some (AVal.int .i64 ((ps ++ [valT T']).length : Nat))
        rw [List.length_append]; rfl
      · dsimp only
        rw [← strsC_snoc, List.length_append]
        exact .cons_cons _ (.cons_cons _ (.cons_cons _ (List.nil_sublist _)))
    · repeat' (first
        | (conv => whnf); first
          | (apply ch_l; apply sp_i; first | exact rfl | omega | exact ⟨rfl, rfl, by omega⟩ | exact ⟨rfl, by omega⟩ | exact ⟨rfl, by omega, by omega, by omega⟩ | exact ⟨rfl, by simp, by omega, by omega⟩ | exact ⟨⟨_, rfl⟩, by omega⟩ | exact ⟨⟨_, rfl⟩, by omega, by omega⟩ | assumption | decide | (simp only [List.length_drop, List.length_take, List.length_append, List.length_set, List.length_cons, List.length_nil, OrOk] at *; omega) | (simp; omega))
          | (apply sp_i; first | exact rfl | omega | exact ⟨rfl, rfl, by omega⟩ | exact ⟨rfl, by omega⟩ | exact ⟨rfl, by omega, by omega, by omega⟩ | exact ⟨rfl, by simp, by omega, by omega⟩ | exact ⟨⟨_, rfl⟩, by omega⟩ | exact ⟨⟨_, rfl⟩, by omega, by omega⟩ | assumption | decide | (simp only [List.length_drop, List.length_take, List.length_append, List.length_set, List.length_cons, List.length_nil, OrOk] at *; omega) | (simp; omega))
          | (apply sc_true) | (apply sc_false)
          | (first | apply sc_lt | apply sc_nlt | apply sc_eq | apply sc_neq | apply sc_nil | apply sc_nnil | apply sc_seq | apply sc_nseq); all_goals (intro hb; try (first | (exfalso; omega) | exact absurd rfl hb | exact absurd hb (by decide) | exact absurd hb (by assumption) | exact absurd (by assumption) hb | (exfalso; simp only [List.length_cons, List.length_nil, List.length_append] at hb; omega)))
          | (apply sc_not) | (apply sc_or) | (apply sc_i; all_goals intro hb)
          | (first | apply ix_nat | apply ix_int); first | omega | (simp only [List.length_drop, List.length_take, List.length_append, List.length_set, List.length_cons, List.length_nil] at *; omega)
          | (apply bx_i; intro hbd) | (apply gt_i; assumption; exact rfl)
          | (first | apply sd_nat | apply sd_int | apply sl_nat | apply sl_int); first | omega | (simp only [List.length_drop, List.length_take, List.length_append, List.length_set, List.length_cons, List.length_nil] at *; omega)
          | (apply cx_is; first | exact hgd) | (apply cx_do (i := 0) rfl; first | exact hgd)
          | (apply ab_i; intro bl) | (apply as_i; intro va vk vc hva) | (apply av_i; intro v) | (apply ac_i; intro bl cap hcap)
          | (apply bo_l) | (apply ch_r; apply sp_i; first | assumption | decide) | (apply ch_r; apply sp_i; intro i hi; exact ⟨rfl, rfl, rfl⟩) | (apply nx_i; all_goals intro hnx)
          | (apply Ia.hit; assumption) | (apply Ia.miss; assumption)
          | (apply rt_is; exact rfl) | (apply rt_do; exact rfl; (repeat (first | exact List.nil_sublist _ | apply List.Sublist.cons_cons))) | (apply iv; assumption)
          | (apply dw_q mixed hC hGL (by kernel_rfl))
          | (apply cq; assumption; (first | exact hgd); exact rfl))
      all_goals (try conv => whnf)
      have h3 : ps = lstT (tokT s) := by rw [h2, List.take_of_length_le (by omega)]
      subst h3
      exact ⟨_, .cons _ (.cons _ (.refl _)), 2, v, rfl, rfl⟩
  · have hne := errT_ne he
    rw [unS_no he] at hU
    rw [lstS_no he]
    refine fn_told (H := []) (Qf := fun r H => r = .ret (.tuple [.raw (.slice none 0 0), .agg [.int .i64 (errT s 0).e, .int .i64 (errT s 0).p]]) ∧ H = []) ?_ (fun r H h => by obtain ⟨rfl, rfl⟩ := h; exact res_nil)
    have hGL : GloAll G [] := gloAll_nil
    refine fn_x Tryz.func13 Tryz.call13 rfl rfl rfl rfl hGL ?_
    intro C hC
    repeat' (first
      | (conv => whnf); first
        | (apply ch_l; apply sp_i; first | exact rfl | omega | exact ⟨rfl, rfl, by omega⟩ | exact ⟨rfl, by omega⟩ | exact ⟨rfl, by omega, by omega, by omega⟩ | exact ⟨rfl, by simp, by omega, by omega⟩ | exact ⟨⟨_, rfl⟩, by omega⟩ | exact ⟨⟨_, rfl⟩, by omega, by omega⟩ | assumption | decide | (simp only [List.length_drop, List.length_take, List.length_append, List.length_set, List.length_cons, List.length_nil, OrOk] at *; omega) | (simp; omega))
        | (apply sp_i; first | exact rfl | omega | exact ⟨rfl, rfl, by omega⟩ | exact ⟨rfl, by omega⟩ | exact ⟨rfl, by omega, by omega, by omega⟩ | exact ⟨rfl, by simp, by omega, by omega⟩ | exact ⟨⟨_, rfl⟩, by omega⟩ | exact ⟨⟨_, rfl⟩, by omega, by omega⟩ | assumption | decide | (simp only [List.length_drop, List.length_take, List.length_append, List.length_set, List.length_cons, List.length_nil, OrOk] at *; omega) | (simp; omega))
        | (apply sc_true) | (apply sc_false)
        | (first | apply sc_lt | apply sc_nlt | apply sc_eq | apply sc_neq | apply sc_nil | apply sc_nnil | apply sc_seq | apply sc_nseq); all_goals (intro hb; try (first | (exfalso; omega) | exact absurd rfl hb | exact absurd hb (by decide) | exact absurd hb (by assumption) | exact absurd (by assumption) hb | (exfalso; simp only [List.length_cons, List.length_nil, List.length_append] at hb; omega)))
        | (apply sc_not) | (apply sc_or) | (apply sc_i; all_goals intro hb)
        | (first | apply ix_nat | apply ix_int); first | omega | (simp only [List.length_drop, List.length_take, List.length_append, List.length_set, List.length_cons, List.length_nil] at *; omega)
        | (apply bx_i; intro hbd) | (apply gt_i; assumption; exact rfl)
        | (first | apply sd_nat | apply sd_int | apply sl_nat | apply sl_int); first | omega | (simp only [List.length_drop, List.length_take, List.length_append, List.length_set, List.length_cons, List.length_nil] at *; omega)
        | (apply cx_is; first | exact hU | exact hF) | (apply cx_do (i := 0) rfl; first | exact hU | exact hF)
        | (apply ab_i; intro bl) | (apply as_i; intro va vk vc hva) | (apply av_i; intro v) | (apply ac_i; intro bl cap hcap)
        | (apply bo_l) | (apply ch_r; apply sp_i; first | assumption | decide) | (apply ch_r; apply sp_i; intro i hi; exact ⟨rfl, rfl, rfl⟩) | (apply nx_i; all_goals intro hnx)
        | (apply Ia.hit; assumption) | (apply Ia.miss; assumption)
        | (apply rt_is; exact rfl) | (apply rt_do; exact rfl; (repeat (first | exact List.nil_sublist _ | apply List.Sublist.cons_cons))) | (apply iv; assumption)
        | (exact True.intro) | (apply bc_i; intro C hC) | (apply bt_i) | (apply og_n) | (apply og_a; exact rfl))
    all_goals (try conv => whnf)
    rename_i bl0
    refine dw_p mixed hC hGL false (fun (_ : Unit) => [(2, .raw (.slice none 0 0)), (3, .own 0 (.pointer (some ⟨bl0, 0, none⟩)))]) (fun _ => [.cells bl0 (some 26) [.int .i64 (errT s 0).e, .int .i64 (errT s 0).p], .cells bl (some 26) [.int .i64 (errT s 0).e, .int .i64 (errT s 0).p]]) (.take 1 (.br 0 (.br 2 (.done) (.nil)) (.nil))) (by kernel_rfl) ?_ ?_
    · repeat' (first
        | (conv => whnf); first
          | (apply ch_l; apply sp_i; first | exact rfl | omega | exact ⟨rfl, rfl, by omega⟩ | exact ⟨rfl, by omega⟩ | exact ⟨rfl, by omega, by omega, by omega⟩ | exact ⟨rfl, by simp, by omega, by omega⟩ | exact ⟨⟨_, rfl⟩, by omega⟩ | exact ⟨⟨_, rfl⟩, by omega, by omega⟩ | assumption | decide | (simp only [List.length_drop, List.length_take, List.length_append, List.length_set, List.length_cons, List.length_nil, OrOk] at *; omega) | (simp; omega))
          | (apply sp_i; first | exact rfl | omega | exact ⟨rfl, rfl, by omega⟩ | exact ⟨rfl, by omega⟩ | exact ⟨rfl, by omega, by omega, by omega⟩ | exact ⟨rfl, by simp, by omega, by omega⟩ | exact ⟨⟨_, rfl⟩, by omega⟩ | exact ⟨⟨_, rfl⟩, by omega, by omega⟩ | assumption | decide | (simp only [List.length_drop, List.length_take, List.length_append, List.length_set, List.length_cons, List.length_nil, OrOk] at *; omega) | (simp; omega))
          | (apply sc_true) | (apply sc_false)
          | (first | apply sc_lt | apply sc_nlt | apply sc_eq | apply sc_neq | apply sc_nil | apply sc_nnil | apply sc_seq | apply sc_nseq); all_goals (intro hb; try (first | (exfalso; omega) | exact absurd rfl hb | exact absurd hb (by decide) | exact absurd hb (by assumption) | exact absurd (by assumption) hb | (exfalso; simp only [List.length_cons, List.length_nil, List.length_append] at hb; omega)))
          | (apply sc_not) | (apply sc_or) | (apply sc_i; all_goals intro hb)
          | (first | apply ix_nat | apply ix_int); first | omega | (simp only [List.length_drop, List.length_take, List.length_append, List.length_set, List.length_cons, List.length_nil] at *; omega)
          | (apply bx_i; intro hbd) | (apply gt_i; assumption; exact rfl)
          | (first | apply sd_nat | apply sd_int | apply sl_nat | apply sl_int); first | omega | (simp only [List.length_drop, List.length_take, List.length_append, List.length_set, List.length_cons, List.length_nil] at *; omega)
          | (apply cx_is; first | fail) | (apply cx_do (i := 0) rfl; first | fail)
          | (apply ab_i; intro bl) | (apply as_i; intro va vk vc hva) | (apply av_i; intro v) | (apply ac_i; intro bl cap hcap)
          | (apply bo_l) | (apply ch_r; apply sp_i; first | assumption | decide) | (apply ch_r; apply sp_i; intro i hi; exact ⟨rfl, rfl, rfl⟩) | (apply nx_i; all_goals intro hnx)
          | (apply Ia.hit; assumption) | (apply Ia.miss; assumption)
          | (apply rt_is; exact rfl) | (apply rt_do; exact rfl; (repeat (first | exact List.nil_sublist _ | apply List.Sublist.cons_cons))) | (apply iv; assumption)
          | (exact True.intro) | (apply bc_i; intro C hC) | (apply bt_i) | (apply og_n) | (apply og_a; exact rfl))
      all_goals (try conv => whnf)
      all_goals exact ⟨(), ⟨rfl, rfl, trivial⟩, rfl⟩
    intro _
    repeat' (first
      | (conv => whnf); first
        | (apply ch_l; apply sp_i; first | exact rfl | omega | exact ⟨rfl, rfl, by omega⟩ | exact ⟨rfl, by omega⟩ | exact ⟨rfl, by omega, by omega, by omega⟩ | exact ⟨rfl, by simp, by omega, by omega⟩ | exact ⟨⟨_, rfl⟩, by omega⟩ | exact ⟨⟨_, rfl⟩, by omega, by omega⟩ | assumption | decide | (simp only [List.length_drop, List.length_take, List.length_append, List.length_set, List.length_cons, List.length_nil, OrOk] at *; omega) | (simp; omega))
        | (apply sp_i; first | exact rfl | omega | exact ⟨rfl, rfl, by omega⟩ | exact ⟨rfl, by omega⟩ | exact ⟨rfl, by omega, by omega, by omega⟩ | exact ⟨rfl, by simp, by omega, by omega⟩ | exact ⟨⟨_, rfl⟩, by omega⟩ | exact ⟨⟨_, rfl⟩, by omega, by omega⟩ | assumption | decide | (simp only [List.length_drop, List.length_take, List.length_append, List.length_set, List.length_cons, List.length_nil, OrOk] at *; omega) | (simp; omega))
        | (apply sc_true) | (apply sc_false)
        | (first | apply sc_lt | apply sc_nlt | apply sc_eq | apply sc_neq | apply sc_nil | apply sc_nnil | apply sc_seq | apply sc_nseq); all_goals (intro hb; try (first | (exfalso; omega) | exact absurd rfl hb | exact absurd hb (by decide) | exact absurd hb (by assumption) | exact absurd (by assumption) hb | (exfalso; simp only [List.length_cons, List.length_nil, List.length_append] at hb; omega)))
        | (apply sc_not) | (apply sc_or) | (apply sc_i; all_goals intro hb)
        | (first | apply ix_nat | apply ix_int); first | omega | (simp only [List.length_drop, List.length_take, List.length_append, List.length_set, List.length_cons, List.length_nil] at *; omega)
        | (apply bx_i; intro hbd) | (apply gt_i; assumption; exact rfl)
        | (first | apply sd_nat | apply sd_int | apply sl_nat | apply sl_int); first | omega | (simp only [List.length_drop, List.length_take, List.length_append, List.length_set, List.length_cons, List.length_nil] at *; omega)
        | (apply cx_is; first | fail) | (apply cx_do (i := 0) rfl; first | fail)
        | (apply ab_i; intro bl) | (apply as_i; intro va vk vc hva) | (apply av_i; intro v) | (apply ac_i; intro bl cap hcap)
        | (apply bo_l) | (apply ch_r; apply sp_i; first | assumption | decide) | (apply ch_r; apply sp_i; intro i hi; exact ⟨rfl, rfl, rfl⟩) | (apply nx_i; all_goals intro hnx)
        | (apply Ia.hit; assumption) | (apply Ia.miss; assumption)
        | (apply rt_is; exact rfl) | (apply rt_do; exact rfl; (repeat (first | exact List.nil_sublist _ | apply List.Sublist.cons_cons))) | (apply iv; assumption)
        | (exact True.intro) | (apply bc_i; intro C hC) | (apply bt_i) | (apply og_n) | (apply og_a; exact rfl))
    all_goals (try conv => whnf)
end Go.Proofs.YtlmihggafbmkaaaGreatDoor
namespace Go.Proofs.YtlmihggafbmkaaaGreatDoor
open Go Go.RowKit
def lstA (l : List (List UInt8)) : AVal := .list 1 l.length (strsF l)
def prtC (L : List (List (List UInt8))) : List AVal := L.map lstA
def prtF (L : List (List (List UInt8))) (i : Nat) : AVal := lstA (L.getD i [])
theorem prtF_ok (L : List (List (List UInt8))) : ∀ i, i < L.length → (prtF L i).cells = ((prtC L).drop (i * 1)).take 1 ∧ (prtF L i).plain = true := by
  intro i hi
  refine ⟨?_, rfl⟩
  rw [Nat.mul_one, List.drop_eq_getElem_cons (by simpa [prtC] using hi)]
  simp [prtF, prtC, AVal.cells, List.getD, List.getElem?_eq_getElem hi, lstA]
theorem prtC_snoc (L : List (List (List UInt8))) (l : List (List UInt8)) : prtC L ++ [lstA l] = prtC (L ++ [l]) := by simp [prtC]
/-- Cut at ; and then at , . -/
def prtT (T : List Tk) : List (List (List UInt8)) := (splT 59 T).map lstT
def prtS (s : List UInt8) : List (List (List UInt8)) := match errT s 0 with
  | .none => prtT (tokT s)
  | _ => []
theorem prtS_ok {s : List UInt8} (h : errT s 0 = .none) : prtS s = prtT (tokT s) := by unfold prtS; rw [h]
theorem prtS_no {s : List UInt8} (h : errT s 0 ≠ .none) : prtS s = [] := by
  unfold prtS
  split
  · rename_i h2; exact absurd h2 h
  · rfl
set_option maxRecDepth 20000
set_option maxHeartbeats 8000000
set_option linter.unusedSimpArgs false
set_option linter.unusedVariables false
attribute [local irreducible] AWp AOps SrcOK OrOk GloAll FnSpec byteAt cutL unS errT tokT lstT lstS prtT prtS
theorem ref_Parts {G : Glo} (s : List UInt8) (hl : s.length ≤ 2000000) : FnIs Tryz.prog G 15 [.str s] (.tuple [.list 1 (prtS s).length (prtF (prtS s)), .agg [.int .i64 (errT s 0).e, .int .i64 (errT s 0).p]]) := by
  have hU := ref_Unescape (G := G) s hl
  have hF := fault_Is (G := G) (errT s 0).e (errT s 0).p
  have hgd := ref_Good (G := G)
  have hcut := ref_cut (G := G) s 59 hl
  have hcc := cutL_cnt 59 s
  by_cases he : errT s 0 = .none
  · rw [he] at hU hF ⊢
    rw [prtS_ok he]
    have hUp := fun k (hk : k < (cutL 59 s).length) => ref_List (G := G) ((cutL 59 s).getD k []) (Nat.le_trans (cutL_len 59 s (by rw [List.getD_eq_getElem?_getD, List.getElem?_eq_getElem hk]; exact List.getElem_mem hk)) hl)
    refine fn_seal (fun a => .tuple [a, .agg [.int .i64 (Err.none).e, .int .i64 (Err.none).p]]) (mk_fst _) (prtF (prtT (tokT s))) (prtF_ok _) (cs := prtC (prtT (tokT s))) (eT := none) ?_
    have hGL : GloAll G [] := gloAll_nil
    refine fn_x Tryz.func15 Tryz.call15 rfl rfl rfl rfl hGL ?_
    intro C hC
    repeat' (first
      | (conv => whnf); first
        | (apply ch_l; apply sp_i; first | exact rfl | omega | exact ⟨rfl, by omega⟩ | exact ⟨rfl, by omega, by omega, by omega⟩ | exact ⟨rfl, by simp, by omega, by omega⟩ | exact ⟨⟨_, rfl⟩, by omega⟩ | assumption | (simp; omega))
        | (apply sp_i; first | exact rfl | omega | exact ⟨rfl, rfl, by omega⟩ | exact ⟨rfl, by omega⟩ | exact ⟨rfl, by omega, by omega, by omega⟩ | exact ⟨rfl, by simp, by omega, by omega⟩ | exact ⟨⟨_, rfl⟩, by omega⟩ | assumption | (simp; omega))
        | (apply sc_true) | (apply sc_false)
        | (first | apply sc_lt | apply sc_nlt | apply sc_eq | apply sc_neq | apply sc_nil | apply sc_nnil); all_goals (intro hb; try (first | (exfalso; omega) | exact absurd rfl hb | exact absurd hb (by decide) | exact absurd (by assumption) hb | (exfalso; simp only [List.length_cons, List.length_nil] at hb; omega)))
        | (apply sc_not) | (apply sc_i; all_goals intro hb)
        | (first | apply ix_nat | apply ix_int | apply sd_nat | apply sd_int | apply sl_nat | apply sl_int); first | omega | (simp only [List.length_cons, List.length_nil, List.length_drop, List.length_take] at *; omega)
        | (apply bx_i; intro hbd) | (apply gt_i; assumption; exact rfl)
        | (apply cx_is; first | exact hU | exact hF | exact hcut) | (apply ab_i; intro bl)
        | (apply rt_is; exact rfl) | (apply rt_do; exact rfl; (repeat (first | exact List.nil_sublist _ | apply List.Sublist.cons_cons)))
        | (exact True.intro) | (apply bc_i; intro C hC) | (apply bt_i) | (apply og_n) | (apply og_a; exact rfl))
    all_goals (try conv => whnf)
    rename_i bl0
    refine lp_row 6 1 rfl ?_
    obtain ⟨hp1, _⟩ := piece_tok (c := 59) (by decide) he
    have hn : (prtT (tokT s)).length = (cutL 59 s).length := by rw [hp1]; unfold prtT; simp
    refine lp hC hGL (fun (y : List (List (List UInt8)) × Value) => [(3, .own 0 (.pointer (some ⟨bl0, 0, none⟩))), (6, .own 2 y.2), (21, .list 1 (cutL 59 s).length (strsF (cutL 59 s))), (22, .int .i64 ((cutL 59 s).length : Nat)), (23, .int .i64 (y.1.length : Nat))]) (fun y => [.cells bl0 (some 26) [.int .i64 0, .int .i64 0], .cells bl (some 26) [.int .i64 (Err.none).e, .int .i64 (Err.none).p], .row y.2 none 1 y.1.length (prtC y.1)]) (fun y => y.1.length ≤ (cutL 59 s).length ∧ y.1 = (prtT (tokT s)).take y.1.length) (fun y => (cutL 59 s).length - y.1.length) ([], .slice none 0 0) ?_ (by repeat (first | exact trivial | refine And.intro rfl ?_)) rfl ?_
    · exact ⟨Nat.zero_le _, rfl⟩
    rintro ⟨ps, v⟩ ⟨h1, h2⟩
    have h1 : ps.length ≤ (cutL 59 s).length := h1
    have h2 : ps = (prtT (tokT s)).take ps.length := h2
    by_cases hlt : ps.length < (cutL 59 s).length
    · obtain ⟨T', k1, k2, k3, k4⟩ := piece_at (c := 59) (by decide) he hlt
      have hU1 := hUp ps.length hlt
      rw [k3, lstS_ok k3, k4] at hU1
      have hU1 : FnIs Tryz.prog G 13 [strsF (cutL 59 s) ps.length] (.tuple [.list 1 (lstT T').length (strsF (lstT T')), .agg [.int .i64 (Err.none).e, .int .i64 (Err.none).p]]) := hU1
      repeat' (first
        | (conv => whnf); first
          | (apply ch_l; apply sp_i; first | exact rfl | omega | exact ⟨rfl, rfl, by omega⟩ | exact ⟨rfl, by omega⟩ | exact ⟨rfl, by omega, by omega, by omega⟩ | exact ⟨rfl, by simp, by omega, by omega⟩ | exact ⟨⟨_, rfl⟩, by omega⟩ | exact ⟨⟨_, rfl⟩, by omega, by omega⟩ | assumption | decide | (simp only [List.length_drop, List.length_take, List.length_append, List.length_set, List.length_cons, List.length_nil, OrOk] at *; omega) | (simp; omega))
          | (apply sp_i; first | exact rfl | omega | exact ⟨rfl, rfl, by omega⟩ | exact ⟨rfl, by omega⟩ | exact ⟨rfl, by omega, by omega, by omega⟩ | exact ⟨rfl, by simp, by omega, by omega⟩ | exact ⟨⟨_, rfl⟩, by omega⟩ | exact ⟨⟨_, rfl⟩, by omega, by omega⟩ | assumption | decide | (simp only [List.length_drop, List.length_take, List.length_append, List.length_set, List.length_cons, List.length_nil, OrOk] at *; omega) | (simp; omega))
          | (apply sc_true) | (apply sc_false)
          | (first | apply sc_lt | apply sc_nlt | apply sc_eq | apply sc_neq | apply sc_nil | apply sc_nnil | apply sc_seq | apply sc_nseq); all_goals (intro hb; try (first | (exfalso; omega) | exact absurd rfl hb | exact absurd hb (by decide) | exact absurd hb (by assumption) | exact absurd (by assumption) hb | (exfalso; simp only [List.length_cons, List.length_nil, List.length_append] at hb; omega)))
          | (apply sc_not) | (apply sc_or) | (apply sc_i; all_goals intro hb)
          | (first | apply ix_nat | apply ix_int); first | omega | (simp only [List.length_drop, List.length_take, List.length_append, List.length_set, List.length_cons, List.length_nil] at *; omega)
          | (apply bx_i; intro hbd) | (apply gt_i; assumption; exact rfl)
          | (first | apply sd_nat | apply sd_int | apply sl_nat | apply sl_int); first | omega | (simp only [List.length_drop, List.length_take, List.length_append, List.length_set, List.length_cons, List.length_nil] at *; omega)
          | (apply cx_is; first | exact hU1) | (apply cx_do (i := 0) rfl; first | exact hU1)
          | (apply ab_i; intro bl) | (apply as_i; intro va vk vc hva) | (apply av_i; intro v) | (apply ac_i; intro bl cap hcap)
          | (apply bo_l) | (apply ch_r; apply sp_i; first | assumption | decide) | (apply ch_r; apply sp_i; intro i hi; exact ⟨rfl, rfl, rfl⟩) | (apply nx_i; all_goals intro hnx)
          | (apply Ia.hit; assumption) | (apply Ia.miss; assumption)
          | (apply rt_is; exact rfl) | (apply rt_do; exact rfl; (repeat (first | exact List.nil_sublist _ | apply List.Sublist.cons_cons))) | (apply iv; assumption)
          | (apply dw_q mixed hC hGL (by kernel_rfl))
          | (apply cq; assumption; (first | exact hU1); exact rfl))
      all_goals (try conv => whnf)
      refine nxs (ps ++ [lstT T'], .slice va vk vc) ?_ ?_ ⟨rfl, rfl, rfl, rfl, ?_, trivial⟩ ?_
      · refine ⟨?_, ?_⟩
        · show (ps ++ [lstT T']).length ≤ _
          rw [List.length_append, List.length_singleton]; exact hlt
        · show ps ++ [lstT T'] = (prtT (tokT s)).take (ps ++ [lstT T']).length
          have e1 : (prtT (tokT s)).take (ps.length + 1) = (prtT (tokT s)).take ps.length ++ [lstT T'] := by
            unfold prtT
            exact take_succ_map lstT k1
          rw [List.length_append, List.length_singleton, e1, ← h2]
      · show (cutL 59 s).length - (ps ++ [lstT T']).length < (cutL 59 s).length - ps.length
        rw [List.length_append, List.length_singleton]; omega
      · show some (AVal.int .i64 (((ps.length : Nat) : Int) + 1)) = some (AVal.int .i64 ((ps ++ [lstT T']).length : Nat))
        rw [List.length_append]; rfl
      · dsimp only
        rw [← prtC_snoc, List.length_append]
        exact .cons_cons _ (.cons_cons _ (.cons_cons _ (List.nil_sublist _)))
    · repeat' (first
        | (conv => whnf); first
          | (apply ch_l; apply sp_i; first | exact rfl | omega | exact ⟨rfl, rfl, by omega⟩ | exact ⟨rfl, by omega⟩ | exact ⟨rfl, by omega, by omega, by omega⟩ | exact ⟨rfl, by simp, by omega, by omega⟩ | exact ⟨⟨_, rfl⟩, by omega⟩ | exact ⟨⟨_, rfl⟩, by omega, by omega⟩ | assumption | decide | (simp only [List.length_drop, List.length_take, List.length_append, List.length_set, List.length_cons, List.length_nil, OrOk] at *; omega) | (simp; omega))
          | (apply sp_i; first | exact rfl | omega | exact ⟨rfl, rfl, by omega⟩ | exact ⟨rfl, by omega⟩ | exact ⟨rfl, by omega, by omega, by omega⟩ | exact ⟨rfl, by simp, by omega, by omega⟩ | exact ⟨⟨_, rfl⟩, by omega⟩ | exact ⟨⟨_, rfl⟩, by omega, by omega⟩ | assumption | decide | (simp only [List.length_drop, List.length_take, List.length_append, List.length_set, List.length_cons, List.length_nil, OrOk] at *; omega) | (simp; omega))
          | (apply sc_true) | (apply sc_false)
          | (first | apply sc_lt | apply sc_nlt | apply sc_eq | apply sc_neq | apply sc_nil | apply sc_nnil | apply sc_seq | apply sc_nseq); all_goals (intro hb; try (first | (exfalso; omega) | exact absurd rfl hb | exact absurd hb (by decide) | exact absurd hb (by assumption) | exact absurd (by assumption) hb | (exfalso; simp only [List.length_cons, List.length_nil, List.length_append] at hb; omega)))
          | (apply sc_not) | (apply sc_or) | (apply sc_i; all_goals intro hb)
          | (first | apply ix_nat | apply ix_int); first | omega | (simp only [List.length_drop, List.length_take, List.length_append, List.length_set, List.length_cons, List.length_nil] at *; omega)
          | (apply bx_i; intro hbd) | (apply gt_i; assumption; exact rfl)
          | (first | apply sd_nat | apply sd_int | apply sl_nat | apply sl_int); first | omega | (simp only [List.length_drop, List.length_take, List.length_append, List.length_set, List.length_cons, List.length_nil] at *; omega)
          | (apply cx_is; first | exact hgd) | (apply cx_do (i := 0) rfl; first | exact hgd)
          | (apply ab_i; intro bl) | (apply as_i; intro va vk vc hva) | (apply av_i; intro v) | (apply ac_i; intro bl cap hcap)
          | (apply bo_l) | (apply ch_r; apply sp_i; first | assumption | decide) | (apply ch_r; apply sp_i; intro i hi; exact ⟨rfl, rfl, rfl⟩) | (apply nx_i; all_goals intro hnx)
          | (apply Ia.hit; assumption) | (apply Ia.miss; assumption)
          | (apply rt_is; exact rfl) | (apply rt_do; exact rfl; (repeat (first | exact List.nil_sublist _ | apply List.Sublist.cons_cons))) | (apply iv; assumption)
          | (apply dw_q mixed hC hGL (by kernel_rfl))
          | (apply cq; assumption; (first | exact hgd); exact rfl))
      all_goals (try conv => whnf)
      have h3 : ps = prtT (tokT s) := by rw [h2, List.take_of_length_le (by omega)]
      subst h3
      exact ⟨_, .cons _ (.cons _ (.refl _)), 2, v, rfl, rfl⟩
  · have hne := errT_ne he
    rw [unS_no he] at hU
    rw [prtS_no he]
    refine fn_told (H := []) (Qf := fun r H => r = .ret (.tuple [.raw (.slice none 0 0), .agg [.int .i64 (errT s 0).e, .int .i64 (errT s 0).p]]) ∧ H = []) ?_ (fun r H h => by obtain ⟨rfl, rfl⟩ := h; exact res_nil)
    have hGL : GloAll G [] := gloAll_nil
    refine fn_x Tryz.func15 Tryz.call15 rfl rfl rfl rfl hGL ?_
    intro C hC
    repeat' (first
      | (conv => whnf); first
        | (apply ch_l; apply sp_i; first | exact rfl | omega | exact ⟨rfl, rfl, by omega⟩ | exact ⟨rfl, by omega⟩ | exact ⟨rfl, by omega, by omega, by omega⟩ | exact ⟨rfl, by simp, by omega, by omega⟩ | exact ⟨⟨_, rfl⟩, by omega⟩ | exact ⟨⟨_, rfl⟩, by omega, by omega⟩ | assumption | decide | (simp only [List.length_drop, List.length_take, List.length_append, List.length_set, List.length_cons, List.length_nil, OrOk] at *; omega) | (simp; omega))
        | (apply sp_i; first | exact rfl | omega | exact ⟨rfl, rfl, by omega⟩ | exact ⟨rfl, by omega⟩ | exact ⟨rfl, by omega, by omega, by omega⟩ | exact ⟨rfl, by simp, by omega, by omega⟩ | exact ⟨⟨_, rfl⟩, by omega⟩ | exact ⟨⟨_, rfl⟩, by omega, by omega⟩ | assumption | decide | (simp only [List.length_drop, List.length_take, List.length_append, List.length_set, List.length_cons, List.length_nil, OrOk] at *; omega) | (simp; omega))
        | (apply sc_true) | (apply sc_false)
        | (first | apply sc_lt | apply sc_nlt | apply sc_eq | apply sc_neq | apply sc_nil | apply sc_nnil | apply sc_seq | apply sc_nseq); all_goals (intro hb; try (first | (exfalso; omega) | exact absurd rfl hb | exact absurd hb (by decide) | exact absurd hb (by assumption) | exact absurd (by assumption) hb | (exfalso; simp only [List.length_cons, List.length_nil, List.length_append] at hb; omega)))
        | (apply sc_not) | (apply sc_or) | (apply sc_i; all_goals intro hb)
        | (first | apply ix_nat | apply ix_int); first | omega | (simp only [List.length_drop, List.length_take, List.length_append, List.length_set, List.length_cons, List.length_nil] at *; omega)
        | (apply bx_i; intro hbd) | (apply gt_i; assumption; exact rfl)
        | (first | apply sd_nat | apply sd_int | apply sl_nat | apply sl_int); first | omega | (simp only [List.length_drop, List.length_take, List.length_append, List.length_set, List.length_cons, List.length_nil] at *; omega)
        | (apply cx_is; first | exact hU | exact hF) | (apply cx_do (i := 0) rfl; first | exact hU | exact hF)
        | (apply ab_i; intro bl) | (apply as_i; intro va vk vc hva) | (apply av_i; intro v) | (apply ac_i; intro bl cap hcap)
        | (apply bo_l) | (apply ch_r; apply sp_i; first | assumption | decide) | (apply ch_r; apply sp_i; intro i hi; exact ⟨rfl, rfl, rfl⟩) | (apply nx_i; all_goals intro hnx)
        | (apply Ia.hit; assumption) | (apply Ia.miss; assumption)
        | (apply rt_is; exact rfl) | (apply rt_do; exact rfl; (repeat (first | exact List.nil_sublist _ | apply List.Sublist.cons_cons))) | (apply iv; assumption)
        | (exact True.intro) | (apply bc_i; intro C hC) | (apply bt_i) | (apply og_n) | (apply og_a; exact rfl))
    all_goals (try conv => whnf)
    rename_i bl0
    refine dw_p mixed hC hGL false (fun (_ : Unit) => [(2, .raw (.slice none 0 0)), (3, .own 0 (.pointer (some ⟨bl0, 0, none⟩)))]) (fun _ => [.cells bl0 (some 26) [.int .i64 (errT s 0).e, .int .i64 (errT s 0).p], .cells bl (some 26) [.int .i64 (errT s 0).e, .int .i64 (errT s 0).p]]) (.take 1 (.br 0 (.br 2 (.done) (.nil)) (.nil))) (by kernel_rfl) ?_ ?_
    · repeat' (first
        | (conv => whnf); first
          | (apply ch_l; apply sp_i; first | exact rfl | omega | exact ⟨rfl, rfl, by omega⟩ | exact ⟨rfl, by omega⟩ | exact ⟨rfl, by omega, by omega, by omega⟩ | exact ⟨rfl, by simp, by omega, by omega⟩ | exact ⟨⟨_, rfl⟩, by omega⟩ | exact ⟨⟨_, rfl⟩, by omega, by omega⟩ | assumption | decide | (simp only [List.length_drop, List.length_take, List.length_append, List.length_set, List.length_cons, List.length_nil, OrOk] at *; omega) | (simp; omega))
          | (apply sp_i; first | exact rfl | omega | exact ⟨rfl, rfl, by omega⟩ | exact ⟨rfl, by omega⟩ | exact ⟨rfl, by omega, by omega, by omega⟩ | exact ⟨rfl, by simp, by omega, by omega⟩ | exact ⟨⟨_, rfl⟩, by omega⟩ | exact ⟨⟨_, rfl⟩, by omega, by omega⟩ | assumption | decide | (simp only [List.length_drop, List.length_take, List.length_append, List.length_set, List.length_cons, List.length_nil, OrOk] at *; omega) | (simp; omega))
          | (apply sc_true) | (apply sc_false)
          | (first | apply sc_lt | apply sc_nlt | apply sc_eq | apply sc_neq | apply sc_nil | apply sc_nnil | apply sc_seq | apply sc_nseq); all_goals (intro hb; try (first | (exfalso; omega) | exact absurd rfl hb | exact absurd hb (by decide) | exact absurd hb (by assumption) | exact absurd (by assumption) hb | (exfalso; simp only [List.length_cons, List.length_nil, List.length_append] at hb; omega)))
          | (apply sc_not) | (apply sc_or) | (apply sc_i; all_goals intro hb)
          | (first | apply ix_nat | apply ix_int); first | omega | (simp only [List.length_drop, List.length_take, List.length_append, List.length_set, List.length_cons, List.length_nil] at *; omega)
          | (apply bx_i; intro hbd) | (apply gt_i; assumption; exact rfl)
          | (first | apply sd_nat | apply sd_int | apply sl_nat | apply sl_int); first | omega | (simp only [List.length_drop, List.length_take, List.length_append, List.length_set, List.length_cons, List.length_nil] at *; omega)
          | (apply cx_is; first | fail) | (apply cx_do (i := 0) rfl; first | fail)
          | (apply ab_i; intro bl) | (apply as_i; intro va vk vc hva) | (apply av_i; intro v) | (apply ac_i; intro bl cap hcap)
          | (apply bo_l) | (apply ch_r; apply sp_i; first | assumption | decide) | (apply ch_r; apply sp_i; intro i hi; exact ⟨rfl, rfl, rfl⟩) | (apply nx_i; all_goals intro hnx)
          | (apply Ia.hit; assumption) | (apply Ia.miss; assumption)
          | (apply rt_is; exact rfl) | (apply rt_do; exact rfl; (repeat (first | exact List.nil_sublist _ | apply List.Sublist.cons_cons))) | (apply iv; assumption)
          | (exact True.intro) | (apply bc_i; intro C hC) | (apply bt_i) | (apply og_n) | (apply og_a; exact rfl))
      all_goals (try conv => whnf)
      all_goals exact ⟨(), ⟨rfl, rfl, trivial⟩, rfl⟩
    intro _
    repeat' (first
      | (conv => whnf); first
        | (apply ch_l; apply sp_i; first | exact rfl | omega | exact ⟨rfl, rfl, by omega⟩ | exact ⟨rfl, by omega⟩ | exact ⟨rfl, by omega, by omega, by omega⟩ | exact ⟨rfl, by simp, by omega, by omega⟩ | exact ⟨⟨_, rfl⟩, by omega⟩ | exact ⟨⟨_, rfl⟩, by omega, by omega⟩ | assumption | decide | (simp only [List.length_drop, List.length_take, List.length_append, List.length_set, List.length_cons, List.length_nil, OrOk] at *; omega) | (simp; omega))
        | (apply sp_i; first | exact rfl | omega | exact ⟨rfl, rfl, by omega⟩ | exact ⟨rfl, by omega⟩ | exact ⟨rfl, by omega, by omega, by omega⟩ | exact ⟨rfl, by simp, by omega, by omega⟩ | exact ⟨⟨_, rfl⟩, by omega⟩ | exact ⟨⟨_, rfl⟩, by omega, by omega⟩ | assumption | decide | (simp only [List.length_drop, List.length_take, List.length_append, List.length_set, List.length_cons, List.length_nil, OrOk] at *; omega) | (simp; omega))
        | (apply sc_true) | (apply sc_false)
        | (first | apply sc_lt | apply sc_nlt | apply sc_eq | apply sc_neq | apply sc_nil | apply sc_nnil | apply sc_seq | apply sc_nseq); all_goals (intro hb; try (first | (exfalso; omega) | exact absurd rfl hb | exact absurd hb (by decide) | exact absurd hb (by assumption) | exact absurd (by assumption) hb | (exfalso; simp only [List.length_cons, List.length_nil, List.length_append] at hb; omega)))
        | (apply sc_not) | (apply sc_or) | (apply sc_i; all_goals intro hb)
        | (first | apply ix_nat | apply ix_int); first | omega | (simp only [List.length_drop, List.length_take, List.length_append, List.length_set, List.length_cons, List.length_nil] at *; omega)
        | (apply bx_i; intro hbd) | (apply gt_i; assumption; exact rfl)
        | (first | apply sd_nat | apply sd_int | apply sl_nat | apply sl_int); first | omega | (simp only [List.length_drop, List.length_take, List.length_append, List.length_set, List.length_cons, List.length_nil] at *; omega)
        | (apply cx_is; first | fail) | (apply cx_do (i := 0) rfl; first | fail)
        | (apply ab_i; intro bl) | (apply as_i; intro va vk vc hva) | (apply av_i; intro v) | (apply ac_i; intro bl cap hcap)
        | (apply bo_l) | (apply ch_r; apply sp_i; first | assumption | decide) | (apply ch_r; apply sp_i; intro i hi; exact ⟨rfl, rfl, rfl⟩) | (apply nx_i; all_goals intro hnx)
        | (apply Ia.hit; assumption) | (apply Ia.miss; assumption)
        | (apply rt_is; exact rfl) | (apply rt_do; exact rfl; (repeat (first | exact List.nil_sublist _ | apply List.Sublist.cons_cons))) | (apply iv; assumption)
        | (exact True.intro) | (apply bc_i; intro C hC) | (apply bt_i) | (apply og_n) | (apply og_a; exact rfl))
    all_goals (try conv => whnf)
end Go.Proofs.YtlmihggafbmkaaaGreatDoor
