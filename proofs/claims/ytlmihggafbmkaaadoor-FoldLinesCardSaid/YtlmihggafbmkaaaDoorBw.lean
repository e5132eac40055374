/- strings.IndexRune in a text of two bytes below 128. -/
import Derived.Test.YtlmihggafbmkaaaDoorBv
import Derived.Test.YtlmihggafbmkaaaDoorVr
import Derived.Test.YtlmihggafbmkaaaDoorExt
import Derived.Scope
namespace Go.Proofs.YtlmihggafbmkaaaDoor
open Go
theorem next_lo {x : UInt8} {t : List UInt8} (h : x.toNat < 128) : nextS (x :: t) = (x.toNat, 1) := by
  unfold nextS
  simp [byteAt, h]
theorem rng_lo {x : UInt8} {t : List UInt8} (h : x.toNat < 128) : rngR (x :: t) = x.toNat ∧ stepS (x :: t) = 1 := by
  unfold rngR stepS
  rw [next_lo h]
  simp
theorem two_a {a b : UInt8} (ha : a.toNat < 128) (hb : b.toNat < 128) : rngR [a, b] = a.toNat ∧ stepS [a, b] = 1 ∧ rngR [b] = b.toNat ∧ stepS [b] = 1 := ⟨(rng_lo ha).1, (rng_lo ha).2, (rng_lo hb).1, (rng_lo hb).2⟩
theorem two1 {a b : UInt8} : byteAt [a, b] 1 = b.toNat := rfl
/-- A scope through which nothing jumps. -/
def noGo (Q : AExit → Env → Heap → Prop) : AExit → Env → Heap → Prop
  | .goto _, _, _ => False
  | x, e, h => Q x e h
theorem cd_scope {P : Program} [Tab P] {C : Ctx} {n : Nat} {env : Env} {H : Heap} {Q : AExit → Env → Heap → Prop} {c : Code} {G : Glo} {GL : List (Nat × List AVal)} (hC : C.G = G) (hGL : GloAll G GL) (h : codeX P C n G GL c env H (noGo Q)) : Cd P C n (.scope c) env H Q := by
  refine ⟨fun R a w hm hf => wp_scope_straight (wp_mono (codeX_ok hC hGL c _ _ _ h R a w hm hf) ?_)⟩
  rintro ex a w ⟨x, e, h, R, hq, hr, hm, hf⟩
  cases x with
  | goto l => exact hq.elim
  | normal => simp only [ExitRel] at hr; subst hr; exact ⟨.normal, e, h, R, hq, rfl, hm, hf⟩
  | exit i => simp only [ExitRel] at hr; subst hr; exact ⟨.exit i, e, h, R, hq, rfl, hm, hf⟩
  | ret => simp only [ExitRel] at hr; subst hr; exact ⟨.ret, e, h, R, hq, rfl, hm, hf⟩
  | panic v =>
    obtain ⟨x, rfl, hx⟩ := hr
    exact ⟨.panic v, e, h, R, hq, ⟨x, rfl, hx⟩, hm, hf⟩
set_option maxRecDepth 20000
set_option maxHeartbeats 4000000
set_option linter.unusedSimpArgs false
set_option linter.unusedVariables false
attribute [local irreducible] AWp AOps byteAt SrcOK OrOk GloAll FnSpec
attribute [local irreducible] nextS badI badS stepS cutS rngR ownB mayZ
theorem enc_hi {r : Int} (h1 : 128 ≤ r) (hv : mayZ r = true) : ∃ e : List UInt8, (Utf8.encode r).data.toList = e ∧ 2 ≤ e.length ∧ e.length ≤ 4 ∧ 128 ≤ byteAt e 1 ∧ byteAt e 1 < 256 := by
  refine ⟨_, rfl, ?_⟩
  rw [mayZ_t] at hv
  rw [enc_all hv]
  have hb : ∀ k : Nat, 128 ≤ ((UInt8.ofNat (128 + k % 64)).toNat) ∧ ((UInt8.ofNat (128 + k % 64)).toNat) < 256 := by
    intro k
    have e : 128 + k % 64 < 256 := by omega
    rw [UInt8.toNat_ofNat_of_lt' (by simpa using e)]
    omega
  split
  · omega
  · split
    · refine ⟨by simp, by simp, ?_⟩; simpa [byteAt] using hb _
    · split
      · refine ⟨by simp, by simp, ?_⟩; simpa [byteAt] using hb _
      · refine ⟨by simp, by simp, ?_⟩; simpa [byteAt] using hb _
theorem indexRune_hi {G : Glo} {a b : UInt8} (ha : a.toNat < 128) (hb' : b.toNat < 128) (r : Int) (h1 : 128 ≤ r) (hv : mayZ r = true) (hne : r ≠ 65533) : FnIs Tryd.prog G 111 [.str [a, b], .int .i32 r] (.int .i64 (-1)) := by
  have hGL : GloAll G [] := gloAll_nil
  refine fn_x Tryd.func111 Tryd.call111 rfl rfl rfl rfl hGL ?_
  intro C hC
  have hV := valid_rune (G := G) r
  rw [hv] at hV
  repeat' (first
    | (conv => whnf); first
      | (apply ch_l; apply sp_i; first | exact rfl | omega | exact ⟨rfl, rfl, by omega⟩ | exact ⟨rfl, by omega⟩ | exact ⟨rfl, by omega, by omega, by omega⟩ | exact ⟨⟨_, rfl⟩, by omega⟩ | exact ⟨⟨_, rfl⟩, by omega, by omega⟩ | decide | (simp only [List.length_drop, List.length_take, List.length_append, List.length_set, List.length_cons, List.length_nil, OrOk] at *; omega) | (simp; omega))
      | (apply sp_i; first | exact rfl | omega | exact ⟨rfl, rfl, by omega⟩ | exact ⟨rfl, by omega⟩ | exact ⟨rfl, by omega, by omega, by omega⟩ | exact ⟨⟨_, rfl⟩, by omega⟩ | exact ⟨⟨_, rfl⟩, by omega, by omega⟩ | decide | (simp only [List.length_drop, List.length_take, List.length_append, List.length_set, List.length_cons, List.length_nil, OrOk] at *; omega) | (simp; omega))
      | (apply sc_true) | (apply sc_false)
      | (first | apply sc_lt | apply sc_nlt | apply sc_eq | apply sc_neq | apply sc_nil | apply sc_nnil | apply sc_seq | apply sc_nseq); all_goals (intro hb; try (first | (exfalso; omega) | exact absurd rfl hb | exact absurd hb (by decide) | exact absurd hb (by assumption) | exact absurd (by assumption) hb | (exfalso; simp only [List.length_cons, List.length_nil, List.length_append] at hb; omega)))
      | (apply sc_not) | (apply sc_or) | (apply sc_i; all_goals intro hb)
      | (first | apply ix_nat | apply ix_int); first | omega | (simp only [List.length_drop, List.length_take, List.length_append, List.length_set, List.length_cons, List.length_nil] at *; omega)
      | (apply bx_i; intro hbd)
      | (first | apply sd_nat | apply sd_int | apply sl_nat | apply sl_int); first | omega | (simp only [List.length_drop, List.length_take, List.length_append, List.length_set, List.length_cons, List.length_nil] at *; omega)
      | (apply cx_is; first | exact hV) | (apply cx_do (i := 0) rfl; first | exact hV)
      | (apply ab_i; intro bl) | (apply as_i; intro va vk vc hva) | (apply av_i; intro v) | (apply ac_i; intro bl cap hcap)
      | (apply bo_l) | (apply ch_r; apply sp_i; intro i hi; exact ⟨rfl, rfl, rfl⟩) | (apply nx_i; all_goals intro hnx)
      | (apply Ia.hit; assumption) | (apply Ia.miss; assumption)
      | (apply rt_is; exact rfl) | (apply rt_do; exact rfl; (repeat (first | exact List.nil_sublist _ | apply List.Sublist.cons_cons))) | (apply iv; assumption)
      | (apply dw_q mixed hC hGL (by kernel_rfl))
      | (apply cq; assumption; (first | exact hV); exact rfl))
  all_goals (try conv => whnf)
  apply cd_scope hC hGL
  repeat' (first
    | (conv => whnf); first
      | (apply ch_l; apply sp_i; first | exact rfl | omega | exact ⟨rfl, rfl, by omega⟩ | exact ⟨rfl, by omega⟩ | exact ⟨rfl, by omega, by omega, by omega⟩ | exact ⟨⟨_, rfl⟩, by omega⟩ | exact ⟨⟨_, rfl⟩, by omega, by omega⟩ | decide | (simp only [List.length_drop, List.length_take, List.length_append, List.length_set, List.length_cons, List.length_nil, OrOk] at *; omega) | (simp; omega))
      | (apply sp_i; first | exact rfl | omega | exact ⟨rfl, rfl, by omega⟩ | exact ⟨rfl, by omega⟩ | exact ⟨rfl, by omega, by omega, by omega⟩ | exact ⟨⟨_, rfl⟩, by omega⟩ | exact ⟨⟨_, rfl⟩, by omega, by omega⟩ | decide | (simp only [List.length_drop, List.length_take, List.length_append, List.length_set, List.length_cons, List.length_nil, OrOk] at *; omega) | (simp; omega))
      | (apply sc_true) | (apply sc_false)
      | (first | apply sc_lt | apply sc_nlt | apply sc_eq | apply sc_neq | apply sc_nil | apply sc_nnil | apply sc_seq | apply sc_nseq); all_goals (intro hb; try (first | (exfalso; omega) | exact absurd rfl hb | exact absurd hb (by decide) | exact absurd hb (by assumption) | exact absurd (by assumption) hb | (exfalso; simp only [List.length_cons, List.length_nil, List.length_append] at hb; omega)))
      | (apply sc_not) | (apply sc_or) | (apply sc_i; all_goals intro hb)
      | (first | apply ix_nat | apply ix_int); first | omega | (simp only [List.length_drop, List.length_take, List.length_append, List.length_set, List.length_cons, List.length_nil] at *; omega)
      | (apply bx_i; intro hbd)
      | (first | apply sd_nat | apply sd_int | apply sl_nat | apply sl_int); first | omega | (simp only [List.length_drop, List.length_take, List.length_append, List.length_set, List.length_cons, List.length_nil] at *; omega)
      | (apply cx_is; first | exact hV) | (apply cx_do (i := 0) rfl; first | exact hV)
      | (apply ab_i; intro bl) | (apply as_i; intro va vk vc hva) | (apply av_i; intro v) | (apply ac_i; intro bl cap hcap)
      | (apply bo_l) | (apply ch_r; apply sp_i; intro i hi; exact ⟨rfl, rfl, rfl⟩) | (apply nx_i; all_goals intro hnx)
      | (apply Ia.hit; assumption) | (apply Ia.miss; assumption)
      | (apply rt_is; exact rfl) | (apply rt_do; exact rfl; (repeat (first | exact List.nil_sublist _ | apply List.Sublist.cons_cons))) | (apply iv; assumption)
      | (apply dw_q mixed hC hGL (by kernel_rfl))
      | (apply cq; assumption; (first | exact hV); exact rfl))
  all_goals (try conv => whnf)
  obtain ⟨e, he, e1, e2, e3, e4⟩ := enc_hi h1 hv
  refine op1_run hC hGL (rv_istr rfl rfl rfl rfl) rfl rfl ?_
  rw [he]
  repeat' (first
    | (conv => whnf); first
      | (apply ch_l; apply sp_i; first | exact rfl | omega | exact ⟨rfl, rfl, by omega⟩ | exact ⟨rfl, by omega⟩ | exact ⟨rfl, by omega, by omega, by omega⟩ | exact ⟨⟨_, rfl⟩, by omega⟩ | exact ⟨⟨_, rfl⟩, by omega, by omega⟩ | decide | (simp only [List.length_drop, List.length_take, List.length_append, List.length_set, List.length_cons, List.length_nil, OrOk] at *; omega) | (simp; omega))
      | (apply sp_i; first | exact rfl | omega | exact ⟨rfl, rfl, by omega⟩ | exact ⟨rfl, by omega⟩ | exact ⟨rfl, by omega, by omega, by omega⟩ | exact ⟨⟨_, rfl⟩, by omega⟩ | exact ⟨⟨_, rfl⟩, by omega, by omega⟩ | decide | (simp only [List.length_drop, List.length_take, List.length_append, List.length_set, List.length_cons, List.length_nil, OrOk] at *; omega) | (simp; omega))
      | (apply sc_true) | (apply sc_false)
      | (first | apply sc_lt | apply sc_nlt | apply sc_eq | apply sc_neq | apply sc_nil | apply sc_nnil | apply sc_seq | apply sc_nseq); all_goals (intro hb; try (first | (exfalso; omega) | exact absurd rfl hb | exact absurd hb (by decide) | exact absurd hb (by assumption) | exact absurd (by assumption) hb | (exfalso; simp only [List.length_cons, List.length_nil, List.length_append] at hb; omega)))
      | (apply sc_not) | (apply sc_or) | (apply sc_i; all_goals intro hb)
      | (first | apply ix_nat | apply ix_int); first | omega | (simp only [List.length_drop, List.length_take, List.length_append, List.length_set, List.length_cons, List.length_nil] at *; omega)
      | (apply bx_i; intro hbd)
      | (first | apply sd_nat | apply sd_int | apply sl_nat | apply sl_int); first | omega | (simp only [List.length_drop, List.length_take, List.length_append, List.length_set, List.length_cons, List.length_nil] at *; omega)
      | (apply cx_is; first | exact hV) | (apply cx_do (i := 0) rfl; first | exact hV)
      | (apply ab_i; intro bl) | (apply as_i; intro va vk vc hva) | (apply av_i; intro v) | (apply ac_i; intro bl cap hcap)
      | (apply bo_l) | (apply ch_r; apply sp_i; intro i hi; exact ⟨rfl, rfl, rfl⟩) | (apply nx_i; all_goals intro hnx)
      | (apply Ia.hit; assumption) | (apply Ia.miss; assumption)
      | (apply rt_is; exact rfl) | (apply rt_do; exact rfl; (repeat (first | exact List.nil_sublist _ | apply List.Sublist.cons_cons))) | (apply iv; assumption)
      | (apply dw_q mixed hC hGL (by kernel_rfl))
      | (apply cq; assumption; (first | exact hV); exact rfl))
  all_goals (try conv => whnf)
  refine rds hC hGL 1 ?_
  have hix : ∀ c : Int, 0 ≤ c → c ≤ 255 → FnIs Tryd.prog G 57 [.str [], .int .u8 c] (.int .i64 (-1)) := fun c h0 h1 => strings_IndexByte [] c h0 h1
  repeat' (first
    | (conv => whnf); first
      | (apply ch_l; apply sp_i; first | exact rfl | omega | exact ⟨rfl, rfl, by omega⟩ | exact ⟨rfl, by omega⟩ | exact ⟨rfl, by omega, by omega, by omega⟩ | exact ⟨⟨_, rfl⟩, by omega⟩ | exact ⟨⟨_, rfl⟩, by omega, by omega⟩ | decide | (simp only [List.length_drop, List.length_take, List.length_append, List.length_set, List.length_cons, List.length_nil, OrOk] at *; omega) | (simp; omega))
      | (apply sp_i; first | exact rfl | omega | exact ⟨rfl, rfl, by omega⟩ | exact ⟨rfl, by omega⟩ | exact ⟨rfl, by omega, by omega, by omega⟩ | exact ⟨⟨_, rfl⟩, by omega⟩ | exact ⟨⟨_, rfl⟩, by omega, by omega⟩ | decide | (simp only [List.length_drop, List.length_take, List.length_append, List.length_set, List.length_cons, List.length_nil, OrOk] at *; omega) | (simp; omega))
      | (apply sc_true) | (apply sc_false)
      | (first | apply sc_lt | apply sc_nlt | apply sc_eq | apply sc_neq | apply sc_nil | apply sc_nnil | apply sc_seq | apply sc_nseq); all_goals (intro hb; try (first | (exfalso; omega) | exact absurd rfl hb | exact absurd hb (by decide) | exact absurd hb (by assumption) | exact absurd (by assumption) hb | (exfalso; simp only [List.length_cons, List.length_nil, List.length_append] at hb; omega)))
      | (apply sc_not) | (apply sc_or) | (apply sc_i; all_goals intro hb)
      | (first | apply ix_nat | apply ix_int); first | omega | (simp only [List.length_drop, List.length_take, List.length_append, List.length_set, List.length_cons, List.length_nil] at *; omega)
      | (apply bx_i; intro hbd)
      | (first | apply sd_nat | apply sd_int | apply sl_nat | apply sl_int); first | omega | (simp only [List.length_drop, List.length_take, List.length_append, List.length_set, List.length_cons, List.length_nil] at *; omega)
      | (apply cx_is; first | exact hV | exact hix _ (by omega) (by omega)) | (apply cx_do (i := 0) rfl; first | exact hV | exact hix _ (by omega) (by omega))
      | (apply ab_i; intro bl) | (apply as_i; intro va vk vc hva) | (apply av_i; intro v) | (apply ac_i; intro bl cap hcap)
      | (apply bo_l) | (apply ch_r; apply sp_i; intro i hi; exact ⟨rfl, rfl, rfl⟩) | (apply nx_i; all_goals intro hnx)
      | (apply Ia.hit; assumption) | (apply Ia.miss; assumption)
      | (apply rt_is; exact rfl) | (apply rt_do; exact rfl; (repeat (first | exact List.nil_sublist _ | apply List.Sublist.cons_cons))) | (apply iv; assumption)
      | (apply dw_q mixed hC hGL (by kernel_rfl))
      | (apply cq; assumption; (first | exact hV | exact hix _ (by omega) (by omega)); exact rfl))
  all_goals (try conv => whnf)
  have hl2 : e.length = 2 := by simp only [List.length_cons, List.length_nil] at hb; omega
  have ht1 : ((e.length : Int) - 1).toNat = 1 := by omega
  have ht2 : ((e.length : Int) - 1 + 1).toNat = 2 := by omega
  have hcall := Tryd.call57
  have hix2 : ∀ c : Int, 0 ≤ c → c ≤ 255 → FnIs Tryd.prog G 57 [.str (List.drop ((e.length : Int) - 1 + 1).toNat [a, b]), .int .u8 c] (.int .i64 (-1)) := by rw [ht2]; exact hix
  have h10 : byteAt [a, b] ((e.length : Int) - 1).toNat = b.toNat := by rw [ht1]; exact two1
  have h128 : 128 ≤ byteAt e ((e.length : Int) - 1).toNat := by rw [ht1]; exact e3
  apply cd_scope hC hGL
  repeat' (first
    | (conv => whnf); first
      | (apply ch_l; apply sp_i; first | exact rfl | omega | exact ⟨rfl, rfl, by omega⟩ | exact ⟨rfl, by omega⟩ | exact ⟨rfl, by omega, by omega, by omega⟩ | exact ⟨⟨_, rfl⟩, by omega⟩ | exact ⟨⟨_, rfl⟩, by omega, by omega⟩ | decide | (simp only [List.length_drop, List.length_take, List.length_append, List.length_set, List.length_cons, List.length_nil, OrOk] at *; omega) | (simp; omega))
      | (apply sp_i; first | exact rfl | omega | exact ⟨rfl, rfl, by omega⟩ | exact ⟨rfl, by omega⟩ | exact ⟨rfl, by omega, by omega, by omega⟩ | exact ⟨⟨_, rfl⟩, by omega⟩ | exact ⟨⟨_, rfl⟩, by omega, by omega⟩ | decide | (simp only [List.length_drop, List.length_take, List.length_append, List.length_set, List.length_cons, List.length_nil, OrOk] at *; omega) | (simp; omega))
      | (apply sc_true) | (apply sc_false)
      | (first | apply sc_lt | apply sc_nlt | apply sc_eq | apply sc_neq | apply sc_nil | apply sc_nnil | apply sc_seq | apply sc_nseq); all_goals (intro hb; try (first | (exfalso; omega) | exact absurd rfl hb | exact absurd hb (by decide) | exact absurd hb (by assumption) | exact absurd (by assumption) hb | (exfalso; simp only [List.length_cons, List.length_nil, List.length_append] at hb; omega)))
      | (apply sc_not) | (apply sc_or) | (apply sc_i; all_goals intro hb)
      | (first | apply ix_nat | apply ix_int); first | omega | (simp only [List.length_drop, List.length_take, List.length_append, List.length_set, List.length_cons, List.length_nil] at *; omega)
      | (apply bx_i; intro hbd)
      | (first | apply sd_nat | apply sd_int | apply sl_nat | apply sl_int); first | omega | (simp only [List.length_drop, List.length_take, List.length_append, List.length_set, List.length_cons, List.length_nil] at *; omega)
      | (apply cx_is; first | exact hV | exact hix2 _ (by omega) (by omega)) | (apply cx_do (i := 0) rfl; first | exact hV | exact hix2 _ (by omega) (by omega))
      | (apply ab_i; intro bl) | (apply as_i; intro va vk vc hva) | (apply av_i; intro v) | (apply ac_i; intro bl cap hcap)
      | (apply bo_l) | (apply ch_r; apply sp_i; intro i hi; exact ⟨rfl, rfl, rfl⟩) | (apply nx_i; all_goals intro hnx)
      | (apply Ia.hit; assumption) | (apply Ia.miss; assumption)
      | (apply rt_is; exact rfl) | (apply rt_do; exact rfl; (repeat (first | exact List.nil_sublist _ | apply List.Sublist.cons_cons))) | (apply iv; assumption)
      | (apply dw_q mixed hC hGL (by kernel_rfl))
      | (apply cq; assumption; (first | exact hV | exact hix2 _ (by omega) (by omega)); exact rfl))
  all_goals (try conv => whnf)
/-- .. at the replacement rune. -/
theorem indexRune_rep {G : Glo} {a b : UInt8} (ha : a.toNat < 128) (hb' : b.toNat < 128) : FnIs Tryd.prog G 111 [.str [a, b], .int .i32 65533] (.int .i64 (-1)) := by
  have hGL : GloAll G [] := gloAll_nil
  refine fn_x Tryd.func111 Tryd.call111 rfl rfl rfl rfl hGL ?_
  intro C hC
  repeat' (first
    | (conv => whnf); first
      | (apply ch_l; apply sp_i; first | exact rfl | omega | exact ⟨rfl, rfl, by omega⟩ | exact ⟨rfl, by omega⟩ | exact ⟨rfl, by omega, by omega, by omega⟩ | exact ⟨⟨_, rfl⟩, by omega⟩ | exact ⟨⟨_, rfl⟩, by omega, by omega⟩ | decide | (simp only [List.length_drop, List.length_take, List.length_append, List.length_set, List.length_cons, List.length_nil, OrOk] at *; omega) | (simp; omega))
      | (apply sp_i; first | exact rfl | omega | exact ⟨rfl, rfl, by omega⟩ | exact ⟨rfl, by omega⟩ | exact ⟨rfl, by omega, by omega, by omega⟩ | exact ⟨⟨_, rfl⟩, by omega⟩ | exact ⟨⟨_, rfl⟩, by omega, by omega⟩ | decide | (simp only [List.length_drop, List.length_take, List.length_append, List.length_set, List.length_cons, List.length_nil, OrOk] at *; omega) | (simp; omega))
      | (apply sc_true) | (apply sc_false)
      | (first | apply sc_lt | apply sc_nlt | apply sc_eq | apply sc_neq | apply sc_nil | apply sc_nnil | apply sc_seq | apply sc_nseq); all_goals (intro hb; try (first | (exfalso; omega) | exact absurd rfl hb | exact absurd hb (by decide) | exact absurd hb (by assumption) | exact absurd (by assumption) hb | (exfalso; simp only [List.length_cons, List.length_nil, List.length_append] at hb; omega)))
      | (apply sc_not) | (apply sc_or) | (apply sc_i; all_goals intro hb)
      | (first | apply ix_nat | apply ix_int); first | omega | (simp only [List.length_drop, List.length_take, List.length_append, List.length_set, List.length_cons, List.length_nil] at *; omega)
      | (apply bx_i; intro hbd)
      | (first | apply sd_nat | apply sd_int | apply sl_nat | apply sl_int); first | omega | (simp only [List.length_drop, List.length_take, List.length_append, List.length_set, List.length_cons, List.length_nil] at *; omega)
      | (apply cx_is; first | fail) | (apply cx_do (i := 0) rfl; first | fail)
      | (apply ab_i; intro bl) | (apply as_i; intro va vk vc hva) | (apply av_i; intro v) | (apply ac_i; intro bl cap hcap)
      | (apply bo_l) | (apply ch_r; apply sp_i; intro i hi; exact ⟨rfl, rfl, rfl⟩) | (apply nx_i; all_goals intro hnx)
      | (apply Ia.hit; assumption) | (apply Ia.miss; assumption)
      | (apply rt_is; exact rfl) | (apply rt_do; exact rfl; (repeat (first | exact List.nil_sublist _ | apply List.Sublist.cons_cons))) | (apply iv; assumption)
      | (apply dw_q mixed hC hGL (by kernel_rfl))
      | (apply cq; assumption; (first | fail); exact rfl))
  all_goals (try conv => whnf)
  refine rds hC hGL 3 ?_
  repeat' (first
    | (conv => whnf); first
      | (apply ch_l; apply sp_i; first | exact rfl | omega | exact ⟨rfl, rfl, by omega⟩ | exact ⟨rfl, by omega⟩ | exact ⟨rfl, by omega, by omega, by omega⟩ | exact ⟨⟨_, rfl⟩, by omega⟩ | exact ⟨⟨_, rfl⟩, by omega, by omega⟩ | decide | (simp only [List.length_drop, List.length_take, List.length_append, List.length_set, List.length_cons, List.length_nil, OrOk] at *; omega) | (simp; omega))
      | (apply sp_i; first | exact rfl | omega | exact ⟨rfl, rfl, by omega⟩ | exact ⟨rfl, by omega⟩ | exact ⟨rfl, by omega, by omega, by omega⟩ | exact ⟨⟨_, rfl⟩, by omega⟩ | exact ⟨⟨_, rfl⟩, by omega, by omega⟩ | decide | (simp only [List.length_drop, List.length_take, List.length_append, List.length_set, List.length_cons, List.length_nil, OrOk] at *; omega) | (simp; omega))
      | (apply sc_true) | (apply sc_false)
      | (first | apply sc_lt | apply sc_nlt | apply sc_eq | apply sc_neq | apply sc_nil | apply sc_nnil | apply sc_seq | apply sc_nseq); all_goals (intro hb; try (first | (exfalso; omega) | exact absurd rfl hb | exact absurd hb (by decide) | exact absurd hb (by assumption) | exact absurd (by assumption) hb | (exfalso; simp only [List.length_cons, List.length_nil, List.length_append] at hb; omega)))
      | (apply sc_not) | (apply sc_or) | (apply sc_i; all_goals intro hb)
      | (first | apply ix_nat | apply ix_int); first | omega | (simp only [List.length_drop, List.length_take, List.length_append, List.length_set, List.length_cons, List.length_nil] at *; omega)
      | (apply bx_i; intro hbd)
      | (first | apply sd_nat | apply sd_int | apply sl_nat | apply sl_int); first | omega | (simp only [List.length_drop, List.length_take, List.length_append, List.length_set, List.length_cons, List.length_nil] at *; omega)
      | (apply cx_is; first | fail) | (apply cx_do (i := 0) rfl; first | fail)
      | (apply ab_i; intro bl) | (apply as_i; intro va vk vc hva) | (apply av_i; intro v) | (apply ac_i; intro bl cap hcap)
      | (apply bo_l) | (apply ch_r; apply sp_i; intro i hi; exact ⟨rfl, rfl, rfl⟩) | (apply nx_i; all_goals intro hnx)
      | (apply Ia.hit; assumption) | (apply Ia.miss; assumption)
      | (apply rt_is; exact rfl) | (apply rt_do; exact rfl; (repeat (first | exact List.nil_sublist _ | apply List.Sublist.cons_cons))) | (apply iv; assumption)
      | (apply dw_q mixed hC hGL (by kernel_rfl))
      | (apply cq; assumption; (first | fail); exact rfl))
  all_goals (try conv => whnf)
  all_goals (
    exfalso
    obtain ⟨f1, f2, f3, f4⟩ := two_a ha hb'
    simp only [List.drop_zero, f1, f2, Nat.zero_add, List.drop_succ_cons, f3, f4, List.length_cons, List.length_nil] at *
    omega)
theorem indexRune_lo {G : Glo} {a b : UInt8} (r : Int) (h0 : 0 ≤ r) (h1 : r < 128) : FnIs Tryd.prog G 111 [.str [a, b], .int .i32 r] (.int .i64 (idxB [a, b] r)) := by
  have hGL : GloAll G [] := gloAll_nil
  refine fn_x Tryd.func111 Tryd.call111 rfl rfl rfl rfl hGL ?_
  intro C hC
  have hI := strings_IndexByte (G := G) [a, b] r h0 (by omega)
  repeat' (first
    | (conv => whnf); first
      | (apply ch_l; apply sp_i; first | exact rfl | omega | exact ⟨rfl, rfl, by omega⟩ | exact ⟨rfl, by omega⟩ | exact ⟨rfl, by omega, by omega, by omega⟩ | exact ⟨⟨_, rfl⟩, by omega⟩ | exact ⟨⟨_, rfl⟩, by omega, by omega⟩ | decide | (simp only [List.length_drop, List.length_take, List.length_append, List.length_set, List.length_cons, List.length_nil, OrOk] at *; omega) | (simp; omega))
      | (apply sp_i; first | exact rfl | omega | exact ⟨rfl, rfl, by omega⟩ | exact ⟨rfl, by omega⟩ | exact ⟨rfl, by omega, by omega, by omega⟩ | exact ⟨⟨_, rfl⟩, by omega⟩ | exact ⟨⟨_, rfl⟩, by omega, by omega⟩ | decide | (simp only [List.length_drop, List.length_take, List.length_append, List.length_set, List.length_cons, List.length_nil, OrOk] at *; omega) | (simp; omega))
      | (apply sc_true) | (apply sc_false)
      | (first | apply sc_lt | apply sc_nlt | apply sc_eq | apply sc_neq | apply sc_nil | apply sc_nnil | apply sc_seq | apply sc_nseq); all_goals (intro hb; try (first | (exfalso; omega) | exact absurd rfl hb | exact absurd hb (by decide) | exact absurd hb (by assumption) | exact absurd (by assumption) hb | (exfalso; simp only [List.length_cons, List.length_nil, List.length_append] at hb; omega)))
      | (apply sc_not) | (apply sc_or) | (apply sc_i; all_goals intro hb)
      | (first | apply ix_nat | apply ix_int); first | omega | (simp only [List.length_drop, List.length_take, List.length_append, List.length_set, List.length_cons, List.length_nil] at *; omega)
      | (apply bx_i; intro hbd)
      | (first | apply sd_nat | apply sd_int | apply sl_nat | apply sl_int); first | omega | (simp only [List.length_drop, List.length_take, List.length_append, List.length_set, List.length_cons, List.length_nil] at *; omega)
      | (apply cx_is; first | exact hI) | (apply cx_do (i := 0) rfl; first | exact hI)
      | (apply ab_i; intro bl) | (apply as_i; intro va vk vc hva) | (apply av_i; intro v) | (apply ac_i; intro bl cap hcap)
      | (apply bo_l) | (apply ch_r; apply sp_i; intro i hi; exact ⟨rfl, rfl, rfl⟩) | (apply nx_i; all_goals intro hnx)
      | (apply Ia.hit; assumption) | (apply Ia.miss; assumption)
      | (apply rt_is; exact rfl) | (apply rt_do; exact rfl; (repeat (first | exact List.nil_sublist _ | apply List.Sublist.cons_cons))) | (apply iv; assumption)
      | (apply dw_q mixed hC hGL (by kernel_rfl))
      | (apply cq; assumption; (first | exact hI); exact rfl))
  all_goals (try conv => whnf)
end Go.Proofs.YtlmihggafbmkaaaDoor
