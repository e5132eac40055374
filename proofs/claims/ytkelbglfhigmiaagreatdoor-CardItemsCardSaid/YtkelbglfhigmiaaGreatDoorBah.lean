/- Parts of the proof of cardItems_card: Dc, Rf, Hdb, Lnk, Idt, Lpb, Lpc, Dfx, Lpd, Rnd, Rua, Scu. -/
import GoSem.PinnedTables
import Derived.RangeFuncRecord
import Derived.RangeFuncSeq
import Derived.OrdersIn
import Derived.LoopNIn
import Derived.Lib.Fields
import Derived.Test.YtkelbglfhigmiaaGreatDoorBaf
import Derived.Test.YtkelbglfhigmiaaGreatDoorBad
import Derived.Test.YtkelbglfhigmiaaGreatDoorBae
import Derived.Test.YtkelbglfhigmiaaGreatDoorBag
set_option linter.unusedVariables false
set_option linter.unusedSimpArgs false
set_option linter.unusedSectionVars false
namespace Go.Proofs.YtkelbglfhigmiaaGreatDoor
set_option maxRecDepth 20000
set_option maxHeartbeats 4000000
section
open Go
attribute [local irreducible] AWp AOps aa ax OrOk ab ae
attribute [local irreducible] aB badI badS cm rngR ownB
def firstTab : List AVal := Go.Pinned.utf8FirstZ.map (fun x : Nat => AVal.int .u8 (x : Int))
def acceptTab : List AVal := [.int .u8 128, .int .u8 191, .int .u8 160, .int .u8 191, .int .u8 128, .int .u8 159, .int .u8 144, .int .u8 191, .int .u8 128, .int .u8 143, .int .u8 0, .int .u8 0, .int .u8 0, .int .u8 0, .int .u8 0, .int .u8 0, .int .u8 0, .int .u8 0, .int .u8 0, .int .u8 0, .int .u8 0, .int .u8 0, .int .u8 0, .int .u8 0, .int .u8 0, .int .u8 0, .int .u8 0, .int .u8 0, .int .u8 0, .int .u8 0, .int .u8 0, .int .u8 0]
def jS (b : Nat) : Nat :=
 if b < 128 then 240 else if b < 194 then 241 else if b < 224 then 2 else if b = 224 then 19 else if b < 237 then 3 else if b = 237 then 35 else if b < 240 then 3 else if b = 240 then 52
 else if b < 244 then 4 else if b = 244 then 68 else 241
theorem zq : ∀ b : Fin 256, Go.Pinned.utf8FirstZ[b.1]? = some (jS b.1) := by decide +kernel
theorem l6 (b : Nat) (h : b < 256) : firstTab[b * 1]? = some (.int .u8 (jS b : Int)) := by
 rw [Nat.mul_one]
 simp only [firstTab, List.getElem?_map, zq ⟨b, h⟩, Option.map_some]
def dI (s : List UInt8) : Nat × Nat := if s.length = 0 then (65533, 0) else if (aB s).2 = 0 then (65533, 1) else aB s
theorem C7 (b : Int) : IntKind.wrap .i32 (BitVec.ofInt 32 (IntKind.wrap .i32 (BitVec.ofInt 32 b &&& ~~~ BitVec.ofInt 32 (IntKind.wrap .i32 (241 * 2147483648) / 2147483648)).toNat) ||| BitVec.ofInt 32 (IntKind.wrap .i32 (BitVec.ofInt 32 65533 &&& BitVec.ofInt 32 (IntKind.wrap .i32 (241 * 2147483648) / 2147483648)).toNat)).toNat = 65533 := by
 have e : (~~~ BitVec.ofInt 32 (IntKind.wrap .i32 (241 * 2147483648) / 2147483648)) = 0#32 := by decide +kernel
 rw [e, BitVec.and_zero]
 decide +kernel
attribute [local irreducible] firstTab
abbrev utfTy : List (Nat × List AVal) := [(5, firstTab), (6, acceptTab)]
theorem zu (b : Nat) (h : b < 256) (h1 : 128 ≤ b) :
  (firstTab[b * 1]? = some (.int .u8 241) ∧ (b < 194 ∨ 245 ≤ b)) ∨ (firstTab[b * 1]? = some (.int .u8 2) ∧ 194 ≤ b ∧ b < 224) ∨ (firstTab[b * 1]? = some (.int .u8 19) ∧ b = 224)
  ∨ (firstTab[b * 1]? = some (.int .u8 3) ∧ 225 ≤ b ∧ b < 240 ∧ b ≠ 237) ∨ (firstTab[b * 1]? = some (.int .u8 35) ∧ b = 237) ∨ (firstTab[b * 1]? = some (.int .u8 52) ∧ b = 240)
  ∨ (firstTab[b * 1]? = some (.int .u8 4) ∧ 241 ≤ b ∧ b < 244) ∨ (firstTab[b * 1]? = some (.int .u8 68) ∧ b = 244) := by
 have e := l6 b h
 have key : ∀ c : Nat, jS b = c → firstTab[b * 1]? = some (.int .u8 (c : Int)) := fun c hc => by rw [e, hc]
 by_cases c1 : b < 194 ∨ 245 ≤ b
 ·refine .inl ⟨key 241 (by unfold jS; (repeat' split) <;> omega), c1⟩
 by_cases c2 : b < 224
 ·refine .inr (.inl ⟨key 2 (by unfold jS; (repeat' split) <;> omega), by omega, c2⟩)
 by_cases c3 : b = 224
 ·subst c3; exact .inr (.inr (.inl ⟨key 19 rfl, rfl⟩))
 by_cases c5 : b = 237
 ·subst c5; exact .inr (.inr (.inr (.inr (.inl ⟨key 35 rfl, rfl⟩))))
 by_cases c4 : b < 240
 ·refine .inr (.inr (.inr (.inl ⟨key 3 (by unfold jS; (repeat' split) <;> omega), by omega, c4, c5⟩)))
 by_cases c6 : b = 240
 ·subst c6; exact .inr (.inr (.inr (.inr (.inr (.inl ⟨key 52 rfl, rfl⟩)))))
 by_cases c7 : b < 244
 ·refine .inr (.inr (.inr (.inr (.inr (.inr (.inl ⟨key 4 (by unfold jS; (repeat' split) <;> omega), by omega, c7⟩))))))
 have c8 : b = 244 := by omega
 subst c8
 exact .inr (.inr (.inr (.inr (.inr (.inr (.inr ⟨key 68 rfl, rfl⟩))))))
theorem sn {s : List UInt8} {a b : Int} (h0 : ¬ s.length = 0) (h : ((aB s).1 : Int) = 0 ∧ ((aB s).2 : Int) = 0) (ha : a = 65533) (hb : b = 1) : ((dI s).1 : Int) = a ∧ ((dI s).2 : Int) = b := by
 have : (aB s).2 = 0 := by omega
 subst ha hb
 simp [dI, h0, this]
theorem xi {s : List UInt8} {a b : Int} (h0 : ¬ s.length = 0) (h : ((aB s).1 : Int) = a ∧ ((aB s).2 : Int) = b) (hb : 0 < b) : ((dI s).1 : Int) = a ∧ ((dI s).2 : Int) = b := by
 have : ¬ (aB s).2 = 0 := by omega
 simpa [dI, h0, this] using h
theorem Cc {G : Glo} (hGL : ab G utfTy) (s : List UInt8) (hs : s.length = 0 ∨ 128 ≤ aa s 0) :
    FnIs Tryz.prog G 149 [.str s] (.tuple [.int .i32 ((dI s).1 : Int), .int .i64 ((dI s).2 : Int)]) := by
  refine fn_x Tryz.func149 Tryz.call149 rfl rfl rfl rfl hGL ?_
  intro C hC
  by_cases h0 : s.length = 0
  · repeat' (first | (conv => whnf); first | refine .w ?_ | refine .v ?_ | refine sc_c ?_ ?_ <;> (intro hb; try exact dd hb) | apply ah | apply aq | (apply sc_i <;> intro hb) | (apply bx_i; intro hbd) | (apply ak; first | fail) | (apply ap (i := 0) rfl; first | fail) | (apply ab_i; intro bl) | (apply as_i; intro va vk vc hva) | (apply av_i; intro v) | (apply ac_i; intro bl cap hcap) | apply bo_l | (apply nx_i <;> intro hnx) | exact rt_w | apply dw_q mixed hC hGL (by kernel_rfl) | (apply cq; assumption; (first | fail); exact rfl))
    all_goals try conv => whnf
    refine tup2 ?_
    simp only [dI, if_pos h0]
    exact ⟨rfl, rfl⟩
  replace hs : 128 ≤ aa s 0 := by omega
  have hdc := zu (aa s 0) (aX s 0) hs
  repeat' (first | (conv => whnf); first | refine .w ?_ | refine .v ?_ | refine sc_c ?_ ?_ <;> (intro hb; try exact dd hb) | apply ah | apply aq | (apply sc_i <;> intro hb) | (apply bx_i; intro hbd) | (apply ak; first | fail) | (apply ap (i := 0) rfl; first | fail) | (apply ab_i; intro bl) | (apply as_i; intro va vk vc hva) | (apply av_i; intro v) | (apply ac_i; intro bl cap hcap) | apply bo_l | (apply nx_i <;> intro hnx) | exact rt_w | apply dw_q mixed hC hGL (by kernel_rfl) | (apply cq; assumption; (first | fail); exact rfl))
  all_goals try conv => whnf
  rcases hdc with ⟨hx, hb⟩ | ⟨hx, hb⟩ | ⟨hx, hb⟩ | ⟨hx, hb⟩ | ⟨hx, hb⟩ | ⟨hx, hb⟩ | ⟨hx, hb⟩ | ⟨hx, hb⟩
  all_goals (erw [hx])
  · repeat' (first | (conv => whnf); first | refine .w ?_ | refine .v ?_ | refine sc_c ?_ ?_ <;> (intro hb; try exact dd hb) | apply ah | apply aq | (apply sc_i <;> intro hb) | (apply bx_i; intro hbd) | (apply ak; first | fail) | (apply ap (i := 0) rfl; first | fail) | (apply ab_i; intro bl) | (apply as_i; intro va vk vc hva) | (apply av_i; intro v) | (apply ac_i; intro bl cap hcap) | apply bo_l | (apply nx_i <;> intro hnx) | exact rt_w | apply dw_q mixed hC hGL (by kernel_rfl) | (apply cq; assumption; (first | fail); exact rfl))
    all_goals try conv => whnf
    apply ch_r
    repeat' (first | (conv => whnf); first | refine .w ?_ | refine .v ?_ | refine sc_c ?_ ?_ <;> (intro hb; try exact dd hb) | apply ah | apply aq | (apply sc_i <;> intro hb) | (apply bx_i; intro hbd) | (apply ak; first | fail) | (apply ap (i := 0) rfl; first | fail) | (apply ab_i; intro bl) | (apply as_i; intro va vk vc hva) | (apply av_i; intro v) | (apply ac_i; intro bl cap hcap) | apply bo_l | (apply nx_i <;> intro hnx) | exact rt_w | apply dw_q mixed hC hGL (by kernel_rfl) | (apply cq; assumption; (first | fail); exact rfl))
    all_goals try conv => whnf
    apply ch_r
    repeat' (first | (conv => whnf); first | refine .w ?_ | refine .v ?_ | refine sc_c ?_ ?_ <;> (intro hb; try exact dd hb) | apply ah | apply aq | (apply sc_i <;> intro hb) | (apply bx_i; intro hbd) | (apply ak; first | fail) | (apply ap (i := 0) rfl; first | fail) | (apply ab_i; intro bl) | (apply as_i; intro va vk vc hva) | (apply av_i; intro v) | (apply ac_i; intro bl cap hcap) | apply bo_l | (apply nx_i <;> intro hnx) | exact rt_w | apply dw_q mixed hC hGL (by kernel_rfl) | (apply cq; assumption; (first | fail); exact rfl))
    all_goals try conv => whnf
    apply ch_r
    repeat' (first | (conv => whnf); first | refine .w ?_ | refine .v ?_ | refine sc_c ?_ ?_ <;> (intro hb; try exact dd hb) | apply ah | apply aq | (apply sc_i <;> intro hb) | (apply bx_i; intro hbd) | (apply ak; first | fail) | (apply ap (i := 0) rfl; first | fail) | (apply ab_i; intro bl) | (apply as_i; intro va vk vc hva) | (apply av_i; intro v) | (apply ac_i; intro bl cap hcap) | apply bo_l | (apply nx_i <;> intro hnx) | exact rt_w | apply dw_q mixed hC hGL (by kernel_rfl) | (apply cq; assumption; (first | fail); exact rfl))
    all_goals try conv => whnf
    clear hx
    refine tup2 ?_
    refine sn h0 ?_ (C7 _) rfl
    generalize hz : aB s = z
    unfold aB dc mayN cp2 cp3 cp4 at hz
    try simp only [show Int.toNat 0 = 0 from rfl, show Int.toNat 1 = 1 from rfl, show Int.toNat (1 + 1) = 2 from rfl, show Int.toNat (1 + 1 + 1) = 3 from rfl] at *
    generalize aa s 0 = b0 at *
    generalize aa s 1 = b1 at *
    generalize aa s 2 = b2 at *
    generalize aa s 3 = b3 at *
    generalize s.length = l at *
    repeat' (split at hz; try (exfalso; omega))
    all_goals (try subst z)
    all_goals (first
      | exact ⟨rfl, rfl⟩
      | (simp only [Bool.and_eq_true, Bool.or_eq_true, decide_eq_true_eq, beq_iff_eq] at *; first | (exfalso; omega) | omega))
  all_goals (repeat' (first | (conv => whnf); first | refine .w ?_ | refine .v ?_ | refine sc_c ?_ ?_ <;> (intro hb; try exact dd hb) | apply ah | apply aq | (apply sc_i <;> intro hb) | (apply bx_i; intro hbd) | (apply ak; first | fail) | (apply ap (i := 0) rfl; first | fail) | (apply ab_i; intro bl) | (apply as_i; intro va vk vc hva) | (apply av_i; intro v) | (apply ac_i; intro bl cap hcap) | apply bo_l | (apply nx_i <;> intro hnx) | exact rt_w | apply dw_q mixed hC hGL (by kernel_rfl) | (apply cq; assumption; (first | fail); exact rfl))
             all_goals try conv => whnf)
  all_goals (clear hx; refine tup2 ?_)
  all_goals (first
    | (refine sn h0 ?_ rfl rfl
       generalize hz : aB s = z
       unfold aB dc mayN cp2 cp3 cp4 at hz
       try simp only [show Int.toNat 0 = 0 from rfl, show Int.toNat 1 = 1 from rfl, show Int.toNat (1 + 1) = 2 from rfl, show Int.toNat (1 + 1 + 1) = 3 from rfl] at *
       generalize aa s 0 = b0 at *
       generalize aa s 1 = b1 at *
       generalize aa s 2 = b2 at *
       generalize aa s 3 = b3 at *
       generalize s.length = l at *
       repeat' (split at hz; try (exfalso; omega))
       all_goals (try subst z)
       all_goals (first
         | exact ⟨rfl, rfl⟩
         | (simp only [Bool.and_eq_true, Bool.or_eq_true, decide_eq_true_eq, beq_iff_eq] at *; first | (exfalso; omega) | omega))
       done)
    | (refine xi h0 ?_ (by decide)
       generalize hz : aB s = z
       unfold aB dc mayN cp2 cp3 cp4 at hz
       try simp only [show Int.toNat 0 = 0 from rfl, show Int.toNat 1 = 1 from rfl, show Int.toNat (1 + 1) = 2 from rfl, show Int.toNat (1 + 1 + 1) = 3 from rfl] at *
       generalize aa s 0 = b0 at *
       generalize aa s 1 = b1 at *
       generalize aa s 2 = b2 at *
       generalize aa s 3 = b3 at *
       generalize s.length = l at *
       repeat' (split at hz; try (exfalso; omega))
       all_goals (try subst z)
       all_goals (first
         | exact ⟨rfl, rfl⟩
         | (simp only [Bool.and_eq_true, Bool.or_eq_true, decide_eq_true_eq, beq_iff_eq] at *; first | (exfalso; omega) | omega))))
theorem Ce {G : Glo} (hGL : ab G utfTy) (s : List UInt8) :
    FnIs Tryz.prog G 110 [.str s] (.tuple [.int .i32 ((dI s).1 : Int), .int .i64 ((dI s).2 : Int)]) := by
  refine fn_x Tryz.func110 Tryz.call110 rfl rfl rfl rfl hGL ?_
  intro C hC
  by_cases h0 : s.length = 0 ∨ 128 ≤ aa s 0
  · have hd := Cc (G := G) hGL s h0
    by_cases h1 : s.length = 0
    all_goals (repeat' (first | (conv => whnf); first | refine .w ?_ | refine .v ?_ | refine sc_c ?_ ?_ <;> (intro hb; try exact dd hb) | apply ah | apply aq | (apply sc_i <;> intro hb) | (apply bx_i; intro hbd) | (apply ak; first | exact hd) | (apply ap (i := 0) rfl; first | exact hd) | (apply ab_i; intro bl) | (apply as_i; intro va vk vc hva) | (apply av_i; intro v) | (apply ac_i; intro bl cap hcap) | apply bo_l | (apply nx_i <;> intro hnx) | exact rt_w | apply dw_q mixed hC hGL (by kernel_rfl) | (apply cq; assumption; (first | exact hd); exact rfl))
               all_goals try conv => whnf)
    all_goals (exfalso; simp only [Int.toNat_zero] at *; omega)
  · repeat' (first | (conv => whnf); first | refine .w ?_ | refine .v ?_ | refine sc_c ?_ ?_ <;> (intro hb; try exact dd hb) | apply ah | apply aq | (apply sc_i <;> intro hb) | (apply bx_i; intro hbd) | (apply ak; first | fail) | (apply ap (i := 0) rfl; first | fail) | (apply ab_i; intro bl) | (apply as_i; intro va vk vc hva) | (apply av_i; intro v) | (apply ac_i; intro bl cap hcap) | apply bo_l | (apply nx_i <;> intro hnx) | exact rt_w | apply dw_q mixed hC hGL (by kernel_rfl) | (apply cq; assumption; (first | fail); exact rfl))
    all_goals try conv => whnf
    refine tup2 ?_
    refine xi (by omega) ?_ (by decide)
    generalize hz : aB s = z
    unfold aB dc mayN cp2 cp3 cp4 at hz
    try simp only [show Int.toNat 0 = 0 from rfl, show Int.toNat 1 = 1 from rfl, show Int.toNat (1 + 1) = 2 from rfl, show Int.toNat (1 + 1 + 1) = 3 from rfl] at *
    generalize aa s 0 = b0 at *
    generalize aa s 1 = b1 at *
    generalize aa s 2 = b2 at *
    generalize aa s 3 = b3 at *
    generalize s.length = l at *
    repeat' (split at hz; try (exfalso; omega))
    all_goals (try subst z)
    all_goals (first
      | exact ⟨rfl, rfl⟩
      | (simp only [Bool.and_eq_true, Bool.or_eq_true, decide_eq_true_eq, beq_iff_eq] at *; first | (exfalso; omega) | omega))
end
section
open Go
attribute [local irreducible] AWp AOps aa ax OrOk ab ae
attribute [local irreducible] aB badI badS cm rngR ownB
attribute [local irreducible] firstTab dI
theorem lV (s : List UInt8) : ((aB s).2 = 0 → (aB s).1 = 0) ∧ ((aB s).2 = 1 → (aB s).1 < 128) ∧ (s.length = 0 → (aB s).2 = 0) := by
 refine ⟨?_, ?_, ?_⟩
 ·unfold aB; (repeat' split) <;> simp
 ·unfold aB; (repeat' split) <;> simp; omega
 ·intro h; unfold aB; simp [h]
theorem yT (s : List UInt8) : (((aB s).2 : Int) = 0 → ((dI s).2 : Int) = 0 ∧ s.length = 0 ∨ ((dI s).1 : Int) = 65533 ∧ ((dI s).2 : Int) = 1) ∧ (((aB s).2 : Int) ≠ 0 → ((dI s).1 : Int) = (aB s).1 ∧ ((dI s).2 : Int) = (aB s).2) := by
 have hf := lV s
 unfold dI
 by_cases h0 : s.length = 0
 ·rw [if_pos h0]
  refine ⟨fun _ => .inl ⟨rfl, h0⟩, fun h => absurd (hf.2.2 h0) (by omega)⟩
 ·rw [if_neg h0]
  by_cases h1 : (aB s).2 = 0
  ·rw [if_pos h1]
   exact ⟨fun _ => .inr ⟨rfl, rfl⟩, fun h => absurd h1 (by omega)⟩
  ·rw [if_neg h1]
   exact ⟨fun h => absurd h (by omega), fun _ => ⟨rfl, rfl⟩⟩
theorem A0 {G : Glo} (hU : ab G utfTy) (s : List UInt8) :
  FnIs Tryz.prog G 71 [.str s] (.tuple [.int .i64 ((aB s).1 : Int), .int .i64 ((aB s).2 : Int)]) := by
 have hGL : ab G [] := ad
 refine fn_x Tryz.func71 Tryz.call71 rfl rfl rfl rfl hGL ?_
 intro C hC
 have hd := Ce (G := G) hU s
 have hn := kB s
 have hf := lV s
 have hr := yT s
 have hk : ((dI s).1 : Int) ≤ 1114111 := by
  by_cases h : (aB s).2 = 0
  ·unfold dI; rw [if_pos h]; split <;> decide
  ·omega
 repeat' (first | (conv => whnf); first | refine .w ?_ | refine .v ?_ | refine sc_c ?_ ?_ <;> (intro hb; try exact dd hb) | apply ah | apply aq | (apply sc_i <;> intro hb) | (apply bx_i; intro hbd) | (apply ak; first | exact hd) | (apply ap (i := 0) rfl; first | exact hd) | (apply ab_i; intro bl) | (apply as_i; intro va vk vc hva) | (apply av_i; intro v) | (apply ac_i; intro bl cap hcap) | apply bo_l | (apply nx_i <;> intro hnx) | exact rt_w | apply dw_q mixed hC hGL (by kernel_rfl) | (apply cq; assumption; (first | exact hd); exact rfl))
 all_goals try conv => whnf
 all_goals (refine tup2 ?_; omega)
theorem xm {G : Glo} (hU : ab G utfTy) (s : List UInt8) (hl : s.length ≤ 9223372036854775807) : FnIs Tryz.prog G 29 [.str s] (.int .i64 (badI s)) := by
 have hGL : ab G [] := ad
 refine fn_x Tryz.func29 Tryz.call29 rfl rfl rfl rfl hGL ?_
 intro C hC
 have hle := fun k => kB (s.drop k)
 have hN := fun t => A0 (G := G) hU t
 repeat' (first | (conv => whnf); first | refine .w ?_ | refine .v ?_ | refine sc_c ?_ ?_ <;> (intro hb; try exact dd hb) | apply ah | apply aq | (apply sc_i <;> intro hb) | (apply bx_i; intro hbd) | (apply ak; first | exact hN _) | (apply ap (i := 0) rfl; first | exact hN _) | (apply ab_i; intro bl) | (apply as_i; intro va vk vc hva) | (apply av_i; intro v) | (apply ac_i; intro bl cap hcap) | apply bo_l | (apply nx_i <;> intro hnx) | exact rt_w | apply dw_q mixed hC hGL (by kernel_rfl) | (apply cq; assumption; (first | exact hN _); exact rfl))
 all_goals try conv => whnf
 refine lp hC hGL (fun (i : Nat) => [(0, .str s), (7, .own 0 (.pointer (some ⟨bl, 0, none⟩)))]) (fun i => [.iter bl s i]) (fun i => i ≤ s.length ∧ badS s = (badS (s.drop i)).map (· + i)) (fun i => s.length - i) 0 ?_ aj rfl ?_
 ·exact ⟨Nat.zero_le _, by simp⟩
 rintro i ⟨hi, hb0⟩
 have hn := hle i
 rw [List.length_drop] at hn
 repeat' (first | (conv => whnf); first | refine .w ?_ | refine .v ?_ | refine sc_c ?_ ?_ <;> (intro hb; try exact dd hb) | apply ah | apply aq | (apply sc_i <;> intro hb) | (apply bx_i; intro hbd) | (apply ak; first | exact hN _) | (apply ap (i := 0) rfl; first | exact hN _) | (apply ab_i; intro bl) | (apply as_i; intro va vk vc hva) | (apply av_i; intro v) | (apply ac_i; intro bl cap hcap) | apply bo_l | (apply nx_i <;> intro hnx) | exact rt_w | apply dw_q mixed hC hGL (by kernel_rfl) | (apply cq; assumption; (first | exact hN _); exact rfl))
 all_goals try conv => whnf
 ·apply ar
  refine congrArg (AVal.int .i64) ?_
  have h1 := jq (s.drop i) (by rw [List.length_drop]; omega)
  rw [if_pos (by omega)] at h1
  rw [h1] at hb0
  simp only [badI, hb0, Option.map_some, Nat.zero_add]
 ·have h1 := jq (s.drop i) (by rw [List.length_drop]; omega)
  rw [if_neg (by omega)] at h1
  have h2 : cm (s.drop i) = (aB (s.drop i)).2 := by unfold cm; rw [if_neg (by omega)]
  refine nxt (i + cm (s.drop i)) ⟨by omega, ?_⟩ (by omega) ⟨rfl, rfl, trivial⟩ rfl
  rw [hb0, h1, List.drop_drop, h2]
  cases badS (s.drop (i + (aB (s.drop i)).2)) <;> simp <;> omega
 ·apply ar
  refine congrArg (AVal.int .i64) ?_
  rw [ue (s.drop i) (by rw [List.length_drop]; omega)] at hb0
  simp only [badI, hb0, Option.map_none]
end
section
open Go Go.RowKit
theorem kG {b : Bool} {c : Int} (h : (c < 32 ∧ c ≠ 9 ∧ c ≠ 10) ∨ c = 127 ∨ (c = 10 ∧ b = false)) : hdC b c = true := decide_eq_true (by
 rcases h with h | h | h
 ·exact .inl ⟨h.1, h.2.1, .inl h.2.2⟩
 ·exact .inr h
 ·exact .inl ⟨by omega, by omega, .inr h.2⟩)
theorem qZ {b : Bool} {c : Int} (h1 : c ≠ 127) (h : 32 ≤ c ∨ c = 9 ∨ (c = 10 ∧ b = true)) : hdC b c = false := decide_eq_false (by
 rintro (k | k)
 ·rcases h with h | h | h
  ·omega
  ·omega
  ·rcases k.2.2 with m | m
   ·exact m h.1
   ·rw [h.2] at m; cases m
 ·exact h1 k)
theorem EX {c : Int} : hdC true c = true ↔ (c < 32 ∧ c ≠ 9 ∧ c ≠ 10) ∨ c = 127 := by simp [hdC]
theorem pP {c : Int} : hdC false c = true ↔ (c < 32 ∧ c ≠ 9) ∨ c = 127 := by simp [hdC]
theorem F2 {b : Bool} {s : List UInt8} {i : Nat} (hi : i < s.length) (h : hdC b (aa s i : Int) = true) (hb : ∀ j, j < i → hdC b (aa s j : Int) = false) : hdB b s = false := by
 unfold hdB
 rw [gf hi h hb]
 exact decide_eq_false (by omega)
theorem Eb {b : Bool} {s : List UInt8} {i : Nat} (hi : s.length ≤ i) (hb : ∀ j, j < i → hdC b (aa s j : Int) = false) : hdB b s = ltB (badI s) 0 := by
 unfold hdB
 rw [dO (fun j hj => hb j (by omega)), Bool.eq_iff_iff, lZ]
 simp
attribute [local irreducible] AWp AOps aa ax OrOk ab ae
attribute [local irreducible] hdC hdB badI
theorem iB {G : Glo} (c : Int) : FnIs Tryz.prog G 36 [.int .u8 c] (.bool (hdC false c)) := by
 have hGL : ab G [] := ad
 refine fn_x Tryz.func36 Tryz.call36 rfl rfl rfl rfl hGL ?_
 intro C hC
 refine xw ?_
 repeat' (first | exact Le.n | refine Lc.mk ?_ ?_)
 all_goals intros
 all_goals (apply ar; refine congrArg AVal.bool ?_)
 all_goals (rw [Bool.eq_iff_iff, pP]; simp only [eV, reduceCtorEq, true_iff, false_iff]; omega)
end
section
open Go Go.RowKit
attribute [local irreducible] AWp AOps aa ax OrOk ab ae
attribute [local irreducible] hdC hdB badI
theorem kE {G : Glo} (c : Int) : FnIs Tryz.prog G 57 [.int .u8 c] (.bool (hdC false c)) := by
 have hGL : ab G [] := ad
 refine fn_x Tryz.func57 Tryz.call57 rfl rfl rfl rfl hGL ?_
 intro C hC
 refine xw ?_
 repeat' (first | exact Le.n | refine Lc.mk ?_ ?_)
 all_goals intros
 all_goals (apply ar; refine congrArg AVal.bool ?_)
 all_goals (rw [Bool.eq_iff_iff, pP]; simp only [eV, reduceCtorEq, true_iff, false_iff]; omega)
end
section
open Go
theorem pM {a b c : UInt8} (r : Int) : (0 ≤ idxB [a, b, c] r ↔ ∃ x ∈ [a, b, c], r = x.toNat) := by
 unfold idxB
 simp only [idxF, List.mem_cons, List.not_mem_nil, or_false, exists_eq_or_imp, exists_eq_left]
 split
 ·omega
 ·split
  ·omega
  ·split <;> omega
end
section
open Go Go.RowKit
abbrev pS (b : Nat) : Value := .pointer (some ⟨b, 0, none⟩)
abbrev rdC (b : Nat) (s : List UInt8) (a : Nat) (c : Bool) : HEnt := .cells b (some 114) [.str s, .int .i64 (a : Nat), .bool c]
abbrev fltA (e p : Int) : AVal := .iface 110 (.agg [.int .i64 e, .int .i64 p])
theorem jo {s : List UInt8} {k j : Nat} : aa (s.drop k) j = aa s (k + j) := by
 unfold aa
 simp [List.getD, List.getElem?_drop]
theorem nD {s : List UInt8} {x : Nat} (h : x < s.length) : isS ((s.take (x + 1)).drop x) = aG (aa s x : Int) := by
 have hl : ((s.take (x + 1)).drop x).length = 1 := by rw [List.length_drop, List.length_take]; omega
 have hb : aa ((s.take (x + 1)).drop x) 0 = aa s x := by
  rw [jo, cg (by omega)]
  rfl
 unfold isS
 rw [hl]
 cases k : aG (aa s x : Int) with
 | true =>
  have : allB aG ((s.take (x + 1)).drop x) = true := lP.2 fun j hj => by
   rw [show j = 0 by omega, hb]; exact k
  rw [this]
  rfl
 | false =>
  have : allB aG ((s.take (x + 1)).drop x) = false := wI (j := 0) (by omega) (by rw [hb]; exact k)
  rw [this]
  rfl
attribute [local irreducible] AWp AOps aa ax OrOk ab ae
attribute [local irreducible] hdC hdB badI isS decS aG
theorem gV {G : Glo} (v : Value) (e p : Int) : ae Tryz.prog G 56 [.raw v, .int .i64 e, .int .i64 p] [] (fun r H => r = .panic (fltA e p) ∧ H = []) := by
 have hGL : ab G [] := ad
 refine fn_x Tryz.func56 Tryz.call56 rfl rfl rfl rfl hGL ?_
 intro C hC
 repeat' (first | (conv => whnf); first | refine .w ?_ | refine .v ?_ | refine sc_c ?_ ?_ <;> (intro hb; try exact dd hb) | apply ah | apply aq | (apply sc_i <;> intro hb) | (apply bx_i; intro hbd) | (apply ak; first | fail) | (apply ap (i := 0) rfl; first | fail) | (apply ab_i; intro bl) | (apply as_i; intro va vk vc hva) | (apply av_i; intro v) | (apply ac_i; intro bl cap hcap) | apply bo_l | (apply nx_i <;> intro hnx) | exact rt_w | apply dw_q mixed hC hGL (by kernel_rfl) | (apply cq; assumption; (first | fail); exact rfl))
 all_goals try conv => whnf
 exact EQ rfl
theorem gW {G : Glo} (b : Nat) (s : List UInt8) (a : Nat) (cr : Bool) (c : Int) (hl : s.length ≤ 1000000) (ha : a ≤ s.length) : ae Tryz.prog G 54 [.raw (pS b), .int .u8 c] [rdC b s a cr]
  (fun r H => r = .ret (.bool (atB s a c)) ∧ H = [rdC b s (if atB s a c then a + 1 else a) cr]) := by
 have hGL : ab G [] := ad
 refine fR [(0, 0, pS b)] Tryz.func54 Tryz.call54 rfl rfl rfl rfl (by repeat (first | exact trivial | refine And.intro ⟨rfl, rfl⟩ ?_)) ?_
 intro C hC
 cases h : atB s a c with
 | true =>
  obtain ⟨h1, h2⟩ := bB.1 h
  rw [if_pos rfl]
  refine aH hC hGL (xw ?_)
  repeat' (first | exact Le.n | refine Lc.mk ?_ ?_)
  all_goals intros
  all_goals skip
 | false =>
  have h1 := yo.1 h
  rw [if_neg (by decide)]
  refine aH hC hGL (xw ?_)
  repeat' (first | exact Le.n | refine Lc.mk ?_ ?_)
  all_goals intros
  all_goals skip
theorem pH {G : Glo} (b : Nat) (s : List UInt8) (a : Nat) (cr : Bool) (hl : s.length ≤ 1000000) (ha : a ≤ s.length) : ae Tryz.prog G 53 [.raw (pS b)] [rdC b s a cr]
  (fun r H => (∃ w j, aR s a = .ok (w, j) ∧ r = .ret (.str w) ∧ H = [rdC b s j cr]) ∨ (∃ e p j, aR s a = .bad e p ∧ r = .panic (fltA e p) ∧ H = [rdC b s j cr])) := by
 have hI := fun t h => xF (G := G) t h
 have hc := Tryz.call90
 have hT := fun e p => gV (G := G) (pS b) e p
 have hGL : ab G [] := ad
 refine fR [(0, 0, pS b)] Tryz.func53 Tryz.call53 rfl rfl rfl rfl (by repeat (first | exact trivial | refine And.intro ⟨rfl, rfl⟩ ?_)) ?_
 intro C hC
 refine aH hC hGL (xw1 ?_)
 refine lp hC hGL (fun x : Nat => [(0, .own 0 (pS b)), (3, .int .i64 (a : Nat))]) (fun x => [rdC b s x cr]) (fun x => a ≤ x ∧ x ≤ s.length ∧ cb aG s x = cb aG s a) (fun x => s.length - x) a ⟨Nat.le_refl _, ha, rfl⟩ aj rfl ?_
 rintro x ⟨h1, h2, h3⟩
 by_cases hx : x < s.length
 ·have k1 : FnIs Tryz.prog G 90 [.str ((s.take (x + 1)).drop x)] (.bool (aG (aa s x : Int))) := by
   have := hI ((s.take (x + 1)).drop x) (by rw [List.length_drop, List.length_take]; omega)
   rwa [nD hx] at this
  cases hk : aG (aa s x : Int) with
  | true =>
   rw [hk] at k1
   refine xw1 ?_
   intros
   exact nxt (x + 1) ⟨by omega, by omega, (kc hx hk).symm.trans h3⟩ (by omega) aj rfl
  | false =>
   rw [hk] at k1
   have hsp : cb aG s a = x := h3.symm.trans (gM hk)
   have k2 := hI ((s.take x).drop a) (by rw [List.length_drop, List.length_take]; omega)
   cases hw : isS ((s.take x).drop a) with
   | true =>
    have hr : aR s a = .ok ((s.take x).drop a, x) := by unfold aR; rw [hsp, if_pos hw]
    rw [hw] at k2
    refine xw1 ?_
    intros
    exact ⟨_, List.Sublist.refl _, .inl ⟨_, _, hr, rfl, rfl⟩⟩
   | false =>
    have hr : aR s a = .bad 5 a := by unfold aR; rw [hsp, if_neg (by rw [hw]; decide)]
    rw [hw] at k2
    refine xw1 ?_
    intros
    refine bC (hT 5 a) ?_
    exact ⟨_, List.Sublist.refl _, .inr ⟨_, _, _, hr, rfl, rfl⟩⟩
 ·have hsp : cb aG s a = x := h3.symm.trans (iy (by omega))
  have k2 := hI ((s.take x).drop a) (by rw [List.length_drop, List.length_take]; omega)
  cases hw : isS ((s.take x).drop a) with
  | true =>
   have hr : aR s a = .ok ((s.take x).drop a, x) := by unfold aR; rw [hsp, if_pos hw]
   rw [hw] at k2
   refine xw1 ?_
   intros
   exact ⟨_, List.Sublist.refl _, .inl ⟨_, _, hr, rfl, rfl⟩⟩
  | false =>
   have hr : aR s a = .bad 5 a := by unfold aR; rw [hsp, if_neg (by rw [hw]; decide)]
   rw [hw] at k2
   refine xw1 ?_
   intros
   refine bC (hT 5 a) ?_
   exact ⟨_, List.Sublist.refl _, .inr ⟨_, _, _, hr, rfl, rfl⟩⟩
theorem B5 {q : Bool} {c : Int} (h0 : 0 ≤ c) (h1 : c < 256) : endQ q c = (decide (c = 34) || (!q && decide (0 ≤ idxB [44, 59, 58] c))) := by
 have e : 0 ≤ idxB [44, 59, 58] c ↔ (c = 44 ∨ c = 59 ∨ c = 58) := by
  have := pM (a := 44) (b := 59) (c := 58) c
  rw [this]
  simp
 rw [Bool.eq_iff_iff, v8, Bool.or_eq_true, Bool.and_eq_true, decide_eq_true_eq, decide_eq_true_eq, e]
 cases q <;> simp
theorem nM {G : Glo} (b : Nat) (s : List UInt8) (a : Nat) (cr : Bool) (hl : s.length ≤ 1000000) (ha : a ≤ s.length) : ae Tryz.prog G 91 [.raw (pS b)] [rdC b s a cr]
  (fun r H => (∃ v j, valP cr s a = .ok (v, j) ∧ r = .ret (.str v) ∧ H = [rdC b s j cr]) ∨ (∃ e p j, valP cr s a = .bad e p ∧ r = .panic (fltA e p) ∧ H = [rdC b s j cr])) := by
 have hX := fun c h0 h1 => aL (G := G) [44, 59, 58] c h0 h1
 have hN := fun c => kE (G := G) c
 have hT := fun e p => gV (G := G) (pS b) e p
 have hD := fun t h => rj (G := G) t h
 have hi1 := gW (G := G) b s a cr 34 hl ha
 have hq := mA s a
 have eF : (if atB s a 34 then a + 1 else a) = valF s a := rfl
 rw [eF] at hi1
 have hGL : ab G [] := ad
 refine fR [(0, 0, pS b)] Tryz.func91 Tryz.call91 rfl rfl rfl rfl (by repeat (first | exact trivial | refine And.intro ⟨rfl, rfl⟩ ?_)) ?_
 intro C hC
 refine aH hC hGL (xw1 ?_)
 refine lp hC hGL (fun x : Nat => [(0, .own 0 (pS b)), (3, .bool (atB s a 34)), (4, .int .i64 (valF s a : Nat))]) (fun x => [rdC b s x cr]) (fun x => valF s a ≤ x ∧ x ≤ s.length ∧ cb (goQ (atB s a 34)) s x = valJ s a) (fun x => s.length - x) (valF s a) ⟨Nat.le_refl _, hq.2.2 ha, rfl⟩ aj rfl ?_
 rintro x ⟨h1, h2, h3⟩
 have hlv : ((s.take x).drop (valF s a)).length ≤ 1000000 := by rw [List.length_drop, List.length_take]; omega
 have hd := hD ((s.take x).drop (valF s a)) hlv
 have hi2 := gW (G := G) b s x cr 34 hl h2
 have fin : ∀ {v : List UInt8} {j : Nat} {w : AVal} {H : Heap}, valP cr s a = .ok (v, j) → w = .str v → H = [rdC b s j cr] → Rt (fun r H => (∃ v j, valP cr s a = .ok (v, j) ∧ r = .ret (.str v) ∧ H = [rdC b s j cr]) ∨ (∃ e p j, valP cr s a = .bad e p ∧ r = .panic (fltA e p) ∧ H = [rdC b s j cr])) w H := by
  rintro v j w H h1 rfl rfl
  exact ⟨_, List.Sublist.refl _, .inl ⟨_, _, h1, rfl, rfl⟩⟩
 have bad : ∀ {e p : Int} {n j : Nat} {H : Heap}, valP cr s a = .bad e n → p = n → H = [rdC b s j cr] → Pn (fun r H => (∃ v j, valP cr s a = .ok (v, j) ∧ r = .ret (.str v) ∧ H = [rdC b s j cr]) ∨ (∃ e p j, valP cr s a = .bad e p ∧ r = .panic (fltA e p) ∧ H = [rdC b s j cr])) (fltA e p) H := by
  rintro e p n j H h1 rfl rfl
  exact ⟨_, List.Sublist.refl _, .inr ⟨_, _, _, h1, rfl, rfl⟩⟩
 by_cases hx : x < s.length
 ·have hb := aX s x
  have hx1 := hX (aa s x : Int) (by omega) (by omega)
  have hn1 := hN (aa s x : Int)
  have he := B5 (q := atB s a 34) (c := (aa s x : Int)) (by omega) (by omega)
  generalize idxB [44, 59, 58] (aa s x : Int) = ix at hx1 he
  cases hk : endQ (atB s a 34) (aa s x : Int) with
  | false =>
   have h34 : (aa s x : Int) ≠ 34 := fun h => (Ga.1 hk) (.inl h)
   rw [hk] at he
   have hix : atB s a 34 = false → ix < 0 := fun h => by
    rw [h] at he
    have he := he.symm
    rw [Bool.or_eq_false_iff, Bool.not_false, Bool.true_and, decide_eq_false_iff_not, decide_eq_false_iff_not] at he
    omega
   cases hc : hdC false (aa s x : Int) with
   | false =>
    rw [hc] at hn1
    have hgo : goQ (atB s a 34) (aa s x : Int) = true := by unfold goQ; rw [hk, hc]; rfl
    have k : valF s a ≤ x + 1 ∧ x + 1 ≤ s.length ∧ cb (goQ (atB s a 34)) s (x + 1) = valJ s a := ⟨by omega, by omega, (kc hx hgo).symm.trans h3⟩
    cases hqa : atB s a 34 with
    | true =>
     rw [hqa] at k
     refine xw1 ?_
     intros
     exact nxt (x + 1) k (by omega) aj rfl
    | false =>
     have hix := hix hqa
     rw [hqa] at k
     refine xw1 ?_
     intros
     exact nxt (x + 1) k (by omega) aj rfl
   | true =>
    rw [hc] at hn1
    have hJ : valJ s a = x := h3.symm.trans (gM (by unfold goQ; rw [hk, hc]; rfl))
    have hv : valP cr s a = .bad 3 x := by unfold valP; rw [hJ, if_pos ⟨hx, hk⟩]
    cases hqa : atB s a 34 with
    | true =>
     refine xw1 ?_
     intros
     refine bC (hT 3 x) ?_
     exact bad hv rfl rfl
    | false =>
     have hix := hix hqa
     refine xw1 ?_
     intros
     refine bC (hT 3 x) ?_
     exact bad hv rfl rfl
  | true =>
   have hJ : valJ s a = x := h3.symm.trans (gM (by unfold goQ; rw [hk]; rfl))
   cases hqa : atB s a 34 with
   | true =>
    rw [hqa] at hk
    have h34 : (aa s x : Int) = 34 := by
     rcases v8.1 hk with h | ⟨h, _⟩
     ·exact h
     ·cases h
    rw [bB.2 ⟨hx, h34⟩, if_pos rfl] at hi2
    have hv : valP cr s a = .ok (dIf cr ((s.take x).drop (valF s a)), x + 1) := by
     unfold valP
     rw [hJ, hqa, if_neg (by rw [hk]; simp), if_neg (by decide), if_pos hx]
    cases cr with
    | true =>
     refine xw1 ?_
     intros
     exact fin hv rfl rfl
    | false =>
     refine xw1 ?_
     intros
     exact fin hv rfl rfl
   | false =>
    rw [hk, hqa] at he
    have hv : valP cr s a = .ok (dIf cr ((s.take x).drop (valF s a)), x) := by
     unfold valP
     rw [hJ, hk, if_neg (by simp), if_pos hqa]
    by_cases h34 : (aa s x : Int) = 34
    ·cases cr with
     | true =>
      refine xw1 ?_
      intros
      exact fin hv rfl rfl
     | false =>
      refine xw1 ?_
      intros
      exact fin hv rfl rfl
    ·have hix : 0 ≤ ix := by
      rw [decide_eq_false h34] at he
      simpa using he
     cases cr with
     | true =>
      refine xw1 ?_
      intros
      exact fin hv rfl rfl
     | false =>
      refine xw1 ?_
      intros
      exact fin hv rfl rfl
 ·have hJ : valJ s a = x := h3.symm.trans (iy (by omega))
  cases hqa : atB s a 34 with
  | true =>
   rw [yo.2 (by omega), if_neg (by decide)] at hi2
   have hv : valP cr s a = .bad 7 x := by
    unfold valP
    rw [hJ, hqa, if_neg (by omega), if_neg (by decide), if_neg hx]
   refine xw1 ?_
   intros
   refine bC (hT 7 x) ?_
   exact bad hv rfl rfl
  | false =>
   have hv : valP cr s a = .ok (dIf cr ((s.take x).drop (valF s a)), x) := by
    unfold valP
    rw [hJ, hqa, if_neg (by omega), if_pos rfl]
   cases cr with
   | true =>
    refine xw1 ?_
    intros
    exact fin hv rfl rfl
   | false =>
    refine xw1 ?_
    intros
    exact fin hv rfl rfl
end
section
open Go Go.RowKit
def prsC (ps : List Pr) : List AVal := ps.flatMap fun q => [.str q.n, .list 1 q.vs.length (aO q.vs)]
theorem nu : ∀ ps : List Pr, (prsC ps).length = ps.length * 2
 | [] => rfl
 | q :: l => by
  have := nu l
  simp only [prsC, List.flatMap_cons, List.length_append, List.length_cons, List.length_nil] at *
  omega
theorem pr (ps : List Pr) (q : Pr) : prsC (ps ++ [q]) = prsC ps ++ [.str q.n, .list 1 q.vs.length (aO q.vs)] := by
 simp [prsC]
def ju (c : Bool) (s : List UInt8) (a : Nat) (vs : List (List UInt8)) : PR (List (List UInt8) × Nat) := if atB s a 44 then ca c s (a + 1) vs else .ok (vs, a)
theorem iV {c : Bool} {s v : List UInt8} {a b : Nat} {acc : List (List UInt8)} (h : valP c s a = .ok (v, b)) : ca c s a acc = ju c s b (acc ++ [v]) := by
 unfold ju
 cases hb : atB s b 44 with
 | true => rw [im h hb, if_pos rfl]
 | false => rw [gq h hb, if_neg (by decide)]
section
variable {C : Ctx} {n : Nat} {e : Env}
theorem wU {h h' : Heap} (hh : h'.Sublist h) : To C n e h e h' := fun R _ _ hm hf => ⟨R, Seal.le_refl R, hm.drop hh, hf⟩
theorem Ff {c0 : HEnt} {va : Value} {acc : List Pr} {w : List UInt8} {vs : List (List UInt8)} {u : Value} {m bp : Nat} (hm : m = (acc ++ [(⟨w, vs⟩ : Pr)]).length) : To C n e [c0, .row va none 2 m (prsC acc ++ ([.str w, .own 3 u] : List AVal)), .cells bp (some 74) [.str w, .own 3 u], .row u none 1 vs.length (bM vs)] e
  [c0, .row va none 2 (acc ++ [(⟨w, vs⟩ : Pr)]).length (prsC (acc ++ [⟨w, vs⟩]))] := by
 have hI := nu acc
 rw [← hm]
 have e1 : (prsC acc ++ ([.str w, .own 3 u] : List AVal)).set (acc.length * 2 + 1) (.list 1 vs.length (aO vs)) = prsC (acc ++ [⟨w, vs⟩]) := by
  rw [List.set_append_right _ _ (by omega), hI, Nat.add_sub_cancel_left, pr]
  rfl
 rw [← e1]
 refine aN (qc (i := 3) (k := 1) (p := acc.length * 2 + 1) (aO vs) rfl rfl (dS vs) (fun R hr => .row (a := .own 3 u) ?_ fun _ => gC hr)) (wU ?_)
 ·rw [List.getElem?_append_right (by omega), hI, Nat.add_sub_cancel_left]; rfl
 ·exact List.Sublist.cons_cons _ (List.Sublist.cons_cons _ (List.nil_sublist _))
end
attribute [local irreducible] AWp AOps aa ax OrOk ab ae
attribute [local irreducible] hdC hdB badI isS decS aG prsC To
abbrev slV (a : Option Addr) (k c : Nat) : Value := .slice a k c
theorem tf {G : Glo} (b : Nat) (s : List UInt8) (a : Nat) (cr : Bool) (hl : s.length ≤ 1000000) (ha : a ≤ s.length) : ae Tryz.prog G 55 [.raw (pS b)] [rdC b s a cr]
  (fun r H => (∃ ps j va vk vc, bq cr s a [] = .ok (ps, j) ∧ r = .ret (.own 1 (.slice va vk vc)) ∧ H = [rdC b s j cr, .row (.slice va vk vc) none 2 ps.length (prsC ps)]) ∨ (∃ e p j, bq cr s a [] = .bad e p ∧ r = .panic (fltA e p) ∧ H = [rdC b s j cr])) := by
 have hT := fun e p => gV (G := G) (pS b) e p
 have bad : ∀ {e p : Int} {q j : Nat} {T : Heap}, bq cr s a [] = .bad e q → p = q → Pn (fun r H => (∃ ps j va vk vc, bq cr s a [] = .ok (ps, j) ∧ r = .ret (.own 1 (.slice va vk vc)) ∧ H = [rdC b s j cr, .row (.slice va vk vc) none 2 ps.length (prsC ps)]) ∨ (∃ e p j, bq cr s a [] = .bad e p ∧ r = .panic (fltA e p) ∧ H = [rdC b s j cr])) (fltA e p) (rdC b s j cr :: T) := by
  rintro e p q j T h1 rfl
  exact ⟨_, List.Sublist.cons_cons _ (List.nil_sublist _), .inr ⟨_, _, _, h1, rfl, rfl⟩⟩
 have hGL : ab G [] := ad
 refine fR [(0, 0, pS b)] Tryz.func55 Tryz.call55 rfl rfl rfl rfl (by repeat (first | exact trivial | refine And.intro ⟨rfl, rfl⟩ ?_)) ?_
 intro C hC
 refine aH hC hGL (xn1 ?_)
 refine lpT hC hGL (fun x : Nat × List Pr × Option Addr × Nat × Nat => [(0, .own 0 (pS b)), (3, .own 1 (slV x.2.2.1 x.2.2.2.1 x.2.2.2.2))]) (fun x => [rdC b s x.1 cr, .row (slV x.2.2.1 x.2.2.2.1 x.2.2.2.2) none 2 x.2.1.length (prsC x.2.1)]) (fun x => x.1 ≤ s.length ∧ x.2.1.length ≤ 20 ∧ bq cr s x.1 x.2.1 = bq cr s a []) (fun x => s.length - x.1) (a, [], none, 0, 0) ⟨ha, Nat.zero_le _, rfl⟩ ?_ ?_
 ·refine aN (j7 2) (aN (Fg (k := 3) (i := 1) rfl rfl) (dl aj ?_))
  rw [show prsC [] = [] by unfold prsC; rfl]
  exact List.Sublist.refl _
 rintro ⟨at0, acc, va, vk, vc⟩ ⟨h1, h2, h3⟩
 dsimp only at h1 h2 h3 ⊢
 have hi0 := gW (G := G) b s at0 cr 59 hl h1
 cases hq : atB s at0 59 with
 | false =>
  rw [hq, if_neg (by decide)] at hi0
  refine xn1 ?_
  intros
  exact ⟨_, List.Sublist.refl _, .inl ⟨acc, at0, _, _, _, h3.symm.trans (eD hq), rfl, rfl⟩⟩
 | true =>
  rw [hq, if_pos rfl] at hi0
  have hb1 := (bB.1 hq).1
  have hw0 := pH (G := G) b s (at0 + 1) cr hl (by omega)
  refine xn1 ?_
  intros
  refine ⟨_, cf [.row (slV va vk vc) none 2 acc.length (prsC acc)] hw0, ?_, ?_⟩
  rotate_left
  ·rintro _ _ ⟨_, (⟨_, _, _, e, _⟩ | ⟨e', q, jj, hw, e, rfl⟩), rfl⟩
   ·cases e
   ·cases e
    exact bad (h3.symm.trans (dB hq hw)) rfl
  rintro _ _ ⟨_, (⟨w, j, hw, e, rfl⟩ | ⟨_, _, _, _, e, _⟩), rfl⟩
  rotate_left
  ·cases e
  cases e
  have hj := bL hw
  have hjl : j ≤ s.length := hj.2.1 (by omega)
  have hi1 := gW (G := G) b s j cr 61 hl hjl
  cases h61 : atB s j 61 with
  | false =>
   rw [h61, if_neg (by decide)] at hi1
   refine xn1 ?_
   intros
   refine bC (hT 7 j) ?_
   exact bad (h3.symm.trans (fM hq hw h61)) rfl
  | true =>
   rw [h61, if_pos rfl] at hi1
   have hb2 := (bB.1 h61).1
   have hv0 := nM (G := G) b s (j + 1) cr hl (by omega)
   refine xn1 ?_
   intro bp
   intros
   refine a8 mixed hC hGL false (fun v h => ∃ (e : Int) (q jj : Nat) (T : Heap), valP cr s (j + 1) = .bad e q ∧ v = fltA e q ∧ h = rdC b s jj cr :: T)
    (fun _ : { x : List UInt8 × Nat × Option Addr × Nat × Nat // valP cr s (j + 1) = .ok (x.1, x.2.1) } => [(0, .own 0 (pS b)), (3, .own 1 (slV va vk vc)), (4, .int .i64 ((at0 + 1 : Nat) : Int)), (5, .own 2 (pS bp))])
    (fun x => [rdC b s x.1.2.1 cr, .row (slV va vk vc) none 2 acc.length (prsC acc), .cells bp (some 74) [.str w, .own 3 (slV x.1.2.2.1 x.1.2.2.2.1 x.1.2.2.2.2)], .row (slV x.1.2.2.1 x.1.2.2.2.1 x.1.2.2.2.2) none 1 1 (bM [x.1.1])])
    (.take 0 (.take 2 (.br 1 (.br 3 (.br 4 (.br 5 (.take 6 (.br 7 (.done) (.nil))) (.nil)) (.nil)) (.nil)) (.br 3 (.br 1 (.br 4 (.br 5 (.take 6 (.br 7 (.done) (.nil))) (.nil)) (.nil)) (.br 4 (.br 1 (.br 5 (.take 6 (.br 7 (.done) (.nil))) (.nil)) (.nil)) (.nil))) (.nil))))) (by kernel_rfl) ?_ ?_ ?_
   ·refine xn ?_
    repeat' (first | exact Le.n | refine Lc.mk ?_ ?_)
    all_goals intros
    all_goals (
     refine ⟨_, cf [.row (slV va vk vc) none 2 acc.length (prsC acc), .cells bp (some 74) [.str w, .raw (.slice none 0 0)]] hv0, ?_, ?_⟩
     ·rintro _ _ ⟨_, (⟨v, b', hv, e, rfl⟩ | ⟨_, _, _, _, e, _⟩), rfl⟩
      ·cases e
       refine xn ?_
       repeat' (first | exact Le.n | refine Lc.mk ?_ ?_)
       all_goals intros
       all_goals exact ⟨⟨(v, b', _, _, _), hv⟩, aj, aD⟩
      ·cases e
     ·rintro _ _ ⟨_, (⟨_, _, _, e, _⟩ | ⟨e', q, jj, hv, e, rfl⟩), rfl⟩
      ·cases e
      ·cases e
       exact ⟨e', q, jj, _, hv, rfl, rfl⟩)
   rotate_left
   ·rintro v h ⟨e', q, jj, T, hv, rfl, rfl⟩
    exact bad (h3.symm.trans (cz hq hw h61 (dH hv))) rfl
   rintro ⟨⟨v1, b1, ua, uk, uc⟩, hv1⟩
   dsimp only at hv1 ⊢
   have hg1 := fh hv1
   refine xn1 ?_
   intros
   refine lpT hC hGL (fun x : Nat × List (List UInt8) × Option Addr × Nat × Nat => [(0, .own 0 (pS b)), (3, .own 1 (slV va vk vc)), (4, .int .i64 ((at0 + 1 : Nat) : Int)), (5, .own 2 (pS bp))])
    (fun x => [rdC b s x.1 cr, .row (slV va vk vc) none 2 acc.length (prsC acc), .cells bp (some 74) [.str w, .own 3 (slV x.2.2.1 x.2.2.2.1 x.2.2.2.2)], .row (slV x.2.2.1 x.2.2.2.1 x.2.2.2.2) none 1 x.2.1.length (bM x.2.1)])
    (fun x => x.1 ≤ s.length ∧ j + 1 ≤ x.1 ∧ x.2.1.length ≤ x.1 ∧ ju cr s x.1 x.2.1 = ca cr s (j + 1) []) (fun x => s.length - x.1) (b1, [v1], ua, uk, uc) ⟨hg1.2 (by omega), hg1.1, by simp only [List.length_cons, List.length_nil]; omega, (iV (acc := []) hv1).symm⟩ (dl aj aD) ?_
   rintro ⟨at2, vs, ua, uk, uc⟩ ⟨g1, g2, g3, g4⟩
   dsimp only at g1 g2 g3 g4 ⊢
   have hi2 := gW (G := G) b s at2 cr 44 hl g1
   cases h44 : atB s at2 44 with
   | false =>
    rw [h44, if_neg (by decide)] at hi2
    have hvs : ca cr s (j + 1) [] = .ok (vs, at2) := by rw [← g4]; unfold ju; rw [h44, if_neg (by decide)]
    by_cases h20 : acc.length = 20
    ·refine xn1 ?_
     intros
     refine bC (hT 4 ((at0 + 1 : Nat) : Int)) ?_
     exact bad (h3.symm.trans (eC hq hw h61 hvs h20)) rfl
    ·refine xn1 ?_
     intro wa wk wc _
     intros
     refine nxT (at2, acc ++ [⟨w, vs⟩], wa, wk, wc) ⟨g1, by simp only [List.length_append, List.length_cons, List.length_nil]; omega, (fL hq hw h61 hvs h20).symm.trans h3⟩ (by dsimp only; omega) ?_
     exact aN (dl aj (List.Sublist.refl _)) (Ff (by simp))
   | true =>
    rw [h44, if_pos rfl] at hi2
    have hb3 := (bB.1 h44).1
    have hv2 := nM (G := G) b s (at2 + 1) cr hl (by omega)
    have hgo : ju cr s at2 vs = ca cr s (at2 + 1) vs := by unfold ju; rw [h44, if_pos rfl]
    refine xn1 ?_
    intros
    refine a8 mixed hC hGL false (fun v h => ∃ (e : Int) (q jj : Nat) (T : Heap), valP cr s (at2 + 1) = .bad e q ∧ v = fltA e q ∧ h = rdC b s jj cr :: T)
     (fun _ : { x : List UInt8 × Nat × Option Addr × Nat × Nat // valP cr s (at2 + 1) = .ok (x.1, x.2.1) } => [(0, .own 0 (pS b)), (3, .own 1 (slV va vk vc)), (4, .int .i64 ((at0 + 1 : Nat) : Int)), (5, .own 2 (pS bp))])
     (fun x => [rdC b s x.1.2.1 cr, .row (slV va vk vc) none 2 acc.length (prsC acc), .cells bp (some 74) [.str w, .own 3 (slV x.1.2.2.1 x.1.2.2.2.1 x.1.2.2.2.2)], .row (slV x.1.2.2.1 x.1.2.2.2.1 x.1.2.2.2.2) none 1 (vs ++ [x.1.1]).length (bM (vs ++ [x.1.1]))])
     (.take 0 (.take 2 (.br 1 (.br 3 (.br 4 (.br 5 (.take 6 (.br 7 (.done) (.nil))) (.nil)) (.nil)) (.nil)) (.br 3 (.br 1 (.br 4 (.br 5 (.take 6 (.br 7 (.done) (.nil))) (.nil)) (.nil)) (.br 4 (.br 1 (.br 5 (.take 6 (.br 7 (.done) (.nil))) (.nil)) (.nil)) (.nil))) (.nil))))) (by kernel_rfl) ?_ ?_ ?_
    ·refine xn ?_
     repeat' (first | exact Le.n | refine Lc.mk ?_ ?_)
     all_goals intros
     all_goals (
      refine ⟨_, cf [.row (slV va vk vc) none 2 acc.length (prsC acc), .cells bp (some 74) [.str w, .own 3 (slV ua uk uc)], .row (slV ua uk uc) none 1 vs.length (bM vs)] hv2, ?_, ?_⟩
      ·rintro _ _ ⟨_, (⟨v, b', hv, e, rfl⟩ | ⟨_, _, _, _, e, _⟩), rfl⟩
       ·cases e
        refine xn ?_
        repeat' (first | exact Le.n | refine Lc.mk ?_ ?_)
        all_goals intros
        all_goals (
         rename_i wa wk wc wh
         refine ⟨⟨(v, b', wa, wk, wc), hv⟩, aj, ?_⟩
         dsimp only
         rw [← cx, List.length_append]
         exact aD)
       ·cases e
      ·rintro _ _ ⟨_, (⟨_, _, _, e, _⟩ | ⟨e', q, jj, hv, e, rfl⟩), rfl⟩
       ·cases e
       ·cases e
        exact ⟨e', q, jj, _, hv, rfl, rfl⟩)
    rotate_left
    ·rintro v h ⟨e', q, jj, T, hv, rfl, rfl⟩
     exact bad (h3.symm.trans (cz hq hw h61 (g4.symm.trans (hgo.trans (dH hv))))) rfl
    rintro ⟨⟨v3, b3, xa, xk, xc⟩, hv3⟩
    dsimp only at hv3 ⊢
    have hg3 := fh hv3
    refine xn1 ?_
    intros
    exact nxT (b3, vs ++ [v3], xa, xk, xc) ⟨hg3.2 (by omega), by omega, by simp only [List.length_append, List.length_cons, List.length_nil]; omega, ((iV hv3).symm.trans hgo.symm).trans g4⟩ (by dsimp only; omega) (dl aj aD)
end
section
open Go Go.RowKit
theorem vR {R : Seal} {t : TypeId} {a a' : AVal} (h : ∀ v, Rel R a v → Rel R a' v) {u : Value} : RelC R (.iface t a) [u] → RelC R (.iface t a') [u] := by
 rintro ⟨w, e, h1, h2⟩
 have := h w ⟨h1, h2⟩
 exact ⟨w, e, this.1, this.2⟩
theorem Ba {R : Seal} {j : Nat} {x : Value} {a : AVal} (h : Rel R a x) : ∀ v, Rel R (.own j x) v → Rel R a v := fun v hv => by rw [(aA.1 hv).1]; exact h
theorem Ej {P : Program} {G : Glo} {f : FuncId} {avs : List AVal} {m m' : AMode} {H H' : Heap} {v : AVal} {Y : Type} {H1 : Y → Heap} (h : cj P G f avs m H (fun r2 m2 H2 => m2 = m' ∧ r2 = .ret v ∧ ∃ y, H2 = H1 y))
  (hto : ∀ y (C : Ctx) R w, MS C R (H1 y) w → ∃ R', R.le R' ∧ MS C R' H' w) : cj P G f avs m H (fun r2 m2 H2 => m2 = m' ∧ r2 = .ret v ∧ H2 = H') := by
 intro R w args u hG hm ha hu
 refine (h R w args u hG hm ha hu).mono ?_
 rintro e u' w' ⟨res, m2, H2, R', ⟨rfl, rfl, y, rfl⟩, ⟨x, rfl, hr⟩, hu', hm'⟩
 obtain ⟨R2, hle, hm2⟩ := hto y _ _ _ hm'
 exact ⟨_, _, _, R2, ⟨rfl, rfl, rfl⟩, ⟨x, rfl, cD hle hr⟩, hu'.mono hle, hm2⟩
theorem B1 {P : Program} [Tab P] {G : Glo} {f : FuncId} {avs : List AVal} {H : Heap} {i : Nat} {x : HEnt} {Qf : ARes → Heap → Prop} (hi : H[i]? = some x) (hs : ae P G f avs [x] Qf) (hne : ∀ r H1, Qf r H1 → H1 ≠ []) :
  ae P G f avs H (fun r H' => ∃ y t, Qf r (y :: t) ∧ H' = H.set i y ++ t) := by
 have hp := cZ hi
 refine gh (gg (H1 := [x] ++ H.eraseIdx i) (by simpa using hp.symm) (cf (H.eraseIdx i) hs)) ?_
 rintro r H' ⟨H1', q, rfl⟩
 cases H1' with
 | nil => exact absurd rfl (hne _ _ q)
 | cons y t =>
  refine ⟨H.set i y ++ t, ?_, y, t, q, rfl⟩
  have h1 := eQ y hi
  exact ((List.perm_append_comm (l₁ := t) (l₂ := H.eraseIdx i)).cons y).trans (h1.append_right t)
def nz : List Nat → Heap → Heap
 | [], _ => []
 | i :: is, H => match H[i]? with
  | some x => x :: nz is (H.eraseIdx i)
  | none => []
def lS : List Nat → Heap → Heap
 | [], H => H
 | i :: is, H => match H[i]? with
  | some _ => lS is (H.eraseIdx i)
  | none => H
theorem jc : ∀ (is : List Nat) (H : Heap), H.Perm (nz is H ++ lS is H)
 | [], H => List.Perm.refl _
 | i :: is, H => by
  unfold nz lS
  cases h : H[i]? with
  | none => exact List.Perm.refl _
  | some x =>
   have h1 := cZ h
   exact h1.trans ((jc is (H.eraseIdx i)).cons x)
theorem rg (is : List Nat) {P : Program} [Tab P] {G : Glo} {f : FuncId} {avs : List AVal} {H H1 : Heap} {K Kp : AVal → Heap → Prop} {Qf : ARes → Heap → Prop} (hs : ae P G f avs H1 Qf) (e1 : nz is H = H1)
  (kr : ∀ v H1', Qf (.ret v) H1' → ∃ H2, nz is H2 = H1' ∧ lS is H2 = lS is H ∧ K v H2) (kp : ∀ v H1', Qf (.panic v) H1' → ∃ H2, nz is H2 = H1' ∧ lS is H2 = lS is H ∧ Kp v H2) : Cx P G f avs H K Kp := by
 subst e1
 have h1 := gg (jc is H).symm (cf (lS is H) hs)
 refine ⟨fun r H' => match r with | .ret v => K v H' | .panic v => Kp v H', gh h1 ?_, fun v H' h => h, fun v H' h => h⟩
 rintro r H' ⟨H1', q, rfl⟩
 cases r with
 | ret v =>
  obtain ⟨H2, g1, g2, k⟩ := kr v H1' q
  refine ⟨H2, ?_, k⟩
  have := jc is H2
  rw [g1, g2] at this
  exact this.symm
 | panic v =>
  obtain ⟨H2, g1, g2, k⟩ := kp v H1' q
  refine ⟨H2, ?_, k⟩
  have := jc is H2
  rw [g1, g2] at this
  exact this.symm
theorem fy {R R' : Seal} {a a' b : AVal} {x : Value} (hle : R.le R') (h : Rel R (.tuple [a, b]) x) (ht : ∀ v, Rel R a v → Rel R' a' v) : Rel R' (.tuple [a', b]) x := by
 obtain ⟨⟨ws, e, u, t, e1, hu, u2, t2, e2, hu2, rfl⟩, h2⟩ := h
 have k := ht u ⟨hu.1, hu.2⟩
 have k2 := cD hle (show Rel R b u2 from ⟨hu2.1, hu2.2⟩)
 exact ⟨⟨ws, e, _, _, e1, ⟨k.1, k.2⟩, _, _, e2, ⟨k2.1, k2.2⟩, rfl⟩, h2⟩
theorem ef {R R' : Seal} {cs : List AVal} {p : Nat} {a a' : AVal} {v : Value} (hle : R.le R') (h : Rel R (.agg cs) v) (hp : cs[p]? = some a) (ht : ∀ v, RelC R' a [v] → RelC R' a' [v]) : Rel R' (.agg (cs.set p a')) v :=
 ⟨ku ht (bX hle _ _ h.1) hp, h.2⟩
section
variable {P : Program} [Tab P] {C : Ctx} {n : Nat} {env : Env} {H : Heap} {Q : List Deferred → AExit → Env → Heap → Prop} {G : Glo} {GL : List (Nat × List AVal)}
theorem bx {a b : Code} {X : Type} (hC : C.G = G) (hGL : ab G GL) (I : X → Env) (J : X → Heap) (Inv : X → Prop) (h1 : dv P C n G GL a env H (ei (fun e h => Cy I J Inv e h) (Q C.D))) (h2 : ∀ x, Inv x → AWpD P C n b (I x) (J x) Q) : AWpD P C n (.seq a b) env H Q := by
 refine fw (CO ((bD hC hGL _ _ _ _ h1).mono fun x e h q => ?_))
 cases x with
 | normal =>
  obtain ⟨y, hy, hs, rfl⟩ := q.h
  exact fun R a w hm hf => h2 y hy R a w hm (hf.sub hs)
 | exit i => exact q
 | goto i => exact q
 | ret => exact q
 | panic v => exact q
theorem EU {rs : List ResultVar} {Qf : ARes → Heap → Prop} (h : RetQ P rs Qf .ret env H) : Lv P G n rs env [] .ret H Qf := by
 unfold Lv
 rintro C R a w fn u D0 hC hrs hm hf rfl
 obtain ⟨vs, H'', hv, hs, q⟩ := h
 obtain ⟨y, hy, hr⟩ := cd (fn := fn) hm hf (by rw [hrs]; exact hv)
 exact ⟨y, hy, _, H'', R, q, ⟨y, rfl, hr⟩, hm.drop hs⟩
end
end
section
open Go Go.RowKit
abbrev prC (b : Nat) (g n : List UInt8) (q : AVal) (v : List UInt8) : HEnt := .cells b (some 45) [.str g, .str n, q, .str v]
abbrev erC (b : Nat) (x : AVal) : HEnt := .cells b (some 39) [x]
abbrev nilS : AVal := .raw (.slice none 0 0)
abbrev atEA (e p : Int) : AVal := .iface 60 (.rop [.int .i64 e, .int .i64 p] 0)
abbrev dPar (b4 b5 : Nat) : Deferred := { target := .fn (.func 52) #[pS b4, pS b5], args := #[] }
theorem wM {G : Glo} {H : Heap} {i : Nat} (b : Nat) (s : List UInt8) (a : Nat) (cr : Bool) (hi : H[i]? = some (rdC b s a cr)) (hl : s.length ≤ 1000000) (ha : a ≤ s.length) : ae Tryz.prog G 53 [.raw (pS b)] H
  (fun r H' => (∃ w j, aR s a = .ok (w, j) ∧ r = .ret (.str w) ∧ H' = H.set i (rdC b s j cr)) ∨ (∃ e p j, aR s a = .bad e p ∧ r = .panic (fltA e p) ∧ H' = H.set i (rdC b s j cr))) := by
 refine (B1 hi (pH b s a cr hl ha) (by rintro _ _ (⟨_, _, _, _, rfl⟩ | ⟨_, _, _, _, _, rfl⟩) <;> simp)).mono ?_
 rintro r H' ⟨y, t, (⟨w, j, h1, h2, h3⟩ | ⟨e, p, j, h1, h2, h3⟩), rfl⟩
 ·cases h3; exact .inl ⟨w, j, h1, h2, by simp⟩
 ·cases h3; exact .inr ⟨e, p, j, h1, h2, by simp⟩
theorem zc {G : Glo} {H : Heap} {i : Nat} (b : Nat) (s : List UInt8) (a : Nat) (cr : Bool) (hi : H[i]? = some (rdC b s a cr)) (hl : s.length ≤ 1000000) (ha : a ≤ s.length) : ae Tryz.prog G 55 [.raw (pS b)] H
  (fun r H' => (∃ ps j va vk vc, bq cr s a [] = .ok (ps, j) ∧ r = .ret (.own 1 (.slice va vk vc)) ∧ H' = H.set i (rdC b s j cr) ++ [.row (.slice va vk vc) none 2 ps.length (prsC ps)]) ∨ (∃ e p j, bq cr s a [] = .bad e p ∧ r = .panic (fltA e p) ∧ H' = H.set i (rdC b s j cr))) := by
 refine (B1 hi (tf b s a cr hl ha) (by rintro _ _ (⟨_, _, _, _, _, _, _, rfl⟩ | ⟨_, _, _, _, _, rfl⟩) <;> simp)).mono ?_
 rintro r H' ⟨y, t, (⟨ps, j, va, vk, vc, h1, h2, h3⟩ | ⟨e, p, j, h1, h2, h3⟩), rfl⟩
 ·cases h3; exact .inl ⟨ps, j, va, vk, vc, h1, h2, rfl⟩
 ·cases h3; exact .inr ⟨e, p, j, h1, h2, by simp⟩
theorem nB {c : Bool} {s : List UInt8} : ∀ (n : Nat) {a b : Nat} {acc ps : List Pr}, s.length - a ≤ n → bq c s a acc = .ok (ps, b) → a ≤ b ∧ (a ≤ s.length → b ≤ s.length)
 | n, a, b, acc, ps, hn, h => by
  cases hq : atB s a 59 with
  | false => rw [eD hq] at h; cases h; exact ⟨Nat.le_refl _, id⟩
  | true =>
   have h1 := bB.1 hq
   cases hw : aR s (a + 1) with
   | bad e p => rw [dB hq hw] at h; cases h
   | ok x =>
    obtain ⟨w, j⟩ := x
    have h2 := bL hw
    cases hj : atB s j 61 with
    | false => rw [fM hq hw hj] at h; cases h
    | true =>
     cases hv : ca c s (j + 1) [] with
     | bad e p => rw [cz hq hw hj hv] at h; cases h
     | ok x =>
      obtain ⟨vs, d⟩ := x
      have h3 := fF _ (Nat.le_refl _) hv
      by_cases h20 : acc.length = 20
      ·rw [eC hq hw hj hv h20] at h; cases h
      ·rw [fL hq hw hj hv h20] at h
       cases n with
       | zero => omega
       | succ n =>
        have ih := nB n (by omega) h
        have h4 := (bB.1 hj).1
        omega
attribute [local irreducible] AWp AOps aa ax OrOk ab ae
attribute [local irreducible] hdC hdB badI isS decS aG prsC To cj Lv AWpD
theorem tg {G : Glo} (b4 b5 : Nat) (e p : Int) (g n v : List UInt8) (q x : AVal) : cj Tryz.prog G 52 [.own 0 (pS b4), .own 1 (pS b5)] (.pan (fltA e p)) [prC b4 g n q v, erC b5 x]
  (fun r m H => m = .rcv (fltA e p) ∧ r = .ret (.tuple []) ∧ H = [prC b4 [] [] nilS [], erC b5 (atEA e p)]) := by
 have hGL : ab G [] := ad
 refine Ej (Y := Nat) (H1 := fun b3 => [prC b4 [] [] nilS [], erC b5 (.iface 60 (.own 2 (pS b3))), .cells b3 (some 110) [.int .i64 e, .int .i64 p]]) ?_ ?_
 ·refine rb (rs := []) (GL := []) Tryz.func52 rfl rfl rfl rfl rfl rfl hGL ?_
  intro C hC
  refine xn1 ?_
  intro b3
  intros
  exact ⟨_, List.Sublist.refl _, rfl, b3, rfl⟩
 ·intro b3 C R w hm
  obtain ⟨R', hle, hm', hr⟩ := MS.seal_cells (hm.perm (cZ (i := 2) rfl))
  obtain ⟨h1, h2⟩ := (CellTo.cells (R := R') (b := b5) (eT := some 39) (p := 0) (a := .iface 60 (.own 2 (pS b3))) (a' := atEA e p) (cs := [.iface 60 (.own 2 (pS b3))]) rfl (fun v => vR (Ba hr))).holds (hm'.heap.holds _ (List.mem_of_getElem? (i := 1) rfl))
  exact ⟨R', hle, hm'.setEnt (i := 1) rfl h2 h1⟩
theorem oS {G : Glo} (b4 b5 : Nat) (x y : HEnt) : cj Tryz.prog G 52 [.own 0 (pS b4), .own 1 (pS b5)] .ret [x, y] (fun r m H => m = .ret ∧ r = .ret (.tuple []) ∧ H = [x, y]) := by
 have hGL : ab G [] := ad
 refine rb (rs := []) (GL := []) Tryz.func52 rfl rfl rfl rfl rfl rfl hGL ?_
 intro C hC
 exact xn0
section
variable {G : Glo} {n : Nat} {env : Env} {Qf : ARes → Heap → Prop} {b4 b5 : Nat} {T : Heap} {q x : AVal} {e p : Int} {g m v : List UInt8}
theorem qJ (h4 : Env.get env 4 = some (.own 0 (pS b4))) (h5 : Env.get env 5 = some (.own 1 (pS b5))) (hx : x.isAgg = false) {H' : Heap} (hs : H'.Sublist T) (hq : Qf (.ret (.tuple [.agg [.str g, .str m, q, .str v], x])) H') :
  Lv Tryz.prog G n [.cell 4 45, .cell 5 39] env [] .ret (prC b4 g m q v :: erC b5 x :: T) Qf := by
 refine EU ⟨[.agg [.str g, .str m, q, .str v], x], H', ⟨_, _, rfl, ⟨b4, 0, _, _, _, .inr ⟨0, h4⟩, rfl, rfl, rfl, .inl ⟨rfl, rfl⟩⟩, _, _, rfl, ⟨b5, 1, _, _, _, .inr ⟨1, h5⟩, rfl, rfl, rfl, .inr ⟨rfl, rfl, hx⟩⟩, rfl⟩, (hs.cons _).cons _, hq⟩
theorem vu (h4 : Env.get env 4 = some (.own 0 (pS b4))) (h5 : Env.get env 5 = some (.own 1 (pS b5))) (hq : Qf (.ret (.tuple [.agg [.str [], .str [], nilS, .str []], atEA e p])) []) :
  Lv Tryz.prog G n [.cell 4 45, .cell 5 39] env [dPar b4 b5] (.pan (fltA e p)) (prC b4 g m q v :: erC b5 x :: T) Qf := by
 refine f9 (lI T (tg (G := G) b4 b5 e p g m v q x)) (fun R => ⟨_, _, rfl, aA.2 ⟨rfl, rfl⟩, _, _, rfl, aA.2 ⟨rfl, rfl⟩, rfl⟩) Tryz.call52 ?_
 exact qJ h4 h5 rfl (List.nil_sublist _) hq
theorem A9 (h4 : Env.get env 4 = some (.own 0 (pS b4))) (h5 : Env.get env 5 = some (.own 1 (pS b5))) (hx : x.isAgg = false) {H' : Heap} (hs : H'.Sublist T) (hq : Qf (.ret (.tuple [.agg [.str g, .str m, q, .str v], x])) H') :
  Lv Tryz.prog G n [.cell 4 45, .cell 5 39] env [dPar b4 b5] .ret (prC b4 g m q v :: erC b5 x :: T) Qf := by
 refine f9 (lI T (oS (G := G) b4 b5 _ _)) (fun R => ⟨_, _, rfl, aA.2 ⟨rfl, rfl⟩, _, _, rfl, aA.2 ⟨rfl, rfl⟩, rfl⟩) Tryz.call52 ?_
 exact qJ h4 h5 hx hs hq
end
theorem pI {c : Bool} {s : List UInt8} (h : 0 ≤ badI s) : bT c s = .bad 3 (badI s).toNat := by unfold bT; rw [if_neg (by omega)]
theorem gX {c : Bool} {s : List UInt8} {e : Int} {p : Nat} (h : badI s < 0) (k : cT s = .bad e p) : bT c s = .bad e p := by unfold bT; rw [if_pos h, k]
theorem eE {c : Bool} {s g n : List UInt8} {a : Nat} {e : Int} {p : Nat} (h : badI s < 0) (k : cT s = .ok ((g, n), a)) (m : bq c s a [] = .bad e p) : bT c s = .bad e p := by
 unfold bT; rw [if_pos h, k]; dsimp only; rw [m]
theorem nN {c : Bool} {s g n : List UInt8} {a b : Nat} {ps : List Pr} (h : badI s < 0) (k : cT s = .ok ((g, n), a)) (m : bq c s a [] = .ok (ps, b)) : bT c s = eo s g n ps b := by
 unfold bT; rw [if_pos h, k]; dsimp only; rw [m]
theorem xY {s : List UInt8} {e : Int} {p : Nat} (h : aR s 0 = .bad e p) : cT s = .bad e p := by unfold cT; rw [h]
theorem xX {s w : List UInt8} {j : Nat} (h : aR s 0 = .ok (w, j)) (k : atB s j 46 = false) : cT s = .ok (([], w), j) := by unfold cT; rw [h]; dsimp only; rw [k]; rfl
theorem xW {s w : List UInt8} {j p : Nat} {e : Int} (h : aR s 0 = .ok (w, j)) (k : atB s j 46 = true) (m : aR s (j + 1) = .bad e p) : cT s = .bad e p := by unfold cT; rw [h]; dsimp only; rw [k, if_pos rfl, m]
theorem xV {s w n : List UInt8} {j i : Nat} (h : aR s 0 = .ok (w, j)) (k : atB s j 46 = true) (m : aR s (j + 1) = .ok (n, i)) : cT s = .ok ((w, n), i) := by unfold cT; rw [h]; dsimp only; rw [k, if_pos rfl, m]
theorem wV {s g n : List UInt8} {ps : List Pr} {b : Nat} (h : atB s b 58 = false) : eo s g n ps b = .bad 7 b := by unfold eo; rw [h]; rfl
theorem Dq {s g n : List UInt8} {ps : List Pr} {b i : Nat} (h : atB s b 58 = true) (hb : b + 1 ≤ i) (hi : i < s.length) (hc : hdC false (aa s i : Int) = true) (h0 : ∀ j, b + 1 ≤ j → j < i → hdC false (aa s j : Int) = false) : eo s g n ps b = .bad 3 i := by
 have e : fstB (hdC false) (s.drop (b + 1)) = ((i - (b + 1) : Nat) : Int) := gf (i := i - (b + 1)) (by rw [List.length_drop]; omega) (by rw [jo, show b + 1 + (i - (b + 1)) = i by omega]; exact hc) (fun j hj => by rw [jo]; exact h0 _ (by omega) (by omega))
 unfold eo
 rw [h, if_pos rfl, e, if_neg (by omega), Int.toNat_natCast, show b + 1 + (i - (b + 1)) = i by omega]
theorem Aq {s g n : List UInt8} {ps : List Pr} {b i : Nat} (h : atB s b 58 = true) (hi : s.length ≤ i) (h0 : ∀ j, b + 1 ≤ j → j < i → hdC false (aa s j : Int) = false) : eo s g n ps b = .ok ⟨g, n, ps, s.drop (b + 1)⟩ := by
 have e : fstB (hdC false) (s.drop (b + 1)) = -1 := dO (fun j hj => by rw [jo]; rw [List.length_drop] at hj; exact h0 _ (by omega) (by omega))
 unfold eo
 rw [h, if_pos rfl, e, if_pos (by decide)]
attribute [local irreducible] bT cT aR eo
theorem th {G : Glo} (s : List UInt8) (cr : Bool) (hl : s.length ≤ 1000000) : ae Tryz.prog G 15 [.str s, .bool cr] []
  (fun r H => (∃ (e : Int) (p : Nat), bT cr s = .bad e p ∧ r = .ret (.tuple [.agg [.str [], .str [], nilS, .str []], atEA e p]) ∧ H = []) ∨
   (∃ (l : Ln) (v : Value), bT cr s = .ok l ∧ r = .ret (.tuple [.agg [.str l.g, .str l.n, .own 1 v, .str l.v], .raw .nilIface]) ∧ H = [.row v none 2 l.ps.length (prsC l.ps)])) := by
 have hGL : ab G [] := ad
 have hB := wO (G := G) s (by omega)
 refine fn_d (rs := [.cell 4 45, .cell 5 39]) Tryz.func15 Tryz.call15 rfl rfl rfl rfl ?_
 intro C hC hD
 refine bx hC hGL (fun x : Nat × Nat => [(0, .str s), (1, .bool cr), (4, .own 0 (pS x.1)), (5, .own 1 (pS x.2))]) (fun x => [prC x.1 [] [] nilS [], erC x.2 (.raw .nilIface)]) (fun _ => True) ?_ ?_
 ·refine xn1 ?_
  intro b4 b5
  exact cy (b4, b5) trivial
 rintro ⟨b4, b5⟩ -
 dsimp only
 refine bx hC hGL (fun _ : Unit => [(0, .str s), (1, .bool cr), (4, .own 0 (pS b4)), (5, .own 1 (pS b5))]) (fun _ => [prC b4 [] [] nilS [], erC b5 (.raw .nilIface)]) (fun _ => badI s < 0) ?_ ?_
 ·by_cases hb : 0 ≤ badI s
  ·have e9 : badI s = (((badI s).toNat : Nat) : Int) := by omega
   refine xn1 ?_
   intros
   rw [hD]
   exact qJ rfl rfl rfl (List.nil_sublist _) (.inl ⟨3, (badI s).toNat, pI hb, by rw [← e9]; rfl, rfl⟩)
  ·refine xn1 ?_
   intros
   exact cy () (by omega)
 intro _ hb
 refine fw (gH hC hGL rfl ?_)
 refine xn1 ?_
 refine ⟨_, rfl, ?_⟩
 refine (fun (h : ∀ C2 : Ctx, C2.G = G → C2.D = [dPar b4 b5] → AWpD Tryz.prog C2 _ _ _ _ _) => h (withD C (dPar b4 b5 :: C.D)) hC (by show dPar b4 b5 :: C.D = _; rw [hD])) ?_
 clear hC hD C
 intro C hC hD
 have thr : ∀ {n : Nat} {env : Env} {T : Heap} {q x : AVal} {g m v : List UInt8} {e : Int} {p : Nat} {p' : Int}, Env.get env 4 = some (.own 0 (pS b4)) → Env.get env 5 = some (.own 1 (pS b5)) → bT cr s = .bad e p → p' = p → Lv Tryz.prog G n [.cell 4 45, .cell 5 39] env [dPar b4 b5] (.pan (fltA e p')) (prC b4 g m q v :: erC b5 x :: T)
   (fun r H => (∃ (e : Int) (p : Nat), bT cr s = .bad e p ∧ r = .ret (.tuple [.agg [.str [], .str [], nilS, .str []], atEA e p]) ∧ H = []) ∨
   (∃ (l : Ln) (v : Value), bT cr s = .ok l ∧ r = .ret (.tuple [.agg [.str l.g, .str l.n, .own 1 v, .str l.v], .raw .nilIface]) ∧ H = [.row v none 2 l.ps.length (prsC l.ps)])) := by
  rintro n env T q x g m v e p p' h4 h5 h rfl
  exact vu h4 h5 (.inl ⟨_, _, h, rfl, rfl⟩)
 refine bx hC hGL (fun br : Nat => [(0, .str s), (4, .own 0 (pS b4)), (5, .own 1 (pS b5)), (7, .own 2 (pS br))]) (fun br => [prC b4 [] [] nilS [], erC b5 (.raw .nilIface), rdC br s 0 cr]) (fun _ => True) ?_ ?_
 ·refine xb1 ?_
  intro br
  intros
  exact cy br trivial
 intro br _
 have hT := fun e p => gV (G := G) (pS br) e p
 refine bx hC hGL (fun x : List UInt8 × Nat => [(0, .str s), (4, .own 0 (pS b4)), (5, .own 1 (pS b5)), (7, .own 2 (pS br))]) (fun x => [prC b4 [] x.1 nilS [], erC b5 (.raw .nilIface), rdC br s x.2 cr]) (fun x => aR s 0 = .ok x) ?_ ?_
 ·refine xn1 ?_
  intros
  refine ⟨_, wM (i := 2) br s 0 cr rfl hl (Nat.zero_le _), ?_, ?_⟩
  ·rintro _ _ (⟨w, j, hw, e, rfl⟩ | ⟨_, _, _, _, e, _⟩)
   ·cases e
    refine xn1 ?_
    intros
    exact cy (w, j) hw
   ·cases e
  ·rintro _ _ (⟨_, _, _, e, _⟩ | ⟨e', p, j, hw, e, rfl⟩)
   ·cases e
   ·cases e
    (conv => whnf)
    rw [hD]
    exact thr rfl rfl (gX hb (xY hw)) rfl
 rintro ⟨w, j⟩ hw
 dsimp only
 have hg := bL hw
 have hjl := hg.2.1 (Nat.zero_le _)
 have hi1 := gW (G := G) br s j cr 46 hl hjl
 refine bx hC hGL (fun x : List UInt8 × List UInt8 × Nat => [(0, .str s), (4, .own 0 (pS b4)), (5, .own 1 (pS b5)), (7, .own 2 (pS br))]) (fun x => [prC b4 x.1 x.2.1 nilS [], erC b5 (.raw .nilIface), rdC br s x.2.2 cr]) (fun x => cT s = .ok ((x.1, x.2.1), x.2.2) ∧ x.2.2 ≤ s.length) ?_ ?_
 ·cases h46 : atB s j 46 with
  | false =>
   rw [h46, if_neg (by decide)] at hi1
   refine xn1 ?_
   intros
   exact cy ([], w, j) ⟨xX hw h46, hjl⟩
  | true =>
   rw [h46, if_pos rfl] at hi1
   have hb1 := (bB.1 h46).1
   refine xn1 ?_
   intros
   refine ⟨_, wM (i := 2) br s (j + 1) cr rfl hl (by omega), ?_, ?_⟩
   ·rintro _ _ (⟨n, k, hn, e, rfl⟩ | ⟨_, _, _, _, e, _⟩)
    ·cases e
     refine xn1 ?_
     intros
     exact cy (w, n, k) ⟨xV hw h46 hn, (bL hn).2.1 (by omega)⟩
    ·cases e
   ·rintro _ _ (⟨_, _, _, e, _⟩ | ⟨e', p, k, hn, e, rfl⟩)
    ·cases e
    ·cases e
     (conv => whnf)
     rw [hD]
     exact thr rfl rfl (gX hb (xW hw h46 hn)) rfl
 rintro ⟨g, n, a⟩ ⟨hh, hal⟩
 dsimp only at hh hal ⊢
 refine bx hC hGL (fun x : List Pr × Nat × Option Addr × Nat × Nat => [(0, .str s), (4, .own 0 (pS b4)), (5, .own 1 (pS b5)), (7, .own 2 (pS br))]) (fun x => [prC b4 g n (.own 1 (.slice x.2.2.1 x.2.2.2.1 x.2.2.2.2)) [], erC b5 (.raw .nilIface), rdC br s x.2.1 cr, .row (.slice x.2.2.1 x.2.2.2.1 x.2.2.2.2) none 2 x.1.length (prsC x.1)]) (fun x => bq cr s a [] = .ok (x.1, x.2.1) ∧ x.2.1 ≤ s.length) ?_ ?_
 ·refine xn1 ?_
  intros
  refine ⟨_, zc (i := 2) br s a cr rfl hl hal, ?_, ?_⟩
  ·rintro _ _ (⟨ps, k, va, vk, vc, hn, e, rfl⟩ | ⟨_, _, _, _, e, _⟩)
   ·cases e
    refine xn1 ?_
    intros
    exact cy (ps, k, va, vk, vc) ⟨hn, (nB _ (Nat.le_refl _) hn).2 hal⟩
   ·cases e
  ·rintro _ _ (⟨_, _, _, _, _, _, e, _⟩ | ⟨e', p, k, hn, e, rfl⟩)
   ·cases e
   ·cases e
    (conv => whnf)
    rw [hD]
    exact thr rfl rfl (eE hb hh hn) rfl
 rintro ⟨ps, k, va, vk, vc⟩ ⟨hp, hkl⟩
 dsimp only at hp hkl ⊢
 have hLP := nN (c := cr) hb hh hp
 have hi2 := gW (G := G) br s k cr 58 hl hkl
 cases h58 : atB s k 58 with
 | false =>
  rw [h58, if_neg (by decide)] at hi2
  refine ec hC hGL (xn1 ?_)
  intros
  refine bC (hT 7 k) ?_
  (conv => whnf)
  rw [hD]
  exact thr rfl rfl (hLP.trans (wV h58)) rfl
 | true =>
  rw [h58, if_pos rfl] at hi2
  have hb2 := (bB.1 h58).1
  refine ec hC hGL (xn1 ?_)
  intros
  refine lp hC hGL (fun i : Nat => [(0, .str s), (4, .own 0 (pS b4)), (5, .own 1 (pS b5)), (7, .own 2 (pS br)), (8, .int .i64 (i : Nat))]) (fun _ => [prC b4 g n (.own 1 (.slice va vk vc)) [], erC b5 (.raw .nilIface), rdC br s (k + 1) cr, .row (.slice va vk vc) none 2 ps.length (prsC ps)]) (fun i => k + 1 ≤ i ∧ i ≤ s.length ∧ ∀ j, k + 1 ≤ j → j < i → hdC false (aa s j : Int) = false) (fun i => s.length - i) (k + 1) ⟨Nat.le_refl _, hb2, fun j h1 h2 => by omega⟩ aj rfl ?_
  rintro i ⟨i1, i2, i3⟩
  by_cases hi : i < s.length
  ·have hN := kE (G := G) (aa s i : Int)
   cases hc : hdC false (aa s i : Int) with
   | false =>
    rw [hc] at hN
    refine xn1 ?_
    intros
    refine nxt (i + 1) ⟨by omega, by omega, fun j h1 h2 => ?_⟩ (by omega) aj rfl
    rcases Nat.lt_or_ge j i with g | g
    ·exact i3 j h1 g
    ·rw [show j = i by omega]; exact hc
   | true =>
    rw [hc] at hN
    refine xn1 ?_
    intros
    refine bC (hT 3 i) ?_
    (conv => whnf)
    rw [hD]
    exact thr rfl rfl (hLP.trans (Dq h58 i1 hi hc i3)) rfl
  ·refine xn1 ?_
   intros
   rw [hD]
   refine A9 (H' := [.row (.slice va vk vc) none 2 ps.length (prsC ps)]) rfl rfl rfl ?_ ?_
   ·exact List.Sublist.cons _ (List.Sublist.refl _)
   ·exact .inr ⟨⟨g, n, ps, s.drop (k + 1)⟩, _, hLP.trans (Aq h58 (by omega) i3), rfl, rfl⟩
end
section
open Go
def Fo (rd : Option Nat) : Fence := { fn := fun _ => True, depth := none, alive := false, round := rd }
theorem CC {P : Program} {f : FuncId} {args : Array Value} {w : World} {R : Ending → World → Prop} (rd : Option Nat) (m : Nat) (h : Calls P f args w R) : CallsIn (Fo rd) m P f args w R := (callsIn_wide (n := m)).2 h
theorem DL {P : Program} {row : String} {args : Array Value} {w : World} {R : Value → World → Prop} (rd : Option Nat) (m : Nat) (h : Rows P row args w R) : RowsIn (Fo rd) m P row args w R :=
 fun c cs _ => let ⟨v, w', r, s⟩ := h c cs; ⟨v, w', r, stepsIn_wide.2 s⟩
theorem kx {C : Ctx} {n : Nat} {Q : AExit → Env → Heap → Prop} : ¬ LetsOut (Post C n Q) := by
 rintro ⟨a, w, x, env, H, R, q, er, _⟩
 cases x with
 | normal => cases er
 | exit i => cases er
 | goto i => cases er
 | ret => cases er
 | panic v => obtain ⟨y, e, _⟩ := er; cases e
def cQ (l : List Oper) : Bool := l.all fun o => match o.op with
 | .defer _ => false
 | _ => true
theorem lU {l : List Oper} (h : cQ l = true) {o : Oper} (ho : o ∈ l) : ∀ c, o.op ≠ .defer c := by
 intro c e
 have := List.all_eq_true.1 h o ho
 rw [e] at this
 cases this
theorem AD {rd : Option Nat} {ρ : Operand → Value} {o : Oper} (hd : ∀ c, o.op ≠ .defer c) : Oper.semAt rd ρ o = execOp ρ o := by
 cases rd with
 | none => exact Oper.semAt_none ρ o
 | some l => exact Oper.semAt_some l ρ o hd
section
variable {P : Program} {rd : Option Nat} {m : Nat} {ops : Array Oper} {Q0 Q : Exit → Act → World → Prop}
theorem wP {o : Oper} {a : Act} {K K' : Act → World → Prop} {r : Result Next} (hk : ∀ a w, K a w → K' a w) (hp : ∀ c a w, Q0 (.panic c) a w → Q (.panic c) a w) (ho : ¬ LetsOut Q0) (h : o.upon P a K Q0 r) : o.uponIn (Fo rd) m P a K' Q r := by
 cases r with
 | ok x w' =>
  cases x <;> simp only [Oper.upon, Oper.uponIn] at h ⊢ <;> first
   | exact hk _ _ h
   | exact ⟨fun e => (by cases e), (CC rd _ h).mono fun e w'' he => by cases e <;> first | exact hk _ _ he | exact hp _ _ _ he | exact absurd he ho⟩
   | exact ⟨fun e => (by cases e), (DL rd _ h).mono fun _ _ he => hk _ _ he⟩
   | exact h.elim
 | halt x w' => cases x <;> simp only [Oper.upon, Oper.uponIn] at h ⊢ <;> exact hp _ _ _ h
theorem gp {l : List Oper} (hn : ∀ a w, Q0 .normal a w → wpListIn (Fo rd) m P ops Q l a w) (hp : ∀ c a w, Q0 (.panic c) a w → Q (.panic c) a w) (ho : ¬ LetsOut Q0) :
  ∀ {pre : List Oper} {a : Act} {w : World}, cQ pre = true → wpList P ops Q0 pre a w → wpListIn (Fo rd) m P ops Q (pre ++ l) a w
 | [], a, w, _, h => hn a w h
 | o :: rest, a, w, hd, h => by
  have h1 := lU hd (List.mem_cons_self ..)
  have h2 : cQ rest = true := by
   unfold cQ at hd ⊢
   rw [List.all_cons, Bool.and_eq_true] at hd
   exact hd.2
  simp only [wpList, List.cons_append, wpListIn] at h ⊢
  split
  ·rename_i hw
   rw [if_pos hw] at h
   rcases h with h | ⟨_, h⟩
   ·refine ⟨fun _ _ => trivial, ?_⟩
    rw [show (Fo rd).round = rd from rfl, AD h1]
    exact wP (fun a w h => gp hn hp ho h2 h) hp ho h
   ·exact absurd h ho
  ·rename_i hw
   rw [if_neg hw] at h
   exact ⟨fun _ _ => trivial, gp hn hp ho h2 h⟩
theorem C8 {i : Nat} {a : Act} {w : World} {K K' : Act → World → Prop} (hd : cQ ops.toList = true) (hk : ∀ a w, K a w → K' a w) (ho : ¬ LetsOut Q) (h : wpOp P ops Q i K a w) : wpOpIn (Fo rd) m P ops Q i K' a w := by
 unfold wpOp at h
 unfold wpOpIn
 cases hi : ops[i]? with
 | none => rw [hi] at h; exact hk _ _ h
 | some o =>
  rw [hi] at h
  have h1 := lU hd (List.mem_of_getElem? (i := i) (by rw [Array.getElem?_toList]; exact hi))
  dsimp only at h ⊢
  split
  ·rename_i hw
   rw [if_pos hw] at h
   rcases h with h | ⟨_, h⟩
   ·refine ⟨fun _ _ => trivial, ?_⟩
    rw [show (Fo rd).round = rd from rfl, AD h1]
    exact wP hk (fun _ _ _ q => q) ho h
   ·exact absurd h ho
  ·rename_i hw
   rw [if_neg hw] at h
   exact ⟨fun _ _ => trivial, hk _ _ h⟩
theorem rH {md : Region.Mode} (hd : cQ ops.toList = true) (ho : ¬ LetsOut Q) : ∀ (fuel : Nat) (listed : Array Bool) (a : Act) (w : World), wpAny P md ops Q fuel listed a w → wpAnyIn (Fo rd) m P md ops Q fuel listed a w
 | 0, _, _, _, h => h
 | fuel + 1, _, _, _, h => ⟨h.1, fun i hi => C8 hd (fun a w q => rH hd ho fuel _ a w q) ho (h.2 i hi)⟩
end
/-! ## Code in a round -/
def AWpR (rd : Option Nat) (P : Program) (C : Ctx) (n : Nat) (c : Code) (env : Env) (H : Heap) (Q : AExit → Env → Heap → Prop) : Prop :=
 ∀ R a w, MS C R H w → FS C.D n R env a → c.wpIn (Fo rd) 0 P (Post C n Q) a w
section
variable {rd : Option Nat} {P : Program} {C : Ctx} {n : Nat} {env : Env} {H : Heap} {Q : AExit → Env → Heap → Prop} {G : Glo} {GL : List (Nat × List AVal)}
theorem AWpR.mono {c : Code} {Q' : AExit → Env → Heap → Prop} (h : AWpR rd P C n c env H Q) (hq : ∀ x e h, Q x e h → Q' x e h) : AWpR rd P C n c env H Q' :=
 fun R a w hm hf => Go.wpIn_mono (h R a w hm hf) fun _ _ _ ⟨x, en, H', R', q, r⟩ => ⟨x, en, H', R', hq _ _ _ q, r⟩
theorem mM {x y : Code} (h : AWpR rd P C n x env H (ei (fun e h => AWpR rd P C n y e h Q) Q)) : AWpR rd P C n (.seq x y) env H Q := by
 intro R a w hm hf
 refine wpIn_seq (Go.wpIn_mono (h R a w hm hf) ?_)
 rintro e a' w' ⟨x', en, H', R', q, er, hm', hf'⟩
 cases x' with
 | normal => simp only [au] at er; subst er; exact q R' a' w' hm' hf'
 | exit i => simp only [au] at er; subst er; exact ⟨.exit i, en, H', R', q, rfl, hm', hf'⟩
 | goto i => simp only [au] at er; subst er; exact ⟨.goto i, en, H', R', q, rfl, hm', hf'⟩
 | ret => simp only [au] at er; subst er; exact ⟨.ret, en, H', R', q, rfl, hm', hf'⟩
 | panic v => obtain ⟨y, rfl, hr⟩ := er; exact ⟨.panic v, en, H', R', q, ⟨y, rfl, hr⟩, hm', hf'⟩
theorem ug {c : Operand} {x y : Code} {b : Bool} (hc : ai env c = some (.bool b)) (ht : b = true → AWpR rd P C n x env H Q) (hf : b = false → AWpR rd P C n y env H Q) : AWpR rd P C n (.cond c x y) env H Q := by
 intro R a w hm hfr
 exact wpIn_cond_split (aE.1 (hfr.eval hc)) (fun e => ht e R a w hm hfr) (fun e => hf e R a w hm hfr)
theorem lN {id : Nat} {c : Code} (h : AWpR rd P C n c env H (rn id Q)) : AWpR rd P C n (.block id c) env H Q := by
 intro R a w hm hf
 refine wpIn_block (Go.wpIn_mono (h R a w hm hf) ?_)
 rintro e a' w' ⟨x', en, H', R', q, er, hm', hf'⟩
 cases x' with
 | normal => simp only [au] at er; subst er; exact ⟨.normal, en, H', R', q, rfl, hm', hf'⟩
 | exit i =>
  simp only [au] at er; subst er
  simp only [Exit.inBlock]
  by_cases e : i = id
  ·rw [if_pos e]; exact ⟨.normal, en, H', R', q.1 e, rfl, hm', hf'⟩
  ·rw [if_neg e]; exact ⟨.exit i, en, H', R', q.2 e, rfl, hm', hf'⟩
 | goto i => simp only [au] at er; subst er; exact ⟨.goto i, en, H', R', q, rfl, hm', hf'⟩
 | ret => simp only [au] at er; subst er; exact ⟨.ret, en, H', R', q, rfl, hm', hf'⟩
 | panic v => obtain ⟨y, rfl, hr⟩ := er; exact ⟨.panic v, en, H', R', q, ⟨y, rfl, hr⟩, hm', hf'⟩
theorem wE {id : Nat} {l : List Oper} (hd : cQ l = true) (h : AOps P C n l.toArray l env H Q) : AWpR rd P C n (.region id l.toArray false) env H Q := by
 intro R a w hm hf
 refine wpIn_region_lit ?_
 have := gp (rd := rd) (m := 0) (l := []) (Q := Post C n Q) (fun a w q => wpListIn_nil q) (fun _ _ _ q => q) kx hd (h R a w hm hf)
 rwa [List.append_nil] at this
theorem CN {id : Nat} {l : List Oper} (hm : P.follows .mixedOrders = true) (hB : Region.lexB .any l.toArray = true) (hd : cQ l = true) (h : AQ P C n l.toArray l env H (fun e => Q .normal e H)) :
  AWpR rd P C n (.region id l.toArray true) env H Q := by
 intro R a w hw hf
 refine wpIn_region_any hm (rH (by simpa using hd) kx _ _ _ _ ?_)
 have h1 := h R a hf
 have h2 : ∀ (l' : List Oper) (a : Act), wpQuiet P l.toArray (CW C R H) (fun a' => ∃ env', Q .normal env' H ∧ FS C.D n R env' a') l' a →
   wpQuiet P l.toArray (CW C R H) (fun a' => ∀ w', CW C R H w' → Post C n Q .normal a' w') l' a := by
  intro l'
  induction l' with
  | nil => rintro a ⟨env', hq, hfs⟩ w' ⟨R', hle, hms⟩; exact ⟨.normal, env', H, R', hq, rfl, hms, hfs.mono hle⟩
  | cons o r ih =>
   intro a h
   have h' := h
   unfold wpQuiet at h'
   refine wpQuiet_step fun X hX => ?_
   split
   ·rename_i hw; rw [if_pos hw] at h'; exact Oper.quiet_mono (fun a' q => hX _ (ih a' q)) h'
   ·rename_i hw; rw [if_neg hw] at h'; exact hX _ (ih _ h')
 simp only [Region.lexB, Bool.and_eq_true] at hB
 refine wpAny_of_quiet (C := CW C R H) (Q := fun a' => ∀ w', CW C R H w' → Post C n Q .normal a' w') (fun _ w' hw' h => h w' hw') _ _ _ _ ⟨R, Seal.le_refl R, hw.drawn _⟩ ?_
 have := wpAnyQ_lex (C := CW C R H) (md := .any) hB.1 l.toArray.toList 0 (Array.replicate l.toArray.size false) a (by simp) (by simpa using hB.2) (h2 _ _ (by simpa using h1))
 simpa using this
def mN (rd : Option Nat) (P : Program) (C : Ctx) (n : Nat) (c : Code) (Q : AExit → Env → Heap → Prop) : Nat → Env → Heap → Prop
 | 0, _, _ => False
 | k + 1, e, h => AWpR rd P C n c e h (ei (mN rd P C n c Q k) Q)
theorem wD {c : Code} (k : Nat) (h : mN rd P C n c Q k env H) : AWpR rd P C n (.loop c) env H Q := by
 intro R a w hm hf
 refine wpIn_loop_rounds k ?_
 induction k generalizing env H R a w with
 | zero => exact h.elim
 | succ k ih =>
  rw [roundsIn_succ]
  refine Go.wpIn_mono (h R a w hm hf) ?_
  rintro e a' w' ⟨x', en, H', R', q, er, hm', hf'⟩
  cases x' with
  | normal => simp only [au] at er; subst er; exact ih q R' a' w' hm' hf'
  | exit i => simp only [au] at er; subst er; exact ⟨.exit i, en, H', R', q, rfl, hm', hf'⟩
  | goto i => simp only [au] at er; subst er; exact ⟨.goto i, en, H', R', q, rfl, hm', hf'⟩
  | ret => simp only [au] at er; subst er; exact ⟨.ret, en, H', R', q, rfl, hm', hf'⟩
  | panic v => obtain ⟨y, rfl, hr⟩ := er; exact ⟨.panic v, en, H', R', q, ⟨y, rfl, hr⟩, hm', hf'⟩
theorem Ew {c : Code} {env' : Env} (hs : Env.sub env env') (h : AWpR rd P C n c env' H Q) : AWpR rd P C n c env H Q := fun R a w hm hf => h R a w hm (hf.sub hs)
noncomputable def oo (P : Program) [Tab P] (C : Ctx) (n : Nat) (G : Glo) (GL : List (Nat × List AVal)) (c : Code) : Env → Heap → (AExit → Env → Heap → Prop) → Prop :=
 Code.rec (motive := fun _ => Env → Heap → (AExit → Env → Heap → Prop) → Prop)
  (fun env H Q => Q .normal env H)
  (fun _ ops d env H Q => match d with
   | false => match cQ ops.toList with
    | true => opsX P C n G GL ops Q ops.toList env H
    | false => False
   | true => False)
  (fun _ _ iha ihb env H Q => iha env H (ei (fun e h => ihb e h Q) Q))
  (fun c _ _ ihx ihy env H Q => match ai env c with
   | some (.bool b) => Sc b (ihx env H Q) (ihy env H Q)
   | _ => False)
  (fun id _ ih env H Q => ih env H (rm id Q))
  (fun _ _ _ _ _ => False)
  (fun _ _ _ _ _ _ _ _ _ => False)
  (fun id env H Q => Q (.exit id) env H)
  (fun _ _ _ _ _ => False)
  (fun _ _ _ _ => False)
  (fun _ _ _ _ => False)
  (fun env H Q => Q .ret env H)
  (fun _ _ _ _ => False) c
theorem fV [Tab P] (hC : C.G = G) (hGL : ab G GL) : ∀ (c : Code) (env : Env) (H : Heap) (Q : AExit → Env → Heap → Prop), oo P C n G GL c env H Q → AWpR rd P C n c env H Q
 | .skip, _, _, _, h => fun R _ _ hm hf => wpIn_skip ⟨.normal, _, _, R, h, rfl, hm, hf⟩
 | .region id ops dr, env, H, Q, h => by
  cases dr with
  | false =>
   replace h : (match cQ ops.toList with
    | true => opsX P C n G GL ops Q ops.toList env H
    | false => False) := h
   cases hd : cQ ops.toList with
   | false => rw [hd] at h; exact h.elim
   | true =>
    rw [hd] at h
    have e := bJ (a := ops) rfl
    have := wE (rd := rd) (id := id) hd (by rw [← e]; exact cP hC hGL _ _ _ h)
    rwa [← e] at this
  | true => exact False.elim h
 | .seq a b, env, H, Q, h => by
  replace h : oo P C n G GL a env H (ei (fun e h => oo P C n G GL b e h Q) Q) := h
  refine mM ((fV hC hGL a env H _ h).mono ?_)
  intro x e h' q
  cases x with
  | normal => exact fV hC hGL b e h' Q q
  | exit i => exact q
  | goto i => exact q
  | ret => exact q
  | panic v => exact q
 | .cond c x y, env, H, Q, h => by
  replace h : (match ai env c with
   | some (.bool b) => Sc b (oo P C n G GL x env H Q) (oo P C n G GL y env H Q)
   | _ => False) := h
  split at h
  ·rename_i b hb
   exact ug hb (fun e => fV hC hGL x env H Q (h.1 e)) (fun e => fV hC hGL y env H Q (h.2 e))
  ·exact h.elim
 | .block id c, env, H, Q, h => lN ((fV hC hGL c env H _ h).mono fun _ _ _ q => p7 q)
 | .exit id, _, _, _, h => fun R _ _ hm hf => wpIn_exit ⟨.exit id, _, _, R, h, rfl, hm, hf⟩
 | .ret, _, _, _, h => fun R _ _ hm hf => wpIn_ret ⟨.ret, _, _, R, h, rfl, hm, hf⟩
 | .loop c, _, _, _, h => False.elim h
 | .rangeFunc .., _, _, _, h => False.elim h
 | .scope _, _, _, _, h => False.elim h
 | .label _, _, _, _, h => False.elim h
 | .goto _, _, _, _, h => False.elim h
 | .refuse _, _, _, _, h => False.elim h
theorem rq [Tab P] {a b : Code} {X : Type} (hC : C.G = G) (hGL : ab G GL) (I : X → Env) (J : X → Heap) (Inv : X → Prop) (h1 : oo P C n G GL a env H (ei (fun e h => Cy I J Inv e h) Q)) (h2 : ∀ x, Inv x → AWpR rd P C n b (I x) (J x) Q) : AWpR rd P C n (.seq a b) env H Q :=
 mM ((fV hC hGL _ _ _ _ h1).mono fun x e h q => by
  cases x with
  | normal =>
   obtain ⟨y, hy, hs, rfl⟩ := q.h
   exact Ew hs (h2 y hy)
  | exit i => exact q
  | goto i => exact q
  | ret => exact q
  | panic v => exact q)
theorem eW [Tab P] {c : Code} (hC : C.G = G) (hGL : ab G GL) (h : oo P C n G GL c env H Q) : AWpR rd P C n c env H Q := fV hC hGL _ _ _ _ h
theorem Ex [Tab P] {id : Nat} {ops : Array Oper} (hm : P.follows .mixedOrders = true) (hC : C.G = G) (hGL : ab G GL) (hB : (Region.lexB .any ops && cQ ops.toList) = true) (h : quX P C n G GL H ops (fun e => Q .normal e H) ops.toList env) : AWpR rd P C n (.region id ops true) env H Q := by
 rw [Bool.and_eq_true] at hB
 have e := bJ (a := ops) rfl
 have := CN (rd := rd) (P := P) (C := C) (n := n) (env := env) (H := H) (Q := Q) (id := id) (l := ops.toList) hm (by rw [← e]; exact hB.1) hB.2 (by rw [← e]; exact A5 hC hGL _ _ h)
 rwa [← e] at this
theorem rdsR [Tab P] {c : Code} {k : Nat} (h : AWpR rd P C n c env H (ei (mN rd P C n c Q k) Q)) : mN rd P C n c Q (k + 1) env H := h
end
/-! ## A call of yield -/
def iT (P : Program) (G : Glo) (L : Nat) (avs : List AVal) (H : Heap) (Qf : Bool → Heap → Prop) : Prop :=
 ∀ R w args (hG : G.p R), MS ⟨w, R, blks H, G, hG, []⟩ R H w → RelV R avs args.toList →
  YieldAt Fence.wide 0 P L args w fun e w' => ∃ b H' R', Qf b H' ∧ e = .returned (.bool b) ∧ MS ⟨w, R, blks H, G, hG, []⟩ R' H' w'
def recL (r : Loop) (st : LoopState) (pe : Option Code) : Loop := { r with state := st, pending := pe }
abbrev objD (D : Nat) : HEnt := .obj D (.deferred (some []))
abbrev objL (L : Nat) (r : Loop) (st : LoopState) (pe : Option Code) : HEnt := .obj L (.loop (recL r st pe))
theorem iH {C : Ctx} {R : Seal} {H : Heap} {w : World} {i L : Nat} {o : Obj} (h : MS C R H w) (hi : H[i]? = some (.obj L o)) : w.heap[L]? = some o := h.heap.holds _ (List.mem_of_getElem? hi)
theorem fC {C : Ctx} {R : Seal} {H : Heap} {w : World} {i L : Nat} {o : Obj} (o' : Obj) (h : MS C R H w) (hi : H[i]? = some (.obj L o)) : MS C R (H.set i (.obj L o')) (w.putObj L o') := by
 have hl := jg (iH h hi)
 exact h.write hi rfl ⟨rfl, rfl, rfl, World.putObj_size, World.putObj_heap_same hl, fun b hb => World.putObj_heap_other hb⟩ rfl (World.putObj_heap_same hl)
def RdQ (L : Nat) (r : Loop) (Qf : Bool → Heap → Prop) : AExit → Env → Heap → Prop
 | .normal, _, h => ∃ j, h[j]? = some (objL L r .busy none) ∧ Qf true (h.set j (objL L r .ready none))
 | .ret, _, h => ∃ j, h[j]? = some (objL L r .busy none) ∧ Qf false (h.set j (objL L r .done (some .ret)))
 | .exit i, _, h => ∃ j, h[j]? = some (objL L r .busy none) ∧ Qf false (h.set j (objL L r .done (some (.exit i))))
 | _, _, _ => False
section
variable {P : Program} {n : Nat} {env : Env} {H : Heap} {G : Glo} {GL : List (Nat × List AVal)}
theorem E7 {L p i : Nat} {av : AVal} {r : Loop} {Qf : Bool → Heap → Prop} (hi : H[i]? = some (objL L r .ready none)) (hps : r.params = #[p]) (hp : Nat.ble (p + 1) n = true)
  (hfs : ∀ R, FS [] n R env { tmps := r.tmps, defers := [] })
  (ha : ∀ C : Ctx, C.G = G → C.D = [] → AWpR (some L) P C n r.assign ((p, av) :: env) H (fun x e h => x = .normal ∧ ∃ j, h[j]? = some (objL L r .ready none) ∧ AWpR (some L) P C n r.body e (h.set j (objL L r .busy none)) (RdQ L r Qf))) :
  iT P G L [av] H Qf := by
 intro R w args hG hm hargs
 obtain ⟨v, t, e, hv, ht⟩ := hargs
 obtain rfl : t = [] := ht
 have hargs' : args = #[v] := by rw [← Array.toList_inj]; exact e
 subst hargs'
 have hl := iH hm hi
 have hy := run_yield (P := P) (args := #[v]) hl (by show 1 = r.params.size; rw [hps]; rfl)
 refine ⟨_, _, _, _, hy, roundIn_of_wpIn trivial ?_⟩
 have h1 := ha ⟨w, R, blks H, G, hG, []⟩ rfl rfl R _ w hm ((hfs R).put hp ⟨hv.1, hv.2⟩)
 have e1 : ((recL r .ready none).params.zip #[v]).foldl (fun tmps (t, a) => tmps.setIfInBounds t a) (recL r .ready none).tmps = r.tmps.setIfInBounds p v := by
  show (r.params.zip #[v]).foldl (fun tmps (t, a) => tmps.setIfInBounds t a) r.tmps = _
  rw [hps]
  simp
 rw [e1]
 refine Go.wpIn_mono h1 ?_
 rintro ex a' w' ⟨x, en, H', R', ⟨rfl, j, hj, hb⟩, er, hm', hf'⟩
 obtain rfl : ex = .normal := er
 refine ⟨_, run_beginRound (iH hm' hj) rfl, ?_⟩
 refine Go.wpIn_mono (hb R' a' _ (fC _ hm' hj) hf') ?_
 rintro ex a2 w2 ⟨x, en2, H2, R2, q, er, hm2, hf2⟩
 cases x with
 | normal =>
  obtain rfl : ex = .normal := er
  obtain ⟨k, hk, q⟩ := q
  exact ⟨_, _, run_endRound none (iH hm2 hk), true, _, R2, q, rfl, fC _ hm2 hk⟩
 | ret =>
  obtain rfl : ex = .ret := er
  obtain ⟨k, hk, q⟩ := q
  exact ⟨_, _, run_endRound (some .ret) (iH hm2 hk), false, _, R2, q, rfl, fC _ hm2 hk⟩
 | exit id =>
  obtain rfl : ex = .exit id := er
  obtain ⟨k, hk, q⟩ := q
  exact ⟨_, _, run_endRound (some (.exit id)) (iH hm2 hk), false, _, R2, q, rfl, fC _ hm2 hk⟩
 | goto i => exact q.elim
 | panic v => exact q.elim
structure YCall (P : Program) (G : Glo) (fv : Option AVal) (avs : Option (List AVal)) (H : Heap) (K : Bool → Heap → Prop) : Prop where
 h : ∃ L vs, fv = some (.func (.yield L) [] []) ∧ avs = some vs ∧ iT P G L vs H K
def yQ (P : Program) [Tab P] (C : Ctx) (n : Nat) (G : Glo) (GL : List (Nat × List AVal)) (ops : Array Oper) (d : Nat) (fv : Operand) (args : Array Operand) (post : List Oper) (Q : AExit → Env → Heap → Prop) : AExit → Env → Heap → Prop
 | .normal, e, h => YCall P G (ai e fv) (eX e args.toList) h fun b h' => opsX P C n G GL ops Q post ((d, .bool b) :: e) h'
 | x, e, h => Q x e h
theorem uh [Tab P] {C : Ctx} {Q : AExit → Env → Heap → Prop} {id d : Nat} {ops : Array Oper} {fv : Operand} {args : Array Operand} {ts : Array TypeId} {t : TypeId} {ps : String} {af : Array Edge} (k : Nat) (hC : C.G = G) (hGL : ab G GL)
  (hk : ops.toList[k]? = some { dst := some d, op := .call { callee := .value fv, args := args, argTypes := ts }, type := t, pos := ps, after := af, guard := none }) (hdn : Nat.ble (d + 1) n = true) (hnd : cQ ops.toList = true)
  (h : opsX P C n G GL ops (yQ P C n G GL ops d fv args (ops.toList.drop (k + 1)) Q) (ops.toList.take k) env H) : AWp P C n (.region id ops false) env H Q := by
 intro R a w hm hf
 have hlt : k < ops.toList.length := (List.getElem?_eq_some_iff.1 hk).1
 have hsp : ops.toList = ops.toList.take k ++ { dst := some d, op := .call { callee := .value fv, args := args, argTypes := ts }, type := t, pos := ps, after := af, guard := none } :: ops.toList.drop (k + 1) := by
  have := List.take_append_drop k ops.toList
  rw [List.drop_eq_getElem_cons hlt, (List.getElem?_eq_some_iff.1 hk).2] at this
  exact this.symm
 have nd : ∀ {l : List Oper}, l.Sublist ops.toList → cQ l = true := fun hs => List.all_eq_true.2 fun o ho => List.all_eq_true.1 hnd o (hs.subset ho)
 refine (wpIn_wide (n := 0)).1 (wpIn_region_list ?_)
 rw [hsp]
 refine gp (rd := none) (m := 0) (Q0 := Post C n (yQ P C n G GL ops d fv args (ops.toList.drop (k + 1)) Q)) ?_ ?_ kx (nd (List.take_sublist _ _)) (cP hC hGL _ _ _ h R a w hm hf)
 ·rintro a w ⟨x, en, H', R', q, er, hm', hf'⟩
  cases x with
  | normal =>
   obtain ⟨L, vs, h1, h2, hs⟩ := YCall.h q
   refine wpListIn_plain rfl fun K hK => ⟨fun _ _ => trivial, ?_⟩
   obtain ⟨x1, x2, e, r1, r2⟩ := aT (hf'.eval h1) rfl
   simp only [List.cons.injEq, and_true] at e
   have r1 : x1.toList = [] := r1
   have r2 : x2.toList = [] := r2
   have r1 : x1 = #[] := by rw [← Array.toList_inj]; exact r1
   have r2 : x2 = #[] := by rw [← Array.toList_inj]; exact r2
   subst r1; subst r2; subst hC
   have hrel : RelV R' vs (args.map a.eval).toList := by
    have := dP (fun x av h => hf'.eval h) h2
    simpa using this
   obtain ⟨fn, tmps, asg, body, hy, hR⟩ := hs R' w _ hm'.glo (MS.enter (H2 := []) (by simpa using hm')) hrel
   have hrun : (execOp a.eval { dst := some d, op := .call { callee := .value fv, args := args, argTypes := ts }, type := t, pos := ps, after := af, guard := none : Oper }).run P w = .ok (.round L fn tmps asg body) w := by
    rw [← hy]
    simp only [execOp, resolve, e, Deferred.ofValue, Sem.run_bind, Sem.run_pure, Result.andThen_ok, invoke, Array.empty_append, Array.append_empty]
   rw [show (Fo none).round = none from rfl, Oper.semAt_none, hrun, Oper.uponIn_round]
   refine ⟨fun e => (by cases e), hR.mono ?_⟩
   rintro e w' ⟨b, H2, R2, q2, rfl, hm2⟩
   have hm3 : MS C R2 H2 w' := by simpa using MS.call (H2 := []) (by simpa using hm') hm2
   refine hK _ _ ?_
   have := gp (rd := none) (m := 0) (l := []) (Q := Post C n Q) (fun a w q => wpListIn_nil q) (fun _ _ _ q => q) kx (nd (List.drop_sublist _ _))
    (cP rfl hGL _ _ _ q2 R2 _ w' hm3 ((hf'.mono hm2.ge).put hdn (aE.2 rfl)))
   rwa [List.append_nil] at this
  | exit i => cases er
  | goto i => cases er
  | ret => cases er
  | panic v => obtain ⟨y, e, _⟩ := er; cases e
 ·rintro c a w ⟨x, en, H', R', q, er, hm', hf'⟩
  cases x with
  | normal => cases er
  | exit i => cases er
  | goto i => cases er
  | ret => cases er
  | panic v => exact ⟨.panic v, en, H', R', q, er, hm', hf'⟩
/-! ## The loop -/
def detE (env : Env) : Bool := env.all fun x => x.2.det
theorem l7 : ∀ {env : Env} {k : Nat} {v : AVal}, Env.get env k = some v → (k, v) ∈ env
 | (j, x) :: t, k, v, h => by
  simp only [Env.get] at h
  split at h
  ·rename_i hb
   have := Nat.eq_of_beq_eq_true hb
   subst this
   simp only [Option.some.injEq] at h
   subst h
   exact List.mem_cons_self ..
  ·exact List.mem_cons_of_mem _ (l7 h)
theorem F6 {D : List Deferred} {R : Seal} {a : Act} (hd : detE env = true) (hf : FS D n R env a) (R' : Seal) : FS [] n R' env { tmps := a.tmps, defers := [] } := by
 refine ⟨fun k v hk => ?_, hf.size, rfl⟩
 obtain ⟨x, hx, hr⟩ := hf.fr k v hk
 have hdv : v.det = true := List.all_eq_true.1 hd _ (l7 hk)
 refine ⟨x, hx, ?_⟩
 rw [we hr hdv]
 exact mI hdv
abbrev colD (D : Nat) : Deferred := { target := .collected D, args := #[] }
def LpQ (L D : Nat) (r : Loop) (C : Ctx) (env : Env) (Q : List Deferred → AExit → Env → Heap → Prop) (res : ARes) (h : Heap) : Prop :=
 ∃ v j st pe, res = .ret v ∧ h[j]? = some (objL L r st pe) ∧ st ≠ .busy ∧ (match pe with
  | none => Q (colD D :: C.D) .normal env (h.set j (objL L r .exhausted pe))
  | some .ret => Q (colD D :: C.D) .ret env (h.set j (objL L r .exhausted pe))
  | some (.exit i) => Q (colD D :: C.D) (.exit i) env (h.set j (objL L r .exhausted pe))
  | _ => False)
theorem zJ {C : Ctx} {Q : List Deferred → AExit → Env → Heap → Prop} {g : Operand} {ps : Array Tmp} {assign body : Code} {f : FuncId} {l2 : List AVal} (hg : ai env g = some (.func (.func f) [] l2))
  (hcf : ∀ args w, (callFunc f args).run P w = .ok (.enter f args) w) (env' : Env) (hs : Env.sub env env') (hdet : detE env' = true)
  (hit : ∀ (L D : Nat) (r : Loop), r.params = ps → r.assign = assign → r.body = body → (∀ R, FS [] n R env' { tmps := r.tmps, defers := [] }) →
   ae P C.G f (AVal.func (.yield L) [] [] :: l2) (H ++ [objD D, objL L r .ready none]) (LpQ L D r C env' Q)) : AWpD P C n (.rangeFunc g ps assign body) env H Q := by
 intro R a w hm hf
 refine (wpIn_wide (n := 1)).1 (wpIn_rangeFunc ?_)
 intro fn _
 obtain ⟨r, hr⟩ : ∃ r : Loop, r = { state := .ready, pending := none, fn, tmps := a.tmps, params := ps, assign, body, defers := w.heap.size } := ⟨_, rfl⟩
 have hW : (w.alloc (.deferred (some []))).alloc (.loop r) = grow (grow w (.deferred (some []))) (.loop r) := rfl
 obtain ⟨x1, b1, e, q1, q2⟩ := aT (hf.eval hg) rfl
 simp only [List.cons.injEq, and_true] at e
 have q1 : x1.toList = [] := q1
 have q1 : x1 = #[] := by rw [← Array.toList_inj]; exact q1
 subst q1
 have hsz : (grow w (.deferred (some []))).heap.size = w.heap.size + 1 := by simp [grow]
 have hm1 : MS C R (objD w.heap.size :: H) (grow w (.deferred (some []))) := hm.alloc _ (objD w.heap.size) rfl (cU w _)
 have hm2 : MS C R (objL (w.heap.size + 1) r .ready none :: objD w.heap.size :: H) (grow (grow w (.deferred (some []))) (.loop r)) := by
  have hrr : recL r .ready none = r := by rw [hr]; rfl
  refine hm1.alloc _ (objL (w.heap.size + 1) r .ready none) (by rw [hsz]; rfl) ?_
  show (grow (grow w (.deferred (some []))) (.loop r)).heap[w.heap.size + 1]? = some (.loop (recL r .ready none))
  rw [hrr, ← hsz]
  exact cU _ _
 have hm3 : MS C R (H ++ [objD w.heap.size, objL (w.heap.size + 1) r .ready none]) (grow (grow w (.deferred (some []))) (.loop r)) := by
  refine hm2.perm ?_
  refine List.Perm.trans (List.Perm.swap _ _ _) ?_
  exact List.perm_append_comm (l₁ := [objD w.heap.size, objL (w.heap.size + 1) r .ready none]) (l₂ := H)
 have hspec := hit (w.heap.size + 1) w.heap.size r (by rw [hr]) (by rw [hr]) (by rw [hr]) (fun R' => by rw [hr]; exact F6 hdet (hf.sub hs) R')
 refine ⟨w.heap.size + 1, [colD w.heap.size], grow (grow w (.deferred (some []))) (.loop r), { target := .fn (.func f) b1, args := #[.func (.yield (w.heap.size + 1)) #[] #[]] }, grow (grow w (.deferred (some []))) (.loop r), f,
  #[.func (.yield (w.heap.size + 1)) #[] #[]] ++ b1, grow (grow w (.deferred (some []))) (.loop r), ?_, ?_, fun _ _ => trivial, ?_, fun _ => Nat.le_refl _, ?_⟩
 ·rw [← hW, hr]
  exact run_enterLoop_outer _ _ _ _ _
 ·simp only [resolve, rangeCall, e]
  simp [go_sem, Deferred.ofValue]
 ·simp only [invoke]
  exact hcf _ _
 ·have hrel : RelV R (AVal.func (.yield (w.heap.size + 1)) [] [] :: l2) (#[Value.func (.yield (w.heap.size + 1)) #[] #[]] ++ b1).toList := by
   rw [Array.toList_append]
   exact ⟨.func (.yield (w.heap.size + 1)) #[] #[], _, rfl, ⟨⟨#[], #[], rfl, rfl, rfl⟩, rfl⟩, q2⟩
  have hcall := hspec R _ _ hm.glo (MS.enter (H2 := []) (by simpa using hm3)) hrel
  have hcalls : Calls P f (#[Value.func (.yield (w.heap.size + 1)) #[] #[]] ++ b1) (grow (grow w (.deferred (some []))) (.loop r)) (fun e w' => ∃ res H' R', LpQ (w.heap.size + 1) w.heap.size r C env' Q res H' ∧ eJ R' res e ∧
    MS ⟨grow (grow w (.deferred (some []))) (.loop r), R, blks (H ++ [objD w.heap.size, objL (w.heap.size + 1) r .ready none]), C.G, hm.glo, []⟩ R' H' w') := by
   rcases hcall with ⟨_, h2⟩ | ⟨v, w', h1, _⟩
   ·exact h2
   ·rw [hcf] at h1; cases h1
  refine ((callsIn_wide (n := 1 - 1)).2 hcalls).mono ?_
  rintro e' w3 ⟨res, H', R', ⟨v, j, st, pe, rfl, hj, hst, hq⟩, ⟨y, rfl, _⟩, hm4⟩
  have hm5 : MS C R' H' w3 := by simpa using MS.call (H2 := []) (by simpa using hm3) hm4
  refine ⟨pe, _, run_endLoop (iH hm5 hj) hst, ?_⟩
  have hm6 := fC (.loop { recL r st pe with state := .exhausted }) hm5 hj
  have hf6 : FS (colD w.heap.size :: C.D) n R' env' { a with defers := [colD w.heap.size] ++ a.defers } := by
   have h7 := (hf.sub hs).mono hm4.ge
   exact ⟨h7.fr, h7.size, by show colD w.heap.size :: a.defers = _; rw [h7.defers]⟩
  cases pe with
  | none => exact ⟨_, .normal, env', _, R', hq, rfl, hm6, hf6⟩
  | some c =>
   cases c with
   | ret => exact wpIn_ret ⟨_, .ret, env', _, R', hq, rfl, hm6, hf6⟩
   | exit i => exact wpIn_exit ⟨_, .exit i, env', _, R', hq, rfl, hm6, hf6⟩
   | _ => exact hq.elim
def Gl (id : Nat) (Q : List Deferred → AExit → Env → Heap → Prop) : List Deferred → AExit → Env → Heap → Prop
 | D, .exit i, e, h => (i = id → Q D .normal e h) ∧ (i ≠ id → Q D (.exit i) e h)
 | D, x, e, h => Q D x e h
theorem zK {C : Ctx} {Q : List Deferred → AExit → Env → Heap → Prop} {id : Nat} {c : Code} (h : AWpD P C n c env H (Gl id Q)) : AWpD P C n (.block id c) env H Q := by
 intro R a w hm hf
 refine wp_block (wp_mono (h R a w hm hf) ?_)
 rintro e a' w' ⟨D, x', en, H', R', q, er, hm', hf'⟩
 cases x' with
 | normal => simp only [au] at er; subst er; exact ⟨D, .normal, en, H', R', q, rfl, hm', hf'⟩
 | exit i =>
  simp only [au] at er; subst er
  simp only [Exit.inBlock]
  by_cases e : i = id
  ·rw [if_pos e]; exact ⟨D, .normal, en, H', R', q.1 e, rfl, hm', hf'⟩
  ·rw [if_neg e]; exact ⟨D, .exit i, en, H', R', q.2 e, rfl, hm', hf'⟩
 | goto i => simp only [au] at er; subst er; exact ⟨D, .goto i, en, H', R', q, rfl, hm', hf'⟩
 | ret => simp only [au] at er; subst er; exact ⟨D, .ret, en, H', R', q, rfl, hm', hf'⟩
 | panic v => obtain ⟨y, rfl, hr⟩ := er; exact ⟨D, .panic v, en, H', R', q, ⟨y, rfl, hr⟩, hm', hf'⟩
/-! ## As a function with marks leaves -/
def LvM (P : Program) (G : Glo) (n : Nat) (rs : List ResultVar) (env : Env) (D : List Deferred) (m : AMode) (H : Heap) (Qf : ARes → Heap → Prop) : Prop :=
 ∀ (C : Ctx) (R : Seal) (a : Act) (w : World) (fn : Func) (u : FrameMode) (D0 : List Deferred), C.G = G → fn.results.toList = rs → MS C R H w → FS D0 n R env a → cC R m u →
  LeavesInM Fence.wide 0 P fn a.tmps (fun e w' => ∃ res H' R', Qf res H' ∧ eJ R' res e ∧ MS C R' H' w') D u w
variable {rs : List ResultVar} {Qf : ARes → Heap → Prop} {D : List Deferred} {m : AMode}
theorem xJ [Tab P] (h : RetX P rs Qf .ret env H) : LvM P G n rs env [] .ret H Qf := by
 rintro C R a w fn u D0 hC hrs hm hf rfl
 obtain ⟨vs, H'', hv, hs, q⟩ := eO h
 obtain ⟨y, hy, hr⟩ := cd (fn := fn) hm hf (by rw [hrs]; exact hv)
 exact ⟨y, hy, _, H'', R, q, ⟨y, rfl, hr⟩, hm.drop hs⟩
theorem xK {i d : Nat} (hi : H[i]? = some (objD d)) (h : LvM P G n rs env D m (H.set i (.obj d (.deferred none))) Qf) : LvM P G n rs env (colD d :: D) m H Qf := by
 rintro C R a w fn u D0 hC hrs hm hf hu
 refine ⟨s6 hu, .inl ⟨d, _, rfl, run_takeDeferred (iH hm hi), h C R a _ fn u D0 hC hrs (fC _ hm hi) hf hu⟩⟩
def LvQM (P : Program) (G : Glo) (n : Nat) (rs : List ResultVar) (Qf : ARes → Heap → Prop) : List Deferred → AExit → Env → Heap → Prop
 | D, .ret, e, H | D, .normal, e, H => LvM P G n rs e D .ret H Qf
 | D, .panic v, e, H => LvM P G n rs e D (.pan v) H Qf
 | _, _, _, _ => False
theorem fn_m {f : FuncId} {fn : Func} {c : Code} {avs : List AVal} (hf : P.funcs[f]? = some fn)
  (hc : ∀ args w, (callFunc f args).run P w = .ok (.enter f args) w) (hb : fn.body = some c) (hn : fn.ntmps = n) (hrs : fn.results = rs.toArray) (hlen : Nat.ble avs.length n = true)
  (h : ∀ C : Ctx, C.G = G → C.D = [] → AWpD P C n c (cA 0 avs) H (LvQM P G n rs Qf)) : ae P G f avs H Qf := by
 intro R w args hG hm ha
 refine .inl ⟨hc args w, (callsIn_wide (n := 0)).1 (callsIn_of_wp_marks hf hb trivial ((wpIn_wide (n := 0)).2 ?_))⟩
 subst hn
 have hrs' : fn.results.toList = rs := by rw [hrs]
 refine wp_mono (h ⟨w, R, blks H, G, hG, []⟩ rfl rfl R _ w hm (rv hlen ha)) ?_
 rintro e a' w' ⟨D, x, env', H', R', q, er, hm', hf'⟩
 cases x with
 | normal =>
  simp only [au] at er; subst er
  have := q _ R' a' w' fn .returning D rfl hrs' hm' hf' rfl
  rwa [← hf'.defers] at this
 | ret =>
  simp only [au] at er; subst er
  have := q _ R' a' w' fn .returning D rfl hrs' hm' hf' rfl
  rwa [← hf'.defers] at this
 | panic v =>
  obtain ⟨y, rfl, hr⟩ := er
  have := q _ R' a' w' fn (.panicking [{ v := y, recovered := false }]) D rfl hrs' hm' hf' ⟨y, rfl, hr⟩
  rwa [← hf'.defers] at this
 | exit i => exact q.elim
 | goto i => exact q.elim
end
end
section
open Go Go.RowKit
structure Rl where
 t : Int
 a : Int
 b : Int
 p : Int
deriving DecidableEq
def Rl.A (r : Rl) : AVal := .agg [.int .i64 r.t, .int .i64 r.a, .int .i64 r.b, .int .i64 r.p]
def Rl.z : Rl := ⟨0, 0, 0, 0⟩
structure Kn where
 n : List UInt8
 o : Option Rl
 w : Option Rl
def knR : List Kn := [
 ⟨[70, 78], some ⟨1, 1, 1, 0⟩, some ⟨1, 1, 0, 0⟩⟩,
 ⟨[78], some ⟨3, 1, 1, 5⟩, some ⟨3, 0, 1, 5⟩⟩,
 ⟨[78, 73, 67, 75, 78, 65, 77, 69], some ⟨2, 0, 0, 0⟩, some ⟨2, 0, 0, 0⟩⟩,
 ⟨[80, 72, 79, 84, 79], some ⟨8, 0, 0, 0⟩, some ⟨4, 0, 0, 0⟩⟩,
 ⟨[66, 68, 65, 89], some ⟨5, 0, 1, 0⟩, some ⟨5, 0, 1, 0⟩⟩,
 ⟨[65, 78, 78, 73, 86, 69, 82, 83, 65, 82, 89], none, some ⟨5, 0, 1, 0⟩⟩,
 ⟨[71, 69, 78, 68, 69, 82], none, some ⟨3, 0, 1, 2⟩⟩,
 ⟨[65, 68, 82], some ⟨3, 0, 0, 7⟩, some ⟨3, 0, 0, 7⟩⟩,
 ⟨[76, 65, 66, 69, 76], some ⟨1, 0, 0, 0⟩, none⟩,
 ⟨[84, 69, 76], some ⟨1, 0, 0, 0⟩, some ⟨1, 0, 0, 0⟩⟩,
 ⟨[69, 77, 65, 73, 76], some ⟨1, 0, 0, 0⟩, some ⟨1, 0, 0, 0⟩⟩,
 ⟨[77, 65, 73, 76, 69, 82], some ⟨1, 0, 0, 0⟩, none⟩,
 ⟨[73, 77, 80, 80], none, some ⟨4, 0, 0, 0⟩⟩,
 ⟨[76, 65, 78, 71], none, some ⟨7, 0, 0, 0⟩⟩,
 ⟨[84, 90], some ⟨6, 0, 1, 0⟩, some ⟨1, 0, 0, 0⟩⟩,
 ⟨[71, 69, 79], some ⟨3, 0, 1, 2⟩, some ⟨4, 0, 0, 0⟩⟩,
 ⟨[84, 73, 84, 76, 69], some ⟨1, 0, 0, 0⟩, some ⟨1, 0, 0, 0⟩⟩,
 ⟨[82, 79, 76, 69], some ⟨1, 0, 0, 0⟩, some ⟨1, 0, 0, 0⟩⟩,
 ⟨[76, 79, 71, 79], some ⟨8, 0, 0, 0⟩, some ⟨4, 0, 0, 0⟩⟩,
 ⟨[65, 71, 69, 78, 84], some ⟨1, 0, 0, 0⟩, none⟩,
 ⟨[79, 82, 71], some ⟨3, 0, 0, 0⟩, some ⟨3, 0, 0, 0⟩⟩,
 ⟨[77, 69, 77, 66, 69, 82], none, some ⟨4, 0, 0, 0⟩⟩,
 ⟨[82, 69, 76, 65, 84, 69, 68], none, some ⟨4, 0, 0, 0⟩⟩,
 ⟨[67, 65, 84, 69, 71, 79, 82, 73, 69, 83], some ⟨2, 0, 0, 0⟩, some ⟨2, 0, 0, 0⟩⟩,
 ⟨[78, 79, 84, 69], some ⟨1, 0, 0, 0⟩, some ⟨1, 0, 0, 0⟩⟩,
 ⟨[80, 82, 79, 68, 73, 68], some ⟨1, 0, 1, 0⟩, some ⟨1, 0, 1, 0⟩⟩,
 ⟨[82, 69, 86], some ⟨5, 0, 1, 0⟩, some ⟨5, 0, 1, 0⟩⟩,
 ⟨[83, 79, 82, 84, 45, 83, 84, 82, 73, 78, 71], some ⟨1, 0, 1, 0⟩, none⟩,
 ⟨[83, 79, 85, 78, 68], some ⟨8, 0, 0, 0⟩, some ⟨4, 0, 0, 0⟩⟩,
 ⟨[85, 73, 68], some ⟨1, 0, 1, 0⟩, some ⟨4, 0, 1, 0⟩⟩,
 ⟨[85, 82, 76], some ⟨4, 0, 0, 0⟩, some ⟨4, 0, 0, 0⟩⟩,
 ⟨[67, 76, 65, 83, 83], some ⟨1, 0, 1, 0⟩, none⟩,
 ⟨[75, 73, 78, 68], none, some ⟨1, 0, 1, 0⟩⟩,
 ⟨[75, 69, 89], some ⟨8, 0, 0, 0⟩, some ⟨4, 0, 0, 0⟩⟩,
 ⟨[78, 65, 77, 69], some ⟨1, 0, 1, 0⟩, none⟩,
 ⟨[83, 79, 85, 82, 67, 69], some ⟨4, 0, 0, 0⟩, some ⟨4, 0, 0, 0⟩⟩]
def Kn.of (k : Kn) (v : Int) : Option Rl := if v = 3 then k.o else k.w
def rowV (v : Int) : List (List UInt8 × Rl) := knR.filterMap fun k => (k.of v).map fun r => (k.n, r)
def digC (i : Int) : UInt8 := UInt8.ofNat (48 + i.toNat)
def txtR (x : List UInt8 × Rl) : List UInt8 := x.1 ++ [32, digC x.2.t, 32, digC x.2.a, 32, digC x.2.b, 32, digC x.2.p]
def cp (c : UInt8) : List (List UInt8) → List UInt8
 | [] => []
 | [x] => x
 | x :: y :: t => x ++ c :: cp c (y :: t)
def tabR (v : Int) : List (List UInt8) := (rowV v).map txtR
def tabS (v : Int) : List UInt8 := cp 124 (tabR v)
def du (s : List UInt8) : List (List UInt8 × Rl) → Rl
 | [] => ⟨8, 0, 0, 0⟩
 | x :: t => if x.1 = s then x.2 else du s t
def fd (v : Int) (s : List UInt8) : Rl := if v = 3 ∨ v = 4 then du (aJ 97 122 (-32) s) (rowV v) else Rl.z
def verE (v : Int) : Err := if v = 3 ∨ v = 4 then .none else .errno 1
/-! Texts joined, cut again. -/
theorem vM {c : UInt8} {l : List (List UInt8)} {k : Nat} (h : k + 1 < l.length) : cp c (l.drop k) = l.getD k [] ++ c :: cp c (l.drop (k + 1)) := by
 rw [List.drop_eq_getElem_cons (by omega), List.drop_eq_getElem_cons h]
 simp only [cp]
 rw [List.getD_eq_getElem?_getD, List.getElem?_eq_getElem (by omega)]
 rfl
theorem vL {c : UInt8} {l : List (List UInt8)} {k : Nat} (h : k + 1 = l.length) : cp c (l.drop k) = l.getD k [] := by
 rw [List.drop_eq_getElem_cons (by omega), List.drop_of_length_le (by omega)]
 simp only [cp]
 rw [List.getD_eq_getElem?_getD, List.getElem?_eq_getElem (by omega)]
 rfl
end
section
open Go Go.RowKit
def cutB (s : List UInt8) (c : Int) : List UInt8 × List UInt8 × Bool := if idxB s c < 0 then (s, [], false) else (s.take (idxB s c).toNat, s.drop ((idxB s c).toNat + 1), true)
def dk (s : List UInt8) (c : Int) : Nat → Int
 | 0 => -1
 | n + 1 => if (aa s n : Int) = c then n else dk s c n
theorem l3 (s : List UInt8) (c : Int) : ∀ n, (dk s c n = -1 ∧ ∀ j, j < n → (aa s j : Int) ≠ c) ∨ ∃ m, m < n ∧ dk s c n = (m : Int) ∧ (aa s m : Int) = c ∧ ∀ j, m < j → j < n → (aa s j : Int) ≠ c
 | 0 => .inl ⟨rfl, fun j h => absurd h (Nat.not_lt_zero _)⟩
 | n + 1 => by
  by_cases h : (aa s n : Int) = c
  ·exact .inr ⟨n, Nat.lt_succ_self _, by simp only [dk]; rw [if_pos h], h, fun j h1 h2 => by omega⟩
  ·have e : dk s c (n + 1) = dk s c n := by simp only [dk]; rw [if_neg h]
   rw [e]
   rcases l3 s c n with ⟨h1, h2⟩ | ⟨m, h1, h2, h3, h4⟩
   ·exact .inl ⟨h1, fun j hj => by
     rcases Nat.lt_or_ge j n with g | g
     ·exact h2 j g
     ·rw [show j = n by omega]; exact h⟩
   ·exact .inr ⟨m, by omega, h2, h3, fun j g1 g2 => by
     rcases Nat.lt_or_ge j n with g | g
     ·exact h4 j g1 g
     ·rw [show j = n by omega]; exact h⟩
theorem BO {c : UInt8} : idxB [c] (c.toNat : Int) = 0 := qY (i := 0) (Nat.lt_succ_self 0) rfl (fun j h => absurd h (Nat.not_lt_zero _))
theorem CG {c : UInt8} : (aa [c] 0 : Int) = (c.toNat : Int) := rfl
attribute [local irreducible] AWp AOps aa ax OrOk ab ae
theorem ke {G : Glo} (s : List UInt8) (c : UInt8) : FnIs Tryz.prog G 118 [.str s, .str [c]] (.int .i64 (idxB s (c.toNat : Int))) := by
 have hc := c.toNat_lt
 have hb := CG (c := c)
 have k1 := ep (G := G) s (aa [c] 0 : Int) (by omega) (by omega)
 by_cases hs : [c] = s
 ·have e := BO (c := c)
  rw [hs] at e
  rw [e]
  have hGL : ab G [] := ad
  refine fn_x Tryz.func118 Tryz.call118 rfl rfl rfl rfl hGL ?_
  intro C hC
  exact xw0
 ·rw [← hb]
  have hGL : ab G [] := ad
  refine fn_x Tryz.func118 Tryz.call118 rfl rfl rfl rfl hGL ?_
  intro C hC
  exact xw0
theorem uP {G : Glo} (s : List UInt8) (c : UInt8) (hl : s.length ≤ 1000000) : FnIs Tryz.prog G 134 [.str s, .str [c]] (.tuple [.str (cutB s (c.toNat : Int)).1, .str (cutB s (c.toNat : Int)).2.1, .bool (cutB s (c.toNat : Int)).2.2]) := by
 have k1 := ke (G := G) s c
 rcases fO s (c.toNat : Int) with ⟨h1, h2⟩ | ⟨m, h1, h2, h3, h4⟩
 ·have e : cutB s (c.toNat : Int) = (s, [], false) := by unfold cutB; rw [h1, if_pos (by decide)]
  rw [h1] at k1
  rw [e]
  have hGL : ab G [] := ad
  refine fn_x Tryz.func134 Tryz.call134 rfl rfl rfl rfl hGL ?_
  intro C hC
  exact xw0
 ·have e : cutB s (c.toNat : Int) = (s.take m, s.drop (m + 1), true) := by unfold cutB; rw [h2, if_neg (by omega), Int.toNat_natCast]
  rw [h2] at k1
  rw [e]
  have hGL : ab G [] := ad
  refine fn_x Tryz.func134 Tryz.call134 rfl rfl rfl rfl hGL ?_
  intro C hC
  exact xw0
theorem mf {G : Glo} (s : List UInt8) (c : UInt8) (hl : s.length ≤ 1000000) : FnIs Tryz.prog G 99 [.str s, .str [c]] (.tuple [.str (cutB s (c.toNat : Int)).1, .str (cutB s (c.toNat : Int)).2.1, .bool (cutB s (c.toNat : Int)).2.2]) := by
 have k1 := uP (G := G) s c hl
 have hGL : ab G [] := ad
 refine fn_x Tryz.func99 Tryz.call99 rfl rfl rfl rfl hGL ?_
 intro C hC
 exact xw0
theorem fu {G : Glo} (s : List UInt8) (c : Int) (h0 : 0 ≤ c) (h1 : c ≤ 255) (hl : s.length ≤ 1000000) : FnIs Tryz.prog G 141 [.str s, .int .u8 c] (.int .i64 (dk s c s.length)) := by
 have hGL : ab G [] := ad
 refine fn_x Tryz.func141 Tryz.call141 rfl rfl rfl rfl hGL ?_
 intro C hC
 refine xw1 ?_
 refine lp hC hGL (fun n : Nat => [(0, .str s), (1, .int .u8 c), (5, .int .i64 ((n : Int) - 1))]) (fun _ => []) (fun n => n ≤ s.length ∧ dk s c n = dk s c s.length) (fun n => n) s.length ⟨Nat.le_refl _, rfl⟩ aj rfl ?_
 rintro n ⟨h2, h3⟩
 cases n with
 | zero =>
  rw [← h3]
  exact xw0
 | succ n =>
  by_cases h : (aa s n : Int) = c
  ·have e : dk s c (n + 1) = n := by simp only [dk]; rw [if_pos h]
   rw [← h3, e]
   have e9 : ((n + 1 : Nat) : Int) - 1 = (n : Int) := by omega
   rw [e9]
   exact xw0
  ·have e : dk s c (n + 1) = dk s c n := by simp only [dk]; rw [if_neg h]
   rw [e] at h3
   have e9 : ((n + 1 : Nat) : Int) - 1 = (n : Int) := by omega
   rw [e9]
   refine xw1 ?_
   intros
   exact nxt n ⟨by omega, h3⟩ (by omega) aj rfl
theorem il {G : Glo} (s : List UInt8) (c : Int) (h0 : 0 ≤ c) (h1 : c ≤ 255) (hl : s.length ≤ 1000000) : FnIs Tryz.prog G 102 [.str s, .int .u8 c] (.int .i64 (dk s c s.length)) := by
 have k1 := fu (G := G) s c h0 h1 hl
 have hGL : ab G [] := ad
 refine fn_x Tryz.func102 Tryz.call102 rfl rfl rfl rfl hGL ?_
 intro C hC
 exact xw0
end
end Go.Proofs.YtkelbglfhigmiaaGreatDoor
