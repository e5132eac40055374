/- Parts of the proof of cardItems_card: Nm, Shb, Ext, Shelf, Namr, Tell, Telb, Plc. -/
import Derived.Below
import Derived.Laws.Externs
import Derived.Shelf.Strings.Builder1
import Derived.Shelf.Strings.Builder2
import Derived.Shelf.Strings.OnBuilder
import Derived.Shelf.Small.Utf8
import Derived.Shelf.Small.Strs
import Derived.Shelf.Strings.BuilderF
import Derived.Shelf.Strings.BuilderK
import Derived.Shelf.Strings.BuilderRune
import Derived.Shelf.Strings.Builder2Cap
import Derived.Shelf.Strconv.Atoi
import Derived.Shelf.Strconv.Itoa0
import Derived.Shelf.Strconv.Itoa1
import Derived.Shelf.LaysM
import Derived.Shelf.Strconv.Itoa2
import Derived.Shelf.Strconv.Itoa3
import Derived.Shelf.Strconv.AtoiErrFast
import Derived.Shelf.Strconv.ParseIntEmpty
import Derived.Shelf.Strconv.AtoiFail
import Derived.Shelf.Strconv.Clone
import Derived.Shelf.Strconv.SyntaxError
import Derived.Shelf.LaysC
import Derived.Shelf.Strconv.ToError
import Derived.Shelf.Strconv.AtoiErr
import Derived.Shelf.Strconv.Lower
import Derived.Shelf.Strconv.ParseUint10
import Derived.Shelf.Strconv.ParseUint10Empty
import Derived.Shelf.Strconv.ParseUint10Any
import Derived.Shelf.Strconv.ParseInt10
import Derived.Shelf.Strconv.AtoiLong
import Derived.Shelf.Strconv.AtoiInnerAll
import Derived.Shelf.Strconv.RangeError
import Derived.Shelf.Strconv.ToErrorRange
import Derived.Shelf.Strconv.AtoiAll
import Derived.Shelf.Strconv.ErrVarAll
import Derived.Shelf.Strings.Search1
import Derived.Shelf.Strings.Search2
import Derived.Shelf.Strings.Search3
import Derived.Shelf.Strings.Cut
import Derived.Shelf.Strings.Count
import Derived.Shelf.Strings.Shaped
import Derived.Shelf.Strings.LastIndex
import Derived.Shelf.Strings.Prefix
import Derived.Shelf.Strings.Split
import Derived.Shelf.Strings.Fields
import Derived.Shelf.Strings.Replace
import Derived.Shelf.Strings.SplitShaped
import Derived.Shelf.Unicode.Latin
import Derived.Shelf.Unicode.Decode
import Derived.Shelf.Strings.Runes
import Derived.Shelf.Strings.RuneCount
import Derived.Shelf.Strings.IndexAny
import Derived.Shelf.Strings.AsciiSet
import Derived.Shelf.Strings.IndexAnyAll
import Derived.Shelf.Strings.Explode
import Derived.Shelf.Unicode.DecodeSlow
import Derived.Shelf.Unicode.DecodeAny
import Derived.Shelf.Unicode.Is16White
import Derived.Shelf.Unicode.IsSpaceAny
import Derived.Shelf.Unicode.CaseLookup
import Derived.Shelf.Unicode.CaseConvert
import Derived.Shelf.Unicode.CaseTo
import Derived.Shelf.Unicode.CaseLaid
import Derived.Shelf.Strings.MapAny
import Derived.Shelf.Unicode.Is16Any
import Derived.Shelf.Unicode.Is32Any
import Derived.Shelf.Unicode.ExclAny
import Derived.Shelf.Strings.BuilderCap
import Derived.Shelf.Strings.MapGrows
import Derived.Test.YtkelbglfhigmiaaGreatDoorProg
import Derived.Stop.Asserts
import Derived.Test.YtkelbglfhigmiaaGreatDoorBad
set_option linter.unusedVariables false
set_option linter.unusedSimpArgs false
set_option linter.unusedSectionVars false
namespace Go.Proofs.YtkelbglfhigmiaaGreatDoor
set_option maxRecDepth 20000
set_option maxHeartbeats 4000000
section
open Go
attribute [local irreducible] AWp AOps aa ax OrOk ab ae
theorem fU {s t : List UInt8} (h : t.length = s.length) (hb : ∀ j, j < s.length → aa t j = aa s j) : t = s := by
 apply List.ext_getElem h
 intro i h1 h2
 have := hb i h2
 simp only [aa, List.getD, List.getElem?_eq_getElem h1, List.getElem?_eq_getElem h2, Option.getD_some] at this
 exact UInt8.toNat_inj.1 this
def dj (low high by_ : Int) (c : Nat) : Int := if low ≤ c ∧ (c : Int) ≤ high then c + by_ else c
def aJ (low high by_ : Int) (s : List UInt8) : List UInt8 := s.map fun c => UInt8.ofNat (dj low high by_ c.toNat).toNat
theorem tY {low high by_ : Int} (h1 : 0 ≤ low + by_) (h2 : high + by_ ≤ 255) {s : List UInt8} {j : Nat} (h : j < s.length) : (aa (aJ low high by_ s) j : Int) = dj low high by_ (aa s j) := by
 have e : (aa (aJ low high by_ s) j) = (UInt8.ofNat (dj low high by_ s[j].toNat).toNat).toNat := by
  simp [aa, aJ, List.getD, h]
 have e2 : aa s j = s[j].toNat := by simp [aa, List.getD, h]
 rw [e, e2, UInt8.toNat_ofNat']
 have := UInt8.toNat_lt s[j]
 unfold dj
 split <;> omega
def ig (low high by_ : Int) (s : List UInt8) (x : Nat × List UInt8) : Prop :=
 x.1 ≤ s.length ∧ x.2.length = s.length ∧ ∀ j, j < s.length → (aa x.2 j : Int) = if j < x.1 then dj low high by_ (aa s j) else aa s j
theorem rV {low high by_ : Int} {s : List UInt8} : ig low high by_ s (0, s) := ⟨Nat.zero_le _, rfl, fun j _ => by rw [if_neg (by simp)]⟩
theorem iX {low high by_ : Int} {s : List UInt8} {i : Nat} {t : List UInt8} (h : ig low high by_ s (i, t)) (hi : i < s.length) : aa t i = aa s i := by
 have := h.2.2 i hi
 rw [if_neg (by simp)] at this
 exact Int.ofNat.inj this
theorem mW {low high by_ : Int} {s : List UInt8} {i : Nat} {t : List UInt8} (h : ig low high by_ s (i, t)) (hi : i < s.length) {m : Int} (hm : m = dj low high by_ (aa s i)) (h0 : 0 ≤ m) (h1 : m ≤ 255) :
  ig low high by_ s (i + 1, t.set i (UInt8.ofNat m.toNat)) := by
 obtain ⟨h2, h3, h4⟩ := h
 refine ⟨hi, by simp only [List.length_set]; exact h3, fun j hj => ?_⟩
 dsimp only at *
 rw [wx (by omega) (by omega) (by omega)]
 by_cases e : j = i
 ·subst e
  rw [if_pos rfl, if_pos (by omega), hm]
 ·rw [if_neg e, h4 j hj]
  by_cases e2 : j < i
  ·rw [if_pos e2, if_pos (by omega)]
  ·rw [if_neg e2, if_neg (by omega)]
theorem lQ {low high by_ : Int} {s : List UInt8} {i : Nat} {t : List UInt8} (h : ig low high by_ s (i, t)) (hi : i < s.length) (hm : dj low high by_ (aa s i) = aa s i) :
  ig low high by_ s (i + 1, t) := by
 refine ⟨hi, h.2.1, fun j hj => ?_⟩
 have := h.2.2 j hj
 dsimp only at *
 rw [this]
 by_cases e : j = i
 ·subst e
  rw [if_neg (by omega), if_pos (by omega), hm]
 ·by_cases e2 : j < i
  ·rw [if_pos e2, if_pos (by omega)]
  ·rw [if_neg e2, if_neg (by omega)]
theorem mX {low high by_ : Int} (h1 : 0 ≤ low + by_) (h2 : high + by_ ≤ 255) {s : List UInt8} {i : Nat} {t : List UInt8} (h : ig low high by_ s (i, t)) (hi : s.length ≤ i) : t = aJ low high by_ s := by
 refine fU (by simp only [aJ, List.length_map]; exact h.2.1) (fun j hj => ?_)
 have hj' : j < s.length := by simpa [aJ] using hj
 have := h.2.2 j hj'
 rw [if_pos (show j < i by omega), ← tY h1 h2 hj'] at this
 exact Int.ofNat.inj this
theorem pC {G : Glo} (s : List UInt8) (low high by_ : Int) (h1 : 0 ≤ low + by_) (h2 : high + by_ ≤ 255) (h3 : 0 ≤ low) (h4 : high ≤ 255) (h5 : -300 ≤ by_) (h6 : by_ ≤ 300) (hl : s.length ≤ 9223372036854775807) :
  FnIs Tryz.prog G 97 [.str s, .int .u8 low, .int .u8 high, .int .i64 by_] (.str (aJ low high by_ s)) := by
 have hGL : ab G [] := ad
 refine fn_x Tryz.func97 Tryz.call97 rfl rfl rfl rfl hGL ?_
 intro C hC
 repeat' (first | (conv => whnf); first | refine .w ?_ | refine .v ?_ | refine sc_c ?_ ?_ <;> (intro hb; try exact dd hb) | apply ah | apply aq | (apply sc_i <;> intro hb) | (apply bx_i; intro hbd) | (apply ak; first | fail) | (apply ap (i := 0) rfl; first | fail) | (apply ab_i; intro bl) | (apply as_i; intro va vk vc hva) | (apply av_i; intro v) | (apply ac_i; intro bl cap hcap) | apply bo_l | (apply nx_i <;> intro hnx) | exact rt_w | apply dw_q mixed hC hGL (by kernel_rfl) | (apply cq; assumption; (first | fail); exact rfl))
 all_goals try conv => whnf
 refine lp hC hGL (fun (x : Nat × List UInt8) => [(1, .int .u8 low), (2, .int .u8 high), (3, .int .i64 by_), (9, .own 0 (.slice (some ⟨bl, 0, none⟩) s.length cap)), (14, .own 0 (.slice (some ⟨bl, 0, none⟩) s.length cap)), (15, .int .i64 s.length), (16, .int .i64 x.1)]) (fun x => [.buf bl x.2 cap]) (ig low high by_ s) (fun x => s.length - x.1) (0, s) ?_ aj rfl ?_
 ·exact rV
 rintro ⟨i, t⟩ hI
 have hi := hI.1
 have ht := hI.2.1
 dsimp only at hi ht ⊢
 refine xw ?_
 repeat' (first | exact Le.n | refine Lc.mk ?_ ?_)
 all_goals intros
 ·refine nxt (i + 1, t.set i (UInt8.ofNat ((aa t i : Int) + by_).toNat)) ?_ ?_ aj rfl
  ·have e := iX hI (by omega)
   refine mW hI (by omega) ?_ (by omega) (by omega)
   unfold dj
   rw [if_pos (by omega)]
   omega
  ·dsimp only; omega
 iterate 2
  ·refine nxt (i + 1, t) ?_ ?_ aj rfl
   ·have e := iX hI (by omega)
    refine lQ hI (by omega) ?_
    unfold dj
    rw [if_neg (by omega)]
   ·dsimp only; omega
 ·apply ar
  rw [mX h1 h2 hI (by omega)]
theorem jM {G : Glo} (s : List UInt8) (hl : s.length ≤ 9223372036854775807) : FnIs Tryz.prog G 95 [.str s] (.str (aJ 97 122 (-32) s)) := by
 have hGL : ab G [] := ad
 refine fn_x Tryz.func95 Tryz.call95 rfl rfl rfl rfl hGL ?_
 intro C hC
 have ht := pC (G := G) s 97 122 (-32) (by decide) (by decide) (by decide) (by decide) (by decide) (by decide) hl
 exact xw0
theorem vy {G : Glo} (s : List UInt8) (hl : s.length ≤ 9223372036854775807) : FnIs Tryz.prog G 60 [.str s] (.str (aJ 65 90 32 s)) := by
 have hGL : ab G [] := ad
 refine fn_x Tryz.func60 Tryz.call60 rfl rfl rfl rfl hGL ?_
 intro C hC
 have ht := pC (G := G) s 65 90 32 (by decide) (by decide) (by decide) (by decide) (by decide) (by decide) hl
 exact xw0
theorem zh {G : Glo} (s t : List UInt8) (hl : s.length ≤ 9223372036854775807) (hm : t.length ≤ 9223372036854775807) : FnIs Tryz.prog G 96 [.str s, .str t] (.bool (seqB (aJ 97 122 (-32) s) (aJ 97 122 (-32) t))) := by
 have hGL : ab G [] := ad
 refine fn_x Tryz.func96 Tryz.call96 rfl rfl rfl rfl hGL ?_
 intro C hC
 have h1 := jM (G := G) s hl
 have h2 := jM (G := G) t hm
 exact xw0
def aG (c : Int) : Bool := decide ((97 ≤ c ∧ c ≤ 122) ∨ (65 ≤ c ∧ c ≤ 90) ∨ (48 ≤ c ∧ c ≤ 57) ∨ c = 45)
theorem pJ {c : Int} : aG c = true ↔ ((97 ≤ c ∧ c ≤ 122) ∨ (65 ≤ c ∧ c ≤ 90) ∨ (48 ≤ c ∧ c ≤ 57) ∨ c = 45) := by simp [aG]
attribute [local irreducible] aG
theorem iG {G : Glo} (c : Int) : FnIs Tryz.prog G 128 [.int .u8 c] (.bool (aG c)) := by
 have hGL : ab G [] := ad
 refine fn_x Tryz.func128 Tryz.call128 rfl rfl rfl rfl hGL ?_
 intro C hC
 refine xw ?_
 repeat' (first | exact Le.n | refine Lc.mk ?_ ?_)
 all_goals intros
 all_goals (apply ar; refine congrArg AVal.bool ?_; rw [Bool.eq_iff_iff]; simp only [pJ, eV, true_iff]; omega)
def allB (f : Int → Bool) (s : List UInt8) : Bool := s.all fun c => f (c.toNat : Int)
theorem lP {f : Int → Bool} {s : List UInt8} : allB f s = true ↔ ∀ j, j < s.length → f (aa s j) = true := by
 unfold allB
 rw [List.all_eq_true]
 constructor
 ·intro h j hj
  have := h s[j] (List.getElem_mem hj)
  simpa [aa, List.getD, hj] using this
 ·intro h c hc
  obtain ⟨j, hj, rfl⟩ := List.getElem_of_mem hc
  simpa [aa, List.getD, hj] using h j hj
theorem wI {f : Int → Bool} {s : List UInt8} {j : Nat} (hj : j < s.length) (h : f (aa s j) = false) : allB f s = false := by
 rw [Bool.eq_false_iff]
 intro h2
 rw [lP.1 h2 j hj] at h
 cases h
theorem bK {p : Nat → Prop} {i : Nat} (h : ∀ j, j < i → p j) (k : p i) : ∀ j, j < i + 1 → p j := by
 intro j hj
 by_cases e : j = i
 ·subst e; exact k
 ·exact h j (by omega)
def isS (s : List UInt8) : Bool := allB aG s && (decide (s.length ≠ 0) && decide (s.length ≤ 40))
theorem xF {G : Glo} (s : List UInt8) (hl : s.length ≤ 9223372036854775807) : FnIs Tryz.prog G 90 [.str s] (.bool (isS s)) := by
 have hGL : ab G [] := ad
 refine fn_x Tryz.func90 Tryz.call90 rfl rfl rfl rfl hGL ?_
 intro C hC
 refine xw1 ?_
 intros
 refine lp hC hGL (fun (i : Nat) => [(0, .str s), (5, .int .i64 s.length), (6, .int .i64 i)]) (fun _ => []) (fun i => i ≤ s.length ∧ ∀ j, j < i → aG (aa s j) = true) (fun i => s.length - i) 0 ?_ aj rfl ?_
 ·exact ⟨Nat.zero_le _, by intro j hj; omega⟩
 rintro i ⟨hi, hb0⟩
 repeat' (first | (conv => whnf); first | refine .w ?_ | refine .v ?_ | refine sc_c ?_ ?_ <;> (intro hb; try exact dd hb) | apply ah | apply aq | (apply sc_i <;> intro hb) | (apply bx_i; intro hbd) | (apply ak; first | exact iG _) | (apply ap (i := 0) rfl; first | exact iG _) | (apply ab_i; intro bl) | (apply as_i; intro va vk vc hva) | (apply av_i; intro v) | (apply ac_i; intro bl cap hcap) | apply bo_l | (apply nx_i <;> intro hnx) | exact rt_w | apply dw_q mixed hC hGL (by kernel_rfl) | (apply cq; assumption; (first | exact iG _); exact rfl))
 all_goals try conv => whnf
 ·refine nxt (i + 1) ?_ ?_ aj rfl
  ·exact ⟨by omega, bK hb0 hb⟩
  ·omega
 ·apply ar
  rw [isS, wI (by omega) hb]
  rfl
 all_goals (
  apply ar
  refine congrArg AVal.bool ?_
  have ha : allB aG s = true := lP.2 fun j hj => hb0 j (by omega)
  have e : isS s = true ↔ (s.length ≠ 0 ∧ s.length ≤ 40) := by simp only [isS, ha, Bool.true_and, Bool.and_eq_true, decide_eq_true_eq]
  rw [Bool.eq_iff_iff, e]
  try simp only [Bool.not_eq_true', kD, reduceCtorEq, false_iff]
  omega)
theorem cY {G : Glo} (m low high : Int) : FnIs Tryz.prog G 42 [.int .i64 m, .int .i64 low, .int .i64 high] (.bool (decide (low ≤ m) && decide (m ≤ high))) := by
 have hGL : ab G [] := ad
 refine fn_x Tryz.func42 Tryz.call42 rfl rfl rfl rfl hGL ?_
 intro C hC
 refine xw ?_
 repeat' (first | exact Le.n | refine Lc.mk ?_ ?_)
 all_goals intros
 all_goals (apply ar; refine congrArg AVal.bool ?_; rw [Bool.eq_iff_iff]; simp [kD, Bool.not_eq_true'] <;> omega)
end
section
open Go Go.RowKit
theorem ci {P : Program} {G : Glo} {f : FuncId} {avs : List AVal} {v : AVal} (hdet : v.det = true) (hc : ∀ args w, (callFunc f args).run P w = .ok (.enter f args) w)
  (h : ∀ R args, RelV R avs args.toList → ∀ w, G.p R → cO R w → Calls P f args w fun e w' => e = .returned v.conc ∧ Below w.heap.size w w') : FnIs P G f avs v := by
 intro R w args hG hm ha
 refine .inl ⟨hc args w, (h R args ha w hG hm.sealed).mono ?_⟩
 rintro e w' ⟨rfl, hb⟩
 refine ⟨.ret v, [], R, ⟨rfl, rfl⟩, ⟨_, rfl, mI hdet⟩, ?_⟩
 refine ⟨?_, Seal.le_refl R, fun _ hb => .inl hb, ⟨fun _ h => absurd h List.not_mem_nil, List.nodup_nil, fun _ h => absurd h List.not_mem_nil⟩, fun _ h => absurd h List.not_mem_nil,
  ⟨hb.os, hb.tape, hb.output, hb.size, fun b hlt _ => hb.block b hlt⟩⟩
 intro b o ho
 have h1 := hm.sealed b o ho
 have hlt : b < w.heap.size := by
  rcases Nat.lt_or_ge b w.heap.size with h | h
  ·exact h
  ·rw [Array.getElem?_eq_none h] at h1; cases h1
 rw [hb.block b hlt, h1]
theorem e8 {P : Program} {G : Glo} {f : FuncId} {avs : List AVal} {v : AVal} (u : Value) (hu : ∀ R, Rel R v u) (hc : ∀ args w, (callFunc f args).run P w = .ok (.enter f args) w)
  (h : ∀ R args, RelV R avs args.toList → ∀ w, G.p R → cO R w → Calls P f args w fun e w' => e = .returned u ∧ Below w.heap.size w w') : FnIs P G f avs v := by
 intro R w args hG hm ha
 refine .inl ⟨hc args w, (h R args ha w hG hm.sealed).mono ?_⟩
 rintro e w' ⟨rfl, hb⟩
 refine ⟨.ret v, [], R, ⟨rfl, rfl⟩, ⟨_, rfl, hu R⟩, ?_⟩
 refine ⟨?_, Seal.le_refl R, fun _ hb => .inl hb, ⟨fun _ h => absurd h List.not_mem_nil, List.nodup_nil, fun _ h => absurd h List.not_mem_nil⟩, fun _ h => absurd h List.not_mem_nil,
  ⟨hb.os, hb.tape, hb.output, hb.size, fun b hlt _ => hb.block b hlt⟩⟩
 intro b o ho
 have h1 := hm.sealed b o ho
 have hlt : b < w.heap.size := by
  rcases Nat.lt_or_ge b w.heap.size with h | h
  ·exact h
  ·rw [Array.getElem?_eq_none h] at h1; cases h1
 rw [hb.block b hlt, h1]
theorem fW {args : Array Value} {l : List Value} (h : args.toList = l) : args = l.toArray := by rw [← h]
theorem nk {R : Seal} {a b : AVal} {x y : Value} (h : Rel R a x) (k : Rel R b y) : Rel R (.tuple [a, b]) (.tuple #[x, y]) :=
 ⟨⟨_, rfl, _, _, rfl, ⟨h.1, h.2⟩, _, _, rfl, ⟨k.1, k.2⟩, rfl⟩, rfl⟩
theorem bQ {P : Program} {G : Glo} {f : FuncId} {fn : Func} {e : Array Value → Sem Value} {avs : List AVal} {v : AVal} (hf : P.funcs[f]? = some fn) (hname : (fn.name == "runtime.NumGoroutine") = false)
  (hb : fn.body.isNone = true) (hn : Extern.findNext fn = none) (he : Extern.find fn = some e)
  (h : ∀ R args, RelV R avs args.toList → ∀ w, ∃ x, (e args).run P w = .ok x w ∧ Rel R v x) : FnIs P G f avs v := by
 intro R w args hG hm ha
 obtain ⟨x, hx, hr⟩ := h R args ha w
 refine .inr ⟨x, w, ?_, .ret v, [], R, ⟨rfl, rfl⟩, ⟨x, rfl, hr⟩, hm⟩
 rw [run_callFunc_extern hf hname hb hn he]
 simp only [hx, Result.andThen_ok]
theorem eN {P : Program} {G : Glo} {f : FuncId} {fn : Func} {e : Array Value → Sem Value} {avs : List AVal} {H : Heap} {v : AVal} {H' : Heap} (hf : P.funcs[f]? = some fn) (hname : (fn.name == "runtime.NumGoroutine") = false)
  (hb : fn.body.isNone = true) (hn : Extern.findNext fn = none) (he : Extern.find fn = some e)
  (h : ∀ C R args w, MS C R H w → RelV R avs args.toList → ∃ x w' R', (e args).run P w = .ok x w' ∧ R.le R' ∧ Rel R' v x ∧ MS C R' H' w') : ae P G f avs H (fun r h => r = .ret v ∧ h = H') := by
 intro R w args hG hm ha
 obtain ⟨x, w', R', hx, hle, hr, hm'⟩ := h _ R args w hm ha
 refine .inr ⟨x, w', ?_, .ret v, H', R', ⟨rfl, rfl⟩, ⟨x, rfl, hr⟩, hm'⟩
 rw [run_callFunc_extern hf hname hb hn he]
 simp only [hx, Result.andThen_ok]
theorem ik {P : Program} {G : Glo} {f : FuncId} {fn : Func} {e : Array Value → Sem Value} {avs : List AVal} {v : AVal} (hf : P.funcs[f]? = some fn) (hname : (fn.name == "runtime.NumGoroutine") = false)
  (hb : fn.body.isNone = true) (hn : Extern.findNext fn = none) (he : Extern.find fn = some e)
  (h : ∀ R args w, RelV R avs args.toList → ∃ x cs t, (e args).run P w = .ok x (w.alloc (.cells cs t)) ∧ ∀ R', R.le R' → R' w.heap.size = some (.cells cs t) → Rel R' v x) : FnIs P G f avs v := by
 refine eN hf hname hb hn he fun C R args w hm ha => ?_
 obtain ⟨x, cs, t, hx, hr⟩ := h R args w ha
 exact ⟨x, _, R.put w.heap.size (.cells cs t), hx, Seal.put_le hm.seal_free, hr _ (Seal.put_le hm.seal_free) (Seal.put_at _ _ _), hm.alloc_sealed _⟩
end
section
open Go
attribute [local irreducible] AWp AOps aa ax OrOk ab ae
def idxF (c : Int) : List UInt8 → Nat → Int
 | [], _ => -1
 | x :: t, k => if (x.toNat : Int) = c then k else idxF c t (k + 1)
def idxB (s : List UInt8) (c : Int) : Int := idxF c s 0
theorem pN {c : UInt8} (b : ByteArray) : ∀ (t : List UInt8) (k : Nat), (∀ j, j < t.length → b[k + j]! = t.getD j 0) →
  (match (List.range' k t.length).find? fun i => b[i]! == c with | some i => (i : Int) | none => -1) = idxF (c.toNat : Int) t k
 | [], _, _ => by simp [idxF]
 | x :: t, k, h => by
  have h0 := h 0 (by simp)
  simp only [Nat.add_zero, List.getD_cons_zero] at h0
  rw [List.length_cons, List.range'_succ, List.find?_cons, h0]
  by_cases e : x = c
  ·subst e; simp [idxF]
  ·have e1 : (x == c) = false := by simpa using e
   rw [e1]
   have e2 : ¬ ((x.toNat : Int) = (c.toNat : Int)) := by
    intro h; exact e (UInt8.toNat_inj.1 (by omega))
   simp only [idxF, if_neg e2]
   exact pN b t (k + 1) (fun j hj => by
    have := h (j + 1) (by simpa using hj)
    rw [show k + 1 + j = k + (j + 1) by omega, this]; simp)
theorem gG {G : Glo} (s : List UInt8) (c : Int) (h0 : 0 ≤ c) (h1 : c ≤ 255) : FnIs Tryz.prog G 117 [.str s, .int .u8 c] (.int .i64 (idxB s c)) := by
 refine bQ Tryz.func117 (by kernel_rfl) (by kernel_rfl) (by kernel_rfl) (e := Go.Extern.BytealgIndexByte.indexByte) (by kernel_rfl) ?_
 intro R args ha w
 obtain ⟨x, t, e, hx, y, t', e', hy, rfl⟩ := ha
 have hx := az.1 hx
 have hy := ao.1 hy
 subst hx hy
 obtain rfl : args = #[.string ⟨s.toArray⟩, .int .u8 c] := by cases args; simp_all
 refine ⟨.int .i64 (idxB s c), ?_, ao.2 rfl⟩
 have hc : (c.toNat.toUInt8).toNat = c.toNat := by
  show (UInt8.ofNat c.toNat).toNat = _
  rw [UInt8.toNat_ofNat']; omega
 have key := pN (c := c.toNat.toUInt8) ⟨s.toArray⟩ s 0 (fun j hj => by
  rw [Nat.zero_add]
  rw [getElem!_pos (⟨s.toArray⟩ : ByteArray) j (by rw [aY]; exact hj)]
  show s.toArray[j] = _
  simp [List.getD, hj])
 rw [hc, Int.toNat_of_nonneg h0] at key
 have e : Go.Extern.BytealgIndexByte.indexByte #[.string ⟨s.toArray⟩, .int .u8 c] = (match (List.range (⟨s.toArray⟩ : ByteArray).size).find? fun i => (⟨s.toArray⟩ : ByteArray)[i]! == c.toNat.toUInt8 with | some i => pure (goInt i) | none => pure (goInt (-1))) := rfl
 rw [e, aY, List.range_eq_range']
 unfold idxB
 rw [← key]
 generalize List.find? _ _ = o
 cases o <;> rfl
theorem ep {G : Glo} (s : List UInt8) (c : Int) (h0 : 0 ≤ c) (h1 : c ≤ 255) : FnIs Tryz.prog G 73 [.str s, .int .u8 c] (.int .i64 (idxB s c)) := by
 have hb := gG (G := G) s c h0 h1
 have hGL : ab G [] := ad
 refine fn_x Tryz.func73 Tryz.call73 rfl rfl rfl rfl hGL ?_
 intro C hC
 repeat' (first | (conv => whnf); first | refine .w ?_ | refine .v ?_ | refine sc_c ?_ ?_ <;> (intro hb; try exact dd hb) | apply ah | apply aq | (apply sc_i <;> intro hb) | (apply bx_i; intro hbd) | (apply ak; first | exact hb) | (apply ap (i := 0) rfl; first | exact hb) | (apply ab_i; intro bl) | (apply as_i; intro va vk vc hva) | (apply av_i; intro v) | (apply ac_i; intro bl cap hcap) | apply bo_l | (apply nx_i <;> intro hnx) | exact rt_w | apply dw_q mixed hC hGL (by kernel_rfl) | (apply cq; assumption; (first | exact hb); exact rfl))
 all_goals try conv => whnf
theorem aL {G : Glo} (s : List UInt8) (c : Int) (h0 : 0 ≤ c) (h1 : c ≤ 255) : FnIs Tryz.prog G 35 [.str s, .int .u8 c] (.int .i64 (idxB s c)) := by
 have hb := ep (G := G) s c h0 h1
 have hGL : ab G [] := ad
 refine fn_x Tryz.func35 Tryz.call35 rfl rfl rfl rfl hGL ?_
 intro C hC
 repeat' (first | (conv => whnf); first | refine .w ?_ | refine .v ?_ | refine sc_c ?_ ?_ <;> (intro hb; try exact dd hb) | apply ah | apply aq | (apply sc_i <;> intro hb) | (apply bx_i; intro hbd) | (apply ak; first | exact hb) | (apply ap (i := 0) rfl; first | exact hb) | (apply ab_i; intro bl) | (apply as_i; intro va vk vc hva) | (apply av_i; intro v) | (apply ac_i; intro bl cap hcap) | apply bo_l | (apply nx_i <;> intro hnx) | exact rt_w | apply dw_q mixed hC hGL (by kernel_rfl) | (apply cq; assumption; (first | exact hb); exact rfl))
 all_goals try conv => whnf
end
end Go.Proofs.YtkelbglfhigmiaaGreatDoor
namespace Go.Proofs
open Go.Shelf
def Tryz.lays159_ren : Go.Shelf.Ren := ⟨fun | 159 => 72 | 165 => 111 | 166 => 112 | 167 => 113 | 169 => 114 | 230 => 115 | 204 => 116 | 240 => 150 | 241 => 151 | 197 => 110 | 118 => 152 | 168 => 153 | 270 => 154 | 262 => 155 | 276 => 174 | 277 => 175 | 260 => 149 | 242 => 176 | 313 => 177 | 278 => 189 | 274 => 190 | 275 => 191 | n => n, fun | 9 => 9 | 4 => 4 | 3 => 3 | 5 => 5 | 72 => 184 | 0 => 0 | 76 => 64 | 75 => 39 | 107 => 188 | 70 => 182 | 20 => 20 | 37 => 139 | 127 => 226 | 21 => 21 | 105 => 180 | 164 => 168 | 162 => 258 | 203 => 256 | 119 => 199 | 46 => 197 | 139 => 252 | 138 => 251 | 51 => 246 | 160 => 293 | 208 => 307 | 206 => 305 | 80 => 85 | n => n, fun | 13 => 7 | 3 => 5 | 4 => 6 | n => n⟩
theorem Tryz.lays159 : Go.Proofs.Lays.n159 Tryz.prog Tryz.lays159_ren := {
 mixed := by kernel_rfl
 f118 := Tryz.func152.trans (congrArg some (by kernel_rfl))
 f159 := Tryz.func72.trans (congrArg some (by kernel_rfl))
 f165 := Tryz.func111.trans (congrArg some (by kernel_rfl))
 f166 := Tryz.func112.trans (congrArg some (by kernel_rfl))
 f167 := Tryz.func113.trans (congrArg some (by kernel_rfl))
 f168 := Tryz.func153.trans (congrArg some (by kernel_rfl))
 f169 := Tryz.func114.trans (congrArg some (by kernel_rfl))
 f197 := Tryz.func110.trans (congrArg some (by kernel_rfl))
 f204 := Tryz.func116.trans (congrArg some (by kernel_rfl))
 f230 := Tryz.func115.trans (congrArg some (by kernel_rfl))
 f240 := Tryz.func150.trans (congrArg some (by kernel_rfl))
 f241 := Tryz.func151.trans (congrArg some (by kernel_rfl))
 f242 := Tryz.func176.trans (congrArg some (by kernel_rfl))
 f260 := Tryz.func149.trans (congrArg some (by kernel_rfl))
 f262 := Tryz.func155.trans (congrArg some (by kernel_rfl))
 f270 := Tryz.func154.trans (congrArg some (by kernel_rfl))
 f274 := Tryz.func190.trans (congrArg some (by kernel_rfl))
 f275 := Tryz.func191.trans (congrArg some (by kernel_rfl))
 f276 := Tryz.func174.trans (congrArg some (by kernel_rfl))
 f277 := Tryz.func175.trans (congrArg some (by kernel_rfl))
 f278 := Tryz.func189.trans (congrArg some (by kernel_rfl))
 f313 := Tryz.func177.trans (congrArg some (by kernel_rfl))
 t0 := Tryz.underlying0
 a0 := Tryz.isAgg0
 z0 := Tryz.sizeOf0
 v0 := Tryz.zeroValue0
 t3 := Tryz.underlying3
 a3 := Tryz.isAgg3
 z3 := Tryz.sizeOf3
 v3 := Tryz.zeroValue3
 t4 := Tryz.underlying4
 a4 := Tryz.isAgg4
 z4 := Tryz.sizeOf4
 v4 := Tryz.zeroValue4
 t5 := Tryz.underlying5
 a5 := Tryz.isAgg5
 z5 := Tryz.sizeOf5
 v5 := Tryz.zeroValue5
 t9 := Tryz.underlying9
 a9 := Tryz.isAgg9
 z9 := Tryz.sizeOf9
 v9 := Tryz.zeroValue9
 t20 := Tryz.underlying20
 a20 := Tryz.isAgg20
 z20 := Tryz.sizeOf20
 v20 := Tryz.zeroValue20
 t21 := Tryz.underlying21
 a21 := Tryz.isAgg21
 z21 := Tryz.sizeOf21
 v21 := Tryz.zeroValue21
 t37 := Tryz.underlying139
 a37 := Tryz.isAgg139
 z37 := Tryz.sizeOf139
 v37 := Tryz.zeroValue139
 t46 := Tryz.underlying197
 a46 := Tryz.isAgg197
 z46 := Tryz.sizeOf197
 v46 := Tryz.zeroValue197
 t51 := Tryz.underlying246
 a51 := Tryz.isAgg246
 z51 := Tryz.sizeOf246
 v51 := Tryz.zeroValue246
 t70 := Tryz.underlying182
 a70 := Tryz.isAgg182
 z70 := Tryz.sizeOf182
 v70 := Tryz.zeroValue182
 t72 := Tryz.underlying184
 a72 := Tryz.isAgg184
 z72 := Tryz.sizeOf184
 v72 := Tryz.zeroValue184
 t75 := Tryz.underlying39
 a75 := Tryz.isAgg39
 z75 := Tryz.sizeOf39
 v75 := Tryz.zeroValue39
 t76 := Tryz.underlying64
 a76 := Tryz.isAgg64
 z76 := Tryz.sizeOf64
 v76 := Tryz.zeroValue64
 t105 := Tryz.underlying180
 a105 := Tryz.isAgg180
 z105 := Tryz.sizeOf180
 v105 := Tryz.zeroValue180
 t107 := Tryz.underlying188
 a107 := Tryz.isAgg188
 z107 := Tryz.sizeOf188
 v107 := Tryz.zeroValue188
 t119 := Tryz.underlying199
 a119 := Tryz.isAgg199
 z119 := Tryz.sizeOf199
 t127 := Tryz.underlying226
 a127 := Tryz.isAgg226
 z127 := Tryz.sizeOf226
 v127 := Tryz.zeroValue226
 t138 := Tryz.underlying251
 a138 := Tryz.isAgg251
 z138 := Tryz.sizeOf251
 v138 := Tryz.zeroValue251
 t139 := Tryz.underlying252
 a139 := Tryz.isAgg252
 z139 := Tryz.sizeOf252
 v139 := Tryz.zeroValue252
 t160 := Tryz.underlying293
 a160 := Tryz.isAgg293
 z160 := Tryz.sizeOf293
 v160 := Tryz.zeroValue293
 t162 := Tryz.underlying258
 a162 := Tryz.isAgg258
 z162 := Tryz.sizeOf258
 v162 := Tryz.zeroValue258
 t164 := Tryz.underlying168
 a164 := Tryz.isAgg168
 z164 := Tryz.sizeOf168
 v164 := Tryz.zeroValue168
 t203 := Tryz.underlying256
 a203 := Tryz.isAgg256
 z203 := Tryz.sizeOf256
 v203 := Tryz.zeroValue256
 t206 := Tryz.underlying305
 a206 := Tryz.isAgg305
 z206 := Tryz.sizeOf305
 v206 := Tryz.zeroValue305
 t208 := Tryz.underlying307
 a208 := Tryz.isAgg307
 z208 := Tryz.sizeOf307
 v208 := Tryz.zeroValue307
 g3 := by kernel_rfl
 g4 := by kernel_rfl
 g13 := by kernel_rfl }
theorem Tryz.Builder_Extra_159 : Builder.Extra Tryz.prog Tryz.lays159_ren := {
 sizeBuilder := by kernel_rfl
 liesBuilder := by kernel_rfl
 t5 := Tryz.underlying5
 a5 := Tryz.isAgg5
 z5 := Tryz.sizeOf5
 v5 := Tryz.zeroValue5
 infoByte := by kernel_rfl
 cellsByte := by kernel_rfl
 sizeByte := by kernel_rfl
 neB5 := by decide }
open Go.RowKit in
theorem Tryz.strings_ToLower_ascii (s : ByteArray) (w : World) (hs : s.size ≤ 140737488355328) (hascii : ∀ (j : Nat) (b : UInt8), s.data.toList[j]? = some b → b.toNat < 128) :
  Calls Tryz.prog 72 #[.string s] w fun e w' => e = .returned (.string ⟨(Lib.toLowerA s.data.toList).toArray⟩) ∧ Below w.heap.size w w' := Any.strings_ToLower_ascii Tryz.lays159 Tryz.Builder_Extra_159 s w hs hascii
def Tryz.laysC172_ren : Go.Shelf.Ren := ⟨fun | 172 => 83 | 244 => 124 | 245 => 125 | 247 => 162 | 279 => 163 | 280 => 164 | 281 => 165 | 282 => 166 | 287 => 181 | 316 => 182 | 171 => 184 | 205 => 183 | 321 => 192 | 322 => 193 | 243 => 194 | 246 => 198 | 283 => 205 | 284 => 206 | 285 => 207 | 286 => 208 | 129 => 216 | 317 => 215 | 318 => 217 | 319 => 218 | 320 => 219 | 337 => 229 | 338 => 230 | n => n, fun | 9 => 9 | 3 => 3 | 75 => 39 | 76 => 64 | 4 => 4 | 5 => 5 | 167 => 234 | 37 => 139 | 0 => 0 | 85 => 235 | 2 => 2 | 168 => 237 | 53 => 261 | 175 => 262 | 46 => 197 | 210 => 265 | 127 => 226 | 145 => 299 | 143 => 297 | 21 => 21 | 171 => 323 | 173 => 326 | 212 => 343 | 51 => 246 | 20 => 20 | 213 => 344 | 232 => 359 | 233 => 360 | 80 => 85 | n => n, fun | 15 => 8 | 16 => 9 | 17 => 10 | 18 => 11 | 19 => 12 | n => n⟩
theorem Tryz.laysC172 : Go.Proofs.LaysC.n172 Tryz.prog Tryz.laysC172_ren := {
 mixed := by kernel_rfl
 f129 := Tryz.func216.trans (congrArg some (by kernel_rfl))
 f171 := Tryz.func184.trans (congrArg some (by kernel_rfl))
 f172 := Tryz.func83.trans (congrArg some (by kernel_rfl))
 f205 := Tryz.func183.trans (congrArg some (by kernel_rfl))
 f243 := Tryz.func194.trans (congrArg some (by kernel_rfl))
 f244 := Tryz.func124.trans (congrArg some (by kernel_rfl))
 f245 := Tryz.func125.trans (congrArg some (by kernel_rfl))
 f246 := Tryz.func198.trans (congrArg some (by kernel_rfl))
 f247 := Tryz.func162.trans (congrArg some (by kernel_rfl))
 f279 := Tryz.func163.trans (congrArg some (by kernel_rfl))
 f280 := Tryz.func164.trans (congrArg some (by kernel_rfl))
 f281 := Tryz.func165.trans (congrArg some (by kernel_rfl))
 f282 := Tryz.func166.trans (congrArg some (by kernel_rfl))
 f283 := Tryz.func205.trans (congrArg some (by kernel_rfl))
 f284 := Tryz.func206.trans (congrArg some (by kernel_rfl))
 f285 := Tryz.func207.trans (congrArg some (by kernel_rfl))
 f286 := Tryz.func208.trans (congrArg some (by kernel_rfl))
 f287 := Tryz.func181.trans (congrArg some (by kernel_rfl))
 f316 := Tryz.func182.trans (congrArg some (by kernel_rfl))
 f317 := Tryz.func215.trans (congrArg some (by kernel_rfl))
 f318 := Tryz.func217.trans (congrArg some (by kernel_rfl))
 f319 := Tryz.func218.trans (congrArg some (by kernel_rfl))
 f320 := Tryz.func219.trans (congrArg some (by kernel_rfl))
 f321 := Tryz.func192.trans (congrArg some (by kernel_rfl))
 f322 := Tryz.func193.trans (congrArg some (by kernel_rfl))
 f337 := Tryz.func229.trans (congrArg some (by kernel_rfl))
 f338 := Tryz.func230.trans (congrArg some (by kernel_rfl))
 t0 := Tryz.underlying0
 a0 := Tryz.isAgg0
 z0 := Tryz.sizeOf0
 v0 := Tryz.zeroValue0
 t2 := Tryz.underlying2
 a2 := Tryz.isAgg2
 z2 := Tryz.sizeOf2
 v2 := Tryz.zeroValue2
 t3 := Tryz.underlying3
 a3 := Tryz.isAgg3
 z3 := Tryz.sizeOf3
 v3 := Tryz.zeroValue3
 t4 := Tryz.underlying4
 a4 := Tryz.isAgg4
 z4 := Tryz.sizeOf4
 v4 := Tryz.zeroValue4
 t5 := Tryz.underlying5
 a5 := Tryz.isAgg5
 z5 := Tryz.sizeOf5
 v5 := Tryz.zeroValue5
 t9 := Tryz.underlying9
 a9 := Tryz.isAgg9
 z9 := Tryz.sizeOf9
 v9 := Tryz.zeroValue9
 t20 := Tryz.underlying20
 a20 := Tryz.isAgg20
 z20 := Tryz.sizeOf20
 v20 := Tryz.zeroValue20
 t21 := Tryz.underlying21
 a21 := Tryz.isAgg21
 z21 := Tryz.sizeOf21
 v21 := Tryz.zeroValue21
 t37 := Tryz.underlying139
 a37 := Tryz.isAgg139
 z37 := Tryz.sizeOf139
 v37 := Tryz.zeroValue139
 t46 := Tryz.underlying197
 a46 := Tryz.isAgg197
 z46 := Tryz.sizeOf197
 v46 := Tryz.zeroValue197
 t51 := Tryz.underlying246
 a51 := Tryz.isAgg246
 z51 := Tryz.sizeOf246
 v51 := Tryz.zeroValue246
 t53 := Tryz.underlying261
 a53 := Tryz.isAgg261
 z53 := Tryz.sizeOf261
 v53 := Tryz.zeroValue261
 t75 := Tryz.underlying39
 a75 := Tryz.isAgg39
 z75 := Tryz.sizeOf39
 v75 := Tryz.zeroValue39
 t76 := Tryz.underlying64
 a76 := Tryz.isAgg64
 z76 := Tryz.sizeOf64
 v76 := Tryz.zeroValue64
 t85 := Tryz.underlying235
 a85 := Tryz.isAgg235
 z85 := Tryz.sizeOf235
 v85 := Tryz.zeroValue235
 t127 := Tryz.underlying226
 a127 := Tryz.isAgg226
 z127 := Tryz.sizeOf226
 v127 := Tryz.zeroValue226
 t143 := Tryz.underlying297
 a143 := Tryz.isAgg297
 z143 := Tryz.sizeOf297
 v143 := Tryz.zeroValue297
 t145 := Tryz.underlying299
 a145 := Tryz.isAgg299
 z145 := Tryz.sizeOf299
 v145 := Tryz.zeroValue299
 t167 := Tryz.underlying234
 a167 := Tryz.isAgg234
 z167 := Tryz.sizeOf234
 v167 := Tryz.zeroValue234
 t168 := Tryz.underlying237
 a168 := Tryz.isAgg237
 z168 := Tryz.sizeOf237
 v168 := Tryz.zeroValue237
 t171 := Tryz.underlying323
 a171 := Tryz.isAgg323
 z171 := Tryz.sizeOf323
 v171 := Tryz.zeroValue323
 t173 := Tryz.underlying326
 a173 := Tryz.isAgg326
 z173 := Tryz.sizeOf326
 v173 := Tryz.zeroValue326
 t175 := Tryz.underlying262
 a175 := Tryz.isAgg262
 z175 := Tryz.sizeOf262
 v175 := Tryz.zeroValue262
 t210 := Tryz.underlying265
 a210 := Tryz.isAgg265
 z210 := Tryz.sizeOf265
 v210 := Tryz.zeroValue265
 t212 := Tryz.underlying343
 a212 := Tryz.isAgg343
 z212 := Tryz.sizeOf343
 v212 := Tryz.zeroValue343
 t213 := Tryz.underlying344
 a213 := Tryz.isAgg344
 z213 := Tryz.sizeOf344
 t232 := Tryz.underlying359
 a232 := Tryz.isAgg359
 z232 := Tryz.sizeOf359
 v232 := Tryz.zeroValue359
 t233 := Tryz.underlying360
 a233 := Tryz.isAgg360
 z233 := Tryz.sizeOf360
 v233 := Tryz.zeroValue360
 g15 := by kernel_rfl
 g16 := by kernel_rfl
 g17 := by kernel_rfl
 g18 := by kernel_rfl
 g19 := by kernel_rfl
 t80 := Tryz.underlying85
 a80 := Tryz.isAgg85
 z80 := Tryz.sizeOf85
 v80 := Tryz.zeroValue85
 i0 := by kernel_rfl
 i2 := by kernel_rfl
 i3 := by kernel_rfl
 i4 := by kernel_rfl
 i5 := by kernel_rfl
 i9 := by kernel_rfl
 i20 := by kernel_rfl
 i21 := by kernel_rfl
 i37 := by kernel_rfl
 i46 := by kernel_rfl
 i51 := by kernel_rfl
 i53 := by kernel_rfl
 i75 := by kernel_rfl
 i76 := by kernel_rfl
 i80 := by kernel_rfl
 i85 := by kernel_rfl
 i127 := by kernel_rfl
 i143 := by kernel_rfl
 i145 := by kernel_rfl
 i167 := by kernel_rfl
 i168 := by kernel_rfl
 i171 := by kernel_rfl
 i173 := by kernel_rfl
 i175 := by kernel_rfl
 i210 := by kernel_rfl
 i212 := by kernel_rfl
 i232 := by kernel_rfl
 i233 := by kernel_rfl
 m15 := by kernel_rfl
 m16 := by kernel_rfl
 m17 := by kernel_rfl
 m18 := by kernel_rfl
 m19 := by kernel_rfl
 c0 := by kernel_rfl
 c2 := by kernel_rfl
 c3 := by kernel_rfl
 c4 := by kernel_rfl
 c5 := by kernel_rfl
 c9 := by kernel_rfl
 c20 := by kernel_rfl
 c21 := by kernel_rfl
 c37 := by kernel_rfl
 c46 := by kernel_rfl
 c51 := by kernel_rfl
 c53 := by kernel_rfl
 c75 := by kernel_rfl
 c76 := by kernel_rfl
 c80 := by kernel_rfl
 c85 := by kernel_rfl
 c127 := by kernel_rfl
 c143 := by kernel_rfl
 c145 := by kernel_rfl
 c167 := by kernel_rfl
 c168 := by kernel_rfl
 c171 := by kernel_rfl
 c173 := by kernel_rfl
 c175 := by kernel_rfl
 c210 := by kernel_rfl
 c212 := by kernel_rfl
 c213 := by kernel_rfl
 c232 := by kernel_rfl
 c233 := by kernel_rfl }
open Go.RowKit in
theorem Tryz.strconv_Atoi_ok (s : ByteArray) (hmax : s.size ≤ 9223372036854775806) (v : Int) (h : Lib.atoiAll s.data.toList = .ok v) (w : World) :
  Calls Tryz.prog 83 #[.string s] w fun e w' => e = .returned (.tuple #[.int .i64 v, .nilIface]) ∧ (w' = w ∨ ∃ t, w' = Lib.bytesWorld w 5 t) := Any.strconv_Atoi_ok Tryz.laysC172 s hmax v h w
def Tryz.lays143_ren : Go.Shelf.Ren := ⟨fun | 143 => 74 | 219 => 118 | 217 => 73 | 225 => 156 | 224 => 157 | 267 => 158 | 266 => 117 | 314 => 178 | n => n, fun | 9 => 9 | 3 => 3 | 4 => 4 | 5 => 5 | 46 => 197 | 146 => 259 | 51 => 246 | n => n, fun | 1 => 3 | n => n⟩
theorem Tryz.lays143 : Go.Proofs.Lays.n143 Tryz.prog Tryz.lays143_ren := {
 mixed := by kernel_rfl
 f143 := Tryz.func74.trans (congrArg some (by kernel_rfl))
 f217 := Tryz.func73.trans (congrArg some (by kernel_rfl))
 f219 := Tryz.func118.trans (congrArg some (by kernel_rfl))
 f224 := Tryz.func157.trans (congrArg some (by kernel_rfl))
 f225 := Tryz.func156.trans (congrArg some (by kernel_rfl))
 f266 := Tryz.func117.trans (congrArg some (by kernel_rfl))
 f267 := Tryz.func158.trans (congrArg some (by kernel_rfl))
 f314 := Tryz.func178.trans (congrArg some (by kernel_rfl))
 t3 := Tryz.underlying3
 a3 := Tryz.isAgg3
 z3 := Tryz.sizeOf3
 v3 := Tryz.zeroValue3
 t4 := Tryz.underlying4
 a4 := Tryz.isAgg4
 z4 := Tryz.sizeOf4
 v4 := Tryz.zeroValue4
 t5 := Tryz.underlying5
 a5 := Tryz.isAgg5
 z5 := Tryz.sizeOf5
 v5 := Tryz.zeroValue5
 t9 := Tryz.underlying9
 a9 := Tryz.isAgg9
 z9 := Tryz.sizeOf9
 v9 := Tryz.zeroValue9
 t46 := Tryz.underlying197
 a46 := Tryz.isAgg197
 z46 := Tryz.sizeOf197
 v46 := Tryz.zeroValue197
 t51 := Tryz.underlying246
 a51 := Tryz.isAgg246
 z51 := Tryz.sizeOf246
 v51 := Tryz.zeroValue246
 t146 := Tryz.underlying259
 a146 := Tryz.isAgg259
 z146 := Tryz.sizeOf259
 v146 := Tryz.zeroValue259
 g1 := by kernel_rfl }
open Go.RowKit Go.Lib in
theorem Tryz.strings_Index (s sub : ByteArray) (m : Int) (w : World) (hs : s.size < 4294967281) (hm : w.cell? ⟨3, 0, none⟩ = some (.int .i64 m)) :
  Calls Tryz.prog 74 #[.string s, .string sub] w fun e w' => e = .returned (.int .i64 (Lib.index s.data.toList sub.data.toList)) ∧ w' = w := Any.strings_Index Tryz.lays143 s sub m w hs hm
def Tryz.lays144_ren : Go.Shelf.Ren := ⟨fun | 144 => 120 | 143 => 74 | 219 => 118 | 217 => 73 | 225 => 156 | 224 => 157 | 267 => 158 | 266 => 117 | 314 => 178 | n => n, fun | 9 => 9 | 4 => 4 | 3 => 3 | 5 => 5 | 46 => 197 | 146 => 259 | 51 => 246 | n => n, fun | 1 => 3 | n => n⟩
theorem Tryz.lays144 : Go.Proofs.Lays.n144 Tryz.prog Tryz.lays144_ren := {
 mixed := by kernel_rfl
 f143 := Tryz.func74.trans (congrArg some (by kernel_rfl))
 f144 := Tryz.func120.trans (congrArg some (by kernel_rfl))
 f217 := Tryz.func73.trans (congrArg some (by kernel_rfl))
 f219 := Tryz.func118.trans (congrArg some (by kernel_rfl))
 f224 := Tryz.func157.trans (congrArg some (by kernel_rfl))
 f225 := Tryz.func156.trans (congrArg some (by kernel_rfl))
 f266 := Tryz.func117.trans (congrArg some (by kernel_rfl))
 f267 := Tryz.func158.trans (congrArg some (by kernel_rfl))
 f314 := Tryz.func178.trans (congrArg some (by kernel_rfl))
 t3 := Tryz.underlying3
 a3 := Tryz.isAgg3
 z3 := Tryz.sizeOf3
 v3 := Tryz.zeroValue3
 t4 := Tryz.underlying4
 a4 := Tryz.isAgg4
 z4 := Tryz.sizeOf4
 v4 := Tryz.zeroValue4
 t5 := Tryz.underlying5
 a5 := Tryz.isAgg5
 z5 := Tryz.sizeOf5
 v5 := Tryz.zeroValue5
 t9 := Tryz.underlying9
 a9 := Tryz.isAgg9
 z9 := Tryz.sizeOf9
 v9 := Tryz.zeroValue9
 t46 := Tryz.underlying197
 a46 := Tryz.isAgg197
 z46 := Tryz.sizeOf197
 v46 := Tryz.zeroValue197
 t51 := Tryz.underlying246
 a51 := Tryz.isAgg246
 z51 := Tryz.sizeOf246
 v51 := Tryz.zeroValue246
 t146 := Tryz.underlying259
 a146 := Tryz.isAgg259
 z146 := Tryz.sizeOf259
 v146 := Tryz.zeroValue259
 g1 := by kernel_rfl }
open Go.RowKit Go.Lib in
theorem Tryz.strings_Contains (s sub : ByteArray) (m : Int) (w : World) (hs : s.size < 4294967281) (hm : w.cell? ⟨3, 0, none⟩ = some (.int .i64 m)) :
  Calls Tryz.prog 120 #[.string s, .string sub] w fun e w' => e = .returned (.bool (Lib.contains s.data.toList sub.data.toList)) ∧ w' = w := Any.strings_Contains Tryz.lays144 s sub m w hs hm
def Tryz.lays99_ren : Go.Shelf.Ren := ⟨fun | 99 => 82 | 206 => 123 | n => n, fun | 9 => 9 | 4 => 4 | 3 => 3 | n => n, fun | n => n⟩
theorem Tryz.lays99 : Go.Proofs.Lays.n99 Tryz.prog Tryz.lays99_ren := {
 mixed := by kernel_rfl
 f99 := Tryz.func82.trans (congrArg some (by kernel_rfl))
 f206 := Tryz.func123.trans (congrArg some (by kernel_rfl))
 t3 := Tryz.underlying3
 a3 := Tryz.isAgg3
 z3 := Tryz.sizeOf3
 v3 := Tryz.zeroValue3
 t4 := Tryz.underlying4
 a4 := Tryz.isAgg4
 z4 := Tryz.sizeOf4
 v4 := Tryz.zeroValue4
 t9 := Tryz.underlying9
 a9 := Tryz.isAgg9
 z9 := Tryz.sizeOf9
 v9 := Tryz.zeroValue9 }
open Go.RowKit Go.Lib in
theorem Tryz.strings_HasPrefix (s p : ByteArray) (w : World) :
  Calls Tryz.prog 82 #[.string s, .string p] w fun e w' => e = .returned (.bool (Lib.hasPrefix s.data.toList p.data.toList)) ∧ w' = w := Any.strings_HasPrefix Tryz.lays99 s p w
def Tryz.lays146_ren : Go.Shelf.Ren := ⟨fun | 146 => 88 | 221 => 126 | 268 => 167 | 138 => 161 | 143 => 74 | 195 => 179 | 197 => 110 | 218 => 180 | 219 => 118 | 260 => 149 | 217 => 73 | 225 => 156 | 224 => 157 | 267 => 158 | 266 => 117 | 314 => 178 | n => n, fun | 9 => 9 | 31 => 72 | 3 => 3 | 4 => 4 | 0 => 0 | 105 => 180 | 21 => 21 | 5 => 5 | 46 => 197 | 119 => 199 | 139 => 252 | 138 => 251 | 146 => 259 | 51 => 246 | n => n, fun | 1 => 3 | 3 => 5 | 4 => 6 | n => n⟩
theorem Tryz.lays146 : Go.Proofs.Lays.n146 Tryz.prog Tryz.lays146_ren := {
 mixed := by kernel_rfl
 f138 := Tryz.func161.trans (congrArg some (by kernel_rfl))
 f143 := Tryz.func74.trans (congrArg some (by kernel_rfl))
 f146 := Tryz.func88.trans (congrArg some (by kernel_rfl))
 f195 := Tryz.func179.trans (congrArg some (by kernel_rfl))
 f197 := Tryz.func110.trans (congrArg some (by kernel_rfl))
 f217 := Tryz.func73.trans (congrArg some (by kernel_rfl))
 f218 := Tryz.func180.trans (congrArg some (by kernel_rfl))
 f219 := Tryz.func118.trans (congrArg some (by kernel_rfl))
 f221 := Tryz.func126.trans (congrArg some (by kernel_rfl))
 f224 := Tryz.func157.trans (congrArg some (by kernel_rfl))
 f225 := Tryz.func156.trans (congrArg some (by kernel_rfl))
 f260 := Tryz.func149.trans (congrArg some (by kernel_rfl))
 f266 := Tryz.func117.trans (congrArg some (by kernel_rfl))
 f267 := Tryz.func158.trans (congrArg some (by kernel_rfl))
 f268 := Tryz.func167.trans (congrArg some (by kernel_rfl))
 f314 := Tryz.func178.trans (congrArg some (by kernel_rfl))
 t0 := Tryz.underlying0
 a0 := Tryz.isAgg0
 z0 := Tryz.sizeOf0
 v0 := Tryz.zeroValue0
 t3 := Tryz.underlying3
 a3 := Tryz.isAgg3
 z3 := Tryz.sizeOf3
 v3 := Tryz.zeroValue3
 t4 := Tryz.underlying4
 a4 := Tryz.isAgg4
 z4 := Tryz.sizeOf4
 v4 := Tryz.zeroValue4
 t5 := Tryz.underlying5
 a5 := Tryz.isAgg5
 z5 := Tryz.sizeOf5
 v5 := Tryz.zeroValue5
 t9 := Tryz.underlying9
 a9 := Tryz.isAgg9
 z9 := Tryz.sizeOf9
 v9 := Tryz.zeroValue9
 t21 := Tryz.underlying21
 a21 := Tryz.isAgg21
 z21 := Tryz.sizeOf21
 v21 := Tryz.zeroValue21
 t31 := Tryz.underlying72
 a31 := Tryz.isAgg72
 z31 := Tryz.sizeOf72
 v31 := Tryz.zeroValue72
 t46 := Tryz.underlying197
 a46 := Tryz.isAgg197
 z46 := Tryz.sizeOf197
 v46 := Tryz.zeroValue197
 t51 := Tryz.underlying246
 a51 := Tryz.isAgg246
 z51 := Tryz.sizeOf246
 v51 := Tryz.zeroValue246
 t105 := Tryz.underlying180
 a105 := Tryz.isAgg180
 z105 := Tryz.sizeOf180
 v105 := Tryz.zeroValue180
 t119 := Tryz.underlying199
 a119 := Tryz.isAgg199
 z119 := Tryz.sizeOf199
 t138 := Tryz.underlying251
 a138 := Tryz.isAgg251
 z138 := Tryz.sizeOf251
 v138 := Tryz.zeroValue251
 t139 := Tryz.underlying252
 a139 := Tryz.isAgg252
 z139 := Tryz.sizeOf252
 v139 := Tryz.zeroValue252
 t146 := Tryz.underlying259
 a146 := Tryz.isAgg259
 z146 := Tryz.sizeOf259
 v146 := Tryz.zeroValue259
 g1 := by kernel_rfl
 g3 := by kernel_rfl
 g4 := by kernel_rfl }
open Go.RowKit Go.Lib in
theorem Tryz.strings_Split (s sep : ByteArray) (m : Int) (w : World) (hs : s.size < 4294967281) (hm : w.cell? ⟨3, 0, none⟩ = some (.int .i64 m)) (h1 : 1 ≤ sep.size) :
  Calls Tryz.prog 88 #[.string s, .string sep] w fun e w' =>
   e = .returned (.slice (some ⟨w.heap.size, 0, none⟩) (Lib.countB s sep + 1) (Lib.countB s sep + 1)) ∧ w' = w.alloc (.cells ((Lib.splitB sep 0 (Lib.countB s sep) s).map Value.string).toArray 9) := Any.strings_Split Tryz.lays146 (by kernel_rfl) s sep m w hs hm h1
def Tryz.lays157_ren : Go.Shelf.Ren := ⟨fun | 157 => 94 | 229 => 131 | 199 => 132 | 261 => 171 | 311 => 187 | 312 => 188 | n => n, fun | 9 => 9 | 31 => 72 | 3 => 3 | 5 => 5 | 4 => 4 | 119 => 199 | 0 => 0 | 40 => 201 | 152 => 243 | 21 => 21 | 154 => 245 | 51 => 246 | 141 => 248 | 196 => 285 | 193 => 282 | 198 => 288 | 49 => 286 | 194 => 283 | 201 => 291 | 226 => 302 | 46 => 197 | 227 => 303 | n => n, fun | 0 => 2 | 6 => 4 | n => n⟩
theorem Tryz.lays157 : Go.Proofs.Lays.n157 Tryz.prog Tryz.lays157_ren := {
 mixed := by kernel_rfl
 f157 := Tryz.func94.trans (congrArg some (by kernel_rfl))
 f199 := Tryz.func132.trans (congrArg some (by kernel_rfl))
 f229 := Tryz.func131.trans (congrArg some (by kernel_rfl))
 f261 := Tryz.func171.trans (congrArg some (by kernel_rfl))
 f311 := Tryz.func187.trans (congrArg some (by kernel_rfl))
 f312 := Tryz.func188.trans (congrArg some (by kernel_rfl))
 t0 := Tryz.underlying0
 a0 := Tryz.isAgg0
 z0 := Tryz.sizeOf0
 v0 := Tryz.zeroValue0
 t3 := Tryz.underlying3
 a3 := Tryz.isAgg3
 z3 := Tryz.sizeOf3
 v3 := Tryz.zeroValue3
 t4 := Tryz.underlying4
 a4 := Tryz.isAgg4
 z4 := Tryz.sizeOf4
 v4 := Tryz.zeroValue4
 t5 := Tryz.underlying5
 a5 := Tryz.isAgg5
 z5 := Tryz.sizeOf5
 v5 := Tryz.zeroValue5
 t9 := Tryz.underlying9
 a9 := Tryz.isAgg9
 z9 := Tryz.sizeOf9
 v9 := Tryz.zeroValue9
 t21 := Tryz.underlying21
 a21 := Tryz.isAgg21
 z21 := Tryz.sizeOf21
 v21 := Tryz.zeroValue21
 t31 := Tryz.underlying72
 a31 := Tryz.isAgg72
 z31 := Tryz.sizeOf72
 v31 := Tryz.zeroValue72
 t40 := Tryz.underlying201
 a40 := Tryz.isAgg201
 z40 := Tryz.sizeOf201
 v40 := Tryz.zeroValue201
 t46 := Tryz.underlying197
 a46 := Tryz.isAgg197
 z46 := Tryz.sizeOf197
 v46 := Tryz.zeroValue197
 t49 := Tryz.underlying286
 a49 := Tryz.isAgg286
 z49 := Tryz.sizeOf286
 v49 := Tryz.zeroValue286
 t51 := Tryz.underlying246
 a51 := Tryz.isAgg246
 z51 := Tryz.sizeOf246
 v51 := Tryz.zeroValue246
 t119 := Tryz.underlying199
 a119 := Tryz.isAgg199
 z119 := Tryz.sizeOf199
 t141 := Tryz.underlying248
 a141 := Tryz.isAgg248
 z141 := Tryz.sizeOf248
 v141 := Tryz.zeroValue248
 t152 := Tryz.underlying243
 a152 := Tryz.isAgg243
 z152 := Tryz.sizeOf243
 v152 := Tryz.zeroValue243
 t154 := Tryz.underlying245
 a154 := Tryz.isAgg245
 z154 := Tryz.sizeOf245
 v154 := Tryz.zeroValue245
 t193 := Tryz.underlying282
 a193 := Tryz.isAgg282
 z193 := Tryz.sizeOf282
 v193 := Tryz.zeroValue282
 t194 := Tryz.underlying283
 a194 := Tryz.isAgg283
 z194 := Tryz.sizeOf283
 v194 := Tryz.zeroValue283
 t196 := Tryz.underlying285
 a196 := Tryz.isAgg285
 z196 := Tryz.sizeOf285
 v196 := Tryz.zeroValue285
 t198 := Tryz.underlying288
 a198 := Tryz.isAgg288
 z198 := Tryz.sizeOf288
 v198 := Tryz.zeroValue288
 t201 := Tryz.underlying291
 a201 := Tryz.isAgg291
 z201 := Tryz.sizeOf291
 v201 := Tryz.zeroValue291
 t226 := Tryz.underlying302
 a226 := Tryz.isAgg302
 z226 := Tryz.sizeOf302
 v226 := Tryz.zeroValue302
 t227 := Tryz.underlying303
 a227 := Tryz.isAgg303
 z227 := Tryz.sizeOf303
 v227 := Tryz.zeroValue303
 g0 := by kernel_rfl
 g6 := by kernel_rfl }
open Go.RowKit Go.Lib in
theorem Tryz.strings_Fields (s : ByteArray) (w : World) (hs : s.size < 4294967281) (hascii : ∀ (j : Nat) b, s.data.toList[j]? = some b → b.toNat < 128) (htab : Lib.TabIs Tryz.prog w "strings.asciiSpace" .u8 Lib.asciiSpaceTab) :
  Calls Tryz.prog 94 #[.string s] w fun e w' =>
   e = .returned (.slice (some ⟨w.heap.size, 0, none⟩) (Lib.fields s.data.toList).length (Lib.fields s.data.toList).length) ∧ w' = w.alloc (.cells ((Lib.fields s.data.toList).map fun l => Value.string ⟨l.toArray⟩).toArray 9) := Any.strings_Fields Tryz.lays157 (by kernel_rfl) (by kernel_rfl) s w hs hascii htab
def Tryz.lays155_ren : Go.Shelf.Ren := ⟨fun | 155 => 81 | 154 => 122 | 138 => 161 | 165 => 111 | 143 => 74 | 166 => 112 | 197 => 110 | 169 => 114 | 195 => 179 | 218 => 180 | 240 => 150 | 241 => 151 | 219 => 118 | 260 => 149 | 276 => 174 | 277 => 175 | 217 => 73 | 225 => 156 | 224 => 157 | 267 => 158 | 266 => 117 | 314 => 178 | n => n, fun | 9 => 9 | 3 => 3 | 4 => 4 | 72 => 184 | 0 => 0 | 76 => 64 | 105 => 180 | 21 => 21 | 5 => 5 | 70 => 182 | 20 => 20 | 37 => 139 | 75 => 39 | 127 => 226 | 164 => 168 | 46 => 197 | 119 => 199 | 139 => 252 | 138 => 251 | 146 => 259 | 51 => 246 | 80 => 85 | n => n, fun | 1 => 3 | 3 => 5 | 4 => 6 | n => n⟩
theorem Tryz.lays155 : Go.Proofs.Lays.n155 Tryz.prog Tryz.lays155_ren := {
 mixed := by kernel_rfl
 f138 := Tryz.func161.trans (congrArg some (by kernel_rfl))
 f143 := Tryz.func74.trans (congrArg some (by kernel_rfl))
 f154 := Tryz.func122.trans (congrArg some (by kernel_rfl))
 f155 := Tryz.func81.trans (congrArg some (by kernel_rfl))
 f165 := Tryz.func111.trans (congrArg some (by kernel_rfl))
 f166 := Tryz.func112.trans (congrArg some (by kernel_rfl))
 f169 := Tryz.func114.trans (congrArg some (by kernel_rfl))
 f195 := Tryz.func179.trans (congrArg some (by kernel_rfl))
 f197 := Tryz.func110.trans (congrArg some (by kernel_rfl))
 f217 := Tryz.func73.trans (congrArg some (by kernel_rfl))
 f218 := Tryz.func180.trans (congrArg some (by kernel_rfl))
 f219 := Tryz.func118.trans (congrArg some (by kernel_rfl))
 f224 := Tryz.func157.trans (congrArg some (by kernel_rfl))
 f225 := Tryz.func156.trans (congrArg some (by kernel_rfl))
 f240 := Tryz.func150.trans (congrArg some (by kernel_rfl))
 f241 := Tryz.func151.trans (congrArg some (by kernel_rfl))
 f260 := Tryz.func149.trans (congrArg some (by kernel_rfl))
 f266 := Tryz.func117.trans (congrArg some (by kernel_rfl))
 f267 := Tryz.func158.trans (congrArg some (by kernel_rfl))
 f276 := Tryz.func174.trans (congrArg some (by kernel_rfl))
 f277 := Tryz.func175.trans (congrArg some (by kernel_rfl))
 f314 := Tryz.func178.trans (congrArg some (by kernel_rfl))
 t0 := Tryz.underlying0
 a0 := Tryz.isAgg0
 z0 := Tryz.sizeOf0
 v0 := Tryz.zeroValue0
 t3 := Tryz.underlying3
 a3 := Tryz.isAgg3
 z3 := Tryz.sizeOf3
 v3 := Tryz.zeroValue3
 t4 := Tryz.underlying4
 a4 := Tryz.isAgg4
 z4 := Tryz.sizeOf4
 v4 := Tryz.zeroValue4
 t5 := Tryz.underlying5
 a5 := Tryz.isAgg5
 z5 := Tryz.sizeOf5
 v5 := Tryz.zeroValue5
 t9 := Tryz.underlying9
 a9 := Tryz.isAgg9
 z9 := Tryz.sizeOf9
 v9 := Tryz.zeroValue9
 t20 := Tryz.underlying20
 a20 := Tryz.isAgg20
 z20 := Tryz.sizeOf20
 v20 := Tryz.zeroValue20
 t21 := Tryz.underlying21
 a21 := Tryz.isAgg21
 z21 := Tryz.sizeOf21
 v21 := Tryz.zeroValue21
 t37 := Tryz.underlying139
 a37 := Tryz.isAgg139
 z37 := Tryz.sizeOf139
 v37 := Tryz.zeroValue139
 t46 := Tryz.underlying197
 a46 := Tryz.isAgg197
 z46 := Tryz.sizeOf197
 v46 := Tryz.zeroValue197
 t51 := Tryz.underlying246
 a51 := Tryz.isAgg246
 z51 := Tryz.sizeOf246
 v51 := Tryz.zeroValue246
 t70 := Tryz.underlying182
 a70 := Tryz.isAgg182
 z70 := Tryz.sizeOf182
 v70 := Tryz.zeroValue182
 t72 := Tryz.underlying184
 a72 := Tryz.isAgg184
 z72 := Tryz.sizeOf184
 v72 := Tryz.zeroValue184
 t75 := Tryz.underlying39
 a75 := Tryz.isAgg39
 z75 := Tryz.sizeOf39
 v75 := Tryz.zeroValue39
 t76 := Tryz.underlying64
 a76 := Tryz.isAgg64
 z76 := Tryz.sizeOf64
 v76 := Tryz.zeroValue64
 t105 := Tryz.underlying180
 a105 := Tryz.isAgg180
 z105 := Tryz.sizeOf180
 v105 := Tryz.zeroValue180
 t119 := Tryz.underlying199
 a119 := Tryz.isAgg199
 z119 := Tryz.sizeOf199
 t127 := Tryz.underlying226
 a127 := Tryz.isAgg226
 z127 := Tryz.sizeOf226
 v127 := Tryz.zeroValue226
 t138 := Tryz.underlying251
 a138 := Tryz.isAgg251
 z138 := Tryz.sizeOf251
 v138 := Tryz.zeroValue251
 t139 := Tryz.underlying252
 a139 := Tryz.isAgg252
 z139 := Tryz.sizeOf252
 v139 := Tryz.zeroValue252
 t146 := Tryz.underlying259
 a146 := Tryz.isAgg259
 z146 := Tryz.sizeOf259
 v146 := Tryz.zeroValue259
 t164 := Tryz.underlying168
 a164 := Tryz.isAgg168
 z164 := Tryz.sizeOf168
 v164 := Tryz.zeroValue168
 g1 := by kernel_rfl
 g3 := by kernel_rfl
 g4 := by kernel_rfl }
theorem Tryz.Builder_Extra_155 : Builder.Extra Tryz.prog Tryz.lays155_ren := {
 sizeBuilder := by kernel_rfl
 liesBuilder := by kernel_rfl
 t5 := Tryz.underlying5
 a5 := Tryz.isAgg5
 z5 := Tryz.sizeOf5
 v5 := Tryz.zeroValue5
 infoByte := by kernel_rfl
 cellsByte := by kernel_rfl
 sizeByte := by kernel_rfl
 neB5 := by decide }
open Go.RowKit Go.Lib in
theorem Tryz.strings_ReplaceAll (s old new : ByteArray) (m : Int) (w : World) (hs : s.size < 4294967281) (hm : w.cell? ⟨3, 0, none⟩ = some (.int .i64 m)) (h1 : 1 ≤ old.size) (hlen : s.size + Lib.countB s old * new.size ≤ 140737488355328) :
  Calls Tryz.prog 81 #[.string s, .string old, .string new] w fun e w' =>
   e = .returned (.string ⟨(Lib.replaceAll s.data.toList old.data.toList new.data.toList).toArray⟩) ∧ Below w.heap.size w w' := Any.strings_ReplaceAll Tryz.lays155 Tryz.Builder_Extra_155 s old new m w hs hm h1 hlen
def Tryz.lays153_ren : Go.Shelf.Ren := ⟨fun | 153 => 101 | 152 => 137 | 226 => 138 | 227 => 139 | 228 => 140 | 137 => 35 | 119 => 173 | 224 => 157 | 225 => 156 | 217 => 73 | 266 => 117 | n => n, fun | 9 => 9 | 3 => 3 | 4 => 4 | 5 => 5 | 21 => 21 | 117 => 210 | 116 => 209 | 0 => 0 | 46 => 197 | 124 => 249 | n => n, fun | n => n⟩
theorem Tryz.lays153 : Go.Proofs.Lays.n153 Tryz.prog Tryz.lays153_ren := {
 mixed := by kernel_rfl
 f119 := Tryz.func173.trans (congrArg some (by kernel_rfl))
 f137 := Tryz.func35.trans (congrArg some (by kernel_rfl))
 f152 := Tryz.func137.trans (congrArg some (by kernel_rfl))
 f153 := Tryz.func101.trans (congrArg some (by kernel_rfl))
 f217 := Tryz.func73.trans (congrArg some (by kernel_rfl))
 f224 := Tryz.func157.trans (congrArg some (by kernel_rfl))
 f225 := Tryz.func156.trans (congrArg some (by kernel_rfl))
 f226 := Tryz.func138.trans (congrArg some (by kernel_rfl))
 f227 := Tryz.func139.trans (congrArg some (by kernel_rfl))
 f228 := Tryz.func140.trans (congrArg some (by kernel_rfl))
 f266 := Tryz.func117.trans (congrArg some (by kernel_rfl))
 t0 := Tryz.underlying0
 a0 := Tryz.isAgg0
 z0 := Tryz.sizeOf0
 v0 := Tryz.zeroValue0
 t3 := Tryz.underlying3
 a3 := Tryz.isAgg3
 z3 := Tryz.sizeOf3
 v3 := Tryz.zeroValue3
 t4 := Tryz.underlying4
 a4 := Tryz.isAgg4
 z4 := Tryz.sizeOf4
 v4 := Tryz.zeroValue4
 t5 := Tryz.underlying5
 a5 := Tryz.isAgg5
 z5 := Tryz.sizeOf5
 v5 := Tryz.zeroValue5
 t9 := Tryz.underlying9
 a9 := Tryz.isAgg9
 z9 := Tryz.sizeOf9
 v9 := Tryz.zeroValue9
 t21 := Tryz.underlying21
 a21 := Tryz.isAgg21
 z21 := Tryz.sizeOf21
 v21 := Tryz.zeroValue21
 t46 := Tryz.underlying197
 a46 := Tryz.isAgg197
 z46 := Tryz.sizeOf197
 v46 := Tryz.zeroValue197
 t116 := Tryz.underlying209
 a116 := Tryz.isAgg209
 z116 := Tryz.sizeOf209
 t117 := Tryz.underlying210
 a117 := Tryz.isAgg210
 z117 := Tryz.sizeOf210
 v117 := Tryz.zeroValue210
 t124 := Tryz.underlying249
 a124 := Tryz.isAgg249
 z124 := Tryz.sizeOf249
 v124 := Tryz.zeroValue249 }
open Go.RowKit Go.Lib in
theorem Tryz.strings_IndexAny_long (hv116 : ∀ w, (zeroValue 209).run Tryz.prog w = .ok (.agg (Array.replicate 256 (.bool false))) w) (s chars : ByteArray) (w : World) (h2 : 2 ≤ chars.size) (h8 : 8 < s.size) (hs : s.size < 4294967281) (hcs : chars.size < 4294967281) (hascii : ∀ (j : Nat) b, chars.data.toList[j]? = some b → b.toNat < 128) :
  Calls Tryz.prog 101 #[.string s, .string chars] w fun e w' => e = .returned (.int .i64 (Lib.indexAny s.data.toList chars.data.toList)) ∧ w' = ((w.alloc (.cells (Lib.setCells chars.data.toList) 209)).alloc (.cells (Lib.setCells chars.data.toList) 209)) := Any.strings_IndexAny_long Tryz.lays153 hv116 (by kernel_rfl) s chars w h2 h8 hs hcs hascii
def Tryz.lays230_ren : Go.Shelf.Ren := ⟨fun | 230 => 115 | 197 => 110 | 118 => 152 | 165 => 111 | 166 => 112 | 168 => 153 | 270 => 154 | 167 => 113 | 169 => 114 | 260 => 149 | 240 => 150 | 241 => 151 | 242 => 176 | 276 => 174 | 277 => 175 | 278 => 189 | n => n, fun | 107 => 188 | 9 => 9 | 72 => 184 | 0 => 0 | 4 => 4 | 3 => 3 | 21 => 21 | 105 => 180 | 76 => 64 | 5 => 5 | 75 => 39 | 70 => 182 | 20 => 20 | 37 => 139 | 127 => 226 | 119 => 199 | 46 => 197 | 139 => 252 | 138 => 251 | 164 => 168 | 51 => 246 | 80 => 85 | n => n, fun | 3 => 5 | 4 => 6 | n => n⟩
theorem Tryz.lays230 : Go.Proofs.Lays.n230 Tryz.prog Tryz.lays230_ren := {
 mixed := by kernel_rfl
 f118 := Tryz.func152.trans (congrArg some (by kernel_rfl))
 f165 := Tryz.func111.trans (congrArg some (by kernel_rfl))
 f166 := Tryz.func112.trans (congrArg some (by kernel_rfl))
 f167 := Tryz.func113.trans (congrArg some (by kernel_rfl))
 f168 := Tryz.func153.trans (congrArg some (by kernel_rfl))
 f169 := Tryz.func114.trans (congrArg some (by kernel_rfl))
 f197 := Tryz.func110.trans (congrArg some (by kernel_rfl))
 f230 := Tryz.func115.trans (congrArg some (by kernel_rfl))
 f240 := Tryz.func150.trans (congrArg some (by kernel_rfl))
 f241 := Tryz.func151.trans (congrArg some (by kernel_rfl))
 f242 := Tryz.func176.trans (congrArg some (by kernel_rfl))
 f260 := Tryz.func149.trans (congrArg some (by kernel_rfl))
 f270 := Tryz.func154.trans (congrArg some (by kernel_rfl))
 f276 := Tryz.func174.trans (congrArg some (by kernel_rfl))
 f277 := Tryz.func175.trans (congrArg some (by kernel_rfl))
 f278 := Tryz.func189.trans (congrArg some (by kernel_rfl))
 t0 := Tryz.underlying0
 a0 := Tryz.isAgg0
 z0 := Tryz.sizeOf0
 v0 := Tryz.zeroValue0
 t3 := Tryz.underlying3
 a3 := Tryz.isAgg3
 z3 := Tryz.sizeOf3
 v3 := Tryz.zeroValue3
 t4 := Tryz.underlying4
 a4 := Tryz.isAgg4
 z4 := Tryz.sizeOf4
 v4 := Tryz.zeroValue4
 t5 := Tryz.underlying5
 a5 := Tryz.isAgg5
 z5 := Tryz.sizeOf5
 v5 := Tryz.zeroValue5
 t9 := Tryz.underlying9
 a9 := Tryz.isAgg9
 z9 := Tryz.sizeOf9
 v9 := Tryz.zeroValue9
 t20 := Tryz.underlying20
 a20 := Tryz.isAgg20
 z20 := Tryz.sizeOf20
 v20 := Tryz.zeroValue20
 t21 := Tryz.underlying21
 a21 := Tryz.isAgg21
 z21 := Tryz.sizeOf21
 v21 := Tryz.zeroValue21
 t37 := Tryz.underlying139
 a37 := Tryz.isAgg139
 z37 := Tryz.sizeOf139
 v37 := Tryz.zeroValue139
 t46 := Tryz.underlying197
 a46 := Tryz.isAgg197
 z46 := Tryz.sizeOf197
 v46 := Tryz.zeroValue197
 t51 := Tryz.underlying246
 a51 := Tryz.isAgg246
 z51 := Tryz.sizeOf246
 v51 := Tryz.zeroValue246
 t70 := Tryz.underlying182
 a70 := Tryz.isAgg182
 z70 := Tryz.sizeOf182
 v70 := Tryz.zeroValue182
 t72 := Tryz.underlying184
 a72 := Tryz.isAgg184
 z72 := Tryz.sizeOf184
 v72 := Tryz.zeroValue184
 t75 := Tryz.underlying39
 a75 := Tryz.isAgg39
 z75 := Tryz.sizeOf39
 v75 := Tryz.zeroValue39
 t76 := Tryz.underlying64
 a76 := Tryz.isAgg64
 z76 := Tryz.sizeOf64
 v76 := Tryz.zeroValue64
 t105 := Tryz.underlying180
 a105 := Tryz.isAgg180
 z105 := Tryz.sizeOf180
 v105 := Tryz.zeroValue180
 t107 := Tryz.underlying188
 a107 := Tryz.isAgg188
 z107 := Tryz.sizeOf188
 v107 := Tryz.zeroValue188
 t119 := Tryz.underlying199
 a119 := Tryz.isAgg199
 z119 := Tryz.sizeOf199
 t127 := Tryz.underlying226
 a127 := Tryz.isAgg226
 z127 := Tryz.sizeOf226
 v127 := Tryz.zeroValue226
 t138 := Tryz.underlying251
 a138 := Tryz.isAgg251
 z138 := Tryz.sizeOf251
 v138 := Tryz.zeroValue251
 t139 := Tryz.underlying252
 a139 := Tryz.isAgg252
 z139 := Tryz.sizeOf252
 v139 := Tryz.zeroValue252
 t164 := Tryz.underlying168
 a164 := Tryz.isAgg168
 z164 := Tryz.sizeOf168
 v164 := Tryz.zeroValue168
 g3 := by kernel_rfl
 g4 := by kernel_rfl }
theorem Tryz.Builder_Extra_230 : Builder.Extra Tryz.prog Tryz.lays230_ren := {
 sizeBuilder := by kernel_rfl
 liesBuilder := by kernel_rfl
 t5 := Tryz.underlying5
 a5 := Tryz.isAgg5
 z5 := Tryz.sizeOf5
 v5 := Tryz.zeroValue5
 infoByte := by kernel_rfl
 cellsByte := by kernel_rfl
 sizeByte := by kernel_rfl
 neB5 := by decide }
open Go.RowKit Go.Lib in
theorem Tryz.strings_Map_grows (g : Nat) (lb : Array Value) (eg : ∀ args w, (callFunc g args).run Tryz.prog w = .ok (.enter g args) w) (f : Int → Int) (s : ByteArray) (w : World) (hs : s.size < 35184372088832) (hf : MapGrows Tryz.prog g lb f w) (hnn : ∀ x : Nat, x ≤ 1114111 → -2147483648 ≤ f x ∧ f x ≤ 2147483647) (hT : Lib.Utf8Tabs 5 6 w) :
  Calls Tryz.prog 115 #[.func (.func g) #[] lb, .string s] w fun e w' => e = .returned (.string ⟨(Lib.mapD f s.data.toList).toArray⟩) ∧ Below w.heap.size w w' := Any.strings_Map_grows Tryz.lays230 Tryz.Builder_Extra_230 g lb eg f s w hs hf hnn hT
end Go.Proofs
namespace Go.Proofs.YtkelbglfhigmiaaGreatDoor
set_option maxRecDepth 20000
set_option maxHeartbeats 4000000
section
open Go Go.RowKit
attribute [local irreducible] AWp AOps aa ax OrOk ab ae
attribute [local irreducible] idxB
theorem mc {G : Glo} (s : List UInt8) (hs : s.length ≤ 140737488355328) (ha : ∀ j, j < s.length → aa s j < 128) : FnIs Tryz.prog G 72 [.str s] (.str (Lib.toLowerA s)) := by
 refine ci rfl Tryz.call72 ?_
 intro R args hr w _ _
 obtain ⟨x, t, e, hx, rfl⟩ := hr
 have hx := az.1 hx
 subst hx
 obtain rfl : args = #[.string ⟨s.toArray⟩] := by cases args; simp_all
 have := Tryz.strings_ToLower_ascii ⟨s.toArray⟩ w (by rw [aY]; exact hs) (fun j b hb => by
  have hb' : s[j]? = some b := by simpa using hb
  have hj := (List.getElem?_eq_some_iff.1 hb').1
  have h2 := ha j hj
  unfold aa at h2
  simpa [List.getD, hb'] using h2)
 simp only [AVal.conc]
 simpa using this
def abcU : List UInt8 := [65, 66, 67, 68, 69, 70, 71, 72, 73, 74, 75, 76, 77, 78, 79, 80, 81, 82, 83, 84, 85, 86, 87, 88, 89, 90]
def abcL : List UInt8 := [97, 98, 99, 100, 101, 102, 103, 104, 105, 106, 107, 108, 109, 110, 111, 112, 113, 114, 115, 116, 117, 118, 119, 120, 121, 122]
def Ca : List UInt8 := [48, 49, 50, 51, 52, 53, 54, 55, 56, 57, 45]
theorem iq {G : Glo} : FnIs Tryz.prog G 72 [.str abcU] (.str abcL) := by
 have h := mc (G := G) abcU (by decide) (by decide +kernel)
 have e : Lib.toLowerA abcU = abcL := by decide
 rwa [e] at h
theorem jr {p : Int → Bool} (h : ∀ c : Fin 256, p (c.1 : Int) = true) {c : Int} (h0 : 0 ≤ c) (h1 : c ≤ 255) : p c = true := by
 have := h ⟨c.toNat, by omega⟩
 simpa only [Int.toNat_of_nonneg h0] using this
theorem nY {c : Int} (h0 : 0 ≤ c) (h1 : c ≤ 255) : decide (idxB ((abcU ++ abcL) ++ Ca) c < 0) = !aG c := by
 have := jr (p := fun c => decide (idxB ((abcU ++ abcL) ++ Ca) c < 0) == !aG c) (by decide +kernel) h0 h1
 simpa using this
theorem A1 {G : Glo} (s : List UInt8) (hl : s.length ≤ 9223372036854775807) : FnIs Tryz.prog G 33 [.str s] (.bool (isS s)) := by
 have hGL : ab G [] := ad
 refine fn_x Tryz.func33 Tryz.call33 rfl rfl rfl rfl hGL ?_
 intro C hC
 have hT := iq (G := G)
 have hI := fun c h0 h1 => aL (G := G) ((abcU ++ abcL) ++ Ca) c h0 h1
 have hW := cY (G := G) (s.length : Int) 1 40
 repeat' (first | (conv => whnf); first | refine .w ?_ | refine .v ?_ | refine sc_c ?_ ?_ <;> (intro hb; try exact dd hb) | apply ah | apply aq | (apply sc_i <;> intro hb) | (apply bx_i; intro hbd) | (apply ak; first | fail) | (apply ap (i := 0) rfl; first | fail) | (apply ab_i; intro bl) | (apply as_i; intro va vk vc hva) | (apply av_i; intro v) | (apply ac_i; intro bl cap hcap) | apply bo_l | (apply nx_i <;> intro hnx) | exact rt_w | apply dw_q mixed hC hGL (by kernel_rfl) | (apply cq; assumption; (first | fail); exact rfl))
 all_goals try conv => whnf
 refine lp hC hGL (fun (i : Nat) => [(0, .str s), (6, .own 0 (.slice (some ⟨bl, 0, none⟩) s.length cap)), (7, .int .i64 s.length), (8, .int .i64 i)]) (fun _ => [.buf bl s cap]) (fun i => i ≤ s.length ∧ ∀ j, j < i → aG (aa s j) = true) (fun i => s.length - i) 0 ?_ aj rfl ?_
 ·exact ⟨Nat.zero_le _, by intro j hj; omega⟩
 rintro i ⟨hi, hb0⟩
 repeat' (first | (conv => whnf); first | refine .w ?_ | refine .v ?_ | refine sc_c ?_ ?_ <;> (intro hb; try exact dd hb) | apply ah | apply aq | (apply sc_i <;> intro hb) | (apply bx_i; intro hbd) | (apply ak; first | exact hT | exact hW | (exact hI _ (by omega) (by omega))) | (apply ap (i := 0) rfl; first | exact hT | exact hW | (exact hI _ (by omega) (by omega))) | (apply ab_i; intro bl) | (apply as_i; intro va vk vc hva) | (apply av_i; intro v) | (apply ac_i; intro bl cap hcap) | apply bo_l | (apply nx_i <;> intro hnx) | exact rt_w | apply dw_q mixed hC hGL (by kernel_rfl) | (apply cq; assumption; (first | exact hT | exact hW | (exact hI _ (by omega) (by omega))); exact rfl))
 all_goals try conv => whnf
 ·apply ar
  have hx := nY (c := (aa s i : Int)) (by omega) (by omega)
  rw [decide_eq_true hb] at hx
  rw [isS, wI (j := i) (by omega) (by simpa using hx.symm)]
  rfl
 ·have hx := nY (c := (aa s i : Int)) (by omega) (by omega)
  rw [decide_eq_false (by omega)] at hx
  refine nxt (i + 1) ?_ ?_ aj rfl
  ·exact ⟨by omega, bK hb0 (by simpa using hx.symm)⟩
  ·omega
 ·apply ar
  refine congrArg AVal.bool ?_
  have ha : allB aG s = true := lP.2 fun j hj => hb0 j (by omega)
  simp only [isS, ha, Bool.true_and]
  rw [Bool.eq_iff_iff]
  simp only [Bool.and_eq_true, decide_eq_true_eq]
  omega
theorem xU {c : Int} (h0 : 0 ≤ c) (h1 : c ≤ 255) : (if 0 ≤ idxB abcU c then idxB abcU c < 26 ∧ (aa abcL (idxB abcU c).toNat : Int) = dj 65 90 32 c.toNat else dj 65 90 32 c.toNat = c) := by
 have := jr (p := fun c => decide (if 0 ≤ idxB abcU c then idxB abcU c < 26 ∧ (aa abcL (idxB abcU c).toNat : Int) = dj 65 90 32 c.toNat else dj 65 90 32 c.toNat = c)) (by decide +kernel) h0 h1
 simpa using this
theorem lu {G : Glo} (s : List UInt8) (hl : s.length ≤ 9223372036854775807) : FnIs Tryz.prog G 41 [.str s] (.str (aJ 65 90 32 s)) := by
 have hGL : ab G [] := ad
 refine fn_x Tryz.func41 Tryz.call41 rfl rfl rfl rfl hGL ?_
 intro C hC
 have hT := iq (G := G)
 have hI := fun c h0 h1 => aL (G := G) abcU c h0 h1
 have eL : abcL.length = 26 := rfl
 repeat' (first | (conv => whnf); first | refine .w ?_ | refine .v ?_ | refine sc_c ?_ ?_ <;> (intro hb; try exact dd hb) | apply ah | apply aq | (apply sc_i <;> intro hb) | (apply bx_i; intro hbd) | (apply ak; first | fail) | (apply ap (i := 0) rfl; first | fail) | (apply ab_i; intro bl) | (apply as_i; intro va vk vc hva) | (apply av_i; intro v) | (apply ac_i; intro bl cap hcap) | apply bo_l | (apply nx_i <;> intro hnx) | exact rt_w | apply dw_q mixed hC hGL (by kernel_rfl) | (apply cq; assumption; (first | fail); exact rfl))
 all_goals try conv => whnf
 refine lp hC hGL (fun (x : Nat × List UInt8) => [(3, .own 0 (.slice (some ⟨bl, 0, none⟩) s.length cap)), (9, .int .i64 s.length), (10, .int .i64 x.1)]) (fun x => [.buf bl x.2 cap]) (ig 65 90 32 s) (fun x => s.length - x.1) (0, s) ?_ aj rfl ?_
 ·exact rV
 rintro ⟨i, t⟩ hI0
 have hi := hI0.1
 have ht := hI0.2.1
 dsimp only at hi ht ⊢
 repeat' (first | (conv => whnf); first | refine .w ?_ | refine .v ?_ | refine sc_c ?_ ?_ <;> (intro hb; try exact dd hb) | apply ah | apply aq | (apply sc_i <;> intro hb) | (apply bx_i; intro hbd) | (apply ak; first | exact hT | (exact hI _ (by omega) (by omega))) | (apply ap (i := 0) rfl; first | exact hT | (exact hI _ (by omega) (by omega))) | (apply ab_i; intro bl) | (apply as_i; intro va vk vc hva) | (apply av_i; intro v) | (apply ac_i; intro bl cap hcap) | apply bo_l | (apply nx_i <;> intro hnx) | exact rt_w | apply dw_q mixed hC hGL (by kernel_rfl) | (apply cq; assumption; (first | exact hT | (exact hI _ (by omega) (by omega))); exact rfl))
 all_goals try conv => whnf
 ·have e := iX hI0 (by omega)
  have hx := xU (c := (aa s i : Int)) (by omega) (by omega)
  rw [if_pos (by rw [← e]; exact hb), ← e] at hx
  repeat' (first | (conv => whnf); first | refine .w ?_ | refine .v ?_ | refine sc_c ?_ ?_ <;> (intro hb; try exact dd hb) | apply ah | apply aq | (apply sc_i <;> intro hb) | (apply bx_i; intro hbd) | (apply ak; first | exact hT) | (apply ap (i := 0) rfl; first | exact hT) | (apply ab_i; intro bl) | (apply as_i; intro va vk vc hva) | (apply av_i; intro v) | (apply ac_i; intro bl cap hcap) | apply bo_l | (apply nx_i <;> intro hnx) | exact rt_w | apply dw_q mixed hC hGL (by kernel_rfl) | (apply cq; assumption; (first | exact hT); exact rfl))
  all_goals try conv => whnf
  refine nxt (i + 1, t.set i (UInt8.ofNat ((aa abcL (idxB abcU (aa t i)).toNat : Nat) : Int).toNat)) ?_ ?_ aj rfl
  ·refine mW hI0 (by omega) ?_ (by omega) (by have := aX abcL (idxB abcU (aa t i)).toNat; omega)
   rw [hx.2, e]
   simp only [Int.toNat_natCast]
  ·dsimp only; omega
 ·have e := iX hI0 (by omega)
  have hx := xU (c := (aa s i : Int)) (by omega) (by omega)
  rw [if_neg (by rw [← e]; omega)] at hx
  refine nxt (i + 1, t) ?_ ?_ aj rfl
  ·exact lQ hI0 (by omega) (by simpa using hx)
  ·dsimp only; omega
 ·apply ar
  rw [mX (by decide) (by decide) hI0 (by omega)]
end
section
open Go Go.Extern
attribute [local irreducible] AWp AOps aa ax OrOk ab ae
/-! ### Types as the model's externs hand them about -/
noncomputable def hdl (t : TypeId) : Value := typeHandle Tryz.prog t
theorem mm (t : Addr) (w : World) : (ReflectliteValue.unpack (.iface 129 (.pointer (some t)))).run Tryz.prog w
  = .ok (.agg #[hdl 129, .pointer (some ⟨w.heap.size, 0, none⟩), .int .u64 150]) (w.alloc (.cells #[.pointer (some t)] 129)) := by kernel_rfl
theorem kn (e : Int) (w : World) : (ReflectliteValue.unpack (.iface 33 (.int .i64 e))).run Tryz.prog w
  = .ok (.agg #[hdl 33, .pointer (some ⟨w.heap.size, 0, none⟩), .int .u64 130]) (w.alloc (.cells #[.int .i64 e] 33)) := by kernel_rfl
theorem fp {R : Seal} {a : AVal} {args : Array Value} (h : RelV R [a] args.toList) : ∃ v, args = #[v] ∧ Rel R a v := by
 obtain ⟨x, t, e, hx, rfl⟩ := h
 exact ⟨x, by cases args; simp_all, hx⟩
theorem j4 {R : Seal} {a b : AVal} {args : Array Value} (h : RelV R [a, b] args.toList) : ∃ v u, args = #[v, u] ∧ Rel R a v ∧ Rel R b u := by
 obtain ⟨x, t, e, hx, y, t', e', hy, rfl⟩ := h
 exact ⟨x, y, by cases args; simp_all, hx, hy⟩
theorem gE {R : Seal} {t : TypeId} {a : AVal} {v : Value} (h : Rel R (.iface t a) v) : ∃ u, v = .iface t u ∧ Rel R a u := by
 obtain ⟨u, e, h1, h2⟩ := aT h rfl
 simp only [List.cons.injEq, and_true] at e
 exact ⟨u, e, h1, h2⟩
theorem rN {G : Glo} (bl : Nat) : FnIs Tryz.prog G 106 [.iface 129 (.raw (.pointer (some ⟨bl, 0, none⟩)))]
  (.agg [.raw (hdl 129), .rop [.raw (.pointer (some ⟨bl, 0, none⟩))] 0, .int .u64 150]) := by
 refine ik Tryz.func106 (by kernel_rfl) (by kernel_rfl) (by kernel_rfl) (e := fun args => ReflectliteValue.unpack (args.getD 0 (.tuple #[]))) (by kernel_rfl) ?_
 intro R args w ha
 obtain ⟨v, rfl, hv⟩ := fp ha
 obtain ⟨u, rfl, hu⟩ := gE hv
 obtain rfl := an.1 hu
 refine ⟨_, _, _, mm _ w, fun R' _ hR => ⟨⟨_, _, rfl, rfl, _, _, rfl, ?_, _, _, rfl, rfl, rfl⟩, rfl⟩⟩
 exact (dt (R := R') (cs := [.raw (.pointer (some ⟨bl, 0, none⟩))]) (off := 0) (Nat.le_refl _) ⟨_, _, _, hR, ⟨_, _, rfl, rfl, rfl⟩⟩).1
theorem jt {G : Glo} (e : Int) : FnIs Tryz.prog G 106 [.iface 33 (.int .i64 e)]
  (.agg [.raw (hdl 33), .rop [.int .i64 e] 0, .int .u64 130]) := by
 refine ik Tryz.func106 (by kernel_rfl) (by kernel_rfl) (by kernel_rfl) (e := fun args => ReflectliteValue.unpack (args.getD 0 (.tuple #[]))) (by kernel_rfl) ?_
 intro R args w ha
 obtain ⟨v, rfl, hv⟩ := fp ha
 obtain ⟨u, rfl, hu⟩ := gE hv
 obtain rfl := ao.1 hu
 refine ⟨_, _, _, kn _ w, fun R' _ hR => ⟨⟨_, _, rfl, rfl, _, _, rfl, ?_, _, _, rfl, rfl, rfl⟩, rfl⟩⟩
 exact (dt (R := R') (cs := [.int .i64 e]) (off := 0) (Nat.le_refl _) ⟨_, _, _, hR, ⟨_, _, rfl, rfl, rfl⟩⟩).1
/-! ### Types -/
noncomputable abbrev rty (t : TypeId) : AVal := .iface 215 (.agg [.raw (hdl t)])
theorem ks {R : Seal} (t : TypeId) : Rel R (rty t) (.iface 215 (.agg #[hdl t])) := ⟨⟨_, rfl, ⟨_, _, rfl, rfl, rfl⟩, rfl⟩, rfl⟩
theorem eh {R : Seal} {x : Value} {v : Value} (hx : vAgg x = false) (h : Rel R (.agg [.raw x]) v) : v = .agg #[x] := by
 obtain ⟨h1, h2⟩ := h
 cases v <;> simp only [AVal.isAgg, vAgg, Bool.true_eq_false] at h2
 rename_i cs
 obtain ⟨a, t, e, ha, rfl⟩ := h1
 simp only [Value.cells] at e
 have ha : [a] = x.cells.toList := ha
 have : x.cells.toList = [x] := by cases x <;> first | rfl | (simp [vAgg] at hx)
 rw [this] at ha
 simp only [List.cons.injEq, and_true] at ha
 subst ha
 have : cs = #[a] := by cases cs; simp_all
 rw [this]
theorem qw {R : Seal} {t : TypeId} {v : Value} (h : Rel R (rty t) v) : v = .iface 215 (.agg #[hdl t]) := by
 obtain ⟨u, rfl, hu⟩ := gE h
 rw [eh rfl hu]
theorem k6 {R : Seal} {x : Value} {k : IntKind} {n : Int} {c : AVal} {v : Value} (hx : vAgg x = false) (h : Rel R (.agg [.raw x, .rop [c] 0, .int k n]) v) :
  ∃ b o, v = .agg #[x, .pointer (some ⟨b, o, none⟩), .int k n] ∧ bN R b o [c] := by
 obtain ⟨h1, h2⟩ := h
 cases v <;> simp only [AVal.isAgg, vAgg, Bool.true_eq_false] at h2
 rename_i cs
 obtain ⟨a, t, e, ha, a', t', e', ha', a'', t'', e'', ha'', rfl⟩ := h1
 simp only [Value.cells] at e
 have ha : [a] = x.cells.toList := ha
 have hxl : x.cells.toList = [x] := by cases x <;> first | rfl | (simp [vAgg] at hx)
 rw [hxl] at ha
 simp only [List.cons.injEq, and_true] at ha
 subst ha
 have ha'' : [a''] = [Value.int k n] := ha''
 simp only [List.cons.injEq, and_true] at ha''
 subst ha''
 obtain ⟨b, o, e2, ho, hs⟩ := dx (bn ha' rfl)
 subst e2
 refine ⟨b, o, ?_, by simpa using hs⟩
 have : cs = #[a, .pointer (some ⟨b, o, none⟩), .int k n] := by cases cs; simp_all
 rw [this]
theorem j3 {G : Glo} (e : Int) : FnIs Tryz.prog G 146 [.iface 33 (.int .i64 e)] (rty 33) := by
 refine bQ Tryz.func146 (by kernel_rfl) (by kernel_rfl) (by kernel_rfl) (e := ReflectliteType.typeOf) (by kernel_rfl) ?_
 intro R args ha w
 obtain ⟨v, rfl, hv⟩ := fp ha
 obtain ⟨u, rfl, hu⟩ := gE hv
 exact ⟨.iface 215 (.agg #[hdl 33]), by kernel_rfl, ks _⟩
theorem yH {G : Glo} (a : AVal) : FnIs Tryz.prog G 146 [.iface 60 a] (rty 60) := by
 refine bQ Tryz.func146 (by kernel_rfl) (by kernel_rfl) (by kernel_rfl) (e := ReflectliteType.typeOf) (by kernel_rfl) ?_
 intro R args ha w
 obtain ⟨v, rfl, hv⟩ := fp ha
 obtain ⟨u, rfl, hu⟩ := gE hv
 exact ⟨.iface 215 (.agg #[hdl 60]), by kernel_rfl, ks _⟩
theorem Ah {G : Glo} (c : AVal) : FnIs Tryz.prog G 107 [.agg [.raw (hdl 129), .rop [c] 0, .int .u64 150]] (rty 129) := by
 refine bQ Tryz.func107 (by kernel_rfl) (by kernel_rfl) (by kernel_rfl)
  (e := ReflectliteValue.methodAny (ReflectliteValue.valueError "reflectlite.Value.Type" 0) fun t _ _ _ => ReflectliteType.toType t) (by kernel_rfl) ?_
 intro R args ha w
 obtain ⟨v, rfl, hv⟩ := fp ha
 obtain ⟨b, o, rfl, _⟩ := k6 rfl hv
 exact ⟨.iface 215 (.agg #[hdl 129]), by kernel_rfl, ks _⟩
theorem un {G : Glo} (t : TypeId) (k : Int) (h : ∀ w, (((ReflectliteType.abiMethod fun t => do pure (.int .u8 (← Rtype.kind t))) #[hdl t]).run Tryz.prog w) = .ok (.int .u8 k) w) : FnIs Tryz.prog G 252 [.raw (hdl t)] (.int .u8 k) := by
 refine bQ Tryz.func252 (by kernel_rfl) (by kernel_rfl) (by kernel_rfl)
  (e := ReflectliteType.abiMethod fun t => do pure (.int .u8 (← Rtype.kind t))) (by kernel_rfl) ?_
 intro R args ha w
 obtain ⟨v, rfl, hv⟩ := fp ha
 obtain rfl := an.1 hv
 exact ⟨.int .u8 k, h w, ao.2 rfl⟩
theorem BL {G : Glo} : FnIs Tryz.prog G 252 [.raw (hdl 129)] (.int .u8 22) := un _ _ (fun w => by kernel_rfl)
theorem vJ {G : Glo} : FnIs Tryz.prog G 252 [.raw (hdl 33)] (.int .u8 2) := un _ _ (fun w => by kernel_rfl)
theorem B6 {G : Glo} : FnIs Tryz.prog G 264 [.agg [.raw (hdl 129)]] (rty 33) := by
 refine bQ Tryz.func264 (by kernel_rfl) (by kernel_rfl) (by kernel_rfl) (e := ReflectliteType.method ReflectliteType.elem) (by kernel_rfl) ?_
 intro R args ha w
 obtain ⟨v, rfl, hv⟩ := fp ha
 obtain rfl := eh rfl hv
 exact ⟨.iface 215 (.agg #[hdl 33]), by kernel_rfl, ks _⟩
theorem lA {G : Glo} : FnIs Tryz.prog G 265 [.agg [.raw (hdl 33)], rty 39] (.bool true) := by
 refine bQ Tryz.func265 (by kernel_rfl) (by kernel_rfl) (by kernel_rfl) (e := ReflectliteType.relation "Implements" ReflectliteType.implements_) (by kernel_rfl) ?_
 intro R args ha w
 obtain ⟨v, u, rfl, hv, hu⟩ := j4 ha
 obtain rfl := eh rfl hv
 obtain rfl := qw hu
 exact ⟨.bool true, by kernel_rfl, aE.2 rfl⟩
theorem gI {G : Glo} : FnIs Tryz.prog G 262 [.agg [.raw (hdl 33)], rty 33] (.bool true) := by
 refine bQ Tryz.func262 (by kernel_rfl) (by kernel_rfl) (by kernel_rfl) (e := ReflectliteType.relation "AssignableTo" ReflectliteType.assignableTo) (by kernel_rfl) ?_
 intro R args ha w
 obtain ⟨v, u, rfl, hv, hu⟩ := j4 ha
 obtain rfl := eh rfl hv
 obtain rfl := qw hu
 exact ⟨.bool true, by kernel_rfl, aE.2 rfl⟩
theorem o3 {G : Glo} : FnIs Tryz.prog G 262 [.agg [.raw (hdl 60)], rty 33] (.bool false) := by
 refine bQ Tryz.func262 (by kernel_rfl) (by kernel_rfl) (by kernel_rfl) (e := ReflectliteType.relation "AssignableTo" ReflectliteType.assignableTo) (by kernel_rfl) ?_
 intro R args ha w
 obtain ⟨v, u, rfl, hv, hu⟩ := j4 ha
 obtain rfl := eh rfl hv
 obtain rfl := qw hu
 exact ⟨.bool false, by kernel_rfl, aE.2 rfl⟩
/-! ### What reads or writes memory -/
theorem rlm (z : Sem Value) (f : TypeId → Addr → Nat → Nat → Sem Value) (v : Value) :
  ReflectliteValue.method z f #[v] = (do match ← ReflectliteValue.parts v with | none => z | some (t, a, fl) => f t a fl (fl % 32)) := rfl
theorem pw (a : Addr) (w : World) : (ReflectliteValue.parts (.agg #[hdl 129, .pointer (some a), .int .u64 150])).run Tryz.prog w = .ok (some (129, a, 150)) w := by kernel_rfl
theorem zb (a : Addr) (w : World) : (ReflectliteValue.parts (.agg #[hdl 33, .pointer (some a), .int .u64 386])).run Tryz.prog w = .ok (some (33, a, 386)) w := by kernel_rfl
theorem sO (a : Addr) (w : World) : (ReflectliteValue.parts (.agg #[hdl 33, .pointer (some a), .int .u64 130])).run Tryz.prog w = .ok (some (33, a, 130)) w := by kernel_rfl
theorem wd (w : World) : (Rtype.elem? 129).run Tryz.prog w = .ok (some 33) w := by kernel_rfl
theorem FM (p : Addr) (w : World) : (ReflectliteValue.mk 33 p ReflectliteValue.flagAddr).run Tryz.prog w = .ok (.agg #[hdl 33, .pointer (some p), .int .u64 386]) w := by kernel_rfl
theorem zj {G : Glo} (bl : Nat) : FnIs Tryz.prog G 108 [.agg [.raw (hdl 129), .rop [.raw (.pointer (some ⟨bl, 0, none⟩))] 0, .int .u64 150]] (.bool false) := by
 refine eN Tryz.func108 (by kernel_rfl) (by kernel_rfl) (by kernel_rfl) (e := ReflectliteValue.method (ReflectliteValue.valueError "reflectlite.Value.IsNil" 0) ReflectliteValue.isNil) (by kernel_rfl) ?_
 intro C R args w hm ha
 obtain ⟨v, rfl, hv⟩ := fp ha
 obtain ⟨b, o, rfl, hs⟩ := k6 rfl hv
 obtain ⟨u, hu, hr⟩ := hs.cell hm.sealed (i := 0) rfl
 rw [Nat.add_zero] at hu
 have hr : [u] = [Value.pointer (some ⟨bl, 0, none⟩)] := hr
 simp only [List.cons.injEq, and_true] at hr
 subst hr
 refine ⟨.bool false, w, R, ?_, Seal.le_refl R, aE.2 rfl, hm⟩
 rw [rlm]
 simp only [Sem.run_bind, pw, Result.andThen]
 simp [ReflectliteValue.isNil, loadVar, isAgg, underlying, Tryz.underlying129, hu, Result.andThen]
theorem pY {G : Glo} (bl : Nat) : FnIs Tryz.prog G 147 [.agg [.raw (hdl 129), .rop [.raw (.pointer (some ⟨bl, 0, none⟩))] 0, .int .u64 150]] (.agg [.raw (hdl 33), .raw (.pointer (some ⟨bl, 0, none⟩)), .int .u64 386]) := by
 refine eN Tryz.func147 (by kernel_rfl) (by kernel_rfl) (by kernel_rfl) (e := ReflectliteValue.method (ReflectliteValue.valueError "reflectlite.Value.Elem" 0) ReflectliteValue.elem) (by kernel_rfl) ?_
 intro C R args w hm ha
 obtain ⟨v, rfl, hv⟩ := fp ha
 obtain ⟨b, o, rfl, hs⟩ := k6 rfl hv
 obtain ⟨u, hu, hr⟩ := hs.cell hm.sealed (i := 0) rfl
 rw [Nat.add_zero] at hu
 have hr : [u] = [Value.pointer (some ⟨bl, 0, none⟩)] := hr
 simp only [List.cons.injEq, and_true] at hr
 subst hr
 refine ⟨.agg #[hdl 33, .pointer (some ⟨bl, 0, none⟩), .int .u64 386], w, R, ?_, Seal.le_refl R, ⟨⟨_, _, rfl, rfl, _, _, rfl, rfl, _, _, rfl, rfl, rfl⟩, rfl⟩, hm⟩
 rw [rlm]
 simp only [Sem.run_bind, pw, Result.andThen]
 simp [ReflectliteValue.elem, loadVar, isAgg, underlying, Tryz.underlying129, hu, Result.andThen, wd, FM]
end
section
open Go Go.Extern
attribute [local irreducible] AWp AOps aa ax OrOk ab ae
theorem rls (v x : Value) : ReflectliteValue.set #[v, x] = (do
  let (some (dst, a, fl), some (src, b, _)) := (← ReflectliteValue.parts v, ← ReflectliteValue.parts x)
   | unsupported (.noEntry "extern/(internal/reflectlite.Value).Set.zeroValue")
  if fl / ReflectliteValue.flagAddr % 2 == 0 then unsupported (.noEntry "extern/(internal/reflectlite.Value).Set.unaddressable")
  let val ← loadVar src b
  if ← Rtype.directlyAssignable dst src then storeVar dst a val
  else if ← Rtype.implements dst src then
   if (← Rtype.kind src) == 20 then
    match val with
    | .nilIface => unsupported (.noEntry "extern/reflectlite: a nil value of one interface type handed on as a value of another")
    | _ => storeVar dst a val
   else storeVar dst a (.iface src val)
  else panicString ("reflectlite.Set: value of type " ++ (← Rtype.spelt src) ++ " is not assignable to type " ++ (← Rtype.spelt dst))
  pure (.tuple #[])) := rfl
theorem rf (w : World) : (Rtype.directlyAssignable 33 33).run Tryz.prog w = .ok true w := by kernel_rfl
theorem C3 {R : Seal} {x y : Value} {k : IntKind} {n : Int} {v : Value} (hx : vAgg x = false) (hy : vAgg y = false) (h : Rel R (.agg [.raw x, .raw y, .int k n]) v) : v = .agg #[x, y, .int k n] := by
 obtain ⟨h1, h2⟩ := h
 cases v <;> simp only [AVal.isAgg, vAgg, Bool.true_eq_false] at h2
 rename_i cs
 obtain ⟨a, t, e, ha, a', t', e', ha', a'', t'', e'', ha'', rfl⟩ := h1
 simp only [Value.cells] at e
 have key : ∀ {z : Value}, vAgg z = false → z.cells.toList = [z] := by intro z hz; cases z <;> first | rfl | (simp [vAgg] at hz)
 have ha : [a] = x.cells.toList := ha
 have ha' : [a'] = y.cells.toList := ha'
 rw [key hx] at ha
 rw [key hy] at ha'
 have ha'' : [a''] = [Value.int k n] := ha''
 simp only [List.cons.injEq, and_true] at ha ha' ha''
 subst ha ha' ha''
 have : cs = #[a, a', .int k n] := by cases cs; simp_all
 rw [this]
theorem pi {G : Glo} (bl : Nat) (e old : Int) : ae Tryz.prog G 148 [.agg [.raw (hdl 33), .raw (.pointer (some ⟨bl, 0, none⟩)), .int .u64 386], .agg [.raw (hdl 33), .rop [.int .i64 e] 0, .int .u64 130]]
  [.cells bl (some 33) [.int .i64 old]] (fun r H => r = .ret (.tuple []) ∧ H = [.cells bl (some 33) [.int .i64 e]]) := by
 refine eN Tryz.func148 (by kernel_rfl) (by kernel_rfl) (by kernel_rfl) (e := ReflectliteValue.set) (by kernel_rfl) ?_
 intro C R args w hm ha
 obtain ⟨v, u, rfl, hv, hu⟩ := j4 ha
 obtain rfl := C3 rfl rfl hv
 obtain ⟨b, o, rfl, hs⟩ := k6 rfl hu
 obtain ⟨u, hu, hr⟩ := hs.cell hm.sealed (i := 0) rfl
 rw [Nat.add_zero] at hu
 have hr : [u] = [Value.int .i64 e] := hr
 simp only [List.cons.injEq, and_true] at hr
 subst hr
 obtain ⟨Cs, el, fz, hb, hl, hfz⟩ := fB hm (i := 0) rfl
 have hlen := aw hl
 simp only [Array.length_toList, List.length_cons, List.length_nil] at hlen
 obtain ⟨w', hst, ho⟩ := cW (P := Tryz.prog) [Value.int .i64 e] 0 0 Cs w hb (by simp only [List.length_cons, List.length_nil]; omega) hfz.1 (by intro v hv; simp only [List.mem_singleton] at hv; subst hv; exact ⟨rfl, fun _ => by simp⟩)
 refine ⟨.tuple #[], w', R, ?_, Seal.le_refl R, ⟨⟨#[], rfl, rfl⟩, rfl⟩, ?_⟩
 ·rw [rls]
  simp only [Sem.run_bind, zb, sO, Result.andThen]
  simp [ReflectliteValue.flagAddr, loadVar, isAgg, underlying, Tryz.underlying33, hu, Result.andThen, rf, storeVar, Value.cells]
  rw [hst]
 ·have hd : Cs.toList.drop (0 + 0 + [Value.int .i64 e].length) = [] := List.drop_eq_nil_of_le (by simp; omega)
  refine hm.write (i := 0) rfl rfl ho rfl ⟨_, _, _, ho.at_, ?_, ?_⟩
  ·rw [hd]; exact ⟨_, _, rfl, rfl, rfl⟩
  ·rw [hd]
   have : Cs.size = 1 := by omega
   rw [this] at hfz
   exact hfz
/-! ### Methods -/
section
variable (t : TypeId)
theorem BB : ∀ R v, Rel R (.agg [.raw (hdl t)]) v → ∀ w, ∃ u, (Go.method (Tryz.prog.types.size + Made.depth) 215 v "Kind").run Tryz.prog w = .ok (252, u) w ∧ Rel R (.raw (hdl t)) u := by
 intro R v h w
 obtain rfl := eh rfl h
 exact ⟨hdl t, by kernel_rfl, an.2 rfl⟩
theorem FQ : ∀ R v, Rel R (.agg [.raw (hdl t)]) v → ∀ w, ∃ u, (Go.method (Tryz.prog.types.size + Made.depth) 215 v "Elem").run Tryz.prog w = .ok (264, u) w ∧ Rel R (.agg [.raw (hdl t)]) u := by
 intro R v h w
 obtain rfl := eh rfl h
 exact ⟨.agg #[hdl t], by kernel_rfl, h⟩
theorem FP : ∀ R v, Rel R (.agg [.raw (hdl t)]) v → ∀ w, ∃ u, (Go.method (Tryz.prog.types.size + Made.depth) 215 v "Implements").run Tryz.prog w = .ok (265, u) w ∧ Rel R (.agg [.raw (hdl t)]) u := by
 intro R v h w
 obtain rfl := eh rfl h
 exact ⟨.agg #[hdl t], by kernel_rfl, h⟩
theorem vA : ∀ R v, Rel R (.agg [.raw (hdl t)]) v → ∀ w, ∃ u, (Go.method (Tryz.prog.types.size + Made.depth) 215 v "AssignableTo").run Tryz.prog w = .ok (262, u) w ∧ Rel R (.agg [.raw (hdl t)]) u := by
 intro R v h w
 obtain rfl := eh rfl h
 exact ⟨.agg #[hdl t], by kernel_rfl, h⟩
end
theorem BA (a : AVal) : ∀ R v, Rel R a v → ∀ w, ∃ u, (Go.method (Tryz.prog.types.size + Made.depth) 60 v "Unwrap").run Tryz.prog w = .ok (257, u) w ∧ Rel R a u := by
 intro R v h w
 exact ⟨v, by kernel_rfl, h⟩
theorem Ea : ∀ v w, (Instr.typeAssert (.iface 60 v) 39 220 true).run Tryz.prog w = .ok (.tuple #[.nilIface, .bool false]) w := fun v w => run_typeAssert_lacksB (z := .nilIface) Tryz.underlying220 (by kernel_rfl) (by kernel_rfl) v _ w
theorem tz : ∀ v w, (Instr.typeAssert (.iface 60 v) 39 130 true).run Tryz.prog w = .ok (.tuple #[.iface 60 v, .bool true]) w := by intro v w; kernel_rfl
theorem n5 : ∀ v w, (Instr.typeAssert (.iface 33 v) 39 130 true).run Tryz.prog w = .ok (.tuple #[.nilIface, .bool false]) w := fun v w => run_typeAssert_lacksB (z := .nilIface) Tryz.underlying130 (by kernel_rfl) (by kernel_rfl) v _ w
/-! ### The walks -/
abbrev errA (e : Int) : AVal := .iface 33 (.int .i64 e)
abbrev atA (e p : Int) : AVal := .iface 60 (.rop [.int .i64 e, .int .i64 p] 0)
noncomputable abbrev tgtV (bl : Nat) : AVal := .agg [.raw (hdl 129), .rop [.raw (.pointer (some ⟨bl, 0, none⟩))] 0, .int .u64 150]
abbrev tgtA (bl : Nat) : AVal := .iface 129 (.raw (.pointer (some ⟨bl, 0, none⟩)))
theorem zR {G : Glo} (e p : Int) : FnIs Tryz.prog G 257 [.rop [.int .i64 e, .int .i64 p] 0] (errA e) := by
 have hGL : ab G [] := ad
 refine fn_x Tryz.func257 Tryz.call257 rfl rfl rfl rfl hGL ?_
 intro C hC
 exact xw0
theorem fa {G : Glo} (bl : Nat) (e old : Int) : ae Tryz.prog G 109 [errA e, tgtA bl, tgtV bl, rty 33] [.cells bl (some 33) [.int .i64 old]] (fun r H => r = .ret (.bool true) ∧ H = [.cells bl (some 33) [.int .i64 e]]) := by
 have hGL : ab G [] := ad
 refine fn_x Tryz.func109 Tryz.call109 rfl rfl rfl rfl hGL ?_
 intro C hC
 have h1 := j3 (G := G) e
 have h2 := pY (G := G) bl
 have h3 := jt (G := G) e
 have h4 := pi (G := G) bl e old
 have h5 := gI (G := G)
 have m1 := vA 33
 refine xw1 ?_
 intros
 refine rds hC hGL 1 ?_
 exact xw0
theorem g7 {G : Glo} (bl : Nat) (e p old : Int) : ae Tryz.prog G 109 [atA e p, tgtA bl, tgtV bl, rty 33] [.cells bl (some 33) [.int .i64 old]] (fun r H => r = .ret (.bool true) ∧ H = [.cells bl (some 33) [.int .i64 e]]) := by
 have hGL : ab G [] := ad
 refine fn_x Tryz.func109 Tryz.call109 rfl rfl rfl rfl hGL ?_
 intro C hC
 have h1 := j3 (G := G) e
 have h2 := pY (G := G) bl
 have h3 := jt (G := G) e
 have h4 := pi (G := G) bl e old
 have h5 := gI (G := G)
 have h6 := o3 (G := G)
 have h7 := yH (G := G) (.rop [.int .i64 e, .int .i64 p] 0)
 have h8 := zR (G := G) e p
 have m1 := vA 33
 have m2 := vA 60
 have m3 := BA (.rop [.int .i64 e, .int .i64 p] 0)
 have i1 := Ea
 have i2 := tz
 refine xw1 ?_
 intros
 refine rds hC hGL 2 ?_
 exact xw0
noncomputable abbrev errTy : List (Nat × List AVal) := [(1, [rty 39])]
theorem fD {G : Glo} (hGL : ab G errTy) (bl : Nat) (e : Int) {ty : TypeId} {a : AVal} (hs : ae Tryz.prog G 109 [.iface ty (ii a), tgtA bl, tgtV bl, rty 33] [.cells bl (some 33) [.int .i64 0]] (fun r H => r = .ret (.bool true) ∧ H = [.cells bl (some 33) [.int .i64 e]])) :
  ae Tryz.prog G 69 [.iface ty a, tgtA bl] [.cells bl (some 33) [.int .i64 0]] (fun r H => r = .ret (.bool true) ∧ H = [.cells bl (some 33) [.int .i64 e]]) := by
 refine fn_x Tryz.func69 Tryz.call69 rfl rfl rfl rfl hGL ?_
 intro C hC
 have h1 := rN (G := G) bl
 have h2 := Ah (G := G) (.raw (.pointer (some ⟨bl, 0, none⟩)))
 have h3 := zj (G := G) bl
 have h4 := BL (G := G)
 have h5 := B6 (G := G)
 have h6 := vJ (G := G)
 have h7 := lA (G := G)
 have m1 := BB 129
 have m2 := FQ 129
 have m3 := BB 33
 have m4 := FP 33
 exact xw0
theorem fx {G : Glo} : FnIs Tryz.prog G 20 [.raw .nilIface] (.int .i64 0) := by
 have hGL : ab G [] := ad
 refine fn_x Tryz.func20 Tryz.call20 rfl rfl rfl rfl hGL ?_
 intro C hC
 exact xw0
theorem ee {G : Glo} (hGL : ab G errTy) (e : Int) : FnIs Tryz.prog G 20 [errA e] (.int .i64 e) := by
 refine fn_x Tryz.func20 Tryz.call20 rfl rfl rfl rfl hGL ?_
 intro C hC
 repeat' (first | (conv => whnf); first | refine .w ?_ | refine .v ?_ | refine sc_c ?_ ?_ <;> (intro hb; try exact dd hb) | apply ah | apply aq | (apply sc_i <;> intro hb) | (apply bx_i; intro hbd) | (apply ak; first | exact fD hGL _ e (fa _ e 0)) | (apply ap (i := 0) rfl; first | exact fD hGL _ e (fa _ e 0)) | (apply ab_i; intro bl) | (apply as_i; intro va vk vc hva) | (apply av_i; intro v) | (apply ac_i; intro bl cap hcap) | apply bo_l | (apply nx_i <;> intro hnx) | exact rt_w | apply dw_q mixed hC hGL (by kernel_rfl) | (apply cq; assumption; (first | exact fD hGL _ e (fa _ e 0)); exact rfl))
 all_goals try conv => whnf
theorem gj {G : Glo} (hGL : ab G errTy) (e p : Int) : FnIs Tryz.prog G 20 [atA e p] (.int .i64 e) := by
 refine fn_x Tryz.func20 Tryz.call20 rfl rfl rfl rfl hGL ?_
 intro C hC
 repeat' (first | (conv => whnf); first | refine .w ?_ | refine .v ?_ | refine sc_c ?_ ?_ <;> (intro hb; try exact dd hb) | apply ah | apply aq | (apply sc_i <;> intro hb) | (apply bx_i; intro hbd) | (apply ak; first | exact fD hGL _ e (g7 _ e p 0)) | (apply ap (i := 0) rfl; first | exact fD hGL _ e (g7 _ e p 0)) | (apply ab_i; intro bl) | (apply as_i; intro va vk vc hva) | (apply av_i; intro v) | (apply ac_i; intro bl cap hcap) | apply bo_l | (apply nx_i <;> intro hnx) | exact rt_w | apply dw_q mixed hC hGL (by kernel_rfl) | (apply cq; assumption; (first | exact fD hGL _ e (g7 _ e p 0)); exact rfl))
 all_goals try conv => whnf
inductive Err
 | none
 | errno (e : Int)
 | at (e p : Int)
def Err.A : Err → AVal
 | .none => .raw .nilIface
 | .errno e => errA e
 | .at e p => atA e p
def Err.e : Err → Int
 | .none => 0
 | .errno e => e
 | .at e _ => e
def Err.p : Err → Int
 | .none => -1
 | .errno _ => -1
 | .at _ p => p
theorem CX {G : Glo} (hGL : ab G errTy) (x : Err) : FnIs Tryz.prog G 20 [x.A] (.int .i64 x.e) := by
 cases x with
 | none => exact fx
 | errno e => exact ee hGL e
 | «at» e p => exact gj hGL e p
theorem mo {G : Glo} : FnIs Tryz.prog G 21 [.raw .nilIface] (.tuple [.int .i64 0, .int .i64 (-1)]) := by
 have hGL : ab G [] := ad
 refine fn_x Tryz.func21 Tryz.call21 rfl rfl rfl rfl hGL ?_
 intro C hC
 repeat' (first | (conv => whnf); first | refine .w ?_ | refine .v ?_ | refine sc_c ?_ ?_ <;> (intro hb; try exact dd hb) | apply ah | apply aq | (apply sc_i <;> intro hb) | (apply bx_i; intro hbd) | (apply ak; first | exact fx) | (apply ap (i := 0) rfl; first | exact fx) | (apply ab_i; intro bl) | (apply as_i; intro va vk vc hva) | (apply av_i; intro v) | (apply ac_i; intro bl cap hcap) | apply bo_l | (apply nx_i <;> intro hnx) | exact rt_w | apply dw_q mixed hC hGL (by kernel_rfl) | (apply cq; assumption; (first | exact fx); exact rfl))
 all_goals try conv => whnf
 refine rds hC hGL 1 ?_
 exact xw0
theorem ky {G : Glo} (hGL : ab G errTy) (e : Int) : FnIs Tryz.prog G 21 [errA e] (.tuple [.int .i64 e, .int .i64 (-1)]) := by
 refine fn_x Tryz.func21 Tryz.call21 rfl rfl rfl rfl hGL ?_
 intro C hC
 have i1 := n5
 repeat' (first | (conv => whnf); first | refine .w ?_ | refine .v ?_ | refine sc_c ?_ ?_ <;> (intro hb; try exact dd hb) | apply ah | apply aq | (apply sc_i <;> intro hb) | (apply bx_i; intro hbd) | (apply ak; first | exact ee hGL e) | (apply ap (i := 0) rfl; first | exact ee hGL e) | (apply ab_i; intro bl) | (apply as_i; intro va vk vc hva) | (apply av_i; intro v) | (apply ac_i; intro bl cap hcap) | apply bo_l | (apply nx_i <;> intro hnx) | exact rt_w | apply dw_q mixed hC hGL (by kernel_rfl) | (apply cq; assumption; (first | exact ee hGL e); exact rfl))
 all_goals try conv => whnf
 refine rds hC hGL 1 ?_
 exact xw0
theorem nx {G : Glo} (hGL : ab G errTy) (e p : Int) : FnIs Tryz.prog G 21 [atA e p] (.tuple [.int .i64 e, .int .i64 p]) := by
 refine fn_x Tryz.func21 Tryz.call21 rfl rfl rfl rfl hGL ?_
 intro C hC
 repeat' (first | (conv => whnf); first | refine .w ?_ | refine .v ?_ | refine sc_c ?_ ?_ <;> (intro hb; try exact dd hb) | apply ah | apply aq | (apply sc_i <;> intro hb) | (apply bx_i; intro hbd) | (apply ak; first | exact gj hGL e p) | (apply ap (i := 0) rfl; first | exact gj hGL e p) | (apply ab_i; intro bl) | (apply as_i; intro va vk vc hva) | (apply av_i; intro v) | (apply ac_i; intro bl cap hcap) | apply bo_l | (apply nx_i <;> intro hnx) | exact rt_w | apply dw_q mixed hC hGL (by kernel_rfl) | (apply cq; assumption; (first | exact gj hGL e p); exact rfl))
 all_goals try conv => whnf
 refine rds hC hGL 1 ?_
 exact xw0
theorem sG {G : Glo} (hGL : ab G errTy) (x : Err) : FnIs Tryz.prog G 21 [x.A] (.tuple [.int .i64 x.e, .int .i64 x.p]) := by
 cases x with
 | none => exact mo
 | errno e => exact ky hGL e
 | «at» e p => exact nx hGL e p
theorem vG {G : Glo} (hGL : ab G errTy) (x : Err) (e p : Int) : FnIs Tryz.prog G 6 [x.A, .agg [.int .i64 e, .int .i64 p]] (.bool (eqB x.e e && eqB x.p p)) := by
 have hP := sG hGL x
 cases x
 all_goals (
  refine fn_x Tryz.func6 Tryz.call6 rfl rfl rfl rfl hGL ?_
  intro C hC
  repeat' (first | (conv => whnf); first | refine .w ?_ | refine .v ?_ | refine sc_c ?_ ?_ <;> (intro hb; try exact dd hb) | apply ah | apply aq | (apply sc_i <;> intro hb) | (apply bx_i; intro hbd) | (apply ak; first | exact hP) | (apply ap (i := 0) rfl; first | exact hP) | (apply ab_i; intro bl) | (apply as_i; intro va vk vc hva) | (apply av_i; intro v) | (apply ac_i; intro bl cap hcap) | apply bo_l | (apply nx_i <;> intro hnx) | exact rt_w | apply dw_q mixed hC hGL (by kernel_rfl) | (apply cq; assumption; (first | exact hP); exact rfl))
  all_goals try conv => whnf
  all_goals (apply ar; refine congrArg AVal.bool ?_; first | (rw [eV.2 hb, Bool.true_and]; done) | (rw [oe.2 hb]; rfl) | (rw [eV.2 hb, Bool.true_and]; rfl)))
end
section
open Go
theorem aW {s : List UInt8} {j : Nat} (h : j < s.length) : aa s j = s[j].toNat := by
 simp [aa, List.getD, h]
theorem cg {s : List UInt8} {n j : Nat} (h : j < n) : aa (s.take n) j = aa s j := by
 unfold aa
 simp [List.getD, List.getElem?_take, h]
attribute [local irreducible] AWp AOps aa ax OrOk ab ae
theorem nr {G : Glo} (e : Int) : FnIs Tryz.prog G 9 [.int .i64 e] (.agg [.int .i64 e, .int .i64 (-1)]) := by
 have hGL : ab G [] := ad
 refine fn_x Tryz.func9 Tryz.call9 rfl rfl rfl rfl hGL ?_
 intro C hC
 repeat' (first | (conv => whnf); first | refine .w ?_ | refine .v ?_ | refine sc_c ?_ ?_ <;> (intro hb; try exact dd hb) | apply ah | apply aq | (apply sc_i <;> intro hb) | (apply bx_i; intro hbd) | (apply ak; first | fail) | (apply ap (i := 0) rfl; first | fail) | (apply ab_i; intro bl) | (apply as_i; intro va vk vc hva) | (apply av_i; intro v) | (apply ac_i; intro bl cap hcap) | apply bo_l | (apply nx_i <;> intro hnx) | exact rt_w | apply dw_q mixed hC hGL (by kernel_rfl) | (apply cq; assumption; (first | fail); exact rfl))
 all_goals try conv => whnf
theorem fK {G : Glo} : FnIs Tryz.prog G 26 [] (.agg [.int .i64 0, .int .i64 (-1)]) := by
 have hGL : ab G [] := ad
 refine fn_x Tryz.func26 Tryz.call26 rfl rfl rfl rfl hGL ?_
 intro C hC
 repeat' (first | (conv => whnf); first | refine .w ?_ | refine .v ?_ | refine sc_c ?_ ?_ <;> (intro hb; try exact dd hb) | apply ah | apply aq | (apply sc_i <;> intro hb) | (apply bx_i; intro hbd) | (apply ak; first | fail) | (apply ap (i := 0) rfl; first | fail) | (apply ab_i; intro bl) | (apply as_i; intro va vk vc hva) | (apply av_i; intro v) | (apply ac_i; intro bl cap hcap) | apply bo_l | (apply nx_i <;> intro hnx) | exact rt_w | apply dw_q mixed hC hGL (by kernel_rfl) | (apply cq; assumption; (first | fail); exact rfl))
 all_goals try conv => whnf
theorem y8 {G : Glo} (hU2 : ab G errTy) (x : Err) : FnIs Tryz.prog G 6 [x.A, .agg [.int .i64 x.e, .int .i64 x.p]] (.bool true) := by
 have := vG hU2 x x.e x.p
 rwa [eV.2 rfl, eV.2 rfl] at this
end
end Go.Proofs.YtkelbglfhigmiaaGreatDoor
