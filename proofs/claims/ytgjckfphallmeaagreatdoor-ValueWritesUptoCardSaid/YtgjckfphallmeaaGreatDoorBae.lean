/- Parts of the proof of valueWrites_card: Nm, Shelf, Zon, Whp, Ext, Namr, Uri, Mx0, Shc, Spl, Spm. -/
import Derived.Shelf.Strings.Builder1
import Derived.Shelf.Strings.Builder2
import Derived.Shelf.Strings.OnBuilder
import Derived.Shelf.Small.Utf8
import Derived.Shelf.Small.Strs
import Derived.Shelf.Utf8.RuneCount
import Derived.Shelf.Strconv.Itoa0
import Derived.Shelf.Strconv.Itoa1
import Derived.Shelf.LaysM
import Derived.Shelf.Strconv.Itoa2
import Derived.Shelf.Strconv.Itoa3
import Derived.Shelf.Strconv.Itoa4
import Derived.Shelf.Strings.Search1
import Derived.Shelf.Strings.Search2
import Derived.Shelf.Strings.Search3
import Derived.Shelf.Strings.Count
import Derived.Shelf.Strings.Shaped
import Derived.Shelf.Strings.Prefix
import Derived.Shelf.Strings.Split
import Derived.Shelf.Strings.SplitShaped
import Derived.Shelf.Unicode.Latin
import Derived.Shelf.Unicode.Decode
import Derived.Shelf.Strings.RuneCount
import Derived.Shelf.Strings.Explode
import Derived.Shelf.Unicode.DecodeSlow
import Derived.Shelf.Unicode.DecodeAny
import Derived.Shelf.Unicode.CaseLookup
import Derived.Shelf.Unicode.CaseConvert
import Derived.Shelf.Unicode.CaseTo
import Derived.Shelf.Unicode.CaseLaid
import Derived.Test.YtgjckfphallmeaaGreatDoorProg
import Derived.Lib.ItoaNum
import Derived.Lib.Join
import Derived.Lib.Split
import Derived.Test.YtgjckfphallmeaaGreatDoorBad
namespace Go.Proofs.YtgjckfphallmeaaGreatDoor
open Go
set_option maxRecDepth 20000
set_option maxHeartbeats 4000000
set_option linter.unusedSimpArgs false
set_option linter.unusedVariables false
attribute [local irreducible] AWp AOps byteAt SrcOK OrOk GloAll FnSpec
def letterB (c : Int) : Bool := decide ((97 ≤ c ∧ c ≤ 122) ∨ (65 ≤ c ∧ c ≤ 90) ∨ (48 ≤ c ∧ c ≤ 57) ∨ c = 45)
theorem letterB_t {c : Int} : letterB c = true ↔ ((97 ≤ c ∧ c ≤ 122) ∨ (65 ≤ c ∧ c ≤ 90) ∨ (48 ≤ c ∧ c ≤ 57) ∨ c = 45) := by simp [letterB]
attribute [local irreducible] letterB
theorem name_letter {G : Glo} (c : Int) : FnIs Tryz.prog G 72 [.int .u8 c] (.bool (letterB c)) := by
  have hGL : GloAll G [] := gloAll_nil
  refine fn_x Tryz.func72 Tryz.call72 rfl rfl rfl rfl hGL ?_
  intro C hC
  repeat' (first
    | (conv => whnf); first
      | refine .w ?_ | refine .v ?_ | apply sc_true | apply sc_false
      | (first | apply sc_lt | apply sc_nlt | apply sc_eq | apply sc_neq | apply sc_nil | apply sc_nnil | apply sc_seq | apply sc_nseq) <;> (intro hb; try exact dd hb)
      | apply sc_not | apply sc_or | (apply sc_i <;> intro hb)
      | (apply bx_i; intro hbd) | (apply gt_i; assumption; exact rfl)
      | (apply cx_is; first | fail) | (apply cx_do (i := 0) rfl; first | fail)
      | (apply ab_i; intro bl) | (apply as_i; intro va vk vc hva) | (apply av_i; intro v) | (apply ac_i; intro bl cap hcap)
      | apply bo_l | (apply nx_i <;> intro hnx) | (apply Ia.hit; assumption) | (apply Ia.miss; assumption)
      | (apply rt_is; exact rfl) | exact rt_w | (apply iv; assumption)
      | apply dw_q mixed hC hGL (by kernel_rfl) | (apply cq; assumption; (first | fail); exact rfl))
  all_goals (try conv => whnf)
  all_goals (apply rt_is; refine congrArg AVal.bool ?_; rw [Bool.eq_iff_iff]; simp only [letterB_t, eqB_t, true_iff]; omega)
/-- All bytes are such. -/
def allB (f : Int → Bool) (s : List UInt8) : Bool := s.all fun c => f (c.toNat : Int)
theorem allB_t {f : Int → Bool} {s : List UInt8} : allB f s = true ↔ ∀ j, j < s.length → f (byteAt s j) = true := by
  unfold allB
  rw [List.all_eq_true]
  constructor
  · intro h j hj
    have := h s[j] (List.getElem_mem hj)
    simpa [byteAt, List.getD, hj] using this
  · intro h c hc
    obtain ⟨j, hj, rfl⟩ := List.getElem_of_mem hc
    simpa [byteAt, List.getD, hj] using h j hj
theorem allB_f {f : Int → Bool} {s : List UInt8} {j : Nat} (hj : j < s.length) (h : f (byteAt s j) = false) : allB f s = false := by
  rw [Bool.eq_false_iff]
  intro h2
  rw [allB_t.1 h2 j hj] at h
  cases h
theorem below_succ {p : Nat → Prop} {i : Nat} (h : ∀ j, j < i → p j) (k : p i) : ∀ j, j < i + 1 → p j := by
  intro j hj
  by_cases e : j = i
  · subst e; exact k
  · exact h j (by omega)
def isS (s : List UInt8) : Bool := allB letterB s && (decide (s.length ≠ 0) && decide (s.length ≤ 40))
theorem name_Is {G : Glo} (s : List UInt8) (hl : s.length ≤ 9223372036854775807) : FnIs Tryz.prog G 54 [.str s] (.bool (isS s)) := by
  have hGL : GloAll G [] := gloAll_nil
  refine fn_x Tryz.func54 Tryz.call54 rfl rfl rfl rfl hGL ?_
  intro C hC
  repeat' (first
    | (conv => whnf); first
      | refine .w ?_ | refine .v ?_ | apply sc_true | apply sc_false
      | (first | apply sc_lt | apply sc_nlt | apply sc_eq | apply sc_neq | apply sc_nil | apply sc_nnil | apply sc_seq | apply sc_nseq) <;> (intro hb; try exact dd hb)
      | apply sc_not | apply sc_or | (apply sc_i <;> intro hb)
      | (apply bx_i; intro hbd) | (apply gt_i; assumption; exact rfl)
      | (apply cx_is; first | fail) | (apply cx_do (i := 0) rfl; first | fail)
      | (apply ab_i; intro bl) | (apply as_i; intro va vk vc hva) | (apply av_i; intro v) | (apply ac_i; intro bl cap hcap)
      | apply bo_l | (apply nx_i <;> intro hnx) | (apply Ia.hit; assumption) | (apply Ia.miss; assumption)
      | (apply rt_is; exact rfl) | exact rt_w | (apply iv; assumption)
      | apply dw_q mixed hC hGL (by kernel_rfl) | (apply cq; assumption; (first | fail); exact rfl))
  all_goals (try conv => whnf)
  refine lp hC hGL (fun (i : Nat) => [(0, .str s), (5, .int .i64 s.length), (6, .int .i64 i)]) (fun _ => []) (fun i => i ≤ s.length ∧ ∀ j, j < i → letterB (byteAt s j) = true) (fun i => s.length - i) 0 ?_ env_w rfl ?_
  · exact ⟨Nat.zero_le _, by intro j hj; omega⟩
  rintro i ⟨hi, hb0⟩
  repeat' (first
    | (conv => whnf); first
      | refine .w ?_ | refine .v ?_ | apply sc_true | apply sc_false
      | (first | apply sc_lt | apply sc_nlt | apply sc_eq | apply sc_neq | apply sc_nil | apply sc_nnil | apply sc_seq | apply sc_nseq) <;> (intro hb; try exact dd hb)
      | apply sc_not | apply sc_or | (apply sc_i <;> intro hb)
      | (apply bx_i; intro hbd) | (apply gt_i; assumption; exact rfl)
      | (apply cx_is; first | exact name_letter _) | (apply cx_do (i := 0) rfl; first | exact name_letter _)
      | (apply ab_i; intro bl) | (apply as_i; intro va vk vc hva) | (apply av_i; intro v) | (apply ac_i; intro bl cap hcap)
      | apply bo_l | (apply nx_i <;> intro hnx) | (apply Ia.hit; assumption) | (apply Ia.miss; assumption)
      | (apply rt_is; exact rfl) | exact rt_w | (apply iv; assumption)
      | apply dw_q mixed hC hGL (by kernel_rfl) | (apply cq; assumption; (first | exact name_letter _); exact rfl))
  all_goals (try conv => whnf)
  · refine nxt (i + 1) ?_ ?_ env_w rfl
    · exact ⟨by omega, below_succ hb0 hb⟩
    · omega
  · apply rt_is
    rw [isS, allB_f (by omega) hb]
    rfl
  all_goals (
    apply rt_is
    refine congrArg AVal.bool ?_
    have ha : allB letterB s = true := allB_t.2 fun j hj => hb0 j (by omega)
    have e : isS s = true ↔ (s.length ≠ 0 ∧ s.length ≤ 40) := by simp only [isS, ha, Bool.true_and, Bool.and_eq_true, decide_eq_true_eq]
    rw [Bool.eq_iff_iff, e]
    try simp only [Bool.not_eq_true', ltB_f, reduceCtorEq, false_iff]
    omega)
theorem ref_within {G : Glo} (m low high : Int) : FnIs Tryz.prog G 32 [.int .i64 m, .int .i64 low, .int .i64 high] (.bool (decide (low ≤ m) && decide (m ≤ high))) := by
  have hGL : GloAll G [] := gloAll_nil
  refine fn_x Tryz.func32 Tryz.call32 rfl rfl rfl rfl hGL ?_
  intro C hC
  repeat' (first
    | (conv => whnf); first
      | refine .w ?_ | refine .v ?_ | apply sc_true | apply sc_false
      | (first | apply sc_lt | apply sc_nlt | apply sc_eq | apply sc_neq | apply sc_nil | apply sc_nnil | apply sc_seq | apply sc_nseq) <;> (intro hb; try exact dd hb)
      | apply sc_not | apply sc_or | (apply sc_i <;> intro hb)
      | (apply bx_i; intro hbd) | (apply gt_i; assumption; exact rfl)
      | (apply cx_is; first | fail) | (apply cx_do (i := 0) rfl; first | fail)
      | (apply ab_i; intro bl) | (apply as_i; intro va vk vc hva) | (apply av_i; intro v) | (apply ac_i; intro bl cap hcap)
      | apply bo_l | (apply nx_i <;> intro hnx) | (apply Ia.hit; assumption) | (apply Ia.miss; assumption)
      | (apply rt_is; exact rfl) | exact rt_w | (apply iv; assumption)
      | apply dw_q mixed hC hGL (by kernel_rfl) | (apply cq; assumption; (first | fail); exact rfl))
  all_goals (try conv => whnf)
  all_goals (apply rt_is; refine congrArg AVal.bool ?_; rw [Bool.eq_iff_iff]; simp [ltB_f, Bool.not_eq_true'] <;> omega)
end Go.Proofs.YtgjckfphallmeaaGreatDoor
namespace Go.Proofs
open Go.Shelf
def Tryz.lays159_ren : Go.Shelf.Ren := ⟨fun | 159 => 76 | 165 => 64 | 166 => 65 | 167 => 91 | 169 => 66 | 230 => 92 | 204 => 93 | 240 => 78 | 241 => 79 | 197 => 74 | 118 => 115 | 168 => 116 | 270 => 117 | 262 => 118 | 276 => 96 | 277 => 97 | 260 => 89 | 242 => 133 | 313 => 134 | 278 => 147 | 274 => 148 | 275 => 149 | n => n, fun | 9 => 9 | 4 => 4 | 3 => 3 | 5 => 5 | 72 => 95 | 0 => 0 | 76 => 97 | 75 => 32 | 107 => 147 | 70 => 93 | 20 => 20 | 37 => 88 | 127 => 129 | 21 => 21 | 105 => 125 | 164 => 133 | 162 => 215 | 203 => 213 | 119 => 165 | 46 => 124 | 139 => 187 | 138 => 186 | 51 => 107 | 160 => 226 | 208 => 237 | 206 => 235 | 80 => 99 | n => n, fun | 13 => 6 | 3 => 3 | 4 => 4 | n => n⟩
theorem Tryz.lays159 : Go.Proofs.Lays.n159 Tryz.prog Tryz.lays159_ren := {
  mixed := by kernel_rfl
  f118 := Tryz.func115.trans (congrArg some (by kernel_rfl))
  f159 := Tryz.func76.trans (congrArg some (by kernel_rfl))
  f165 := Tryz.func64.trans (congrArg some (by kernel_rfl))
  f166 := Tryz.func65.trans (congrArg some (by kernel_rfl))
  f167 := Tryz.func91.trans (congrArg some (by kernel_rfl))
  f168 := Tryz.func116.trans (congrArg some (by kernel_rfl))
  f169 := Tryz.func66.trans (congrArg some (by kernel_rfl))
  f197 := Tryz.func74.trans (congrArg some (by kernel_rfl))
  f204 := Tryz.func93.trans (congrArg some (by kernel_rfl))
  f230 := Tryz.func92.trans (congrArg some (by kernel_rfl))
  f240 := Tryz.func78.trans (congrArg some (by kernel_rfl))
  f241 := Tryz.func79.trans (congrArg some (by kernel_rfl))
  f242 := Tryz.func133.trans (congrArg some (by kernel_rfl))
  f260 := Tryz.func89.trans (congrArg some (by kernel_rfl))
  f262 := Tryz.func118.trans (congrArg some (by kernel_rfl))
  f270 := Tryz.func117.trans (congrArg some (by kernel_rfl))
  f274 := Tryz.func148.trans (congrArg some (by kernel_rfl))
  f275 := Tryz.func149.trans (congrArg some (by kernel_rfl))
  f276 := Tryz.func96.trans (congrArg some (by kernel_rfl))
  f277 := Tryz.func97.trans (congrArg some (by kernel_rfl))
  f278 := Tryz.func147.trans (congrArg some (by kernel_rfl))
  f313 := Tryz.func134.trans (congrArg some (by kernel_rfl))
  t0 := Tryz.underlying0
  a0 := Tryz.isAgg0
  z0 := Tryz.sizeOf0
  v0 := Tryz.zeroValue0
  t3 := Tryz.underlying3
  a3 := Tryz.isAgg3
  z3 := Tryz.sizeOf3
  v3 := Tryz.zeroValue3
  t4 := Tryz.underlying4
  a4 := Tryz.isAgg4
  z4 := Tryz.sizeOf4
  v4 := Tryz.zeroValue4
  t5 := Tryz.underlying5
  a5 := Tryz.isAgg5
  z5 := Tryz.sizeOf5
  v5 := Tryz.zeroValue5
  t9 := Tryz.underlying9
  a9 := Tryz.isAgg9
  z9 := Tryz.sizeOf9
  v9 := Tryz.zeroValue9
  t20 := Tryz.underlying20
  a20 := Tryz.isAgg20
  z20 := Tryz.sizeOf20
  v20 := Tryz.zeroValue20
  t21 := Tryz.underlying21
  a21 := Tryz.isAgg21
  z21 := Tryz.sizeOf21
  v21 := Tryz.zeroValue21
  t37 := Tryz.underlying88
  a37 := Tryz.isAgg88
  z37 := Tryz.sizeOf88
  v37 := Tryz.zeroValue88
  t46 := Tryz.underlying124
  a46 := Tryz.isAgg124
  z46 := Tryz.sizeOf124
  v46 := Tryz.zeroValue124
  t51 := Tryz.underlying107
  a51 := Tryz.isAgg107
  z51 := Tryz.sizeOf107
  v51 := Tryz.zeroValue107
  t70 := Tryz.underlying93
  a70 := Tryz.isAgg93
  z70 := Tryz.sizeOf93
  v70 := Tryz.zeroValue93
  t72 := Tryz.underlying95
  a72 := Tryz.isAgg95
  z72 := Tryz.sizeOf95
  v72 := Tryz.zeroValue95
  t75 := Tryz.underlying32
  a75 := Tryz.isAgg32
  z75 := Tryz.sizeOf32
  v75 := Tryz.zeroValue32
  t76 := Tryz.underlying97
  a76 := Tryz.isAgg97
  z76 := Tryz.sizeOf97
  v76 := Tryz.zeroValue97
  t105 := Tryz.underlying125
  a105 := Tryz.isAgg125
  z105 := Tryz.sizeOf125
  v105 := Tryz.zeroValue125
  t107 := Tryz.underlying147
  a107 := Tryz.isAgg147
  z107 := Tryz.sizeOf147
  v107 := Tryz.zeroValue147
  t119 := Tryz.underlying165
  a119 := Tryz.isAgg165
  z119 := Tryz.sizeOf165
  t127 := Tryz.underlying129
  a127 := Tryz.isAgg129
  z127 := Tryz.sizeOf129
  v127 := Tryz.zeroValue129
  t138 := Tryz.underlying186
  a138 := Tryz.isAgg186
  z138 := Tryz.sizeOf186
  v138 := Tryz.zeroValue186
  t139 := Tryz.underlying187
  a139 := Tryz.isAgg187
  z139 := Tryz.sizeOf187
  v139 := Tryz.zeroValue187
  t160 := Tryz.underlying226
  a160 := Tryz.isAgg226
  z160 := Tryz.sizeOf226
  v160 := Tryz.zeroValue226
  t162 := Tryz.underlying215
  a162 := Tryz.isAgg215
  z162 := Tryz.sizeOf215
  v162 := Tryz.zeroValue215
  t164 := Tryz.underlying133
  a164 := Tryz.isAgg133
  z164 := Tryz.sizeOf133
  v164 := Tryz.zeroValue133
  t203 := Tryz.underlying213
  a203 := Tryz.isAgg213
  z203 := Tryz.sizeOf213
  v203 := Tryz.zeroValue213
  t206 := Tryz.underlying235
  a206 := Tryz.isAgg235
  z206 := Tryz.sizeOf235
  v206 := Tryz.zeroValue235
  t208 := Tryz.underlying237
  a208 := Tryz.isAgg237
  z208 := Tryz.sizeOf237
  v208 := Tryz.zeroValue237
  g3 := by kernel_rfl
  g4 := by kernel_rfl
  g13 := by kernel_rfl }
theorem Tryz.Builder_Extra_159 : Builder.Extra Tryz.prog Tryz.lays159_ren := {
  sizeBuilder := by kernel_rfl
  liesBuilder := by kernel_rfl
  t5 := Tryz.underlying5
  a5 := Tryz.isAgg5
  z5 := Tryz.sizeOf5
  v5 := Tryz.zeroValue5
  infoByte := by kernel_rfl
  cellsByte := by kernel_rfl
  sizeByte := by kernel_rfl
  neB5 := by decide }
open Go.RowKit in
/-- strings.ToLower: "ToLower returns s with all Unicode letters mapped to their lower case.": ON ASCII TEXT OF AT MOST 2^47 BYTES. Below the heap's end the world is as it was: where a letter turns, the call makes a builder and its buffer. (LAID: no walk: one application.) -/
theorem Tryz.strings_ToLower_ascii (s : ByteArray) (w : World) (hs : s.size ≤ 140737488355328) (hascii : ∀ (j : Nat) (b : UInt8), s.data.toList[j]? = some b → b.toNat < 128) :
    Calls Tryz.prog 76 #[.string s] w fun e w' => e = .returned (.string ⟨(Lib.toLowerA s.data.toList).toArray⟩) ∧ Below w.heap.size w w' := Any.strings_ToLower_ascii Tryz.lays159 Tryz.Builder_Extra_159 s w hs hascii
def Tryz.lays156_ren : Go.Shelf.Ren := ⟨fun | 156 => 39 | 165 => 64 | 166 => 65 | 169 => 66 | 240 => 78 | 241 => 79 | 276 => 96 | 277 => 97 | n => n, fun | 31 => 38 | 9 => 9 | 3 => 3 | 4 => 4 | 0 => 0 | 20 => 20 | 72 => 95 | 76 => 97 | 70 => 93 | 37 => 88 | 75 => 32 | 127 => 129 | 164 => 133 | 5 => 5 | 80 => 99 | n => n, fun | n => n⟩
theorem Tryz.lays156 : Go.Proofs.Lays.n156 Tryz.prog Tryz.lays156_ren := {
  mixed := by kernel_rfl
  f156 := Tryz.func39.trans (congrArg some (by kernel_rfl))
  f165 := Tryz.func64.trans (congrArg some (by kernel_rfl))
  f166 := Tryz.func65.trans (congrArg some (by kernel_rfl))
  f169 := Tryz.func66.trans (congrArg some (by kernel_rfl))
  f240 := Tryz.func78.trans (congrArg some (by kernel_rfl))
  f241 := Tryz.func79.trans (congrArg some (by kernel_rfl))
  f276 := Tryz.func96.trans (congrArg some (by kernel_rfl))
  f277 := Tryz.func97.trans (congrArg some (by kernel_rfl))
  t0 := Tryz.underlying0
  a0 := Tryz.isAgg0
  z0 := Tryz.sizeOf0
  v0 := Tryz.zeroValue0
  t3 := Tryz.underlying3
  a3 := Tryz.isAgg3
  z3 := Tryz.sizeOf3
  v3 := Tryz.zeroValue3
  t4 := Tryz.underlying4
  a4 := Tryz.isAgg4
  z4 := Tryz.sizeOf4
  v4 := Tryz.zeroValue4
  t9 := Tryz.underlying9
  a9 := Tryz.isAgg9
  z9 := Tryz.sizeOf9
  v9 := Tryz.zeroValue9
  t20 := Tryz.underlying20
  a20 := Tryz.isAgg20
  z20 := Tryz.sizeOf20
  v20 := Tryz.zeroValue20
  t31 := Tryz.underlying38
  a31 := Tryz.isAgg38
  z31 := Tryz.sizeOf38
  v31 := Tryz.zeroValue38
  t37 := Tryz.underlying88
  a37 := Tryz.isAgg88
  z37 := Tryz.sizeOf88
  v37 := Tryz.zeroValue88
  t70 := Tryz.underlying93
  a70 := Tryz.isAgg93
  z70 := Tryz.sizeOf93
  v70 := Tryz.zeroValue93
  t72 := Tryz.underlying95
  a72 := Tryz.isAgg95
  z72 := Tryz.sizeOf95
  v72 := Tryz.zeroValue95
  t75 := Tryz.underlying32
  a75 := Tryz.isAgg32
  z75 := Tryz.sizeOf32
  v75 := Tryz.zeroValue32
  t76 := Tryz.underlying97
  a76 := Tryz.isAgg97
  z76 := Tryz.sizeOf97
  v76 := Tryz.zeroValue97
  t127 := Tryz.underlying129
  a127 := Tryz.isAgg129
  z127 := Tryz.sizeOf129
  v127 := Tryz.zeroValue129
  t164 := Tryz.underlying133
  a164 := Tryz.isAgg133
  z164 := Tryz.sizeOf133
  v164 := Tryz.zeroValue133 }
theorem Tryz.Builder_Extra_156 : Builder.Extra Tryz.prog Tryz.lays156_ren := {
  sizeBuilder := by kernel_rfl
  liesBuilder := by kernel_rfl
  t5 := Tryz.underlying5
  a5 := Tryz.isAgg5
  z5 := Tryz.sizeOf5
  v5 := Tryz.zeroValue5
  infoByte := by kernel_rfl
  cellsByte := by kernel_rfl
  sizeByte := by kernel_rfl
  neB5 := by decide }
open Go.RowKit in
/-- No element: the empty string; the world is as it was. (Whatever the slice's address and capacity: a nil slice too.) (LAID: no walk: one application.) -/
theorem Tryz.strings_Join_none (a : Option Addr) (c : Nat) (sep : ByteArray) (w : World) :
    Calls Tryz.prog 39 #[.slice a 0 c, .string sep] w fun e w' => e = .returned (.string ⟨#[]⟩) ∧ w' = w := Any.strings_Join_none Tryz.lays156 Tryz.Builder_Extra_156 a c sep w
open Go.RowKit in
/-- strings.Join: "Join concatenates the elements of its first argument to create a single string. The separator string sep is placed between elements in the resulting string.": HOWEVER MANY ELEMENTS. Below the heap's end the world is as it was. (LAID: no walk: one application.) -/
theorem Tryz.strings_Join (bk o c : Nat) (xs : List ByteArray) (sep : ByteArray) (w : World) (hcells : ∀ (j : Nat) x, xs[j]? = some x → w.cell? ⟨bk, o + j, none⟩ = some (.string x)) (hbk : bk < w.heap.size) (hN : xs.length ≤ 140737488355328) (hcap : xs.length ≤ c) (hlen : (Lib.join (xs.map (·.data.toList)) sep.data.toList).length ≤ 140737488355328) :
    Calls Tryz.prog 39 #[.slice (some ⟨bk, o, none⟩) xs.length c, .string sep] w fun e w' => e = .returned (.string ⟨(Lib.join (xs.map (·.data.toList)) sep.data.toList).toArray⟩) ∧ Below w.heap.size w w' := Any.strings_Join Tryz.lays156 Tryz.Builder_Extra_156 bk o c xs sep w hcells hbk hN hcap hlen
def Tryz.laysM173_ren : Go.Shelf.Ren := ⟨fun | 173 => 67 | 246 => 80 | 283 => 98 | 284 => 99 | 285 => 100 | 286 => 101 | 129 => 122 | 317 => 121 | 318 => 123 | 319 => 124 | 320 => 125 | 337 => 135 | 338 => 136 | n => n, fun | 2 => 2 | 3 => 3 | 9 => 9 | 4 => 4 | 171 => 151 | 0 => 0 | 53 => 152 | 37 => 88 | 5 => 5 | 173 => 155 | 212 => 193 | 51 => 107 | 20 => 20 | 213 => 194 | 46 => 124 | 232 => 229 | 233 => 230 | n => n, fun | 17 => 5 | 18 => 7 | 19 => 8 | n => n⟩
theorem Tryz.laysM173 : Go.Proofs.LaysM.n173 Tryz.prog Tryz.laysM173_ren := {
  mixed := by kernel_rfl
  f129 := Tryz.func122.trans (congrArg some (by kernel_rfl))
  f173 := Tryz.func67.trans (congrArg some (by kernel_rfl))
  f246 := Tryz.func80.trans (congrArg some (by kernel_rfl))
  f283 := Tryz.func98.trans (congrArg some (by kernel_rfl))
  f284 := Tryz.func99.trans (congrArg some (by kernel_rfl))
  f285 := Tryz.func100.trans (congrArg some (by kernel_rfl))
  f286 := Tryz.func101.trans (congrArg some (by kernel_rfl))
  f317 := Tryz.func121.trans (congrArg some (by kernel_rfl))
  f318 := Tryz.func123.trans (congrArg some (by kernel_rfl))
  f319 := Tryz.func124.trans (congrArg some (by kernel_rfl))
  f320 := Tryz.func125.trans (congrArg some (by kernel_rfl))
  f337 := Tryz.func135.trans (congrArg some (by kernel_rfl))
  f338 := Tryz.func136.trans (congrArg some (by kernel_rfl))
  t0 := Tryz.underlying0
  a0 := Tryz.isAgg0
  z0 := Tryz.sizeOf0
  v0 := Tryz.zeroValue0
  t2 := Tryz.underlying2
  a2 := Tryz.isAgg2
  z2 := Tryz.sizeOf2
  v2 := Tryz.zeroValue2
  t3 := Tryz.underlying3
  a3 := Tryz.isAgg3
  z3 := Tryz.sizeOf3
  v3 := Tryz.zeroValue3
  t4 := Tryz.underlying4
  a4 := Tryz.isAgg4
  z4 := Tryz.sizeOf4
  v4 := Tryz.zeroValue4
  t5 := Tryz.underlying5
  a5 := Tryz.isAgg5
  z5 := Tryz.sizeOf5
  v5 := Tryz.zeroValue5
  t9 := Tryz.underlying9
  a9 := Tryz.isAgg9
  z9 := Tryz.sizeOf9
  v9 := Tryz.zeroValue9
  t20 := Tryz.underlying20
  a20 := Tryz.isAgg20
  z20 := Tryz.sizeOf20
  v20 := Tryz.zeroValue20
  t37 := Tryz.underlying88
  a37 := Tryz.isAgg88
  z37 := Tryz.sizeOf88
  v37 := Tryz.zeroValue88
  t46 := Tryz.underlying124
  a46 := Tryz.isAgg124
  z46 := Tryz.sizeOf124
  v46 := Tryz.zeroValue124
  t51 := Tryz.underlying107
  a51 := Tryz.isAgg107
  z51 := Tryz.sizeOf107
  v51 := Tryz.zeroValue107
  t53 := Tryz.underlying152
  a53 := Tryz.isAgg152
  z53 := Tryz.sizeOf152
  v53 := Tryz.zeroValue152
  t171 := Tryz.underlying151
  a171 := Tryz.isAgg151
  z171 := Tryz.sizeOf151
  v171 := Tryz.zeroValue151
  t173 := Tryz.underlying155
  a173 := Tryz.isAgg155
  z173 := Tryz.sizeOf155
  v173 := Tryz.zeroValue155
  t212 := Tryz.underlying193
  a212 := Tryz.isAgg193
  z212 := Tryz.sizeOf193
  v212 := Tryz.zeroValue193
  t213 := Tryz.underlying194
  a213 := Tryz.isAgg194
  z213 := Tryz.sizeOf194
  t232 := Tryz.underlying229
  a232 := Tryz.isAgg229
  z232 := Tryz.sizeOf229
  v232 := Tryz.zeroValue229
  t233 := Tryz.underlying230
  a233 := Tryz.isAgg230
  z233 := Tryz.sizeOf230
  v233 := Tryz.zeroValue230
  g17 := by kernel_rfl
  g18 := by kernel_rfl
  g19 := by kernel_rfl
  i0 := by kernel_rfl
  i2 := by kernel_rfl
  i3 := by kernel_rfl
  i4 := by kernel_rfl
  i5 := by kernel_rfl
  i9 := by kernel_rfl
  i20 := by kernel_rfl
  i37 := by kernel_rfl
  i46 := by kernel_rfl
  i51 := by kernel_rfl
  i53 := by kernel_rfl
  i171 := by kernel_rfl
  i173 := by kernel_rfl
  i212 := by kernel_rfl
  i232 := by kernel_rfl
  i233 := by kernel_rfl
  m17 := by kernel_rfl
  m18 := by kernel_rfl
  m19 := by kernel_rfl }
open Go.RowKit Go.Sort Go.Lib in
/-- strconv.FormatInt: "FormatInt returns the string representation of i in the given base": AT BASE 10: i's decimal numeral, for every int64. (LAID: no walk: one application.) -/
theorem Tryz.strconv_FormatInt_10 (n : Int) (h0 : -9223372036854775808 ≤ n) (h1 : n ≤ 9223372036854775807) (w : World) (htab : Lib.TabIs Tryz.prog w "internal/strconv.uint64pow10" .u64 Lib.pow10Tab) :
    Calls Tryz.prog 67 #[.int .i64 n, .int .i64 10] w fun e w' => e = .returned (.string ⟨(Lib.itoa n).toArray⟩) ∧ ∃ k os, w' = grow (w.drewN k) os := Any.strconv_FormatInt_10 Tryz.laysM173 n h0 h1 w htab
def Tryz.lays173_ren : Go.Shelf.Ren := ⟨fun | 173 => 67 | 246 => 80 | 283 => 98 | 284 => 99 | 285 => 100 | 286 => 101 | 129 => 122 | 317 => 121 | 318 => 123 | 319 => 124 | 320 => 125 | 337 => 135 | 338 => 136 | n => n, fun | 2 => 2 | 3 => 3 | 9 => 9 | 4 => 4 | 171 => 151 | 0 => 0 | 53 => 152 | 37 => 88 | 5 => 5 | 173 => 155 | 212 => 193 | 51 => 107 | 20 => 20 | 213 => 194 | 46 => 124 | 232 => 229 | 233 => 230 | n => n, fun | 17 => 5 | 18 => 7 | 19 => 8 | n => n⟩
theorem Tryz.lays173 : Go.Proofs.Lays.n173 Tryz.prog Tryz.lays173_ren := {
  mixed := by kernel_rfl
  f129 := Tryz.func122.trans (congrArg some (by kernel_rfl))
  f173 := Tryz.func67.trans (congrArg some (by kernel_rfl))
  f246 := Tryz.func80.trans (congrArg some (by kernel_rfl))
  f283 := Tryz.func98.trans (congrArg some (by kernel_rfl))
  f284 := Tryz.func99.trans (congrArg some (by kernel_rfl))
  f285 := Tryz.func100.trans (congrArg some (by kernel_rfl))
  f286 := Tryz.func101.trans (congrArg some (by kernel_rfl))
  f317 := Tryz.func121.trans (congrArg some (by kernel_rfl))
  f318 := Tryz.func123.trans (congrArg some (by kernel_rfl))
  f319 := Tryz.func124.trans (congrArg some (by kernel_rfl))
  f320 := Tryz.func125.trans (congrArg some (by kernel_rfl))
  f337 := Tryz.func135.trans (congrArg some (by kernel_rfl))
  f338 := Tryz.func136.trans (congrArg some (by kernel_rfl))
  t0 := Tryz.underlying0
  a0 := Tryz.isAgg0
  z0 := Tryz.sizeOf0
  v0 := Tryz.zeroValue0
  t2 := Tryz.underlying2
  a2 := Tryz.isAgg2
  z2 := Tryz.sizeOf2
  v2 := Tryz.zeroValue2
  t3 := Tryz.underlying3
  a3 := Tryz.isAgg3
  z3 := Tryz.sizeOf3
  v3 := Tryz.zeroValue3
  t4 := Tryz.underlying4
  a4 := Tryz.isAgg4
  z4 := Tryz.sizeOf4
  v4 := Tryz.zeroValue4
  t5 := Tryz.underlying5
  a5 := Tryz.isAgg5
  z5 := Tryz.sizeOf5
  v5 := Tryz.zeroValue5
  t9 := Tryz.underlying9
  a9 := Tryz.isAgg9
  z9 := Tryz.sizeOf9
  v9 := Tryz.zeroValue9
  t20 := Tryz.underlying20
  a20 := Tryz.isAgg20
  z20 := Tryz.sizeOf20
  v20 := Tryz.zeroValue20
  t37 := Tryz.underlying88
  a37 := Tryz.isAgg88
  z37 := Tryz.sizeOf88
  v37 := Tryz.zeroValue88
  t46 := Tryz.underlying124
  a46 := Tryz.isAgg124
  z46 := Tryz.sizeOf124
  v46 := Tryz.zeroValue124
  t51 := Tryz.underlying107
  a51 := Tryz.isAgg107
  z51 := Tryz.sizeOf107
  v51 := Tryz.zeroValue107
  t53 := Tryz.underlying152
  a53 := Tryz.isAgg152
  z53 := Tryz.sizeOf152
  v53 := Tryz.zeroValue152
  t171 := Tryz.underlying151
  a171 := Tryz.isAgg151
  z171 := Tryz.sizeOf151
  v171 := Tryz.zeroValue151
  t173 := Tryz.underlying155
  a173 := Tryz.isAgg155
  z173 := Tryz.sizeOf155
  v173 := Tryz.zeroValue155
  t212 := Tryz.underlying193
  a212 := Tryz.isAgg193
  z212 := Tryz.sizeOf193
  v212 := Tryz.zeroValue193
  t213 := Tryz.underlying194
  a213 := Tryz.isAgg194
  z213 := Tryz.sizeOf194
  t232 := Tryz.underlying229
  a232 := Tryz.isAgg229
  z232 := Tryz.sizeOf229
  v232 := Tryz.zeroValue229
  t233 := Tryz.underlying230
  a233 := Tryz.isAgg230
  z233 := Tryz.sizeOf230
  v233 := Tryz.zeroValue230
  g17 := by kernel_rfl
  g18 := by kernel_rfl
  g19 := by kernel_rfl }
open Go.RowKit Go.Sort Go.Lib in
/-- THE ROAD WITHOUT THE TABLE: 0 <= i < 100. (LAID: no walk: one application.) -/
theorem Tryz.strconv_FormatInt_10_small (i : Nat) (hi : i < 100) (w : World) :
    Calls Tryz.prog 67 #[.int .i64 i, .int .i64 10] w fun e w' => e = .returned (.string ⟨(Lib.decDigits i).toArray⟩) ∧ w' = w := Any.strconv_FormatInt_10_small Tryz.lays173 i hi w
def Tryz.lays144_ren : Go.Shelf.Ren := ⟨fun | 144 => 51 | 143 => 71 | 219 => 88 | 217 => 90 | 225 => 111 | 224 => 112 | 267 => 113 | 266 => 114 | 314 => 132 | n => n, fun | 9 => 9 | 4 => 4 | 3 => 3 | 5 => 5 | 46 => 124 | 146 => 210 | 51 => 107 | n => n, fun | 1 => 2 | n => n⟩
theorem Tryz.lays144 : Go.Proofs.Lays.n144 Tryz.prog Tryz.lays144_ren := {
  mixed := by kernel_rfl
  f143 := Tryz.func71.trans (congrArg some (by kernel_rfl))
  f144 := Tryz.func51.trans (congrArg some (by kernel_rfl))
  f217 := Tryz.func90.trans (congrArg some (by kernel_rfl))
  f219 := Tryz.func88.trans (congrArg some (by kernel_rfl))
  f224 := Tryz.func112.trans (congrArg some (by kernel_rfl))
  f225 := Tryz.func111.trans (congrArg some (by kernel_rfl))
  f266 := Tryz.func114.trans (congrArg some (by kernel_rfl))
  f267 := Tryz.func113.trans (congrArg some (by kernel_rfl))
  f314 := Tryz.func132.trans (congrArg some (by kernel_rfl))
  t3 := Tryz.underlying3
  a3 := Tryz.isAgg3
  z3 := Tryz.sizeOf3
  v3 := Tryz.zeroValue3
  t4 := Tryz.underlying4
  a4 := Tryz.isAgg4
  z4 := Tryz.sizeOf4
  v4 := Tryz.zeroValue4
  t5 := Tryz.underlying5
  a5 := Tryz.isAgg5
  z5 := Tryz.sizeOf5
  v5 := Tryz.zeroValue5
  t9 := Tryz.underlying9
  a9 := Tryz.isAgg9
  z9 := Tryz.sizeOf9
  v9 := Tryz.zeroValue9
  t46 := Tryz.underlying124
  a46 := Tryz.isAgg124
  z46 := Tryz.sizeOf124
  v46 := Tryz.zeroValue124
  t51 := Tryz.underlying107
  a51 := Tryz.isAgg107
  z51 := Tryz.sizeOf107
  v51 := Tryz.zeroValue107
  t146 := Tryz.underlying210
  a146 := Tryz.isAgg210
  z146 := Tryz.sizeOf210
  v146 := Tryz.zeroValue210
  g1 := by kernel_rfl }
open Go.RowKit Go.Lib in
/-- strings.Contains: "Contains reports whether substr is within s.": IT RETURNS 'Lib.contains s substr'; the world is as it was. (LAID: no walk: one application.) -/
theorem Tryz.strings_Contains (s sub : ByteArray) (m : Int) (w : World) (hs : s.size < 4294967281) (hm : w.cell? ⟨2, 0, none⟩ = some (.int .i64 m)) :
    Calls Tryz.prog 51 #[.string s, .string sub] w fun e w' => e = .returned (.bool (Lib.contains s.data.toList sub.data.toList)) ∧ w' = w := Any.strings_Contains Tryz.lays144 s sub m w hs hm
def Tryz.lays138_ren : Go.Shelf.Ren := ⟨fun | 138 => 95 | 195 => 119 | 218 => 120 | 143 => 71 | 219 => 88 | 217 => 90 | 225 => 111 | 224 => 112 | 267 => 113 | 266 => 114 | 314 => 132 | n => n, fun | 9 => 9 | 3 => 3 | 4 => 4 | 5 => 5 | 0 => 0 | 46 => 124 | 146 => 210 | 51 => 107 | n => n, fun | 1 => 2 | n => n⟩
theorem Tryz.lays138 : Go.Proofs.Lays.n138 Tryz.prog Tryz.lays138_ren := {
  mixed := by kernel_rfl
  f138 := Tryz.func95.trans (congrArg some (by kernel_rfl))
  f143 := Tryz.func71.trans (congrArg some (by kernel_rfl))
  f195 := Tryz.func119.trans (congrArg some (by kernel_rfl))
  f217 := Tryz.func90.trans (congrArg some (by kernel_rfl))
  f218 := Tryz.func120.trans (congrArg some (by kernel_rfl))
  f219 := Tryz.func88.trans (congrArg some (by kernel_rfl))
  f224 := Tryz.func112.trans (congrArg some (by kernel_rfl))
  f225 := Tryz.func111.trans (congrArg some (by kernel_rfl))
  f266 := Tryz.func114.trans (congrArg some (by kernel_rfl))
  f267 := Tryz.func113.trans (congrArg some (by kernel_rfl))
  f314 := Tryz.func132.trans (congrArg some (by kernel_rfl))
  t0 := Tryz.underlying0
  a0 := Tryz.isAgg0
  z0 := Tryz.sizeOf0
  v0 := Tryz.zeroValue0
  t3 := Tryz.underlying3
  a3 := Tryz.isAgg3
  z3 := Tryz.sizeOf3
  v3 := Tryz.zeroValue3
  t4 := Tryz.underlying4
  a4 := Tryz.isAgg4
  z4 := Tryz.sizeOf4
  v4 := Tryz.zeroValue4
  t5 := Tryz.underlying5
  a5 := Tryz.isAgg5
  z5 := Tryz.sizeOf5
  v5 := Tryz.zeroValue5
  t9 := Tryz.underlying9
  a9 := Tryz.isAgg9
  z9 := Tryz.sizeOf9
  v9 := Tryz.zeroValue9
  t46 := Tryz.underlying124
  a46 := Tryz.isAgg124
  z46 := Tryz.sizeOf124
  v46 := Tryz.zeroValue124
  t51 := Tryz.underlying107
  a51 := Tryz.isAgg107
  z51 := Tryz.sizeOf107
  v51 := Tryz.zeroValue107
  t146 := Tryz.underlying210
  a146 := Tryz.isAgg210
  z146 := Tryz.sizeOf210
  v146 := Tryz.zeroValue210
  g1 := by kernel_rfl }
open Go.RowKit Go.Lib in
/-- strings.Count AT A substr OF ONE BYTE ('hp'): "Count counts the number of non-overlapping instances of substr in s.": IT RETURNS 'Lib.countByte s (that byte)'; the world is as it was. ✋ NO CONTRACT HERE YET at an empty substr (utf8.RuneCountInString) or at a longer one (a loop over strings.Index). (LAID: no walk: one application.) -/
theorem Tryz.strings_Count_one (s : ByteArray) (c : UInt8) (w : World) :
    Calls Tryz.prog 95 #[.string s, .string ⟨#[c]⟩] w fun e w' => e = .returned (.int .i64 (Lib.countByte s.data.toList c)) ∧ w' = w := Any.strings_Count_one Tryz.lays138 s c w
def Tryz.lays146_ren : Go.Shelf.Ren := ⟨fun | 146 => 60 | 221 => 77 | 268 => 94 | 138 => 95 | 143 => 71 | 195 => 119 | 197 => 74 | 218 => 120 | 219 => 88 | 260 => 89 | 217 => 90 | 225 => 111 | 224 => 112 | 267 => 113 | 266 => 114 | 314 => 132 | n => n, fun | 9 => 9 | 31 => 38 | 3 => 3 | 4 => 4 | 0 => 0 | 105 => 125 | 21 => 21 | 5 => 5 | 46 => 124 | 119 => 165 | 139 => 187 | 138 => 186 | 146 => 210 | 51 => 107 | n => n, fun | 1 => 2 | 3 => 3 | 4 => 4 | n => n⟩
theorem Tryz.lays146 : Go.Proofs.Lays.n146 Tryz.prog Tryz.lays146_ren := {
  mixed := by kernel_rfl
  f138 := Tryz.func95.trans (congrArg some (by kernel_rfl))
  f143 := Tryz.func71.trans (congrArg some (by kernel_rfl))
  f146 := Tryz.func60.trans (congrArg some (by kernel_rfl))
  f195 := Tryz.func119.trans (congrArg some (by kernel_rfl))
  f197 := Tryz.func74.trans (congrArg some (by kernel_rfl))
  f217 := Tryz.func90.trans (congrArg some (by kernel_rfl))
  f218 := Tryz.func120.trans (congrArg some (by kernel_rfl))
  f219 := Tryz.func88.trans (congrArg some (by kernel_rfl))
  f221 := Tryz.func77.trans (congrArg some (by kernel_rfl))
  f224 := Tryz.func112.trans (congrArg some (by kernel_rfl))
  f225 := Tryz.func111.trans (congrArg some (by kernel_rfl))
  f260 := Tryz.func89.trans (congrArg some (by kernel_rfl))
  f266 := Tryz.func114.trans (congrArg some (by kernel_rfl))
  f267 := Tryz.func113.trans (congrArg some (by kernel_rfl))
  f268 := Tryz.func94.trans (congrArg some (by kernel_rfl))
  f314 := Tryz.func132.trans (congrArg some (by kernel_rfl))
  t0 := Tryz.underlying0
  a0 := Tryz.isAgg0
  z0 := Tryz.sizeOf0
  v0 := Tryz.zeroValue0
  t3 := Tryz.underlying3
  a3 := Tryz.isAgg3
  z3 := Tryz.sizeOf3
  v3 := Tryz.zeroValue3
  t4 := Tryz.underlying4
  a4 := Tryz.isAgg4
  z4 := Tryz.sizeOf4
  v4 := Tryz.zeroValue4
  t5 := Tryz.underlying5
  a5 := Tryz.isAgg5
  z5 := Tryz.sizeOf5
  v5 := Tryz.zeroValue5
  t9 := Tryz.underlying9
  a9 := Tryz.isAgg9
  z9 := Tryz.sizeOf9
  v9 := Tryz.zeroValue9
  t21 := Tryz.underlying21
  a21 := Tryz.isAgg21
  z21 := Tryz.sizeOf21
  v21 := Tryz.zeroValue21
  t31 := Tryz.underlying38
  a31 := Tryz.isAgg38
  z31 := Tryz.sizeOf38
  v31 := Tryz.zeroValue38
  t46 := Tryz.underlying124
  a46 := Tryz.isAgg124
  z46 := Tryz.sizeOf124
  v46 := Tryz.zeroValue124
  t51 := Tryz.underlying107
  a51 := Tryz.isAgg107
  z51 := Tryz.sizeOf107
  v51 := Tryz.zeroValue107
  t105 := Tryz.underlying125
  a105 := Tryz.isAgg125
  z105 := Tryz.sizeOf125
  v105 := Tryz.zeroValue125
  t119 := Tryz.underlying165
  a119 := Tryz.isAgg165
  z119 := Tryz.sizeOf165
  t138 := Tryz.underlying186
  a138 := Tryz.isAgg186
  z138 := Tryz.sizeOf186
  v138 := Tryz.zeroValue186
  t139 := Tryz.underlying187
  a139 := Tryz.isAgg187
  z139 := Tryz.sizeOf187
  v139 := Tryz.zeroValue187
  t146 := Tryz.underlying210
  a146 := Tryz.isAgg210
  z146 := Tryz.sizeOf210
  v146 := Tryz.zeroValue210
  g1 := by kernel_rfl
  g3 := by kernel_rfl
  g4 := by kernel_rfl }
open Go.RowKit Go.Lib in
/-- strings.Split. (LAID: no walk: one application.) -/
theorem Tryz.strings_Split (s sep : ByteArray) (m : Int) (w : World) (hs : s.size < 4294967281) (hm : w.cell? ⟨2, 0, none⟩ = some (.int .i64 m)) (h1 : 1 ≤ sep.size) :
    Calls Tryz.prog 60 #[.string s, .string sep] w fun e w' =>
      e = .returned (.slice (some ⟨w.heap.size, 0, none⟩) (Lib.countB s sep + 1) (Lib.countB s sep + 1)) ∧ w' = w.alloc (.cells ((Lib.splitB sep 0 (Lib.countB s sep) s).map Value.string).toArray 9) := Any.strings_Split Tryz.lays146 (by kernel_rfl) s sep m w hs hm h1
end Go.Proofs
namespace Go.Proofs.YtgjckfphallmeaaGreatDoor
open Go Go.RowKit
/-- Two digits. -/
def twoS (n : Int) : List UInt8 := bytesI [48 + n / 10, 48 + n % 10]
def zrB (n : Int) : Bool := decide (-840 ≤ n ∧ n ≤ 840)
theorem zrB_t {n : Int} : zrB n = true ↔ (-840 ≤ n ∧ n ≤ 840) := by simp [zrB]
/-- Minutes as text. -/
def zprS (n : Int) : List UInt8 := if zrB n then (if n = 0 then [90] else if n < 0 then ([45] ++ twoS ((0 - n) / 60)) ++ twoS ((0 - n) % 60) else ([43] ++ twoS (n / 60)) ++ twoS (n % 60)) else []
def zprE (n : Int) : Err := if zrB n then .none else .errno 2
set_option maxRecDepth 20000
set_option maxHeartbeats 4000000
set_option linter.unusedSimpArgs false
set_option linter.unusedVariables false
attribute [local irreducible] AWp AOps byteAt SrcOK OrOk GloAll FnSpec
attribute [local irreducible] zrB
theorem zone_Right {G : Glo} (n : Int) : FnIs Tryz.prog G 25 [.int .i64 n] (.bool (zrB n)) := by
  have hGL : GloAll G [] := gloAll_nil
  refine fn_x Tryz.func25 Tryz.call25 rfl rfl rfl rfl hGL ?_
  intro C hC
  repeat' (first
    | (conv => whnf); first
      | refine .w ?_ | refine .v ?_ | apply sc_true | apply sc_false
      | (first | apply sc_lt | apply sc_nlt | apply sc_eq | apply sc_neq | apply sc_nil | apply sc_nnil | apply sc_seq | apply sc_nseq) <;> (intro hb; try exact dd hb)
      | apply sc_not | apply sc_or | (apply sc_i <;> intro hb)
      | (apply bx_i; intro hbd) | (apply gt_i; assumption; exact rfl)
      | (apply cx_is; first | fail) | (apply cx_do (i := 0) rfl; first | fail)
      | (apply ab_i; intro bl) | (apply as_i; intro va vk vc hva) | (apply av_i; intro v) | (apply ac_i; intro bl cap hcap)
      | apply bo_l | (apply nx_i <;> intro hnx) | (apply Ia.hit; assumption) | (apply Ia.miss; assumption)
      | (apply rt_is; exact rfl) | exact rt_w | (apply iv; assumption)
      | apply dw_q mixed hC hGL (by kernel_rfl) | (apply cq; assumption; (first | fail); exact rfl))
  all_goals (try conv => whnf)
  all_goals (apply rt_is; refine congrArg AVal.bool ?_; rw [Bool.eq_iff_iff]; simp only [zrB_t, reduceCtorEq, false_iff, true_iff, Bool.not_eq_true', ltB_f]; omega)
theorem ref_ZoneRight {G : Glo} (n : Int) : FnIs Tryz.prog G 36 [.int .i64 n] (.bool (zrB n)) := by
  have hGL : GloAll G [] := gloAll_nil
  refine fn_x Tryz.func36 Tryz.call36 rfl rfl rfl rfl hGL ?_
  intro C hC
  have hw := ref_within (G := G) n (-840) 840
  repeat' (first
    | (conv => whnf); first
      | refine .w ?_ | refine .v ?_ | apply sc_true | apply sc_false
      | (first | apply sc_lt | apply sc_nlt | apply sc_eq | apply sc_neq | apply sc_nil | apply sc_nnil | apply sc_seq | apply sc_nseq) <;> (intro hb; try exact dd hb)
      | apply sc_not | apply sc_or | (apply sc_i <;> intro hb)
      | (apply bx_i; intro hbd) | (apply gt_i; assumption; exact rfl)
      | (apply cx_is; first | exact hw) | (apply cx_do (i := 0) rfl; first | exact hw)
      | (apply ab_i; intro bl) | (apply as_i; intro va vk vc hva) | (apply av_i; intro v) | (apply ac_i; intro bl cap hcap)
      | apply bo_l | (apply nx_i <;> intro hnx) | (apply Ia.hit; assumption) | (apply Ia.miss; assumption)
      | (apply rt_is; exact rfl) | exact rt_w | (apply iv; assumption)
      | apply dw_q mixed hC hGL (by kernel_rfl) | (apply cq; assumption; (first | exact hw); exact rfl))
  all_goals (try conv => whnf)
  apply rt_is
  refine congrArg AVal.bool ?_
  rw [Bool.eq_iff_iff, zrB_t]
  simp
theorem zone_two {G : Glo} (n : Int) (h0 : 0 ≤ n) (h1 : n < 100) : FnIs Tryz.prog G 48 [.int .i64 n] (.str (twoS n)) := by
  have hGL : GloAll G [] := gloAll_nil
  refine fn_x Tryz.func48 Tryz.call48 rfl rfl rfl rfl hGL ?_
  intro C hC
  repeat' (first
    | (conv => whnf); first
      | refine .w ?_ | refine .v ?_ | apply sc_true | apply sc_false
      | (first | apply sc_lt | apply sc_nlt | apply sc_eq | apply sc_neq | apply sc_nil | apply sc_nnil | apply sc_seq | apply sc_nseq) <;> (intro hb; try exact dd hb)
      | apply sc_not | apply sc_or | (apply sc_i <;> intro hb)
      | (apply bx_i; intro hbd) | (apply gt_i; assumption; exact rfl)
      | (apply cx_is; first | fail) | (apply cx_do (i := 0) rfl; first | fail)
      | (apply ab_i; intro bl) | (apply as_i; intro va vk vc hva) | (apply av_i; intro v) | (apply ac_i; intro bl cap hcap)
      | apply bo_l | (apply nx_i <;> intro hnx) | (apply Ia.hit; assumption) | (apply Ia.miss; assumption)
      | (apply rt_is; exact rfl) | exact rt_w | (apply iv; assumption)
      | apply dw_q mixed hC hGL (by kernel_rfl) | (apply cq; assumption; (first | fail); exact rfl))
  all_goals (try conv => whnf)
  refine op1_run hC hGL (rv_bytes [_, _] rfl (by intro v hv; simp only [List.mem_cons, List.not_mem_nil, or_false] at hv; omega) rfl rfl rfl rfl rfl rfl) rfl rfl ?_
  repeat' (first
    | (conv => whnf); first
      | refine .w ?_ | refine .v ?_ | apply sc_true | apply sc_false
      | (first | apply sc_lt | apply sc_nlt | apply sc_eq | apply sc_neq | apply sc_nil | apply sc_nnil | apply sc_seq | apply sc_nseq) <;> (intro hb; try exact dd hb)
      | apply sc_not | apply sc_or | (apply sc_i <;> intro hb)
      | (apply bx_i; intro hbd) | (apply gt_i; assumption; exact rfl)
      | (apply cx_is; first | fail) | (apply cx_do (i := 0) rfl; first | fail)
      | (apply ab_i; intro bl) | (apply as_i; intro va vk vc hva) | (apply av_i; intro v) | (apply ac_i; intro bl cap hcap)
      | apply bo_l | (apply nx_i <;> intro hnx) | (apply Ia.hit; assumption) | (apply Ia.miss; assumption)
      | (apply rt_is; exact rfl) | exact rt_w | (apply iv; assumption)
      | apply dw_q mixed hC hGL (by kernel_rfl) | (apply cq; assumption; (first | fail); exact rfl))
  all_goals (try conv => whnf)
theorem twoS_len (n : Int) : (twoS n).length = 2 := rfl
attribute [local irreducible] twoS
theorem zone_Print {G : Glo} (n : Int) : FnIs Tryz.prog G 19 [.int .i64 n] (.tuple [.str (zprS n), (zprE n).A]) := by
  have hGL : GloAll G [] := gloAll_nil
  refine fn_x Tryz.func19 Tryz.call19 rfl rfl rfl rfl hGL ?_
  intro C hC
  have h1 := zone_Right (G := G) n
  have h2 := fun k h0 h1 => zone_two (G := G) k h0 h1
  have l1 := twoS_len ((0 - n) / 60)
  have l2 := twoS_len ((0 - n) % 60)
  have l3 := twoS_len (n / 60)
  have l4 := twoS_len (n % 60)
  cases hz : zrB n with
  | false =>
    rw [hz] at h1
    repeat' (first
      | (conv => whnf); first
        | refine .w ?_ | refine .v ?_ | apply sc_true | apply sc_false
        | (first | apply sc_lt | apply sc_nlt | apply sc_eq | apply sc_neq | apply sc_nil | apply sc_nnil | apply sc_seq | apply sc_nseq) <;> (intro hb; try exact dd hb)
        | apply sc_not | apply sc_or | (apply sc_i <;> intro hb)
        | (apply bx_i; intro hbd) | (apply gt_i; assumption; exact rfl)
        | (apply cx_is; first | exact h1) | (apply cx_do (i := 0) rfl; first | exact h1)
        | (apply ab_i; intro bl) | (apply as_i; intro va vk vc hva) | (apply av_i; intro v) | (apply ac_i; intro bl cap hcap)
        | apply bo_l | (apply nx_i <;> intro hnx) | (apply Ia.hit; assumption) | (apply Ia.miss; assumption)
        | (apply rt_is; exact rfl) | exact rt_w | (apply iv; assumption)
        | apply dw_q mixed hC hGL (by kernel_rfl) | (apply cq; assumption; (first | exact h1); exact rfl))
    all_goals (try conv => whnf)
    apply rt_is
    rw [zprS, zprE, hz]
    rfl
  | true =>
    rw [hz] at h1
    have hz2 := zrB_t.1 hz
    repeat' (first
      | (conv => whnf); first
        | refine .w ?_ | refine .v ?_ | apply sc_true | apply sc_false
        | (first | apply sc_lt | apply sc_nlt | apply sc_eq | apply sc_neq | apply sc_nil | apply sc_nnil | apply sc_seq | apply sc_nseq) <;> (intro hb; try exact dd hb)
        | apply sc_not | apply sc_or | (apply sc_i <;> intro hb)
        | (apply bx_i; intro hbd) | (apply gt_i; assumption; exact rfl)
        | (apply cx_is; first | exact h1 | (exact h2 _ (by omega) (by omega))) | (apply cx_do (i := 0) rfl; first | exact h1 | (exact h2 _ (by omega) (by omega)))
        | (apply ab_i; intro bl) | (apply as_i; intro va vk vc hva) | (apply av_i; intro v) | (apply ac_i; intro bl cap hcap)
        | apply bo_l | (apply nx_i <;> intro hnx) | (apply Ia.hit; assumption) | (apply Ia.miss; assumption)
        | (apply rt_is; exact rfl) | exact rt_w | (apply iv; assumption)
        | apply dw_q mixed hC hGL (by kernel_rfl) | (apply cq; assumption; (first | exact h1 | (exact h2 _ (by omega) (by omega))); exact rfl))
    all_goals (try conv => whnf)
    · apply rt_is
      rw [zprS, zprE, hz, if_pos rfl, if_pos hb]
      rfl
    · apply rt_is
      rw [zprS, zprE, hz, if_pos rfl, if_neg (by omega), if_pos hb]
      rfl
    · apply rt_is
      rw [zprS, zprE, hz, if_pos rfl, if_neg (by omega), if_neg (by omega)]
      rfl
theorem formatInt_small {G : Glo} (i : Nat) (hi : i < 100) : FnIs Tryz.prog G 67 [.int .i64 (i : Int), .int .i64 10] (.str (Lib.decDigits i)) := by
  refine fnis_of_calls rfl Tryz.call67 ?_
  intro R args hr w _ _
  obtain ⟨x, t, e, hx, y, t', e', hy, rfl⟩ := hr
  have hx := rel_int.1 hx
  have hy := rel_int.1 hy
  subst hx hy
  obtain rfl : args = #[.int .i64 (i : Int), .int .i64 10] := by cases args; simp_all
  refine (Tryz.strconv_FormatInt_10_small i hi w).mono ?_
  rintro e w' ⟨rfl, rfl⟩
  exact ⟨rfl, Below.refl _ _⟩
theorem decDigits_one {i : Nat} (h : i < 10) : Lib.decDigits i = [UInt8.ofNat (48 + i)] := by
  rw [Lib.decDigits, dif_pos h]
theorem decDigits_two {i : Nat} (h : 10 ≤ i) (h1 : i < 100) : Lib.decDigits i = [UInt8.ofNat (48 + i / 10), UInt8.ofNat (48 + i % 10)] := by
  rw [Lib.decDigits, dif_neg (by omega), decDigits_one (by omega)]
  rfl
theorem twoS_nat (i : Nat) : twoS (i : Int) = [UInt8.ofNat (48 + i / 10), UInt8.ofNat (48 + i % 10)] := by
  unfold twoS bytesI
  simp only [List.map]
  rw [show (48 + (i : Int) / 10).toNat = 48 + i / 10 by omega, show (48 + (i : Int) % 10).toNat = 48 + i % 10 by omega]
theorem ref_digits_two {G : Glo} (i : Nat) (h1 : i < 100) : FnIs Tryz.prog G 42 [.int .i64 (i : Int), .int .i64 10, .int .i64 2] (.str (twoS i)) := by
  have hGL : GloAll G [] := gloAll_nil
  refine fn_x Tryz.func42 Tryz.call42 rfl rfl rfl rfl hGL ?_
  intro C hC
  have hf := formatInt_small (G := G) i h1
  rw [twoS_nat]
  by_cases h : i < 10
  · rw [decDigits_one h] at hf
    repeat' (first
      | (conv => whnf); first
        | refine .w ?_ | refine .v ?_ | apply sc_true | apply sc_false
        | (first | apply sc_lt | apply sc_nlt | apply sc_eq | apply sc_neq | apply sc_nil | apply sc_nnil | apply sc_seq | apply sc_nseq) <;> (intro hb; try exact dd hb)
        | apply sc_not | apply sc_or | (apply sc_i <;> intro hb)
        | (apply bx_i; intro hbd) | (apply gt_i; assumption; exact rfl)
        | (apply cx_is; first | exact hf) | (apply cx_do (i := 0) rfl; first | exact hf)
        | (apply ab_i; intro bl) | (apply as_i; intro va vk vc hva) | (apply av_i; intro v) | (apply ac_i; intro bl cap hcap)
        | apply bo_l | (apply nx_i <;> intro hnx) | (apply Ia.hit; assumption) | (apply Ia.miss; assumption)
        | (apply rt_is; exact rfl) | exact rt_w | (apply iv; assumption)
        | apply dw_q mixed hC hGL (by kernel_rfl) | (apply cq; assumption; (first | exact hf); exact rfl))
    all_goals (try conv => whnf)
    refine rds hC hGL 2 ?_
    repeat' (first
      | (conv => whnf); first
        | refine .w ?_ | refine .v ?_ | apply sc_true | apply sc_false
        | (first | apply sc_lt | apply sc_nlt | apply sc_eq | apply sc_neq | apply sc_nil | apply sc_nnil | apply sc_seq | apply sc_nseq) <;> (intro hb; try exact dd hb)
        | apply sc_not | apply sc_or | (apply sc_i <;> intro hb)
        | (apply bx_i; intro hbd) | (apply gt_i; assumption; exact rfl)
        | (apply cx_is; first | fail) | (apply cx_do (i := 0) rfl; first | fail)
        | (apply ab_i; intro bl) | (apply as_i; intro va vk vc hva) | (apply av_i; intro v) | (apply ac_i; intro bl cap hcap)
        | apply bo_l | (apply nx_i <;> intro hnx) | (apply Ia.hit; assumption) | (apply Ia.miss; assumption)
        | (apply rt_is; exact rfl) | exact rt_w | (apply iv; assumption)
        | apply dw_q mixed hC hGL (by kernel_rfl) | (apply cq; assumption; (first | fail); exact rfl))
    all_goals (try conv => whnf)
    apply rt_is
    rw [show i / 10 = 0 by omega, show i % 10 = i by omega]
    rfl
  · rw [decDigits_two (by omega) h1] at hf
    repeat' (first
      | (conv => whnf); first
        | refine .w ?_ | refine .v ?_ | apply sc_true | apply sc_false
        | (first | apply sc_lt | apply sc_nlt | apply sc_eq | apply sc_neq | apply sc_nil | apply sc_nnil | apply sc_seq | apply sc_nseq) <;> (intro hb; try exact dd hb)
        | apply sc_not | apply sc_or | (apply sc_i <;> intro hb)
        | (apply bx_i; intro hbd) | (apply gt_i; assumption; exact rfl)
        | (apply cx_is; first | exact hf) | (apply cx_do (i := 0) rfl; first | exact hf)
        | (apply ab_i; intro bl) | (apply as_i; intro va vk vc hva) | (apply av_i; intro v) | (apply ac_i; intro bl cap hcap)
        | apply bo_l | (apply nx_i <;> intro hnx) | (apply Ia.hit; assumption) | (apply Ia.miss; assumption)
        | (apply rt_is; exact rfl) | exact rt_w | (apply iv; assumption)
        | apply dw_q mixed hC hGL (by kernel_rfl) | (apply cq; assumption; (first | exact hf); exact rfl))
    all_goals (try conv => whnf)
    refine rds hC hGL 1 ?_
    repeat' (first
      | (conv => whnf); first
        | refine .w ?_ | refine .v ?_ | apply sc_true | apply sc_false
        | (first | apply sc_lt | apply sc_nlt | apply sc_eq | apply sc_neq | apply sc_nil | apply sc_nnil | apply sc_seq | apply sc_nseq) <;> (intro hb; try exact dd hb)
        | apply sc_not | apply sc_or | (apply sc_i <;> intro hb)
        | (apply bx_i; intro hbd) | (apply gt_i; assumption; exact rfl)
        | (apply cx_is; first | fail) | (apply cx_do (i := 0) rfl; first | fail)
        | (apply ab_i; intro bl) | (apply as_i; intro va vk vc hva) | (apply av_i; intro v) | (apply ac_i; intro bl cap hcap)
        | apply bo_l | (apply nx_i <;> intro hnx) | (apply Ia.hit; assumption) | (apply Ia.miss; assumption)
        | (apply rt_is; exact rfl) | exact rt_w | (apply iv; assumption)
        | apply dw_q mixed hC hGL (by kernel_rfl) | (apply cq; assumption; (first | fail); exact rfl))
    all_goals (try conv => whnf)
theorem ref_ZonePrint {G : Glo} (n : Int) : FnIs Tryz.prog G 15 [.int .i64 n] (.tuple [.str (zprS n), .int .i64 (zprE n).e]) := by
  have hGL : GloAll G [] := gloAll_nil
  refine fn_x Tryz.func15 Tryz.call15 rfl rfl rfl rfl hGL ?_
  intro C hC
  have h1 := ref_ZoneRight (G := G) n
  have h2 := fun (k : Int) (h0 : 0 ≤ k) (h1 : k < 100) => (show FnIs Tryz.prog G 42 [.int .i64 k, .int .i64 10, .int .i64 2] (.str (twoS k)) by obtain ⟨i, rfl⟩ := Int.eq_ofNat_of_zero_le h0; exact ref_digits_two i (by omega))
  have l1 := twoS_len ((0 - n) / 60)
  have l2 := twoS_len ((0 - n) % 60)
  have l3 := twoS_len (n / 60)
  have l4 := twoS_len (n % 60)
  cases hz : zrB n with
  | false =>
    rw [hz] at h1
    repeat' (first
      | (conv => whnf); first
        | refine .w ?_ | refine .v ?_ | apply sc_true | apply sc_false
        | (first | apply sc_lt | apply sc_nlt | apply sc_eq | apply sc_neq | apply sc_nil | apply sc_nnil | apply sc_seq | apply sc_nseq) <;> (intro hb; try exact dd hb)
        | apply sc_not | apply sc_or | (apply sc_i <;> intro hb)
        | (apply bx_i; intro hbd) | (apply gt_i; assumption; exact rfl)
        | (apply cx_is; first | exact h1) | (apply cx_do (i := 0) rfl; first | exact h1)
        | (apply ab_i; intro bl) | (apply as_i; intro va vk vc hva) | (apply av_i; intro v) | (apply ac_i; intro bl cap hcap)
        | apply bo_l | (apply nx_i <;> intro hnx) | (apply Ia.hit; assumption) | (apply Ia.miss; assumption)
        | (apply rt_is; exact rfl) | exact rt_w | (apply iv; assumption)
        | apply dw_q mixed hC hGL (by kernel_rfl) | (apply cq; assumption; (first | exact h1); exact rfl))
    all_goals (try conv => whnf)
    apply rt_is
    rw [zprS, zprE, hz]
    rfl
  | true =>
    rw [hz] at h1
    have hz2 := zrB_t.1 hz
    repeat' (first
      | (conv => whnf); first
        | refine .w ?_ | refine .v ?_ | apply sc_true | apply sc_false
        | (first | apply sc_lt | apply sc_nlt | apply sc_eq | apply sc_neq | apply sc_nil | apply sc_nnil | apply sc_seq | apply sc_nseq) <;> (intro hb; try exact dd hb)
        | apply sc_not | apply sc_or | (apply sc_i <;> intro hb)
        | (apply bx_i; intro hbd) | (apply gt_i; assumption; exact rfl)
        | (apply cx_is; first | exact h1 | (exact h2 _ (by omega) (by omega))) | (apply cx_do (i := 0) rfl; first | exact h1 | (exact h2 _ (by omega) (by omega)))
        | (apply ab_i; intro bl) | (apply as_i; intro va vk vc hva) | (apply av_i; intro v) | (apply ac_i; intro bl cap hcap)
        | apply bo_l | (apply nx_i <;> intro hnx) | (apply Ia.hit; assumption) | (apply Ia.miss; assumption)
        | (apply rt_is; exact rfl) | exact rt_w | (apply iv; assumption)
        | apply dw_q mixed hC hGL (by kernel_rfl) | (apply cq; assumption; (first | exact h1 | (exact h2 _ (by omega) (by omega))); exact rfl))
    all_goals (try conv => whnf)
    · apply rt_is
      rw [zprS, zprE, hz, if_pos rfl, if_pos hb]
      rfl
    · apply rt_is
      rw [zprS, zprE, hz, if_pos rfl, if_neg (by omega), if_pos hb]
      rfl
    · apply rt_is
      rw [zprS, zprE, hz, if_pos rfl, if_neg (by omega), if_neg (by omega)]
      rfl
end Go.Proofs.YtgjckfphallmeaaGreatDoor
namespace Go.Proofs.YtgjckfphallmeaaGreatDoor
open Go Go.RowKit
/-- Told. -/
def tlB (n : Int) : Bool := decide (n ≠ -1)
theorem tlB_t {n : Int} : tlB n = true ↔ n ≠ -1 := by simp [tlB]
theorem tlB_f {n : Int} : tlB n = false ↔ n = -1 := by simp [tlB]
/-- What of three is told, in letters. -/
def fmB (b : Bool) : UInt8 := if b then 57 else 45
def fmS (a b c : Bool) : List UInt8 := [fmB a, fmB b, fmB c]
/-- Which of three are told. -/
def whN : Bool → Bool → Bool → Int
  | false, false, false => 0
  | true, false, false => 1
  | true, true, false => 2
  | true, true, true => 3
  | false, true, false => 4
  | false, true, true => 5
  | false, false, true => 6
  | true, false, true => -1
/-- How many days a month has. -/
def dayN (y m : Int) : Int :=
  if m < 1 ∨ 12 < m then 0
  else if m = 2 then (if y ≠ -1 ∧ (y.tmod 4 ≠ 0 ∨ y.tmod 100 = 0 ∧ y.tmod 400 ≠ 0) then 28 else 29)
  else if m = 4 ∨ m = 6 ∨ m = 9 ∨ m = 11 then 30 else 31
def witB (n lo hi : Int) : Bool := decide (n = -1 ∨ lo ≤ n ∧ n ≤ hi)
theorem witB_t {n lo hi : Int} : witB n lo hi = true ↔ (n = -1 ∨ lo ≤ n ∧ n ≤ hi) := by simp [witB]
theorem witB_f {n lo hi : Int} : witB n lo hi = false ↔ ¬ (n = -1 ∨ lo ≤ n ∧ n ≤ hi) := by simp [witB]
/-- A stamp. -/
structure Stm where
  y : Int
  m : Int
  d : Int
  h : Int
  i : Int
  s : Int
  z : Bool
  o : Int
def Stm.A (t : Stm) : AVal := .agg [.int .i64 t.y, .int .i64 t.m, .int .i64 t.d, .int .i64 t.h, .int .i64 t.i, .int .i64 t.s, .bool t.z, .int .i64 t.o]
/-- Forms that go together. -/
def okN (d t : Int) : Bool := decide (0 ≤ d ∧ 0 ≤ t ∧ ¬ (d = 0 ∧ t = 0) ∧ (0 < d ∧ 0 < t → (d = 3 ∨ d = 5 ∨ d = 6) ∧ t ≤ 3))
def Stm.dn (t : Stm) : Int := whN (tlB t.y) (tlB t.m) (tlB t.d)
def Stm.tn (t : Stm) : Int := whN (tlB t.h) (tlB t.i) (tlB t.s)
def Stm.frm (t : Stm) : Bool := okN t.dn t.tn && (if t.z then tlB t.h else decide (t.o = 0))
def Stm.day (t : Stm) : Int := if t.m = -1 then 31 else dayN t.y t.m
def Stm.rng (t : Stm) : Bool := witB t.y 0 9999 && (witB t.m 1 12 && (witB t.d 1 t.day && (witB t.h 0 23 && (witB t.i 0 59 && (witB t.s 0 59 && zrB t.o)))))
def Stm.e (t : Stm) : Int := if t.frm then (if t.rng then 0 else 2) else 3
def Stm.E (t : Stm) : Err := if t.frm then (if t.rng then .none else .errno 2) else .errno 3
theorem Stm.E_e (t : Stm) : t.E.e = t.e := by unfold Stm.E Stm.e; (repeat' split) <;> rfl
theorem Stm.E_p (t : Stm) : t.E.p = -1 := by unfold Stm.E; (repeat' split) <;> rfl
/-- Four digits. -/
def fourS (n : Int) : List UInt8 := bytesI [48 + n / 1000, 48 + n / 100 % 10, 48 + n / 10 % 10, 48 + n % 10]
def dateS (a b c : Bool) (y m d : Int) : List UInt8 := match a, b, c with
  | true, false, false => fourS y
  | true, true, false => (fourS y ++ [45]) ++ twoS m
  | true, true, true => (fourS y ++ twoS m) ++ twoS d
  | false, true, false => [45, 45] ++ twoS m
  | false, true, true => ([45, 45] ++ twoS m) ++ twoS d
  | false, false, true => [45, 45, 45] ++ twoS d
  | _, _, _ => []
def timeS (a b c : Bool) (h m s : Int) : List UInt8 := match a, b, c with
  | true, false, false => [84] ++ twoS h
  | true, true, false => ([84] ++ twoS h) ++ twoS m
  | true, true, true => (([84] ++ twoS h) ++ twoS m) ++ twoS s
  | false, true, false => ([84] ++ [45]) ++ twoS m
  | false, true, true => (([84] ++ [45]) ++ twoS m) ++ twoS s
  | false, false, true => (([84] ++ [45]) ++ [45]) ++ twoS s
  | _, _, _ => []
def Stm.txt (t : Stm) : List UInt8 := dateS (tlB t.y) (tlB t.m) (tlB t.d) t.y t.m t.d ++ timeS (tlB t.h) (tlB t.i) (tlB t.s) t.h t.i t.s ++ (if t.z then zprS t.o else [])
/-- The stamp as text; none where it isn't right. -/
def Stm.T (t : Stm) : List UInt8 := if t.frm then (if t.rng then t.txt else []) else []
/-- A form filled with digits. -/
def fillS : List UInt8 → List UInt8 → List UInt8
  | [], _ => []
  | c :: r, all => if c = 57 then (match all with | x :: t => x :: fillS r t | [] => []) else c :: fillS r all
end Go.Proofs.YtgjckfphallmeaaGreatDoor
namespace Go.Proofs.YtgjckfphallmeaaGreatDoor
open Go
set_option maxRecDepth 20000
set_option maxHeartbeats 4000000
set_option linter.unusedSimpArgs false
set_option linter.unusedVariables false
attribute [local irreducible] AWp AOps byteAt SrcOK OrOk GloAll FnSpec
/-- Where a byte stands first. -/
def idxF (c : Int) : List UInt8 → Nat → Int
  | [], _ => -1
  | x :: t, k => if (x.toNat : Int) = c then k else idxF c t (k + 1)
def idxB (s : List UInt8) (c : Int) : Int := idxF c s 0
theorem idxF_find {c : UInt8} (b : ByteArray) : ∀ (t : List UInt8) (k : Nat), (∀ j, j < t.length → b[k + j]! = t.getD j 0) →
    (match (List.range' k t.length).find? fun i => b[i]! == c with | some i => (i : Int) | none => -1) = idxF (c.toNat : Int) t k
  | [], _, _ => by simp [idxF]
  | x :: t, k, h => by
    have h0 := h 0 (by simp)
    simp only [Nat.add_zero, List.getD_cons_zero] at h0
    rw [List.length_cons, List.range'_succ, List.find?_cons, h0]
    by_cases e : x = c
    · subst e; simp [idxF]
    · have e1 : (x == c) = false := by simpa using e
      rw [e1]
      have e2 : ¬ ((x.toNat : Int) = (c.toNat : Int)) := by
        intro h; exact e (UInt8.toNat_inj.1 (by omega))
      simp only [idxF, if_neg e2]
      exact idxF_find b t (k + 1) (fun j hj => by
        have := h (j + 1) (by simpa using hj)
        rw [show k + 1 + j = k + (j + 1) by omega, this]; simp)
theorem bytealg_IndexByteString {G : Glo} (s : List UInt8) (c : Int) (h0 : 0 ≤ c) (h1 : c ≤ 255) : FnIs Tryz.prog G 114 [.str s, .int .u8 c] (.int .i64 (idxB s c)) := by
  refine fnis_extern Tryz.func114 (by kernel_rfl) (by kernel_rfl) (by kernel_rfl) (e := Go.Extern.BytealgIndexByte.indexByte) (by kernel_rfl) ?_
  intro R args ha w
  obtain ⟨x, t, e, hx, y, t', e', hy, rfl⟩ := ha
  have hx := rel_str.1 hx
  have hy := rel_int.1 hy
  subst hx hy
  obtain rfl : args = #[.string ⟨s.toArray⟩, .int .u8 c] := by cases args; simp_all
  refine ⟨.int .i64 (idxB s c), ?_, rel_int.2 rfl⟩
  have hc : (c.toNat.toUInt8).toNat = c.toNat := by
    show (UInt8.ofNat c.toNat).toNat = _
    rw [UInt8.toNat_ofNat']; omega
  have key := idxF_find (c := c.toNat.toUInt8) ⟨s.toArray⟩ s 0 (fun j hj => by
    rw [Nat.zero_add]
    rw [getElem!_pos (⟨s.toArray⟩ : ByteArray) j (by rw [str_size]; exact hj)]
    show s.toArray[j] = _
    simp [List.getD, hj])
  rw [hc, Int.toNat_of_nonneg h0] at key
  have e : Go.Extern.BytealgIndexByte.indexByte #[.string ⟨s.toArray⟩, .int .u8 c] = (match (List.range (⟨s.toArray⟩ : ByteArray).size).find? fun i => (⟨s.toArray⟩ : ByteArray)[i]! == c.toNat.toUInt8 with | some i => pure (goInt i) | none => pure (goInt (-1))) := rfl
  rw [e, str_size, List.range_eq_range']
  unfold idxB
  rw [← key]
  generalize List.find? _ _ = o
  cases o <;> rfl
theorem stringslite_IndexByte {G : Glo} (s : List UInt8) (c : Int) (h0 : 0 ≤ c) (h1 : c ≤ 255) : FnIs Tryz.prog G 90 [.str s, .int .u8 c] (.int .i64 (idxB s c)) := by
  have hb := bytealg_IndexByteString (G := G) s c h0 h1
  have hGL : GloAll G [] := gloAll_nil
  refine fn_x Tryz.func90 Tryz.call90 rfl rfl rfl rfl hGL ?_
  intro C hC
  repeat' (first
    | (conv => whnf); first
      | refine .w ?_ | refine .v ?_ | apply sc_true | apply sc_false
      | (first | apply sc_lt | apply sc_nlt | apply sc_eq | apply sc_neq | apply sc_nil | apply sc_nnil | apply sc_seq | apply sc_nseq) <;> (intro hb; try exact dd hb)
      | apply sc_not | apply sc_or | (apply sc_i <;> intro hb)
      | (apply bx_i; intro hbd) | (apply gt_i; assumption; exact rfl)
      | (apply cx_is; first | exact hb) | (apply cx_do (i := 0) rfl; first | exact hb)
      | (apply ab_i; intro bl) | (apply as_i; intro va vk vc hva) | (apply av_i; intro v) | (apply ac_i; intro bl cap hcap)
      | apply bo_l | (apply nx_i <;> intro hnx) | (apply Ia.hit; assumption) | (apply Ia.miss; assumption)
      | (apply rt_is; exact rfl) | exact rt_w | (apply iv; assumption)
      | apply dw_q mixed hC hGL (by kernel_rfl) | (apply cq; assumption; (first | exact hb); exact rfl))
  all_goals (try conv => whnf)
theorem strings_IndexByte {G : Glo} (s : List UInt8) (c : Int) (h0 : 0 ≤ c) (h1 : c ≤ 255) : FnIs Tryz.prog G 75 [.str s, .int .u8 c] (.int .i64 (idxB s c)) := by
  have hb := stringslite_IndexByte (G := G) s c h0 h1
  have hGL : GloAll G [] := gloAll_nil
  refine fn_x Tryz.func75 Tryz.call75 rfl rfl rfl rfl hGL ?_
  intro C hC
  repeat' (first
    | (conv => whnf); first
      | refine .w ?_ | refine .v ?_ | apply sc_true | apply sc_false
      | (first | apply sc_lt | apply sc_nlt | apply sc_eq | apply sc_neq | apply sc_nil | apply sc_nnil | apply sc_seq | apply sc_nseq) <;> (intro hb; try exact dd hb)
      | apply sc_not | apply sc_or | (apply sc_i <;> intro hb)
      | (apply bx_i; intro hbd) | (apply gt_i; assumption; exact rfl)
      | (apply cx_is; first | exact hb) | (apply cx_do (i := 0) rfl; first | exact hb)
      | (apply ab_i; intro bl) | (apply as_i; intro va vk vc hva) | (apply av_i; intro v) | (apply ac_i; intro bl cap hcap)
      | apply bo_l | (apply nx_i <;> intro hnx) | (apply Ia.hit; assumption) | (apply Ia.miss; assumption)
      | (apply rt_is; exact rfl) | exact rt_w | (apply iv; assumption)
      | apply dw_q mixed hC hGL (by kernel_rfl) | (apply cq; assumption; (first | exact hb); exact rfl))
  all_goals (try conv => whnf)
end Go.Proofs.YtgjckfphallmeaaGreatDoor
namespace Go.Proofs.YtgjckfphallmeaaGreatDoor
open Go Go.RowKit
set_option maxRecDepth 20000
set_option maxHeartbeats 4000000
set_option linter.unusedSimpArgs false
set_option linter.unusedVariables false
attribute [local irreducible] AWp AOps byteAt SrcOK OrOk GloAll FnSpec
attribute [local irreducible] idxB
theorem strings_ToLower {G : Glo} (s : List UInt8) (hs : s.length ≤ 140737488355328) (ha : ∀ j, j < s.length → byteAt s j < 128) : FnIs Tryz.prog G 76 [.str s] (.str (Lib.toLowerA s)) := by
  refine fnis_of_calls rfl Tryz.call76 ?_
  intro R args hr w _ _
  obtain ⟨x, t, e, hx, rfl⟩ := hr
  have hx := rel_str.1 hx
  subst hx
  obtain rfl : args = #[.string ⟨s.toArray⟩] := by cases args; simp_all
  have := Tryz.strings_ToLower_ascii ⟨s.toArray⟩ w (by rw [str_size]; exact hs) (fun j b hb => by
    have hb' : s[j]? = some b := by simpa using hb
    have hj := (List.getElem?_eq_some_iff.1 hb').1
    have h2 := ha j hj
    unfold byteAt at h2
    simpa [List.getD, hb'] using h2)
  simp only [AVal.conc]
  simpa using this
def abcU : List UInt8 := [65, 66, 67, 68, 69, 70, 71, 72, 73, 74, 75, 76, 77, 78, 79, 80, 81, 82, 83, 84, 85, 86, 87, 88, 89, 90]
def abcL : List UInt8 := [97, 98, 99, 100, 101, 102, 103, 104, 105, 106, 107, 108, 109, 110, 111, 112, 113, 114, 115, 116, 117, 118, 119, 120, 121, 122]
def digsD : List UInt8 := [48, 49, 50, 51, 52, 53, 54, 55, 56, 57, 45]
theorem toLower_abc {G : Glo} : FnIs Tryz.prog G 76 [.str abcU] (.str abcL) := by
  have h := strings_ToLower (G := G) abcU (by decide) (by decide +kernel)
  have e : Lib.toLowerA abcU = abcL := by decide
  rwa [e] at h
/-- A fact of all bytes, looked through one by one. -/
theorem all_bytes {p : Int → Bool} (h : ∀ c : Fin 256, p (c.1 : Int) = true) {c : Int} (h0 : 0 ≤ c) (h1 : c ≤ 255) : p c = true := by
  have := h ⟨c.toNat, by omega⟩
  simpa only [Int.toNat_of_nonneg h0] using this
theorem idx_letter {c : Int} (h0 : 0 ≤ c) (h1 : c ≤ 255) : decide (idxB ((abcU ++ abcL) ++ digsD) c < 0) = !letterB c := by
  have := all_bytes (p := fun c => decide (idxB ((abcU ++ abcL) ++ digsD) c < 0) == !letterB c) (by decide +kernel) h0 h1
  simpa using this
theorem ref_Is {G : Glo} (s : List UInt8) (hl : s.length ≤ 9223372036854775807) : FnIs Tryz.prog G 61 [.str s] (.bool (isS s)) := by
  have hGL : GloAll G [] := gloAll_nil
  refine fn_x Tryz.func61 Tryz.call61 rfl rfl rfl rfl hGL ?_
  intro C hC
  have hT := toLower_abc (G := G)
  have hI := fun c h0 h1 => strings_IndexByte (G := G) ((abcU ++ abcL) ++ digsD) c h0 h1
  have hW := ref_within (G := G) (s.length : Int) 1 40
  repeat' (first
    | (conv => whnf); first
      | refine .w ?_ | refine .v ?_ | apply sc_true | apply sc_false
      | (first | apply sc_lt | apply sc_nlt | apply sc_eq | apply sc_neq | apply sc_nil | apply sc_nnil | apply sc_seq | apply sc_nseq) <;> (intro hb; try exact dd hb)
      | apply sc_not | apply sc_or | (apply sc_i <;> intro hb)
      | (apply bx_i; intro hbd) | (apply gt_i; assumption; exact rfl)
      | (apply cx_is; first | fail) | (apply cx_do (i := 0) rfl; first | fail)
      | (apply ab_i; intro bl) | (apply as_i; intro va vk vc hva) | (apply av_i; intro v) | (apply ac_i; intro bl cap hcap)
      | apply bo_l | (apply nx_i <;> intro hnx) | (apply Ia.hit; assumption) | (apply Ia.miss; assumption)
      | (apply rt_is; exact rfl) | exact rt_w | (apply iv; assumption)
      | apply dw_q mixed hC hGL (by kernel_rfl) | (apply cq; assumption; (first | fail); exact rfl))
  all_goals (try conv => whnf)
  refine lp hC hGL (fun (i : Nat) => [(0, .str s), (6, .own 0 (.slice (some ⟨bl, 0, none⟩) s.length cap)), (7, .int .i64 s.length), (8, .int .i64 i)]) (fun _ => [.buf bl s cap]) (fun i => i ≤ s.length ∧ ∀ j, j < i → letterB (byteAt s j) = true) (fun i => s.length - i) 0 ?_ env_w rfl ?_
  · exact ⟨Nat.zero_le _, by intro j hj; omega⟩
  rintro i ⟨hi, hb0⟩
  repeat' (first
    | (conv => whnf); first
      | refine .w ?_ | refine .v ?_ | apply sc_true | apply sc_false
      | (first | apply sc_lt | apply sc_nlt | apply sc_eq | apply sc_neq | apply sc_nil | apply sc_nnil | apply sc_seq | apply sc_nseq) <;> (intro hb; try exact dd hb)
      | apply sc_not | apply sc_or | (apply sc_i <;> intro hb)
      | (apply bx_i; intro hbd) | (apply gt_i; assumption; exact rfl)
      | (apply cx_is; first | exact hT | exact hW | (exact hI _ (by omega) (by omega))) | (apply cx_do (i := 0) rfl; first | exact hT | exact hW | (exact hI _ (by omega) (by omega)))
      | (apply ab_i; intro bl) | (apply as_i; intro va vk vc hva) | (apply av_i; intro v) | (apply ac_i; intro bl cap hcap)
      | apply bo_l | (apply nx_i <;> intro hnx) | (apply Ia.hit; assumption) | (apply Ia.miss; assumption)
      | (apply rt_is; exact rfl) | exact rt_w | (apply iv; assumption)
      | apply dw_q mixed hC hGL (by kernel_rfl) | (apply cq; assumption; (first | exact hT | exact hW | (exact hI _ (by omega) (by omega))); exact rfl))
  all_goals (try conv => whnf)
  · apply rt_is
    have hx := idx_letter (c := (byteAt s i : Int)) (by omega) (by omega)
    rw [decide_eq_true hb] at hx
    rw [isS, allB_f (j := i) (by omega) (by simpa using hx.symm)]
    rfl
  · have hx := idx_letter (c := (byteAt s i : Int)) (by omega) (by omega)
    rw [decide_eq_false (by omega)] at hx
    refine nxt (i + 1) ?_ ?_ env_w rfl
    · exact ⟨by omega, below_succ hb0 (by simpa using hx.symm)⟩
    · omega
  · apply rt_is
    refine congrArg AVal.bool ?_
    have ha : allB letterB s = true := allB_t.2 fun j hj => hb0 j (by omega)
    simp only [isS, ha, Bool.true_and]
    rw [Bool.eq_iff_iff]
    simp only [Bool.and_eq_true, decide_eq_true_eq]
    omega
end Go.Proofs.YtgjckfphallmeaaGreatDoor
namespace Go.Proofs.YtgjckfphallmeaaGreatDoor
open Go
theorem idxF_spec {c : Int} : ∀ (t : List UInt8) (k : Nat), (idxF c t k = -1 ∧ ∀ j, j < t.length → (byteAt t j : Int) ≠ c) ∨ ∃ m, m < t.length ∧ idxF c t k = ((k + m : Nat) : Int) ∧ (byteAt t m : Int) = c ∧ ∀ j, j < m → (byteAt t j : Int) ≠ c
  | [], _ => .inl ⟨rfl, fun j h => absurd h (Nat.not_lt_zero _)⟩
  | x :: t, k => by
    by_cases e : (x.toNat : Int) = c
    · refine .inr ⟨0, by simp, by simp [idxF, e], by simpa [byteAt] using e, fun j h => absurd h (Nat.not_lt_zero _)⟩
    · have e1 : idxF c (x :: t) k = idxF c t (k + 1) := by simp [idxF, e]
      have h0 : ∀ {p : Prop}, (∀ j, j < t.length → (byteAt t j : Int) ≠ c) → ∀ j, j < (x :: t).length → (byteAt (x :: t) j : Int) ≠ c := by
        intro _ h j hj
        cases j with
        | zero => simpa [byteAt] using e
        | succ j => simpa [byteAt] using h j (by simpa using hj)
      rcases idxF_spec (c := c) t (k + 1) with ⟨h1, h2⟩ | ⟨m, h1, h2, h3, h4⟩
      · exact .inl ⟨by rw [e1, h1], h0 (p := True) h2⟩
      · refine .inr ⟨m + 1, by simpa using h1, by rw [e1, h2]; omega, by simpa [byteAt] using h3, fun j hj => ?_⟩
        cases j with
        | zero => simpa [byteAt] using e
        | succ j => simpa [byteAt] using h4 j (by omega)
/-- Where a byte stands first, told by what stands there. -/
theorem idxB_at {s : List UInt8} {c : Int} {i : Nat} (hi : i < s.length) (h : (byteAt s i : Int) = c) (h0 : ∀ j, j < i → (byteAt s j : Int) ≠ c) : idxB s c = i := by
  rcases idxF_spec (c := c) s 0 with ⟨h1, h2⟩ | ⟨m, h1, h2, h3, h4⟩
  · exact absurd h (h2 i hi)
  · unfold idxB
    rw [h2]
    have : m = i := by
      rcases Nat.lt_trichotomy m i with h5 | h5 | h5
      · exact absurd h3 (h0 m h5)
      · exact h5
      · exact absurd h (h4 i h5)
    omega
theorem idxB_none {s : List UInt8} {c : Int} (h0 : ∀ j, j < s.length → (byteAt s j : Int) ≠ c) : idxB s c = -1 := by
  rcases idxF_spec (c := c) s 0 with ⟨h1, h2⟩ | ⟨m, h1, h2, h3, h4⟩
  · exact h1
  · exact absurd h3 (h0 m h1)
theorem idxB_cases (s : List UInt8) (c : Int) : (idxB s c = -1 ∧ ∀ j, j < s.length → (byteAt s j : Int) ≠ c) ∨ ∃ m, m < s.length ∧ idxB s c = (m : Int) ∧ (byteAt s m : Int) = c ∧ ∀ j, j < m → (byteAt s j : Int) ≠ c := by
  rcases idxF_spec (c := c) s 0 with h | ⟨m, h1, h2, h3⟩
  · exact .inl h
  · exact .inr ⟨m, h1, by unfold idxB; rw [h2]; omega, h3⟩
/-- A byte that may stand in a scheme, at a place. -/
def schB (i : Nat) (c : Int) : Bool := decide ((97 ≤ c ∧ c ≤ 122) ∨ (65 ≤ c ∧ c ≤ 90) ∨ (0 < i ∧ ((48 ≤ c ∧ c ≤ 57) ∨ c = 43 ∨ c = 45 ∨ c = 46)))
theorem schB_t {i : Nat} {c : Int} : schB i c = true ↔ ((97 ≤ c ∧ c ≤ 122) ∨ (65 ≤ c ∧ c ≤ 90) ∨ (0 < i ∧ ((48 ≤ c ∧ c ≤ 57) ∨ c = 43 ∨ c = 45 ∨ c = 46))) := by simp [schB]
theorem schB_f {i : Nat} {c : Int} : schB i c = false ↔ ¬ ((97 ≤ c ∧ c ≤ 122) ∨ (65 ≤ c ∧ c ≤ 90) ∨ (0 < i ∧ ((48 ≤ c ∧ c ≤ 57) ∨ c = 43 ∨ c = 45 ∨ c = 46))) := by simp [schB]
/-- How many bytes the scheme has. -/
def begN (s : List UInt8) : Nat := if idxB s 58 < 1 then 0 else if ∀ j, j < (idxB s 58).toNat → schB j (byteAt s j) = true then (idxB s 58).toNat else 0
theorem begN_at {s : List UInt8} {i : Nat} (hi : i < s.length) (h : (byteAt s i : Int) = 58) (h0 : ∀ j, j < i → (byteAt s j : Int) ≠ 58 ∧ schB j (byteAt s j) = true) : begN s = i := by
  have e := idxB_at hi h fun j hj => (h0 j hj).1
  unfold begN
  rw [e]
  by_cases h1 : (i : Int) < 1
  · rw [if_pos h1]; omega
  · rw [if_neg h1, if_pos (fun j hj => (h0 j (by omega)).2)]
    omega
theorem begN_bad {s : List UInt8} {i : Nat} (hi : i < s.length) (h : (byteAt s i : Int) ≠ 58) (hb : schB i (byteAt s i) = false) (h0 : ∀ j, j < i → (byteAt s j : Int) ≠ 58 ∧ schB j (byteAt s j) = true) : begN s = 0 := by
  rcases idxB_cases s 58 with ⟨h1, _⟩ | ⟨m, h1, h2, h3, h4⟩
  · unfold begN; rw [h1]; rfl
  · have : i < m := by
      rcases Nat.lt_trichotomy m i with h5 | h5 | h5
      · exact absurd h3 (h0 m h5).1
      · subst h5; exact absurd h3 h
      · exact h5
    unfold begN
    rw [h2]
    split
    · rfl
    · rw [if_neg]
      intro hh
      have := hh i (by omega)
      rw [hb] at this
      cases this
theorem begN_none {s : List UInt8} (h0 : ∀ j, j < s.length → (byteAt s j : Int) ≠ 58) : begN s = 0 := by
  unfold begN; rw [idxB_none h0]; rfl
theorem begN_lt {s : List UInt8} (h : begN s ≠ 0) : begN s < s.length ∧ byteAt s (begN s) = 58 ∧ idxB s 58 = begN s := by
  rcases idxB_cases s 58 with ⟨h1, _⟩ | ⟨m, h1, h2, h3, h4⟩
  · unfold begN at h; rw [h1] at h; exact absurd rfl h
  · have e : begN s = m := by
      unfold begN at *
      generalize idxB s 58 = z at *
      subst h2
      by_cases e1 : (m : Int) < 1
      · rw [if_pos e1] at h; exact absurd rfl h
      · rw [if_neg e1] at h ⊢
        by_cases e2 : ∀ j, j < (m : Int).toNat → schB j (byteAt s j) = true
        · rw [if_pos e2]; omega
        · rw [if_neg e2] at h; exact absurd rfl h
    rw [e]
    exact ⟨h1, by omega, h2⟩
set_option maxRecDepth 20000
set_option maxHeartbeats 4000000
set_option linter.unusedSimpArgs false
set_option linter.unusedVariables false
attribute [local irreducible] AWp AOps byteAt SrcOK OrOk GloAll FnSpec
attribute [local irreducible] idxB begN schB
theorem uri_begins {G : Glo} (s : List UInt8) (hl : s.length ≤ 9223372036854775807) : FnIs Tryz.prog G 50 [.str s] (.int .i64 (begN s)) := by
  have hGL : GloAll G [] := gloAll_nil
  refine fn_x Tryz.func50 Tryz.call50 rfl rfl rfl rfl hGL ?_
  intro C hC
  repeat' (first
    | (conv => whnf); first
      | refine .w ?_ | refine .v ?_ | apply sc_true | apply sc_false
      | (first | apply sc_lt | apply sc_nlt | apply sc_eq | apply sc_neq | apply sc_nil | apply sc_nnil | apply sc_seq | apply sc_nseq) <;> (intro hb; try exact dd hb)
      | apply sc_not | apply sc_or | (apply sc_i <;> intro hb)
      | (apply bx_i; intro hbd) | (apply gt_i; assumption; exact rfl)
      | (apply cx_is; first | fail) | (apply cx_do (i := 0) rfl; first | fail)
      | (apply ab_i; intro bl) | (apply as_i; intro va vk vc hva) | (apply av_i; intro v) | (apply ac_i; intro bl cap hcap)
      | apply bo_l | (apply nx_i <;> intro hnx) | (apply Ia.hit; assumption) | (apply Ia.miss; assumption)
      | (apply rt_is; exact rfl) | exact rt_w | (apply iv; assumption)
      | apply dw_q mixed hC hGL (by kernel_rfl) | (apply cq; assumption; (first | fail); exact rfl))
  all_goals (try conv => whnf)
  refine lp hC hGL (fun (i : Nat) => [(0, .str s), (6, .int .i64 s.length), (7, .int .i64 i)]) (fun _ => []) (fun i => i ≤ s.length ∧ ∀ j, j < i → (byteAt s j : Int) ≠ 58 ∧ schB j (byteAt s j) = true) (fun i => s.length - i) 0 ?_ env_w rfl ?_
  · exact ⟨Nat.zero_le _, by intro j hj; omega⟩
  rintro i ⟨hi, hb0⟩
  repeat' (first
    | (conv => whnf); first
      | refine .w ?_ | refine .v ?_ | apply sc_true | apply sc_false
      | (first | apply sc_lt | apply sc_nlt | apply sc_eq | apply sc_neq | apply sc_nil | apply sc_nnil | apply sc_seq | apply sc_nseq) <;> (intro hb; try exact dd hb)
      | apply sc_not | apply sc_or | (apply sc_i <;> intro hb)
      | (apply bx_i; intro hbd) | (apply gt_i; assumption; exact rfl)
      | (apply cx_is; first | fail) | (apply cx_do (i := 0) rfl; first | fail)
      | (apply ab_i; intro bl) | (apply as_i; intro va vk vc hva) | (apply av_i; intro v) | (apply ac_i; intro bl cap hcap)
      | apply bo_l | (apply nx_i <;> intro hnx) | (apply Ia.hit; assumption) | (apply Ia.miss; assumption)
      | (apply rt_is; exact rfl) | exact rt_w | (apply iv; assumption)
      | apply dw_q mixed hC hGL (by kernel_rfl) | (apply cq; assumption; (first | fail); exact rfl))
  all_goals (try conv => whnf)
  all_goals first
    | (apply rt_is; refine congrArg (AVal.int .i64) ?_; rw [begN_at (i := i) (by omega) (by omega) hb0]; first | done | rfl)
    | (apply rt_is; refine congrArg (AVal.int .i64) ?_; rw [begN_bad (i := i) (by omega) (by omega) (schB_f.2 (by omega)) hb0]; first | done | rfl)
    | (apply rt_is; refine congrArg (AVal.int .i64) ?_; rw [begN_none (fun j hj => (hb0 j (by omega)).1)]; first | done | rfl)
    | (refine nxt (i + 1) ?_ ?_ env_w rfl
       · exact ⟨by omega, below_succ hb0 ⟨by omega, schB_t.2 (by omega)⟩⟩
       · omega)
def schE (s : List UInt8) : Int := if begN s = 0 then 8 else 0
/-- No byte that may not be seen, from a place on. -/
def graphB (c : Int) : Bool := decide (33 ≤ c ∧ c ≤ 126)
theorem graphB_t {c : Int} : graphB c = true ↔ (33 ≤ c ∧ c ≤ 126) := by simp [graphB]
theorem graphB_f {c : Int} : graphB c = false ↔ ¬ (33 ≤ c ∧ c ≤ 126) := by simp [graphB]
/-- The first byte of which something holds. -/
def fstG (f : Int → Bool) : List UInt8 → Nat → Int
  | [], _ => -1
  | x :: t, k => if f (x.toNat : Int) then k else fstG f t (k + 1)
def fstB (f : Int → Bool) (s : List UInt8) : Int := fstG f s 0
theorem fstG_spec {f : Int → Bool} : ∀ (t : List UInt8) (k : Nat), (fstG f t k = -1 ∧ ∀ j, j < t.length → f (byteAt t j : Int) = false) ∨ ∃ m, m < t.length ∧ fstG f t k = ((k + m : Nat) : Int) ∧ f (byteAt t m : Int) = true ∧ ∀ j, j < m → f (byteAt t j : Int) = false
  | [], _ => .inl ⟨rfl, fun j h => absurd h (Nat.not_lt_zero _)⟩
  | x :: t, k => by
    by_cases e : f (x.toNat : Int) = true
    · refine .inr ⟨0, by simp, by simp [fstG, e], by simpa [byteAt] using e, fun j h => absurd h (Nat.not_lt_zero _)⟩
    · have e1 : fstG f (x :: t) k = fstG f t (k + 1) := by simp [fstG, e]
      rcases fstG_spec (f := f) t (k + 1) with ⟨h1, h2⟩ | ⟨m, h1, h2, h3, h4⟩
      · refine .inl ⟨by rw [e1, h1], fun j hj => ?_⟩
        cases j with
        | zero => simpa [byteAt] using e
        | succ j => simpa [byteAt] using h2 j (by simpa using hj)
      · refine .inr ⟨m + 1, by simpa using h1, by rw [e1, h2]; omega, by simpa [byteAt] using h3, fun j hj => ?_⟩
        cases j with
        | zero => simpa [byteAt] using e
        | succ j => simpa [byteAt] using h4 j (by omega)
theorem fstB_at {f : Int → Bool} {s : List UInt8} {i : Nat} (hi : i < s.length) (h : f (byteAt s i : Int) = true) (h0 : ∀ j, j < i → f (byteAt s j : Int) = false) : fstB f s = i := by
  rcases fstG_spec (f := f) s 0 with ⟨h1, h2⟩ | ⟨m, h1, h2, h3, h4⟩
  · rw [h2 i hi] at h; cases h
  · unfold fstB
    rw [h2]
    have : m = i := by
      rcases Nat.lt_trichotomy m i with h5 | h5 | h5
      · rw [h0 m h5] at h3; cases h3
      · exact h5
      · rw [h4 i h5] at h; cases h
    omega
theorem fstB_none {f : Int → Bool} {s : List UInt8} (h0 : ∀ j, j < s.length → f (byteAt s j : Int) = false) : fstB f s = -1 := by
  rcases fstG_spec (f := f) s 0 with ⟨h1, h2⟩ | ⟨m, h1, h2, h3, h4⟩
  · exact h1
  · rw [h0 m h1] at h3; cases h3
attribute [local irreducible] graphB fstB
theorem ref_firstOf {G : Glo} (s : List UInt8) (f : Nat) (p : Int → Bool) (hl : s.length ≤ 9223372036854775807) (hp : ∀ c : Nat, c < 256 → FnIs Tryz.prog G f [.int .u8 (c : Int)] (.bool (p c))) : FnIs Tryz.prog G 29 [.str s, .func (.func f) [] []] (.int .i64 (fstB p s)) := by
  have hGL : GloAll G [] := gloAll_nil
  refine fn_x Tryz.func29 Tryz.call29 rfl rfl rfl rfl hGL ?_
  intro C hC
  repeat' (first
    | (conv => whnf); first
      | refine .w ?_ | refine .v ?_ | apply sc_true | apply sc_false
      | (first | apply sc_lt | apply sc_nlt | apply sc_eq | apply sc_neq | apply sc_nil | apply sc_nnil | apply sc_seq | apply sc_nseq) <;> (intro hb; try exact dd hb)
      | apply sc_not | apply sc_or | (apply sc_i <;> intro hb)
      | (apply bx_i; intro hbd) | (apply gt_i; assumption; exact rfl)
      | (apply cx_is; first | fail) | (apply cx_do (i := 0) rfl; first | fail)
      | (apply ab_i; intro bl) | (apply as_i; intro va vk vc hva) | (apply av_i; intro v) | (apply ac_i; intro bl cap hcap)
      | apply bo_l | (apply nx_i <;> intro hnx) | (apply Ia.hit; assumption) | (apply Ia.miss; assumption)
      | (apply rt_is; exact rfl) | exact rt_w | (apply iv; assumption)
      | apply dw_q mixed hC hGL (by kernel_rfl) | (apply cq; assumption; (first | fail); exact rfl))
  all_goals (try conv => whnf)
  refine lp hC hGL (fun (i : Nat) => [(1, .func (.func f) [] []), (8, .own 0 (.slice (some ⟨bl, 0, none⟩) s.length cap)), (9, .int .i64 s.length), (10, .int .i64 i)]) (fun _ => [.buf bl s cap]) (fun i => i ≤ s.length ∧ ∀ j, j < i → p (byteAt s j : Int) = false) (fun i => s.length - i) 0 ?_ env_w rfl ?_
  · exact ⟨Nat.zero_le _, by intro j hj; omega⟩
  rintro i ⟨hi, hb0⟩
  repeat' (first
    | (conv => whnf); first
      | refine .w ?_ | refine .v ?_ | apply sc_true | apply sc_false
      | (first | apply sc_lt | apply sc_nlt | apply sc_eq | apply sc_neq | apply sc_nil | apply sc_nnil | apply sc_seq | apply sc_nseq) <;> (intro hb; try exact dd hb)
      | apply sc_not | apply sc_or | (apply sc_i <;> intro hb)
      | (apply bx_i; intro hbd) | (apply gt_i; assumption; exact rfl)
      | (apply cx_is; first | exact hp _ (by omega)) | (apply cx_do (i := 0) rfl; first | exact hp _ (by omega))
      | (apply ab_i; intro bl) | (apply as_i; intro va vk vc hva) | (apply av_i; intro v) | (apply ac_i; intro bl cap hcap)
      | apply bo_l | (apply nx_i <;> intro hnx) | (apply Ia.hit; assumption) | (apply Ia.miss; assumption)
      | (apply rt_is; exact rfl) | exact rt_w | (apply iv; assumption)
      | apply dw_q mixed hC hGL (by kernel_rfl) | (apply cq; assumption; (first | exact hp _ (by omega)); exact rfl))
  all_goals (try conv => whnf)
  · apply rt_is
    rw [fstB_at (i := i) (by omega) hb hb0]
  · refine nxt (i + 1) ?_ ?_ env_w rfl
    · exact ⟨by omega, below_succ hb0 hb⟩
    · omega
  · apply rt_is
    rw [fstB_none (fun j hj => hb0 j (by omega))]
    rfl
theorem idx_sch0 {c : Int} (h0 : 0 ≤ c) (h1 : c ≤ 255) : decide (idxB ((abcU ++ abcL) ++ []) c < 0) = !schB 0 c := by
  have := all_bytes (p := fun c => decide (idxB ((abcU ++ abcL) ++ []) c < 0) == !schB 0 c) (by decide +kernel) h0 h1
  simpa using this
def schD : List UInt8 := [48, 49, 50, 51, 52, 53, 54, 55, 56, 57, 43, 45, 46]
theorem idx_sch1 {c : Int} (h0 : 0 ≤ c) (h1 : c ≤ 255) : decide (idxB ((abcU ++ abcL) ++ schD) c < 0) = !schB 1 c := by
  have := all_bytes (p := fun c => decide (idxB ((abcU ++ abcL) ++ schD) c < 0) == !schB 1 c) (by decide +kernel) h0 h1
  simpa using this
theorem schB_zero {i : Nat} {c : Int} (h : i = 0) : schB i c = schB 0 c := by rw [h]
theorem schB_succ {i : Nat} {c : Int} (h : 0 < i) : schB i c = schB 1 c := by
  rw [Bool.eq_iff_iff, schB_t, schB_t]; omega
theorem begN_all {s : List UInt8} {m : Nat} (hm : idxB s 58 = m) (h1 : 0 < m) (h : ∀ j, j < m → schB j (byteAt s j) = true) : begN s = m := by
  unfold begN
  rw [hm, if_neg (by omega), if_pos (fun j hj => h j (by omega))]
  omega
theorem begN_not {s : List UInt8} {m : Nat} (hm : idxB s 58 = m) {i : Nat} (hi : i < m) (h : schB i (byteAt s i) = false) : begN s = 0 := by
  unfold begN
  rw [hm]
  split
  · rfl
  · rw [if_neg]
    intro hh
    have := hh i (by omega)
    rw [h] at this
    cases this
theorem ref_Scheme {G : Glo} (s : List UInt8) (hl : s.length ≤ 9223372036854775807) : FnIs Tryz.prog G 57 [.str s] (.tuple [.str (s.take (begN s)), .int .i64 (schE s)]) := by
  have hGL : GloAll G [] := gloAll_nil
  refine fn_x Tryz.func57 Tryz.call57 rfl rfl rfl rfl hGL ?_
  intro C hC
  have hI := strings_IndexByte (G := G) s 58 (by decide) (by decide)
  have hT := toLower_abc (G := G)
  have hJ0 := fun c h0 h1 => strings_IndexByte (G := G) ((abcU ++ abcL) ++ []) c h0 h1
  have hJ1 := fun c h0 h1 => strings_IndexByte (G := G) ((abcU ++ abcL) ++ schD) c h0 h1
  have hle : idxB s 58 < s.length := by
    rcases idxB_cases s 58 with ⟨h1, _⟩ | ⟨m, h1, h2, _⟩ <;> omega
  repeat' (first
    | (conv => whnf); first
      | refine .w ?_ | refine .v ?_ | apply sc_true | apply sc_false
      | (first | apply sc_lt | apply sc_nlt | apply sc_eq | apply sc_neq | apply sc_nil | apply sc_nnil | apply sc_seq | apply sc_nseq) <;> (intro hb; try exact dd hb)
      | apply sc_not | apply sc_or | (apply sc_i <;> intro hb)
      | (apply bx_i; intro hbd) | (apply gt_i; assumption; exact rfl)
      | (apply cx_is; first | exact hI) | (apply cx_do (i := 0) rfl; first | exact hI)
      | (apply ab_i; intro bl) | (apply as_i; intro va vk vc hva) | (apply av_i; intro v) | (apply ac_i; intro bl cap hcap)
      | apply bo_l | (apply nx_i <;> intro hnx) | (apply Ia.hit; assumption) | (apply Ia.miss; assumption)
      | (apply rt_is; exact rfl) | exact rt_w | (apply iv; assumption)
      | apply dw_q mixed hC hGL (by kernel_rfl) | (apply cq; assumption; (first | exact hI); exact rfl))
  all_goals (try conv => whnf)
  · apply rt_is
    have e : begN s = 0 := by unfold begN; rw [if_pos (by omega)]
    rw [schE, if_pos e, e]
    rfl
  have hm0 : ∃ m : Nat, idxB s 58 = m ∧ 0 < m ∧ m < s.length := ⟨(idxB s 58).toNat, by omega, by omega, by omega⟩
  obtain ⟨m, hm, hm1, hm2⟩ := hm0
  have hA := begN_all hm hm1
  have hN := fun i hi h => begN_not (i := i) hm hi h
  have hbt := fun j (hj : j < m) => byteAt_take (s := s) hj
  rw [hm] at *
  rw [show (m : Int).toNat = m from rfl] at *
  have ht : (s.take m).length = m := by rw [List.length_take]; omega
  rw [ht] at *
  refine lp hC hGL (fun (i : Nat) => [(0, .str s), (4, .int .i64 m), (15, .own 0 (.slice (some ⟨bl, 0, none⟩) m cap)), (16, .int .i64 m), (17, .int .i64 i)]) (fun _ => [.buf bl (s.take m) cap]) (fun i => i ≤ m ∧ ∀ j, j < i → schB j (byteAt s j) = true) (fun i => m - i) 0 ?_ env_w rfl ?_
  · exact ⟨Nat.zero_le _, by intro j hj; omega⟩
  rintro i ⟨hi, hb0⟩
  repeat' (first
    | (conv => whnf); first
      | refine .w ?_ | refine .v ?_ | apply sc_true | apply sc_false
      | (first | apply sc_lt | apply sc_nlt | apply sc_eq | apply sc_neq | apply sc_nil | apply sc_nnil | apply sc_seq | apply sc_nseq) <;> (intro hb; try exact dd hb)
      | apply sc_not | apply sc_or | (apply sc_i <;> intro hb)
      | (apply bx_i; intro hbd) | (apply gt_i; assumption; exact rfl)
      | (apply cx_is; first | exact hT | (exact hJ0 _ (by omega) (by omega)) | (exact hJ1 _ (by omega) (by omega))) | (apply cx_do (i := 0) rfl; first | exact hT | (exact hJ0 _ (by omega) (by omega)) | (exact hJ1 _ (by omega) (by omega)))
      | (apply ab_i; intro bl) | (apply as_i; intro va vk vc hva) | (apply av_i; intro v) | (apply ac_i; intro bl cap hcap)
      | apply bo_l | (apply nx_i <;> intro hnx) | (apply Ia.hit; assumption) | (apply Ia.miss; assumption)
      | (apply rt_is; exact rfl) | exact rt_w | (apply iv; assumption)
      | apply dw_q mixed hC hGL (by kernel_rfl) | (apply cq; assumption; (first | exact hT | (exact hJ0 _ (by omega) (by omega)) | (exact hJ1 _ (by omega) (by omega))); exact rfl))
  all_goals (try conv => whnf)
  · apply rt_is
    have hx := idx_sch0 (c := (byteAt (s.take m) i : Int)) (by omega) (by omega)
    rw [decide_eq_true hb, hbt i (by omega)] at hx
    have e := hN i (by omega) (by rw [schB_zero (by omega)]; simpa using hx.symm)
    rw [schE, if_pos e, e]
    rfl
  · have hx := idx_sch0 (c := (byteAt (s.take m) i : Int)) (by omega) (by omega)
    rw [decide_eq_false (by omega), hbt i (by omega)] at hx
    refine nxt (i + 1) ?_ ?_ env_w rfl
    · exact ⟨by omega, below_succ hb0 (by rw [schB_zero (by omega)]; simpa using hx.symm)⟩
    · omega
  · apply rt_is
    have hx := idx_sch1 (c := (byteAt (s.take m) i : Int)) (by omega) (by omega)
    rw [decide_eq_true hb, hbt i (by omega)] at hx
    have e := hN i (by omega) (by rw [schB_succ (by omega)]; simpa using hx.symm)
    rw [schE, if_pos e, e]
    rfl
  · have hx := idx_sch1 (c := (byteAt (s.take m) i : Int)) (by omega) (by omega)
    rw [decide_eq_false (by omega), hbt i (by omega)] at hx
    refine nxt (i + 1) ?_ ?_ env_w rfl
    · exact ⟨by omega, below_succ hb0 (by rw [schB_succ (by omega)]; simpa using hx.symm)⟩
    · omega
  · apply rt_is
    have e := hA (fun j hj => hb0 j (by omega))
    rw [schE, if_neg (by omega), e]
    rfl
def nographB (c : Int) : Bool := !graphB c
theorem nographB_t {c : Int} : nographB c = true ↔ ¬ (33 ≤ c ∧ c ≤ 126) := by simp [nographB, graphB_t, graphB_f]
theorem nographB_f {c : Int} : nographB c = false ↔ (33 ≤ c ∧ c ≤ 126) := by simp [nographB, graphB_t]
/-- What is wrong with a text as a URI. -/
def uriE (s : List UInt8) : Err := if begN s = 0 then .errno 8 else if 0 ≤ fstB nographB s then .at 3 (fstB nographB s) else if begN s + 1 = s.length then .at 7 s.length else .none
attribute [local irreducible] nographB
theorem uri_Right {G : Glo} (s : List UInt8) (hl : s.length ≤ 9223372036854775807) : FnIs Tryz.prog G 23 [.str s] (uriE s).A := by
  have hGL : GloAll G [] := gloAll_nil
  refine fn_x Tryz.func23 Tryz.call23 rfl rfl rfl rfl hGL ?_
  intro C hC
  have hb0 := uri_begins (G := G) s hl
  have hlt : begN s ≠ 0 → begN s < s.length := fun h => (begN_lt h).1
  repeat' (first
    | (conv => whnf); first
      | refine .w ?_ | refine .v ?_ | apply sc_true | apply sc_false
      | (first | apply sc_lt | apply sc_nlt | apply sc_eq | apply sc_neq | apply sc_nil | apply sc_nnil | apply sc_seq | apply sc_nseq) <;> (intro hb; try exact dd hb)
      | apply sc_not | apply sc_or | (apply sc_i <;> intro hb)
      | (apply bx_i; intro hbd) | (apply gt_i; assumption; exact rfl)
      | (apply cx_is; first | exact hb0) | (apply cx_do (i := 0) rfl; first | exact hb0)
      | (apply ab_i; intro bl) | (apply as_i; intro va vk vc hva) | (apply av_i; intro v) | (apply ac_i; intro bl cap hcap)
      | apply bo_l | (apply nx_i <;> intro hnx) | (apply Ia.hit; assumption) | (apply Ia.miss; assumption)
      | (apply rt_is; exact rfl) | exact rt_w | (apply iv; assumption)
      | apply dw_q mixed hC hGL (by kernel_rfl) | (apply cq; assumption; (first | exact hb0); exact rfl))
  all_goals (try conv => whnf)
  · apply rt_is
    rw [uriE, if_pos (by omega)]
    rfl
  refine lp hC hGL (fun (i : Nat) => [(0, .str s), (3, .int .i64 (begN s)), (11, .int .i64 s.length), (12, .int .i64 i)]) (fun _ => []) (fun i => i ≤ s.length ∧ ∀ j, j < i → nographB (byteAt s j) = false) (fun i => s.length - i) 0 ?_ env_w rfl ?_
  · exact ⟨Nat.zero_le _, by intro j hj; omega⟩
  rintro i ⟨hi, hg0⟩
  repeat' (first
    | (conv => whnf); first
      | refine .w ?_ | refine .v ?_ | apply sc_true | apply sc_false
      | (first | apply sc_lt | apply sc_nlt | apply sc_eq | apply sc_neq | apply sc_nil | apply sc_nnil | apply sc_seq | apply sc_nseq) <;> (intro hb; try exact dd hb)
      | apply sc_not | apply sc_or | (apply sc_i <;> intro hb)
      | (apply bx_i; intro hbd) | (apply gt_i; assumption; exact rfl)
      | (apply cx_is; first | fail) | (apply cx_do (i := 0) rfl; first | fail)
      | (apply ab_i; intro bl) | (apply as_i; intro va vk vc hva) | (apply av_i; intro v) | (apply ac_i; intro bl cap hcap)
      | apply bo_l | (apply nx_i <;> intro hnx) | (apply Ia.hit; assumption) | (apply Ia.miss; assumption)
      | (apply rt_is; exact rfl) | exact rt_w | (apply iv; assumption)
      | apply dw_q mixed hC hGL (by kernel_rfl) | (apply cq; assumption; (first | fail); exact rfl))
  all_goals (try conv => whnf)
  · apply rt_is
    rw [uriE, if_neg (by omega), fstB_at (i := i) (by omega) (nographB_t.2 (by omega)) hg0, if_pos (by omega)]
    rfl
  · apply rt_is
    rw [uriE, if_neg (by omega), fstB_at (i := i) (by omega) (nographB_t.2 (by omega)) hg0, if_pos (by omega)]
    rfl
  · refine nxt (i + 1) ?_ ?_ env_w rfl
    · exact ⟨by omega, below_succ hg0 (nographB_f.2 (by omega))⟩
    · omega
  · apply rt_is
    rw [uriE, if_neg (by omega), fstB_none (fun j hj => hg0 j (by omega)), if_neg (by omega), if_pos (by omega)]
    rfl
  · apply rt_is
    rw [uriE, if_neg (by omega), fstB_none (fun j hj => hg0 j (by omega)), if_neg (by omega), if_neg (by omega)]
    rfl
theorem ref_graph {G : Glo} (c : Int) (h0 : 0 ≤ c) (h1 : c ≤ 255) : FnIs Tryz.prog G 59 [.int .u8 c] (.bool (graphB c)) := by
  have hGL : GloAll G [] := gloAll_nil
  refine fn_x Tryz.func59 Tryz.call59 rfl rfl rfl rfl hGL ?_
  intro C hC
  have hw := ref_within (G := G) c 33 126
  repeat' (first
    | (conv => whnf); first
      | refine .w ?_ | refine .v ?_ | apply sc_true | apply sc_false
      | (first | apply sc_lt | apply sc_nlt | apply sc_eq | apply sc_neq | apply sc_nil | apply sc_nnil | apply sc_seq | apply sc_nseq) <;> (intro hb; try exact dd hb)
      | apply sc_not | apply sc_or | (apply sc_i <;> intro hb)
      | (apply bx_i; intro hbd) | (apply gt_i; assumption; exact rfl)
      | (apply cx_is; first | exact hw) | (apply cx_do (i := 0) rfl; first | exact hw)
      | (apply ab_i; intro bl) | (apply as_i; intro va vk vc hva) | (apply av_i; intro v) | (apply ac_i; intro bl cap hcap)
      | apply bo_l | (apply nx_i <;> intro hnx) | (apply Ia.hit; assumption) | (apply Ia.miss; assumption)
      | (apply rt_is; exact rfl) | exact rt_w | (apply iv; assumption)
      | apply dw_q mixed hC hGL (by kernel_rfl) | (apply cq; assumption; (first | exact hw); exact rfl))
  all_goals (try conv => whnf)
  apply rt_is
  refine congrArg AVal.bool ?_
  rw [Bool.eq_iff_iff, graphB_t]
  simp
theorem ref_notgraph {G : Glo} (c : Int) (h0 : 0 ≤ c) (h1 : c ≤ 255) : FnIs Tryz.prog G 58 [.int .u8 c] (.bool (nographB c)) := by
  have hGL : GloAll G [] := gloAll_nil
  refine fn_x Tryz.func58 Tryz.call58 rfl rfl rfl rfl hGL ?_
  intro C hC
  have hw := ref_graph (G := G) c h0 h1
  repeat' (first
    | (conv => whnf); first
      | refine .w ?_ | refine .v ?_ | apply sc_true | apply sc_false
      | (first | apply sc_lt | apply sc_nlt | apply sc_eq | apply sc_neq | apply sc_nil | apply sc_nnil | apply sc_seq | apply sc_nseq) <;> (intro hb; try exact dd hb)
      | apply sc_not | apply sc_or | (apply sc_i <;> intro hb)
      | (apply bx_i; intro hbd) | (apply gt_i; assumption; exact rfl)
      | (apply cx_is; first | exact hw) | (apply cx_do (i := 0) rfl; first | exact hw)
      | (apply ab_i; intro bl) | (apply as_i; intro va vk vc hva) | (apply av_i; intro v) | (apply ac_i; intro bl cap hcap)
      | apply bo_l | (apply nx_i <;> intro hnx) | (apply Ia.hit; assumption) | (apply Ia.miss; assumption)
      | (apply rt_is; exact rfl) | exact rt_w | (apply iv; assumption)
      | apply dw_q mixed hC hGL (by kernel_rfl) | (apply cq; assumption; (first | exact hw); exact rfl))
  all_goals (try conv => whnf)
  apply rt_is
  unfold nographB
  rfl
theorem ref_UriRight {G : Glo} (s : List UInt8) (hl : s.length ≤ 9223372036854775807) : FnIs Tryz.prog G 33 [.str s] (.agg [.int .i64 (uriE s).e, .int .i64 (uriE s).p]) := by
  have hGL : GloAll G [] := gloAll_nil
  refine fn_x Tryz.func33 Tryz.call33 rfl rfl rfl rfl hGL ?_
  intro C hC
  have h1 := ref_Scheme (G := G) s hl
  have h2 := ref_firstOf (G := G) s 58 nographB hl (fun c hc => ref_notgraph (G := G) c (by omega) (by omega))
  have h3 := ref_Bare (G := G)
  have h4 := ref_Good (G := G)
  have hn : schE s = 0 → begN s < s.length ∧ begN s ≠ 0 := fun h => by
    unfold schE at h
    split at h
    · cases h
    · exact ⟨(begN_lt (by assumption)).1, by assumption⟩
  have hln : schE s = 0 → (s.take (begN s)).length = begN s := fun h => by
    have := (hn h).1
    rw [List.length_take]; omega
  have hs58 : schE s = 0 → (s = s.take (begN s) ++ [58] ↔ begN s + 1 = s.length) := fun h => by
    have h1 := hn h
    have h2 := hln h
    have h3 := (begN_lt h1.2).2.1
    constructor
    · intro e
      have := congrArg List.length e
      rw [List.length_append, h2] at this
      simpa using this.symm
    · intro e
      refine List.ext_getElem (by rw [List.length_append, h2]; simpa using e.symm) (fun j j1 j2 => ?_)
      by_cases hj : j < begN s
      · rw [List.getElem_append_left (by omega), List.getElem_take]
      · rw [List.getElem_append_right (by omega)]
        have ej : j = begN s := by omega
        subst ej
        rw [byteAt_getElem (by omega)] at h3
        have : s[begN s] = 58 := UInt8.toNat_inj.1 (by simpa using h3)
        simp [h2, this]
  repeat' (first
    | (conv => whnf); first
      | refine .w ?_ | refine .v ?_ | apply sc_true | apply sc_false
      | (first | apply sc_lt | apply sc_nlt | apply sc_eq | apply sc_neq | apply sc_nil | apply sc_nnil | apply sc_seq | apply sc_nseq) <;> (intro hb; try exact dd hb)
      | apply sc_not | apply sc_or | (apply sc_i <;> intro hb)
      | (apply bx_i; intro hbd) | (apply gt_i; assumption; exact rfl)
      | (apply cx_is; first | exact h1 | exact h2 | exact h3 _ | exact h4) | (apply cx_do (i := 0) rfl; first | exact h1 | exact h2 | exact h3 _ | exact h4)
      | (apply ab_i; intro bl) | (apply as_i; intro va vk vc hva) | (apply av_i; intro v) | (apply ac_i; intro bl cap hcap)
      | apply bo_l | (apply nx_i <;> intro hnx) | (apply Ia.hit; assumption) | (apply Ia.miss; assumption)
      | (apply rt_is; exact rfl) | exact rt_w | (apply iv; assumption)
      | apply dw_q mixed hC hGL (by kernel_rfl) | (apply cq; assumption; (first | exact h1 | exact h2 | exact h3 _ | exact h4); exact rfl))
  all_goals (try conv => whnf)
  · apply rt_is
    have e : begN s = 0 := by unfold schE at hb; split at hb; assumption; exact absurd rfl hb
    rw [uriE, schE, if_pos e, if_pos e]
    rfl
  · apply rt_is
    rw [uriE, if_neg (hn (by assumption)).2, if_pos (by omega)]
    rfl
  · apply rt_is
    rw [uriE, if_neg (hn (by assumption)).2, if_neg (by omega), if_pos ((hs58 (by assumption)).1 hb)]
    rfl
  · apply rt_is
    rw [uriE, if_neg (hn (by assumption)).2, if_neg (by omega), if_neg (fun h => hb ((hs58 (by assumption)).2 h))]
    rfl
end Go.Proofs.YtgjckfphallmeaaGreatDoor
namespace Go.Proofs.YtgjckfphallmeaaGreatDoor
open Go Go.RowKit
/-- What is known of the bound that package bytealg keeps. -/
noncomputable abbrev maxTy (m : Int) : List (Nat × List AVal) := [(2, [.int .i64 m])]
theorem max_cell {G : Glo} {m : Int} (hU : GloAll G (maxTy m)) {R : Seal} {w : World} (hG : G.p R) (hs : Sealed R w) : w.cell? ⟨2, 0, none⟩ = some (.int .i64 m) := by
  obtain ⟨v, hc, hr⟩ := SealedAt.cell hs (hU 2 [.int .i64 m] rfl R hG) (i := 0) rfl
  have hr : [v] = [Value.int .i64 m] := hr
  rw [(List.cons.inj hr).1] at hc
  exact hc
/-- What the digits' table holds. -/
def PowIs (G : Glo) : Prop := ∀ R, G.p R → ∃ e fz, R 5 = some (.cells (Lib.pow10Tab.map fun z => Value.int .u64 z).toArray e fz)
end Go.Proofs.YtgjckfphallmeaaGreatDoor
namespace Go.Proofs.YtgjckfphallmeaaGreatDoor
open Go Go.RowKit
theorem MS.below {C : Ctx} {R : Seal} {H : Heap} {w w' : World} (h : MS C R H w) (hb : Below w.heap.size w w') : MS C R H w' := by
  have hlt : ∀ {b : Nat} {o : Obj}, w.heap[b]? = some o → b < w.heap.size := fun {b o} h1 => by
    rcases Nat.lt_or_ge b w.heap.size with h | h
    · exact h
    · rw [Array.getElem?_eq_none h] at h1; cases h1
  refine ⟨fun b o ho => ?_, h.ge, h.fresh, ⟨fun x hx => ?_, h.heap.nodup, h.heap.apart⟩, h.own, ?_⟩
  · have h1 := h.sealed b o ho
    rw [hb.block b (hlt h1), h1]
  · exact HEnt.holds_mono (h.heap.holds x hx) (Seal.le_refl R) (fun b hbk => hb.block b (HEnt.blk_lt (h.heap.holds x hx) hbk))
  · exact ⟨hb.os.trans h.ext.os, hb.tape.trans h.ext.tape, hb.output.trans h.ext.output, Nat.le_trans h.ext.size hb.size, fun b hlt hn => by
      rw [hb.block b (Nat.lt_of_lt_of_le hlt h.ext.size)]; exact h.ext.block b hlt hn⟩
/-- A call that leaves all that was there as it was. -/
theorem fnspec_of_calls {P : Program} {G : Glo} {f : FuncId} {avs : List AVal} {H : Heap} {v : AVal} (u : Value) (hu : ∀ R, Rel R v u) (hc : ∀ args w, (callFunc f args).run P w = .ok (.enter f args) w)
    (h : ∀ C R args, RelV R avs args.toList → ∀ w, G.p R → MS C R H w → Calls P f args w fun e w' => e = .returned u ∧ Below w.heap.size w w') : FnSpec P G f avs H (fun r H' => r = .ret v ∧ H' = H) := by
  intro R w args hG hm ha
  refine .inl ⟨hc args w, (h _ R args ha w hG hm).mono ?_⟩
  rintro e w' ⟨rfl, hb⟩
  exact ⟨.ret v, H, R, ⟨rfl, rfl⟩, ⟨_, rfl, hu R⟩, hm.below hb⟩
/-- Texts in a row. -/
def strsC (l : List (List UInt8)) : List AVal := l.map .str
def strsF (l : List (List UInt8)) (i : Nat) : AVal := .str (l.getD i [])
theorem strsF_ok (l : List (List UInt8)) : ∀ i, i < l.length → (strsF l i).cells = ((strsC l).drop (i * 1)).take 1 ∧ (strsF l i).plain = true := by
  intro i hi
  refine ⟨?_, rfl⟩
  have : i < (strsC l).length := by simpa [strsC] using hi
  rw [Nat.mul_one, List.drop_eq_getElem_cons this]
  simp [strsF, AVal.cells, strsC, List.getD, hi]
theorem strsC_snoc (l : List (List UInt8)) (s : List UInt8) : strsC l ++ [.str s] = strsC (l ++ [s]) := by simp [strsC]
theorem strsC_len (l : List (List UInt8)) : (strsC l).length = l.length := by simp [strsC]
def baS (l : List (List UInt8)) : List ByteArray := l.map fun s => ⟨s.toArray⟩
theorem baS_data (l : List (List UInt8)) : (baS l).map (·.data.toList) = l := by
  unfold baS
  rw [List.map_map]
  refine (List.map_congr_left (g := id) fun x _ => ?_).trans (List.map_id l)
  simp
theorem baS_len (l : List (List UInt8)) : (baS l).length = l.length := by simp [baS]
theorem relL_strs_inv {R : Seal} : ∀ {l : List (List UInt8)} {vs : List Value}, RelL R (strsC l) vs → vs = l.map fun s => Value.string ⟨s.toArray⟩
  | [], _, h => h
  | s :: l, _, h => by
    obtain ⟨v, t, rfl, h1, h2⟩ := h
    have h1 : [v] = [.string ⟨s.toArray⟩] := h1
    rw [List.cons.injEq] at h1
    rw [relL_strs_inv h2, h1.1]
    rfl
theorem strs_cell {R : Seal} {w : World} {bl o : Nat} {Cs : Array Value} {e : TypeId} {fz : Nat × Nat} {l : List (List UInt8)} (hb : w.heap[bl]? = some (.cells Cs e fz)) (hl : RelL R (strsC l) ((Cs.toList.drop o).take l.length)) :
    ∀ (j : Nat) x, (baS l)[j]? = some x → w.cell? ⟨bl, o + j, none⟩ = some (.string x) := by
  intro j x hx
  have hj : j < l.length := by have := (List.getElem?_eq_some_iff.1 hx).1; rwa [baS_len] at this
  have := relL_strs_inv hl
  simp only [World.cell?, hb]
  have h2 : ((Cs.toList.drop o).take l.length)[j]? = (l.map fun s => Value.string ⟨s.toArray⟩)[j]? := by rw [this]
  rw [List.getElem?_take_of_lt hj, List.getElem?_drop] at h2
  have hx : x = ⟨(l[j]).toArray⟩ := by
    unfold baS at hx
    rw [List.getElem?_map, List.getElem?_eq_getElem hj] at hx
    simpa using hx.symm
  rw [hx]
  simpa [List.getElem?_eq_getElem hj] using h2
/-- A sealed list of texts: where its cells are. -/
theorem list_strs {R : Seal} {w : World} (hs : Sealed R w) {l : List (List UInt8)} {v : Value} (h : Rel R (.list 1 l.length (strsF l)) v) : ∃ a cap, v = .slice a l.length cap ∧ l.length ≤ cap ∧ (l = [] ∨ ∃ b o C e fz, a = some ⟨b, o, none⟩ ∧ w.heap[b]? = some (.cells C e fz) ∧ RelL R (strsC l) ((C.toList.drop o).take l.length)) := by
  obtain ⟨a, cap, e1, hle, h7⟩ := rel_one h rfl
  simp only [List.cons.injEq, and_true] at e1
  refine ⟨a, cap, e1, hle, ?_⟩
  rcases h7 with h7 | ⟨b, o, C, e, fz, ha, hR, hall⟩
  · exact .inl (List.eq_nil_of_length_eq_zero h7)
  · refine .inr ⟨b, o, C, e, fz, ha, hs _ _ hR, ?_⟩
    have key : ∀ (m : Nat) (l' : List (List UInt8)) (o' : Nat), l'.length = m → (∀ i, i < m → RelC R (strsF l' i) ((C.toList.drop (o' + i * 1)).take 1)) → RelL R (strsC l') ((C.toList.drop o').take m) := by
      intro m
      induction m with
      | zero => intro l' o' hl _; rw [List.eq_nil_of_length_eq_zero hl]; simp [strsC, RelL]
      | succ m ih =>
        intro l' o' hl hi
        match l', hl with
        | s :: t, hl =>
          have h0 := hi 0 (by omega)
          have h0 : (C.toList.drop (o' + 0 * 1)).take 1 = [.string ⟨s.toArray⟩] := h0
          rw [Nat.zero_mul, Nat.add_zero] at h0
          have hlt : o' < C.toList.length := by
            rcases Nat.lt_or_ge o' C.toList.length with h | h
            · exact h
            · rw [List.drop_eq_nil_of_le h] at h0; cases h0
          rw [List.drop_eq_getElem_cons hlt] at h0 ⊢
          simp only [List.take_succ_cons, List.take_zero, List.cons.injEq, and_true] at h0
          rw [List.take_succ_cons, h0]
          refine ⟨_, _, rfl, rfl, ih t (o' + 1) (by simpa using hl) (fun i h => ?_)⟩
          have := hi (i + 1) (by omega)
          rw [show o' + (i + 1) * 1 = o' + 1 + i * 1 by omega] at this
          exact this
    exact key _ l o rfl hall
theorem join_calls {l : List (List UInt8)} {sep : List UInt8} {w : World} {b o cap : Nat} {C : Array Value} {e : TypeId} {fz : Nat × Nat} {R : Seal} (hb : w.heap[b]? = some (.cells C e fz)) (hl : RelL R (strsC l) ((C.toList.drop o).take l.length)) (hcap : l.length ≤ cap) (hN : l.length ≤ 140737488355328) (hlen : (Lib.join l sep).length ≤ 140737488355328) :
    Calls Tryz.prog 39 #[.slice (some ⟨b, o, none⟩) l.length cap, .string ⟨sep.toArray⟩] w fun e w' => e = .returned (.string ⟨(Lib.join l sep).toArray⟩) ∧ Below w.heap.size w w' := by
  have hlt : b < w.heap.size := by
    rcases Nat.lt_or_ge b w.heap.size with h | h
    · exact h
    · rw [Array.getElem?_eq_none h] at hb; cases hb
  have := Tryz.strings_Join b o cap (baS l) ⟨sep.toArray⟩ w (strs_cell hb hl) hlt (by rw [baS_len]; exact hN) (by rw [baS_len]; exact hcap) (by rw [baS_data]; simpa using hlen)
  rw [baS_len, baS_data] at this
  simpa using this
theorem join_none {sep : List UInt8} {w : World} {a : Option Addr} {cap : Nat} : Calls Tryz.prog 39 #[.slice a 0 cap, .string ⟨sep.toArray⟩] w fun e w' => e = .returned (.string ⟨#[]⟩) ∧ Below w.heap.size w w' := by
  refine (Tryz.strings_Join_none a cap ⟨sep.toArray⟩ w).mono ?_
  rintro e w' ⟨rfl, rfl⟩
  exact ⟨rfl, Below.refl _ _⟩
theorem strings_Join_row {G : Glo} {eT : Option TypeId} (l : List (List UInt8)) (sep : List UInt8) (v : Value) (hN : l.length ≤ 140737488355328) (hlen : (Lib.join l sep).length ≤ 140737488355328) :
    FnSpec Tryz.prog G 39 [.raw v, .str sep] [.row v eT 1 l.length (strsC l)] (fun r H => r = .ret (.str (Lib.join l sep)) ∧ H = [.row v eT 1 l.length (strsC l)]) := by
  refine fnspec_of_calls (.string ⟨(Lib.join l sep).toArray⟩) (fun R => rel_str.2 rfl) Tryz.call39 ?_
  rintro C R args ⟨x, t, e, hx, y, t', e', hy, rfl⟩ w hG hm
  obtain rfl := rel_raw.1 hx
  obtain rfl := rel_str.1 hy
  subst e'
  obtain rfl := arr_of e
  obtain ⟨hlen', hx'⟩ := hm.heap.holds _ (List.mem_singleton.2 rfl)
  rcases hx' with ⟨rfl, h0⟩ | ⟨bl, cap, Cs, el, fz, rfl, hb, hcs, hnc, hl, hfz⟩
  · have : l = [] := List.eq_nil_of_length_eq_zero h0
    subst this
    exact join_none
  · exact join_calls (o := 0) hb (by simpa using hl) hnc hN hlen
theorem strings_Join {G : Glo} (l : List (List UInt8)) (sep : List UInt8) (hN : l.length ≤ 140737488355328) (hlen : (Lib.join l sep).length ≤ 140737488355328) :
    FnIs Tryz.prog G 39 [.list 1 l.length (strsF l), .str sep] (.str (Lib.join l sep)) := by
  refine fnis_of_calls rfl Tryz.call39 ?_
  rintro R args ⟨x, t, e, hx, y, t', e', hy, rfl⟩ w hG hs
  obtain rfl := rel_str.1 hy
  subst e'
  obtain ⟨a, cap, rfl, hcap, h7⟩ := list_strs hs hx
  obtain rfl := arr_of e
  rcases h7 with rfl | ⟨b, o, C, e, fz, rfl, hb, hl⟩
  · exact join_none
  · exact join_calls hb hl hcap hN hlen
end Go.Proofs.YtgjckfphallmeaaGreatDoor
namespace Go.Proofs.YtgjckfphallmeaaGreatDoor
open Go Go.RowKit
/-- A text cut at a byte. -/
def splS (c : UInt8) : List UInt8 → List (List UInt8)
  | [] => [[]]
  | x :: t => if x = c then [] :: splS c t else match splS c t with
    | [] => [[x]]
    | p :: ps => (x :: p) :: ps
theorem splS_ne (c : UInt8) : ∀ s : List UInt8, splS c s ≠ []
  | [] => by simp [splS]
  | x :: t => by
    unfold splS
    split
    · simp
    · split <;> simp
theorem index_nil1 (c : UInt8) : Lib.index [] [c] = -1 := rfl
theorem index_hit1 {x c : UInt8} {t : List UInt8} (h : x = c) : Lib.index (x :: t) [c] = 0 := by
  subst h
  simp [Lib.index, List.isPrefixOf]
theorem index_skip1 {x c : UInt8} {t : List UInt8} (h : x ≠ c) : Lib.index (x :: t) [c] = if Lib.index t [c] == -1 then -1 else Lib.index t [c] + 1 := by
  have : (c == x) = false := by simpa using Ne.symm h
  simp [Lib.index, List.isPrefixOf, this]
theorem splitK_hit {sep s : List UInt8} {k i : Nat} (h : Lib.index s sep = i) : Lib.splitK sep 0 (k + 1) s = s.take i :: Lib.splitK sep 0 k (s.drop (i + sep.length)) := by
  have hm : ¬ (Lib.index s sep == -1) = true := fun e => by have := beq_iff_eq.1 e; omega
  rw [Lib.splitK, if_neg hm, h]
  simp
theorem split_splS (c : UInt8) : ∀ s : List UInt8, Lib.splitK [c] 0 (Lib.count s [c]) s = splS c s
  | [] => by rw [Lib.count_miss (index_nil1 c)]; rfl
  | x :: t => by
    have ih := split_splS c t
    by_cases hx : x = c
    · have h0 : Lib.index (x :: t) [c] = (0 : Nat) := index_hit1 hx
      rw [Lib.count_hit (by simp) h0, Nat.add_comm, splitK_hit h0]
      simp only [List.take_zero, List.length_cons, List.length_nil, Nat.zero_add, List.drop_succ_cons, List.drop_zero]
      rw [ih, splS, if_pos hx]
    · have h1 := index_skip1 (t := t) hx
      rcases Lib.index_spec t [c] with ⟨h2, _⟩ | ⟨i, h2, _⟩
      · rw [h2] at h1
        have h1 : Lib.index (x :: t) [c] = -1 := by simpa using h1
        rw [Lib.count_miss h2] at ih
        rw [Lib.count_miss h1, splS, if_neg hx, ← ih]
        rfl
      · have hne : ¬ ((i : Int) == -1) = true := fun e => by have := beq_iff_eq.1 e; omega
        rw [h2, if_neg hne] at h1
        have h1 : Lib.index (x :: t) [c] = ((i + 1 : Nat) : Int) := by rw [h1]; omega
        rw [Lib.count_hit (by simp) h2, Nat.add_comm, splitK_hit h2] at ih
        rw [Lib.count_hit (by simp) h1, Nat.add_comm, splitK_hit h1, splS, if_neg hx, ← ih]
        rfl
/-- A fresh row that a call hands back. -/
theorem fnspec_new_row {P : Program} {G : Glo} {f : FuncId} {avs : List AVal} {H : Heap} {sz m : Nat} {cs : List AVal} {T : TypeId} (hc : ∀ args w, (callFunc f args).run P w = .ok (.enter f args) w)
    (hlen : cs.length = m * sz)
    (h : ∀ C R args, RelV R avs args.toList → ∀ w, G.p R → MS C R H w → Calls P f args w fun e w' => ∃ (w1 : World) (Cs : Array Value), Below w.heap.size w w1 ∧ e = .returned (.slice (some ⟨w1.heap.size, 0, none⟩) m m) ∧ w' = w1.alloc (.cells Cs T) ∧ Cs.size = m * sz ∧ ∀ R, RelL R cs Cs.toList) :
    FnSpec P G f avs H (fun r H' => ∃ b, r = .ret (.own H.length (.slice (some ⟨b, 0, none⟩) m m)) ∧ H' = H ++ [.row (.slice (some ⟨b, 0, none⟩) m m) (some T) sz m cs]) := by
  intro R w args hG hm ha
  refine .inl ⟨hc args w, (h _ R args ha w hG hm).mono ?_⟩
  rintro e w' ⟨w1, Cs, hb, rfl, rfl, hsz, hr⟩
  have hm1 := hm.below hb
  have hm2 := hm1.alloc (.cells Cs T) (.row (.slice (some ⟨w1.heap.size, 0, none⟩) m m) (some T) sz m cs) rfl ?_
  · exact ⟨_, _, R, ⟨w1.heap.size, rfl, rfl⟩, ⟨_, rfl, rel_own.2 ⟨rfl, rfl⟩⟩, hm2.perm (List.perm_append_singleton _ _).symm⟩
  · refine ⟨hlen, .inr ⟨w1.heap.size, m, Cs, T, (0, 0), rfl, grow_at _ _, hsz, Nat.le_refl _, ?_, .inl (Nat.le_refl _), fun t ht => Option.some.inj ht⟩⟩
    have := hr R
    have hl := relL_length this
    rwa [List.take_of_length_le (by omega)]
theorem relL_strs (R : Seal) : ∀ l : List (List UInt8), RelL R (strsC l) (l.map fun s => Value.string ⟨s.toArray⟩)
  | [] => rfl
  | _ :: l => ⟨_, _, rfl, rfl, relL_strs R l⟩
theorem split_row {G : Glo} {m : Int} (hU : GloAll G (maxTy m)) (H : Heap) (s : List UInt8) (c : UInt8) (hl : s.length < 100000) :
    FnSpec Tryz.prog G 60 [.str s, .str [c]] H (fun r H' => ∃ b, r = .ret (.own H.length (.slice (some ⟨b, 0, none⟩) (splS c s).length (splS c s).length)) ∧ H' = H ++ [.row (.slice (some ⟨b, 0, none⟩) (splS c s).length (splS c s).length) (some 9) 1 (splS c s).length (strsC (splS c s))]) := by
  refine fnspec_new_row Tryz.call60 (by rw [strsC_len, Nat.mul_one]) ?_
  rintro C R args ⟨x, t, e, hx, y, t', e', hy, rfl⟩ w hG hm
  obtain rfl := rel_str.1 hx
  obtain rfl := rel_str.1 hy
  subst e'
  obtain rfl := arr_of e
  refine (Tryz.strings_Split ⟨s.toArray⟩ ⟨#[c]⟩ m w (by rw [str_size]; omega) (max_cell hU hG hm.sealed) (Nat.le_refl 1)).mono ?_
  rintro e w' ⟨rfl, rfl⟩
  have hd := Lib.splitB_data ⟨#[c]⟩ 0 (Lib.countB ⟨s.toArray⟩ ⟨#[c]⟩) ⟨s.toArray⟩
  have hd : (Lib.splitB ⟨#[c]⟩ 0 (Lib.countB ⟨s.toArray⟩ ⟨#[c]⟩) ⟨s.toArray⟩).map (·.data.toList) = splS c s := hd.trans (split_splS c s)
  have hn : (splS c s).length = Lib.countB ⟨s.toArray⟩ ⟨#[c]⟩ + 1 := by
    have h1 := Lib.splitB_all ⟨#[c]⟩ (Nat.le_refl 1) 0 _ ⟨s.toArray⟩ rfl
    rw [← hd, List.length_map, h1]
  rw [hn]
  have hm2 : (Lib.splitB ⟨#[c]⟩ 0 (Lib.countB ⟨s.toArray⟩ ⟨#[c]⟩) ⟨s.toArray⟩).map Value.string = (splS c s).map fun s => Value.string ⟨s.toArray⟩ := by
    rw [← hd, List.map_map]
    refine List.map_congr_left fun x _ => ?_
    simp
  refine ⟨w, _, Below.refl _ _, rfl, rfl, ?_, fun R => ?_⟩
  · rw [hm2]; simp [hn]
  · rw [hm2]
    exact relL_strs R _
theorem split_list {G : Glo} {m : Int} (hU : GloAll G (maxTy m)) (s : List UInt8) (c : UInt8) (hl : s.length < 100000) :
    FnIs Tryz.prog G 60 [.str s, .str [c]] (.list 1 (splS c s).length (strsF (splS c s))) :=
  fn_seal (fun a => a) mk_id (strsF (splS c s)) (strsF_ok _) ((split_row hU [] s c hl).mono fun _ _ ⟨_, h1, h2⟩ => ⟨_, _, h1, h2⟩)
end Go.Proofs.YtgjckfphallmeaaGreatDoor
namespace Go.Proofs.YtgjckfphallmeaaGreatDoor
open Go Go.RowKit
theorem splS_none {c : UInt8} : ∀ {s : List UInt8}, c ∉ s → splS c s = [s]
  | [], _ => rfl
  | x :: t, h => by
    simp only [List.mem_cons, not_or] at h
    rw [splS, if_neg (Ne.symm h.1), splS_none h.2]
theorem splS_app {c : UInt8} : ∀ {u : List UInt8} {v : List UInt8}, c ∉ u → ∃ p ps, splS c v = p :: ps ∧ splS c (u ++ v) = (u ++ p) :: ps
  | [], v, _ => by
    cases h : splS c v with
    | nil => exact absurd h (splS_ne c v)
    | cons p ps => exact ⟨p, ps, rfl, h⟩
  | x :: u, v, h => by
    simp only [List.mem_cons, not_or] at h
    obtain ⟨p, ps, h1, h2⟩ := splS_app (v := v) h.2
    refine ⟨p, ps, h1, ?_⟩
    rw [List.cons_append, splS, if_neg (Ne.symm h.1), h2]
    rfl
theorem splS_cut {c : UInt8} {u v : List UInt8} (h : c ∉ u) : splS c (u ++ c :: v) = u :: splS c v := by
  obtain ⟨p, ps, h1, h2⟩ := splS_app (v := c :: v) h
  rw [splS, if_pos rfl] at h1
  cases h1
  rw [h2, List.append_nil]
end Go.Proofs.YtgjckfphallmeaaGreatDoor
