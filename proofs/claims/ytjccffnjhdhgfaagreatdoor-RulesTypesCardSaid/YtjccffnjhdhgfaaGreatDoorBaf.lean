/- Parts of the proof of rulesTypes_card: Shelf, Namr, Plc, Uri, Scu, Rub, Deh, Dfx, Shc, Ruc, Spl, Rud, Rue, Ruf, Rug, Prm, Rva, Ruj, Ruk, Ruh, Rul, End, Han. -/
import Derived.Shelf.Strings.Builder1
import Derived.Shelf.Strings.Builder2
import Derived.Shelf.Strings.OnBuilder
import Derived.Shelf.Small.Utf8
import Derived.Shelf.Small.Strs
import Derived.Shelf.Strings.BuilderF
import Derived.Shelf.Strings.BuilderK
import Derived.Shelf.Strings.BuilderRune
import Derived.Shelf.Strings.Builder2Cap
import Derived.Shelf.Strconv.Atoi
import Derived.Shelf.Strconv.Itoa0
import Derived.Shelf.Strconv.Itoa1
import Derived.Shelf.LaysM
import Derived.Shelf.Strconv.Itoa2
import Derived.Shelf.Strconv.Itoa3
import Derived.Shelf.Strconv.AtoiErrFast
import Derived.Shelf.Strconv.ParseIntEmpty
import Derived.Shelf.Strconv.AtoiFail
import Derived.Shelf.Strconv.Clone
import Derived.Shelf.Strconv.SyntaxError
import Derived.Shelf.LaysC
import Derived.Shelf.Strconv.ToError
import Derived.Shelf.Strconv.AtoiErr
import Derived.Shelf.Strconv.Lower
import Derived.Shelf.Strconv.ParseUint10
import Derived.Shelf.Strconv.ParseUint10Empty
import Derived.Shelf.Strconv.ParseUint10Any
import Derived.Shelf.Strconv.ParseInt10
import Derived.Shelf.Strconv.AtoiLong
import Derived.Shelf.Strconv.AtoiInnerAll
import Derived.Shelf.Strconv.RangeError
import Derived.Shelf.Strconv.ToErrorRange
import Derived.Shelf.Strconv.AtoiAll
import Derived.Shelf.Strconv.ErrVarAll
import Derived.Shelf.Strings.Search1
import Derived.Shelf.Strings.Search2
import Derived.Shelf.Strings.Search3
import Derived.Shelf.Strings.Cut
import Derived.Shelf.Strings.Shaped
import Derived.Shelf.Strings.Fields
import Derived.Shelf.Strings.SplitShaped
import Derived.Shelf.Unicode.Latin
import Derived.Shelf.Unicode.Decode
import Derived.Shelf.Unicode.DecodeSlow
import Derived.Shelf.Unicode.DecodeAny
import Derived.Shelf.Unicode.Is16White
import Derived.Shelf.Unicode.IsSpaceAny
import Derived.Shelf.Unicode.CaseLookup
import Derived.Shelf.Unicode.CaseConvert
import Derived.Shelf.Unicode.CaseTo
import Derived.Shelf.Unicode.CaseLaid
import Derived.Shelf.Strings.MapAny
import Derived.Shelf.Unicode.Is16Any
import Derived.Shelf.Unicode.Is32Any
import Derived.Shelf.Unicode.ExclAny
import Derived.Shelf.Strings.BuilderCap
import Derived.Shelf.Strings.MapGrows
import Derived.Test.YtjccffnjhdhgfaaGreatDoorProg
import Derived.Lib.Join
import Derived.Lib.ItoaNum
import Derived.Lib.Split
import Derived.Lib.LaidTab
import Derived.Laws.StructEq
import Derived.Test.YtjccffnjhdhgfaaGreatDoorRows
import Derived.ProofKit
import Derived.LaidMore
import Derived.Lay
import Derived.Stop.Joined
import Derived.LaidSub
import Derived.LaidHandle
import Derived.OpenShut
import Derived.Test.YtjccffnjhdhgfaaGreatDoorBae
import Derived.Test.YtjccffnjhdhgfaaGreatDoorBad
import Derived.Test.YtjccffnjhdhgfaaGreatDoorBaa
set_option linter.unusedVariables false
set_option linter.unusedSimpArgs false
namespace Go.Proofs
open Go.Shelf
def Tryz.lays159_ren : Go.Shelf.Ren := ⟨fun | 159 => 40 | 165 => 53 | 166 => 54 | 167 => 55 | 169 => 56 | 230 => 57 | 204 => 58 | 240 => 74 | 241 => 75 | 197 => 42 | 118 => 76 | 168 => 77 | 270 => 78 | 262 => 79 | 276 => 87 | 277 => 88 | 260 => 59 | 242 => 89 | 313 => 90 | 278 => 92 | 274 => 93 | 275 => 94 | n => n, fun | 9 => 9 | 4 => 4 | 3 => 3 | 5 => 5 | 72 => 109 | 0 => 0 | 76 => 45 | 75 => 28 | 107 => 114 | 70 => 107 | 20 => 20 | 37 => 87 | 127 => 147 | 21 => 21 | 105 => 90 | 164 => 134 | 162 => 180 | 203 => 178 | 119 => 74 | 46 => 129 | 139 => 154 | 138 => 153 | 51 => 96 | 160 => 182 | 208 => 193 | 206 => 191 | 80 => 112 | n => n, fun | 13 => 8 | 3 => 6 | 4 => 7 | n => n⟩
theorem Tryz.lays159 : Go.Proofs.Lays.n159 Tryz.prog Tryz.lays159_ren := {
  mixed := by kernel_rfl
  f118 := Tryz.func76.trans (congrArg some (by kernel_rfl))
  f159 := Tryz.func40.trans (congrArg some (by kernel_rfl))
  f165 := Tryz.func53.trans (congrArg some (by kernel_rfl))
  f166 := Tryz.func54.trans (congrArg some (by kernel_rfl))
  f167 := Tryz.func55.trans (congrArg some (by kernel_rfl))
  f168 := Tryz.func77.trans (congrArg some (by kernel_rfl))
  f169 := Tryz.func56.trans (congrArg some (by kernel_rfl))
  f197 := Tryz.func42.trans (congrArg some (by kernel_rfl))
  f204 := Tryz.func58.trans (congrArg some (by kernel_rfl))
  f230 := Tryz.func57.trans (congrArg some (by kernel_rfl))
  f240 := Tryz.func74.trans (congrArg some (by kernel_rfl))
  f241 := Tryz.func75.trans (congrArg some (by kernel_rfl))
  f242 := Tryz.func89.trans (congrArg some (by kernel_rfl))
  f260 := Tryz.func59.trans (congrArg some (by kernel_rfl))
  f262 := Tryz.func79.trans (congrArg some (by kernel_rfl))
  f270 := Tryz.func78.trans (congrArg some (by kernel_rfl))
  f274 := Tryz.func93.trans (congrArg some (by kernel_rfl))
  f275 := Tryz.func94.trans (congrArg some (by kernel_rfl))
  f276 := Tryz.func87.trans (congrArg some (by kernel_rfl))
  f277 := Tryz.func88.trans (congrArg some (by kernel_rfl))
  f278 := Tryz.func92.trans (congrArg some (by kernel_rfl))
  f313 := Tryz.func90.trans (congrArg some (by kernel_rfl))
  t0 := Tryz.underlying0
  a0 := Tryz.isAgg0
  z0 := Tryz.sizeOf0
  v0 := Tryz.zeroValue0
  t3 := Tryz.underlying3
  a3 := Tryz.isAgg3
  z3 := Tryz.sizeOf3
  v3 := Tryz.zeroValue3
  t4 := Tryz.underlying4
  a4 := Tryz.isAgg4
  z4 := Tryz.sizeOf4
  v4 := Tryz.zeroValue4
  t5 := Tryz.underlying5
  a5 := Tryz.isAgg5
  z5 := Tryz.sizeOf5
  v5 := Tryz.zeroValue5
  t9 := Tryz.underlying9
  a9 := Tryz.isAgg9
  z9 := Tryz.sizeOf9
  v9 := Tryz.zeroValue9
  t20 := Tryz.underlying20
  a20 := Tryz.isAgg20
  z20 := Tryz.sizeOf20
  v20 := Tryz.zeroValue20
  t21 := Tryz.underlying21
  a21 := Tryz.isAgg21
  z21 := Tryz.sizeOf21
  v21 := Tryz.zeroValue21
  t37 := Tryz.underlying87
  a37 := Tryz.isAgg87
  z37 := Tryz.sizeOf87
  v37 := Tryz.zeroValue87
  t46 := Tryz.underlying129
  a46 := Tryz.isAgg129
  z46 := Tryz.sizeOf129
  v46 := Tryz.zeroValue129
  t51 := Tryz.underlying96
  a51 := Tryz.isAgg96
  z51 := Tryz.sizeOf96
  v51 := Tryz.zeroValue96
  t70 := Tryz.underlying107
  a70 := Tryz.isAgg107
  z70 := Tryz.sizeOf107
  v70 := Tryz.zeroValue107
  t72 := Tryz.underlying109
  a72 := Tryz.isAgg109
  z72 := Tryz.sizeOf109
  v72 := Tryz.zeroValue109
  t75 := Tryz.underlying28
  a75 := Tryz.isAgg28
  z75 := Tryz.sizeOf28
  v75 := Tryz.zeroValue28
  t76 := Tryz.underlying45
  a76 := Tryz.isAgg45
  z76 := Tryz.sizeOf45
  v76 := Tryz.zeroValue45
  t105 := Tryz.underlying90
  a105 := Tryz.isAgg90
  z105 := Tryz.sizeOf90
  v105 := Tryz.zeroValue90
  t107 := Tryz.underlying114
  a107 := Tryz.isAgg114
  z107 := Tryz.sizeOf114
  v107 := Tryz.zeroValue114
  t119 := Tryz.underlying74
  a119 := Tryz.isAgg74
  z119 := Tryz.sizeOf74
  t127 := Tryz.underlying147
  a127 := Tryz.isAgg147
  z127 := Tryz.sizeOf147
  v127 := Tryz.zeroValue147
  t138 := Tryz.underlying153
  a138 := Tryz.isAgg153
  z138 := Tryz.sizeOf153
  v138 := Tryz.zeroValue153
  t139 := Tryz.underlying154
  a139 := Tryz.isAgg154
  z139 := Tryz.sizeOf154
  v139 := Tryz.zeroValue154
  t160 := Tryz.underlying182
  a160 := Tryz.isAgg182
  z160 := Tryz.sizeOf182
  v160 := Tryz.zeroValue182
  t162 := Tryz.underlying180
  a162 := Tryz.isAgg180
  z162 := Tryz.sizeOf180
  v162 := Tryz.zeroValue180
  t164 := Tryz.underlying134
  a164 := Tryz.isAgg134
  z164 := Tryz.sizeOf134
  v164 := Tryz.zeroValue134
  t203 := Tryz.underlying178
  a203 := Tryz.isAgg178
  z203 := Tryz.sizeOf178
  v203 := Tryz.zeroValue178
  t206 := Tryz.underlying191
  a206 := Tryz.isAgg191
  z206 := Tryz.sizeOf191
  v206 := Tryz.zeroValue191
  t208 := Tryz.underlying193
  a208 := Tryz.isAgg193
  z208 := Tryz.sizeOf193
  v208 := Tryz.zeroValue193
  g3 := by kernel_rfl
  g4 := by kernel_rfl
  g13 := by kernel_rfl }
theorem Tryz.Builder_Extra_159 : Builder.Extra Tryz.prog Tryz.lays159_ren := {
  sizeBuilder := by kernel_rfl
  liesBuilder := by kernel_rfl
  t5 := Tryz.underlying5
  a5 := Tryz.isAgg5
  z5 := Tryz.sizeOf5
  v5 := Tryz.zeroValue5
  infoByte := by kernel_rfl
  cellsByte := by kernel_rfl
  sizeByte := by kernel_rfl
  neB5 := by decide }
open Go.RowKit in
/-- strings.ToLower: "ToLower returns s with all Unicode letters mapped to their lower case.": ON ASCII TEXT OF AT MOST 2^47 BYTES. Below the heap's end the world is as it was: where a letter turns, the call makes a builder and its buffer. (LAID: no walk: one application.) -/
theorem Tryz.strings_ToLower_ascii (s : ByteArray) (w : World) (hs : s.size ≤ 140737488355328) (hascii : ∀ (j : Nat) (b : UInt8), s.data.toList[j]? = some b → b.toNat < 128) :
    Calls Tryz.prog 40 #[.string s] w fun e w' => e = .returned (.string ⟨(Lib.toLowerA s.data.toList).toArray⟩) ∧ Below w.heap.size w w' := Any.strings_ToLower_ascii Tryz.lays159 Tryz.Builder_Extra_159 s w hs hascii
def Tryz.laysC172_ren : Go.Shelf.Ren := ⟨fun | 172 => 24 | 244 => 35 | 245 => 36 | 247 => 45 | 279 => 46 | 280 => 47 | 281 => 48 | 282 => 49 | 287 => 62 | 316 => 63 | 171 => 65 | 205 => 64 | 321 => 80 | 322 => 81 | 243 => 82 | 246 => 91 | 283 => 95 | 284 => 96 | 285 => 97 | 286 => 98 | 129 => 100 | 317 => 99 | 318 => 101 | 319 => 102 | 320 => 103 | 337 => 104 | 338 => 105 | n => n, fun | 9 => 9 | 3 => 3 | 75 => 28 | 76 => 45 | 4 => 4 | 5 => 5 | 167 => 99 | 37 => 87 | 0 => 0 | 85 => 100 | 2 => 2 | 168 => 102 | 53 => 126 | 175 => 127 | 46 => 129 | 210 => 131 | 127 => 147 | 145 => 160 | 143 => 158 | 21 => 21 | 171 => 185 | 173 => 188 | 212 => 195 | 51 => 96 | 20 => 20 | 213 => 196 | 232 => 200 | 233 => 201 | 80 => 112 | n => n, fun | 15 => 2 | 16 => 3 | 17 => 9 | 18 => 10 | 19 => 11 | n => n⟩
theorem Tryz.laysC172 : Go.Proofs.LaysC.n172 Tryz.prog Tryz.laysC172_ren := {
  mixed := by kernel_rfl
  f129 := Tryz.func100.trans (congrArg some (by kernel_rfl))
  f171 := Tryz.func65.trans (congrArg some (by kernel_rfl))
  f172 := Tryz.func24.trans (congrArg some (by kernel_rfl))
  f205 := Tryz.func64.trans (congrArg some (by kernel_rfl))
  f243 := Tryz.func82.trans (congrArg some (by kernel_rfl))
  f244 := Tryz.func35.trans (congrArg some (by kernel_rfl))
  f245 := Tryz.func36.trans (congrArg some (by kernel_rfl))
  f246 := Tryz.func91.trans (congrArg some (by kernel_rfl))
  f247 := Tryz.func45.trans (congrArg some (by kernel_rfl))
  f279 := Tryz.func46.trans (congrArg some (by kernel_rfl))
  f280 := Tryz.func47.trans (congrArg some (by kernel_rfl))
  f281 := Tryz.func48.trans (congrArg some (by kernel_rfl))
  f282 := Tryz.func49.trans (congrArg some (by kernel_rfl))
  f283 := Tryz.func95.trans (congrArg some (by kernel_rfl))
  f284 := Tryz.func96.trans (congrArg some (by kernel_rfl))
  f285 := Tryz.func97.trans (congrArg some (by kernel_rfl))
  f286 := Tryz.func98.trans (congrArg some (by kernel_rfl))
  f287 := Tryz.func62.trans (congrArg some (by kernel_rfl))
  f316 := Tryz.func63.trans (congrArg some (by kernel_rfl))
  f317 := Tryz.func99.trans (congrArg some (by kernel_rfl))
  f318 := Tryz.func101.trans (congrArg some (by kernel_rfl))
  f319 := Tryz.func102.trans (congrArg some (by kernel_rfl))
  f320 := Tryz.func103.trans (congrArg some (by kernel_rfl))
  f321 := Tryz.func80.trans (congrArg some (by kernel_rfl))
  f322 := Tryz.func81.trans (congrArg some (by kernel_rfl))
  f337 := Tryz.func104.trans (congrArg some (by kernel_rfl))
  f338 := Tryz.func105.trans (congrArg some (by kernel_rfl))
  t0 := Tryz.underlying0
  a0 := Tryz.isAgg0
  z0 := Tryz.sizeOf0
  v0 := Tryz.zeroValue0
  t2 := Tryz.underlying2
  a2 := Tryz.isAgg2
  z2 := Tryz.sizeOf2
  v2 := Tryz.zeroValue2
  t3 := Tryz.underlying3
  a3 := Tryz.isAgg3
  z3 := Tryz.sizeOf3
  v3 := Tryz.zeroValue3
  t4 := Tryz.underlying4
  a4 := Tryz.isAgg4
  z4 := Tryz.sizeOf4
  v4 := Tryz.zeroValue4
  t5 := Tryz.underlying5
  a5 := Tryz.isAgg5
  z5 := Tryz.sizeOf5
  v5 := Tryz.zeroValue5
  t9 := Tryz.underlying9
  a9 := Tryz.isAgg9
  z9 := Tryz.sizeOf9
  v9 := Tryz.zeroValue9
  t20 := Tryz.underlying20
  a20 := Tryz.isAgg20
  z20 := Tryz.sizeOf20
  v20 := Tryz.zeroValue20
  t21 := Tryz.underlying21
  a21 := Tryz.isAgg21
  z21 := Tryz.sizeOf21
  v21 := Tryz.zeroValue21
  t37 := Tryz.underlying87
  a37 := Tryz.isAgg87
  z37 := Tryz.sizeOf87
  v37 := Tryz.zeroValue87
  t46 := Tryz.underlying129
  a46 := Tryz.isAgg129
  z46 := Tryz.sizeOf129
  v46 := Tryz.zeroValue129
  t51 := Tryz.underlying96
  a51 := Tryz.isAgg96
  z51 := Tryz.sizeOf96
  v51 := Tryz.zeroValue96
  t53 := Tryz.underlying126
  a53 := Tryz.isAgg126
  z53 := Tryz.sizeOf126
  v53 := Tryz.zeroValue126
  t75 := Tryz.underlying28
  a75 := Tryz.isAgg28
  z75 := Tryz.sizeOf28
  v75 := Tryz.zeroValue28
  t76 := Tryz.underlying45
  a76 := Tryz.isAgg45
  z76 := Tryz.sizeOf45
  v76 := Tryz.zeroValue45
  t85 := Tryz.underlying100
  a85 := Tryz.isAgg100
  z85 := Tryz.sizeOf100
  v85 := Tryz.zeroValue100
  t127 := Tryz.underlying147
  a127 := Tryz.isAgg147
  z127 := Tryz.sizeOf147
  v127 := Tryz.zeroValue147
  t143 := Tryz.underlying158
  a143 := Tryz.isAgg158
  z143 := Tryz.sizeOf158
  v143 := Tryz.zeroValue158
  t145 := Tryz.underlying160
  a145 := Tryz.isAgg160
  z145 := Tryz.sizeOf160
  v145 := Tryz.zeroValue160
  t167 := Tryz.underlying99
  a167 := Tryz.isAgg99
  z167 := Tryz.sizeOf99
  v167 := Tryz.zeroValue99
  t168 := Tryz.underlying102
  a168 := Tryz.isAgg102
  z168 := Tryz.sizeOf102
  v168 := Tryz.zeroValue102
  t171 := Tryz.underlying185
  a171 := Tryz.isAgg185
  z171 := Tryz.sizeOf185
  v171 := Tryz.zeroValue185
  t173 := Tryz.underlying188
  a173 := Tryz.isAgg188
  z173 := Tryz.sizeOf188
  v173 := Tryz.zeroValue188
  t175 := Tryz.underlying127
  a175 := Tryz.isAgg127
  z175 := Tryz.sizeOf127
  v175 := Tryz.zeroValue127
  t210 := Tryz.underlying131
  a210 := Tryz.isAgg131
  z210 := Tryz.sizeOf131
  v210 := Tryz.zeroValue131
  t212 := Tryz.underlying195
  a212 := Tryz.isAgg195
  z212 := Tryz.sizeOf195
  v212 := Tryz.zeroValue195
  t213 := Tryz.underlying196
  a213 := Tryz.isAgg196
  z213 := Tryz.sizeOf196
  t232 := Tryz.underlying200
  a232 := Tryz.isAgg200
  z232 := Tryz.sizeOf200
  v232 := Tryz.zeroValue200
  t233 := Tryz.underlying201
  a233 := Tryz.isAgg201
  z233 := Tryz.sizeOf201
  v233 := Tryz.zeroValue201
  g15 := by kernel_rfl
  g16 := by kernel_rfl
  g17 := by kernel_rfl
  g18 := by kernel_rfl
  g19 := by kernel_rfl
  t80 := Tryz.underlying112
  a80 := Tryz.isAgg112
  z80 := Tryz.sizeOf112
  v80 := Tryz.zeroValue112
  i0 := by kernel_rfl
  i2 := by kernel_rfl
  i3 := by kernel_rfl
  i4 := by kernel_rfl
  i5 := by kernel_rfl
  i9 := by kernel_rfl
  i20 := by kernel_rfl
  i21 := by kernel_rfl
  i37 := by kernel_rfl
  i46 := by kernel_rfl
  i51 := by kernel_rfl
  i53 := by kernel_rfl
  i75 := by kernel_rfl
  i76 := by kernel_rfl
  i80 := by kernel_rfl
  i85 := by kernel_rfl
  i127 := by kernel_rfl
  i143 := by kernel_rfl
  i145 := by kernel_rfl
  i167 := by kernel_rfl
  i168 := by kernel_rfl
  i171 := by kernel_rfl
  i173 := by kernel_rfl
  i175 := by kernel_rfl
  i210 := by kernel_rfl
  i212 := by kernel_rfl
  i232 := by kernel_rfl
  i233 := by kernel_rfl
  m15 := by kernel_rfl
  m16 := by kernel_rfl
  m17 := by kernel_rfl
  m18 := by kernel_rfl
  m19 := by kernel_rfl
  c0 := by kernel_rfl
  c2 := by kernel_rfl
  c3 := by kernel_rfl
  c4 := by kernel_rfl
  c5 := by kernel_rfl
  c9 := by kernel_rfl
  c20 := by kernel_rfl
  c21 := by kernel_rfl
  c37 := by kernel_rfl
  c46 := by kernel_rfl
  c51 := by kernel_rfl
  c53 := by kernel_rfl
  c75 := by kernel_rfl
  c76 := by kernel_rfl
  c80 := by kernel_rfl
  c85 := by kernel_rfl
  c127 := by kernel_rfl
  c143 := by kernel_rfl
  c145 := by kernel_rfl
  c167 := by kernel_rfl
  c168 := by kernel_rfl
  c171 := by kernel_rfl
  c173 := by kernel_rfl
  c175 := by kernel_rfl
  c210 := by kernel_rfl
  c212 := by kernel_rfl
  c213 := by kernel_rfl
  c232 := by kernel_rfl
  c233 := by kernel_rfl }
open Go.RowKit in
/-- strconv.Atoi, AT EVERY STRING THAT SPELLS AN int ('Lib.atoiAll .. = .ok v'; of whatever length: leading zeros count): v, AND NO ERROR. The world: as it was, or with the one new row that '[]byte(..)' lays. (LAID: no walk: one application.) -/
theorem Tryz.strconv_Atoi_ok (s : ByteArray) (hmax : s.size ≤ 9223372036854775806) (v : Int) (h : Lib.atoiAll s.data.toList = .ok v) (w : World) :
    Calls Tryz.prog 24 #[.string s] w fun e w' => e = .returned (.tuple #[.int .i64 v, .nilIface]) ∧ (w' = w ∨ ∃ t, w' = Lib.bytesWorld w 5 t) := Any.strconv_Atoi_ok Tryz.laysC172 s hmax v h w
def Tryz.lays157_ren : Go.Shelf.Ren := ⟨fun | 157 => 22 | 229 => 32 | 199 => 33 | 261 => 44 | 311 => 60 | 312 => 61 | n => n, fun | 9 => 9 | 31 => 31 | 3 => 3 | 5 => 5 | 4 => 4 | 119 => 74 | 0 => 0 | 40 => 76 | 152 => 93 | 21 => 21 | 154 => 95 | 51 => 96 | 141 => 98 | 196 => 118 | 193 => 115 | 198 => 121 | 49 => 119 | 194 => 116 | 201 => 124 | 226 => 155 | 46 => 129 | 227 => 156 | n => n, fun | 0 => 0 | 6 => 1 | n => n⟩
theorem Tryz.lays157 : Go.Proofs.Lays.n157 Tryz.prog Tryz.lays157_ren := {
  mixed := by kernel_rfl
  f157 := Tryz.func22.trans (congrArg some (by kernel_rfl))
  f199 := Tryz.func33.trans (congrArg some (by kernel_rfl))
  f229 := Tryz.func32.trans (congrArg some (by kernel_rfl))
  f261 := Tryz.func44.trans (congrArg some (by kernel_rfl))
  f311 := Tryz.func60.trans (congrArg some (by kernel_rfl))
  f312 := Tryz.func61.trans (congrArg some (by kernel_rfl))
  t0 := Tryz.underlying0
  a0 := Tryz.isAgg0
  z0 := Tryz.sizeOf0
  v0 := Tryz.zeroValue0
  t3 := Tryz.underlying3
  a3 := Tryz.isAgg3
  z3 := Tryz.sizeOf3
  v3 := Tryz.zeroValue3
  t4 := Tryz.underlying4
  a4 := Tryz.isAgg4
  z4 := Tryz.sizeOf4
  v4 := Tryz.zeroValue4
  t5 := Tryz.underlying5
  a5 := Tryz.isAgg5
  z5 := Tryz.sizeOf5
  v5 := Tryz.zeroValue5
  t9 := Tryz.underlying9
  a9 := Tryz.isAgg9
  z9 := Tryz.sizeOf9
  v9 := Tryz.zeroValue9
  t21 := Tryz.underlying21
  a21 := Tryz.isAgg21
  z21 := Tryz.sizeOf21
  v21 := Tryz.zeroValue21
  t31 := Tryz.underlying31
  a31 := Tryz.isAgg31
  z31 := Tryz.sizeOf31
  v31 := Tryz.zeroValue31
  t40 := Tryz.underlying76
  a40 := Tryz.isAgg76
  z40 := Tryz.sizeOf76
  v40 := Tryz.zeroValue76
  t46 := Tryz.underlying129
  a46 := Tryz.isAgg129
  z46 := Tryz.sizeOf129
  v46 := Tryz.zeroValue129
  t49 := Tryz.underlying119
  a49 := Tryz.isAgg119
  z49 := Tryz.sizeOf119
  v49 := Tryz.zeroValue119
  t51 := Tryz.underlying96
  a51 := Tryz.isAgg96
  z51 := Tryz.sizeOf96
  v51 := Tryz.zeroValue96
  t119 := Tryz.underlying74
  a119 := Tryz.isAgg74
  z119 := Tryz.sizeOf74
  t141 := Tryz.underlying98
  a141 := Tryz.isAgg98
  z141 := Tryz.sizeOf98
  v141 := Tryz.zeroValue98
  t152 := Tryz.underlying93
  a152 := Tryz.isAgg93
  z152 := Tryz.sizeOf93
  v152 := Tryz.zeroValue93
  t154 := Tryz.underlying95
  a154 := Tryz.isAgg95
  z154 := Tryz.sizeOf95
  v154 := Tryz.zeroValue95
  t193 := Tryz.underlying115
  a193 := Tryz.isAgg115
  z193 := Tryz.sizeOf115
  v193 := Tryz.zeroValue115
  t194 := Tryz.underlying116
  a194 := Tryz.isAgg116
  z194 := Tryz.sizeOf116
  v194 := Tryz.zeroValue116
  t196 := Tryz.underlying118
  a196 := Tryz.isAgg118
  z196 := Tryz.sizeOf118
  v196 := Tryz.zeroValue118
  t198 := Tryz.underlying121
  a198 := Tryz.isAgg121
  z198 := Tryz.sizeOf121
  v198 := Tryz.zeroValue121
  t201 := Tryz.underlying124
  a201 := Tryz.isAgg124
  z201 := Tryz.sizeOf124
  v201 := Tryz.zeroValue124
  t226 := Tryz.underlying155
  a226 := Tryz.isAgg155
  z226 := Tryz.sizeOf155
  v226 := Tryz.zeroValue155
  t227 := Tryz.underlying156
  a227 := Tryz.isAgg156
  z227 := Tryz.sizeOf156
  v227 := Tryz.zeroValue156
  g0 := by kernel_rfl
  g6 := by kernel_rfl }
open Go.RowKit Go.Lib in
/-- strings.Fields, the table by 'Lib.TabIs' (as strings.TrimSpace's contract). 'hg': the table's number, by its name: at a dump 'by kernel_rfl'. (LAID: no walk: one application.) -/
theorem Tryz.strings_Fields (s : ByteArray) (w : World) (hs : s.size < 4294967281) (hascii : ∀ (j : Nat) b, s.data.toList[j]? = some b → b.toNat < 128) (htab : Lib.TabIs Tryz.prog w "strings.asciiSpace" .u8 Lib.asciiSpaceTab) :
    Calls Tryz.prog 22 #[.string s] w fun e w' =>
      e = .returned (.slice (some ⟨w.heap.size, 0, none⟩) (Lib.fields s.data.toList).length (Lib.fields s.data.toList).length) ∧ w' = w.alloc (.cells ((Lib.fields s.data.toList).map fun l => Value.string ⟨l.toArray⟩).toArray 9) := Any.strings_Fields Tryz.lays157 (by kernel_rfl) (by kernel_rfl) s w hs hascii htab
end Go.Proofs
namespace Go.Proofs.YtjccffnjhdhgfaaGreatDoor
open Go Go.RowKit
set_option maxRecDepth 20000
set_option maxHeartbeats 4000000
set_option linter.unusedSimpArgs false
set_option linter.unusedVariables false
attribute [local irreducible] AWp AOps byteAt SrcOK OrOk GloAll FnSpec
attribute [local irreducible] idxB
theorem strings_ToLower {G : Glo} (s : List UInt8) (hs : s.length ≤ 140737488355328) (ha : ∀ j, j < s.length → byteAt s j < 128) : FnIs Tryz.prog G 40 [.str s] (.str (Lib.toLowerA s)) := by
  refine fnis_of_calls rfl Tryz.call40 ?_
  intro R args hr w _ _
  obtain ⟨x, t, e, hx, rfl⟩ := hr
  have hx := rel_str.1 hx
  subst hx
  obtain rfl : args = #[.string ⟨s.toArray⟩] := by cases args; simp_all
  have := Tryz.strings_ToLower_ascii ⟨s.toArray⟩ w (by rw [str_size]; exact hs) (fun j b hb => by
    have hb' : s[j]? = some b := by simpa using hb
    have hj := (List.getElem?_eq_some_iff.1 hb').1
    have h2 := ha j hj
    unfold byteAt at h2
    simpa [List.getD, hb'] using h2)
  simp only [AVal.conc]
  simpa using this
def abcU : List UInt8 := [65, 66, 67, 68, 69, 70, 71, 72, 73, 74, 75, 76, 77, 78, 79, 80, 81, 82, 83, 84, 85, 86, 87, 88, 89, 90]
def abcL : List UInt8 := [97, 98, 99, 100, 101, 102, 103, 104, 105, 106, 107, 108, 109, 110, 111, 112, 113, 114, 115, 116, 117, 118, 119, 120, 121, 122]
theorem toLower_abc {G : Glo} : FnIs Tryz.prog G 40 [.str abcU] (.str abcL) := by
  have h := strings_ToLower (G := G) abcU (by decide) (by decide +kernel)
  have e : Lib.toLowerA abcU = abcL := by decide
  rwa [e] at h
/-- A fact of all bytes, looked through one by one. -/
theorem all_bytes {p : Int → Bool} (h : ∀ c : Fin 256, p (c.1 : Int) = true) {c : Int} (h0 : 0 ≤ c) (h1 : c ≤ 255) : p c = true := by
  have := h ⟨c.toNat, by omega⟩
  simpa only [Int.toNat_of_nonneg h0] using this
theorem idx_low {c : Int} (h0 : 0 ≤ c) (h1 : c ≤ 255) : (if 0 ≤ idxB abcU c then idxB abcU c < 26 ∧ (byteAt abcL (idxB abcU c).toNat : Int) = turnN 65 90 32 c.toNat else turnN 65 90 32 c.toNat = c) := by
  have := all_bytes (p := fun c => decide (if 0 ≤ idxB abcU c then idxB abcU c < 26 ∧ (byteAt abcL (idxB abcU c).toNat : Int) = turnN 65 90 32 c.toNat else turnN 65 90 32 c.toNat = c)) (by decide +kernel) h0 h1
  simpa using this
theorem ref_Lower {G : Glo} (s : List UInt8) (hl : s.length ≤ 9223372036854775807) : FnIs Tryz.prog G 27 [.str s] (.str (turnS 65 90 32 s)) := by
  have hGL : GloAll G [] := gloAll_nil
  refine fn_x Tryz.func27 Tryz.call27 rfl rfl rfl rfl hGL ?_
  intro C hC
  have hT := toLower_abc (G := G)
  have hI := fun c h0 h1 => strings_IndexByte (G := G) abcU c h0 h1
  have eL : abcL.length = 26 := rfl
  repeat' (first
    | (conv => whnf); first
      | refine .w ?_ | refine .v ?_ | apply sc_true | apply sc_false
      | (first | apply sc_lt | apply sc_nlt | apply sc_eq | apply sc_neq | apply sc_nil | apply sc_nnil | apply sc_seq | apply sc_nseq) <;> (intro hb; try exact dd hb)
      | apply sc_not | apply sc_or | (apply sc_i <;> intro hb)
      | (apply bx_i; intro hbd) | (apply gt_i; assumption; exact rfl)
      | (apply cx_is; first | fail) | (apply cx_do (i := 0) rfl; first | fail)
      | (apply ab_i; intro bl) | (apply as_i; intro va vk vc hva) | (apply av_i; intro v) | (apply ac_i; intro bl cap hcap)
      | apply bo_l | (apply nx_i <;> intro hnx) | (apply Ia.hit; assumption) | (apply Ia.miss; assumption)
      | (apply rt_is; exact rfl) | exact rt_w | (apply iv; assumption)
      | apply dw_q mixed hC hGL (by kernel_rfl) | (apply cq; assumption; (first | fail); exact rfl))
  all_goals (try conv => whnf)
  refine lp hC hGL (fun (x : Nat × List UInt8) => [(3, .own 0 (.slice (some ⟨bl, 0, none⟩) s.length cap)), (9, .int .i64 s.length), (10, .int .i64 x.1)]) (fun x => [.buf bl x.2 cap]) (Turned 65 90 32 s) (fun x => s.length - x.1) (0, s) ?_ env_w rfl ?_
  · exact turned_0
  rintro ⟨i, t⟩ hI0
  have hi := hI0.1
  have ht := hI0.2.1
  dsimp only at hi ht ⊢
  repeat' (first
    | (conv => whnf); first
      | refine .w ?_ | refine .v ?_ | apply sc_true | apply sc_false
      | (first | apply sc_lt | apply sc_nlt | apply sc_eq | apply sc_neq | apply sc_nil | apply sc_nnil | apply sc_seq | apply sc_nseq) <;> (intro hb; try exact dd hb)
      | apply sc_not | apply sc_or | (apply sc_i <;> intro hb)
      | (apply bx_i; intro hbd) | (apply gt_i; assumption; exact rfl)
      | (apply cx_is; first | exact hT | (exact hI _ (by omega) (by omega))) | (apply cx_do (i := 0) rfl; first | exact hT | (exact hI _ (by omega) (by omega)))
      | (apply ab_i; intro bl) | (apply as_i; intro va vk vc hva) | (apply av_i; intro v) | (apply ac_i; intro bl cap hcap)
      | apply bo_l | (apply nx_i <;> intro hnx) | (apply Ia.hit; assumption) | (apply Ia.miss; assumption)
      | (apply rt_is; exact rfl) | exact rt_w | (apply iv; assumption)
      | apply dw_q mixed hC hGL (by kernel_rfl) | (apply cq; assumption; (first | exact hT | (exact hI _ (by omega) (by omega))); exact rfl))
  all_goals (try conv => whnf)
  · have e := turned_at hI0 (by omega)
    have hx := idx_low (c := (byteAt s i : Int)) (by omega) (by omega)
    rw [if_pos (by rw [← e]; exact hb), ← e] at hx
    repeat' (first
      | (conv => whnf); first
        | refine .w ?_ | refine .v ?_ | apply sc_true | apply sc_false
        | (first | apply sc_lt | apply sc_nlt | apply sc_eq | apply sc_neq | apply sc_nil | apply sc_nnil | apply sc_seq | apply sc_nseq) <;> (intro hb; try exact dd hb)
        | apply sc_not | apply sc_or | (apply sc_i <;> intro hb)
        | (apply bx_i; intro hbd) | (apply gt_i; assumption; exact rfl)
        | (apply cx_is; first | exact hT) | (apply cx_do (i := 0) rfl; first | exact hT)
        | (apply ab_i; intro bl) | (apply as_i; intro va vk vc hva) | (apply av_i; intro v) | (apply ac_i; intro bl cap hcap)
        | apply bo_l | (apply nx_i <;> intro hnx) | (apply Ia.hit; assumption) | (apply Ia.miss; assumption)
        | (apply rt_is; exact rfl) | exact rt_w | (apply iv; assumption)
        | apply dw_q mixed hC hGL (by kernel_rfl) | (apply cq; assumption; (first | exact hT); exact rfl))
    all_goals (try conv => whnf)
    refine nxt (i + 1, t.set i (UInt8.ofNat ((byteAt abcL (idxB abcU (byteAt t i)).toNat : Nat) : Int).toNat)) ?_ ?_ env_w rfl
    · refine turned_hit hI0 (by omega) ?_ (by omega) (by have := byteAt_lt abcL (idxB abcU (byteAt t i)).toNat; omega)
      rw [hx.2, e]
      simp only [Int.toNat_natCast]
    · dsimp only; omega
  · have e := turned_at hI0 (by omega)
    have hx := idx_low (c := (byteAt s i : Int)) (by omega) (by omega)
    rw [if_neg (by rw [← e]; omega)] at hx
    refine nxt (i + 1, t) ?_ ?_ env_w rfl
    · exact turned_miss hI0 (by omega) (by simpa using hx)
    · dsimp only; omega
  · apply rt_is
    rw [turned_end (by decide) (by decide) hI0 (by omega)]
end Go.Proofs.YtjccffnjhdhgfaaGreatDoor
namespace Go.Proofs.YtjccffnjhdhgfaaGreatDoor
open Go
set_option maxRecDepth 20000
set_option maxHeartbeats 4000000
set_option linter.unusedSimpArgs false
set_option linter.unusedVariables false
attribute [local irreducible] AWp AOps byteAt SrcOK OrOk GloAll FnSpec
theorem bare_ok {G : Glo} (hU2 : GloAll G errTy) (x : Err) (h : x.p = -1) : FnIs Tryz.prog G 9 [x.A, .int .i64 x.e] (.bool true) := by
  have := law_bare hU2 x x.e
  rwa [h, eqB_t.2 rfl, eqB_t.2 rfl] at this
end Go.Proofs.YtjccffnjhdhgfaaGreatDoor
namespace Go.Proofs.YtjccffnjhdhgfaaGreatDoor
open Go
theorem idxF_spec {c : Int} : ∀ (t : List UInt8) (k : Nat), (idxF c t k = -1 ∧ ∀ j, j < t.length → (byteAt t j : Int) ≠ c) ∨ ∃ m, m < t.length ∧ idxF c t k = ((k + m : Nat) : Int) ∧ (byteAt t m : Int) = c ∧ ∀ j, j < m → (byteAt t j : Int) ≠ c
  | [], _ => .inl ⟨rfl, fun j h => absurd h (Nat.not_lt_zero _)⟩
  | x :: t, k => by
    by_cases e : (x.toNat : Int) = c
    · refine .inr ⟨0, by simp, by simp [idxF, e], by simpa [byteAt] using e, fun j h => absurd h (Nat.not_lt_zero _)⟩
    · have e1 : idxF c (x :: t) k = idxF c t (k + 1) := by simp [idxF, e]
      have h0 : ∀ {p : Prop}, (∀ j, j < t.length → (byteAt t j : Int) ≠ c) → ∀ j, j < (x :: t).length → (byteAt (x :: t) j : Int) ≠ c := by
        intro _ h j hj
        cases j with
        | zero => simpa [byteAt] using e
        | succ j => simpa [byteAt] using h j (by simpa using hj)
      rcases idxF_spec (c := c) t (k + 1) with ⟨h1, h2⟩ | ⟨m, h1, h2, h3, h4⟩
      · exact .inl ⟨by rw [e1, h1], h0 (p := True) h2⟩
      · refine .inr ⟨m + 1, by simpa using h1, by rw [e1, h2]; omega, by simpa [byteAt] using h3, fun j hj => ?_⟩
        cases j with
        | zero => simpa [byteAt] using e
        | succ j => simpa [byteAt] using h4 j (by omega)
/-- Where a byte stands first, told by what stands there. -/
theorem idxB_at {s : List UInt8} {c : Int} {i : Nat} (hi : i < s.length) (h : (byteAt s i : Int) = c) (h0 : ∀ j, j < i → (byteAt s j : Int) ≠ c) : idxB s c = i := by
  rcases idxF_spec (c := c) s 0 with ⟨h1, h2⟩ | ⟨m, h1, h2, h3, h4⟩
  · exact absurd h (h2 i hi)
  · unfold idxB
    rw [h2]
    have : m = i := by
      rcases Nat.lt_trichotomy m i with h5 | h5 | h5
      · exact absurd h3 (h0 m h5)
      · exact h5
      · exact absurd h (h4 i h5)
    omega
theorem idxB_none {s : List UInt8} {c : Int} (h0 : ∀ j, j < s.length → (byteAt s j : Int) ≠ c) : idxB s c = -1 := by
  rcases idxF_spec (c := c) s 0 with ⟨h1, h2⟩ | ⟨m, h1, h2, h3, h4⟩
  · exact h1
  · exact absurd h3 (h0 m h1)
set_option maxRecDepth 20000
set_option maxHeartbeats 4000000
set_option linter.unusedSimpArgs false
set_option linter.unusedVariables false
attribute [local irreducible] AWp AOps byteAt SrcOK OrOk GloAll FnSpec
attribute [local irreducible] idxB
end Go.Proofs.YtjccffnjhdhgfaaGreatDoor
namespace Go.Proofs.YtjccffnjhdhgfaaGreatDoor
open Go Go.RowKit
/-- What stands ahead of a byte, and behind it, and whether it is there. -/
def cutB (s : List UInt8) (c : Int) : List UInt8 × List UInt8 × Bool := if idxB s c < 0 then (s, [], false) else (s.take (idxB s c).toNat, s.drop ((idxB s c).toNat + 1), true)
theorem idx_self {c : UInt8} : idxB [c] (c.toNat : Int) = 0 := idxB_at (i := 0) (Nat.lt_succ_self 0) rfl (fun j h => absurd h (Nat.not_lt_zero _))
theorem byte_one {c : UInt8} : (byteAt [c] 0 : Int) = (c.toNat : Int) := rfl
set_option maxRecDepth 20000
set_option maxHeartbeats 4000000
set_option linter.unusedSimpArgs false
set_option linter.unusedVariables false
attribute [local irreducible] AWp AOps byteAt SrcOK OrOk GloAll FnSpec
theorem sl_Index_one {G : Glo} (s : List UInt8) (c : UInt8) : FnIs Tryz.prog G 50 [.str s, .str [c]] (.int .i64 (idxB s (c.toNat : Int))) := by
  have hc := c.toNat_lt
  have hb := byte_one (c := c)
  have k1 := stringslite_IndexByte (G := G) s (byteAt [c] 0 : Int) (by omega) (by omega)
  by_cases hs : [c] = s
  · have e := idx_self (c := c)
    rw [hs] at e
    rw [e]
    have hGL : GloAll G [] := gloAll_nil
    refine fn_x Tryz.func50 Tryz.call50 rfl rfl rfl rfl hGL ?_
    intro C hC
    exact xw0
  · rw [← hb]
    have hGL : GloAll G [] := gloAll_nil
    refine fn_x Tryz.func50 Tryz.call50 rfl rfl rfl rfl hGL ?_
    intro C hC
    exact xw0
end Go.Proofs.YtjccffnjhdhgfaaGreatDoor
namespace Go.Proofs.YtjccffnjhdhgfaaGreatDoor
open Go Go.RowKit
theorem byte_mem {s : List UInt8} {j : Nat} {c : UInt8} (hj : j < s.length) (h : c ∉ s) : (byteAt s j : Int) ≠ (c.toNat : Int) := by
  intro e
  apply h
  have e1 : byteAt s j = (s[j]).toNat := by simp [byteAt, List.getD, hj]
  have e2 : (s[j]).toNat = c.toNat := by rw [← e1]; omega
  rw [← UInt8.toNat_inj.1 e2]
  exact List.getElem_mem hj
theorem idxB_app {r t : List UInt8} {c : UInt8} (h : c ∉ r) : idxB (r ++ c :: t) (c.toNat : Int) = (r.length : Nat) := by
  refine idxB_at (by simp) ?_ fun j hj => ?_
  · simp [byteAt, List.getD]
  · have := byte_mem hj h
    rwa [show byteAt (r ++ c :: t) j = byteAt r j by simp [byteAt, List.getD, List.getElem?_append_left hj]]
theorem idxB_no {r : List UInt8} {c : UInt8} (h : c ∉ r) : idxB r (c.toNat : Int) = -1 := idxB_none fun j hj => byte_mem hj h
/-! ## Yields in another order of what is owned -/
theorem y_mono {P : Program} {G : Glo} {L : Nat} {avs : List AVal} {H : Heap} {Q Q' : Bool → Heap → Prop} (h : YSpec P G L avs H Q) (hq : ∀ b H', Q b H' → ∃ H2, H'.Perm H2 ∧ Q' b H2) : YSpec P G L avs H Q' := by
  intro R w args hG hm ha
  obtain ⟨fn, tm, ag, bd, hy, hr⟩ := h R w args hG hm ha
  exact ⟨fn, tm, ag, bd, hy, hr.mono fun e w' ⟨b, H', R', q, er, hm'⟩ => let ⟨H2, hp, q'⟩ := hq _ _ q; ⟨b, H2, R', q', er, hm'.perm hp⟩⟩
theorem y_perm {P : Program} [Tab P] {G : Glo} {L : Nat} {avs : List AVal} {H1 H2 : Heap} {Q : Bool → Heap → Prop} (hp : H1.Perm H2) (h : YSpec P G L avs H1 Q) : YSpec P G L avs H2 Q := by
  have hb : ∀ k, k ∈ blks H2 ↔ k ∈ blks H1 := fun k => by
    have := (hp.filterMap HEnt.blk).mem_iff (a := k)
    exact this.symm
  intro R w args hG hm ha
  obtain ⟨fn, tm, ag, bd, hy, hr⟩ := h R w args hG ((hm.perm hp.symm).blks_iff hb) ha
  exact ⟨fn, tm, ag, bd, hy, hr.mono fun e w' ⟨b, H', R', q, er, hm'⟩ => ⟨b, H', R', q, er, hm'.blks_iff fun k => (hb k).symm⟩⟩
/-- A call that leaves entries of its own. -/
theorem fn_new {P : Program} [Tab P] {G : Glo} {f : FuncId} {avs : List AVal} (H : Heap) {X : Type} {N : X → Heap} {v v' : X → AVal} (hs : FnSpec P G f avs [] (fun r H' => ∃ x, r = .ret (v x) ∧ H' = N x)) (hv : ∀ x R u, Rel R (v x) u → Rel R (v' x) u) :
    FnSpec P G f avs H (fun r H' => ∃ x, r = .ret (v' x) ∧ H' = H ++ N x) := by
  intro R w args hG hm ha
  rcases fn_frame H hs R w args hG hm ha with ⟨h1, h2⟩ | ⟨u, w', h1, res, H', R', ⟨H1, ⟨x, rfl, rfl⟩, rfl⟩, er, hm'⟩
  · refine .inl ⟨h1, h2.mono ?_⟩
    rintro e w' ⟨res, H', R', ⟨H1, ⟨x, rfl, rfl⟩, rfl⟩, ⟨y, e1, hr⟩, hm'⟩
    exact ⟨.ret (v' x), _, R', ⟨x, rfl, rfl⟩, ⟨y, e1, hv x R' y hr⟩, hm'.perm List.perm_append_comm⟩
  · obtain ⟨y, e1, hr⟩ := er
    exact .inr ⟨u, w', h1, .ret (v' x), _, R', ⟨x, rfl, rfl⟩, ⟨y, e1, hv x R' y hr⟩, hm'.perm List.perm_append_comm⟩
theorem cx_new {P : Program} [Tab P] {G : Glo} {f : FuncId} {avs : List AVal} {H : Heap} {K Kp : AVal → Heap → Prop} {X : Type} {N : X → Heap} {v : X → AVal} (v' : X → AVal) (hs : FnSpec P G f avs [] (fun r H' => ∃ x, r = .ret (v x) ∧ H' = N x)) (hv : ∀ x R u, Rel R (v x) u → Rel R (v' x) u) (k : ∀ x, K (v' x) (H ++ N x)) : Cx P G f avs H K Kp := by
  refine .mk _ (fn_new H hs hv) ?_ ?_
  · rintro u H' ⟨x, e, rfl⟩; cases e; exact k x
  · rintro u H' ⟨x, e, rfl⟩; cases e
abbrev sqS (b : Nat) (s : List UInt8) : HEnt := .cells b (some 9) [.str s]
abbrev sqI (b : Nat) (m : Int) : HEnt := .cells b (some 3) [.int .i64 m]
abbrev sqP (b : Nat) : Value := .pointer (some ⟨b, 0, none⟩)
set_option maxRecDepth 20000
set_option maxHeartbeats 4000000
set_option linter.unusedSimpArgs false
set_option linter.unusedVariables false
attribute [local irreducible] AWp AOps byteAt SrcOK OrOk GloAll FnSpec
attribute [local irreducible] AWpR YSpec
theorem strings_Index_b {G : Glo} (s : List UInt8) (c : UInt8) : FnIs Tryz.prog G 43 [.str s, .str [c]] (.int .i64 (idxB s (c.toNat : Int))) := by
  have k1 := sl_Index_one (G := G) s c
  have hGL : GloAll G [] := gloAll_nil
  refine fn_x Tryz.func43 Tryz.call43 rfl rfl rfl rfl hGL ?_
  intro C hC
  exact xw0
theorem strings_splitSeq {G : Glo} (s : List UInt8) (c : UInt8) : FnSpec Tryz.prog G 31 [.str s, .str [c], .int .i64 0] []
    (fun r H => ∃ x : Nat × Nat × Nat, r = .ret (.func (.func 41) [] [.own 1 (sqP x.2.1), .own 0 (sqP x.1), .own 2 (sqP x.2.2)]) ∧ H = [sqS x.1 s, sqS x.2.1 [c], sqI x.2.2 0]) := by
  have hGL : GloAll G [] := gloAll_nil
  refine fn_x Tryz.func31 Tryz.call31 rfl rfl rfl rfl hGL ?_
  intro C hC
  refine xb1 ?_
  intro b0 b1 b2
  intros
  exact ⟨_, List.Sublist.refl _, (b0, b1, b2), rfl, rfl⟩
theorem strings_SplitSeq {G : Glo} (s : List UInt8) (c : UInt8) : FnSpec Tryz.prog G 20 [.str s, .str [c]] []
    (fun r H => ∃ x : Nat × Nat × Nat, r = .ret (.func (.func 41) [] [.own 1 (sqP x.2.1), .own 0 (sqP x.1), .own 2 (sqP x.2.2)]) ∧ H = [sqS x.1 s, sqS x.2.1 [c], sqI x.2.2 0]) := by
  have h1 := strings_splitSeq (G := G) s c
  have hGL : GloAll G [] := gloAll_nil
  refine fn_x Tryz.func20 Tryz.call20 rfl rfl rfl rfl hGL ?_
  intro C hC
  refine xn1 ?_
  refine cx_new (fun x : Nat × Nat × Nat => .func (.func 41) [] [.own 1 (sqP x.2.1), .own 0 (sqP x.1), .own 2 (sqP x.2.2)]) h1 (fun _ _ _ h => h) ?_
  rintro ⟨b0, b1, b2⟩
  refine xn1 ?_
  exact ⟨_, List.Sublist.refl _, (b0, b1, b2), rfl, rfl⟩
theorem split_seq_run {G : Glo} (L b0 b1 b2 : Nat) (c : UInt8) (rows : List (List UInt8)) (hne : 0 < rows.length) (hno : ∀ k, c ∉ rows.getD k []) (hlen : ∀ k, (joinB c (rows.drop k)).length ≤ 1000000) {Y Z : Type} (J : Y → Heap) (E : Z → Heap) (Inv : Nat → Y → Prop) (y0 : Y) (h0 : Inv 0 y0)
    (hy : ∀ (k : Nat) (s' : List UInt8) (y : Y), k < rows.length → Inv k y → YSpec Tryz.prog G L [.str (rows.getD k [])] (sqS b0 s' :: sqS b1 [c] :: sqI b2 0 :: J y) (fun b H' => (b = true ∧ ∃ y', Inv (k + 1) y' ∧ H' = sqS b0 s' :: sqS b1 [c] :: sqI b2 0 :: J y') ∨ (b = false ∧ ∃ z, H' = sqS b0 s' :: sqS b1 [c] :: sqI b2 0 :: E z))) :
    FnSpec Tryz.prog G 41 [.func (.yield L) [] [], .own 1 (sqP b1), .own 0 (sqP b0), .own 2 (sqP b2)] (sqS b0 (joinB c rows) :: sqS b1 [c] :: sqI b2 0 :: J y0)
      (fun r H' => r = .ret (.tuple []) ∧ ∃ s', (∃ y, Inv rows.length y ∧ H' = sqS b0 s' :: sqS b1 [c] :: sqI b2 0 :: J y) ∨ ∃ z, H' = sqS b0 s' :: sqS b1 [c] :: sqI b2 0 :: E z) := by
  have k1 := fun s => strings_Index_b (G := G) s c
  have hGL : GloAll G [] := gloAll_nil
  refine fn_a Tryz.func41 Tryz.call41 rfl rfl rfl rfl ?_
  intro C hC
  refine cut hC hGL [(0, .func (.yield L) [] []), (1, .own 1 (sqP b1)), (2, .own 0 (sqP b0)), (3, .own 2 (sqP b2))] (sqS b0 (joinB c rows) :: sqS b1 [c] :: sqI b2 0 :: J y0) True xn0 fun _ => ?_
  refine aw_seq (aw_block (aw_loopS (X := Nat × Y) (fun x => [(0, .func (.yield L) [] []), (1, .own 1 (sqP b1)), (2, .own 0 (sqP b0)), (3, .own 2 (sqP b2))]) (fun x => sqS b0 (joinB c (rows.drop x.1)) :: sqS b1 [c] :: sqI b2 0 :: J x.2) (fun x => x.1 < rows.length ∧ Inv x.1 x.2) (fun x => rows.length - x.1) (0, y0) ⟨hne, h0⟩ env_w (List.Sublist.refl _) ?_))
  rintro ⟨k, y⟩ ⟨hk, hI⟩
  dsimp only at hk hI ⊢
  refine aw_block ?_
  by_cases hl : k + 1 < rows.length
  · have e1 := joinB_drop (c := c) hl
    have hi := idxB_app (r := rows.getD k []) (t := joinB c (rows.drop (k + 1))) (hno k)
    have hln := hlen k
    rw [← e1] at hi
    have k2 := k1 (joinB c (rows.drop k))
    rw [hi] at k2
    have hy1 := hy k (joinB c (rows.drop k)) y hk hI
    have e3 : (joinB c (rows.drop k)).take (rows.getD k []).length = rows.getD k [] := by rw [e1, List.take_left]
    have e4 : (joinB c (rows.drop k)).drop ((rows.getD k []).length + 1) = joinB c (rows.drop (k + 1)) := by
      rw [e1, ← List.drop_drop, List.drop_left]; rfl
    have e5 : (rows.getD k []).length + 1 ≤ (joinB c (rows.drop k)).length := by rw [e1]; simp
    generalize hsr : joinB c (rows.drop k) = s at *
    generalize hr : rows.getD k [] = r at *
    refine cut hC hGL [(0, .func (.yield L) [] []), (1, .own 1 (sqP b1)), (2, .own 0 (sqP b0)), (3, .own 2 (sqP b2)), (7, .int .i64 (r.length : Nat))] (sqS b0 s :: sqS b1 [c] :: sqI b2 0 :: J y) True xn0 fun _ => ?_
    refine cut hC hGL [(0, .func (.yield L) [] []), (1, .own 1 (sqP b1)), (2, .own 0 (sqP b0)), (3, .own 2 (sqP b2)), (7, .int .i64 (r.length : Nat))] (sqS b0 s :: sqS b1 [c] :: sqI b2 0 :: J y) True xn0 fun _ => ?_
    refine cut hC hGL [(0, .func (.yield L) [] []), (1, .own 1 (sqP b1)), (2, .own 0 (sqP b0)), (3, .own 2 (sqP b2)), (7, .int .i64 (r.length : Nat)), (8, .str (s.take r.length))] (sqS b0 s :: sqS b1 [c] :: sqI b2 0 :: J y) True xn0 fun _ => ?_
    rw [e3]
    refine aw_seq (aw_seq (aw_yield 2 hC hGL rfl rfl (by kernel_rfl) ?_))
    refine xn1 ?_
    refine ⟨L, _, rfl, rfl, y_mono hy1 ?_⟩
    rintro b H' (⟨rfl, y', hy', rfl⟩ | ⟨rfl, z, rfl⟩)
    · refine ⟨_, List.Perm.refl _, ?_⟩
      refine xn1 ?_
      refine aw_code hC hGL (xn1 ?_)
      refine aw_code hC hGL (xn1 ?_)
      rw [forceH_eq]
      refine ⟨(k + 1, y'), ⟨hl, hy'⟩, by show rows.length - (k + 1) < rows.length - k; omega, env_w, ?_⟩
      show List.Sublist (sqS b0 (joinB c (rows.drop (k + 1))) :: sqS b1 [c] :: sqI b2 0 :: J y') _
      rw [← e4]
      exact List.Sublist.refl _
    · refine ⟨_, List.Perm.refl _, ?_⟩
      refine xn1 ?_
      refine aw_code hC hGL (xn1 ?_)
      exact ⟨_, List.Sublist.refl _, rfl, s, .inr ⟨z, rfl⟩⟩
  · have e1 := joinB_last (c := c) (l := rows) (k := k) (by omega)
    have hi := idxB_no (hno k)
    rw [← e1] at hi
    have k2 := k1 (joinB c (rows.drop k))
    rw [hi] at k2
    have hy1 := hy k (joinB c (rows.drop k)) y hk hI
    rw [← e1] at hy1
    have hkl : k + 1 = rows.length := by omega
    generalize joinB c (rows.drop k) = s at *
    refine cut hC hGL [(0, .func (.yield L) [] []), (1, .own 1 (sqP b1)), (2, .own 0 (sqP b0)), (3, .own 2 (sqP b2)), (7, .int .i64 (-1))] (sqS b0 s :: sqS b1 [c] :: sqI b2 0 :: J y) True xn0 fun _ => ?_
    refine aw_code hC hGL (xn1 ?_)
    intro _
    refine ⟨fun h => absurd h (by decide), fun _ => ⟨fun _ => ?_, fun h => absurd rfl h⟩⟩
    refine aw_yield 2 hC hGL rfl rfl (by kernel_rfl) ?_
    refine xn1 ?_
    refine ⟨L, _, rfl, rfl, y_mono hy1 ?_⟩
    rintro b H' (⟨rfl, y', hy', rfl⟩ | ⟨rfl, z, rfl⟩)
    · refine ⟨_, List.Perm.refl _, ?_⟩
      refine xn1 ?_
      rw [hkl] at hy'
      exact ⟨_, List.Sublist.refl _, rfl, s, .inl ⟨y', hy', rfl⟩⟩
    · refine ⟨_, List.Perm.refl _, ?_⟩
      refine xn1 ?_
      exact ⟨_, List.Sublist.refl _, rfl, s, .inr ⟨z, rfl⟩⟩
end Go.Proofs.YtjccffnjhdhgfaaGreatDoor
namespace Go.Proofs.YtjccffnjhdhgfaaGreatDoor
open Go Go.RowKit
theorem relL_set {R : Seal} {a a' : AVal} (ht : ∀ v, RelC R a [v] → RelC R a' [v]) : ∀ {cs : List AVal} {vs : List Value} {p : Nat}, RelL R cs vs → cs[p]? = some a → RelL R (cs.set p a') vs
  | [], _, _, _, e => by simp at e
  | c :: cs, _, 0, ⟨v, t, rfl, h1, h2⟩, e => by
    simp only [List.getElem?_cons_zero, Option.some.injEq] at e
    subst e
    exact ⟨v, t, rfl, ht v h1, h2⟩
  | c :: cs, _, p + 1, ⟨v, t, rfl, h1, h2⟩, e => by
    simp only [List.getElem?_cons_succ] at e
    exact ⟨v, t, rfl, h1, relL_set ht h2 e⟩
/-- An entry whose cell is told otherwise. -/
inductive CellTo (R : Seal) (p : Nat) (a' : AVal) : HEnt → HEnt → Prop
  | cells {b eT cs a} (hp : cs[p]? = some a) (ht : ∀ v, RelC R a [v] → RelC R a' [v]) : CellTo R p a' (.cells b eT cs) (.cells b eT (cs.set p a'))
  | row {v eT sz n cs a} (hp : cs[p]? = some a) (ht : ∀ v, RelC R a [v] → RelC R a' [v]) : CellTo R p a' (.row v eT sz n cs) (.row v eT sz n (cs.set p a'))
theorem CellTo.holds {R : Seal} {p : Nat} {a' : AVal} {x y : HEnt} {w : World} (h : CellTo R p a' x y) (hx : x.holds R w) : y.holds R w ∧ y.blk = x.blk := by
  cases h with
  | cells hp ht =>
    obtain ⟨C, e, fz, hb, hl, hf⟩ := hx
    exact ⟨⟨C, e, fz, hb, relL_set ht hl hp, hf⟩, rfl⟩
  | row hp ht =>
    rename_i v eT sz n cs a
    obtain ⟨hlen, y⟩ := hx
    refine ⟨⟨by rw [List.length_set]; exact hlen, ?_⟩, by cases v with | slice a l c => cases a <;> rfl | _ => rfl⟩
    rcases y with ⟨h1, h2⟩ | ⟨b, cap, C, e, fz, rfl, hb, hs, hn, hl, hf⟩
    · exact .inl ⟨h1, h2⟩
    · exact .inr ⟨b, cap, C, e, fz, rfl, hb, hs, hn, relL_set ht hl hp, hf⟩
section
variable {C : Ctx} {n : Nat} {e e' e'' : Env} {h h' h'' : Heap}
end
section
variable {P : Program} [Tab P] {C : Ctx} {n : Nat} {env : Env} {H : Heap} {Q : AExit → Env → Heap → Prop} {G : Glo} {GL : List (Nat × List AVal)}
omit [Tab P] in
omit [Tab P] in
/-- What is handed back may be told otherwise. -/
def ResTo (res : ARes) (H : Heap) (v : AVal) : Prop := ∀ (C : Ctx) (R : Seal) (w : World) (e : Ending), MS C R H w → EndRel R res e → ∃ R', MS C R' [] w ∧ EndRel R' (.ret v) e
omit [Tab P] in
theorem fn_told {f : FuncId} {avs : List AVal} {H : Heap} {Qf : ARes → Heap → Prop} {v : AVal} (h : FnSpec P G f avs H Qf) (hq : ∀ r H', Qf r H' → ResTo r H' v) : FnSpec P G f avs H (fun r H' => r = .ret v ∧ H' = []) := by
  intro R w args hG hm ha
  rcases h R w args hG hm ha with ⟨h1, h2⟩ | ⟨x, w', h1, res, H', R', q, er, hm'⟩
  · exact .inl ⟨h1, h2.mono fun e w' ⟨res, H', R', q, er, hm'⟩ => let ⟨R2, m2, e2⟩ := hq _ _ q _ _ _ _ hm' er; ⟨.ret v, [], R2, ⟨rfl, rfl⟩, e2, m2⟩⟩
  · obtain ⟨R2, m2, e2⟩ := hq _ _ q _ _ _ _ hm' er
    exact .inr ⟨x, w', h1, .ret v, [], R2, ⟨rfl, rfl⟩, e2, m2⟩
end
end Go.Proofs.YtjccffnjhdhgfaaGreatDoor
namespace Go.Proofs.YtjccffnjhdhgfaaGreatDoor
open Go Go.RowKit
section
variable {P : Program} [Tab P] {C : Ctx} {n : Nat} {env : Env} {H : Heap} {Q : List Deferred → AExit → Env → Heap → Prop} {G : Glo} {GL : List (Nat × List AVal)}
theorem awd_cuty {a b : Code} {X : Type} (hC : C.G = G) (hGL : GloAll G GL) (I : X → Env) (J : X → Heap) (Inv : X → Prop) (h1 : codeX P C n G GL a env H (thenQ (fun e h => Cy I J Inv e h) (Q C.D))) (h2 : ∀ x, Inv x → AWpD P C n b (I x) (J x) Q) : AWpD P C n (.seq a b) env H Q := by
  refine awd_seq (awd_of ((codeX_ok hC hGL _ _ _ _ h1).mono fun x e h q => ?_))
  cases x with
  | normal =>
    obtain ⟨y, hy, hs, rfl⟩ := q.h
    exact fun R a w hm hf => h2 y hy R a w hm (hf.sub hs)
  | exit i => exact q
  | goto i => exact q
  | ret => exact q
  | panic v => exact q
end
end Go.Proofs.YtjccffnjhdhgfaaGreatDoor
namespace Go.Proofs.YtjccffnjhdhgfaaGreatDoor
open Go Go.RowKit
theorem MS.below {C : Ctx} {R : Seal} {H : Heap} {w w' : World} (h : MS C R H w) (hb : Below w.heap.size w w') : MS C R H w' := by
  have hlt : ∀ {b : Nat} {o : Obj}, w.heap[b]? = some o → b < w.heap.size := fun {b o} h1 => by
    rcases Nat.lt_or_ge b w.heap.size with h | h
    · exact h
    · rw [Array.getElem?_eq_none h] at h1; cases h1
  refine ⟨fun b o ho => ?_, h.ge, h.fresh, ⟨fun x hx => ?_, h.heap.nodup, h.heap.apart⟩, h.own, ?_⟩
  · have h1 := h.sealed b o ho
    rw [hb.block b (hlt h1), h1]
  · exact HEnt.holds_mono (h.heap.holds x hx) (Seal.le_refl R) (fun b hbk => hb.block b (HEnt.blk_lt (h.heap.holds x hx) hbk))
  · exact ⟨hb.os.trans h.ext.os, hb.tape.trans h.ext.tape, hb.output.trans h.ext.output, Nat.le_trans h.ext.size hb.size, fun b hlt hn => by
      rw [hb.block b (Nat.lt_of_lt_of_le hlt h.ext.size)]; exact h.ext.block b hlt hn⟩
/-- Texts in a row. -/
def strsC (l : List (List UInt8)) : List AVal := l.map .str
def strsF (l : List (List UInt8)) (i : Nat) : AVal := .str (l.getD i [])
theorem strsF_ok (l : List (List UInt8)) : ∀ i, i < l.length → (strsF l i).cells = ((strsC l).drop (i * 1)).take 1 ∧ (strsF l i).plain = true := by
  intro i hi
  refine ⟨?_, rfl⟩
  have : i < (strsC l).length := by simpa [strsC] using hi
  rw [Nat.mul_one, List.drop_eq_getElem_cons this]
  simp [strsF, AVal.cells, strsC, List.getD, hi]
theorem strsC_len (l : List (List UInt8)) : (strsC l).length = l.length := by simp [strsC]
end Go.Proofs.YtjccffnjhdhgfaaGreatDoor
namespace Go.Proofs.YtjccffnjhdhgfaaGreatDoor
open Go Go.RowKit
/-- What stands for the arguments may be told otherwise. -/
theorem fn_args {P : Program} {G : Glo} {f : FuncId} {avs avs' : List AVal} {H : Heap} {Qf : ARes → Heap → Prop} (h : FnSpec P G f avs H Qf) (ha : ∀ R vs, RelV R avs' vs → RelV R avs vs) : FnSpec P G f avs' H Qf :=
  fun R w args hG hm h2 => h R w args hG hm (ha R _ h2)
/-- All rows of the table are as they should be. -/
def rowOK (x : List UInt8 × Rl) : Bool := !(txtR x).contains 124 && decide ((cutB (txtR x) 32).1 = x.1) && (txtR x).all (fun c => decide (c.toNat < 128)) && decide ((txtR x).length ≤ 60) &&
  decide (Lib.fields (txtR x) = [x.1, [digC x.2.t], [digC x.2.a], [digC x.2.b], [digC x.2.p]]) && decide (0 ≤ x.2.t ∧ x.2.t < 10 ∧ 0 ≤ x.2.a ∧ x.2.a < 10 ∧ 0 ≤ x.2.b ∧ x.2.b < 10 ∧ 0 ≤ x.2.p ∧ x.2.p < 10)
theorem rows_ok {v : Int} (hv : v = 3 ∨ v = 4) : (rowV v).all rowOK = true ∧ (rowV v).length ≤ 36 ∧ 0 < (rowV v).length := by
  rcases hv with rfl | rfl
  · exact ⟨by decide +kernel, by decide +kernel, by decide +kernel⟩
  · exact ⟨by decide +kernel, by decide +kernel, by decide +kernel⟩
theorem row_at {v : Int} (hv : v = 3 ∨ v = 4) {k : Nat} (hk : k < (rowV v).length) : rowOK (rowV v)[k] = true := List.all_eq_true.1 (rows_ok hv).1 _ (List.getElem_mem hk)
theorem tab_get {v : Int} {k : Nat} (hk : k < (rowV v).length) : (tabR v).getD k [] = txtR (rowV v)[k] := by
  unfold tabR
  rw [List.getD_eq_getElem?_getD, List.getElem?_map, List.getElem?_eq_getElem hk]
  rfl
theorem joinB_len (c : UInt8) {m : Nat} : ∀ l : List (List UInt8), (∀ x ∈ l, x.length ≤ m) → (joinB c l).length ≤ l.length * (m + 1)
  | [], _ => Nat.zero_le _
  | [x], h => by
    have := h x (List.mem_singleton.2 rfl)
    simp only [joinB, List.length_cons, List.length_nil]
    omega
  | x :: y :: t, h => by
    have h1 := h x (List.mem_cons_self ..)
    have ih := joinB_len c (m := m) (y :: t) fun z hz => h z (List.mem_cons_of_mem _ hz)
    simp only [joinB, List.length_append, List.length_cons] at ih ⊢
    rw [Nat.succ_mul]
    generalize (t.length + 1) * (m + 1) = z at *
    omega
theorem tab_len {v : Int} (hv : v = 3 ∨ v = 4) (k : Nat) : (joinB 124 ((tabR v).drop k)).length ≤ 1000000 := by
  have h1 := joinB_len 124 (m := 60) ((tabR v).drop k) fun x hx => by
    obtain ⟨y, hy, rfl⟩ := List.mem_map.1 (List.mem_of_mem_drop hx)
    have := List.all_eq_true.1 (rows_ok hv).1 _ hy
    simp only [rowOK, Bool.and_eq_true, decide_eq_true_eq] at this
    exact this.1.1.2
  have h2 : ((tabR v).drop k).length ≤ 36 := by
    have := (rows_ok hv).2.1
    unfold tabR
    rw [List.length_drop, List.length_map]
    omega
  have := Nat.mul_le_mul_right (60 + 1) h2
  omega
theorem tab_no {v : Int} (hv : v = 3 ∨ v = 4) (k : Nat) : (124 : UInt8) ∉ (tabR v).getD k [] := by
  by_cases hk : k < (rowV v).length
  · rw [tab_get hk]
    have := row_at hv hk
    simp only [rowOK, Bool.and_eq_true, Bool.not_eq_true', List.contains_eq_mem, decide_eq_false_iff_not] at this
    exact this.1.1.1.1.1
  · rw [List.getD_eq_getElem?_getD, List.getElem?_eq_none (by unfold tabR; rw [List.length_map]; omega)]
    simp
set_option maxRecDepth 20000
set_option maxHeartbeats 4000000
set_option linter.unusedSimpArgs false
set_option linter.unusedVariables false
attribute [local irreducible] AWp AOps byteAt SrcOK OrOk GloAll FnSpec
attribute [local irreducible] AWpR YSpec AWpD LvM tabR rowV cutB
theorem rules_table {G : Glo} {v : Int} (hv : v = 3 ∨ v = 4) : FnIs Tryz.prog G 21 [.int .i64 v] (.str (tabS v)) := by
  rcases hv with rfl | rfl
  · have hGL : GloAll G [] := gloAll_nil
    refine fn_x Tryz.func21 Tryz.call21 rfl rfl rfl rfl hGL ?_
    intro C hC
    refine xw ?_
    repeat' (first | exact Le.n | refine Lc.mk ?_ ?_)
    all_goals intros
    all_goals first
      | exact absurd rfl (by assumption)
      | (apply rt_is; refine congrArg AVal.str ?_; decide +kernel)
  · have hGL : GloAll G [] := gloAll_nil
    refine fn_x Tryz.func21 Tryz.call21 rfl rfl rfl rfl hGL ?_
    intro C hC
    refine xw ?_
    repeat' (first | exact Le.n | refine Lc.mk ?_ ?_)
    all_goals intros
    all_goals first
      | (apply rt_is; refine congrArg AVal.str ?_; decide +kernel)
end Go.Proofs.YtjccffnjhdhgfaaGreatDoor
namespace Go.Proofs.YtjccffnjhdhgfaaGreatDoor
open Go Go.RowKit
/-- A fresh row that a call hands back. -/
theorem fnspec_new_row {P : Program} {G : Glo} {f : FuncId} {avs : List AVal} {H : Heap} {sz m : Nat} {cs : List AVal} {T : TypeId} (hc : ∀ args w, (callFunc f args).run P w = .ok (.enter f args) w)
    (hlen : cs.length = m * sz)
    (h : ∀ C R args, RelV R avs args.toList → ∀ w, G.p R → MS C R H w → Calls P f args w fun e w' => ∃ (w1 : World) (Cs : Array Value), Below w.heap.size w w1 ∧ e = .returned (.slice (some ⟨w1.heap.size, 0, none⟩) m m) ∧ w' = w1.alloc (.cells Cs T) ∧ Cs.size = m * sz ∧ ∀ R, RelL R cs Cs.toList) :
    FnSpec P G f avs H (fun r H' => ∃ b, r = .ret (.own H.length (.slice (some ⟨b, 0, none⟩) m m)) ∧ H' = H ++ [.row (.slice (some ⟨b, 0, none⟩) m m) (some T) sz m cs]) := by
  intro R w args hG hm ha
  refine .inl ⟨hc args w, (h _ R args ha w hG hm).mono ?_⟩
  rintro e w' ⟨w1, Cs, hb, rfl, rfl, hsz, hr⟩
  have hm1 := hm.below hb
  have hm2 := hm1.alloc (.cells Cs T) (.row (.slice (some ⟨w1.heap.size, 0, none⟩) m m) (some T) sz m cs) rfl ?_
  · exact ⟨_, _, R, ⟨w1.heap.size, rfl, rfl⟩, ⟨_, rfl, rel_own.2 ⟨rfl, rfl⟩⟩, hm2.perm (List.perm_append_singleton _ _).symm⟩
  · refine ⟨hlen, .inr ⟨w1.heap.size, m, Cs, T, (0, 0), rfl, grow_at _ _, hsz, Nat.le_refl _, ?_, .inl (Nat.le_refl _), fun t ht => Option.some.inj ht⟩⟩
    have := hr R
    have hl := relL_length this
    rwa [List.take_of_length_le (by omega)]
theorem relL_strs (R : Seal) : ∀ l : List (List UInt8), RelL R (strsC l) (l.map fun s => Value.string ⟨s.toArray⟩)
  | [] => rfl
  | _ :: l => ⟨_, _, rfl, rfl, relL_strs R l⟩
end Go.Proofs.YtjccffnjhdhgfaaGreatDoor
namespace Go.Proofs.YtjccffnjhdhgfaaGreatDoor
open Go Go.RowKit
/-- What the table of spaces holds. -/
def SpIs (G : Glo) : Prop := ∀ R, G.p R → ∃ e fz, R 0 = some (.cells (Lib.asciiSpaceTab.map fun z => Value.int .u8 z).toArray e fz)
theorem sp_tab {G : Glo} (hS : SpIs G) {R : Seal} {w : World} (hG : G.p R) (hs : Sealed R w) : Lib.TabIs Tryz.prog w "strings.asciiSpace" .u8 Lib.asciiSpaceTab := by
  obtain ⟨e, fz, h⟩ := hS R hG
  have hb := hs _ _ h
  unfold Lib.TabIs World.var?
  rw [show Tryz.prog.globalNamed "strings.asciiSpace" = some 0 by kernel_rfl]
  simp [hb]
theorem atoi_dig : ∀ d : Fin 10, Lib.atoiAll [UInt8.ofNat (48 + d.val)] = .ok (d.val : Int) := by decide
set_option maxRecDepth 20000
set_option maxHeartbeats 4000000
set_option linter.unusedSimpArgs false
set_option linter.unusedVariables false
attribute [local irreducible] AWp AOps byteAt SrcOK OrOk GloAll FnSpec
theorem atoi_one {G : Glo} (d : Int) (h0 : 0 ≤ d) (h1 : d < 10) : FnIs Tryz.prog G 24 [.str [digC d]] (.tuple [.int .i64 d, .raw .nilIface]) := by
  have ha := atoi_dig ⟨d.toNat, by omega⟩
  have ed : ((d.toNat : Nat) : Int) = d := by omega
  simp only [ed] at ha
  refine fnis_of_calls_v (.tuple #[.int .i64 d, .nilIface]) (fun R => rel_tup2 (rel_int.2 rfl) (rel_raw.2 rfl)) Tryz.call24 ?_
  intro R args hr w _ _
  obtain ⟨x, t, e', hx, rfl⟩ := hr
  obtain rfl := rel_str.1 hx
  obtain rfl := arr_of e'
  refine (Tryz.strconv_Atoi_ok ⟨[digC d].toArray⟩ (by rw [str_size]; show 1 ≤ 9223372036854775806; omega) _ (by unfold digC; simpa using ha) w).mono ?_
  rintro e w' ⟨rfl, hw⟩
  refine ⟨rfl, ?_⟩
  rcases hw with rfl | ⟨t, rfl⟩
  · exact Below.refl _ _
  · exact ⟨rfl, rfl, rfl, by rw [Lib.bytesWorld_size]; omega, fun k hk => Lib.bytesWorld_at_old _ _ _ _ hk⟩
theorem fields_row {G : Glo} (hS : SpIs G) (H : Heap) (s : List UInt8) (hl : s.length < 100000) (ha : ∀ (j : Nat) (b : UInt8), s[j]? = some b → b.toNat < 128) :
    FnSpec Tryz.prog G 22 [.str s] H (fun r H' => ∃ b, r = .ret (.own H.length (.slice (some ⟨b, 0, none⟩) (Lib.fields s).length (Lib.fields s).length)) ∧ H' = H ++ [.row (.slice (some ⟨b, 0, none⟩) (Lib.fields s).length (Lib.fields s).length) (some 9) 1 (Lib.fields s).length (strsC (Lib.fields s))]) := by
  refine fnspec_new_row Tryz.call22 (by rw [strsC_len, Nat.mul_one]) ?_
  rintro C R args ⟨x, t, e, hx, rfl⟩ w hG hm
  obtain rfl := rel_str.1 hx
  obtain rfl := arr_of e
  refine (Tryz.strings_Fields ⟨s.toArray⟩ w (by rw [str_size]; omega) (fun j b hb => ha j b (by simpa using hb)) (sp_tab hS hG hm.sealed)).mono ?_
  rintro e w' ⟨rfl, rfl⟩
  refine ⟨w, _, Below.refl _ _, rfl, rfl, ?_, fun R => ?_⟩
  · simp
  · have := relL_strs R (Lib.fields s)
    simpa using this
theorem fields_list {G : Glo} (hS : SpIs G) (s : List UInt8) (hl : s.length < 100000) (ha : ∀ (j : Nat) (b : UInt8), s[j]? = some b → b.toNat < 128) : FnIs Tryz.prog G 22 [.str s] (.list 1 (Lib.fields s).length (strsF (Lib.fields s))) :=
  fn_seal (fun a => a) mk_id (strsF (Lib.fields s)) (strsF_ok _) ((fields_row hS [] s hl ha).mono fun _ _ ⟨_, h1, h2⟩ => ⟨_, _, h1, h2⟩)
end Go.Proofs.YtjccffnjhdhgfaaGreatDoor
namespace Go.Proofs.YtjccffnjhdhgfaaGreatDoor
open Go Go.RowKit
abbrev rlC (b : Nat) (r : Rl) : HEnt := .cells b (some 23) [.int .i64 r.t, .int .i64 r.a, .int .i64 r.b, .int .i64 r.p]
abbrev arC (b : Nat) (t a u p : Int) : HEnt := .cells b (some 61) [.int .i64 t, .int .i64 a, .int .i64 u, .int .i64 p]
abbrev erC (b : Nat) : HEnt := .cells b (some 28) [.raw .nilIface]
theorem row_ascii {s : List UInt8} (h : (s.all fun c => decide (c.toNat < 128)) = true) : ∀ (j : Nat) (b : UInt8), s[j]? = some b → b.toNat < 128 := fun j b hb => by
  have := List.all_eq_true.1 h b (List.mem_of_getElem? hb)
  simpa using this
theorem findV_hit {s : List UInt8} : ∀ {l : List (List UInt8 × Rl)} {k : Nat} (hk : k < l.length), (∀ j (hj : j < l.length), j < k → l[j].1 ≠ s) → l[k].1 = s → findV s l = l[k].2
  | x :: t, 0, hk, _, h => by
    have h : x.1 = s := h
    simp only [findV, if_pos h]
    rfl
  | x :: t, k + 1, hk, h0, h => by
    have h1 := h0 0 (by simp) (Nat.succ_pos k)
    have h1 : x.1 ≠ s := h1
    have ih := findV_hit (s := s) (l := t) (k := k) (by simpa using hk) (fun j hj hjk => by
      have := h0 (j + 1) (by simpa using hj) (by omega)
      simpa using this) (by simpa using h)
    simp only [findV, if_neg h1, ih]
    rfl
theorem findV_no {s : List UInt8} : ∀ {l : List (List UInt8 × Rl)}, (∀ j (hj : j < l.length), l[j].1 ≠ s) → findV s l = ⟨8, 0, 0, 0⟩
  | [], _ => rfl
  | x :: t, h0 => by
    have h1 : x.1 ≠ s := h0 0 (by simp)
    have ih := findV_no (s := s) (l := t) (fun j hj => by
      have := h0 (j + 1) (by simpa using hj)
      simpa using this)
    simp only [findV, if_neg h1, ih]
set_option maxRecDepth 20000
set_option maxHeartbeats 4000000
set_option linter.unusedSimpArgs false
set_option linter.unusedVariables false
attribute [local irreducible] AWp AOps byteAt SrcOK OrOk GloAll FnSpec
attribute [local irreducible] AWpR YSpec AWpD LvM tabR rowV turnS
theorem rules_Of0 {G : Glo} (hS : SpIs G) {v : Int} (hv : v = 3 ∨ v = 4) (s : List UInt8) (hl : s.length ≤ 1000000) : FnIs Tryz.prog G 6 [.str s, .int .i64 v] (.tuple [(findV (turnS 97 122 (-32) s) (rowV v)).A, .raw .nilIface]) := by
  have hGL : GloAll G [] := gloAll_nil
  have hT := rules_table (G := G) hv
  have hSq := strings_SplitSeq (G := G) (tabS v) 124
  have hU := name_Upper (G := G) s (by omega)
  have hcu := Tryz.call23
  have hlr : (tabR v).length = (rowV v).length := by unfold tabR; rw [List.length_map]
  have h36 := (rows_ok hv).2
  generalize hup : turnS 97 122 (-32) s = up at *
  refine fn_m (rs := [.cell 4 23, .cell 5 28]) Tryz.func6 Tryz.call6 rfl rfl rfl rfl ?_
  intro C hC hD
  refine awd_cuty hC hGL (fun x : Nat × Nat × Nat => [(1, .int .i64 v), (2, .own 0 (sqP x.1)), (4, .own 1 (sqP x.2.1)), (5, .own 2 (sqP x.2.2))]) (fun x => [sqS x.1 s, rlC x.2.1 Rl.z, erC x.2.2]) (fun _ => True) ?_ ?_
  · refine xb1 ?_
    intro b2 b4 b5
    intros
    exact cy (b2, b4, b5) trivial
  rintro ⟨b2, b4, b5⟩ -
  dsimp only
  refine awd_cuty hC hGL (fun _ : Unit => [(1, .int .i64 v), (2, .own 0 (sqP b2)), (4, .own 1 (sqP b4)), (5, .own 2 (sqP b5))]) (fun _ => [sqS b2 s, rlC b4 Rl.z, erC b5]) (fun _ => True) ?_ fun _ _ => ?_
  · refine xn ?_
    repeat' (first | exact Le.n | refine Lc.mk ?_ ?_)
    all_goals intros
    all_goals first
      | exact cy () trivial
      | (exfalso; omega)
  refine awd_seq (awd_cuty hC hGL (fun x : Nat × Nat × Nat => [(1, .int .i64 v), (2, .own 0 (sqP b2)), (4, .own 1 (sqP b4)), (5, .own 2 (sqP b5)), (20, .func (.func 41) [] [.own 4 (sqP x.2.1), .own 3 (sqP x.1), .own 5 (sqP x.2.2)])]) (fun x => [sqS b2 s, rlC b4 Rl.z, erC b5, sqS x.1 (tabS v), sqS x.2.1 [124], sqI x.2.2 0]) (fun _ => True) ?_ ?_)
  · refine xn1 ?_
    refine cx_new (fun x : Nat × Nat × Nat => .func (.func 41) [] [.own 4 (sqP x.2.1), .own 3 (sqP x.1), .own 5 (sqP x.2.2)]) hSq (fun _ _ _ h => h) ?_
    rintro ⟨b0, b1, b3⟩
    refine xn1 ?_
    exact cy (b0, b1, b3) trivial
  rintro ⟨b0, b1, b3⟩ -
  dsimp only
  refine awd_block ?_
  refine awd_range rfl Tryz.call41 [(1, .int .i64 v), (2, .own 0 (sqP b2)), (4, .own 1 (sqP b4)), (5, .own 2 (sqP b5))] env_w rfl ?_
  intro L D r hp ha hb hfs
  rw [hC]
  have hy : ∀ (k : Nat) (s' : List UInt8) (y : Unit), k < (tabR v).length → (∀ j (hj : j < (rowV v).length), j < k → (rowV v)[j].1 ≠ up) → YSpec Tryz.prog G L [.str ((tabR v).getD k [])] (sqS b0 s' :: sqS b1 [124] :: sqI b3 0 :: [sqS b2 s, rlC b4 Rl.z, erC b5, objD D, objL L r .ready none])
      (fun b H' => (b = true ∧ ∃ _ : Unit, (∀ j (hj : j < (rowV v).length), j < k + 1 → (rowV v)[j].1 ≠ up) ∧ H' = sqS b0 s' :: sqS b1 [124] :: sqI b3 0 :: [sqS b2 s, rlC b4 Rl.z, erC b5, objD D, objL L r .ready none]) ∨
        (b = false ∧ ∃ T : Heap, H' = sqS b0 s' :: sqS b1 [124] :: sqI b3 0 :: (sqS b2 s :: rlC b4 (findV up (rowV v)) :: erC b5 :: objD D :: objL L r .done (some .ret) :: T))) := by
    intro k s' y hk hI
    have hk' : k < (rowV v).length := by omega
    have hro := row_at hv hk'
    simp only [rowOK, Bool.and_eq_true, decide_eq_true_eq] at hro
    have hF := fields_list hS ((tabR v).getD k []) (by rw [tab_get hk']; omega) (by rw [tab_get hk']; exact row_ascii hro.1.1.1.2)
    rw [tab_get hk', hro.1.2] at hF
    have hdg := hro.2
    have a1 := atoi_one (G := G) (rowV v)[k].2.t hdg.1 hdg.2.1
    have a2 := atoi_one (G := G) (rowV v)[k].2.a hdg.2.2.1 hdg.2.2.2.1
    have a3 := atoi_one (G := G) (rowV v)[k].2.b hdg.2.2.2.2.1 hdg.2.2.2.2.2.1
    have a4 := atoi_one (G := G) (rowV v)[k].2.p hdg.2.2.2.2.2.2.1 hdg.2.2.2.2.2.2.2
    have hfind : (rowV v)[k].1 = up → findV up (rowV v) = (rowV v)[k].2 := fun h => findV_hit hk' hI h
    have hnext : (rowV v)[k].1 ≠ up → ∀ j (hj : j < (rowV v).length), j < k + 1 → (rowV v)[j].1 ≠ up := fun h j hj hjk => by
      by_cases e : j = k
      · subst e; exact h
      · exact hI j hj (by omega)
    rw [tab_get hk']
    generalize (rowV v)[k] = row at *
    obtain ⟨nm, t, a, b, p⟩ := row
    dsimp only at *
    have hperm : ∀ (x : HEnt) (rr : Rl) (T : Heap), (sqS b2 s :: rlC b4 rr :: erC b5 :: sqS b0 s' :: sqS b1 [124] :: sqI b3 0 :: T).Perm (sqS b0 s' :: sqS b1 [124] :: sqI b3 0 :: sqS b2 s :: rlC b4 rr :: erC b5 :: T) := fun _ rr T =>
      (List.perm_append_comm (l₁ := [sqS b2 s, rlC b4 rr, erC b5]) (l₂ := [sqS b0 s', sqS b1 [124], sqI b3 0])).append_right T
    refine y_mono (y_perm (H1 := [sqS b2 s, rlC b4 Rl.z, erC b5, sqS b0 s', sqS b1 [124], sqI b3 0, objD D, objL L r .ready none]) (hperm (objD D) _ _)
      (y_spec (i := 7) (p := 21) (Qf := fun bb H' => (bb = true ∧ nm ≠ up ∧ H' = [sqS b2 s, rlC b4 Rl.z, erC b5, sqS b0 s', sqS b1 [124], sqI b3 0, objD D, objL L r .ready none]) ∨ (bb = false ∧ nm = up ∧ ∃ T, H' = [sqS b2 s, rlC b4 ⟨t, a, b, p⟩, erC b5, sqS b0 s', sqS b1 [124], sqI b3 0, objD D, objL L r .done (some .ret)] ++ T)) rfl hp (by kernel_rfl) hfs ?_)) ?_
    · intro C2 hC2 hD2
      rw [ha]
      refine awr_code hC2 hGL (xn1 ?_)
      refine ⟨rfl, 7, rfl, ?_⟩
      rw [hb]
      refine awr_block (awr_cut hC2 hGL (fun _ : Unit => [(1, .int .i64 v), (2, .own 0 (sqP b2)), (4, .own 1 (sqP b4)), (5, .own 2 (sqP b5)), (7, .list 1 5 (strsF [nm, [digC t], [digC a], [digC b], [digC p]]))]) (fun _ => [sqS b2 s, rlC b4 Rl.z, erC b5, sqS b0 s', sqS b1 [124], sqI b3 0, objD D, objL L r .busy none]) (fun _ => True) ?_ fun _ _ => ?_)
      · refine xn1 ?_
        intros
        exact cy () trivial
      refine awr_seq (awr_dwq mixed hC2 hGL (by kernel_rfl) ?_)
      refine xn1 ?_
      refine cq hcu hU rfl ?_
      refine xn1 ?_
      refine awr_cond rfl (fun h => ?_) (fun h => ?_)
      · have hnu : nm = up := seqB_t.1 h
        refine awr_cut hC2 hGL (fun b8 : Nat => [(4, .own 1 (sqP b4)), (5, .own 2 (sqP b5)), (7, .list 1 5 (strsF [nm, [digC t], [digC a], [digC b], [digC p]])), (8, .own 8 (sqP b8))]) (fun b8 => [sqS b2 s, rlC b4 Rl.z, erC b5, sqS b0 s', sqS b1 [124], sqI b3 0, objD D, objL L r .busy none, arC b8 0 0 0 0]) (fun _ => True) ?_ fun b8 _ => ?_
        · refine xn1 ?_
          intro b8
          intros
          exact cy b8 trivial
        refine awr_seq (awr_cut hC2 hGL (fun _ : Unit => [(4, .own 1 (sqP b4)), (5, .own 2 (sqP b5)), (7, .list 1 5 (strsF [nm, [digC t], [digC a], [digC b], [digC p]])), (8, .own 8 (sqP b8)), (30, .int .i64 0)]) (fun _ => [sqS b2 s, rlC b4 Rl.z, erC b5, sqS b0 s', sqS b1 [124], sqI b3 0, objD D, objL L r .busy none, arC b8 0 0 0 0]) (fun _ => True) ?_ fun _ _ => ?_)
        · refine xn1 ?_
          exact cy () trivial
        refine awr_block (awr_rounds 5 (rdsR (awr_code hC2 hGL (xn1 ?_))))
        intro _
        refine awr_code hC2 hGL (xn1 ?_)
        intro _
        refine awr_code hC2 hGL (xn1 ?_)
        intro _
        refine awr_code hC2 hGL (xn1 ?_)
        intro _
        refine awr_code hC2 hGL (xn1 ?_)
        intro _
        refine ⟨fun _ => ?_, fun h => absurd rfl h⟩
        refine awr_code hC2 hGL (xn1 ?_)
        exact ⟨7, rfl, .inr ⟨rfl, hnu, [arC b8 t a b p], rfl⟩⟩
      · refine awr_code hC2 hGL (xn1 ?_)
        refine ⟨7, rfl, .inl ⟨rfl, fun e => ?_, rfl⟩⟩
        have h : seqB nm up = false := h
        rw [seqB_t.2 e] at h
        cases h
    · rintro b' H' (⟨rfl, hne, rfl⟩ | ⟨rfl, hnu, T, rfl⟩)
      · exact ⟨_, hperm (objD D) _ _, .inl ⟨rfl, (), hnext hne, rfl⟩⟩
      · rw [hfind hnu]
        exact ⟨_, hperm (objD D) _ _, .inr ⟨rfl, T, rfl⟩⟩
  have run := split_seq_run (G := G) L b0 b1 b3 124 (tabR v) (by omega) (tab_no hv) (tab_len hv) (Y := Unit) (Z := Heap) (fun _ => [sqS b2 s, rlC b4 Rl.z, erC b5, objD D, objL L r .ready none]) (fun T => sqS b2 s :: rlC b4 (findV up (rowV v)) :: erC b5 :: objD D :: objL L r .done (some .ret) :: T) (fun k _ => ∀ j (hj : j < (rowV v).length), j < k → (rowV v)[j].1 ≠ up) () (fun j hj h => absurd h (Nat.not_lt_zero _)) hy
  have hperm : ∀ (s' : List UInt8) (rr : Rl) (T : Heap), (sqS b0 s' :: sqS b1 [124] :: sqI b3 0 :: sqS b2 s :: rlC b4 rr :: erC b5 :: T).Perm (sqS b2 s :: rlC b4 rr :: erC b5 :: sqS b0 s' :: sqS b1 [124] :: sqI b3 0 :: T) := fun s' rr T =>
    (List.perm_append_comm (l₁ := [sqS b0 s', sqS b1 [124], sqI b3 0]) (l₂ := [sqS b2 s, rlC b4 rr, erC b5])).append_right T
  refine fn_heap (fn_perm (hperm _ _ _) (fn_args run fun _ _ h => h)) ?_
  rintro res H' ⟨rfl, s', ⟨y, hI, rfl⟩ | ⟨T, rfl⟩⟩
  · refine ⟨_, hperm _ _ _, .tuple [], 7, .ready, none, rfl, rfl, (fun h => by cases h), ?_⟩
    rw [findV_no fun j hj => hI j hj (by omega)]
    show AWpD Tryz.prog _ _ _ _ _ _
    refine awd_code (C := withD C (colD D :: C.D)) hC hGL (xn1 ?_)
    rw [show (withD C (colD D :: C.D)).D = [colD D] from (by show colD D :: C.D = _; rw [hD])]
    refine lvm_col (i := 6) rfl (lvm_ret ?_)
    exact xn0
  · refine ⟨_, hperm _ _ _, .tuple [], 7, .done, some .ret, rfl, rfl, (fun h => by cases h), ?_⟩
    show LvM _ _ _ _ _ (colD D :: C.D) _ _ _
    rw [hD]
    refine lvm_col (i := 6) rfl (lvm_ret ?_)
    exact xn0
theorem rules_Of {G : Glo} (hS : SpIs G) (v : Int) (s : List UInt8) (hl : s.length ≤ 1000000) : FnIs Tryz.prog G 6 [.str s, .int .i64 v] (.tuple [(ruleV v s).A, (verE v).A]) := by
  by_cases hv : v = 3 ∨ v = 4
  · have e1 : ruleV v s = findV (turnS 97 122 (-32) s) (rowV v) := by unfold ruleV; rw [if_pos hv]
    have e2 : verE v = .none := by unfold verE; rw [if_pos hv]
    rw [e1, e2]
    exact rules_Of0 hS hv s hl
  · have e1 : ruleV v s = Rl.z := by unfold ruleV; rw [if_neg hv]
    have e2 : verE v = .errno 1 := by unfold verE; rw [if_neg hv]
    rw [e1, e2]
    have hGL : GloAll G [] := gloAll_nil
    refine fn_x Tryz.func6 Tryz.call6 rfl rfl rfl rfl hGL ?_
    intro C hC
    refine xb ?_
    repeat' (first | exact Le.n | refine Lc.mk ?_ ?_)
    all_goals intros
    all_goals intros
    all_goals first
      | (exfalso; omega)
      | (apply rt_is; rfl)
end Go.Proofs.YtjccffnjhdhgfaaGreatDoor
namespace Go.Proofs.YtjccffnjhdhgfaaGreatDoor
open Go Go.RowKit
def rlL (r : Rl) : AVal := .list 1 4 (partElem [(0, .int .i64 r.t), (1, .int .i64 r.a), (2, .int .i64 r.b), (3, .int .i64 r.p)])
def optA : Option Rl → AVal
  | none => .raw (.slice none 0 0)
  | some r => rlL r
def knAt (i : Nat) : Kn := knR.getD i ⟨[], none, none⟩
def knF (i : Nat) : AVal := .agg [.str (knAt i).n, optA (knAt i).o, optA (knAt i).w]
def knPs : List (Nat × AVal) := (List.range 36).map fun i => (i, knF i)
theorem knP_at {i : Nat} (h : i < 36) : partElem knPs i = knF i := by
  unfold partElem knPs
  rw [List.getElem?_map, List.getElem?_range h]
  rfl
theorem list_retold {R : Seal} {sz n : Nat} {f g : Nat → AVal} {u : Value} (h : ∀ i, i < n → f i = g i) : Rel R (.list sz n f) u → Rel R (.list sz n g) u := by
  rintro ⟨⟨a, cap, e, hle, y⟩, h2⟩
  refine ⟨⟨a, cap, e, hle, ?_⟩, h2⟩
  rcases y with y | ⟨b, o, C, el, fz, ha, hR, hi⟩
  · exact .inl y
  · exact .inr ⟨b, o, C, el, fz, ha, hR, fun i hn => by rw [← h i hn]; exact hi i hn⟩
/-! Names whatever their letters. -/
def upB (c : UInt8) : Bool := decide ((65 ≤ c.toNat ∧ c.toNat ≤ 90) ∨ c.toNat = 45)
theorem knR_up : (knR.all fun k => k.n.all upB) = true := by decide +kernel
theorem fold_byte {c d : UInt8} (hc : upB c = true) : UInt8.ofNat (turnN 65 90 32 c.toNat).toNat = UInt8.ofNat (turnN 65 90 32 d.toNat).toNat ↔ c = UInt8.ofNat (turnN 97 122 (-32) d.toNat).toNat := by
  have hc : (65 ≤ c.toNat ∧ c.toNat ≤ 90) ∨ c.toNat = 45 := by simpa [upB] using hc
  have h1 := c.toNat_lt
  have h2 := d.toNat_lt
  rw [← UInt8.toNat_inj, ← UInt8.toNat_inj, UInt8.toNat_ofNat', UInt8.toNat_ofNat', UInt8.toNat_ofNat']
  unfold turnN
  (repeat' split) <;> omega
theorem fold_name : ∀ {n s : List UInt8}, n.all upB = true → (turnS 65 90 32 n = turnS 65 90 32 s ↔ n = turnS 97 122 (-32) s)
  | [], [], _ => by simp [turnS]
  | [], d :: s, _ => by simp [turnS]
  | c :: n, [], _ => by simp [turnS]
  | c :: n, d :: s, h => by
    rw [List.all_cons, Bool.and_eq_true] at h
    have ih := fold_name (n := n) (s := s) h.2
    have hb := fold_byte (d := d) h.1
    unfold turnS at ih ⊢
    simp only [List.map_cons, List.cons.injEq]
    rw [ih, hb]
theorem knAt_up (i : Nat) : (knAt i).n.all upB = true := by
  unfold knAt
  by_cases h : i < knR.length
  · rw [List.getD_eq_getElem?_getD, List.getElem?_eq_getElem h]
    exact List.all_eq_true.1 knR_up _ (List.getElem_mem h)
  · rw [List.getD_eq_getElem?_getD, List.getElem?_eq_none (by omega)]
    rfl
/-! What is found. -/
theorem findK_hit {v : Int} {up : List UInt8} {r : Rl} : ∀ {l : List Kn} {k : Nat} (hk : k < l.length), (∀ j (hj : j < l.length), j < k → (l[j].of v = none ∨ l[j].n ≠ up)) → l[k].of v = some r → l[k].n = up → findV up (l.filterMap fun k => (k.of v).map fun r => (k.n, r)) = r
  | x :: t, 0, hk, _, h1, h2 => by
    have h1 : x.of v = some r := h1
    have h2 : x.n = up := h2
    simp only [List.filterMap_cons, h1, Option.map_some, findV, if_pos h2]
  | x :: t, k + 1, hk, h0, h1, h2 => by
    have ih := findK_hit (l := t) (k := k) (by simpa using hk) (fun j hj hjk => by
      have := h0 (j + 1) (by simpa using hj) (by omega)
      simpa using this) (by simpa using h1) (by simpa using h2)
    have h3 : x.of v = none ∨ x.n ≠ up := h0 0 (by simp) (Nat.succ_pos k)
    cases hx : x.of v with
    | none => simp only [List.filterMap_cons, hx, Option.map_none, ih]
    | some r' =>
      rw [hx] at h3
      have h3 : x.n ≠ up := by rcases h3 with h | h; cases h; exact h
      simp only [List.filterMap_cons, hx, Option.map_some, findV, if_neg h3, ih]
theorem findK_no {v : Int} {up : List UInt8} : ∀ {l : List Kn}, (∀ j (hj : j < l.length), (l[j].of v = none ∨ l[j].n ≠ up)) → findV up (l.filterMap fun k => (k.of v).map fun r => (k.n, r)) = ⟨8, 0, 0, 0⟩
  | [], _ => rfl
  | x :: t, h0 => by
    have ih := findK_no (v := v) (up := up) (l := t) (fun j hj => by
      have := h0 (j + 1) (by simpa using hj)
      simpa using this)
    have h3 : x.of v = none ∨ x.n ≠ up := h0 0 (by simp)
    cases hx : x.of v with
    | none => simp only [List.filterMap_cons, hx, Option.map_none, ih]
    | some r' =>
      rw [hx] at h3
      have h3 : x.n ≠ up := by rcases h3 with h | h; cases h; exact h
      simp only [List.filterMap_cons, hx, Option.map_some, findV, if_neg h3, ih]
theorem knAt_get {i : Nat} (h : i < knR.length) : knAt i = knR[i] := by
  unfold knAt
  rw [List.getD_eq_getElem?_getD, List.getElem?_eq_getElem h]
  rfl
theorem knR_len : knR.length = 36 := rfl
set_option maxRecDepth 20000
set_option maxHeartbeats 4000000
set_option linter.unusedSimpArgs false
set_option linter.unusedVariables false
attribute [local irreducible] AWp AOps byteAt SrcOK OrOk GloAll FnSpec
theorem ref_known0 {G : Glo} : FnIs Tryz.prog G 18 [] (.list 3 36 (partElem knPs)) := by
  have hGL : GloAll G [] := gloAll_nil
  refine fn_x Tryz.func18 Tryz.call18 rfl rfl rfl rfl hGL ?_
  intro C hC
  exact xw0
theorem ref_known {G : Glo} : FnIs Tryz.prog G 18 [] (.list 3 36 knF) :=
  fn_told ref_known0 fun r H h => by
    obtain ⟨rfl, rfl⟩ := h
    rintro C R w e hm ⟨x, rfl, hx⟩
    exact ⟨R, hm, x, rfl, list_retold (fun i h => knP_at h) hx⟩
theorem ref_same {G : Glo} (s t : List UInt8) (hl : s.length ≤ 9223372036854775807) (hm : t.length ≤ 9223372036854775807) : FnIs Tryz.prog G 19 [.str s, .str t] (.bool (seqB (turnS 65 90 32 s) (turnS 65 90 32 t))) := by
  have h1 := ref_Lower (G := G) s hl
  have h2 := ref_Lower (G := G) t hm
  have hGL : GloAll G [] := gloAll_nil
  refine fn_x Tryz.func19 Tryz.call19 rfl rfl rfl rfl hGL ?_
  intro C hC
  exact xw0
end Go.Proofs.YtjccffnjhdhgfaaGreatDoor
namespace Go.Proofs.YtjccffnjhdhgfaaGreatDoor
open Go Go.RowKit
abbrev kRl (b : Nat) (r : Rl) : HEnt := .cells b (some 23) [.int .i64 r.t, .int .i64 r.a, .int .i64 r.b, .int .i64 r.p]
abbrev kPt (b : Nat) : Value := .pointer (some ⟨b, 0, none⟩)
section
variable {P : Program} [Tab P] {C : Ctx} {H : Heap} {env : Env}
/-- A list that holds something is not nil. -/
theorem rv_ne_list {sz m : Nat} {f : Nat → AVal} {x : Operand} {T ty e : TypeId} {xT : TI} (hx : evalA env x = some (.list sz (m + 1) f)) (h1 : tab P T = some xT) (h2 : xT.desc = .slice e) : RunV P C H env (.binOp .neq T x (.const (.slice none 0 0)) ty) (.bool true) := by
  intro R ρ w hm hf dst t p af g
  refine ⟨_, ?_, rel_bool.2 rfl⟩
  obtain ⟨a, cap, e1, _, y⟩ := rel_one (hf _ _ hx) rfl
  have e1 : ρ x = .slice a (m + 1) cap := (List.cons.inj e1).1
  obtain ⟨b, o, C0, el, fz, rfl, _⟩ := y.resolve_left (Nat.succ_ne_zero m)
  have hc : ρ (.const (.slice none 0 0)) = .slice none 0 0 := rel_raw.1 (hf (.const (.slice none 0 0)) _ (evalA_const env (.slice none 0 0)))
  obtain ⟨h3, h4, h5⟩ := equal_nil (R := R) (x := x) (w := w) (av := .raw (ρ x)) (c := false) (z := .slice none 0 0) (rel_raw.2 rfl) h1 (by rw [h2, e1]; rfl) (by rw [h2]; rfl)
  have h6 := h5 .neq (.inr rfl)
  rw [if_neg (by decide)] at h6
  simp only [execOp, hc, Sem.run_bind, h4, Result.andThen_ok, h6, h3, Sem.run_pure, Bool.not_false]
end
set_option maxRecDepth 20000
set_option maxHeartbeats 4000000
set_option linter.unusedSimpArgs false
set_option linter.unusedVariables false
attribute [local irreducible] AWp AOps byteAt SrcOK OrOk GloAll FnSpec
attribute [local irreducible] turnS knAt knR rowV
theorem ref_Rule0 {G : Glo} {v : Int} (hv : v = 3 ∨ v = 4) (s : List UInt8) (hl : s.length ≤ 1000000) : FnIs Tryz.prog G 5 [.str s, .int .i64 v] (.tuple [(findV (turnS 97 122 (-32) s) (rowV v)).A, .int .i64 0]) := by
  have hGL : GloAll G [] := gloAll_nil
  have hK := ref_known (G := G)
  generalize hup : turnS 97 122 (-32) s = up at *
  have hsame : ∀ k, k < 36 → FnIs Tryz.prog G 19 [.str (knAt k).n, .str s] (.bool (seqB (knAt k).n up)) := fun k hk => by
    have h := ref_same (G := G) (knAt k).n s (by
      have : ∀ j, j < 36 → (knAt j).n.length ≤ 100 := by decide +kernel
      have := this k hk
      omega) (by omega)
    have e : seqB (turnS 65 90 32 (knAt k).n) (turnS 65 90 32 s) = seqB (knAt k).n up := by
      rw [Bool.eq_iff_iff, seqB_t, seqB_t, fold_name (knAt_up k), hup]
    rwa [e] at h
  refine fn_a Tryz.func5 Tryz.call5 rfl rfl rfl rfl ?_
  intro C hC
  refine cuty hC hGL (fun b4 : Nat => [(0, .str s), (1, .int .i64 v), (4, .own 0 (kPt b4))]) (fun b4 => [kRl b4 Rl.z]) (fun _ => True) ?_ fun b4 _ => ?_
  · refine xb1 ?_
    intro b4
    intros
    exact cy b4 trivial
  refine cut hC hGL [(0, .str s), (1, .int .i64 v), (4, .own 0 (kPt b4))] [kRl b4 Rl.z] True ?_ fun _ => ?_
  · refine xn ?_
    repeat' (first | exact Le.n | refine Lc.mk ?_ ?_)
    all_goals intros
    all_goals first
      | exact Ct.w
      | (exfalso; omega)
  refine aw_seq (cut hC hGL [(0, .str s), (1, .int .i64 v), (4, .own 0 (kPt b4)), (16, .list 3 36 knF), (17, .int .i64 (36 : Nat)), (18, .int .i64 (0 : Nat))] [kRl b4 Rl.z] True xn0 fun _ => ?_)
  refine aw_block (aw_loopS (X := Nat) (fun k => [(0, .str s), (1, .int .i64 v), (4, .own 0 (kPt b4)), (16, .list 3 36 knF), (17, .int .i64 (36 : Nat)), (18, .int .i64 (k : Nat))]) (fun _ => [kRl b4 Rl.z]) (fun k => k ≤ 36 ∧ ∀ j, j < k → ((knAt j).of v = none ∨ (knAt j).n ≠ up)) (fun k => 36 - k) 0 ⟨Nat.zero_le _, fun j h => absurd h (Nat.not_lt_zero _)⟩ env_w (List.Sublist.refl _) ?_)
  rintro k ⟨hk, hI⟩
  have hk : k ≤ 36 := hk
  by_cases hlt : k < 36
  · have hs1 := hsame k hlt
    refine cut hC hGL [(0, .str s), (1, .int .i64 v), (4, .own 0 (kPt b4)), (16, .list 3 36 knF), (17, .int .i64 (36 : Nat)), (18, .int .i64 (k : Nat)), (19, .bool (ltB (k : Int) (36 : Nat)))] [kRl b4 Rl.z] True xn0 fun _ => ?_
    refine cut hC hGL [(0, .str s), (1, .int .i64 v), (4, .own 0 (kPt b4)), (16, .list 3 36 knF), (17, .int .i64 (36 : Nat)), (18, .int .i64 (k : Nat))] [kRl b4 Rl.z] True ?_ fun _ => ?_
    · refine xn ?_
      repeat' (first | exact Le.n | refine Lc.mk ?_ ?_)
      all_goals intros
      all_goals first
        | (intros; exact Ct.w)
        | (intros; exfalso; omega)
    rcases hkn : knAt k with ⟨n, o, w⟩
    have hkF : knF k = .agg [.str n, optA o, optA w] := by unfold knF; rw [hkn]
    rw [hkn] at hs1
    dsimp only at hs1
    have hnx : ((knAt k).of v = none ∨ n ≠ up) → ∀ j, j < k + 1 → ((knAt j).of v = none ∨ (knAt j).n ≠ up) := fun h j hj => by
      by_cases e : j = k
      · subst e; rw [hkn] at h ⊢; exact h
      · exact hI j (by omega)
    rw [hkn] at hnx
    have hfound : ∀ r, (⟨n, o, w⟩ : Kn).of v = some r → n = up → findV up (rowV v) = r := fun r h1 h2 => by
      have e := knAt_get (i := k) (by rw [knR_len]; exact hlt)
      rw [hkn] at e
      unfold rowV
      exact findK_hit (k := k) (by rw [knR_len]; exact hlt) (fun j hj hjk => by have := hI j hjk; rwa [knAt_get hj] at this) (by rw [← e]; exact h1) (by rw [← e]; exact h2)
    rcases hv with rfl | rfl
    · rcases o with _ | o <;> rcases w with _ | w
      all_goals
        refine aw_code hC hGL ?_
        (conv => whnf)
        refine Ix.w ?_
        rw [hkF]
        refine xn ?_
        repeat' (first | exact Le.n | refine Lc.mk ?_ ?_)
        all_goals intros
        all_goals intros
        all_goals try exact ⟨k + 1, ⟨by show k + 1 ≤ 36; omega, hnx (.inl rfl)⟩, by show 36 - (k + 1) < 36 - k; omega, env_w, sub_w⟩
        all_goals try exact ⟨k + 1, ⟨by show k + 1 ≤ 36; omega, hnx (.inr (by assumption))⟩, by show 36 - (k + 1) < 36 - k; omega, env_w, sub_w⟩
      all_goals
        have hfd := hfound o rfl (by assumption)
        refine op1_run hC hGL (rv_ne_list (m := 3) rfl rfl rfl) rfl rfl ?_
        refine xn1 ?_
        refine dw_p mixed hC hGL false (fun (_ : HEnt) => [(4, .own 0 (kPt b4)), (5, .int .i64 0)]) (fun y => [kRl b4 o, y]) (.take 0 (.take 1 (.take 2 (.take 3 (.take 4 (.take 5 (.take 6 (.take 7 (.take 8 (.take 9 (.take 10 (.take 11 (.br 12 (.br 13 (.take 14 (.done)) (.nil)) (.nil)))))))))))))) (by kernel_rfl) ?_ ?_
        · refine xn ?_
          repeat' (first | exact Le.n | refine Lc.mk ?_ ?_)
          all_goals intros
          all_goals exact ⟨_, env_w, rfl⟩
        intro y
        refine xn1 ?_
        rw [hfd]
        exact rt_is rfl
    · rcases o with _ | o <;> rcases w with _ | w
      all_goals
        refine aw_code hC hGL ?_
        (conv => whnf)
        refine Ix.w ?_
        rw [hkF]
        refine xn ?_
        repeat' (first | exact Le.n | refine Lc.mk ?_ ?_)
        all_goals intros
        all_goals intros
        all_goals try exact ⟨k + 1, ⟨by show k + 1 ≤ 36; omega, hnx (.inl rfl)⟩, by show 36 - (k + 1) < 36 - k; omega, env_w, sub_w⟩
        all_goals try exact ⟨k + 1, ⟨by show k + 1 ≤ 36; omega, hnx (.inr (by assumption))⟩, by show 36 - (k + 1) < 36 - k; omega, env_w, sub_w⟩
      all_goals
        have hfd := hfound w rfl (by assumption)
        refine op1_run hC hGL (rv_ne_list (m := 3) rfl rfl rfl) rfl rfl ?_
        refine xn1 ?_
        refine dw_p mixed hC hGL false (fun (_ : HEnt) => [(4, .own 0 (kPt b4)), (5, .int .i64 0)]) (fun y => [kRl b4 w, y]) (.take 0 (.take 1 (.take 2 (.take 3 (.take 4 (.take 5 (.take 6 (.take 7 (.take 8 (.take 9 (.take 10 (.take 11 (.br 12 (.br 13 (.take 14 (.done)) (.nil)) (.nil)))))))))))))) (by kernel_rfl) ?_ ?_
        · refine xn ?_
          repeat' (first | exact Le.n | refine Lc.mk ?_ ?_)
          all_goals intros
          all_goals exact ⟨_, env_w, rfl⟩
        intro y
        refine xn1 ?_
        rw [hfd]
        exact rt_is rfl
  · obtain rfl : k = 36 := by omega
    have hno : findV up (rowV v) = ⟨8, 0, 0, 0⟩ := by
      unfold rowV
      exact findK_no fun j hj => by have := hI j (by rw [knR_len] at hj; exact hj); rwa [knAt_get hj] at this
    refine aw_code hC hGL (xn1 ?_)
    intro _
    refine ⟨fun _ => ?_, fun h => absurd rfl h⟩
    refine aw_code hC hGL (xn1 ?_)
    rw [hno]
    exact rt_is rfl
theorem ref_Rule {G : Glo} (v : Int) (s : List UInt8) (hl : s.length ≤ 1000000) : FnIs Tryz.prog G 5 [.str s, .int .i64 v] (.tuple [(ruleV v s).A, .int .i64 (verE v).e]) := by
  by_cases hv : v = 3 ∨ v = 4
  · have e1 : ruleV v s = findV (turnS 97 122 (-32) s) (rowV v) := by unfold ruleV; rw [if_pos hv]
    have e2 : verE v = .none := by unfold verE; rw [if_pos hv]
    rw [e1, e2]
    exact ref_Rule0 hv s hl
  · have e1 : ruleV v s = Rl.z := by unfold ruleV; rw [if_neg hv]
    have e2 : verE v = .errno 1 := by unfold verE; rw [if_neg hv]
    rw [e1, e2]
    have hGL : GloAll G [] := gloAll_nil
    refine fn_x Tryz.func5 Tryz.call5 rfl rfl rfl rfl hGL ?_
    intro C hC
    refine xb ?_
    repeat' (first | exact Le.n | refine Lc.mk ?_ ?_)
    all_goals intros
    all_goals intros
    all_goals first
      | (exfalso; omega)
      | (apply rt_is; rfl)
end Go.Proofs.YtjccffnjhdhgfaaGreatDoor
namespace Go.Proofs.YtjccffnjhdhgfaaGreatDoor
open Go Go.RowKit
/-- A parameter. -/
structure Pr where
  n : List UInt8
  vs : List (List UInt8)
def Pr.z : Pr := ⟨[], []⟩
instance : Inhabited Pr := ⟨Pr.z⟩
/-- A line as it stands. -/
structure Ln where
  g : List UInt8
  n : List UInt8
  ps : List Pr
  v : List UInt8
def prF (ps : List Pr) (i : Nat) : AVal := .agg [.str (ps.getD i Pr.z).n, .list 1 (ps.getD i Pr.z).vs.length (strsF (ps.getD i Pr.z).vs)]
def Ln.A (p : Ln) : AVal := .agg [.str p.g, .str p.n, .list 2 p.ps.length (prF p.ps), .str p.v]
theorem below_next {p : Nat → Prop} {k : Nat} (h : ∀ j, j < k → p j) (hk : p k) : ∀ j, j < k + 1 → p j := fun j hj => by
  rcases Nat.lt_or_ge j k with g | g
  · exact h j g
  · rw [show j = k by omega]; exact hk
end Go.Proofs.YtjccffnjhdhgfaaGreatDoor
namespace Go.Proofs.YtjccffnjhdhgfaaGreatDoor
open Go Go.RowKit
set_option linter.unusedSectionVars false
section
variable {P : Program} [Tab P] {C : Ctx} {n : Nat} {H : Heap} {env : Env} {x y : Operand} {T : TypeId} {xT : TI} {e : TypeId} {xe : TI}
/-- An element of an array that is a value. -/
theorem rv_indexA {len i : Nat} {k0 : IntKind} {cs : List AVal} {av : AVal} (hx : evalA env x = some (.agg cs)) (hy : evalA env y = some (.int k0 (i : Int))) (h1 : tab P T = some xT) (h2 : xT.desc = .array len e) (h3 : tab P e = some xe) (h4 : xe.size = 1) (h5 : descAgg xe.desc = false) (hi : i < len) (hc : cs[i]? = some av) (ha : av.isAgg = false) :
    RunV P C H env (.index T x y) av := by
  intro R ρ w hm hf dst t p af g
  have hr := hf _ _ hx
  obtain ⟨vs, hvs⟩ : ∃ vs, ρ x = .agg vs := by
    have := hr.2
    cases hv : ρ x <;> rw [hv] at this <;> simp [AVal.isAgg, vAgg] at this
    exact ⟨_, rfl⟩
  rw [hvs] at hr
  obtain ⟨v, hv, hrv⟩ := relL_get (R := R) (cs := cs) (vs := vs.toList) hr.1 hc
  refine ⟨v, ?_, relC_rel hrv ha⟩
  have hv' : vs[i]? = some v := by simpa using hv
  have hn : (0 : Int) ≤ i ∧ (i : Int) < len := ⟨by omega, by omega⟩
  have hil : i < vs.size := by
    rcases Nat.lt_or_ge i vs.size with h | h
    · exact h
    · rw [Array.getElem?_eq_none h] at hv'; cases hv'
  simp only [execOp, hvs, rel_int.1 (hf _ _ hy), Instr.index, asIntOf, Sem.run_bind, Sem.run_pure, Result.andThen_ok, tab_run_und h1, h2, hn, part, Int.toNat_natCast]
  simp [tab_run_size h3, tab_run_agg h3, h5, h4, hv']
end
end Go.Proofs.YtjccffnjhdhgfaaGreatDoor
namespace Go.Proofs.YtjccffnjhdhgfaaGreatDoor
open Go Go.RowKit
def valN : List UInt8 := [86, 65, 76, 85, 69]
/-- The first parameter of a name, whatever its letters. -/
def findP (s : List UInt8) : List Pr → Nat → Int
  | [], _ => -1
  | q :: l, i => if turnS 97 122 (-32) q.n = turnS 97 122 (-32) s then (i : Int) else findP s l (i + 1)
def tyL (t : Int) (x : List UInt8) : Int := if x = [116, 101, 120, 116] then (if t = 2 ∨ t = 3 then t else 1)
  else if x = [117, 114, 105] then 4
  else if x = [100, 97, 116, 101, 45, 97, 110, 100, 45, 111, 114, 45, 116, 105, 109, 101] then 5
  else if x = [100, 97, 116, 101] then 5
  else if x = [100, 97, 116, 101, 45, 116, 105, 109, 101] then 5
  else if x = [116, 105, 109, 101, 115, 116, 97, 109, 112] then 5
  else if x = [117, 116, 99, 45, 111, 102, 102, 115, 101, 116] then 6
  else if x = [108, 97, 110, 103, 117, 97, 103, 101, 45, 116, 97, 103] then 7
  else 8
def typeR (t : Int) (l : List Pr) : Int := if findP valN l 0 < 0 ∨ (l.getD (findP valN l 0).toNat Pr.z).vs.length = 0 then t else tyL t (turnS 65 90 32 ((l.getD (findP valN l 0).toNat Pr.z).vs.getD 0 []))
def typeV (v : Int) (s : List UInt8) (l : List Pr) : Int := if v = 3 ∨ v = 4 then typeR (ruleV v s).t l else 0
def kindS (k : Int) : List UInt8 := if k < 1 ∨ 9 ≤ k then [] else if k = 4 then [117, 114, 105] else if k = 5 then [100, 97, 116, 101, 45, 97, 110, 100, 45, 111, 114, 45, 116, 105, 109, 101] else if k = 6 then [117, 116, 99, 45, 111, 102, 102, 115, 101, 116] else if k = 7 then [108, 97, 110, 103, 117, 97, 103, 101, 45, 116, 97, 103] else if k = 8 then [117, 110, 107, 110, 111, 119, 110] else [116, 101, 120, 116]
theorem findP_at {s : List UInt8} : ∀ {l : List Pr} {k : Nat} (i : Nat), k < l.length → (∀ j, j < k → turnS 97 122 (-32) (l.getD j Pr.z).n ≠ turnS 97 122 (-32) s) → turnS 97 122 (-32) (l.getD k Pr.z).n = turnS 97 122 (-32) s → findP s l i = ((i + k : Nat) : Int)
  | [], k, i, h, _, _ => absurd h (Nat.not_lt_zero _)
  | q :: l, 0, i, _, _, h => by
    have h : turnS 97 122 (-32) q.n = turnS 97 122 (-32) s := h
    simp only [findP, if_pos h, Nat.add_zero]
  | q :: l, k + 1, i, hk, h0, h => by
    have h1 : turnS 97 122 (-32) q.n ≠ turnS 97 122 (-32) s := h0 0 (Nat.succ_pos k)
    have ih := findP_at (s := s) (l := l) (k := k) (i + 1) (by simpa using hk) (fun j hj => by simpa using h0 (j + 1) (by omega)) (by simpa using h)
    simp only [findP, if_neg h1, ih]
    omega
theorem findP_no {s : List UInt8} : ∀ {l : List Pr} (i : Nat), (∀ j, j < l.length → turnS 97 122 (-32) (l.getD j Pr.z).n ≠ turnS 97 122 (-32) s) → findP s l i = -1
  | [], _, _ => rfl
  | q :: l, i, h0 => by
    have h1 : turnS 97 122 (-32) q.n ≠ turnS 97 122 (-32) s := h0 0 (by simp)
    have ih := findP_no (s := s) (l := l) (i + 1) (fun j hj => by simpa using h0 (j + 1) (by simpa using hj))
    simp only [findP, if_neg h1, ih]
theorem findP_cases (s : List UInt8) : ∀ (l : List Pr) (i : Nat), findP s l i = -1 ∨ ∃ k, k < l.length ∧ findP s l i = ((i + k : Nat) : Int)
  | [], _ => .inl rfl
  | q :: l, i => by
    by_cases h : turnS 97 122 (-32) q.n = turnS 97 122 (-32) s
    · exact .inr ⟨0, by simp, by simp only [findP, if_pos h, Nat.add_zero]⟩
    · rcases findP_cases s l (i + 1) with h1 | ⟨k, h1, h2⟩
      · exact .inl (by simp only [findP, if_neg h, h1])
      · exact .inr ⟨k + 1, by simpa using h1, by simp only [findP, if_neg h, h2]; omega⟩
theorem fold_two {c d : UInt8} : UInt8.ofNat (turnN 65 90 32 c.toNat).toNat = UInt8.ofNat (turnN 65 90 32 d.toNat).toNat ↔ UInt8.ofNat (turnN 97 122 (-32) c.toNat).toNat = UInt8.ofNat (turnN 97 122 (-32) d.toNat).toNat := by
  have h1 := c.toNat_lt
  have h2 := d.toNat_lt
  rw [← UInt8.toNat_inj, ← UInt8.toNat_inj, UInt8.toNat_ofNat', UInt8.toNat_ofNat', UInt8.toNat_ofNat', UInt8.toNat_ofNat']
  unfold turnN
  (repeat' split) <;> omega
theorem fold_any : ∀ {n s : List UInt8}, (turnS 65 90 32 n = turnS 65 90 32 s ↔ turnS 97 122 (-32) n = turnS 97 122 (-32) s)
  | [], [] => by simp [turnS]
  | [], d :: s => by simp [turnS]
  | c :: n, [] => by simp [turnS]
  | c :: n, d :: s => by
    have ih := fold_any (n := n) (s := s)
    have hb := fold_two (c := c) (d := d)
    unfold turnS at ih ⊢
    simp only [List.map_cons, List.cons.injEq]
    rw [ih, hb]
theorem fold_seq (n s : List UInt8) : seqB (turnS 65 90 32 n) (turnS 65 90 32 s) = seqB (turnS 97 122 (-32) n) (turnS 97 122 (-32) s) := by
  rw [Bool.eq_iff_iff, seqB_t, seqB_t]
  exact fold_any
set_option maxRecDepth 20000
set_option maxHeartbeats 4000000
set_option linter.unusedSimpArgs false
set_option linter.unusedVariables false
attribute [local irreducible] AWp AOps byteAt SrcOK OrOk GloAll FnSpec
attribute [local irreducible] turnS findP tyL
theorem rules_Find {G : Glo} (l : List Pr) (s : List UInt8) (hl : l.length ≤ 9223372036854775807) (hn : ∀ k, (l.getD k Pr.z).n.length ≤ 9223372036854775807) (hs : s.length ≤ 1000000) : FnIs Tryz.prog G 14 [.list 2 l.length (prF l), .str s] (.int .i64 (findP s l 0)) := by
  have h1 := fun k => name_Same (G := G) (l.getD k Pr.z).n s (by have := hn k; omega) (by omega)
  have hGL : GloAll G [] := gloAll_nil
  refine fn_x Tryz.func14 Tryz.call14 rfl rfl rfl rfl hGL ?_
  intro C hC
  refine xw1 ?_
  intros
  refine lp hC hGL (fun (k : Nat) => [(1, .str s), (7, .list 2 l.length (prF l)), (8, .int .i64 (l.length : Nat)), (9, .int .i64 (k : Nat))]) (fun _ => []) (fun k => k ≤ l.length ∧ ∀ j, j < k → turnS 97 122 (-32) (l.getD j Pr.z).n ≠ turnS 97 122 (-32) s) (fun k => l.length - k) 0 ⟨Nat.zero_le _, fun j h => absurd h (Nat.not_lt_zero _)⟩ env_w rfl ?_
  rintro k ⟨hk, hI⟩
  have h2 := h1 k
  refine xw ?_
  repeat' (first | exact Le.n | refine Lc.mk ?_ ?_)
  all_goals intros
  all_goals intros
  · apply rt_is
    rw [findP_at 0 (by omega) hI (by assumption), Nat.zero_add]
  · exact nxs (k + 1) ⟨by omega, below_next hI (by assumption)⟩ (by omega) env_w sub_w
  · apply rt_is
    rw [findP_no 0 fun j hj => hI j (by omega)]
    rfl
theorem ref_Find {G : Glo} (l : List Pr) (s : List UInt8) (hl : l.length ≤ 9223372036854775807) (hn : ∀ k, (l.getD k Pr.z).n.length ≤ 9223372036854775807) (hs : s.length ≤ 1000000) : FnIs Tryz.prog G 15 [.list 2 l.length (prF l), .str s] (.int .i64 (findP s l 0)) := by
  have h1 := fun k => ref_same (G := G) (l.getD k Pr.z).n s (by have := hn k; omega) (by omega)
  have hGL : GloAll G [] := gloAll_nil
  refine fn_x Tryz.func15 Tryz.call15 rfl rfl rfl rfl hGL ?_
  intro C hC
  refine xw1 ?_
  intros
  refine lp hC hGL (fun (k : Nat) => [(0, .list 2 l.length (prF l)), (1, .str s), (7, .int .i64 (l.length : Nat)), (8, .int .i64 (k : Nat))]) (fun _ => []) (fun k => k ≤ l.length ∧ ∀ j, j < k → turnS 97 122 (-32) (l.getD j Pr.z).n ≠ turnS 97 122 (-32) s) (fun k => l.length - k) 0 ⟨Nat.zero_le _, fun j h => absurd h (Nat.not_lt_zero _)⟩ env_w rfl ?_
  rintro k ⟨hk, hI⟩
  have h2 := h1 k
  rw [fold_seq] at h2
  refine xw ?_
  repeat' (first | exact Le.n | refine Lc.mk ?_ ?_)
  all_goals intros
  all_goals intros
  · apply rt_is
    rw [findP_at 0 (by omega) hI (by assumption), Nat.zero_add]
  · exact nxs (k + 1) ⟨by omega, below_next hI (by assumption)⟩ (by omega) env_w sub_w
  · apply rt_is
    rw [findP_no 0 fun j hj => hI j (by omega)]
    rfl
theorem rules_Kind {G : Glo} (k : Int) : FnIs Tryz.prog G 16 [.int .i64 k] (.str (kindS k)) := by
  by_cases hk : k < 1 ∨ 9 ≤ k
  · have e : kindS k = [] := by unfold kindS; rw [if_pos hk]
    rw [e]
    have hGL : GloAll G [] := gloAll_nil
    refine fn_x Tryz.func16 Tryz.call16 rfl rfl rfl rfl hGL ?_
    intro C hC
    refine xw ?_
    repeat' (first | exact Le.n | refine Lc.mk ?_ ?_)
    all_goals intros
    all_goals first
      | (apply rt_is; rfl)
      | (exfalso; omega)
  · rcases (show k = 1 ∨ k = 2 ∨ k = 3 ∨ k = 4 ∨ k = 5 ∨ k = 6 ∨ k = 7 ∨ k = 8 by omega) with rfl | rfl | rfl | rfl | rfl | rfl | rfl | rfl
    · have hGL : GloAll G [] := gloAll_nil
      refine fn_x Tryz.func16 Tryz.call16 rfl rfl rfl rfl hGL ?_
      intro C hC
      refine xw1 ?_
      intros
      refine op1_run hC hGL (rv_indexA (len := 9) (i := 1) rfl rfl rfl rfl rfl rfl rfl (Nat.le_of_ble_eq_true rfl) rfl rfl) rfl rfl ?_
      exact xw0
    · have hGL : GloAll G [] := gloAll_nil
      refine fn_x Tryz.func16 Tryz.call16 rfl rfl rfl rfl hGL ?_
      intro C hC
      refine xw1 ?_
      intros
      refine op1_run hC hGL (rv_indexA (len := 9) (i := 2) rfl rfl rfl rfl rfl rfl rfl (Nat.le_of_ble_eq_true rfl) rfl rfl) rfl rfl ?_
      exact xw0
    · have hGL : GloAll G [] := gloAll_nil
      refine fn_x Tryz.func16 Tryz.call16 rfl rfl rfl rfl hGL ?_
      intro C hC
      refine xw1 ?_
      intros
      refine op1_run hC hGL (rv_indexA (len := 9) (i := 3) rfl rfl rfl rfl rfl rfl rfl (Nat.le_of_ble_eq_true rfl) rfl rfl) rfl rfl ?_
      exact xw0
    · have hGL : GloAll G [] := gloAll_nil
      refine fn_x Tryz.func16 Tryz.call16 rfl rfl rfl rfl hGL ?_
      intro C hC
      refine xw1 ?_
      intros
      refine op1_run hC hGL (rv_indexA (len := 9) (i := 4) rfl rfl rfl rfl rfl rfl rfl (Nat.le_of_ble_eq_true rfl) rfl rfl) rfl rfl ?_
      exact xw0
    · have hGL : GloAll G [] := gloAll_nil
      refine fn_x Tryz.func16 Tryz.call16 rfl rfl rfl rfl hGL ?_
      intro C hC
      refine xw1 ?_
      intros
      refine op1_run hC hGL (rv_indexA (len := 9) (i := 5) rfl rfl rfl rfl rfl rfl rfl (Nat.le_of_ble_eq_true rfl) rfl rfl) rfl rfl ?_
      exact xw0
    · have hGL : GloAll G [] := gloAll_nil
      refine fn_x Tryz.func16 Tryz.call16 rfl rfl rfl rfl hGL ?_
      intro C hC
      refine xw1 ?_
      intros
      refine op1_run hC hGL (rv_indexA (len := 9) (i := 6) rfl rfl rfl rfl rfl rfl rfl (Nat.le_of_ble_eq_true rfl) rfl rfl) rfl rfl ?_
      exact xw0
    · have hGL : GloAll G [] := gloAll_nil
      refine fn_x Tryz.func16 Tryz.call16 rfl rfl rfl rfl hGL ?_
      intro C hC
      refine xw1 ?_
      intros
      refine op1_run hC hGL (rv_indexA (len := 9) (i := 7) rfl rfl rfl rfl rfl rfl rfl (Nat.le_of_ble_eq_true rfl) rfl rfl) rfl rfl ?_
      exact xw0
    · have hGL : GloAll G [] := gloAll_nil
      refine fn_x Tryz.func16 Tryz.call16 rfl rfl rfl rfl hGL ?_
      intro C hC
      refine xw1 ?_
      intros
      refine op1_run hC hGL (rv_indexA (len := 9) (i := 8) rfl rfl rfl rfl rfl rfl rfl (Nat.le_of_ble_eq_true rfl) rfl rfl) rfl rfl ?_
      exact xw0
theorem kind_fields : Lib.fields [116, 101, 120, 116, 32, 116, 101, 120, 116, 32, 116, 101, 120, 116, 32, 117, 114, 105, 32, 100, 97, 116, 101, 45, 97, 110, 100, 45, 111, 114, 45, 116, 105, 109, 101, 32, 117, 116, 99, 45, 111, 102, 102, 115, 101, 116, 32, 108, 97, 110, 103, 117, 97, 103, 101, 45, 116, 97, 103, 32, 117, 110, 107, 110, 111, 119, 110] = [[116, 101, 120, 116], [116, 101, 120, 116], [116, 101, 120, 116], [117, 114, 105], [100, 97, 116, 101, 45, 97, 110, 100, 45, 111, 114, 45, 116, 105, 109, 101], [117, 116, 99, 45, 111, 102, 102, 115, 101, 116], [108, 97, 110, 103, 117, 97, 103, 101, 45, 116, 97, 103], [117, 110, 107, 110, 111, 119, 110]] := by decide +kernel
theorem ref_Kind {G : Glo} (hS : SpIs G) (k : Int) : FnIs Tryz.prog G 17 [.int .i64 k] (.str (kindS k)) := by
  have hw := ref_within (G := G) k 1 8
  have hf := fields_list hS [116, 101, 120, 116, 32, 116, 101, 120, 116, 32, 116, 101, 120, 116, 32, 117, 114, 105, 32, 100, 97, 116, 101, 45, 97, 110, 100, 45, 111, 114, 45, 116, 105, 109, 101, 32, 117, 116, 99, 45, 111, 102, 102, 115, 101, 116, 32, 108, 97, 110, 103, 117, 97, 103, 101, 45, 116, 97, 103, 32, 117, 110, 107, 110, 111, 119, 110] (by decide) (row_ascii (by decide +kernel))
  rw [kind_fields] at hf
  by_cases hk : k < 1 ∨ 9 ≤ k
  · have e : kindS k = [] := by unfold kindS; rw [if_pos hk]
    have e2 : (decide (1 ≤ k) && decide (k ≤ 8)) = false := by rw [Bool.and_eq_false_iff, decide_eq_false_iff_not, decide_eq_false_iff_not]; omega
    rw [e2] at hw
    rw [e]
    have hGL : GloAll G [] := gloAll_nil
    refine fn_x Tryz.func17 Tryz.call17 rfl rfl rfl rfl hGL ?_
    intro C hC
    exact xw0
  · have e2 : (decide (1 ≤ k) && decide (k ≤ 8)) = true := by rw [Bool.and_eq_true, decide_eq_true_eq, decide_eq_true_eq]; omega
    rw [e2] at hw
    rcases (show k = 1 ∨ k = 2 ∨ k = 3 ∨ k = 4 ∨ k = 5 ∨ k = 6 ∨ k = 7 ∨ k = 8 by omega) with rfl | rfl | rfl | rfl | rfl | rfl | rfl | rfl
    all_goals
      have hGL : GloAll G [] := gloAll_nil
      refine fn_x Tryz.func17 Tryz.call17 rfl rfl rfl rfl hGL ?_
      intro C hC
      exact xw0
end Go.Proofs.YtjccffnjhdhgfaaGreatDoor
namespace Go.Proofs.YtjccffnjhdhgfaaGreatDoor
open Go Go.RowKit
theorem typeR_no {t : Int} {l : List Pr} (h : findP valN l 0 = -1) : typeR t l = t := by unfold typeR; rw [h, if_pos (.inl (by decide))]
theorem typeR_nil {t : Int} {l : List Pr} {k : Nat} (h : findP valN l 0 = (k : Int)) (h2 : (l.getD k Pr.z).vs.length = 0) : typeR t l = t := by unfold typeR; rw [h, Int.toNat_natCast, if_pos (.inr h2)]
theorem typeR_at {t : Int} {l : List Pr} {k : Nat} (h : findP valN l 0 = (k : Int)) (h2 : (l.getD k Pr.z).vs.length ≠ 0) : typeR t l = tyL t (turnS 65 90 32 ((l.getD k Pr.z).vs.getD 0 [])) := by unfold typeR; rw [h, Int.toNat_natCast, if_neg (by rintro (h | h); omega; exact h2 h)]
set_option maxRecDepth 20000
set_option maxHeartbeats 4000000
set_option linter.unusedSimpArgs false
set_option linter.unusedVariables false
attribute [local irreducible] AWp AOps byteAt SrcOK OrOk GloAll FnSpec
attribute [local irreducible] turnS findP ruleV
theorem rules_Type {G : Glo} (hS : SpIs G) (v : Int) (s : List UInt8) (l : List Pr) (hs : s.length ≤ 1000000) (hl : l.length ≤ 9223372036854775807) (hn : ∀ k, (l.getD k Pr.z).n.length ≤ 9223372036854775807) (hv : ∀ k, (l.getD k Pr.z).vs.length ≤ 9223372036854775807 ∧ ((l.getD k Pr.z).vs.getD 0 []).length ≤ 9223372036854775807) :
    FnIs Tryz.prog G 13 [.str s, .list 2 l.length (prF l), .int .i64 v] (.tuple [.int .i64 (typeV v s l), (verE v).A]) := by
  have h1 := rules_Of (G := G) hS v s hs
  have h2 : FnIs Tryz.prog G 14 [.list 2 l.length (prF l), .str [86, 65, 76, 85, 69]] (.int .i64 (findP valN l 0)) := rules_Find (G := G) l valN hl hn (by decide)
  by_cases hver : v = 3 ∨ v = 4
  · have e2 : verE v = .none := by unfold verE; rw [if_pos hver]
    have e3 : typeV v s l = typeR (ruleV v s).t l := by unfold typeV; rw [if_pos hver]
    rw [e2] at h1 ⊢
    rw [e3]
    generalize ruleV v s = r at *
    simp only [Err.A, errA] at h1 ⊢
    rcases findP_cases valN l 0 with hf | ⟨k, hk, hf⟩
    · rw [typeR_no hf]
      rw [hf] at h2
      have hGL : GloAll G [] := gloAll_nil
      refine fn_x Tryz.func13 Tryz.call13 rfl rfl rfl rfl hGL ?_
      intro C hC
      refine xw ?_
      repeat' (first | exact Le.n | refine Lc.mk ?_ ?_)
      all_goals intros
      all_goals intros
      all_goals first
        | (apply rt_is; rfl)
        | (exfalso; omega)
    · rw [Nat.zero_add] at hf
      rw [hf] at h2
      by_cases h0 : (l.getD k Pr.z).vs.length = 0
      · rw [typeR_nil hf h0]
        have hGL : GloAll G [] := gloAll_nil
        refine fn_x Tryz.func13 Tryz.call13 rfl rfl rfl rfl hGL ?_
        intro C hC
        refine xw ?_
        repeat' (first | exact Le.n | refine Lc.mk ?_ ?_)
        all_goals intros
        all_goals intros
        all_goals first
          | (apply rt_is; rfl)
          | (exfalso; omega)
          | trace_state
      · rw [typeR_at hf h0]
        have h3 := name_Lower (G := G) ((l.getD k Pr.z).vs.getD 0 []) (by have := (hv k).2; omega)
        have h3 : FnIs Tryz.prog G 28 [strsF (l.getD k Pr.z).vs 0] _ := h3
        generalize turnS 65 90 32 ((l.getD k Pr.z).vs.getD 0 []) = x at *
        have hGL : GloAll G [] := gloAll_nil
        refine fn_x Tryz.func13 Tryz.call13 rfl rfl rfl rfl hGL ?_
        intro C hC
        refine xw ?_
        repeat' (first | exact Le.n | refine Lc.mk ?_ ?_)
        all_goals intros
        all_goals intros
        all_goals try (exfalso; omega)
        all_goals
          apply rt_is
          refine congrArg (fun z => AVal.tuple [.int .i64 z, .raw .nilIface]) (Eq.symm ?_)
          clear h1 h2 h3 hn hv hf hC hGL
          unfold tyL
          simp [*]
  · have e2 : verE v = .errno 1 := by unfold verE; rw [if_neg hver]
    have e3 : typeV v s l = 0 := by unfold typeV; rw [if_neg hver]
    rw [e2] at h1 ⊢
    rw [e3]
    simp only [Err.A, errA] at h1 ⊢
    have hGL : GloAll G [] := gloAll_nil
    refine fn_x Tryz.func13 Tryz.call13 rfl rfl rfl rfl hGL ?_
    intro C hC
    refine xw ?_
    repeat' (first | exact Le.n | refine Lc.mk ?_ ?_)
    all_goals intros
    all_goals intros
    all_goals first
      | (apply rt_is; rfl)
      | (exfalso; omega)
theorem ref_Type {G : Glo} (v : Int) (s : List UInt8) (l : List Pr) (hs : s.length ≤ 1000000) (hl : l.length ≤ 9223372036854775807) (hn : ∀ k, (l.getD k Pr.z).n.length ≤ 9223372036854775807) (hv : ∀ k, (l.getD k Pr.z).vs.length ≤ 9223372036854775807 ∧ ((l.getD k Pr.z).vs.getD 0 []).length ≤ 9223372036854775807) :
    FnIs Tryz.prog G 12 [.str s, .list 2 l.length (prF l), .int .i64 v] (.tuple [.int .i64 (typeV v s l), .int .i64 (verE v).e]) := by
  have h1 := ref_Rule (G := G) v s hs
  have h2 : FnIs Tryz.prog G 15 [.list 2 l.length (prF l), .str [86, 65, 76, 85, 69]] (.int .i64 (findP valN l 0)) := ref_Find (G := G) l valN hl hn (by decide)
  by_cases hver : v = 3 ∨ v = 4
  · have e2 : verE v = .none := by unfold verE; rw [if_pos hver]
    have e3 : typeV v s l = typeR (ruleV v s).t l := by unfold typeV; rw [if_pos hver]
    rw [e2] at h1 ⊢
    rw [e3]
    generalize ruleV v s = r at *
    simp only [Err.e] at h1 ⊢
    rcases findP_cases valN l 0 with hf | ⟨k, hk, hf⟩
    · rw [typeR_no hf]
      rw [hf] at h2
      have hGL : GloAll G [] := gloAll_nil
      refine fn_x Tryz.func12 Tryz.call12 rfl rfl rfl rfl hGL ?_
      intro C hC
      refine xw ?_
      repeat' (first | exact Le.n | refine Lc.mk ?_ ?_)
      all_goals intros
      all_goals intros
      all_goals first
        | (apply rt_is; rfl)
        | (exfalso; omega)
    · rw [Nat.zero_add] at hf
      rw [hf] at h2
      by_cases h0 : (l.getD k Pr.z).vs.length = 0
      · rw [typeR_nil hf h0]
        have hGL : GloAll G [] := gloAll_nil
        refine fn_x Tryz.func12 Tryz.call12 rfl rfl rfl rfl hGL ?_
        intro C hC
        refine xw ?_
        repeat' (first | exact Le.n | refine Lc.mk ?_ ?_)
        all_goals intros
        all_goals intros
        all_goals first
          | (apply rt_is; rfl)
          | (exfalso; omega)
      · rw [typeR_at hf h0]
        have h3 := ref_Lower (G := G) ((l.getD k Pr.z).vs.getD 0 []) (by have := (hv k).2; omega)
        have h3 : FnIs Tryz.prog G 27 [strsF (l.getD k Pr.z).vs 0] _ := h3
        generalize turnS 65 90 32 ((l.getD k Pr.z).vs.getD 0 []) = x at *
        have hGL : GloAll G [] := gloAll_nil
        refine fn_x Tryz.func12 Tryz.call12 rfl rfl rfl rfl hGL ?_
        intro C hC
        refine xn ?_
        repeat' (first | exact Le.n | refine Lc.mk ?_ ?_)
        all_goals intros
        all_goals intros
        all_goals try (exfalso; omega)
        all_goals
          apply rt_is
          refine congrArg (fun z => AVal.tuple [.int .i64 z, .int .i64 0]) (Eq.symm ?_)
          clear h1 h2 h3 hn hv hf hC hGL
          unfold tyL
          simp [*]
  · have e2 : verE v = .errno 1 := by unfold verE; rw [if_neg hver]
    have e3 : typeV v s l = 0 := by unfold typeV; rw [if_neg hver]
    rw [e2] at h1 ⊢
    rw [e3]
    simp only [Err.e] at h1 ⊢
    have hGL : GloAll G [] := gloAll_nil
    refine fn_x Tryz.func12 Tryz.call12 rfl rfl rfl rfl hGL ?_
    intro C hC
    refine xw ?_
    repeat' (first | exact Le.n | refine Lc.mk ?_ ?_)
    all_goals intros
    all_goals intros
    all_goals first
      | (apply rt_is; rfl)
      | (exfalso; omega)
end Go.Proofs.YtjccffnjhdhgfaaGreatDoor
namespace Go.Proofs.YtjccffnjhdhgfaaGreatDoor
open Go Go.RowKit
theorem verE_p (v : Int) : (verE v).p = -1 := by unfold verE; split <;> rfl
set_option maxRecDepth 20000
set_option maxHeartbeats 4000000
set_option linter.unusedSimpArgs false
set_option linter.unusedVariables false
attribute [local irreducible] AWp AOps byteAt SrcOK OrOk GloAll FnSpec
attribute [local irreducible] ruleV verE
end Go.Proofs.YtjccffnjhdhgfaaGreatDoor
namespace Go.Proofs.YtjccffnjhdhgfaaGreatDoor
open Go Go.RowKit
set_option maxRecDepth 20000
set_option maxHeartbeats 4000000
set_option linter.unusedSimpArgs false
set_option linter.unusedVariables false
attribute [local irreducible] AWp AOps byteAt SrcOK OrOk GloAll FnSpec
attribute [local irreducible] typeV findP kindS verE
/-- The law's count ends, whatever the sizes. -/
theorem law_wideZ {G : Glo} (l : List Pr) (hl : l.length ≤ 9223372036854775807) (hn : ∀ k, (l.getD k Pr.z).n.length ≤ 9223372036854775807) (hv : ∀ k, (l.getD k Pr.z).vs.length ≤ 9223372036854775807) (hw : ∀ k j, ((l.getD k Pr.z).vs.getD j []).length ≤ 9223372036854775807) :
    FnSpec Tryz.prog G 11 [.agg [.str [], .str [], .list 2 l.length (prF l), .str []]] [] (fun r H => (∃ a, r = .ret a ∧ ∃ b, a = .bool b) ∧ H = []) := by
  have hGL : GloAll G [] := gloAll_nil
  refine fn_x Tryz.func11 Tryz.call11 rfl rfl rfl rfl hGL ?_
  intro C hC
  refine xw1 ?_
  intros
  refine lp hC hGL (fun x : Nat × Int => [(3, .int .i64 x.2), (24, .list 2 l.length (prF l)), (25, .int .i64 (l.length : Nat)), (26, .int .i64 (x.1 : Nat))]) (fun _ => []) (fun x => x.1 ≤ l.length) (fun x => l.length - x.1) (0, _) (Nat.zero_le _) ⟨rfl, rfl, rfl, rfl, trivial⟩ rfl ?_
  rintro ⟨k, n⟩ hk
  have hk : k ≤ l.length := hk
  dsimp only
  have h1 := hn k
  have h2 := hv k
  by_cases hlt : k < l.length
  · refine xw1 ?_
    intro b5 _
    refine ch_r ?_
    generalize IntKind.wrap IntKind.i64 (((l.getD k Pr.z).n.length : Int) + ((l.getD k Pr.z).vs.length : Int)) = z
    (conv => whnf)
    refine ch_r ?_
    generalize IntKind.wrap IntKind.i64 (n + z) = z2
    refine xw1 ?_
    refine lp hC hGL (fun x : Nat × Int => [(3, .int .i64 x.2), (24, .list 2 l.length (prF l)), (25, .int .i64 (l.length : Nat)), (26, .int .i64 (k : Nat)), (40, .list 1 (l.getD k Pr.z).vs.length (strsF (l.getD k Pr.z).vs)), (41, .int .i64 ((l.getD k Pr.z).vs.length : Nat)), (42, .int .i64 (x.1 : Nat))]) (fun _ => [.cells b5 (some 68) [.str (l.getD k Pr.z).n, .list 1 (l.getD k Pr.z).vs.length (strsF (l.getD k Pr.z).vs)]]) (fun x => x.1 ≤ (l.getD k Pr.z).vs.length) (fun x => (l.getD k Pr.z).vs.length - x.1) (0, _) (Nat.zero_le _) ⟨rfl, rfl, rfl, rfl, rfl, rfl, rfl, trivial⟩ rfl ?_
    rintro ⟨j, m⟩ hj
    have hj : j ≤ (l.getD k Pr.z).vs.length := hj
    dsimp only
    by_cases hjl : j < (l.getD k Pr.z).vs.length
    · refine xw1 ?_
      intro _
      refine ch_r ?_
      generalize IntKind.wrap IntKind.i64 (m + (((l.getD k Pr.z).vs.getD j []).length : Int)) = z3
      refine xw1 ?_
      refine nxs (j + 1, z3) (by show j + 1 ≤ _; omega) (by show _ - (j + 1) < _ - j; omega) env_w sub_w
    · refine xw1 ?_
      intro _
      exact nxs (k + 1, m) (by show k + 1 ≤ _; omega) (by show _ - (k + 1) < _ - k; omega) env_w sub_w
  · refine xw1 ?_
    intro _
    exact ⟨[], List.nil_sublist _, ⟨_, rfl, _, rfl⟩, rfl⟩
theorem law_RulesTypes {G : Glo} (hE : GloAll G errTy) (hS : SpIs G) (s : List UInt8) (l : List Pr) (v k : Int) (hl : l.length ≤ 9223372036854775807) (hn : ∀ k, (l.getD k Pr.z).n.length ≤ 9223372036854775807) (hv : ∀ k, (l.getD k Pr.z).vs.length ≤ 9223372036854775807) (hw : ∀ k j, ((l.getD k Pr.z).vs.getD j []).length ≤ 9223372036854775807) (hs : s.length ≤ 9223372036854775807) :
    FnIs Tryz.prog G 4 [.str s, .list 2 l.length (prF l), .int .i64 v, .int .i64 k] (.bool true) := by
  have h6 := bare_ok (G := G) hE (verE v) (verE_p v)
  have hc1 := Tryz.call9
  have h7 := law_wideZ (G := G) l hl hn hv hw
  by_cases hs1 : s.length ≤ 100
  · have h1 := ref_Type (G := G) v s l (by omega) hl hn (fun j => ⟨hv j, hw j 0⟩)
    have h2 := rules_Type (G := G) hS v s l (by omega) hl hn (fun j => ⟨hv j, hw j 0⟩)
    have h3 := rules_Find (G := G) l s hl hn (by omega)
    have h4 := ref_Find (G := G) l s hl hn (by omega)
    have h5 := rules_Kind (G := G) k
    have h8 := ref_Kind (G := G) hS k
    generalize typeV v s l = t at *
    generalize findP s l 0 = fi at *
    generalize kindS k = ks at *
    rcases hq : verE v with _ | e | ⟨e, p⟩
    all_goals
      rw [hq] at h6 h1 h2
      simp only [Err.A, Err.e, Err.p, errA] at h6 h1 h2
      have hGL : GloAll G [] := gloAll_nil
      refine fn_x Tryz.func4 Tryz.call4 rfl rfl rfl rfl hGL ?_
      intro C hC
      refine xw1 ?_
      intro _
      refine cx_any h7 ?_
      rintro _ ⟨b, rfl⟩
      cases b
      · refine xn ?_
        repeat' (first | exact Le.n | refine Lc.mk ?_ ?_)
        all_goals intros
        all_goals intros
        all_goals (apply rt_is; exact congrArg AVal.bool (seqB_t.2 rfl))
      · exact xn0
  · have hGL : GloAll G [] := gloAll_nil
    refine fn_x Tryz.func4 Tryz.call4 rfl rfl rfl rfl hGL ?_
    intro C hC
    exact xw0
end Go.Proofs.YtjccffnjhdhgfaaGreatDoor
namespace Go.Proofs.YtjccffnjhdhgfaaGreatDoor
open Go
theorem Tryz.own : ownKnob Tryz.prog.godebug = none := by kernel_rfl
/-- All blocks below, sealed as they stand. -/
def sealBelow (W : World) (k : Nat) : Seal := fun b => if b < k then W.heap[b]? else none
theorem sealBelow_ok (W : World) (k : Nat) : Sealed (sealBelow W k) W := by
  intro b o h
  unfold sealBelow at h
  split at h
  · exact h
  · cases h
theorem ms_start (W : World) (R : Seal) (G : Glo) (hG : G.p R) (hs : Sealed R W) : MS ⟨W, R, blks [], G, hG, []⟩ R [] W :=
  ⟨hs, Seal.le_refl R, fun _ hb => .inl hb, ⟨fun _ h => absurd h List.not_mem_nil, List.nodup_nil, fun _ h => absurd h List.not_mem_nil⟩, fun _ h => absurd h List.not_mem_nil, Ext.refl W _⟩
theorem keptBut_of_ext {W W' : World} (h : Ext W [] W') (may : MemPlace → Prop) : W.keptBut W' may := by
  refine ⟨h.os, h.output, fun i hi => ?_⟩
  rw [h.block i hi (by simp)]
  generalize W.heap[i]? = o
  cases o with
  | none => rfl
  | some o =>
    cases o with
    | cells c t fr => exact ⟨rfl, rfl, rfl, fun _ _ => rfl⟩
    | map es clock => exact .inr ⟨rfl, rfl⟩
    | _ => rfl
theorem len_of_size {x : ByteArray} (h : x.size ≤ maxLen) : x.data.toList.length ≤ 9223372036854775807 := by
  have : x.data.toList.length = x.size := by cases x; rfl
  rw [this]
  exact h
end Go.Proofs.YtjccffnjhdhgfaaGreatDoor
namespace Go.Proofs.YtjccffnjhdhgfaaGreatDoor
open Go
theorem var_heap {P : Program} {w : World} {n : String} {g : Nat} {cs : Array Value} (hg : P.globalNamed n = some g) (hv : w.var? P n = some cs) : ∃ e fz, w.heap[g]? = some (.cells cs e fz) := by
  simp only [World.var?, hg, Option.bind_some] at hv
  split at hv
  · rename_i c e fz hh
    cases hv
    exact ⟨_, _, hh⟩
  · cases hv
/-- A list of package-level variables that are known. -/
def gloOf (L : List (Nat × List AVal)) : Glo := ⟨fun R => ∀ x, x ∈ L → SealedAt R x.1 0 x.2, fun _ _ hle h x hx => by
  obtain ⟨C, e, fz, h1, h2⟩ := h x hx
  exact ⟨C, e, fz, hle _ _ h1, relL_mono hle _ _ h2⟩⟩
theorem gloGet_mem : ∀ (L : List (Nat × List AVal)) {g : Nat} {cs : List AVal}, gloGet L g = some cs → (g, cs) ∈ L
  | [], _, _, h => by simp [gloGet] at h
  | (k, c) :: r, g, cs, h => by
    unfold gloGet at h
    split at h
    · rename_i e
      obtain rfl := Nat.eq_of_beq_eq_true e
      cases h
      exact List.mem_cons_self
    · exact List.mem_cons_of_mem _ (gloGet_mem r h)
theorem gloAll_of {L L' : List (Nat × List AVal)} (h : ∀ x, x ∈ L' → x ∈ L) : GloAll (gloOf L) L' := fun g cs hg R hR => hR (g, cs) (h _ (gloGet_mem L' hg))
theorem sealed_below {W : World} {k g : Nat} {C : Array Value} {e : TypeId} {fz : Nat × Nat} {cs : List AVal} (hk : g < k) (hW : W.heap[g]? = some (.cells C e fz)) (h : RelL (sealBelow W k) cs (C.toList.take cs.length)) : SealedAt (sealBelow W k) g 0 cs :=
  ⟨C, e, fz, by unfold sealBelow; rw [if_pos hk]; exact hW, by rw [List.drop_zero]; exact h⟩
theorem rowNamed_error : ∀ ty, ty < Tryz.prog.types.size → Tryz.prog.rowNamed ty [101, 114, 114, 111, 114] = true → ty = 28 := by
  have h : ((List.range Tryz.prog.types.size).all fun ty => !Tryz.prog.rowNamed ty [101, 114, 114, 111, 114] || Nat.beq ty 28) = true := by kernel_rfl
  intro ty h1 h2
  have := List.all_eq_true.1 h ty (List.mem_range.2 h1)
  rw [h2] at this
  exact Nat.eq_of_beq_eq_true (by simpa using this)
theorem error_laid {W : World} {k : Nat} (hk : 5 < k) {laid : List (String × DataW Unit)} (hL : laidMetH Tryz.prog laid W) (hm : ("errors.errorType", Rows.laid_errors_errorType) ∈ laid) : SealedAt (sealBelow W k) 5 0 [rty 28] := by
  have h := (laidMetH_iff.1 hL).2 _ (List.mem_filter.2 ⟨hm, by kernel_rfl⟩)
  have h : ∃ name u ty, (Rows.laid_errors_errorType (H := Unit)).handleName? = some name ∧ (Tryz.prog.cutTypes.find? (·.1 == "internal/reflectlite.rtype")).map (·.2) = some u ∧ ty < Tryz.prog.types.size ∧ Tryz.prog.rowNamed ty name = true ∧
      W.var? Tryz.prog "errors.errorType" = some #[.iface u (.agg #[typeHandle Tryz.prog ty])] := h
  obtain ⟨name, u, ty, h1, h2, h3, h4, h5⟩ := h
  obtain rfl : [101, 114, 114, 111, 114] = name := Option.some.inj ((show (Rows.laid_errors_errorType (H := Unit)).handleName? = some [101, 114, 114, 111, 114] by kernel_rfl).symm.trans h1)
  obtain rfl : 164 = u := Option.some.inj ((show (Tryz.prog.cutTypes.find? (·.1 == "internal/reflectlite.rtype")).map (·.2) = some 164 by kernel_rfl).symm.trans h2)
  obtain rfl := rowNamed_error ty h3 h4
  obtain ⟨e, fz, hh⟩ := var_heap (show Tryz.prog.globalNamed "errors.errorType" = some 5 by kernel_rfl) h5
  exact sealed_below hk hh ⟨_, _, rfl, (rel_rty _).1, rfl⟩
/-- The witness world of a row that lists a type's handle: the handle in its cell, the rest laid. -/
noncomputable def handleWorld (os : Os) : World :=
  let w0 := World.holding Tryz.prog os ⟨#[], #[], []⟩
  { w0 with heap := w0.heap.modify 5 fun
      | .cells _ t frozen => .cells #[.iface 164 (.agg #[hdl 28])] t frozen
      | o => o }
def plainOf (laid : List (String × DataW Unit)) : List (String × DataW Unit) := laid.filter fun x => x.2.handleName?.isNone
noncomputable def handleLaid (os : Os) (laid : List (String × DataW Unit)) : World := (handleWorld os).layVars Tryz.prog (plainOf laid)
theorem handleLaid_os (os : Os) (laid : List (String × DataW Unit)) : (handleLaid os laid).os = os := World.layVars_os _ _ _
theorem handleLaid_met {os : Os} {laid : List (String × DataW Unit)} (args : Array Value) (hf : (handleWorld os).layFits Tryz.prog (plainOf laid) [] = true) (hi : (handleWorld os).layIfaces Tryz.prog (plainOf laid) (handleLaid os laid) = true)
    (hh : ((laid.filter fun x => x.2.handleName?.isSome).all (handleAtB Tryz.prog ((handleLaid os laid).forCall (fun _ _ => 0) ⟨#[], args, []⟩).memory)) = true) :
    laidMetH Tryz.prog laid ((handleLaid os laid).forCall (fun _ _ => 0) ⟨#[], args, []⟩).memory := by
  refine laidMetH_of_parts ?_ hh
  have e1 : ((plainOf laid).filter fun x => ((plainOf laid).map (·.1)).contains x.1) = plainOf laid := List.filter_eq_self.2 fun x hx => List.contains_iff_mem.2 (List.mem_map.2 ⟨x, hx, rfl⟩)
  have e2 : ((plainOf laid).filter fun x => !((plainOf laid).map (·.1)).contains x.1) = [] := List.filter_eq_nil_iff.2 fun x hx => by rw [List.contains_iff_mem.2 (List.mem_map.2 ⟨x, hx, rfl⟩)]; simp
  have h : laidMet Tryz.prog (plainOf laid) (handleLaid os laid) := laidMet_layVars (w0 := handleWorld os) ((plainOf laid).map (·.1)) [] (by rw [e1]; rfl) (by rw [e1]; exact hf) (by rw [e1]; exact hi) (by rw [e2]; exact LaidIn.none)
  exact h.of_heap (by simp [World.memory, World.forCall, Input.heap])
theorem err_lt {W : World} {laid : List (String × DataW Unit)} (hL : laidMetH Tryz.prog laid W) (hm : ("errors.errorType", Rows.laid_errors_errorType) ∈ laid) : 5 < W.heap.size := by
  have h := (laidMetH_iff.1 hL).2 _ (List.mem_filter.2 ⟨hm, by kernel_rfl⟩)
  obtain ⟨name, u, ty, h1, h2, h3, h4, h5⟩ := h
  obtain ⟨e, fz, hh⟩ := var_heap (show Tryz.prog.globalNamed "errors.errorType" = some 5 by kernel_rfl) h5
  exact (Array.getElem?_eq_some_iff.1 hh).1
/-- A call's end; what was there below stays. -/
theorem law_below {P : Program} {G : Glo} {f : FuncId} {avs : List AVal} {c : Bool} {args : Array Value} {W : World} {R : Seal} (hs : FnIs P G f avs (.bool c)) (hc : (callFunc f args).run P W = .ok (.enter f args) W)
    (hG : G.p R) (hR : Sealed R W) (ha : RelV R avs args.toList) : Calls P f args W fun e W' => e = .returned (.bool c) ∧ (∀ may, W.keptBut W' may) ∧ Go.RowKit.Below W.heap.size W W' := by
  rcases hs R W args hG (ms_start W R G hG hR) ha with ⟨_, h⟩ | ⟨v, w', h, _⟩
  · refine h.mono fun e W' ⟨res, H', R', ⟨hr, hH⟩, he, hm⟩ => ?_
    subst hr
    obtain ⟨x, rfl, hx⟩ := he
    refine ⟨by rw [rel_bool.1 hx], fun may => keptBut_of_ext hm.ext may, ⟨hm.ext.os, hm.ext.tape, hm.ext.output, hm.ext.size, fun k hk => hm.ext.block k hk (fun h => absurd h List.not_mem_nil)⟩⟩
  · rw [hc] at h
    cases h
end Go.Proofs.YtjccffnjhdhgfaaGreatDoor
