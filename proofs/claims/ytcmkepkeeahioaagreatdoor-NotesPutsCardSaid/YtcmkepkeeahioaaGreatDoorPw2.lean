/- Contracts of the library's functions at this translation, laid by the kit's shelf tool; those that the claim uses. What the library's variables hold, carried along a call; what strconv's functions return. What the listed variables of the rows of layer 17 give. The document's values as trees: what is light, and which value each is (no program in sight). What a value of type any holds, and what a node of the document holds. Blocks that a call touches; appends of one element; rows of values. DERIVED: THE SHELF's CONTRACTS AT THIS DUMP, IN PLAIN WORDS (tools/lay-plain.mjs out of 'YtcmkepkeeahioaaGreatDoorSlLaysGN.lean', which tools/lay-shelf.mjs wrote): THE SAME DECLARATIONS UNDER THE SAME NAMES: 'import', 'namespace', 'open', 'def', 'theorem' AND NOTHING ELSE: no command of the shelf's: FOR A HAND-IN. Each laying: the table of numbers ('.._ren') and one theorem, a field a fact of the dump's own or the kernel's comparison; each contract: ONE APPLICATION. What named's function tells, and where a pair of a name stands. How long a node's JSON is; nodes from a place on (no program in sight). Values within bounds (no program in sight). Plain laws: runes by their definition, and as the program reads them. -/
import Derived.Test.YtcmkepkeeahioaaGreatDoorPw1
import Derived.Shelf.Strings.Builder1
import Derived.Shelf.Strings.Builder2
import Derived.Shelf.Strings.Trim
import Derived.Shelf.Small.Utf8
import Derived.Shelf.Small.Strs
import Derived.Shelf.Small.Wraps
import Derived.Shelf.Strings.BuilderF
import Derived.Shelf.Strings.BuilderK
import Derived.Shelf.Strings.BuilderRune
import Derived.Shelf.Strings.Builder2Cap
import Derived.Shelf.Strconv.Atoi
import Derived.Shelf.Strconv.Itoa0
import Derived.Shelf.Strconv.Itoa1
import Derived.Shelf.LaysM
import Derived.Shelf.Strconv.Itoa2
import Derived.Shelf.Strconv.Itoa3
import Derived.Shelf.Strconv.AtoiErrFast
import Derived.Shelf.Strconv.ParseIntEmpty
import Derived.Shelf.Strconv.AtoiFail
import Derived.Shelf.Strconv.Clone
import Derived.Shelf.Strconv.SyntaxError
import Derived.Shelf.LaysC
import Derived.Shelf.Strconv.ToError
import Derived.Shelf.Strconv.Lower
import Derived.Shelf.Strconv.ParseUint10
import Derived.Shelf.Strconv.ParseUint10Empty
import Derived.Shelf.Strconv.ParseUint10Any
import Derived.Shelf.Strconv.ParseInt10
import Derived.Shelf.Strconv.AtoiLong
import Derived.Shelf.Strconv.AtoiInnerAll
import Derived.Shelf.Strconv.RangeError
import Derived.Shelf.Strconv.ToErrorRange
import Derived.Shelf.Strconv.AtoiAll
import Derived.Shelf.Strings.Search1
import Derived.Shelf.Strings.Prefix
import Derived.Shelf.Unicode.Decode
import Derived.Shelf.Strings.Runes
import Derived.Shelf.Strings.IndexAny
import Derived.Shelf.Strings.AsciiSet
import Derived.Shelf.Strings.IndexAnyAll
import Derived.Shelf.Bits.Mul64
import Derived.Shelf.Strings.Repeat
import Derived.Shelf.Unicode.DecodeSlow
import Derived.Shelf.Unicode.DecodeAny
import Derived.Shelf.Unicode.DecodeLast
import Derived.Shelf.Strings.BuilderCap
import Derived.Test.YtcmkepkeeahioaaGreatDoorProg
import Derived.Lib.LaidTab
import Derived.Sort.Grow
import Derived.Lib.AtoiErrMem
import Derived.Test.YtcmkepkeeahioaaGreatDoorRows
import Derived.OpenShut
import Derived.MakeChecks
import Derived.Stop.LaidErr
import Derived.PinnedBridge
import Derived.Lib.LaidU8T
import Derived.Lib.SmallJoins
import Derived.Below
import Derived.Laws.Rows
import Derived.Deep.AppendLies
import Derived.Maps.AppendAt
import Derived.Laws.OwnMore
import Derived.OwnWalk
import Derived.Shelf.SlicesQ.IndexFunc
import Derived.Ground.SlgfProg
import Derived.Deep.LoopGhost
import Derived.Lib.ItoaLen
set_option linter.unusedVariables false
set_option linter.unusedSimpArgs false
namespace Go.Proofs
open Go.Shelf
def Tryz.lays161_ren : Go.Shelf.Ren := ⟨fun | 161 => 73 | 231 => 90 | 227 => 91 | 233 => 92 | 235 => 93 | 228 => 105 | 197 => 88 | 151 => 106 | 260 => 104 | 152 => 108 | 137 => 46 | 119 => 122 | 224 => 123 | 225 => 124 | 217 => 67 | 266 => 86 | n => n, fun | 9 => 9 | 4 => 4 | 3 => 3 | 5 => 5 | 117 => 137 | 116 => 136 | 0 => 0 | 124 => 140 | 105 => 132 | 21 => 21 | 119 => 126 | 46 => 75 | 139 => 129 | 138 => 128 | n => n, fun | 3 => 0 | 4 => 1 | n => n⟩
theorem Tryz.lays161 : Go.Proofs.Lays.n161 Tryz.prog Tryz.lays161_ren := {
  mixed := by kernel_rfl
  f119 := Tryz.func122.trans (congrArg some (by kernel_rfl))
  f137 := Tryz.func46.trans (congrArg some (by kernel_rfl))
  f151 := Tryz.func106.trans (congrArg some (by kernel_rfl))
  f152 := Tryz.func108.trans (congrArg some (by kernel_rfl))
  f161 := Tryz.func73.trans (congrArg some (by kernel_rfl))
  f197 := Tryz.func88.trans (congrArg some (by kernel_rfl))
  f217 := Tryz.func67.trans (congrArg some (by kernel_rfl))
  f224 := Tryz.func123.trans (congrArg some (by kernel_rfl))
  f225 := Tryz.func124.trans (congrArg some (by kernel_rfl))
  f227 := Tryz.func91.trans (congrArg some (by kernel_rfl))
  f228 := Tryz.func105.trans (congrArg some (by kernel_rfl))
  f231 := Tryz.func90.trans (congrArg some (by kernel_rfl))
  f233 := Tryz.func92.trans (congrArg some (by kernel_rfl))
  f235 := Tryz.func93.trans (congrArg some (by kernel_rfl))
  f260 := Tryz.func104.trans (congrArg some (by kernel_rfl))
  f266 := Tryz.func86.trans (congrArg some (by kernel_rfl))
  t0 := Tryz.underlying0
  a0 := Tryz.isAgg0
  z0 := Tryz.sizeOf0
  v0 := Tryz.zeroValue0
  t3 := Tryz.underlying3
  a3 := Tryz.isAgg3
  z3 := Tryz.sizeOf3
  v3 := Tryz.zeroValue3
  t4 := Tryz.underlying4
  a4 := Tryz.isAgg4
  z4 := Tryz.sizeOf4
  v4 := Tryz.zeroValue4
  t5 := Tryz.underlying5
  a5 := Tryz.isAgg5
  z5 := Tryz.sizeOf5
  v5 := Tryz.zeroValue5
  t9 := Tryz.underlying9
  a9 := Tryz.isAgg9
  z9 := Tryz.sizeOf9
  v9 := Tryz.zeroValue9
  t21 := Tryz.underlying21
  a21 := Tryz.isAgg21
  z21 := Tryz.sizeOf21
  v21 := Tryz.zeroValue21
  t46 := Tryz.underlying75
  a46 := Tryz.isAgg75
  z46 := Tryz.sizeOf75
  v46 := Tryz.zeroValue75
  t105 := Tryz.underlying132
  a105 := Tryz.isAgg132
  z105 := Tryz.sizeOf132
  v105 := Tryz.zeroValue132
  t116 := Tryz.underlying136
  a116 := Tryz.isAgg136
  z116 := Tryz.sizeOf136
  t117 := Tryz.underlying137
  a117 := Tryz.isAgg137
  z117 := Tryz.sizeOf137
  v117 := Tryz.zeroValue137
  t119 := Tryz.underlying126
  a119 := Tryz.isAgg126
  z119 := Tryz.sizeOf126
  t124 := Tryz.underlying140
  a124 := Tryz.isAgg140
  z124 := Tryz.sizeOf140
  v124 := Tryz.zeroValue140
  t138 := Tryz.underlying128
  a138 := Tryz.isAgg128
  z138 := Tryz.sizeOf128
  v138 := Tryz.zeroValue128
  t139 := Tryz.underlying129
  a139 := Tryz.isAgg129
  z139 := Tryz.sizeOf129
  v139 := Tryz.zeroValue129
  g3 := by kernel_rfl
  g4 := by kernel_rfl }
def Tryz.lays160_ren : Go.Shelf.Ren := ⟨fun | 160 => 75 | 232 => 95 | 231 => 90 | 227 => 91 | 234 => 96 | 233 => 92 | 236 => 97 | 235 => 93 | 228 => 105 | 271 => 107 | 151 => 106 | 197 => 88 | 120 => 121 | 152 => 108 | 260 => 104 | 137 => 46 | 119 => 122 | 224 => 123 | 225 => 124 | 217 => 67 | 266 => 86 | n => n, fun | 9 => 9 | 4 => 4 | 3 => 3 | 5 => 5 | 117 => 137 | 116 => 136 | 0 => 0 | 124 => 140 | 21 => 21 | 105 => 132 | 46 => 75 | 119 => 126 | 139 => 129 | 138 => 128 | n => n, fun | 3 => 0 | 4 => 1 | n => n⟩
theorem Tryz.lays160 : Go.Proofs.Lays.n160 Tryz.prog Tryz.lays160_ren := {
  mixed := by kernel_rfl
  f119 := Tryz.func122.trans (congrArg some (by kernel_rfl))
  f120 := Tryz.func121.trans (congrArg some (by kernel_rfl))
  f137 := Tryz.func46.trans (congrArg some (by kernel_rfl))
  f151 := Tryz.func106.trans (congrArg some (by kernel_rfl))
  f152 := Tryz.func108.trans (congrArg some (by kernel_rfl))
  f160 := Tryz.func75.trans (congrArg some (by kernel_rfl))
  f197 := Tryz.func88.trans (congrArg some (by kernel_rfl))
  f217 := Tryz.func67.trans (congrArg some (by kernel_rfl))
  f224 := Tryz.func123.trans (congrArg some (by kernel_rfl))
  f225 := Tryz.func124.trans (congrArg some (by kernel_rfl))
  f227 := Tryz.func91.trans (congrArg some (by kernel_rfl))
  f228 := Tryz.func105.trans (congrArg some (by kernel_rfl))
  f231 := Tryz.func90.trans (congrArg some (by kernel_rfl))
  f232 := Tryz.func95.trans (congrArg some (by kernel_rfl))
  f233 := Tryz.func92.trans (congrArg some (by kernel_rfl))
  f234 := Tryz.func96.trans (congrArg some (by kernel_rfl))
  f235 := Tryz.func93.trans (congrArg some (by kernel_rfl))
  f236 := Tryz.func97.trans (congrArg some (by kernel_rfl))
  f260 := Tryz.func104.trans (congrArg some (by kernel_rfl))
  f266 := Tryz.func86.trans (congrArg some (by kernel_rfl))
  f271 := Tryz.func107.trans (congrArg some (by kernel_rfl))
  t0 := Tryz.underlying0
  a0 := Tryz.isAgg0
  z0 := Tryz.sizeOf0
  v0 := Tryz.zeroValue0
  t3 := Tryz.underlying3
  a3 := Tryz.isAgg3
  z3 := Tryz.sizeOf3
  v3 := Tryz.zeroValue3
  t4 := Tryz.underlying4
  a4 := Tryz.isAgg4
  z4 := Tryz.sizeOf4
  v4 := Tryz.zeroValue4
  t5 := Tryz.underlying5
  a5 := Tryz.isAgg5
  z5 := Tryz.sizeOf5
  v5 := Tryz.zeroValue5
  t9 := Tryz.underlying9
  a9 := Tryz.isAgg9
  z9 := Tryz.sizeOf9
  v9 := Tryz.zeroValue9
  t21 := Tryz.underlying21
  a21 := Tryz.isAgg21
  z21 := Tryz.sizeOf21
  v21 := Tryz.zeroValue21
  t46 := Tryz.underlying75
  a46 := Tryz.isAgg75
  z46 := Tryz.sizeOf75
  v46 := Tryz.zeroValue75
  t105 := Tryz.underlying132
  a105 := Tryz.isAgg132
  z105 := Tryz.sizeOf132
  v105 := Tryz.zeroValue132
  t116 := Tryz.underlying136
  a116 := Tryz.isAgg136
  z116 := Tryz.sizeOf136
  t117 := Tryz.underlying137
  a117 := Tryz.isAgg137
  z117 := Tryz.sizeOf137
  v117 := Tryz.zeroValue137
  t119 := Tryz.underlying126
  a119 := Tryz.isAgg126
  z119 := Tryz.sizeOf126
  t124 := Tryz.underlying140
  a124 := Tryz.isAgg140
  z124 := Tryz.sizeOf140
  v124 := Tryz.zeroValue140
  t138 := Tryz.underlying128
  a138 := Tryz.isAgg128
  z138 := Tryz.sizeOf128
  v138 := Tryz.zeroValue128
  t139 := Tryz.underlying129
  a139 := Tryz.isAgg129
  z139 := Tryz.sizeOf129
  v139 := Tryz.zeroValue129
  g3 := by kernel_rfl
  g4 := by kernel_rfl }
def Tryz.lays137_ren : Go.Shelf.Ren := ⟨fun | 137 => 46 | 217 => 67 | 266 => 86 | n => n, fun | 9 => 9 | 5 => 5 | 3 => 3 | n => n, fun | n => n⟩
theorem Tryz.lays137 : Go.Proofs.Lays.n137 Tryz.prog Tryz.lays137_ren := {
  mixed := by kernel_rfl
  f137 := Tryz.func46.trans (congrArg some (by kernel_rfl))
  f217 := Tryz.func67.trans (congrArg some (by kernel_rfl))
  f266 := Tryz.func86.trans (congrArg some (by kernel_rfl))
  t3 := Tryz.underlying3
  a3 := Tryz.isAgg3
  z3 := Tryz.sizeOf3
  v3 := Tryz.zeroValue3
  t5 := Tryz.underlying5
  a5 := Tryz.isAgg5
  z5 := Tryz.sizeOf5
  v5 := Tryz.zeroValue5
  t9 := Tryz.underlying9
  a9 := Tryz.isAgg9
  z9 := Tryz.sizeOf9
  v9 := Tryz.zeroValue9 }
open Go.RowKit in
theorem Tryz.strings_IndexByte (s : ByteArray) (c : Int) (w : World) :
    Calls Tryz.prog 46 #[.string s, .int .u8 c] w fun e w' => e = .returned (.int .i64 (Lib.indexByte s.data.toList c.toNat.toUInt8)) ∧ w' = w := Any.strings_IndexByte Tryz.lays137 s c w
def Tryz.lays103_ren : Go.Shelf.Ren := ⟨fun | 103 => 74 | 210 => 94 | 206 => 55 | n => n, fun | 9 => 9 | 4 => 4 | 24 => 38 | 3 => 3 | n => n, fun | n => n⟩
theorem Tryz.lays103 : Go.Proofs.Lays.n103 Tryz.prog Tryz.lays103_ren := {
  mixed := by kernel_rfl
  f103 := Tryz.func74.trans (congrArg some (by kernel_rfl))
  f206 := Tryz.func55.trans (congrArg some (by kernel_rfl))
  f210 := Tryz.func94.trans (congrArg some (by kernel_rfl))
  t3 := Tryz.underlying3
  a3 := Tryz.isAgg3
  z3 := Tryz.sizeOf3
  v3 := Tryz.zeroValue3
  t4 := Tryz.underlying4
  a4 := Tryz.isAgg4
  z4 := Tryz.sizeOf4
  v4 := Tryz.zeroValue4
  t9 := Tryz.underlying9
  a9 := Tryz.isAgg9
  z9 := Tryz.sizeOf9
  v9 := Tryz.zeroValue9
  t24 := Tryz.underlying38
  a24 := Tryz.isAgg38
  z24 := Tryz.sizeOf38
  v24 := Tryz.zeroValue38 }
open Go.RowKit in
theorem Tryz.strings_CutPrefix (s p : ByteArray) (w : World) :
    Calls Tryz.prog 74 #[.string s, .string p] w fun e w' => e = .returned (.tuple #[.string ⟨(Lib.trimPrefix s.data.toList p.data.toList).toArray⟩, .bool (Lib.hasPrefix s.data.toList p.data.toList)]) ∧ w' = w := Any.strings_CutPrefix Tryz.lays103 s p w
def Tryz.lays121_ren : Go.Shelf.Ren := ⟨fun | 121 => 58 | 214 => 80 | n => n, fun | 4 => 4 | 9 => 9 | n => n, fun | n => n⟩
theorem Tryz.lays121 : Go.Proofs.Lays.n121 Tryz.prog Tryz.lays121_ren := {
  mixed := by kernel_rfl
  f121 := Tryz.func58.trans (congrArg some (by kernel_rfl))
  f214 := Tryz.func80.trans (congrArg some (by kernel_rfl))
  t4 := Tryz.underlying4
  a4 := Tryz.isAgg4
  z4 := Tryz.sizeOf4
  v4 := Tryz.zeroValue4
  t9 := Tryz.underlying9
  a9 := Tryz.isAgg9
  z9 := Tryz.sizeOf9
  v9 := Tryz.zeroValue9 }
open Go.RowKit in
theorem Tryz.strconv_FormatBool (b : Bool) (w : World) :
    Calls Tryz.prog 58 #[.bool b] w fun e w' => e = .returned (.string ⟨(Lib.formatBool b).toArray⟩) ∧ w' = w := Any.strconv_FormatBool Tryz.lays121 b w
def Tryz.laysM171_ren : Go.Shelf.Ren := ⟨fun | 171 => 59 | 243 => 81 | 246 => 101 | 283 => 115 | 284 => 116 | 285 => 117 | 286 => 118 | 129 => 129 | 317 => 128 | 318 => 130 | 319 => 131 | 320 => 132 | 337 => 136 | 338 => 137 | n => n, fun | 3 => 3 | 9 => 9 | 2 => 2 | 4 => 4 | 171 => 154 | 0 => 0 | 53 => 102 | 37 => 51 | 5 => 5 | 173 => 157 | 212 => 169 | 51 => 99 | 20 => 20 | 213 => 170 | 46 => 75 | 232 => 179 | 233 => 180 | n => n, fun | 17 => 5 | 18 => 6 | 19 => 7 | n => n⟩
theorem Tryz.laysM171 : Go.Proofs.LaysM.n171 Tryz.prog Tryz.laysM171_ren := {
  mixed := by kernel_rfl
  f129 := Tryz.func129.trans (congrArg some (by kernel_rfl))
  f171 := Tryz.func59.trans (congrArg some (by kernel_rfl))
  f243 := Tryz.func81.trans (congrArg some (by kernel_rfl))
  f246 := Tryz.func101.trans (congrArg some (by kernel_rfl))
  f283 := Tryz.func115.trans (congrArg some (by kernel_rfl))
  f284 := Tryz.func116.trans (congrArg some (by kernel_rfl))
  f285 := Tryz.func117.trans (congrArg some (by kernel_rfl))
  f286 := Tryz.func118.trans (congrArg some (by kernel_rfl))
  f317 := Tryz.func128.trans (congrArg some (by kernel_rfl))
  f318 := Tryz.func130.trans (congrArg some (by kernel_rfl))
  f319 := Tryz.func131.trans (congrArg some (by kernel_rfl))
  f320 := Tryz.func132.trans (congrArg some (by kernel_rfl))
  f337 := Tryz.func136.trans (congrArg some (by kernel_rfl))
  f338 := Tryz.func137.trans (congrArg some (by kernel_rfl))
  t0 := Tryz.underlying0
  a0 := Tryz.isAgg0
  z0 := Tryz.sizeOf0
  v0 := Tryz.zeroValue0
  t2 := Tryz.underlying2
  a2 := Tryz.isAgg2
  z2 := Tryz.sizeOf2
  v2 := Tryz.zeroValue2
  t3 := Tryz.underlying3
  a3 := Tryz.isAgg3
  z3 := Tryz.sizeOf3
  v3 := Tryz.zeroValue3
  t4 := Tryz.underlying4
  a4 := Tryz.isAgg4
  z4 := Tryz.sizeOf4
  v4 := Tryz.zeroValue4
  t5 := Tryz.underlying5
  a5 := Tryz.isAgg5
  z5 := Tryz.sizeOf5
  v5 := Tryz.zeroValue5
  t9 := Tryz.underlying9
  a9 := Tryz.isAgg9
  z9 := Tryz.sizeOf9
  v9 := Tryz.zeroValue9
  t20 := Tryz.underlying20
  a20 := Tryz.isAgg20
  z20 := Tryz.sizeOf20
  v20 := Tryz.zeroValue20
  t37 := Tryz.underlying51
  a37 := Tryz.isAgg51
  z37 := Tryz.sizeOf51
  v37 := Tryz.zeroValue51
  t46 := Tryz.underlying75
  a46 := Tryz.isAgg75
  z46 := Tryz.sizeOf75
  v46 := Tryz.zeroValue75
  t51 := Tryz.underlying99
  a51 := Tryz.isAgg99
  z51 := Tryz.sizeOf99
  v51 := Tryz.zeroValue99
  t53 := Tryz.underlying102
  a53 := Tryz.isAgg102
  z53 := Tryz.sizeOf102
  v53 := Tryz.zeroValue102
  t171 := Tryz.underlying154
  a171 := Tryz.isAgg154
  z171 := Tryz.sizeOf154
  v171 := Tryz.zeroValue154
  t173 := Tryz.underlying157
  a173 := Tryz.isAgg157
  z173 := Tryz.sizeOf157
  v173 := Tryz.zeroValue157
  t212 := Tryz.underlying169
  a212 := Tryz.isAgg169
  z212 := Tryz.sizeOf169
  v212 := Tryz.zeroValue169
  t213 := Tryz.underlying170
  a213 := Tryz.isAgg170
  z213 := Tryz.sizeOf170
  t232 := Tryz.underlying179
  a232 := Tryz.isAgg179
  z232 := Tryz.sizeOf179
  v232 := Tryz.zeroValue179
  t233 := Tryz.underlying180
  a233 := Tryz.isAgg180
  z233 := Tryz.sizeOf180
  v233 := Tryz.zeroValue180
  g17 := by kernel_rfl
  g18 := by kernel_rfl
  g19 := by kernel_rfl
  i0 := by kernel_rfl
  i2 := by kernel_rfl
  i3 := by kernel_rfl
  i4 := by kernel_rfl
  i5 := by kernel_rfl
  i9 := by kernel_rfl
  i20 := by kernel_rfl
  i37 := by kernel_rfl
  i46 := by kernel_rfl
  i51 := by kernel_rfl
  i53 := by kernel_rfl
  i171 := by kernel_rfl
  i173 := by kernel_rfl
  i212 := by kernel_rfl
  i232 := by kernel_rfl
  i233 := by kernel_rfl
  m17 := by kernel_rfl
  m18 := by kernel_rfl
  m19 := by kernel_rfl }
open Go.RowKit Go.Sort Go.Lib in
theorem Tryz.strconv_Itoa (n : Int) (h0 : -9223372036854775808 ≤ n) (h1 : n ≤ 9223372036854775807) (w : World) (htab : Lib.TabIs Tryz.prog w "internal/strconv.uint64pow10" .u64 Lib.pow10Tab) :
    Calls Tryz.prog 59 #[.int .i64 n] w fun e w' => e = .returned (.string ⟨(Lib.itoa n).toArray⟩) ∧ ∃ k os, w' = grow (w.drewN k) os := Any.strconv_Itoa Tryz.laysM171 n h0 h1 w htab
def Tryz.laysC172_ren : Go.Shelf.Ren := ⟨fun | 172 => 77 | 244 => 99 | 245 => 100 | 247 => 110 | 279 => 111 | 280 => 112 | 281 => 113 | 282 => 114 | 287 => 125 | 316 => 126 | 171 => 59 | 205 => 127 | 321 => 134 | 322 => 135 | 243 => 81 | 246 => 101 | 283 => 115 | 284 => 116 | 285 => 117 | 286 => 118 | 129 => 129 | 317 => 128 | 318 => 130 | 319 => 131 | 320 => 132 | 337 => 136 | 338 => 137 | n => n, fun | 9 => 9 | 3 => 3 | 75 => 84 | 76 => 85 | 4 => 4 | 5 => 5 | 167 => 148 | 37 => 51 | 0 => 0 | 85 => 149 | 2 => 2 | 168 => 151 | 53 => 102 | 175 => 163 | 46 => 75 | 210 => 166 | 127 => 105 | 145 => 177 | 143 => 175 | 21 => 21 | 171 => 154 | 173 => 157 | 212 => 169 | 51 => 99 | 20 => 20 | 213 => 170 | 232 => 179 | 233 => 180 | 80 => 88 | n => n, fun | 15 => 3 | 16 => 4 | 17 => 5 | 18 => 6 | 19 => 7 | n => n⟩
theorem Tryz.laysC172 : Go.Proofs.LaysC.n172 Tryz.prog Tryz.laysC172_ren := {
  mixed := by kernel_rfl
  f129 := Tryz.func129.trans (congrArg some (by kernel_rfl))
  f171 := Tryz.func59.trans (congrArg some (by kernel_rfl))
  f172 := Tryz.func77.trans (congrArg some (by kernel_rfl))
  f205 := Tryz.func127.trans (congrArg some (by kernel_rfl))
  f243 := Tryz.func81.trans (congrArg some (by kernel_rfl))
  f244 := Tryz.func99.trans (congrArg some (by kernel_rfl))
  f245 := Tryz.func100.trans (congrArg some (by kernel_rfl))
  f246 := Tryz.func101.trans (congrArg some (by kernel_rfl))
  f247 := Tryz.func110.trans (congrArg some (by kernel_rfl))
  f279 := Tryz.func111.trans (congrArg some (by kernel_rfl))
  f280 := Tryz.func112.trans (congrArg some (by kernel_rfl))
  f281 := Tryz.func113.trans (congrArg some (by kernel_rfl))
  f282 := Tryz.func114.trans (congrArg some (by kernel_rfl))
  f283 := Tryz.func115.trans (congrArg some (by kernel_rfl))
  f284 := Tryz.func116.trans (congrArg some (by kernel_rfl))
  f285 := Tryz.func117.trans (congrArg some (by kernel_rfl))
  f286 := Tryz.func118.trans (congrArg some (by kernel_rfl))
  f287 := Tryz.func125.trans (congrArg some (by kernel_rfl))
  f316 := Tryz.func126.trans (congrArg some (by kernel_rfl))
  f317 := Tryz.func128.trans (congrArg some (by kernel_rfl))
  f318 := Tryz.func130.trans (congrArg some (by kernel_rfl))
  f319 := Tryz.func131.trans (congrArg some (by kernel_rfl))
  f320 := Tryz.func132.trans (congrArg some (by kernel_rfl))
  f321 := Tryz.func134.trans (congrArg some (by kernel_rfl))
  f322 := Tryz.func135.trans (congrArg some (by kernel_rfl))
  f337 := Tryz.func136.trans (congrArg some (by kernel_rfl))
  f338 := Tryz.func137.trans (congrArg some (by kernel_rfl))
  t0 := Tryz.underlying0
  a0 := Tryz.isAgg0
  z0 := Tryz.sizeOf0
  v0 := Tryz.zeroValue0
  t2 := Tryz.underlying2
  a2 := Tryz.isAgg2
  z2 := Tryz.sizeOf2
  v2 := Tryz.zeroValue2
  t3 := Tryz.underlying3
  a3 := Tryz.isAgg3
  z3 := Tryz.sizeOf3
  v3 := Tryz.zeroValue3
  t4 := Tryz.underlying4
  a4 := Tryz.isAgg4
  z4 := Tryz.sizeOf4
  v4 := Tryz.zeroValue4
  t5 := Tryz.underlying5
  a5 := Tryz.isAgg5
  z5 := Tryz.sizeOf5
  v5 := Tryz.zeroValue5
  t9 := Tryz.underlying9
  a9 := Tryz.isAgg9
  z9 := Tryz.sizeOf9
  v9 := Tryz.zeroValue9
  t20 := Tryz.underlying20
  a20 := Tryz.isAgg20
  z20 := Tryz.sizeOf20
  v20 := Tryz.zeroValue20
  t21 := Tryz.underlying21
  a21 := Tryz.isAgg21
  z21 := Tryz.sizeOf21
  v21 := Tryz.zeroValue21
  t37 := Tryz.underlying51
  a37 := Tryz.isAgg51
  z37 := Tryz.sizeOf51
  v37 := Tryz.zeroValue51
  t46 := Tryz.underlying75
  a46 := Tryz.isAgg75
  z46 := Tryz.sizeOf75
  v46 := Tryz.zeroValue75
  t51 := Tryz.underlying99
  a51 := Tryz.isAgg99
  z51 := Tryz.sizeOf99
  v51 := Tryz.zeroValue99
  t53 := Tryz.underlying102
  a53 := Tryz.isAgg102
  z53 := Tryz.sizeOf102
  v53 := Tryz.zeroValue102
  t75 := Tryz.underlying84
  a75 := Tryz.isAgg84
  z75 := Tryz.sizeOf84
  v75 := Tryz.zeroValue84
  t76 := Tryz.underlying85
  a76 := Tryz.isAgg85
  z76 := Tryz.sizeOf85
  v76 := Tryz.zeroValue85
  t85 := Tryz.underlying149
  a85 := Tryz.isAgg149
  z85 := Tryz.sizeOf149
  v85 := Tryz.zeroValue149
  t127 := Tryz.underlying105
  a127 := Tryz.isAgg105
  z127 := Tryz.sizeOf105
  v127 := Tryz.zeroValue105
  t143 := Tryz.underlying175
  a143 := Tryz.isAgg175
  z143 := Tryz.sizeOf175
  v143 := Tryz.zeroValue175
  t145 := Tryz.underlying177
  a145 := Tryz.isAgg177
  z145 := Tryz.sizeOf177
  v145 := Tryz.zeroValue177
  t167 := Tryz.underlying148
  a167 := Tryz.isAgg148
  z167 := Tryz.sizeOf148
  v167 := Tryz.zeroValue148
  t168 := Tryz.underlying151
  a168 := Tryz.isAgg151
  z168 := Tryz.sizeOf151
  v168 := Tryz.zeroValue151
  t171 := Tryz.underlying154
  a171 := Tryz.isAgg154
  z171 := Tryz.sizeOf154
  v171 := Tryz.zeroValue154
  t173 := Tryz.underlying157
  a173 := Tryz.isAgg157
  z173 := Tryz.sizeOf157
  v173 := Tryz.zeroValue157
  t175 := Tryz.underlying163
  a175 := Tryz.isAgg163
  z175 := Tryz.sizeOf163
  v175 := Tryz.zeroValue163
  t210 := Tryz.underlying166
  a210 := Tryz.isAgg166
  z210 := Tryz.sizeOf166
  v210 := Tryz.zeroValue166
  t212 := Tryz.underlying169
  a212 := Tryz.isAgg169
  z212 := Tryz.sizeOf169
  v212 := Tryz.zeroValue169
  t213 := Tryz.underlying170
  a213 := Tryz.isAgg170
  z213 := Tryz.sizeOf170
  t232 := Tryz.underlying179
  a232 := Tryz.isAgg179
  z232 := Tryz.sizeOf179
  v232 := Tryz.zeroValue179
  t233 := Tryz.underlying180
  a233 := Tryz.isAgg180
  z233 := Tryz.sizeOf180
  v233 := Tryz.zeroValue180
  g15 := by kernel_rfl
  g16 := by kernel_rfl
  g17 := by kernel_rfl
  g18 := by kernel_rfl
  g19 := by kernel_rfl
  t80 := Tryz.underlying88
  a80 := Tryz.isAgg88
  z80 := Tryz.sizeOf88
  v80 := Tryz.zeroValue88
  i0 := by kernel_rfl
  i2 := by kernel_rfl
  i3 := by kernel_rfl
  i4 := by kernel_rfl
  i5 := by kernel_rfl
  i9 := by kernel_rfl
  i20 := by kernel_rfl
  i21 := by kernel_rfl
  i37 := by kernel_rfl
  i46 := by kernel_rfl
  i51 := by kernel_rfl
  i53 := by kernel_rfl
  i75 := by kernel_rfl
  i76 := by kernel_rfl
  i80 := by kernel_rfl
  i85 := by kernel_rfl
  i127 := by kernel_rfl
  i143 := by kernel_rfl
  i145 := by kernel_rfl
  i167 := by kernel_rfl
  i168 := by kernel_rfl
  i171 := by kernel_rfl
  i173 := by kernel_rfl
  i175 := by kernel_rfl
  i210 := by kernel_rfl
  i212 := by kernel_rfl
  i232 := by kernel_rfl
  i233 := by kernel_rfl
  m15 := by kernel_rfl
  m16 := by kernel_rfl
  m17 := by kernel_rfl
  m18 := by kernel_rfl
  m19 := by kernel_rfl
  c0 := by kernel_rfl
  c2 := by kernel_rfl
  c3 := by kernel_rfl
  c4 := by kernel_rfl
  c5 := by kernel_rfl
  c9 := by kernel_rfl
  c20 := by kernel_rfl
  c21 := by kernel_rfl
  c37 := by kernel_rfl
  c46 := by kernel_rfl
  c51 := by kernel_rfl
  c53 := by kernel_rfl
  c75 := by kernel_rfl
  c76 := by kernel_rfl
  c80 := by kernel_rfl
  c85 := by kernel_rfl
  c127 := by kernel_rfl
  c143 := by kernel_rfl
  c145 := by kernel_rfl
  c167 := by kernel_rfl
  c168 := by kernel_rfl
  c171 := by kernel_rfl
  c173 := by kernel_rfl
  c175 := by kernel_rfl
  c210 := by kernel_rfl
  c212 := by kernel_rfl
  c213 := by kernel_rfl
  c232 := by kernel_rfl
  c233 := by kernel_rfl }
open Go.RowKit in
theorem Tryz.strconv_Atoi_ok (s : ByteArray) (hmax : s.size ≤ 9223372036854775806) (v : Int) (h : Lib.atoiAll s.data.toList = .ok v) (w : World) :
    Calls Tryz.prog 77 #[.string s] w fun e w' => e = .returned (.tuple #[.int .i64 v, .nilIface]) ∧ (w' = w ∨ ∃ t, w' = Lib.bytesWorld w 5 t) := Any.strconv_Atoi_ok Tryz.laysC172 s hmax v h w
open Go.RowKit in
theorem Tryz.strconv_Atoi_range (s : ByteArray) (hlim : s.size ≤ 281474976710656) (h : Lib.atoiAll s.data.toList = .range) (ev : Value) (w : World) (hv : w.cell? ⟨4, 0, none⟩ = some ev) (hev : ev = .nilIface ∨ ∃ te pe, ev = .iface te pe) :
    Calls Tryz.prog 77 #[.string s] w fun e w' => ∃ N, e = .returned (.tuple #[.int .i64 (Lib.atoiSat s.data.toList), .iface 151 (.pointer (some ⟨N, 0, none⟩))]) ∧ w.heap.size ≤ N ∧ w'.heap[N]? = some (.cells #[.string ⟨#[65, 116, 111, 105]⟩, .string s, ev] 166 (0, 0)) ∧ Below w.heap.size w w' := Any.strconv_Atoi_range Tryz.laysC172 s hlim h ev w hv hev
def Tryz.lays99_ren : Go.Shelf.Ren := ⟨fun | 99 => 33 | 206 => 55 | n => n, fun | 9 => 9 | 4 => 4 | 3 => 3 | n => n, fun | n => n⟩
theorem Tryz.lays99 : Go.Proofs.Lays.n99 Tryz.prog Tryz.lays99_ren := {
  mixed := by kernel_rfl
  f99 := Tryz.func33.trans (congrArg some (by kernel_rfl))
  f206 := Tryz.func55.trans (congrArg some (by kernel_rfl))
  t3 := Tryz.underlying3
  a3 := Tryz.isAgg3
  z3 := Tryz.sizeOf3
  v3 := Tryz.zeroValue3
  t4 := Tryz.underlying4
  a4 := Tryz.isAgg4
  z4 := Tryz.sizeOf4
  v4 := Tryz.zeroValue4
  t9 := Tryz.underlying9
  a9 := Tryz.isAgg9
  z9 := Tryz.sizeOf9
  v9 := Tryz.zeroValue9 }
open Go.RowKit Go.Lib in
theorem Tryz.strings_HasPrefix (s p : ByteArray) (w : World) :
    Calls Tryz.prog 33 #[.string s, .string p] w fun e w' => e = .returned (.bool (Lib.hasPrefix s.data.toList p.data.toList)) ∧ w' = w := Any.strings_HasPrefix Tryz.lays99 s p w
def Tryz.lays150_ren : Go.Shelf.Ren := ⟨fun | 150 => 76 | 153 => 98 | 152 => 108 | 226 => 109 | 227 => 91 | 228 => 105 | 137 => 46 | 119 => 122 | 224 => 123 | 225 => 124 | 217 => 67 | 266 => 86 | n => n, fun | 9 => 9 | 4 => 4 | 3 => 3 | 5 => 5 | 21 => 21 | 117 => 137 | 116 => 136 | 0 => 0 | 46 => 75 | 124 => 140 | n => n, fun | n => n⟩
theorem Tryz.lays150 : Go.Proofs.Lays.n150 Tryz.prog Tryz.lays150_ren := {
  mixed := by kernel_rfl
  f119 := Tryz.func122.trans (congrArg some (by kernel_rfl))
  f137 := Tryz.func46.trans (congrArg some (by kernel_rfl))
  f150 := Tryz.func76.trans (congrArg some (by kernel_rfl))
  f152 := Tryz.func108.trans (congrArg some (by kernel_rfl))
  f153 := Tryz.func98.trans (congrArg some (by kernel_rfl))
  f217 := Tryz.func67.trans (congrArg some (by kernel_rfl))
  f224 := Tryz.func123.trans (congrArg some (by kernel_rfl))
  f225 := Tryz.func124.trans (congrArg some (by kernel_rfl))
  f226 := Tryz.func109.trans (congrArg some (by kernel_rfl))
  f227 := Tryz.func91.trans (congrArg some (by kernel_rfl))
  f228 := Tryz.func105.trans (congrArg some (by kernel_rfl))
  f266 := Tryz.func86.trans (congrArg some (by kernel_rfl))
  t0 := Tryz.underlying0
  a0 := Tryz.isAgg0
  z0 := Tryz.sizeOf0
  v0 := Tryz.zeroValue0
  t3 := Tryz.underlying3
  a3 := Tryz.isAgg3
  z3 := Tryz.sizeOf3
  v3 := Tryz.zeroValue3
  t4 := Tryz.underlying4
  a4 := Tryz.isAgg4
  z4 := Tryz.sizeOf4
  v4 := Tryz.zeroValue4
  t5 := Tryz.underlying5
  a5 := Tryz.isAgg5
  z5 := Tryz.sizeOf5
  v5 := Tryz.zeroValue5
  t9 := Tryz.underlying9
  a9 := Tryz.isAgg9
  z9 := Tryz.sizeOf9
  v9 := Tryz.zeroValue9
  t21 := Tryz.underlying21
  a21 := Tryz.isAgg21
  z21 := Tryz.sizeOf21
  v21 := Tryz.zeroValue21
  t46 := Tryz.underlying75
  a46 := Tryz.isAgg75
  z46 := Tryz.sizeOf75
  v46 := Tryz.zeroValue75
  t116 := Tryz.underlying136
  a116 := Tryz.isAgg136
  z116 := Tryz.sizeOf136
  t117 := Tryz.underlying137
  a117 := Tryz.isAgg137
  z117 := Tryz.sizeOf137
  v117 := Tryz.zeroValue137
  t124 := Tryz.underlying140
  a124 := Tryz.isAgg140
  z124 := Tryz.sizeOf140
  v124 := Tryz.zeroValue140 }
open Go.RowKit Go.Lib in
theorem Tryz.strings_ContainsAny_laid (s chars : ByteArray) (w : World) (hs : s.size < 4294967281) (hcs : chars.size < 4294967281) (has : ∀ (j : Nat) b, s.data.toList[j]? = some b → b.toNat < 128) (hac : ∀ (j : Nat) b, chars.data.toList[j]? = some b → b.toNat < 128) :
    Calls Tryz.prog 76 #[.string s, .string chars] w fun e w' => e = .returned (.bool (Lib.containsAny s.data.toList chars.data.toList)) ∧ Below w.heap.size w w' := Any.strings_ContainsAny_laid Tryz.lays150 (by kernel_rfl) s chars w hs hcs has hac
end Go.Proofs
namespace Go.Proofs.YtcmkepkeeahioaaGreatDoor
open Go.RowKit
structure NEnv (w : World) : Prop where
  tabs : U8 w
  pow : Go.Lib.TabIs Tryz.prog w "internal/strconv.uint64pow10" .u64 Go.Lib.pow10Tab
  big : 5 < w.heap.size
  rng : ∃ tp p, w.cell? ⟨4, 0, none⟩ = some (.iface tp p)
  rlt : 4 < w.heap.size
theorem NEnv.below {w w' : World} (h : NEnv w) (hb : Below w.heap.size w w') : NEnv w' :=
  ⟨h.tabs.below hb, var?_below hb g_pow10 h.big h.pow, Nat.lt_of_lt_of_le h.big hb.size,
   let ⟨t, p, hp⟩ := h.rng; ⟨t, p, (hb.cell (p := ⟨4, 0, none⟩) h.rlt).trans hp⟩, Nat.lt_of_lt_of_le h.rlt hb.size⟩
theorem c_itoa (n : Int) (h0 : -9223372036854775808 ≤ n) (h1 : n ≤ 9223372036854775807) (w : World) (hE : NEnv w) :
    Calls Tryz.prog 59 #[.int .i64 n] w fun e w' => e = .returned (.string (bs (Go.Lib.itoa n))) ∧ Below w.heap.size w w' :=
  (Tryz.strconv_Itoa n h0 h1 w hE.pow).mono fun _ _ ⟨he, k, os, hw⟩ => ⟨he, hw ▸ ⟨rfl, rfl, rfl, by
    show w.heap.size ≤ (w.heap ++ os).size
    simp, fun j hj => by
    show (w.heap ++ os)[j]? = w.heap[j]?
    rw [Array.getElem?_append_left hj]⟩⟩
theorem c_atoi_ok (s : ByteArray) (hs : s.size ≤ 1000000) (v : Int) (h : Go.Lib.atoiAll s.data.toList = .ok v) (w : World) :
    Calls Tryz.prog 77 #[.string s] w fun e w' => e = .returned (.tuple #[.int .i64 v, .nilIface]) ∧ Below w.heap.size w w' :=
  (Tryz.strconv_Atoi_ok s (by omega) v h w).mono fun _ _ ⟨he, hw⟩ => ⟨he, by
    rcases hw with rfl | ⟨t, rfl⟩
    · exact Below.refl _ _
    · exact Go.Lib.bytesWorld_below _ _ _⟩
def NumErr (w : World) (e : Ending) (w' : World) : Prop := ∃ n t a, e = .returned (.tuple #[.int .i64 n, .iface t (.pointer (some a))]) ∧ Below w.heap.size w w'
theorem c_atoi_range (s : ByteArray) (hs : s.size ≤ 1000000) (h : Go.Lib.atoiAll s.data.toList = .range) (w : World) (hE : NEnv w) :
    Calls Tryz.prog 77 #[.string s] w (NumErr w) := by
  obtain ⟨tp, p, hv⟩ := hE.rng
  exact (Tryz.strconv_Atoi_range s (by omega) h _ w hv (.inr ⟨tp, p, rfl⟩)).mono fun _ _ ⟨N, he, _, _, hb⟩ => ⟨_, _, _, he, hb⟩
end Go.Proofs.YtcmkepkeeahioaaGreatDoor
namespace Go.Proofs.YtcmkepkeeahioaaGreatDoor
open Go.RowKit
def renN : Go.Shelf.Ren := ⟨fun n => n, fun | 5 => 5 | 119 => 126 | 138 => 128 | 139 => 129 | n => n, fun | 3 => 0 | 4 => 1 | n => n⟩
theorem u8t : U8Types Tryz.prog renN := ⟨Tryz.underlying5, Tryz.underlying126, Tryz.underlying128, Tryz.underlying129⟩
theorem u8x : U8Extra Tryz.prog renN := ⟨by kernel_rfl, by kernel_rfl, by kernel_rfl, by kernel_rfl, by kernel_rfl, by kernel_rfl, by kernel_rfl⟩
theorem accept_data : (Rows.laid_unicode_utf8_acceptRanges : DataW Unit) = Go.Lib.acceptData := by kernel_rfl
theorem lt_of_cell {W : World} {g : Nat} {v : Value} (h : W.cell? ⟨g, 0, none⟩ = some v) : g < W.heap.size := World.block_lt_of_cell? _ _ h
theorem err_star : "*" ++ "errors.errorString" = "*errors.errorString" := by decide
theorem err_row (u : TypeId) (h : Tryz.prog.typeName? 3 u = some "*errors.errorString") : u = 175 :=
  typeName_ptr_named (nm := "errors.errorString") (by rw [err_star]; kernel_rfl) (by kernel_rfl) (by decide) u (by rw [err_star]; exact h)
def lp17 : List (String × DataW Unit) := [("math/bits.deBruijn32tab", Rows.laid_math_bits_deBruijn32tab), ("math/bits.deBruijn64tab", Rows.laid_math_bits_deBruijn64tab), ("internal/strconv.uint64pow10", Rows.laid_internal_strconv_uint64pow10), ("unicode/utf8.acceptRanges", Rows.laid_unicode_utf8_acceptRanges), ("strconv.ErrRange", Rows.laid_strconv_ErrRange), ("strconv.ErrSyntax", Rows.laid_strconv_ErrSyntax), ("unicode/utf8.first", Rows.laid_unicode_utf8_first)]
theorem env17 {W : World} (h : laidMet Tryz.prog lp17 W) : NEnv W := by
  unfold lp17 at h
  have ht : Go.Lib.TabIs Tryz.prog W "internal/strconv.uint64pow10" .u64 Go.Lib.pow10Tab :=
    Go.Lib.tabIs_of_head (n := 20) (t := 169) (e := 102) g_pow10 (by kernel_rfl) (by kernel_rfl) (by kernel_rfl) (by kernel_rfl) (by kernel_rfl) h.tail.tail
  have h3 : Go.Lib.VarReads Tryz.prog W "unicode/utf8.first" Go.Lib.firstData := by
    have := Go.Lib.laidMet.reads h (n := "unicode/utf8.first") (d := Rows.laid_unicode_utf8_first) (by simp)
    rwa [show (Rows.laid_unicode_utf8_first : DataW Unit) = Go.Lib.firstData from Pinned.utf8First_eq] at this
  have h4 : Go.Lib.VarReads Tryz.prog W "unicode/utf8.acceptRanges" Go.Lib.acceptData := by
    have := Go.Lib.laidMet.reads h (n := "unicode/utf8.acceptRanges") (d := Rows.laid_unicode_utf8_acceptRanges) (by simp)
    rwa [accept_data] at this
  obtain ⟨a0, s0, hv0, _, _, _⟩ := laid_sentinel h.tail.tail.tail.tail (g := 4) (ti := 84) (tp := 175) (te := 177) (ts := 9) (by kernel_rfl) (by kernel_rfl) Tryz.underlying84 err_row Tryz.underlying175 Tryz.underlying177 rfl rfl Tryz.underlying9 (by kernel_rfl) (by kernel_rfl)
  have hr : W.cell? ⟨4, 0, none⟩ = some (.iface 175 (.pointer (some a0))) := World.var?_cell (show Tryz.prog.globalNamed "strconv.ErrRange" = some 4 by kernel_rfl) hv0 0
  refine ⟨utf8Tabs_of_readsT u8t u8x h3 h4, ht, ?_, ⟨_, _, hr⟩, lt_of_cell hr⟩
  rcases Nat.lt_or_ge 5 W.heap.size with hlt | hge
  · exact hlt
  · unfold Go.Lib.TabIs World.var? at ht
    rw [g_pow10] at ht
    simp [Array.getElem?_eq_none hge] at ht
end Go.Proofs.YtcmkepkeeahioaaGreatDoor
namespace Go.Proofs.YtcmkepkeeahioaaGreatDoor
open Go.RowKit
/-- a node: its kind, number, text, names and kids -/
inductive ND where
  | mk (k n : Int) (s : ByteArray) (names : List ByteArray) (kids : List ND)
def ND.k : ND → Int | .mk k _ _ _ _ => k
def ND.n : ND → Int | .mk _ n _ _ _ => n
def ND.s : ND → ByteArray | .mk _ _ s _ _ => s
def ND.names : ND → List ByteArray | .mk _ _ _ a _ => a
def ND.kids : ND → List ND | .mk _ _ _ _ l => l
mutual
/-- how many parts are left -/
def weighN : ND → Int → Int
  | .mk k n s names kids, left => if left < 1 ∨ 300 < s.size ∨ (k = 6 ∧ names.length ≠ kids.length) ∨ n < -4611686018427387904 then -1 else if names.any (fun x => decide (300 < x.size)) = true then -1 else weighL kids (left - 1)
def weighL : List ND → Int → Int
  | [], left => left
  | v :: t, left => if weighN v left < 0 then -1 else weighL t (weighN v left)
end
mutual
/-- the value that a node is -/
def valN : ND → JV
  | .mk k n s names kids => if k = 0 then .nul else if k = 1 then .boo false else if k = 2 then .boo true else if k = 3 then .num n else if k = 4 then .txt s.data.toList else if k = 5 then .lst (valL kids) else if k = 6 then .obj (valO names kids) else .bad
def valL : List ND → List JV
  | [] => []
  | v :: t => valN v :: valL t
def valO : List ByteArray → List ND → List (List UInt8 × JV)
  | a :: u, v :: t => (a.data.toList, valN v) :: valO u t
  | _, [] => []
  | [], _ => []
end
mutual
def sizeN : ND → Nat
  | .mk _ _ _ _ kids => 1 + sizeL kids
def sizeL : List ND → Nat
  | [] => 0
  | v :: t => sizeN v + sizeL t
end
mutual
/-- a node that is built as the document says -/
def goodN : ND → Prop
  | .mk k n s names kids => s.size ≤ 300 ∧ (k = 6 → names.length = kids.length) ∧ -4611686018427387904 ≤ n ∧ (∀ x ∈ names, x.size ≤ 300) ∧ goodL kids
def goodL : List ND → Prop
  | [] => True
  | v :: t => goodN v ∧ goodL t
end
theorem valL_len : ∀ l : List ND, (valL l).length = l.length
  | [] => by rw [valL]; rfl
  | v :: t => by rw [valL, List.length_cons, List.length_cons, valL_len t]
theorem sizeL_len : ∀ l : List ND, l.length ≤ sizeL l
  | [] => Nat.zero_le _
  | .mk k n s names kids :: t => by rw [sizeL, sizeN, List.length_cons]; have := sizeL_len t; omega
theorem goodL_mem : ∀ (l : List ND), goodL l → ∀ v ∈ l, goodN v
  | [], _, v, h => by cases h
  | a :: t, h, v, hv => by
    rw [goodL] at h
    rcases List.mem_cons.1 hv with rfl | h2
    · exact h.1
    · exact goodL_mem t h.2 v h2
mutual
theorem weigh_good : ∀ (v : ND) (left : Int), 0 ≤ weighN v left → goodN v ∧ weighN v left + (sizeN v : Int) ≤ left
  | .mk k n s names kids, left, h => by
    rw [weighN] at h ⊢
    by_cases h1 : left < 1 ∨ 300 < s.size ∨ (k = 6 ∧ names.length ≠ kids.length) ∨ n < -4611686018427387904
    · rw [if_pos h1] at h; exact absurd h (by decide)
    · rw [if_neg h1] at h ⊢
      by_cases h2 : names.any (fun x => decide (300 < x.size)) = true
      · rw [if_pos h2] at h; exact absurd h (by decide)
      · rw [if_neg h2] at h ⊢
        obtain ⟨a, b⟩ := weighL_good kids (left - 1) h
        refine ⟨?_, ?_⟩
        · rw [goodN]
          refine ⟨Nat.not_lt.1 fun e => h1 (.inr (.inl e)), fun e => Classical.byContradiction fun g => h1 (.inr (.inr (.inl ⟨e, g⟩))), Int.not_lt.1 fun e => h1 (.inr (.inr (.inr e))), fun x hx => Nat.not_lt.1 fun e => h2 (List.any_eq_true.2 ⟨x, hx, decide_eq_true e⟩), a⟩
        · rw [sizeN]; omega
theorem weighL_good : ∀ (l : List ND) (left : Int), 0 ≤ weighL l left → goodL l ∧ weighL l left + (sizeL l : Int) ≤ left
  | [], left, h => by rw [weighL] at h ⊢; rw [goodL, sizeL]; exact ⟨trivial, by omega⟩
  | v :: t, left, h => by
    rw [weighL] at h ⊢
    by_cases h1 : weighN v left < 0
    · rw [if_pos h1] at h; exact absurd h (by decide)
    · rw [if_neg h1] at h ⊢
      obtain ⟨a, b⟩ := weigh_good v left (Int.not_lt.1 h1)
      obtain ⟨c, d⟩ := weighL_good t (weighN v left) h
      rw [goodL, sizeL]
      exact ⟨⟨a, c⟩, by omega⟩
end
mutual
/-- no more is left than there was -/
theorem weigh_le : ∀ (v : ND) (left : Int), weighN v left ≤ left - 1 ∨ weighN v left = -1
  | .mk k n s names kids, left => by
    rw [weighN]
    split
    · exact .inr rfl
    · split
      · exact .inr rfl
      · rcases weighL_le kids (left - 1) with h | h
        · exact .inl h
        · exact .inr h
theorem weighL_le : ∀ (l : List ND) (left : Int), weighL l left ≤ left ∨ weighL l left = -1
  | [], left => by rw [weighL]; exact .inl (Int.le_refl _)
  | v :: t, left => by
    rw [weighL]
    by_cases h : weighN v left < 0
    · rw [if_pos h]; exact .inr rfl
    · rw [if_neg h]
      rcases weigh_le v left with h1 | h1
      · rcases weighL_le t (weighN v left) with h2 | h2
        · exact .inl (by omega)
        · exact .inr h2
      · omega
end
end Go.Proofs.YtcmkepkeeahioaaGreatDoor
namespace Go.Proofs.YtcmkepkeeahioaaGreatDoor
open Go.RowKit
mutual
/-- x is the value v, as one of type any, in blocks of which S holds -/
def AV (S : Nat → Prop) (w : World) : JV → Value → Prop
  | .nul, x => x = .nilIface
  | .boo b, x => x = .iface 4 (.bool b)
  | .num n, x => x = .iface 3 (.int .i64 n)
  | .txt s, x => x = .iface 9 (.string (bs s))
  | .lst l, x => ∃ a c, x = .iface 57 (.slice a l.length c) ∧ l.length ≤ c ∧ (l ≠ [] → ∃ b o, a = some ⟨b, o, none⟩ ∧ S b ∧ AVL S w b o l)
  | .obj l, x => ∃ a c, x = .iface 58 (.slice a l.length c) ∧ l.length ≤ c ∧ (l ≠ [] → ∃ b o, a = some ⟨b, o, none⟩ ∧ S b ∧ AVO S w b o l)
  | .bad, x => x = .iface 59 (.float .f64 0x3FF8000000000000)
/-- the cells from o on of block b hold the values l -/
def AVL (S : Nat → Prop) (w : World) (b : Nat) : Nat → List JV → Prop
  | _, [] => True
  | o, v :: t => (∃ x, w.cell? ⟨b, o, none⟩ = some x ∧ AV S w v x) ∧ AVL S w b (o + 1) t
/-- the cells from o on of block b hold the pairs l -/
def AVO (S : Nat → Prop) (w : World) (b : Nat) : Nat → List (List UInt8 × JV) → Prop
  | _, [] => True
  | o, (k, v) :: t => (w.cell? ⟨b, o, none⟩ = some (.string (bs k)) ∧ ∃ x, w.cell? ⟨b, o + 1, none⟩ = some x ∧ AV S w v x) ∧ AVO S w b (o + 2) t
end
/-- the cells of the blocks of S are the same -/
def KeptS (S : Nat → Prop) (w w' : World) : Prop := ∀ i, S i → ∀ o, w'.cell? ⟨i, o, none⟩ = w.cell? ⟨i, o, none⟩
theorem KeptS.of_below {B : Nat} {w w' : World} (h : Below B w w') {S : Nat → Prop} (hS : ∀ i, S i → i < B) : KeptS S w w' := fun i hi o => h.cell (p := ⟨i, o, none⟩) (hS i hi)
theorem KeptS.of_block {w w' : World} {S : Nat → Prop} (h : ∀ i, S i → w'.heap[i]? = w.heap[i]?) : KeptS S w w' := fun i hi o => by unfold World.cell?; rw [h i hi]
theorem KeptS.trans {S : Nat → Prop} {a b c : World} (h : KeptS S a b) (k : KeptS S b c) : KeptS S a c := fun i hi o => (k i hi o).trans (h i hi o)
theorem KeptS.refl (S : Nat → Prop) (w : World) : KeptS S w w := fun _ _ _ => rfl
mutual
theorem AV.kept {S S' : Nat → Prop} {w w' : World} (hS : ∀ i, S i → S' i) (h : KeptS S w w') : ∀ (v : JV) (x : Value), AV S w v x → AV S' w' v x
  | .nul, x, k => by rw [AV] at k ⊢; exact k
  | .boo b, x, k => by rw [AV] at k ⊢; exact k
  | .num n, x, k => by rw [AV] at k ⊢; exact k
  | .txt s, x, k => by rw [AV] at k ⊢; exact k
  | .bad, x, k => by rw [AV] at k ⊢; exact k
  | .lst l, x, k => by
    rw [AV] at k ⊢
    obtain ⟨a, c, e1, e2, e3⟩ := k
    refine ⟨a, c, e1, e2, fun hn => ?_⟩
    obtain ⟨b, o, f1, f2, f3⟩ := e3 hn
    exact ⟨b, o, f1, hS b f2, AVL.kept hS h f2 o l f3⟩
  | .obj l, x, k => by
    rw [AV] at k ⊢
    obtain ⟨a, c, e1, e2, e3⟩ := k
    refine ⟨a, c, e1, e2, fun hn => ?_⟩
    obtain ⟨b, o, f1, f2, f3⟩ := e3 hn
    exact ⟨b, o, f1, hS b f2, AVO.kept hS h f2 o l f3⟩
theorem AVL.kept {S S' : Nat → Prop} {w w' : World} (hS : ∀ i, S i → S' i) (h : KeptS S w w') {b : Nat} (hb : S b) : ∀ (o : Nat) (l : List JV), AVL S w b o l → AVL S' w' b o l
  | _, [], _ => by rw [AVL]; trivial
  | o, v :: t, k => by
    rw [AVL] at k ⊢
    obtain ⟨⟨x, h1, h2⟩, h3⟩ := k
    exact ⟨⟨x, (h b hb o).trans h1, AV.kept hS h v x h2⟩, AVL.kept hS h hb (o + 1) t h3⟩
theorem AVO.kept {S S' : Nat → Prop} {w w' : World} (hS : ∀ i, S i → S' i) (h : KeptS S w w') {b : Nat} (hb : S b) : ∀ (o : Nat) (l : List (List UInt8 × JV)), AVO S w b o l → AVO S' w' b o l
  | _, [], _ => by rw [AVO]; trivial
  | o, (q, v) :: t, k => by
    rw [AVO] at k ⊢
    obtain ⟨⟨h0, x, h1, h2⟩, h3⟩ := k
    exact ⟨⟨(h b hb o).trans h0, x, (h b hb (o + 1)).trans h1, AV.kept hS h v x h2⟩, AVO.kept hS h hb (o + 2) t h3⟩
end
theorem AVL.get {S : Nat → Prop} {w : World} {b : Nat} : ∀ (o : Nat) (l : List JV), AVL S w b o l → ∀ (j : Nat) (hj : j < l.length), ∃ x, w.cell? ⟨b, o + j, none⟩ = some x ∧ AV S w l[j] x
  | _, [], _, _, hj => absurd hj (Nat.not_lt_zero _)
  | o, v :: t, k, j, hj => by
    rw [AVL] at k
    cases j with
    | zero => exact k.1
    | succ j =>
      obtain ⟨x, h1, h2⟩ := AVL.get (o + 1) t k.2 j (Nat.lt_of_succ_lt_succ hj)
      exact ⟨x, by rw [show o + (j + 1) = o + 1 + j by omega]; exact h1, h2⟩
theorem AVO.get {S : Nat → Prop} {w : World} {b : Nat} : ∀ (o : Nat) (l : List (List UInt8 × JV)), AVO S w b o l → ∀ (j : Nat) (hj : j < l.length), w.cell? ⟨b, o + 2 * j, none⟩ = some (.string (bs l[j].1)) ∧ ∃ x, w.cell? ⟨b, o + 2 * j + 1, none⟩ = some x ∧ AV S w l[j].2 x
  | _, [], _, _, hj => absurd hj (Nat.not_lt_zero _)
  | o, (q, v) :: t, k, j, hj => by
    rw [AVO] at k
    cases j with
    | zero => exact k.1
    | succ j =>
      obtain ⟨h0, x, h1, h2⟩ := AVO.get (o + 2) t k.2 j (Nat.lt_of_succ_lt_succ hj)
      exact ⟨by rw [show o + 2 * (j + 1) = o + 2 + 2 * j by omega]; exact h0, x, by rw [show o + 2 * (j + 1) + 1 = o + 2 + 2 * j + 1 by omega]; exact h1, h2⟩
/-- cells that hold the values one by one are the list -/
theorem AVL.of {S : Nat → Prop} {w : World} {b : Nat} : ∀ (o : Nat) (l : List JV), (∀ (j : Nat) (hj : j < l.length), ∃ x, w.cell? ⟨b, o + j, none⟩ = some x ∧ AV S w l[j] x) → AVL S w b o l
  | _, [], _ => by rw [AVL]; trivial
  | o, v :: t, k => by
    rw [AVL]
    refine ⟨k 0 (Nat.zero_lt_succ _), AVL.of (o + 1) t fun j hj => ?_⟩
    obtain ⟨x, h1, h2⟩ := k (j + 1) (Nat.succ_lt_succ hj)
    exact ⟨x, by rw [show o + 1 + j = o + (j + 1) by omega]; exact h1, h2⟩
theorem AVO.of {S : Nat → Prop} {w : World} {b : Nat} : ∀ (o : Nat) (l : List (List UInt8 × JV)), (∀ (j : Nat) (hj : j < l.length), w.cell? ⟨b, o + 2 * j, none⟩ = some (.string (bs l[j].1)) ∧ ∃ x, w.cell? ⟨b, o + 2 * j + 1, none⟩ = some x ∧ AV S w l[j].2 x) → AVO S w b o l
  | _, [], _ => by rw [AVO]; trivial
  | o, (q, v) :: t, k => by
    rw [AVO]
    refine ⟨k 0 (Nat.zero_lt_succ _), AVO.of (o + 2) t fun j hj => ?_⟩
    obtain ⟨h0, x, h1, h2⟩ := k (j + 1) (Nat.succ_lt_succ hj)
    exact ⟨by rw [show o + 2 + 2 * j = o + 2 * (j + 1) by omega]; exact h0, x, by rw [show o + 2 + 2 * j + 1 = o + 2 * (j + 1) + 1 by omega]; exact h1, h2⟩
mutual
/-- the five cells of a node -/
def NAt (w : World) : ND → Value → Value → Value → Value → Value → Prop
  | .mk k n s names kids, x0, x1, x2, x3, x4 => x0 = .int .u8 k ∧ x1 = .int .i64 n ∧ x2 = .string s ∧
    (∃ a c, x3 = .slice a names.length c ∧ names.length ≤ c ∧ (names ≠ [] → ∃ b o, a = some ⟨b, o, none⟩ ∧ b < w.heap.size ∧ ∀ j (hj : j < names.length), w.cell? ⟨b, o + j, none⟩ = some (.string names[j]))) ∧
    ∃ a c, x4 = .slice a kids.length c ∧ kids.length ≤ c ∧ (kids ≠ [] → ∃ b o, a = some ⟨b, o, none⟩ ∧ b < w.heap.size ∧ NAL w b o kids)
def NAL (w : World) (b : Nat) : Nat → List ND → Prop
  | _, [] => True
  | o, v :: t => (∃ x0 x1 x2 x3 x4, (w.cell? ⟨b, o, none⟩ = some x0 ∧ w.cell? ⟨b, o + 1, none⟩ = some x1 ∧ w.cell? ⟨b, o + 2, none⟩ = some x2 ∧ w.cell? ⟨b, o + 3, none⟩ = some x3 ∧ w.cell? ⟨b, o + 4, none⟩ = some x4) ∧ NAt w v x0 x1 x2 x3 x4) ∧ NAL w b (o + 5) t
end
mutual
theorem NAt.below {w w' : World} (h : Below w.heap.size w w') : ∀ (v : ND) (x0 x1 x2 x3 x4 : Value), NAt w v x0 x1 x2 x3 x4 → NAt w' v x0 x1 x2 x3 x4
  | .mk k n s names kids, x0, x1, x2, x3, x4, q => by
    rw [NAt] at q ⊢
    obtain ⟨e0, e1, e2, ⟨a, c, e3, e4, e5⟩, a2, c2, e6, e7, e8⟩ := q
    refine ⟨e0, e1, e2, ⟨a, c, e3, e4, fun hn => ?_⟩, a2, c2, e6, e7, fun hn => ?_⟩
    · obtain ⟨b, o, f1, f2, f3⟩ := e5 hn
      exact ⟨b, o, f1, Nat.lt_of_lt_of_le f2 h.size, fun j hj => (h.cell (p := ⟨b, o + j, none⟩) f2).trans (f3 j hj)⟩
    · obtain ⟨b, o, f1, f2, f3⟩ := e8 hn
      exact ⟨b, o, f1, Nat.lt_of_lt_of_le f2 h.size, NAL.below h f2 o kids f3⟩
theorem NAL.below {w w' : World} (h : Below w.heap.size w w') {b : Nat} (hb : b < w.heap.size) : ∀ (o : Nat) (l : List ND), NAL w b o l → NAL w' b o l
  | _, [], _ => by rw [NAL]; trivial
  | o, v :: t, q => by
    rw [NAL] at q ⊢
    obtain ⟨⟨x0, x1, x2, x3, x4, ⟨h0, h1, h2, h3, h4⟩, h5⟩, h6⟩ := q
    exact ⟨⟨x0, x1, x2, x3, x4, ⟨(h.cell (p := ⟨b, o, none⟩) hb).trans h0, (h.cell (p := ⟨b, o + 1, none⟩) hb).trans h1, (h.cell (p := ⟨b, o + 2, none⟩) hb).trans h2, (h.cell (p := ⟨b, o + 3, none⟩) hb).trans h3, (h.cell (p := ⟨b, o + 4, none⟩) hb).trans h4⟩, NAt.below h v _ _ _ _ _ h5⟩, NAL.below h hb (o + 5) t h6⟩
end
theorem NAL.get {w : World} {b : Nat} : ∀ (o : Nat) (l : List ND), NAL w b o l → ∀ (j : Nat) (hj : j < l.length), ∃ x0 x1 x2 x3 x4, (w.cell? ⟨b, o + j * 5, none⟩ = some x0 ∧ w.cell? ⟨b, o + j * 5 + 1, none⟩ = some x1 ∧ w.cell? ⟨b, o + j * 5 + 2, none⟩ = some x2 ∧ w.cell? ⟨b, o + j * 5 + 3, none⟩ = some x3 ∧ w.cell? ⟨b, o + j * 5 + 4, none⟩ = some x4) ∧ NAt w l[j] x0 x1 x2 x3 x4
  | _, [], _, _, hj => absurd hj (Nat.not_lt_zero _)
  | o, v :: t, k, j, hj => by
    rw [NAL] at k
    cases j with
    | zero => simpa using k.1
    | succ j =>
      obtain ⟨x0, x1, x2, x3, x4, h, h5⟩ := NAL.get (o + 5) t k.2 j (Nat.lt_of_succ_lt_succ hj)
      exact ⟨x0, x1, x2, x3, x4, by rw [show o + (j + 1) * 5 = o + 5 + j * 5 by omega]; exact h, h5⟩
theorem NAL.of {w : World} {b : Nat} : ∀ (o : Nat) (l : List ND), (∀ (j : Nat) (hj : j < l.length), ∃ x0 x1 x2 x3 x4, (w.cell? ⟨b, o + j * 5, none⟩ = some x0 ∧ w.cell? ⟨b, o + j * 5 + 1, none⟩ = some x1 ∧ w.cell? ⟨b, o + j * 5 + 2, none⟩ = some x2 ∧ w.cell? ⟨b, o + j * 5 + 3, none⟩ = some x3 ∧ w.cell? ⟨b, o + j * 5 + 4, none⟩ = some x4) ∧ NAt w l[j] x0 x1 x2 x3 x4) → NAL w b o l
  | _, [], _ => by rw [NAL]; trivial
  | o, v :: t, k => by
    rw [NAL]
    refine ⟨by simpa using k 0 (Nat.zero_lt_succ _), NAL.of (o + 5) t fun j hj => ?_⟩
    obtain ⟨x0, x1, x2, x3, x4, h, h5⟩ := k (j + 1) (Nat.succ_lt_succ hj)
    exact ⟨x0, x1, x2, x3, x4, by rw [show o + 5 + j * 5 = o + (j + 1) * 5 by omega]; exact h, h5⟩
end Go.Proofs.YtcmkepkeeahioaaGreatDoor
namespace Go.Proofs.YtcmkepkeeahioaaGreatDoor
open Go.RowKit
/-- w' is w but for blocks of which S holds, and new ones -/
structure Touch (S : Nat → Prop) (w w' : World) : Prop where
  os : w'.os = w.os
  tape : w'.tape = w.tape
  output : w'.output = w.output
  size : w.heap.size ≤ w'.heap.size
  block : ∀ k, k < w.heap.size → ¬ S k → w'.heap[k]? = w.heap[k]?
theorem Touch.refl (S : Nat → Prop) (w : World) : Touch S w w := ⟨rfl, rfl, rfl, Nat.le_refl _, fun _ _ _ => rfl⟩
theorem Touch.trans {S S' : Nat → Prop} {a b c : World} (h : Touch S a b) (k : Touch S' b c) (hS : ∀ g, S' g → S g ∨ a.heap.size ≤ g) : Touch S a c :=
  ⟨k.os.trans h.os, k.tape.trans h.tape, k.output.trans h.output, Nat.le_trans h.size k.size, fun i hi hn =>
    (k.block i (Nat.lt_of_lt_of_le hi h.size) (fun hs => (hS i hs).elim hn (fun h2 => by omega))).trans (h.block i hi hn)⟩
theorem Touch.of_below {S : Nat → Prop} {w w' : World} (h : Below w.heap.size w w') : Touch S w w' := ⟨h.os, h.tape, h.output, h.size, fun k hk _ => h.block k hk⟩
theorem Touch.mono {S S' : Nat → Prop} {w w' : World} (h : Touch S w w') (hS : ∀ g, S g → S' g) : Touch S' w w' := ⟨h.os, h.tape, h.output, h.size, fun k hk hn => h.block k hk (fun hs => hn (hS k hs))⟩
theorem Touch.below {S : Nat → Prop} {B : Nat} {w w' : World} (h : Touch S w w') (hS : ∀ g, S g → B ≤ g) (hB : B ≤ w.heap.size) : Below B w w' :=
  ⟨h.os, h.tape, h.output, h.size, fun k hk => h.block k (by omega) (fun hs => by have := hS k hs; omega)⟩

/-- a row that stands in its block is owned in every world that has that block -/
theorem own_of_block {w w' : World} {base : Nat} {e : TypeId} {size : Nat} {v : Value} {n : Nat} {xs : List Value} (h : w.ownsRow base e size v n xs) (hb : ∀ g, v.ownBlock = some g → w'.heap[g]? = w.heap[g]?) : w'.ownsRow base e size v n xs := by
  refine ⟨h.1, ?_⟩
  rcases h.2 with hn | ⟨g, cap, cur, rfl, hg, hgg, rest⟩
  · exact .inl hn
  · refine .inr ⟨g, cap, cur, rfl, hg, ?_, rest⟩
    rw [hb g rfl]; exact hgg
/-- the block of an owned row bears its element's type -/
theorem own_tag {w : World} {base : Nat} {e : TypeId} {size : Nat} {v : Value} {n : Nat} {xs : List Value} (h : w.ownsRow base e size v n xs) (g : Nat) (hg : v.ownBlock = some g) : ∃ cur, w.heap[g]? = some (.cells cur e (0, 0)) := by
  rcases h.2 with ⟨rfl, _⟩ | ⟨g', cap, cur, rfl, _, hgg, _⟩
  · cases hg
  · obtain rfl : g' = g := by simpa [Value.ownBlock] using hg
    exact ⟨cur, hgg⟩
theorem own_not_row {w : World} {b1 : Nat} {e1 : TypeId} {s1 n1 : Nat} {v1 : Value} {x1 : List Value} (h1 : w.ownsRow b1 e1 s1 v1 n1 x1) {b : Nat} {cs : Array Value} {t : TypeId} {m : Nat × Nat} (hb : w.heap[b]? = some (.cells cs t m)) (hne : e1 ≠ t) : v1.ownBlock ≠ some b := fun hv => by
  obtain ⟨c1, k1⟩ := own_tag h1 b hv
  rw [k1] at hb
  simp only [Option.some.injEq, Obj.cells.injEq] at hb
  exact hne hb.2.1

theorem set_far {w : World} {a : Addr} {v : Value} {g : Nat} (hne : g ≠ a.block) : (w.setCell a v).heap[g]? = w.heap[g]? := Below.heap_setCell _ _ _ _ hne
theorem set_size1 (w : World) (a : Addr) (v : Value) : (w.setCell a v).heap.size = w.heap.size := by simp [World.setCell]
theorem touch_set {S : Nat → Prop} {w w' : World} {a : Addr} (v : Value) (h : Touch S w w') (ha : S a.block ∨ w.heap.size ≤ a.block) : Touch S w (w'.setCell a v) :=
  h.trans (S' := fun g => g = a.block) ⟨rfl, rfl, rfl, by rw [set_size1]; exact Nat.le_refl _, fun k hk hn => Below.heap_setCell _ _ _ _ hn⟩ (fun g hg => by rw [hg]; exact ha)
/-- append of one element of one cell -/
theorem append1 {ops : Array Oper} {rest : List Oper} {o : Oper} {a : Act} {Q : Exit → Act → World → Prop} (t e : TypeId) (z : Value) (b : Nat) (hu : Tryz.prog.underlying t = some (.slice e)) (hinf : (Tryz.prog.info? e).map (fun i => (i.zero, i.size, i.bytes)) = some (some z, 1, b)) (hz : z.cells.size = 1) (hb : b ≤ 64)
    (w0 : World) (c1 : Value) (h1 : c1.oneCell' = true) (hgd : o.guard = none) (s x : Operand) (ho : o.op = .call { callee := .builtin .append, args := #[s, x], argTypes := #[t, t] })
    (base : Nat) (v : Value) (n : Nat) (xs : List Value) (hs : a.eval s = v) (hown : w0.ownsRow base e 1 v n xs) (hx : a.eval x = .slice (some ⟨w0.heap.size, 0, none⟩) 1 1) (hn : n < 2147483648) (hbase : base ≤ w0.heap.size)
    (h : ∀ g cap w', w'.ownsRow base e 1 (.slice (some ⟨g, 0, none⟩) (n + 1) cap) (n + 1) (xs ++ [c1]) → w0.grownBy w' v.ownBlock → (v.ownBlock = some g ∨ w0.heap.size ≤ g) → wpList Tryz.prog ops Q rest (a.put o.dst (.slice (some ⟨g, 0, none⟩) (n + 1) cap)) w') :
    wpList Tryz.prog ops Q (o :: rest) a (w0.alloc (.cells #[c1] e)) := by
  obtain ⟨i0, hi, hz0, hz1, hz2⟩ := info_parts hinf
  have hbn : (n + 1) * b ≤ 2147483648 * 64 := Nat.mul_le_mul (by omega) hb
  refine wpList_append_lies _ hgd s x t ho base e i0 z 1 b hu hi hz0 hz1 hz2 hz (by decide) v n xs hs (hown.alloc _) ⟨w0.heap.size, 0, none⟩ 1 1 [c1] hx rfl (World.news_of_block (heap_alloc_new w0 _)) (fun u hm => ?_) (by decide) (by unfold maxLen; omega) (by omega) (by simp; omega) _ rfl ?_
  · simp only [List.mem_cons, List.not_mem_nil, or_false] at hm
    subst hm; assumption
  · intro g cap w' k2 k3 k4 k5
    refine h g cap w' k2 ⟨k3.os, k3.tape, k3.output, Nat.le_trans (by simp) k3.size, fun k hk hne => (k3.block k (by simp; omega) hne).trans (heap_alloc_old w0 _ hk)⟩ ?_
    rcases k4 with k4 | k4
    · exact .inl k4
    · exact .inr (by rw [k4]; simp)
theorem slice_of_own {w : World} {base : Nat} {e : TypeId} {size : Nat} {v : Value} {n : Nat} {xs : List Value} (h : w.ownsRow base e size v n xs) : ∃ a c, v = .slice a n c := by
  rcases h.2 with ⟨rfl, h0⟩ | ⟨g, cap, cur, rfl, -⟩
  · exact ⟨none, 0, by rw [h0]⟩
  · exact ⟨_, _, rfl⟩
/-- a row of the call's own that holds values of type any -/
def OwnL (S : Nat → Prop) (w : World) (base : Nat) (v : Value) (l : List JV) : Prop :=
  ∃ xs, w.ownsRow base 20 1 v l.length xs ∧ ∀ (j : Nat) (hj : j < l.length), ∃ x, xs[j]? = some x ∧ AV S w l[j] x
/-- the same of pairs -/
def OwnO (S : Nat → Prop) (w : World) (base : Nat) (v : Value) (l : List (List UInt8 × JV)) : Prop :=
  ∃ xs, w.ownsRow base 56 2 v l.length xs ∧ ∀ (j : Nat) (hj : j < l.length), xs[2 * j]? = some (.string (bs l[j].1)) ∧ ∃ x, xs[2 * j + 1]? = some x ∧ AV S w l[j].2 x
theorem OwnL.nil (S : Nat → Prop) (w : World) (base : Nat) : OwnL S w base (.slice none 0 0) [] := ⟨[], World.ownsRow_nil _ _ _ _, fun j hj => absurd hj (Nat.not_lt_zero _)⟩
theorem OwnO.nil (S : Nat → Prop) (w : World) (base : Nat) : OwnO S w base (.slice none 0 0) [] := ⟨[], World.ownsRow_nil _ _ _ _, fun j hj => absurd hj (Nat.not_lt_zero _)⟩
theorem add_lit0 (g k : Nat) : (⟨g, 0, none⟩ : Addr).add k = ⟨g, k, none⟩ := by
  have e0 : (⟨g, 0, none⟩ : Addr).add k = ⟨g, 0 + k, none⟩ := by unfold Addr.add; split <;> simp_all
  rw [e0, Nat.zero_add]
/-- a row of values is a list -/
theorem OwnL.value {S S' : Nat → Prop} {w : World} {base : Nat} {v : Value} {l : List JV} (h : OwnL S w base v l) (hS : ∀ i, S i → S' i) (hg : ∀ g, v.ownBlock = some g → S' g) : AV S' w (.lst l) (.iface 57 v) := by
  obtain ⟨xs, h1, h2⟩ := h
  rw [AV]
  rcases id h1.2 with ⟨rfl, h0⟩ | ⟨g, cap, cur, rfl, hb, hgg, hle, -⟩
  · exact ⟨none, 0, by rw [h0], by omega, fun hn => absurd (List.length_eq_zero_iff.1 h0) hn⟩
  · refine ⟨_, cap, rfl, hle, fun _ => ⟨g, 0, rfl, hg g rfl, AVL.of 0 l fun j hj => ?_⟩⟩
    obtain ⟨x, h3, h4⟩ := h2 j hj
    have := h1.cells (g := g) rfl j x h3
    rw [add_lit0] at this
    exact ⟨x, by rw [Nat.zero_add]; exact this, AV.kept hS (KeptS.refl _ _) _ _ h4⟩
theorem OwnO.value {S S' : Nat → Prop} {w : World} {base : Nat} {v : Value} {l : List (List UInt8 × JV)} (h : OwnO S w base v l) (hS : ∀ i, S i → S' i) (hg : ∀ g, v.ownBlock = some g → S' g) : AV S' w (.obj l) (.iface 58 v) := by
  obtain ⟨xs, h1, h2⟩ := h
  rw [AV]
  rcases id h1.2 with ⟨rfl, h0⟩ | ⟨g, cap, cur, rfl, hb, hgg, hle, -⟩
  · exact ⟨none, 0, by rw [h0], by omega, fun hn => absurd (List.length_eq_zero_iff.1 h0) hn⟩
  · refine ⟨_, cap, rfl, hle, fun _ => ⟨g, 0, rfl, hg g rfl, AVO.of 0 l fun j hj => ?_⟩⟩
    obtain ⟨h0, x, h3, h4⟩ := h2 j hj
    have c0 := h1.cells (g := g) rfl _ _ h0
    have c1 := h1.cells (g := g) rfl _ x h3
    rw [add_lit0] at c0 c1
    exact ⟨by rw [Nat.zero_add]; exact c0, x, by rw [Nat.zero_add]; exact c1, AV.kept hS (KeptS.refl _ _) _ _ h4⟩
/-- a row of values is one still where its blocks are the same -/
theorem OwnL.keep {S S' : Nat → Prop} {w w' : World} {base : Nat} {v : Value} {l : List JV} (h : OwnL S w base v l) (hS : ∀ i, S i → S' i) (hk : ∀ i, S i → w'.heap[i]? = w.heap[i]?) (hg : ∀ g, v.ownBlock = some g → w'.heap[g]? = w.heap[g]?) : OwnL S' w' base v l := by
  obtain ⟨xs, h1, h2⟩ := h
  refine ⟨xs, own_of_block h1 hg, fun j hj => ?_⟩
  obtain ⟨x, h3, h4⟩ := h2 j hj
  exact ⟨x, h3, AV.kept hS (KeptS.of_block hk) _ _ h4⟩
theorem OwnO.keep {S S' : Nat → Prop} {w w' : World} {base : Nat} {v : Value} {l : List (List UInt8 × JV)} (h : OwnO S w base v l) (hS : ∀ i, S i → S' i) (hk : ∀ i, S i → w'.heap[i]? = w.heap[i]?) (hg : ∀ g, v.ownBlock = some g → w'.heap[g]? = w.heap[g]?) : OwnO S' w' base v l := by
  obtain ⟨xs, h1, h2⟩ := h
  refine ⟨xs, own_of_block h1 hg, fun j hj => ?_⟩
  obtain ⟨h0, x, h3, h4⟩ := h2 j hj
  exact ⟨h0, x, h3, AV.kept hS (KeptS.of_block hk) _ _ h4⟩
/-- one value more -/
theorem OwnL.snoc {S : Nat → Prop} {w w' : World} {base : Nat} {v' : Value} {l : List JV} {xs : List Value} {u : JV} {x : Value} (h2 : ∀ (j : Nat) (hj : j < l.length), ∃ x, xs[j]? = some x ∧ AV S w l[j] x) (hx : AV S w u x) (hl : xs.length = l.length) (hown : w'.ownsRow base 20 1 v' (l.length + 1) (xs ++ [x])) (hk : ∀ i, S i → w'.heap[i]? = w.heap[i]?) : OwnL S w' base v' (l ++ [u]) := by
  refine ⟨xs ++ [x], by rw [List.length_append]; exact hown, fun j hj => ?_⟩
  rw [List.length_append, List.length_singleton] at hj
  by_cases hj2 : j < l.length
  · obtain ⟨y, h3, h4⟩ := h2 j hj2
    refine ⟨y, by rw [List.getElem?_append_left (by omega)]; exact h3, ?_⟩
    rw [List.getElem_append_left hj2]
    exact AV.kept (fun _ h => h) (KeptS.of_block hk) _ _ h4
  · obtain rfl : j = l.length := by omega
    refine ⟨x, by rw [List.getElem?_append_right (by omega), hl]; simp, ?_⟩
    rw [List.getElem_append_right (Nat.le_refl _)]
    simp only [Nat.sub_self, List.getElem_cons_zero]
    exact AV.kept (fun _ h => h) (KeptS.of_block hk) _ _ hx
theorem OwnO.snoc {S : Nat → Prop} {w w' : World} {base : Nat} {v' : Value} {l : List (List UInt8 × JV)} {xs : List Value} {q : List UInt8} {u : JV} {x : Value} (h2 : ∀ (j : Nat) (hj : j < l.length), xs[2 * j]? = some (.string (bs l[j].1)) ∧ ∃ x, xs[2 * j + 1]? = some x ∧ AV S w l[j].2 x) (hx : AV S w u x) (hl : xs.length = 2 * l.length) (hown : w'.ownsRow base 56 2 v' (l.length + 1) (xs ++ [.string (bs q), x])) (hk : ∀ i, S i → w'.heap[i]? = w.heap[i]?) : OwnO S w' base v' (l ++ [(q, u)]) := by
  refine ⟨xs ++ [.string (bs q), x], by rw [List.length_append]; exact hown, fun j hj => ?_⟩
  rw [List.length_append, List.length_singleton] at hj
  by_cases hj2 : j < l.length
  · obtain ⟨h0, y, h3, h4⟩ := h2 j hj2
    rw [List.getElem_append_left hj2]
    refine ⟨by rw [List.getElem?_append_left (by omega)]; exact h0, y, by rw [List.getElem?_append_left (by omega)]; exact h3, ?_⟩
    exact AV.kept (fun _ h => h) (KeptS.of_block hk) _ _ h4
  · obtain rfl : j = l.length := by omega
    rw [List.getElem_append_right (Nat.le_refl _)]
    simp only [Nat.sub_self, List.getElem_cons_zero]
    refine ⟨by rw [List.getElem?_append_right (by omega), hl]; simp, x, by rw [List.getElem?_append_right (by omega), hl]; simp, ?_⟩
    exact AV.kept (fun _ h => h) (KeptS.of_block hk) _ _ hx
theorem cells_one {x : Value} (h : x.oneCell' = true) : x.cells = #[x] := by
  cases x <;> first | rfl | (simp [Value.oneCell'] at h)
theorem AV.one {S : Nat → Prop} {w : World} {v : JV} {x : Value} (h : AV S w v x) : x.oneCell' = true := by
  cases v with
  | nul => rw [AV] at h; subst h; rfl
  | boo b => rw [AV] at h; subst h; rfl
  | num n => rw [AV] at h; subst h; rfl
  | txt s => rw [AV] at h; subst h; rfl
  | bad => rw [AV] at h; subst h; rfl
  | lst l => rw [AV] at h; obtain ⟨a, c, rfl, -⟩ := h; rfl
  | obj l => rw [AV] at h; obtain ⟨a, c, rfl, -⟩ := h; rfl
theorem AV.shape {S : Nat → Prop} {w : World} {v : JV} {x : Value} (h : AV S w v x) : x = .nilIface ∨ ∃ t u, x = .iface t u := by
  cases v with
  | nul => rw [AV] at h; exact .inl h
  | boo b => rw [AV] at h; exact .inr ⟨_, _, h⟩
  | num n => rw [AV] at h; exact .inr ⟨_, _, h⟩
  | txt s => rw [AV] at h; exact .inr ⟨_, _, h⟩
  | bad => rw [AV] at h; exact .inr ⟨_, _, h⟩
  | lst l => rw [AV] at h; obtain ⟨a, c, h, -⟩ := h; exact .inr ⟨_, _, h⟩
  | obj l => rw [AV] at h; obtain ⟨a, c, h, -⟩ := h; exact .inr ⟨_, _, h⟩
theorem info_any : (Tryz.prog.info? 20).map (fun i => (i.zero, i.size, i.bytes)) = some (some .nilIface, 1, 16) := by kernel_rfl
theorem info_pair : (Tryz.prog.info? 56).map (fun i => (i.zero, i.size, i.bytes)) = some (some (.agg #[.string ByteArray.empty, .nilIface]), 2, 32) := by kernel_rfl
end Go.Proofs.YtcmkepkeeahioaaGreatDoor
namespace Go.Proofs
open Go.Shelf
def layIndexP_ren : Go.Shelf.Ren := ⟨fun | 6 => 25 | n => n, fun | 22 => 58 | 23 => 56 | 25 => 63 | 3 => 3 | 0 => 0 | 4 => 4 | n => n, fun | n => n⟩
theorem layIndexP : Go.Proofs.SlLaysH0.n6 Tryz.prog layIndexP_ren := {
  mixed := by kernel_rfl
  f6 := ⟨Tryz.f25.name, by decide, Tryz.func25.trans (congrArg some (by kernel_rfl))⟩
  t0 := Tryz.underlying0
  a0 := Tryz.isAgg0
  z0 := Tryz.sizeOf0
  v0 := Tryz.zeroValue0
  t3 := Tryz.underlying3
  a3 := Tryz.isAgg3
  z3 := Tryz.sizeOf3
  v3 := Tryz.zeroValue3
  t4 := Tryz.underlying4
  a4 := Tryz.isAgg4
  z4 := Tryz.sizeOf4
  v4 := Tryz.zeroValue4
  t22 := Tryz.underlying58
  a22 := Tryz.isAgg58
  z22 := Tryz.sizeOf58
  v22 := Tryz.zeroValue58
  t25 := Tryz.underlying63
  a25 := Tryz.isAgg63
  z25 := Tryz.sizeOf63
  v25 := Tryz.zeroValue63 }
def layContainsP_ren : Go.Shelf.Ren := ⟨fun | 8 => 65 | 6 => 25 | n => n, fun | 22 => 58 | 23 => 56 | 25 => 63 | 4 => 4 | 3 => 3 | 0 => 0 | n => n, fun | n => n⟩
theorem layContainsP : Go.Proofs.SlLaysH0.n8 Tryz.prog layContainsP_ren := {
  mixed := by kernel_rfl
  f6 := ⟨Tryz.f25.name, by decide, Tryz.func25.trans (congrArg some (by kernel_rfl))⟩
  f8 := ⟨Tryz.f65.name, by decide, Tryz.func65.trans (congrArg some (by kernel_rfl))⟩
  t0 := Tryz.underlying0
  a0 := Tryz.isAgg0
  z0 := Tryz.sizeOf0
  v0 := Tryz.zeroValue0
  t3 := Tryz.underlying3
  a3 := Tryz.isAgg3
  z3 := Tryz.sizeOf3
  v3 := Tryz.zeroValue3
  t4 := Tryz.underlying4
  a4 := Tryz.isAgg4
  z4 := Tryz.sizeOf4
  v4 := Tryz.zeroValue4
  t22 := Tryz.underlying58
  a22 := Tryz.isAgg58
  z22 := Tryz.sizeOf58
  v22 := Tryz.zeroValue58
  t25 := Tryz.underlying63
  a25 := Tryz.isAgg63
  z25 := Tryz.sizeOf63
  v25 := Tryz.zeroValue63 }
end Go.Proofs
namespace Go.Proofs.YtcmkepkeeahioaaGreatDoor
open Go.RowKit Go.Shelf Go.Lib
set_option maxRecDepth 100000 in
theorem n_named (s : ByteArray) (w : World) : Calls Tryz.prog 26 #[.string s] w fun e w' => e = .returned (.func (.func 41) #[] #[.pointer (some ⟨w.heap.size, 0, none⟩)]) ∧ w' = w.alloc (.cells #[.string s] 9) := by
  have hmf : ∀ (fn : Fn) (first cap : Array Value) (w : World), (Instr.makeFunc fn first cap).run Tryz.prog w = .ok (.func fn first cap) w := fun _ _ _ _ => rfl
  go_enter Tryz.func26, Tryz.ntmps26
  go_wp2_with fail
  go_ret
  exact ⟨rfl, rfl⟩
theorem named_box (s : ByteArray) (w : World) : (w.alloc (.cells #[.string s] 9)).cell? ⟨w.heap.size, 0, none⟩ = some (.string s) ∧ w.heap.size < (w.alloc (.cells #[.string s] 9)).heap.size := by
  have h := heap_alloc_new w (.cells #[.string s] 9)
  exact ⟨by unfold World.cell?; rw [h]; rfl, by simp⟩
/-- a pair's two cells -/
def encP (x : List UInt8 × Value) : List Value := [.string (bs x.1), x.2]
set_option maxRecDepth 100000 in
theorem named_pred (q : List UInt8) (B : Nat) (w : World) (hB : B < w.heap.size) (hc : w.cell? ⟨B, 0, none⟩ = some (.string (bs q))) :
    PredBelow Tryz.prog 41 #[.pointer (some ⟨B, 0, none⟩)] (fun x => .agg (encP x).toArray) (fun x => decide (x.1 = q)) w := fun W x hb => by
  have k : W.cell? ⟨B, 0, none⟩ = some (.string (bs q)) := (hb.cell (p := ⟨B, 0, none⟩) hB).trans hc
  have hBW : B < W.heap.size := Nat.lt_of_lt_of_le hB hb.size
  have hne : B ≠ W.heap.size := by omega
  have he := bs_beq x.1 q
  have k2 : (W.alloc (.cells #[.string (bs x.1), x.2] 56)).cell? ⟨B, 0, none⟩ = some (.string (bs q)) := ((Below.refl W.heap.size W).alloc (Nat.le_refl _) _ |>.cell (p := ⟨B, 0, none⟩) hBW).trans k
  have h0 := heap_alloc_new W (.cells #[.string (bs x.1), x.2] 56)
  have k3 : (W.alloc (.cells #[.string (bs x.1), x.2] 56)).cell? ⟨W.heap.size, 0, none⟩ = some (.string (bs x.1)) := by unfold World.cell?; rw [h0]; rfl
  have HB := Lib.hid (hb.alloc hb.size (.cells #[.string (bs x.1), x.2] 56))
  obtain ⟨X, hX⟩ : ∃ X, bs x.1 = X := ⟨_, rfl⟩
  obtain ⟨Y, hY⟩ : ∃ Y, bs q = Y := ⟨_, rfl⟩
  obtain ⟨D, hD⟩ : ∃ D, decide (x.1 = q) = D := ⟨_, rfl⟩
  show Calls Tryz.prog 41 #[.agg #[.string (bs x.1), x.2], .pointer (some ⟨B, 0, none⟩)] W fun e w' => e = .returned (.bool (decide (x.1 = q))) ∧ Below w.heap.size w w'
  rw [hX] at k3 HB he k2 ⊢
  rw [hY] at he k2
  rw [hD] at he ⊢
  clear h0 k hX hY hD hc hb
  go_enter Tryz.func41, Tryz.ntmps41
  go_wp2_with fail
  go_ret
  exact ⟨rfl, HB.out⟩
/-- the pairs of an object, as cells -/
theorem AVO.zs {S : Nat → Prop} {w : World} {b : Nat} : ∀ (o : Nat) (l : List (List UInt8 × JV)), AVO S w b o l → ∃ zs : List (List UInt8 × Value), zs.map (·.1) = l.map (·.1) ∧ ∀ j, j < zs.length → ∀ i v, (encP zs[j]!)[i]? = some v → w.cell? ⟨b, o + j * 2 + i, none⟩ = some v
  | _, [], _ => ⟨[], rfl, fun j hj => absurd hj (Nat.not_lt_zero _)⟩
  | o, (k, u) :: t, h => by
    rw [AVO] at h
    obtain ⟨⟨h0, x, h1, -⟩, h2⟩ := h
    obtain ⟨zs, e, hz⟩ := AVO.zs (o + 2) t h2
    refine ⟨(k, x) :: zs, by rw [List.map_cons, List.map_cons, e], fun j hj i v hv => ?_⟩
    cases j with
    | zero =>
      match i, hv with
      | 0, hv => simp [encP] at hv; rw [← hv]; simpa using h0
      | 1, hv => simp [encP] at hv; rw [← hv]; simpa using h1
      | i + 2, hv => simp [encP] at hv
    | succ j =>
      have := hz j (Nat.lt_of_succ_lt_succ hj) i v (by simpa using hv)
      rw [show o + (j + 1) * 2 + i = o + 2 + j * 2 + i by omega]; exact this
theorem zs_any (zs : List (List UInt8 × Value)) (q : List UInt8) (n : Nat) : (zs.take n).any (fun x => decide (x.1 = q)) = decide (q ∈ (zs.map (·.1)).take n) := by
  rw [Bool.eq_iff_iff, List.any_eq_true, decide_eq_true_iff, ← List.map_take, List.mem_map]
  constructor
  · rintro ⟨x, h1, h2⟩; exact ⟨x, h1, of_decide_eq_true h2⟩
  · rintro ⟨x, h1, h2⟩; exact ⟨x, h1, decide_eq_true h2⟩
theorem eg41 : ∀ args w, (callFunc 41 args).run Tryz.prog w = .ok (.enter 41 args) w := enters_of Tryz.func41 (by kernel_rfl) rfl
theorem c_contains (q : List UInt8) (B b o n c : Nat) (S : Nat → Prop) (l : List (List UInt8 × JV)) (w : World) (hB : B < w.heap.size) (hc : w.cell? ⟨B, 0, none⟩ = some (.string (bs q))) (hb : b < w.heap.size) (hl : AVO S w b o l) (hn : n ≤ l.length) (hn2 : n ≤ 1000000) :
    Calls Tryz.prog 65 #[.slice (some ⟨b, o, none⟩) n c, .func (.func 41) #[] #[.pointer (some ⟨B, 0, none⟩)]] w fun e w' => e = .returned (.bool (decide (q ∈ (l.map (·.1)).take n))) ∧ Below w.heap.size w w' := by
  obtain ⟨zs, e1, hz⟩ := AVO.zs o l hl
  have hlen : zs.length = l.length := by have := congrArg List.length e1; simpa using this
  have h := AnyQ.slices_ContainsFunc layContainsP 2 Tryz.isAgg56 Tryz.sizeOf56 encP (fun _ => rfl) (fun x => decide (x.1 = q)) 41 #[.pointer (some ⟨B, 0, none⟩)] eg41 b o n c zs w (named_pred q B w hB hc) (by omega) (by omega) hb hz
  rw [zs_any, e1] at h
  exact h
theorem c_index (q : List UInt8) (B b o n c : Nat) (S : Nat → Prop) (l : List (List UInt8 × JV)) (w : World) (hB : B < w.heap.size) (hc : w.cell? ⟨B, 0, none⟩ = some (.string (bs q))) (hb : b < w.heap.size) (hl : AVO S w b o l) (hn : n = l.length) (hn2 : n ≤ 1000000) :
    Calls Tryz.prog 25 #[.slice (some ⟨b, o, none⟩) n c, .func (.func 41) #[] #[.pointer (some ⟨B, 0, none⟩)]] w fun e w' => (∃ i : Int, e = .returned (.int .i64 i) ∧ ((i = -1 ∧ ∀ x ∈ l, x.1 ≠ q) ∨ ∃ (j : Nat) (hj : j < l.length), i = (j : Int) ∧ l[j].1 = q ∧ ∀ (m : Nat) (hm : m < j), l[m].1 ≠ q)) ∧ Below w.heap.size w w' := by
  obtain ⟨zs, e1, hz⟩ := AVO.zs o l hl
  have hlen : zs.length = l.length := by have := congrArg List.length e1; simpa using this
  have h := AnyQ.slices_IndexFunc layIndexP 2 Tryz.isAgg56 Tryz.sizeOf56 encP (fun _ => rfl) (fun x => decide (x.1 = q)) 41 #[.pointer (some ⟨B, 0, none⟩)] eg41 b o n c zs w (named_pred q B w hB hc) (by omega) (by omega) hb hz
  refine h.mono fun e w' ⟨he, hb'⟩ => ⟨⟨_, he, ?_⟩, hb'⟩
  have hg : ∀ (j : Nat) (hj : j < l.length), zs[j]!.1 = l[j].1 := fun j hj => by
    have := congrArg (fun x => x[j]?) e1
    simp only [List.getElem?_map] at this
    rw [List.getElem?_eq_getElem (by omega), List.getElem?_eq_getElem hj] at this
    rw [List.getElem!_eq_getElem?_getD, List.getElem?_eq_getElem (by omega)]
    simpa using this
  by_cases hex : ∃ j, ∃ hj : j < l.length, l[j].1 = q
  · have hfind : ∃ j, (∃ hj : j < l.length, l[j].1 = q) ∧ ∀ m, m < j → ¬ ∃ hm : m < l.length, l[m].1 = q := by
      obtain ⟨j0, hj0⟩ := hex
      induction j0 using Nat.strongRecOn with
      | _ j0 ih =>
        by_cases hlt : ∃ m, m < j0 ∧ ∃ hm : m < l.length, l[m].1 = q
        · obtain ⟨m, h1, h2⟩ := hlt; exact ih m h1 h2
        · exact ⟨j0, hj0, fun m hm hh => hlt ⟨m, hm, hh⟩⟩
    obtain ⟨j, ⟨hj, hjq⟩, hmin⟩ := hfind
    refine .inr ⟨j, hj, ?_, hjq, fun m hm e => hmin m hm ⟨by omega, e⟩⟩
    exact Lib.idxBy_hit (fun _ y => decide (y.1 = q)) zs n j default (by omega) (by omega) (decide_eq_true ((hg j hj).trans hjq)) (fun m hm => decide_eq_false fun e => hmin m hm ⟨by omega, (hg m (by omega)).symm.trans e⟩)
  · refine .inl ⟨?_, fun x hx e => ?_⟩
    · exact Lib.idxBy_miss (fun _ y => decide (y.1 = q)) zs n default (fun m hm => decide_eq_false fun e => hex ⟨m, by omega, (hg m (by omega)).symm.trans e⟩)
    · obtain ⟨j, hj, rfl⟩ := List.getElem_of_mem hx
      exact hex ⟨j, hj, e⟩
set_option maxRecDepth 100000 in
/-- a slice that is not there has no pair -/
theorem c_index0 (f : Value) (w : World) : Calls Tryz.prog 25 #[.slice none 0 0, f] w fun e w' => e = .returned (.int .i64 (-1)) ∧ w' = w := by
  go_enter Tryz.func25, Tryz.ntmps25
  go_wp2_with fail
  go_loopg [5, 8] 0 (fun gk _ s8 wx => s8 = .int .i64 0 ∧ wx = w)
  case atStart => exact ⟨rfl, rfl⟩
  case round =>
    obtain ⟨rfl, rfl⟩ := hrel
    go_wp2_with fail
    go_ret
    exact ⟨rfl, rfl⟩
set_option maxRecDepth 100000 in
theorem c_contains0 (f : Value) (w : World) : Calls Tryz.prog 65 #[.slice none 0 0, f] w fun e w' => e = .returned (.bool false) ∧ w' = w := by
  have h := Lib.hid (c_index0 f w)
  go_enter Tryz.func65, Tryz.ntmps65
  go_wp2_with fail
  refine h.out.mono ?_
  rintro e w' ⟨rfl, rfl⟩
  go_wp2_with fail
  go_ret
  exact ⟨rfl, rfl⟩
/-- whether a pair of a name stands in a row of pairs -/
theorem own_contains {S : Nat → Prop} {w : World} {base : Nat} {v : Value} {acc : List (List UInt8 × JV)} (h : OwnO S w base v acc) (hS : ∀ i, S i → i < w.heap.size) (hl : acc.length ≤ 1000000) (q : List UInt8) (B : Nat) (W : World) (hW : Below w.heap.size w W) (hB : B < W.heap.size) (hc : W.cell? ⟨B, 0, none⟩ = some (.string (bs q))) :
    Calls Tryz.prog 65 #[v, .func (.func 41) #[] #[.pointer (some ⟨B, 0, none⟩)]] W fun e w' => e = .returned (.bool (decide (q ∈ acc.map (·.1)))) ∧ Below W.heap.size W w' := by
  obtain ⟨xs, h1, h2⟩ := id h
  rcases id h1.2 with ⟨rfl, h0⟩ | ⟨g, cap, cur, rfl, hb, hgg, hle, -⟩
  · have : acc = [] := List.length_eq_zero_iff.1 h0
    subst this
    refine (c_contains0 _ W).mono ?_
    rintro e w' ⟨rfl, rfl⟩
    exact ⟨rfl, Below.refl _ _⟩
  · have hg := (Array.getElem?_eq_some_iff.1 hgg).1
    have hk := h.keep (w' := W) (S' := S) (fun _ h => h) (fun i hi => hW.block i (hS i hi)) (fun g' hg' => hW.block g' (h1.lt g' hg').2)
    have hv := hk.value (S' := fun _ => True) (fun _ _ => trivial) (fun _ _ => trivial)
    rw [AV] at hv
    obtain ⟨a, c, e, hac, hx⟩ := hv
    have hAVO : AVO (fun _ => True) W g 0 acc := by
      by_cases he : acc = []
      · subst he; rw [AVO]; trivial
      · obtain ⟨b, o, f1, -, f3⟩ := hx he
        subst f1
        simp only [Value.iface.injEq, Value.slice.injEq, Option.some.injEq, Addr.mk.injEq] at e
        obtain ⟨-, ⟨rfl, rfl, -⟩, -⟩ := e
        exact f3
    have := c_contains q B g 0 acc.length cap _ acc W hB hc (Nat.lt_of_lt_of_le hg hW.size) hAVO (Nat.le_refl _) hl
    have ht : List.take acc.length (acc.map (·.1)) = acc.map (·.1) := List.take_of_length_le (by simp)
    rw [ht] at this
    exact this
end Go.Proofs.YtcmkepkeeahioaaGreatDoor
namespace Go.Proofs.YtcmkepkeeahioaaGreatDoor
open Go.RowKit
theorem quo_le (l : List UInt8) : (quoL l).length ≤ 6 * l.length + 2 := by
  have := flat_len l
  unfold quoL; rw [List.length_cons, List.length_append]; simp only [List.length_cons, List.length_nil]; omega
theorem valL_drop (kids : List ND) (i : Nat) (hk : i < kids.length) : valL (kids.drop i) = valN kids[i] :: valL (kids.drop (i + 1)) := by
  rw [List.drop_eq_getElem_cons hk, valL]
theorem valO_drop (names : List ByteArray) (kids : List ND) (i : Nat) (hn : i < names.length) (hk : i < kids.length) : valO (names.drop i) (kids.drop i) = (names[i].data.toList, valN kids[i]) :: valO (names.drop (i + 1)) (kids.drop (i + 1)) := by
  rw [List.drop_eq_getElem_cons hn, List.drop_eq_getElem_cons hk, valO]
theorem valO_nil (l : List ND) : valO [] l = [] := by
  cases l with
  | nil => rw [valO]
  | cons v t => rw [valO]; intro h; cases h
theorem valO_nil2 (l : List ByteArray) : valO l [] = [] := by
  cases l with
  | nil => rw [valO]
  | cons v t => rw [valO]
theorem valO_len : ∀ (names : List ByteArray) (kids : List ND), names.length = kids.length → (valO names kids).length = kids.length
  | [], [], _ => by rw [valO]; rfl
  | [], v :: t, h => by simp at h
  | a :: u, [], h => by simp at h
  | a :: u, v :: t, h => by rw [valO, List.length_cons, List.length_cons, valO_len u t (by simpa using h)]
theorem valL_get (kids : List ND) (j : Nat) (hj : j < kids.length) : (valL kids)[j]? = some (valN kids[j]) := by
  have h := valL_drop kids j hj
  have : ∀ (l : List ND) (k : Nat), valL (l.drop k) = (valL l).drop k := by
    intro l
    induction l with
    | nil => intro k; rw [List.drop_nil, valL, List.drop_nil]
    | cons a t ih => intro k; cases k with
      | zero => rfl
      | succ k => rw [List.drop_succ_cons, ih, valL, List.drop_succ_cons]
  rw [this] at h
  have h2 := congrArg (fun l => l[0]?) h
  simpa using h2
theorem valO_get (names : List ByteArray) (kids : List ND) (j : Nat) (hn : j < names.length) (hj : j < kids.length) : (valO names kids)[j]? = some (names[j].data.toList, valN kids[j]) := by
  have h := valO_drop names kids j hn hj
  have : ∀ (a : List ByteArray) (l : List ND) (k : Nat), valO (a.drop k) (l.drop k) = (valO a l).drop k := by
    intro a
    induction a with
    | nil => intro l k; rw [List.drop_nil, valO_nil, valO_nil, List.drop_nil]
    | cons x u ih => intro l k; cases l with
      | nil => rw [List.drop_nil, valO_nil2, valO_nil2, List.drop_nil]
      | cons v t => cases k with
        | zero => rfl
        | succ k => rw [List.drop_succ_cons, List.drop_succ_cons, ih, valO, List.drop_succ_cons]
  rw [this] at h
  have h2 := congrArg (fun l => l[0]?) h
  simpa using h2
theorem itoa_le (n : Int) (h : okNum n = true) : (Go.Lib.itoa n).length ≤ 21 := by
  rw [itoa_shape]
  obtain ⟨h1, h2⟩ := (okNum_iff n).1 h
  have : (Go.Lib.decDigits n.natAbs).length ≤ 20 := by rw [Go.Lib.decDigits_length]; exact Go.Lib.nDigits_le20 _ (by omega)
  rw [List.length_append]
  split <;> simp <;> omega
mutual
/-- a node's JSON is not longer than so many bytes a part -/
theorem json_len : ∀ (v : ND) (d : Nat), goodN v → chk (valN v) d = 0 → (json (valN v)).length + 1810 ≤ 4000 * sizeN v
  | .mk k n s names kids, d, hg, hc => by
    rw [goodN] at hg
    obtain ⟨g1, g2, g3, g4, g5⟩ := hg
    rw [sizeN]
    rw [valN] at hc ⊢
    by_cases k0 : k = 0
    · rw [if_pos k0, json]; simp; omega
    rw [if_neg k0] at hc ⊢
    by_cases k1 : k = 1
    · rw [if_pos k1, json]; simp; omega
    rw [if_neg k1] at hc ⊢
    by_cases k2 : k = 2
    · rw [if_pos k2, json]; simp; omega
    rw [if_neg k2] at hc ⊢
    by_cases k3 : k = 3
    · rw [if_pos k3] at hc ⊢
      rw [json]
      rw [chk] at hc
      have ho : okNum n = true := by
        by_cases e : okNum n = true
        · exact e
        · rw [if_neg e] at hc; exact absurd hc (by decide)
      have := itoa_le n ho
      omega
    rw [if_neg k3] at hc ⊢
    by_cases k4 : k = 4
    · rw [if_pos k4, json]
      have := quo_le s.data.toList
      rw [size_len] at this
      omega
    rw [if_neg k4] at hc ⊢
    by_cases k5 : k = 5
    · rw [if_pos k5] at hc ⊢
      rw [json]
      rw [chk] at hc
      split at hc
      · exact absurd hc (by decide)
      split at hc
      · exact absurd hc (by decide)
      have := jsonL_len kids true (d + 1) g5 hc
      simp
      omega
    rw [if_neg k5] at hc ⊢
    by_cases k6 : k = 6
    · rw [if_pos k6] at hc ⊢
      rw [json]
      rw [chk] at hc
      split at hc
      · exact absurd hc (by decide)
      split at hc
      · exact absurd hc (by decide)
      have := jsonO_len names kids true (d + 1) [] g4 g5 hc
      simp
      omega
    rw [if_neg k6]
    rw [json]
    simp
    omega
theorem jsonL_len : ∀ (l : List ND) (first : Bool) (d : Nat), goodL l → chkL (valL l) d = 0 → (jsonL first (valL l)).length ≤ 4000 * sizeL l
  | [], first, d, _, _ => by rw [valL, jsonL]; simp
  | v :: t, first, d, hg, hc => by
    rw [goodL] at hg
    rw [valL] at hc ⊢
    obtain ⟨c1, c2⟩ := chkL_cons _ _ _ hc
    have h1 := json_len v d hg.1 c1
    have h2 := jsonL_len t false d hg.2 c2
    rw [jsonL, sizeL]
    split <;> simp <;> omega
theorem jsonO_len : ∀ (names : List ByteArray) (l : List ND) (first : Bool) (d : Nat) (prev : List (List UInt8)), (∀ x ∈ names, x.size ≤ 300) → goodL l → chkO prev (valO names l) d = 0 → (jsonO first (valO names l)).length ≤ 4000 * sizeL l
  | [], l, first, d, prev, _, _, _ => by rw [valO_nil, jsonO]; simp
  | a :: u, [], first, d, prev, _, _, _ => by rw [valO_nil2, jsonO]; simp
  | a :: u, v :: t, first, d, prev, hn, hg, hc => by
    rw [goodL] at hg
    rw [valO] at hc ⊢
    obtain ⟨c0, c3, c1, c2⟩ := chkO_cons _ _ _ _ _ hc
    have h1 := json_len v d hg.1 c1
    have h2 := jsonO_len u t false d _ (fun x hx => hn x (List.mem_cons_of_mem _ hx)) hg.2 c2
    have h3 := quo_le a.data.toList
    have h4 := hn a (List.mem_cons_self ..)
    rw [size_len] at h3
    rw [jsonO, sizeL]
    split <;> simp <;> omega
end
end Go.Proofs.YtcmkepkeeahioaaGreatDoor
namespace Go.Proofs.YtcmkepkeeahioaaGreatDoor
open Go.RowKit
mutual
/-- a value whose texts and lists are not too long -/
def smallJ : JV → Prop
  | .num n => -9223372036854775808 ≤ n ∧ n ≤ 9223372036854775807
  | .txt s => s.length ≤ 100000
  | .lst l => l.length ≤ 100000 ∧ smallL l
  | .obj l => l.length ≤ 100000 ∧ smallO l
  | .nul => True
  | .boo _ => True
  | .bad => True
def smallL : List JV → Prop
  | [] => True
  | v :: t => smallJ v ∧ smallL t
def smallO : List (List UInt8 × JV) → Prop
  | [] => True
  | (k, v) :: t => k.length ≤ 100000 ∧ smallJ v ∧ smallO t
end
theorem smallL_get : ∀ (l : List JV), smallL l → ∀ (j : Nat) (hj : j < l.length), smallJ l[j]
  | [], _, j, hj => absurd hj (Nat.not_lt_zero _)
  | v :: t, h, j, hj => by
    rw [smallL] at h
    cases j with
    | zero => exact h.1
    | succ j => exact smallL_get t h.2 j (Nat.lt_of_succ_lt_succ hj)
theorem smallO_get : ∀ (l : List (List UInt8 × JV)), smallO l → ∀ (j : Nat) (hj : j < l.length), l[j].1.length ≤ 100000 ∧ smallJ l[j].2
  | [], _, j, hj => absurd hj (Nat.not_lt_zero _)
  | (k, v) :: t, h, j, hj => by
    rw [smallO] at h
    cases j with
    | zero => exact ⟨h.1, h.2.1⟩
    | succ j => exact smallO_get t h.2.2 j (Nat.lt_of_succ_lt_succ hj)
theorem smallL_snoc : ∀ (l : List JV) (v : JV), smallL l → smallJ v → smallL (l ++ [v])
  | [], v, _, h => by rw [List.nil_append, smallL, smallL]; exact ⟨h, trivial⟩
  | a :: t, v, h1, h => by rw [smallL] at h1; rw [List.cons_append, smallL]; exact ⟨h1.1, smallL_snoc t v h1.2 h⟩
theorem smallO_snoc : ∀ (l : List (List UInt8 × JV)) (k : List UInt8) (v : JV), smallO l → k.length ≤ 100000 → smallJ v → smallO (l ++ [(k, v)])
  | [], k, v, _, h0, h => by rw [List.nil_append, smallO, smallO]; exact ⟨h0, h, trivial⟩
  | (a, b) :: t, k, v, h1, h0, h => by rw [smallO] at h1; rw [List.cons_append, smallO]; exact ⟨h1.1, h1.2.1, smallO_snoc t k v h1.2.2 h0 h⟩
mutual
/-- the numbers of a node are not too great -/
def wfI : ND → Prop
  | .mk _ n _ _ kids => n ≤ 9223372036854775807 ∧ wfIL kids
def wfIL : List ND → Prop
  | [] => True
  | v :: t => wfI v ∧ wfIL t
end
mutual
/-- a node that is light is a value within bounds -/
theorem small_node : ∀ (v : ND), goodN v → sizeN v ≤ 100000 → wfI v → smallJ (valN v)
  | .mk k n s names kids, hg, hz, hw0 => by
    rw [wfI] at hw0
    obtain ⟨hn, hw⟩ := hw0
    rw [goodN] at hg
    obtain ⟨g1, g2, g3, g4, g5⟩ := hg
    rw [sizeN] at hz
    rw [valN]
    by_cases k0 : k = 0
    · rw [if_pos k0, smallJ]; trivial
    rw [if_neg k0]
    by_cases k1 : k = 1
    · rw [if_pos k1, smallJ]; trivial
    rw [if_neg k1]
    by_cases k2 : k = 2
    · rw [if_pos k2, smallJ]; trivial
    rw [if_neg k2]
    by_cases k3 : k = 3
    · rw [if_pos k3, smallJ]; exact ⟨by omega, hn⟩
    rw [if_neg k3]
    by_cases k4 : k = 4
    · rw [if_pos k4, smallJ, size_len]; omega
    rw [if_neg k4]
    have hl := sizeL_len kids
    by_cases k5 : k = 5
    · rw [if_pos k5, smallJ, valL_len]; exact ⟨by omega, small_list kids g5 (by omega) hw⟩
    rw [if_neg k5]
    by_cases k6 : k = 6
    · rw [if_pos k6, smallJ, valO_len names kids (g2 k6)]; exact ⟨by omega, small_pairs names kids g4 g5 (by omega) hw⟩
    rw [if_neg k6, smallJ]; trivial
theorem small_list : ∀ (l : List ND), goodL l → sizeL l ≤ 100000 → wfIL l → smallL (valL l)
  | [], _, _, _ => by rw [valL, smallL]; trivial
  | v :: t, hg, hz, hw => by
    rw [goodL] at hg
    rw [sizeL] at hz
    rw [valL, smallL]
    rw [wfIL] at hw
    exact ⟨small_node v hg.1 (by omega) hw.1, small_list t hg.2 (by omega) hw.2⟩
theorem small_pairs : ∀ (names : List ByteArray) (l : List ND), (∀ x ∈ names, x.size ≤ 300) → goodL l → sizeL l ≤ 100000 → wfIL l → smallO (valO names l)
  | [], l, _, _, _, _ => by rw [valO_nil, smallO]; trivial
  | a :: u, [], _, _, _, _ => by rw [valO_nil2, smallO]; trivial
  | a :: u, v :: t, hn, hg, hz, hw => by
    rw [goodL] at hg
    rw [sizeL] at hz
    rw [valO, smallO, size_len]
    rw [wfIL] at hw
    have h4 := hn a (List.mem_cons_self ..)
    exact ⟨by omega, small_node v hg.1 (by omega) hw.1, small_pairs u t (fun x hx => hn x (List.mem_cons_of_mem _ hx)) hg.2 (by omega) hw.2⟩
end
end Go.Proofs.YtcmkepkeeahioaaGreatDoor
namespace Go.Proofs.YtcmkepkeeahioaaGreatDoor
open Go.RowKit

/-- a code's bytes; none, if it is no rune -/
def refB (c : Nat) : List UInt8 := if c < 55296 ∨ (57343 < c ∧ c ≤ 1114111) then Go.Lib.encodeRune (c : Nat) else []
/-- what the first byte of n counts -/
def leadN (n b : Nat) : Nat := if n = 2 then b % 32 else if n = 3 then b % 16 else if n = 4 then b % 8 else b
def codeN (l : List UInt8) (n : Nat) : Nat → Nat
  | 0 => leadN n (l.getD 0 0).toNat
  | i + 1 => 64 * codeN l n i + (l.getD (i + 1) 0).toNat % 64
theorem codeN_le (l : List UInt8) (n : Nat) : ∀ i, codeN l n i < 256 * 64 ^ i := by
  intro i
  induction i with
  | zero =>
    have := (l.getD 0 0).toNat_lt
    show leadN n _ < 256 * 1
    unfold leadN; split
    · omega
    · split
      · omega
      · split <;> omega
  | succ i ih =>
    show 64 * codeN l n i + _ % 64 < _
    rw [Nat.pow_succ]; omega
/-- the bytes of the rune with which a text begins -/
def refR (l : List UInt8) : List UInt8 := if l = [] ∨ badR l then [] else l.take (rwd l)
theorem rwd_four (l : List UInt8) : rwd l ≤ 4 := by
  unfold rwd
  rw [Go.Lib.decodeL_N]
  rcases Go.Lib.decodeN_shape l.length (l.getD 0 0).toNat (l.getD 1 0).toNat (l.getD 2 0).toNat (l.getD 3 0).toNat with ⟨c, e⟩ | ⟨c1, c2, c3, cv, e⟩ | ⟨c1, c2, c3, c4, cv, cs, e⟩ | ⟨c1, c2, c3, c4, c5, cv, cw, e⟩ | e <;> rw [e] <;> simp
theorem rune_hit (l : List UInt8) (h : l ≠ []) (hb : ¬ badR l) : refB (codeN l (rwd l) (rwd l - 1)) = l.take (rwd l) := by
  have he := Go.Lib.encode_decode l h hb
  have hb' := hb
  unfold badR at hb'
  have : (Go.Lib.decodeL l).1 = codeN l (rwd l) (rwd l - 1) ∧ ((Go.Lib.decodeL l).1 < 55296 ∨ (57343 < (Go.Lib.decodeL l).1 ∧ (Go.Lib.decodeL l).1 ≤ 1114111)) := by
    unfold rwd
    rw [Go.Lib.decodeL_N] at hb' ⊢
    rcases Go.Lib.decodeN_shape l.length (l.getD 0 0).toNat (l.getD 1 0).toNat (l.getD 2 0).toNat (l.getD 3 0).toNat with ⟨c, e⟩ | ⟨c1, c2, c3, cv, e⟩ | ⟨c1, c2, c3, c4, cv, cs, e⟩ | ⟨c1, c2, c3, c4, c5, cv, cw, e⟩ | e
    · rw [e]; exact ⟨rfl, .inl (show _ < 55296 by omega)⟩
    · rw [e]
      refine ⟨?_, .inl (show _ < 55296 by omega)⟩
      show _ = 64 * ((l.getD 0 0).toNat % 32) + (l.getD 1 0).toNat % 64
      show (l.getD 0 0).toNat % 32 * 64 + (l.getD 1 0).toNat % 64 = _
      omega
    · rw [e]
      refine ⟨?_, show _ < 55296 ∨ _ by omega⟩
      show (l.getD 0 0).toNat % 16 * 4096 + (l.getD 1 0).toNat % 64 * 64 + (l.getD 2 0).toNat % 64 = 64 * (64 * ((l.getD 0 0).toNat % 16) + (l.getD 1 0).toNat % 64) + (l.getD 2 0).toNat % 64
      omega
    · rw [e]
      refine ⟨?_, .inr ⟨show 57343 < _ by omega, show _ ≤ 1114111 by omega⟩⟩
      show (l.getD 0 0).toNat % 8 * 262144 + (l.getD 1 0).toNat % 64 * 4096 + (l.getD 2 0).toNat % 64 * 64 + (l.getD 3 0).toNat % 64 = 64 * (64 * (64 * ((l.getD 0 0).toNat % 8) + (l.getD 1 0).toNat % 64) + (l.getD 2 0).toNat % 64) + (l.getD 3 0).toNat % 64
      omega
    · rw [e] at hb'; exact absurd ⟨rfl, rfl⟩ hb'
  obtain ⟨e1, e2⟩ := this
  unfold refB
  rw [← e1, if_pos e2]
  exact he
theorem rune_miss (l : List UInt8) (c n : Nat) (hn : 1 ≤ n) (hl : n ≤ l.length) (h : refB c = l.take n) : l ≠ [] ∧ ¬ badR l ∧ rwd l = n := by
  have hlen : (l.take n).length = n := by rw [List.length_take]; omega
  have hne : l ≠ [] := by intro e; rw [e] at hl; simp at hl; omega
  unfold refB at h
  split at h
  · rename_i hg
    have hd := enc_dec c hg (l.drop n)
    rw [show Go.Lib.encodeRune (c : Int) = l.take n from h, List.take_append_drop, hlen] at hd
    have hw : rwd l = n := by unfold rwd; rw [hd]
    refine ⟨hne, fun hb => ?_, hw⟩
    unfold badR at hb
    rw [hd] at hb
    have := enc_three c hb.1
    rw [show Go.Lib.encodeRune (c : Int) = l.take n from h, hlen] at this
    have h2 : n = 1 := hb.2
    omega
  · have := congrArg List.length h
    rw [hlen] at this
    simp at this
    omega
theorem refR_hit (l : List UInt8) (n : Nat) (hn : 1 ≤ n) (hl : n ≤ l.length) (h : refB (codeN l n (n - 1)) = l.take n) : refR l = l.take n := by
  obtain ⟨h1, h2, h3⟩ := rune_miss l _ n hn hl h
  unfold refR
  rw [if_neg (fun h => h.elim h1 h2), h3]
theorem refR_none (l : List UInt8) (h : ∀ n, 1 ≤ n → n ≤ 4 → n ≤ l.length → refB (codeN l n (n - 1)) ≠ l.take n) : refR l = [] := by
  unfold refR
  by_cases hc : l = [] ∨ badR l
  · rw [if_pos hc]
  · exfalso
    have h1 : l ≠ [] := fun e => hc (.inl e)
    have h2 : ¬ badR l := fun e => hc (.inr e)
    exact h (rwd l) (rwd_pos l) (rwd_four l) (rwd_le l h1) (rune_hit l h1 h2)
theorem refR_step (l : List UInt8) (h : l ≠ []) : (badR l ∧ refR l = []) ∨ (¬ badR l ∧ refR l = l.take (rwd l) ∧ refR l ≠ [] ∧ (refR l).length = rwd l) := by
  unfold refR
  by_cases hb : badR l
  · exact .inl ⟨hb, if_pos (.inr hb)⟩
  · rw [if_neg (fun e => e.elim h hb)]
    have h1 := rwd_pos l
    have h2 := rwd_le l h
    have hlen : (l.take (rwd l)).length = rwd l := by rw [List.length_take]; omega
    exact .inr ⟨hb, rfl, by intro e; rw [e] at hlen; simp at hlen; omega, hlen⟩
end Go.Proofs.YtcmkepkeeahioaaGreatDoor
