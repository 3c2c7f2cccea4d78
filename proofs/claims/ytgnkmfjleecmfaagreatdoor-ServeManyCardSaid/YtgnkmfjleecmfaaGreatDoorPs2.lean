/- Contracts of the library's functions at this translation, laid by the kit's shelf tool; those that the claim uses. What the helpers of package fields, and of its reference, return. Plain laws: numbers of digits (no program in sight). The number of the table of powers. What the library's variables hold, carried along a call. What Number and Digits of package fields return. Plain functions: ranges of bytes (no program in sight). Regions that draw their order, whose operations read and whose callees may lay blocks of their own: one walk. -/
import Derived.Test.YtgnkmfjleecmfaaGreatDoorPs1
import Derived.Shelf.Strings.Builder1
import Derived.Shelf.Strings.Builder2
import Derived.Shelf.Strings.Trim
import Derived.Shelf.Small.Utf8
import Derived.Shelf.Small.Strs
import Derived.Shelf.Small.Wraps
import Derived.Shelf.Strings.BuilderF
import Derived.Shelf.Strings.BuilderK
import Derived.Shelf.Strings.BuilderRune
import Derived.Shelf.Strings.Builder2Cap
import Derived.Shelf.Strconv.Atoi
import Derived.Shelf.Strconv.Itoa0
import Derived.Shelf.Strconv.Itoa1
import Derived.Shelf.LaysM
import Derived.Shelf.Strconv.Itoa2
import Derived.Shelf.Strconv.Itoa3
import Derived.Shelf.Strconv.AtoiErrFast
import Derived.Shelf.Strconv.ParseIntEmpty
import Derived.Shelf.Strconv.AtoiFail
import Derived.Shelf.Strconv.Clone
import Derived.Shelf.Strconv.SyntaxError
import Derived.Shelf.LaysC
import Derived.Shelf.Strconv.ToError
import Derived.Shelf.Strconv.Lower
import Derived.Shelf.Strconv.ParseUint10
import Derived.Shelf.Strconv.ParseUint10Empty
import Derived.Shelf.Strconv.ParseUint10Any
import Derived.Shelf.Strconv.ParseInt10
import Derived.Shelf.Strconv.AtoiLong
import Derived.Shelf.Strconv.AtoiInnerAll
import Derived.Shelf.Strconv.RangeError
import Derived.Shelf.Strconv.ToErrorRange
import Derived.Shelf.Strconv.AtoiAll
import Derived.Shelf.Strings.Search1
import Derived.Shelf.Strings.Search2
import Derived.Shelf.Strings.Search3
import Derived.Shelf.Strings.Cut
import Derived.Shelf.Strings.Count
import Derived.Shelf.Strings.Shaped
import Derived.Shelf.GgClosure.StringsIndexFunc
import Derived.Ground.GgwProg
import Derived.Shelf.GgClosure.StringsIndexFuncTop
import Derived.Shelf.Strings.Prefix
import Derived.Shelf.Strings.Split
import Derived.Shelf.Strings.SplitShaped
import Derived.Shelf.Strings.Runes
import Derived.Shelf.Strings.AsciiSet
import Derived.Shelf.Unicode.DecodeSlow
import Derived.Shelf.Unicode.DecodeAny
import Derived.Shelf.Unicode.DecodeLast
import Derived.Shelf.Strings.MapAny
import Derived.Shelf.Strings.FuncGrows
import Derived.Shelf.Strings.BuilderCap
import Derived.Shelf.Strings.MapGrows
import Derived.Test.YtgnkmfjleecmfaaGreatDoorProg
import Derived.Lib.AtoiAll
import Derived.Lib.ItoaNum
import GoSem.Claims
import Derived.KernelRfl
import Derived.Lib.LaidTab
import Derived.WalkSmall
import Derived.Sort.Grow
import Derived.Lib.AtoiErrMem
import Derived.Lib.IndexMore
import Derived.BigQuiet
set_option linter.unusedVariables false
namespace Go.Proofs
open Go.Shelf
def Tryz.lays162_ren : Go.Shelf.Ren := ⟨fun | 162 => 122 | 232 => 152 | 227 => 153 | 234 => 155 | 236 => 157 | 228 => 180 | 271 => 182 | 151 => 181 | 120 => 204 | 197 => 110 | 152 => 203 | 260 => 144 | 137 => 222 | 119 => 223 | 224 => 108 | 225 => 107 | 217 => 106 | 266 => 142 | n => n, fun | 9 => 9 | 4 => 4 | 3 => 3 | 5 => 5 | 117 => 233 | 116 => 232 | 0 => 0 | 124 => 236 | 21 => 21 | 105 => 182 | 46 => 181 | 119 => 220 | 139 => 260 | 138 => 259 | n => n, fun | 3 => 1 | 4 => 2 | n => n⟩
theorem Tryz.lays162 : Go.Proofs.Lays.n162 Tryz.prog Tryz.lays162_ren := {
  mixed := by kernel_rfl
  f119 := Tryz.func223.trans (congrArg some (by kernel_rfl))
  f120 := Tryz.func204.trans (congrArg some (by kernel_rfl))
  f137 := Tryz.func222.trans (congrArg some (by kernel_rfl))
  f151 := Tryz.func181.trans (congrArg some (by kernel_rfl))
  f152 := Tryz.func203.trans (congrArg some (by kernel_rfl))
  f162 := Tryz.func122.trans (congrArg some (by kernel_rfl))
  f197 := Tryz.func110.trans (congrArg some (by kernel_rfl))
  f217 := Tryz.func106.trans (congrArg some (by kernel_rfl))
  f224 := Tryz.func108.trans (congrArg some (by kernel_rfl))
  f225 := Tryz.func107.trans (congrArg some (by kernel_rfl))
  f227 := Tryz.func153.trans (congrArg some (by kernel_rfl))
  f228 := Tryz.func180.trans (congrArg some (by kernel_rfl))
  f232 := Tryz.func152.trans (congrArg some (by kernel_rfl))
  f234 := Tryz.func155.trans (congrArg some (by kernel_rfl))
  f236 := Tryz.func157.trans (congrArg some (by kernel_rfl))
  f260 := Tryz.func144.trans (congrArg some (by kernel_rfl))
  f266 := Tryz.func142.trans (congrArg some (by kernel_rfl))
  f271 := Tryz.func182.trans (congrArg some (by kernel_rfl))
  t0 := Tryz.underlying0
  a0 := Tryz.isAgg0
  z0 := Tryz.sizeOf0
  v0 := Tryz.zeroValue0
  t3 := Tryz.underlying3
  a3 := Tryz.isAgg3
  z3 := Tryz.sizeOf3
  v3 := Tryz.zeroValue3
  t4 := Tryz.underlying4
  a4 := Tryz.isAgg4
  z4 := Tryz.sizeOf4
  v4 := Tryz.zeroValue4
  t5 := Tryz.underlying5
  a5 := Tryz.isAgg5
  z5 := Tryz.sizeOf5
  v5 := Tryz.zeroValue5
  t9 := Tryz.underlying9
  a9 := Tryz.isAgg9
  z9 := Tryz.sizeOf9
  v9 := Tryz.zeroValue9
  t21 := Tryz.underlying21
  a21 := Tryz.isAgg21
  z21 := Tryz.sizeOf21
  v21 := Tryz.zeroValue21
  t46 := Tryz.underlying181
  a46 := Tryz.isAgg181
  z46 := Tryz.sizeOf181
  v46 := Tryz.zeroValue181
  t105 := Tryz.underlying182
  a105 := Tryz.isAgg182
  z105 := Tryz.sizeOf182
  v105 := Tryz.zeroValue182
  t116 := Tryz.underlying232
  a116 := Tryz.isAgg232
  z116 := Tryz.sizeOf232
  t117 := Tryz.underlying233
  a117 := Tryz.isAgg233
  z117 := Tryz.sizeOf233
  v117 := Tryz.zeroValue233
  t119 := Tryz.underlying220
  a119 := Tryz.isAgg220
  z119 := Tryz.sizeOf220
  t124 := Tryz.underlying236
  a124 := Tryz.isAgg236
  z124 := Tryz.sizeOf236
  v124 := Tryz.zeroValue236
  t138 := Tryz.underlying259
  a138 := Tryz.isAgg259
  z138 := Tryz.sizeOf259
  v138 := Tryz.zeroValue259
  t139 := Tryz.underlying260
  a139 := Tryz.isAgg260
  z139 := Tryz.sizeOf260
  v139 := Tryz.zeroValue260
  g3 := by kernel_rfl
  g4 := by kernel_rfl }
def Tryz.lays160_ren : Go.Shelf.Ren := ⟨fun | 160 => 121 | 232 => 152 | 231 => 151 | 227 => 153 | 234 => 155 | 233 => 154 | 236 => 157 | 235 => 156 | 228 => 180 | 271 => 182 | 151 => 181 | 197 => 110 | 120 => 204 | 152 => 203 | 260 => 144 | 137 => 222 | 119 => 223 | 224 => 108 | 225 => 107 | 217 => 106 | 266 => 142 | n => n, fun | 9 => 9 | 4 => 4 | 3 => 3 | 5 => 5 | 117 => 233 | 116 => 232 | 0 => 0 | 124 => 236 | 21 => 21 | 105 => 182 | 46 => 181 | 119 => 220 | 139 => 260 | 138 => 259 | n => n, fun | 3 => 1 | 4 => 2 | n => n⟩
theorem Tryz.lays160 : Go.Proofs.Lays.n160 Tryz.prog Tryz.lays160_ren := {
  mixed := by kernel_rfl
  f119 := Tryz.func223.trans (congrArg some (by kernel_rfl))
  f120 := Tryz.func204.trans (congrArg some (by kernel_rfl))
  f137 := Tryz.func222.trans (congrArg some (by kernel_rfl))
  f151 := Tryz.func181.trans (congrArg some (by kernel_rfl))
  f152 := Tryz.func203.trans (congrArg some (by kernel_rfl))
  f160 := Tryz.func121.trans (congrArg some (by kernel_rfl))
  f197 := Tryz.func110.trans (congrArg some (by kernel_rfl))
  f217 := Tryz.func106.trans (congrArg some (by kernel_rfl))
  f224 := Tryz.func108.trans (congrArg some (by kernel_rfl))
  f225 := Tryz.func107.trans (congrArg some (by kernel_rfl))
  f227 := Tryz.func153.trans (congrArg some (by kernel_rfl))
  f228 := Tryz.func180.trans (congrArg some (by kernel_rfl))
  f231 := Tryz.func151.trans (congrArg some (by kernel_rfl))
  f232 := Tryz.func152.trans (congrArg some (by kernel_rfl))
  f233 := Tryz.func154.trans (congrArg some (by kernel_rfl))
  f234 := Tryz.func155.trans (congrArg some (by kernel_rfl))
  f235 := Tryz.func156.trans (congrArg some (by kernel_rfl))
  f236 := Tryz.func157.trans (congrArg some (by kernel_rfl))
  f260 := Tryz.func144.trans (congrArg some (by kernel_rfl))
  f266 := Tryz.func142.trans (congrArg some (by kernel_rfl))
  f271 := Tryz.func182.trans (congrArg some (by kernel_rfl))
  t0 := Tryz.underlying0
  a0 := Tryz.isAgg0
  z0 := Tryz.sizeOf0
  v0 := Tryz.zeroValue0
  t3 := Tryz.underlying3
  a3 := Tryz.isAgg3
  z3 := Tryz.sizeOf3
  v3 := Tryz.zeroValue3
  t4 := Tryz.underlying4
  a4 := Tryz.isAgg4
  z4 := Tryz.sizeOf4
  v4 := Tryz.zeroValue4
  t5 := Tryz.underlying5
  a5 := Tryz.isAgg5
  z5 := Tryz.sizeOf5
  v5 := Tryz.zeroValue5
  t9 := Tryz.underlying9
  a9 := Tryz.isAgg9
  z9 := Tryz.sizeOf9
  v9 := Tryz.zeroValue9
  t21 := Tryz.underlying21
  a21 := Tryz.isAgg21
  z21 := Tryz.sizeOf21
  v21 := Tryz.zeroValue21
  t46 := Tryz.underlying181
  a46 := Tryz.isAgg181
  z46 := Tryz.sizeOf181
  v46 := Tryz.zeroValue181
  t105 := Tryz.underlying182
  a105 := Tryz.isAgg182
  z105 := Tryz.sizeOf182
  v105 := Tryz.zeroValue182
  t116 := Tryz.underlying232
  a116 := Tryz.isAgg232
  z116 := Tryz.sizeOf232
  t117 := Tryz.underlying233
  a117 := Tryz.isAgg233
  z117 := Tryz.sizeOf233
  v117 := Tryz.zeroValue233
  t119 := Tryz.underlying220
  a119 := Tryz.isAgg220
  z119 := Tryz.sizeOf220
  t124 := Tryz.underlying236
  a124 := Tryz.isAgg236
  z124 := Tryz.sizeOf236
  v124 := Tryz.zeroValue236
  t138 := Tryz.underlying259
  a138 := Tryz.isAgg259
  z138 := Tryz.sizeOf259
  v138 := Tryz.zeroValue259
  t139 := Tryz.underlying260
  a139 := Tryz.isAgg260
  z139 := Tryz.sizeOf260
  v139 := Tryz.zeroValue260
  g3 := by kernel_rfl
  g4 := by kernel_rfl }
def Tryz.lays103_ren : Go.Shelf.Ren := ⟨fun | 103 => 127 | 210 => 160 | 206 => 41 | n => n, fun | 9 => 9 | 4 => 4 | 24 => 192 | 3 => 3 | n => n, fun | n => n⟩
theorem Tryz.lays103 : Go.Proofs.Lays.n103 Tryz.prog Tryz.lays103_ren := {
  mixed := by kernel_rfl
  f103 := Tryz.func127.trans (congrArg some (by kernel_rfl))
  f206 := Tryz.func41.trans (congrArg some (by kernel_rfl))
  f210 := Tryz.func160.trans (congrArg some (by kernel_rfl))
  t3 := Tryz.underlying3
  a3 := Tryz.isAgg3
  z3 := Tryz.sizeOf3
  v3 := Tryz.zeroValue3
  t4 := Tryz.underlying4
  a4 := Tryz.isAgg4
  z4 := Tryz.sizeOf4
  v4 := Tryz.zeroValue4
  t9 := Tryz.underlying9
  a9 := Tryz.isAgg9
  z9 := Tryz.sizeOf9
  v9 := Tryz.zeroValue9
  t24 := Tryz.underlying192
  a24 := Tryz.isAgg192
  z24 := Tryz.sizeOf192
  v24 := Tryz.zeroValue192 }
open Go.RowKit in
theorem Tryz.strings_CutPrefix (s p : ByteArray) (w : World) :
    Calls Tryz.prog 127 #[.string s, .string p] w fun e w' => e = .returned (.tuple #[.string ⟨(Lib.trimPrefix s.data.toList p.data.toList).toArray⟩, .bool (Lib.hasPrefix s.data.toList p.data.toList)]) ∧ w' = w := Any.strings_CutPrefix Tryz.lays103 s p w
def Tryz.lays172_ren : Go.Shelf.Ren := ⟨fun | 172 => 129 | 244 => 162 | 245 => 163 | 247 => 183 | 279 => 184 | 280 => 185 | 281 => 186 | 282 => 187 | 287 => 205 | 316 => 206 | 171 => 115 | 205 => 207 | 321 => 224 | 322 => 225 | 243 => 148 | 246 => 178 | 283 => 199 | 284 => 200 | 285 => 201 | 286 => 202 | 129 => 218 | 317 => 217 | 318 => 219 | 319 => 220 | 320 => 221 | 337 => 226 | 338 => 227 | n => n, fun | 9 => 9 | 3 => 3 | 75 => 112 | 76 => 113 | 4 => 4 | 5 => 5 | 167 => 265 | 37 => 102 | 0 => 0 | 85 => 266 | 2 => 2 | 168 => 268 | 53 => 282 | 175 => 288 | 46 => 181 | 210 => 291 | 127 => 166 | 145 => 304 | 143 => 302 | 21 => 21 | 171 => 281 | 173 => 285 | 212 => 299 | 51 => 130 | 20 => 20 | 213 => 300 | 232 => 306 | 233 => 307 | 80 => 110 | n => n, fun | 15 => 3 | 16 => 4 | 17 => 5 | 18 => 6 | 19 => 7 | n => n⟩
theorem Tryz.lays172 : Go.Proofs.Lays.n172 Tryz.prog Tryz.lays172_ren := {
  mixed := by kernel_rfl
  f129 := Tryz.func218.trans (congrArg some (by kernel_rfl))
  f171 := Tryz.func115.trans (congrArg some (by kernel_rfl))
  f172 := Tryz.func129.trans (congrArg some (by kernel_rfl))
  f205 := Tryz.func207.trans (congrArg some (by kernel_rfl))
  f243 := Tryz.func148.trans (congrArg some (by kernel_rfl))
  f244 := Tryz.func162.trans (congrArg some (by kernel_rfl))
  f245 := Tryz.func163.trans (congrArg some (by kernel_rfl))
  f246 := Tryz.func178.trans (congrArg some (by kernel_rfl))
  f247 := Tryz.func183.trans (congrArg some (by kernel_rfl))
  f279 := Tryz.func184.trans (congrArg some (by kernel_rfl))
  f280 := Tryz.func185.trans (congrArg some (by kernel_rfl))
  f281 := Tryz.func186.trans (congrArg some (by kernel_rfl))
  f282 := Tryz.func187.trans (congrArg some (by kernel_rfl))
  f283 := Tryz.func199.trans (congrArg some (by kernel_rfl))
  f284 := Tryz.func200.trans (congrArg some (by kernel_rfl))
  f285 := Tryz.func201.trans (congrArg some (by kernel_rfl))
  f286 := Tryz.func202.trans (congrArg some (by kernel_rfl))
  f287 := Tryz.func205.trans (congrArg some (by kernel_rfl))
  f316 := Tryz.func206.trans (congrArg some (by kernel_rfl))
  f317 := Tryz.func217.trans (congrArg some (by kernel_rfl))
  f318 := Tryz.func219.trans (congrArg some (by kernel_rfl))
  f319 := Tryz.func220.trans (congrArg some (by kernel_rfl))
  f320 := Tryz.func221.trans (congrArg some (by kernel_rfl))
  f321 := Tryz.func224.trans (congrArg some (by kernel_rfl))
  f322 := Tryz.func225.trans (congrArg some (by kernel_rfl))
  f337 := Tryz.func226.trans (congrArg some (by kernel_rfl))
  f338 := Tryz.func227.trans (congrArg some (by kernel_rfl))
  t0 := Tryz.underlying0
  a0 := Tryz.isAgg0
  z0 := Tryz.sizeOf0
  v0 := Tryz.zeroValue0
  t2 := Tryz.underlying2
  a2 := Tryz.isAgg2
  z2 := Tryz.sizeOf2
  v2 := Tryz.zeroValue2
  t3 := Tryz.underlying3
  a3 := Tryz.isAgg3
  z3 := Tryz.sizeOf3
  v3 := Tryz.zeroValue3
  t4 := Tryz.underlying4
  a4 := Tryz.isAgg4
  z4 := Tryz.sizeOf4
  v4 := Tryz.zeroValue4
  t5 := Tryz.underlying5
  a5 := Tryz.isAgg5
  z5 := Tryz.sizeOf5
  v5 := Tryz.zeroValue5
  t9 := Tryz.underlying9
  a9 := Tryz.isAgg9
  z9 := Tryz.sizeOf9
  v9 := Tryz.zeroValue9
  t20 := Tryz.underlying20
  a20 := Tryz.isAgg20
  z20 := Tryz.sizeOf20
  v20 := Tryz.zeroValue20
  t21 := Tryz.underlying21
  a21 := Tryz.isAgg21
  z21 := Tryz.sizeOf21
  v21 := Tryz.zeroValue21
  t37 := Tryz.underlying102
  a37 := Tryz.isAgg102
  z37 := Tryz.sizeOf102
  v37 := Tryz.zeroValue102
  t46 := Tryz.underlying181
  a46 := Tryz.isAgg181
  z46 := Tryz.sizeOf181
  v46 := Tryz.zeroValue181
  t51 := Tryz.underlying130
  a51 := Tryz.isAgg130
  z51 := Tryz.sizeOf130
  v51 := Tryz.zeroValue130
  t53 := Tryz.underlying282
  a53 := Tryz.isAgg282
  z53 := Tryz.sizeOf282
  v53 := Tryz.zeroValue282
  t75 := Tryz.underlying112
  a75 := Tryz.isAgg112
  z75 := Tryz.sizeOf112
  v75 := Tryz.zeroValue112
  t76 := Tryz.underlying113
  a76 := Tryz.isAgg113
  z76 := Tryz.sizeOf113
  v76 := Tryz.zeroValue113
  t85 := Tryz.underlying266
  a85 := Tryz.isAgg266
  z85 := Tryz.sizeOf266
  v85 := Tryz.zeroValue266
  t127 := Tryz.underlying166
  a127 := Tryz.isAgg166
  z127 := Tryz.sizeOf166
  v127 := Tryz.zeroValue166
  t143 := Tryz.underlying302
  a143 := Tryz.isAgg302
  z143 := Tryz.sizeOf302
  v143 := Tryz.zeroValue302
  t145 := Tryz.underlying304
  a145 := Tryz.isAgg304
  z145 := Tryz.sizeOf304
  v145 := Tryz.zeroValue304
  t167 := Tryz.underlying265
  a167 := Tryz.isAgg265
  z167 := Tryz.sizeOf265
  v167 := Tryz.zeroValue265
  t168 := Tryz.underlying268
  a168 := Tryz.isAgg268
  z168 := Tryz.sizeOf268
  v168 := Tryz.zeroValue268
  t171 := Tryz.underlying281
  a171 := Tryz.isAgg281
  z171 := Tryz.sizeOf281
  v171 := Tryz.zeroValue281
  t173 := Tryz.underlying285
  a173 := Tryz.isAgg285
  z173 := Tryz.sizeOf285
  v173 := Tryz.zeroValue285
  t175 := Tryz.underlying288
  a175 := Tryz.isAgg288
  z175 := Tryz.sizeOf288
  v175 := Tryz.zeroValue288
  t210 := Tryz.underlying291
  a210 := Tryz.isAgg291
  z210 := Tryz.sizeOf291
  v210 := Tryz.zeroValue291
  t212 := Tryz.underlying299
  a212 := Tryz.isAgg299
  z212 := Tryz.sizeOf299
  v212 := Tryz.zeroValue299
  t213 := Tryz.underlying300
  a213 := Tryz.isAgg300
  z213 := Tryz.sizeOf300
  t232 := Tryz.underlying306
  a232 := Tryz.isAgg306
  z232 := Tryz.sizeOf306
  v232 := Tryz.zeroValue306
  t233 := Tryz.underlying307
  a233 := Tryz.isAgg307
  z233 := Tryz.sizeOf307
  v233 := Tryz.zeroValue307
  g15 := by kernel_rfl
  g16 := by kernel_rfl
  g17 := by kernel_rfl
  g18 := by kernel_rfl
  g19 := by kernel_rfl }
open Go.RowKit in
theorem Tryz.strconv_Atoi (s : ByteArray) (n : Int) (hl : s.size ≤ 18) (h : Lib.atoi s.data.toList = some n) (w : World) :
    Calls Tryz.prog 129 #[.string s] w fun e w' => e = .returned (.tuple #[.int .i64 n, .nilIface]) ∧ ∃ t, w' = Lib.bytesWorld w 5 t := Any.strconv_Atoi Tryz.lays172 s n hl h w
def Tryz.laysM171_ren : Go.Shelf.Ren := ⟨fun | 171 => 115 | 243 => 148 | 246 => 178 | 283 => 199 | 284 => 200 | 285 => 201 | 286 => 202 | 129 => 218 | 317 => 217 | 318 => 219 | 319 => 220 | 320 => 221 | 337 => 226 | 338 => 227 | n => n, fun | 3 => 3 | 9 => 9 | 2 => 2 | 4 => 4 | 171 => 281 | 0 => 0 | 53 => 282 | 37 => 102 | 5 => 5 | 173 => 285 | 212 => 299 | 51 => 130 | 20 => 20 | 213 => 300 | 46 => 181 | 232 => 306 | 233 => 307 | n => n, fun | 17 => 5 | 18 => 6 | 19 => 7 | n => n⟩
theorem Tryz.laysM171 : Go.Proofs.LaysM.n171 Tryz.prog Tryz.laysM171_ren := {
  mixed := by kernel_rfl
  f129 := Tryz.func218.trans (congrArg some (by kernel_rfl))
  f171 := Tryz.func115.trans (congrArg some (by kernel_rfl))
  f243 := Tryz.func148.trans (congrArg some (by kernel_rfl))
  f246 := Tryz.func178.trans (congrArg some (by kernel_rfl))
  f283 := Tryz.func199.trans (congrArg some (by kernel_rfl))
  f284 := Tryz.func200.trans (congrArg some (by kernel_rfl))
  f285 := Tryz.func201.trans (congrArg some (by kernel_rfl))
  f286 := Tryz.func202.trans (congrArg some (by kernel_rfl))
  f317 := Tryz.func217.trans (congrArg some (by kernel_rfl))
  f318 := Tryz.func219.trans (congrArg some (by kernel_rfl))
  f319 := Tryz.func220.trans (congrArg some (by kernel_rfl))
  f320 := Tryz.func221.trans (congrArg some (by kernel_rfl))
  f337 := Tryz.func226.trans (congrArg some (by kernel_rfl))
  f338 := Tryz.func227.trans (congrArg some (by kernel_rfl))
  t0 := Tryz.underlying0
  a0 := Tryz.isAgg0
  z0 := Tryz.sizeOf0
  v0 := Tryz.zeroValue0
  t2 := Tryz.underlying2
  a2 := Tryz.isAgg2
  z2 := Tryz.sizeOf2
  v2 := Tryz.zeroValue2
  t3 := Tryz.underlying3
  a3 := Tryz.isAgg3
  z3 := Tryz.sizeOf3
  v3 := Tryz.zeroValue3
  t4 := Tryz.underlying4
  a4 := Tryz.isAgg4
  z4 := Tryz.sizeOf4
  v4 := Tryz.zeroValue4
  t5 := Tryz.underlying5
  a5 := Tryz.isAgg5
  z5 := Tryz.sizeOf5
  v5 := Tryz.zeroValue5
  t9 := Tryz.underlying9
  a9 := Tryz.isAgg9
  z9 := Tryz.sizeOf9
  v9 := Tryz.zeroValue9
  t20 := Tryz.underlying20
  a20 := Tryz.isAgg20
  z20 := Tryz.sizeOf20
  v20 := Tryz.zeroValue20
  t37 := Tryz.underlying102
  a37 := Tryz.isAgg102
  z37 := Tryz.sizeOf102
  v37 := Tryz.zeroValue102
  t46 := Tryz.underlying181
  a46 := Tryz.isAgg181
  z46 := Tryz.sizeOf181
  v46 := Tryz.zeroValue181
  t51 := Tryz.underlying130
  a51 := Tryz.isAgg130
  z51 := Tryz.sizeOf130
  v51 := Tryz.zeroValue130
  t53 := Tryz.underlying282
  a53 := Tryz.isAgg282
  z53 := Tryz.sizeOf282
  v53 := Tryz.zeroValue282
  t171 := Tryz.underlying281
  a171 := Tryz.isAgg281
  z171 := Tryz.sizeOf281
  v171 := Tryz.zeroValue281
  t173 := Tryz.underlying285
  a173 := Tryz.isAgg285
  z173 := Tryz.sizeOf285
  v173 := Tryz.zeroValue285
  t212 := Tryz.underlying299
  a212 := Tryz.isAgg299
  z212 := Tryz.sizeOf299
  v212 := Tryz.zeroValue299
  t213 := Tryz.underlying300
  a213 := Tryz.isAgg300
  z213 := Tryz.sizeOf300
  t232 := Tryz.underlying306
  a232 := Tryz.isAgg306
  z232 := Tryz.sizeOf306
  v232 := Tryz.zeroValue306
  t233 := Tryz.underlying307
  a233 := Tryz.isAgg307
  z233 := Tryz.sizeOf307
  v233 := Tryz.zeroValue307
  g17 := by kernel_rfl
  g18 := by kernel_rfl
  g19 := by kernel_rfl
  i0 := by kernel_rfl
  i2 := by kernel_rfl
  i3 := by kernel_rfl
  i4 := by kernel_rfl
  i5 := by kernel_rfl
  i9 := by kernel_rfl
  i20 := by kernel_rfl
  i37 := by kernel_rfl
  i46 := by kernel_rfl
  i51 := by kernel_rfl
  i53 := by kernel_rfl
  i171 := by kernel_rfl
  i173 := by kernel_rfl
  i212 := by kernel_rfl
  i232 := by kernel_rfl
  i233 := by kernel_rfl
  m17 := by kernel_rfl
  m18 := by kernel_rfl
  m19 := by kernel_rfl }
open Go.RowKit Go.Sort Go.Lib in
theorem Tryz.strconv_Itoa (n : Int) (h0 : -9223372036854775808 ≤ n) (h1 : n ≤ 9223372036854775807) (w : World) (htab : Lib.TabIs Tryz.prog w "internal/strconv.uint64pow10" .u64 Lib.pow10Tab) :
    Calls Tryz.prog 115 #[.int .i64 n] w fun e w' => e = .returned (.string ⟨(Lib.itoa n).toArray⟩) ∧ ∃ k os, w' = grow (w.drewN k) os := Any.strconv_Itoa Tryz.laysM171 n h0 h1 w htab
def Tryz.laysM316_ren : Go.Shelf.Ren := ⟨fun | 316 => 206 | n => n, fun | 9 => 9 | 3 => 3 | 4 => 4 | 37 => 102 | 0 => 0 | 127 => 166 | 5 => 5 | n => n, fun | n => n⟩
theorem Tryz.laysM316 : Go.Proofs.LaysM.n316 Tryz.prog Tryz.laysM316_ren := {
  mixed := by kernel_rfl
  f316 := Tryz.func206.trans (congrArg some (by kernel_rfl))
  t0 := Tryz.underlying0
  a0 := Tryz.isAgg0
  z0 := Tryz.sizeOf0
  v0 := Tryz.zeroValue0
  t3 := Tryz.underlying3
  a3 := Tryz.isAgg3
  z3 := Tryz.sizeOf3
  v3 := Tryz.zeroValue3
  t4 := Tryz.underlying4
  a4 := Tryz.isAgg4
  z4 := Tryz.sizeOf4
  v4 := Tryz.zeroValue4
  t9 := Tryz.underlying9
  a9 := Tryz.isAgg9
  z9 := Tryz.sizeOf9
  v9 := Tryz.zeroValue9
  t37 := Tryz.underlying102
  a37 := Tryz.isAgg102
  z37 := Tryz.sizeOf102
  v37 := Tryz.zeroValue102
  t127 := Tryz.underlying166
  a127 := Tryz.isAgg166
  z127 := Tryz.sizeOf166
  v127 := Tryz.zeroValue166
  t5 := Tryz.underlying5
  a5 := Tryz.isAgg5
  z5 := Tryz.sizeOf5
  v5 := Tryz.zeroValue5
  i0 := by kernel_rfl
  i3 := by kernel_rfl
  i4 := by kernel_rfl
  i5 := by kernel_rfl
  i9 := by kernel_rfl
  i37 := by kernel_rfl
  i127 := by kernel_rfl }
open Go.RowKit in
theorem Tryz.stringslite_Clone (s : ByteArray) (w : World) (hlim : s.size ≤ 281474976710656) :
    Calls Tryz.prog 206 #[.string s] w fun e w' => e = .returned (.string s) ∧ Below w.heap.size w w' := Any.stringslite_Clone Tryz.laysM316 s w hlim
def Tryz.laysC172_ren : Go.Shelf.Ren := ⟨fun | 172 => 129 | 244 => 162 | 245 => 163 | 247 => 183 | 279 => 184 | 280 => 185 | 281 => 186 | 282 => 187 | 287 => 205 | 316 => 206 | 171 => 115 | 205 => 207 | 321 => 224 | 322 => 225 | 243 => 148 | 246 => 178 | 283 => 199 | 284 => 200 | 285 => 201 | 286 => 202 | 129 => 218 | 317 => 217 | 318 => 219 | 319 => 220 | 320 => 221 | 337 => 226 | 338 => 227 | n => n, fun | 9 => 9 | 3 => 3 | 75 => 112 | 76 => 113 | 4 => 4 | 5 => 5 | 167 => 265 | 37 => 102 | 0 => 0 | 85 => 266 | 2 => 2 | 168 => 268 | 53 => 282 | 175 => 288 | 46 => 181 | 210 => 291 | 127 => 166 | 145 => 304 | 143 => 302 | 21 => 21 | 171 => 281 | 173 => 285 | 212 => 299 | 51 => 130 | 20 => 20 | 213 => 300 | 232 => 306 | 233 => 307 | 80 => 110 | n => n, fun | 15 => 3 | 16 => 4 | 17 => 5 | 18 => 6 | 19 => 7 | n => n⟩
theorem Tryz.laysC172 : Go.Proofs.LaysC.n172 Tryz.prog Tryz.laysC172_ren := {
  mixed := by kernel_rfl
  f129 := Tryz.func218.trans (congrArg some (by kernel_rfl))
  f171 := Tryz.func115.trans (congrArg some (by kernel_rfl))
  f172 := Tryz.func129.trans (congrArg some (by kernel_rfl))
  f205 := Tryz.func207.trans (congrArg some (by kernel_rfl))
  f243 := Tryz.func148.trans (congrArg some (by kernel_rfl))
  f244 := Tryz.func162.trans (congrArg some (by kernel_rfl))
  f245 := Tryz.func163.trans (congrArg some (by kernel_rfl))
  f246 := Tryz.func178.trans (congrArg some (by kernel_rfl))
  f247 := Tryz.func183.trans (congrArg some (by kernel_rfl))
  f279 := Tryz.func184.trans (congrArg some (by kernel_rfl))
  f280 := Tryz.func185.trans (congrArg some (by kernel_rfl))
  f281 := Tryz.func186.trans (congrArg some (by kernel_rfl))
  f282 := Tryz.func187.trans (congrArg some (by kernel_rfl))
  f283 := Tryz.func199.trans (congrArg some (by kernel_rfl))
  f284 := Tryz.func200.trans (congrArg some (by kernel_rfl))
  f285 := Tryz.func201.trans (congrArg some (by kernel_rfl))
  f286 := Tryz.func202.trans (congrArg some (by kernel_rfl))
  f287 := Tryz.func205.trans (congrArg some (by kernel_rfl))
  f316 := Tryz.func206.trans (congrArg some (by kernel_rfl))
  f317 := Tryz.func217.trans (congrArg some (by kernel_rfl))
  f318 := Tryz.func219.trans (congrArg some (by kernel_rfl))
  f319 := Tryz.func220.trans (congrArg some (by kernel_rfl))
  f320 := Tryz.func221.trans (congrArg some (by kernel_rfl))
  f321 := Tryz.func224.trans (congrArg some (by kernel_rfl))
  f322 := Tryz.func225.trans (congrArg some (by kernel_rfl))
  f337 := Tryz.func226.trans (congrArg some (by kernel_rfl))
  f338 := Tryz.func227.trans (congrArg some (by kernel_rfl))
  t0 := Tryz.underlying0
  a0 := Tryz.isAgg0
  z0 := Tryz.sizeOf0
  v0 := Tryz.zeroValue0
  t2 := Tryz.underlying2
  a2 := Tryz.isAgg2
  z2 := Tryz.sizeOf2
  v2 := Tryz.zeroValue2
  t3 := Tryz.underlying3
  a3 := Tryz.isAgg3
  z3 := Tryz.sizeOf3
  v3 := Tryz.zeroValue3
  t4 := Tryz.underlying4
  a4 := Tryz.isAgg4
  z4 := Tryz.sizeOf4
  v4 := Tryz.zeroValue4
  t5 := Tryz.underlying5
  a5 := Tryz.isAgg5
  z5 := Tryz.sizeOf5
  v5 := Tryz.zeroValue5
  t9 := Tryz.underlying9
  a9 := Tryz.isAgg9
  z9 := Tryz.sizeOf9
  v9 := Tryz.zeroValue9
  t20 := Tryz.underlying20
  a20 := Tryz.isAgg20
  z20 := Tryz.sizeOf20
  v20 := Tryz.zeroValue20
  t21 := Tryz.underlying21
  a21 := Tryz.isAgg21
  z21 := Tryz.sizeOf21
  v21 := Tryz.zeroValue21
  t37 := Tryz.underlying102
  a37 := Tryz.isAgg102
  z37 := Tryz.sizeOf102
  v37 := Tryz.zeroValue102
  t46 := Tryz.underlying181
  a46 := Tryz.isAgg181
  z46 := Tryz.sizeOf181
  v46 := Tryz.zeroValue181
  t51 := Tryz.underlying130
  a51 := Tryz.isAgg130
  z51 := Tryz.sizeOf130
  v51 := Tryz.zeroValue130
  t53 := Tryz.underlying282
  a53 := Tryz.isAgg282
  z53 := Tryz.sizeOf282
  v53 := Tryz.zeroValue282
  t75 := Tryz.underlying112
  a75 := Tryz.isAgg112
  z75 := Tryz.sizeOf112
  v75 := Tryz.zeroValue112
  t76 := Tryz.underlying113
  a76 := Tryz.isAgg113
  z76 := Tryz.sizeOf113
  v76 := Tryz.zeroValue113
  t85 := Tryz.underlying266
  a85 := Tryz.isAgg266
  z85 := Tryz.sizeOf266
  v85 := Tryz.zeroValue266
  t127 := Tryz.underlying166
  a127 := Tryz.isAgg166
  z127 := Tryz.sizeOf166
  v127 := Tryz.zeroValue166
  t143 := Tryz.underlying302
  a143 := Tryz.isAgg302
  z143 := Tryz.sizeOf302
  v143 := Tryz.zeroValue302
  t145 := Tryz.underlying304
  a145 := Tryz.isAgg304
  z145 := Tryz.sizeOf304
  v145 := Tryz.zeroValue304
  t167 := Tryz.underlying265
  a167 := Tryz.isAgg265
  z167 := Tryz.sizeOf265
  v167 := Tryz.zeroValue265
  t168 := Tryz.underlying268
  a168 := Tryz.isAgg268
  z168 := Tryz.sizeOf268
  v168 := Tryz.zeroValue268
  t171 := Tryz.underlying281
  a171 := Tryz.isAgg281
  z171 := Tryz.sizeOf281
  v171 := Tryz.zeroValue281
  t173 := Tryz.underlying285
  a173 := Tryz.isAgg285
  z173 := Tryz.sizeOf285
  v173 := Tryz.zeroValue285
  t175 := Tryz.underlying288
  a175 := Tryz.isAgg288
  z175 := Tryz.sizeOf288
  v175 := Tryz.zeroValue288
  t210 := Tryz.underlying291
  a210 := Tryz.isAgg291
  z210 := Tryz.sizeOf291
  v210 := Tryz.zeroValue291
  t212 := Tryz.underlying299
  a212 := Tryz.isAgg299
  z212 := Tryz.sizeOf299
  v212 := Tryz.zeroValue299
  t213 := Tryz.underlying300
  a213 := Tryz.isAgg300
  z213 := Tryz.sizeOf300
  t232 := Tryz.underlying306
  a232 := Tryz.isAgg306
  z232 := Tryz.sizeOf306
  v232 := Tryz.zeroValue306
  t233 := Tryz.underlying307
  a233 := Tryz.isAgg307
  z233 := Tryz.sizeOf307
  v233 := Tryz.zeroValue307
  g15 := by kernel_rfl
  g16 := by kernel_rfl
  g17 := by kernel_rfl
  g18 := by kernel_rfl
  g19 := by kernel_rfl
  t80 := Tryz.underlying110
  a80 := Tryz.isAgg110
  z80 := Tryz.sizeOf110
  v80 := Tryz.zeroValue110
  i0 := by kernel_rfl
  i2 := by kernel_rfl
  i3 := by kernel_rfl
  i4 := by kernel_rfl
  i5 := by kernel_rfl
  i9 := by kernel_rfl
  i20 := by kernel_rfl
  i21 := by kernel_rfl
  i37 := by kernel_rfl
  i46 := by kernel_rfl
  i51 := by kernel_rfl
  i53 := by kernel_rfl
  i75 := by kernel_rfl
  i76 := by kernel_rfl
  i80 := by kernel_rfl
  i85 := by kernel_rfl
  i127 := by kernel_rfl
  i143 := by kernel_rfl
  i145 := by kernel_rfl
  i167 := by kernel_rfl
  i168 := by kernel_rfl
  i171 := by kernel_rfl
  i173 := by kernel_rfl
  i175 := by kernel_rfl
  i210 := by kernel_rfl
  i212 := by kernel_rfl
  i232 := by kernel_rfl
  i233 := by kernel_rfl
  m15 := by kernel_rfl
  m16 := by kernel_rfl
  m17 := by kernel_rfl
  m18 := by kernel_rfl
  m19 := by kernel_rfl
  c0 := by kernel_rfl
  c2 := by kernel_rfl
  c3 := by kernel_rfl
  c4 := by kernel_rfl
  c5 := by kernel_rfl
  c9 := by kernel_rfl
  c20 := by kernel_rfl
  c21 := by kernel_rfl
  c37 := by kernel_rfl
  c46 := by kernel_rfl
  c51 := by kernel_rfl
  c53 := by kernel_rfl
  c75 := by kernel_rfl
  c76 := by kernel_rfl
  c80 := by kernel_rfl
  c85 := by kernel_rfl
  c127 := by kernel_rfl
  c143 := by kernel_rfl
  c145 := by kernel_rfl
  c167 := by kernel_rfl
  c168 := by kernel_rfl
  c171 := by kernel_rfl
  c173 := by kernel_rfl
  c175 := by kernel_rfl
  c210 := by kernel_rfl
  c212 := by kernel_rfl
  c213 := by kernel_rfl
  c232 := by kernel_rfl
  c233 := by kernel_rfl }
open Go.RowKit in
theorem Tryz.strconv_Atoi_ok (s : ByteArray) (hmax : s.size ≤ 9223372036854775806) (v : Int) (h : Lib.atoiAll s.data.toList = .ok v) (w : World) :
    Calls Tryz.prog 129 #[.string s] w fun e w' => e = .returned (.tuple #[.int .i64 v, .nilIface]) ∧ (w' = w ∨ ∃ t, w' = Lib.bytesWorld w 5 t) := Any.strconv_Atoi_ok Tryz.laysC172 s hmax v h w
open Go.RowKit in
theorem Tryz.strconv_Atoi_range (s : ByteArray) (hlim : s.size ≤ 281474976710656) (h : Lib.atoiAll s.data.toList = .range) (ev : Value) (w : World) (hv : w.cell? ⟨4, 0, none⟩ = some ev) (hev : ev = .nilIface ∨ ∃ te pe, ev = .iface te pe) :
    Calls Tryz.prog 129 #[.string s] w fun e w' => ∃ N, e = .returned (.tuple #[.int .i64 (Lib.atoiSat s.data.toList), .iface 268 (.pointer (some ⟨N, 0, none⟩))]) ∧ w.heap.size ≤ N ∧ w'.heap[N]? = some (.cells #[.string ⟨#[65, 116, 111, 105]⟩, .string s, ev] 291 (0, 0)) ∧ Below w.heap.size w w' := Any.strconv_Atoi_range Tryz.laysC172 s hlim h ev w hv hev
def Tryz.lays145_ren : Go.Shelf.Ren := ⟨fun | 145 => 130 | 220 => 164 | 219 => 74 | 217 => 106 | 225 => 107 | 224 => 108 | 267 => 109 | 266 => 142 | 314 => 143 | n => n, fun | 9 => 9 | 4 => 4 | 59 => 194 | 3 => 3 | 5 => 5 | 46 => 181 | 146 => 227 | 51 => 130 | n => n, fun | 1 => 0 | n => n⟩
theorem Tryz.lays145 : Go.Proofs.Lays.n145 Tryz.prog Tryz.lays145_ren := {
  mixed := by kernel_rfl
  f145 := Tryz.func130.trans (congrArg some (by kernel_rfl))
  f217 := Tryz.func106.trans (congrArg some (by kernel_rfl))
  f219 := Tryz.func74.trans (congrArg some (by kernel_rfl))
  f220 := Tryz.func164.trans (congrArg some (by kernel_rfl))
  f224 := Tryz.func108.trans (congrArg some (by kernel_rfl))
  f225 := Tryz.func107.trans (congrArg some (by kernel_rfl))
  f266 := Tryz.func142.trans (congrArg some (by kernel_rfl))
  f267 := Tryz.func109.trans (congrArg some (by kernel_rfl))
  f314 := Tryz.func143.trans (congrArg some (by kernel_rfl))
  t3 := Tryz.underlying3
  a3 := Tryz.isAgg3
  z3 := Tryz.sizeOf3
  v3 := Tryz.zeroValue3
  t4 := Tryz.underlying4
  a4 := Tryz.isAgg4
  z4 := Tryz.sizeOf4
  v4 := Tryz.zeroValue4
  t5 := Tryz.underlying5
  a5 := Tryz.isAgg5
  z5 := Tryz.sizeOf5
  v5 := Tryz.zeroValue5
  t9 := Tryz.underlying9
  a9 := Tryz.isAgg9
  z9 := Tryz.sizeOf9
  v9 := Tryz.zeroValue9
  t46 := Tryz.underlying181
  a46 := Tryz.isAgg181
  z46 := Tryz.sizeOf181
  v46 := Tryz.zeroValue181
  t51 := Tryz.underlying130
  a51 := Tryz.isAgg130
  z51 := Tryz.sizeOf130
  v51 := Tryz.zeroValue130
  t59 := Tryz.underlying194
  a59 := Tryz.isAgg194
  z59 := Tryz.sizeOf194
  v59 := Tryz.zeroValue194
  t146 := Tryz.underlying227
  a146 := Tryz.isAgg227
  z146 := Tryz.sizeOf227
  v146 := Tryz.zeroValue227
  g1 := by kernel_rfl }
open Go.RowKit Go.Lib in
theorem Tryz.strings_Cut (s sep : ByteArray) (m : Int) (w : World) (hs : s.size < 4294967281) (hm : w.cell? ⟨0, 0, none⟩ = some (.int .i64 m)) :
    Calls Tryz.prog 130 #[.string s, .string sep] w fun e w' => e = .returned (.tuple #[.string ⟨(Lib.cut s.data.toList sep.data.toList).1.toArray⟩, .string ⟨(Lib.cut s.data.toList sep.data.toList).2.1.toArray⟩, .bool (Lib.cut s.data.toList sep.data.toList).2.2]) ∧ ∃ n, w' = w.drewN n := Any.strings_Cut Tryz.lays145 s sep m w hs hm
def Tryz.lays138_ren : Go.Shelf.Ren := ⟨fun | 138 => 18 | 195 => 43 | 218 => 44 | 143 => 45 | 219 => 74 | 217 => 106 | 225 => 107 | 224 => 108 | 267 => 109 | 266 => 142 | 314 => 143 | n => n, fun | 9 => 9 | 3 => 3 | 4 => 4 | 5 => 5 | 0 => 0 | 46 => 181 | 146 => 227 | 51 => 130 | n => n, fun | 1 => 0 | n => n⟩
theorem Tryz.lays138 : Go.Proofs.Lays.n138 Tryz.prog Tryz.lays138_ren := {
  mixed := by kernel_rfl
  f138 := Tryz.func18.trans (congrArg some (by kernel_rfl))
  f143 := Tryz.func45.trans (congrArg some (by kernel_rfl))
  f195 := Tryz.func43.trans (congrArg some (by kernel_rfl))
  f217 := Tryz.func106.trans (congrArg some (by kernel_rfl))
  f218 := Tryz.func44.trans (congrArg some (by kernel_rfl))
  f219 := Tryz.func74.trans (congrArg some (by kernel_rfl))
  f224 := Tryz.func108.trans (congrArg some (by kernel_rfl))
  f225 := Tryz.func107.trans (congrArg some (by kernel_rfl))
  f266 := Tryz.func142.trans (congrArg some (by kernel_rfl))
  f267 := Tryz.func109.trans (congrArg some (by kernel_rfl))
  f314 := Tryz.func143.trans (congrArg some (by kernel_rfl))
  t0 := Tryz.underlying0
  a0 := Tryz.isAgg0
  z0 := Tryz.sizeOf0
  v0 := Tryz.zeroValue0
  t3 := Tryz.underlying3
  a3 := Tryz.isAgg3
  z3 := Tryz.sizeOf3
  v3 := Tryz.zeroValue3
  t4 := Tryz.underlying4
  a4 := Tryz.isAgg4
  z4 := Tryz.sizeOf4
  v4 := Tryz.zeroValue4
  t5 := Tryz.underlying5
  a5 := Tryz.isAgg5
  z5 := Tryz.sizeOf5
  v5 := Tryz.zeroValue5
  t9 := Tryz.underlying9
  a9 := Tryz.isAgg9
  z9 := Tryz.sizeOf9
  v9 := Tryz.zeroValue9
  t46 := Tryz.underlying181
  a46 := Tryz.isAgg181
  z46 := Tryz.sizeOf181
  v46 := Tryz.zeroValue181
  t51 := Tryz.underlying130
  a51 := Tryz.isAgg130
  z51 := Tryz.sizeOf130
  v51 := Tryz.zeroValue130
  t146 := Tryz.underlying227
  a146 := Tryz.isAgg227
  z146 := Tryz.sizeOf227
  v146 := Tryz.zeroValue227
  g1 := by kernel_rfl }
def Tryz.laysM145_ren : Go.Shelf.Ren := ⟨fun | 145 => 130 | 220 => 164 | 219 => 74 | 217 => 106 | 225 => 107 | 224 => 108 | 267 => 109 | 266 => 142 | 314 => 143 | n => n, fun | 9 => 9 | 4 => 4 | 59 => 194 | 3 => 3 | 5 => 5 | 46 => 181 | 146 => 227 | 51 => 130 | n => n, fun | 1 => 0 | n => n⟩
theorem Tryz.laysM145 : Go.Proofs.LaysM.n145 Tryz.prog Tryz.laysM145_ren := {
  mixed := by kernel_rfl
  f145 := Tryz.func130.trans (congrArg some (by kernel_rfl))
  f217 := Tryz.func106.trans (congrArg some (by kernel_rfl))
  f219 := Tryz.func74.trans (congrArg some (by kernel_rfl))
  f220 := Tryz.func164.trans (congrArg some (by kernel_rfl))
  f224 := Tryz.func108.trans (congrArg some (by kernel_rfl))
  f225 := Tryz.func107.trans (congrArg some (by kernel_rfl))
  f266 := Tryz.func142.trans (congrArg some (by kernel_rfl))
  f267 := Tryz.func109.trans (congrArg some (by kernel_rfl))
  f314 := Tryz.func143.trans (congrArg some (by kernel_rfl))
  t3 := Tryz.underlying3
  a3 := Tryz.isAgg3
  z3 := Tryz.sizeOf3
  v3 := Tryz.zeroValue3
  t4 := Tryz.underlying4
  a4 := Tryz.isAgg4
  z4 := Tryz.sizeOf4
  v4 := Tryz.zeroValue4
  t5 := Tryz.underlying5
  a5 := Tryz.isAgg5
  z5 := Tryz.sizeOf5
  v5 := Tryz.zeroValue5
  t9 := Tryz.underlying9
  a9 := Tryz.isAgg9
  z9 := Tryz.sizeOf9
  v9 := Tryz.zeroValue9
  t46 := Tryz.underlying181
  a46 := Tryz.isAgg181
  z46 := Tryz.sizeOf181
  v46 := Tryz.zeroValue181
  t51 := Tryz.underlying130
  a51 := Tryz.isAgg130
  z51 := Tryz.sizeOf130
  v51 := Tryz.zeroValue130
  t59 := Tryz.underlying194
  a59 := Tryz.isAgg194
  z59 := Tryz.sizeOf194
  v59 := Tryz.zeroValue194
  t146 := Tryz.underlying227
  a146 := Tryz.isAgg227
  z146 := Tryz.sizeOf227
  v146 := Tryz.zeroValue227
  g1 := by kernel_rfl
  i3 := by kernel_rfl
  i4 := by kernel_rfl
  i5 := by kernel_rfl
  i9 := by kernel_rfl
  i46 := by kernel_rfl
  i51 := by kernel_rfl
  i59 := by kernel_rfl
  i146 := by kernel_rfl
  m1 := by kernel_rfl
  s1_3 := fun w h => Go.Proofs.cell_of_shapedOpen_int (zero := #[.int .i64 0]) (t := 3) h (of_decide_eq_true (by kernel_rfl)) (by kernel_rfl) rfl (by kernel_rfl) (by kernel_rfl) Tryz.underlying3 }
open Go.RowKit Go.Lib in
theorem Tryz.strings_Cut_shaped (s sep : ByteArray) (w : World) (h : w.ShapedOpen Tryz.prog) (hs : s.size < 4294967281) :
    Calls Tryz.prog 130 #[.string s, .string sep] w fun e w' => e = .returned (.tuple #[.string ⟨(Lib.cut s.data.toList sep.data.toList).1.toArray⟩, .string ⟨(Lib.cut s.data.toList sep.data.toList).2.1.toArray⟩, .bool (Lib.cut s.data.toList sep.data.toList).2.2]) ∧ ∃ n, w' = w.drewN n := Any.strings_Cut_shaped Tryz.laysM145 s sep w h hs
def Tryz.laysGw15_ren : Go.Shelf.Ren := ⟨fun | 15 => 146 | 20 => 177 | n => n, fun | 9 => 9 | 23 => 199 | 3 => 3 | 4 => 4 | 0 => 0 | 21 => 21 | n => n, fun | n => n⟩
theorem Tryz.laysGw15 : Go.Proofs.LaysGw.n15 Tryz.prog Tryz.laysGw15_ren := {
  mixed := by kernel_rfl
  f15 := Tryz.func146.trans (congrArg some (by kernel_rfl))
  f20 := Tryz.func177.trans (congrArg some (by kernel_rfl))
  t0 := Tryz.underlying0
  a0 := Tryz.isAgg0
  z0 := Tryz.sizeOf0
  v0 := Tryz.zeroValue0
  i0 := by kernel_rfl
  t3 := Tryz.underlying3
  a3 := Tryz.isAgg3
  z3 := Tryz.sizeOf3
  v3 := Tryz.zeroValue3
  i3 := by kernel_rfl
  t4 := Tryz.underlying4
  a4 := Tryz.isAgg4
  z4 := Tryz.sizeOf4
  v4 := Tryz.zeroValue4
  i4 := by kernel_rfl
  t9 := Tryz.underlying9
  a9 := Tryz.isAgg9
  z9 := Tryz.sizeOf9
  v9 := Tryz.zeroValue9
  i9 := by kernel_rfl
  t21 := Tryz.underlying21
  a21 := Tryz.isAgg21
  z21 := Tryz.sizeOf21
  v21 := Tryz.zeroValue21
  i21 := by kernel_rfl
  t23 := Tryz.underlying199
  a23 := Tryz.isAgg199
  z23 := Tryz.sizeOf199
  v23 := Tryz.zeroValue199
  i23 := by kernel_rfl }
def Tryz.lays99_ren : Go.Shelf.Ren := ⟨fun | 99 => 16 | 206 => 41 | n => n, fun | 9 => 9 | 4 => 4 | 3 => 3 | n => n, fun | n => n⟩
theorem Tryz.lays99 : Go.Proofs.Lays.n99 Tryz.prog Tryz.lays99_ren := {
  mixed := by kernel_rfl
  f99 := Tryz.func16.trans (congrArg some (by kernel_rfl))
  f206 := Tryz.func41.trans (congrArg some (by kernel_rfl))
  t3 := Tryz.underlying3
  a3 := Tryz.isAgg3
  z3 := Tryz.sizeOf3
  v3 := Tryz.zeroValue3
  t4 := Tryz.underlying4
  a4 := Tryz.isAgg4
  z4 := Tryz.sizeOf4
  v4 := Tryz.zeroValue4
  t9 := Tryz.underlying9
  a9 := Tryz.isAgg9
  z9 := Tryz.sizeOf9
  v9 := Tryz.zeroValue9 }
open Go.RowKit Go.Lib in
theorem Tryz.strings_HasPrefix (s p : ByteArray) (w : World) :
    Calls Tryz.prog 16 #[.string s, .string p] w fun e w' => e = .returned (.bool (Lib.hasPrefix s.data.toList p.data.toList)) ∧ w' = w := Any.strings_HasPrefix Tryz.lays99 s p w
def Tryz.lays100_ren : Go.Shelf.Ren := ⟨fun | 100 => 17 | 207 => 42 | n => n, fun | 9 => 9 | 4 => 4 | 3 => 3 | n => n, fun | n => n⟩
theorem Tryz.lays100 : Go.Proofs.Lays.n100 Tryz.prog Tryz.lays100_ren := {
  mixed := by kernel_rfl
  f100 := Tryz.func17.trans (congrArg some (by kernel_rfl))
  f207 := Tryz.func42.trans (congrArg some (by kernel_rfl))
  t3 := Tryz.underlying3
  a3 := Tryz.isAgg3
  z3 := Tryz.sizeOf3
  v3 := Tryz.zeroValue3
  t4 := Tryz.underlying4
  a4 := Tryz.isAgg4
  z4 := Tryz.sizeOf4
  v4 := Tryz.zeroValue4
  t9 := Tryz.underlying9
  a9 := Tryz.isAgg9
  z9 := Tryz.sizeOf9
  v9 := Tryz.zeroValue9 }
open Go.RowKit Go.Lib in
theorem Tryz.strings_HasSuffix (s p : ByteArray) (w : World) (hs : s.size ≤ 9223372036854775807) :
    Calls Tryz.prog 17 #[.string s, .string p] w fun e w' => e = .returned (.bool (Lib.hasSuffix s.data.toList p.data.toList)) ∧ w' = w := Any.strings_HasSuffix Tryz.lays100 s p w hs
open Go.RowKit Go.Lib in
theorem Tryz.strings_Count_any (s sep : ByteArray) (m : Int) (w : World) (hs : s.size < 4294967281) (hm : w.cell? ⟨0, 0, none⟩ = some (.int .i64 m)) (h1 : 1 ≤ sep.size) :
    Calls Tryz.prog 18 #[.string s, .string sep] w fun e w' => e = .returned (.int .i64 (Lib.countB s sep)) ∧ w' = w := Any.strings_Count_any Tryz.lays138 s sep m w hs hm h1
def Tryz.lays146_ren : Go.Shelf.Ren := ⟨fun | 146 => 19 | 221 => 46 | 268 => 75 | 138 => 18 | 143 => 45 | 195 => 43 | 197 => 110 | 218 => 44 | 219 => 74 | 260 => 144 | 217 => 106 | 225 => 107 | 224 => 108 | 267 => 109 | 266 => 142 | 314 => 143 | n => n, fun | 9 => 9 | 31 => 41 | 3 => 3 | 4 => 4 | 0 => 0 | 105 => 182 | 21 => 21 | 5 => 5 | 46 => 181 | 119 => 220 | 139 => 260 | 138 => 259 | 146 => 227 | 51 => 130 | n => n, fun | 1 => 0 | 3 => 1 | 4 => 2 | n => n⟩
theorem Tryz.lays146 : Go.Proofs.Lays.n146 Tryz.prog Tryz.lays146_ren := {
  mixed := by kernel_rfl
  f138 := Tryz.func18.trans (congrArg some (by kernel_rfl))
  f143 := Tryz.func45.trans (congrArg some (by kernel_rfl))
  f146 := Tryz.func19.trans (congrArg some (by kernel_rfl))
  f195 := Tryz.func43.trans (congrArg some (by kernel_rfl))
  f197 := Tryz.func110.trans (congrArg some (by kernel_rfl))
  f217 := Tryz.func106.trans (congrArg some (by kernel_rfl))
  f218 := Tryz.func44.trans (congrArg some (by kernel_rfl))
  f219 := Tryz.func74.trans (congrArg some (by kernel_rfl))
  f221 := Tryz.func46.trans (congrArg some (by kernel_rfl))
  f224 := Tryz.func108.trans (congrArg some (by kernel_rfl))
  f225 := Tryz.func107.trans (congrArg some (by kernel_rfl))
  f260 := Tryz.func144.trans (congrArg some (by kernel_rfl))
  f266 := Tryz.func142.trans (congrArg some (by kernel_rfl))
  f267 := Tryz.func109.trans (congrArg some (by kernel_rfl))
  f268 := Tryz.func75.trans (congrArg some (by kernel_rfl))
  f314 := Tryz.func143.trans (congrArg some (by kernel_rfl))
  t0 := Tryz.underlying0
  a0 := Tryz.isAgg0
  z0 := Tryz.sizeOf0
  v0 := Tryz.zeroValue0
  t3 := Tryz.underlying3
  a3 := Tryz.isAgg3
  z3 := Tryz.sizeOf3
  v3 := Tryz.zeroValue3
  t4 := Tryz.underlying4
  a4 := Tryz.isAgg4
  z4 := Tryz.sizeOf4
  v4 := Tryz.zeroValue4
  t5 := Tryz.underlying5
  a5 := Tryz.isAgg5
  z5 := Tryz.sizeOf5
  v5 := Tryz.zeroValue5
  t9 := Tryz.underlying9
  a9 := Tryz.isAgg9
  z9 := Tryz.sizeOf9
  v9 := Tryz.zeroValue9
  t21 := Tryz.underlying21
  a21 := Tryz.isAgg21
  z21 := Tryz.sizeOf21
  v21 := Tryz.zeroValue21
  t31 := Tryz.underlying41
  a31 := Tryz.isAgg41
  z31 := Tryz.sizeOf41
  v31 := Tryz.zeroValue41
  t46 := Tryz.underlying181
  a46 := Tryz.isAgg181
  z46 := Tryz.sizeOf181
  v46 := Tryz.zeroValue181
  t51 := Tryz.underlying130
  a51 := Tryz.isAgg130
  z51 := Tryz.sizeOf130
  v51 := Tryz.zeroValue130
  t105 := Tryz.underlying182
  a105 := Tryz.isAgg182
  z105 := Tryz.sizeOf182
  v105 := Tryz.zeroValue182
  t119 := Tryz.underlying220
  a119 := Tryz.isAgg220
  z119 := Tryz.sizeOf220
  t138 := Tryz.underlying259
  a138 := Tryz.isAgg259
  z138 := Tryz.sizeOf259
  v138 := Tryz.zeroValue259
  t139 := Tryz.underlying260
  a139 := Tryz.isAgg260
  z139 := Tryz.sizeOf260
  v139 := Tryz.zeroValue260
  t146 := Tryz.underlying227
  a146 := Tryz.isAgg227
  z146 := Tryz.sizeOf227
  v146 := Tryz.zeroValue227
  g1 := by kernel_rfl
  g3 := by kernel_rfl
  g4 := by kernel_rfl }
open Go.RowKit Go.Lib in
theorem Tryz.strings_Split (s sep : ByteArray) (m : Int) (w : World) (hs : s.size < 4294967281) (hm : w.cell? ⟨0, 0, none⟩ = some (.int .i64 m)) (h1 : 1 ≤ sep.size) :
    Calls Tryz.prog 19 #[.string s, .string sep] w fun e w' =>
      e = .returned (.slice (some ⟨w.heap.size, 0, none⟩) (Lib.countB s sep + 1) (Lib.countB s sep + 1)) ∧ w' = w.alloc (.cells ((Lib.splitB sep 0 (Lib.countB s sep) s).map Value.string).toArray 9) := Any.strings_Split Tryz.lays146 (by kernel_rfl) s sep m w hs hm h1
def Tryz.laysM146_ren : Go.Shelf.Ren := ⟨fun | 146 => 19 | 221 => 46 | 268 => 75 | 138 => 18 | 143 => 45 | 195 => 43 | 197 => 110 | 218 => 44 | 219 => 74 | 260 => 144 | 217 => 106 | 225 => 107 | 224 => 108 | 267 => 109 | 266 => 142 | 314 => 143 | n => n, fun | 9 => 9 | 31 => 41 | 3 => 3 | 4 => 4 | 0 => 0 | 105 => 182 | 21 => 21 | 5 => 5 | 46 => 181 | 119 => 220 | 139 => 260 | 138 => 259 | 146 => 227 | 51 => 130 | n => n, fun | 1 => 0 | 3 => 1 | 4 => 2 | n => n⟩
theorem Tryz.laysM146 : Go.Proofs.LaysM.n146 Tryz.prog Tryz.laysM146_ren := {
  mixed := by kernel_rfl
  f138 := Tryz.func18.trans (congrArg some (by kernel_rfl))
  f143 := Tryz.func45.trans (congrArg some (by kernel_rfl))
  f146 := Tryz.func19.trans (congrArg some (by kernel_rfl))
  f195 := Tryz.func43.trans (congrArg some (by kernel_rfl))
  f197 := Tryz.func110.trans (congrArg some (by kernel_rfl))
  f217 := Tryz.func106.trans (congrArg some (by kernel_rfl))
  f218 := Tryz.func44.trans (congrArg some (by kernel_rfl))
  f219 := Tryz.func74.trans (congrArg some (by kernel_rfl))
  f221 := Tryz.func46.trans (congrArg some (by kernel_rfl))
  f224 := Tryz.func108.trans (congrArg some (by kernel_rfl))
  f225 := Tryz.func107.trans (congrArg some (by kernel_rfl))
  f260 := Tryz.func144.trans (congrArg some (by kernel_rfl))
  f266 := Tryz.func142.trans (congrArg some (by kernel_rfl))
  f267 := Tryz.func109.trans (congrArg some (by kernel_rfl))
  f268 := Tryz.func75.trans (congrArg some (by kernel_rfl))
  f314 := Tryz.func143.trans (congrArg some (by kernel_rfl))
  t0 := Tryz.underlying0
  a0 := Tryz.isAgg0
  z0 := Tryz.sizeOf0
  v0 := Tryz.zeroValue0
  t3 := Tryz.underlying3
  a3 := Tryz.isAgg3
  z3 := Tryz.sizeOf3
  v3 := Tryz.zeroValue3
  t4 := Tryz.underlying4
  a4 := Tryz.isAgg4
  z4 := Tryz.sizeOf4
  v4 := Tryz.zeroValue4
  t5 := Tryz.underlying5
  a5 := Tryz.isAgg5
  z5 := Tryz.sizeOf5
  v5 := Tryz.zeroValue5
  t9 := Tryz.underlying9
  a9 := Tryz.isAgg9
  z9 := Tryz.sizeOf9
  v9 := Tryz.zeroValue9
  t21 := Tryz.underlying21
  a21 := Tryz.isAgg21
  z21 := Tryz.sizeOf21
  v21 := Tryz.zeroValue21
  t31 := Tryz.underlying41
  a31 := Tryz.isAgg41
  z31 := Tryz.sizeOf41
  v31 := Tryz.zeroValue41
  t46 := Tryz.underlying181
  a46 := Tryz.isAgg181
  z46 := Tryz.sizeOf181
  v46 := Tryz.zeroValue181
  t51 := Tryz.underlying130
  a51 := Tryz.isAgg130
  z51 := Tryz.sizeOf130
  v51 := Tryz.zeroValue130
  t105 := Tryz.underlying182
  a105 := Tryz.isAgg182
  z105 := Tryz.sizeOf182
  v105 := Tryz.zeroValue182
  t119 := Tryz.underlying220
  a119 := Tryz.isAgg220
  z119 := Tryz.sizeOf220
  t138 := Tryz.underlying259
  a138 := Tryz.isAgg259
  z138 := Tryz.sizeOf259
  v138 := Tryz.zeroValue259
  t139 := Tryz.underlying260
  a139 := Tryz.isAgg260
  z139 := Tryz.sizeOf260
  v139 := Tryz.zeroValue260
  t146 := Tryz.underlying227
  a146 := Tryz.isAgg227
  z146 := Tryz.sizeOf227
  v146 := Tryz.zeroValue227
  g1 := by kernel_rfl
  g3 := by kernel_rfl
  g4 := by kernel_rfl
  i0 := by kernel_rfl
  i3 := by kernel_rfl
  i4 := by kernel_rfl
  i5 := by kernel_rfl
  i9 := by kernel_rfl
  i21 := by kernel_rfl
  i31 := by kernel_rfl
  i46 := by kernel_rfl
  i51 := by kernel_rfl
  i105 := by kernel_rfl
  i138 := by kernel_rfl
  i139 := by kernel_rfl
  i146 := by kernel_rfl
  m1 := by kernel_rfl
  s1_3 := fun w h => Go.Proofs.cell_of_shapedOpen_int (zero := #[.int .i64 0]) (t := 3) h (of_decide_eq_true (by kernel_rfl)) (by kernel_rfl) rfl (by kernel_rfl) (by kernel_rfl) Tryz.underlying3
  m3 := by kernel_rfl
  m4 := by kernel_rfl }
def Tryz.lays230_ren : Go.Shelf.Ren := ⟨fun | 230 => 131 | 197 => 110 | 118 => 165 | 165 => 166 | 166 => 54 | 168 => 167 | 270 => 168 | 167 => 169 | 169 => 53 | 260 => 144 | 240 => 92 | 241 => 188 | 242 => 189 | 276 => 126 | 277 => 208 | 278 => 209 | n => n, fun | 107 => 197 | 9 => 9 | 72 => 104 | 0 => 0 | 4 => 4 | 3 => 3 | 21 => 21 | 105 => 182 | 76 => 113 | 5 => 5 | 75 => 112 | 70 => 101 | 20 => 20 | 37 => 102 | 127 => 166 | 119 => 220 | 46 => 181 | 139 => 260 | 138 => 259 | 164 => 190 | 51 => 130 | 80 => 110 | n => n, fun | 3 => 1 | 4 => 2 | n => n⟩
theorem Tryz.lays230 : Go.Proofs.Lays.n230 Tryz.prog Tryz.lays230_ren := {
  mixed := by kernel_rfl
  f118 := Tryz.func165.trans (congrArg some (by kernel_rfl))
  f165 := Tryz.func166.trans (congrArg some (by kernel_rfl))
  f166 := Tryz.func54.trans (congrArg some (by kernel_rfl))
  f167 := Tryz.func169.trans (congrArg some (by kernel_rfl))
  f168 := Tryz.func167.trans (congrArg some (by kernel_rfl))
  f169 := Tryz.func53.trans (congrArg some (by kernel_rfl))
  f197 := Tryz.func110.trans (congrArg some (by kernel_rfl))
  f230 := Tryz.func131.trans (congrArg some (by kernel_rfl))
  f240 := Tryz.func92.trans (congrArg some (by kernel_rfl))
  f241 := Tryz.func188.trans (congrArg some (by kernel_rfl))
  f242 := Tryz.func189.trans (congrArg some (by kernel_rfl))
  f260 := Tryz.func144.trans (congrArg some (by kernel_rfl))
  f270 := Tryz.func168.trans (congrArg some (by kernel_rfl))
  f276 := Tryz.func126.trans (congrArg some (by kernel_rfl))
  f277 := Tryz.func208.trans (congrArg some (by kernel_rfl))
  f278 := Tryz.func209.trans (congrArg some (by kernel_rfl))
  t0 := Tryz.underlying0
  a0 := Tryz.isAgg0
  z0 := Tryz.sizeOf0
  v0 := Tryz.zeroValue0
  t3 := Tryz.underlying3
  a3 := Tryz.isAgg3
  z3 := Tryz.sizeOf3
  v3 := Tryz.zeroValue3
  t4 := Tryz.underlying4
  a4 := Tryz.isAgg4
  z4 := Tryz.sizeOf4
  v4 := Tryz.zeroValue4
  t5 := Tryz.underlying5
  a5 := Tryz.isAgg5
  z5 := Tryz.sizeOf5
  v5 := Tryz.zeroValue5
  t9 := Tryz.underlying9
  a9 := Tryz.isAgg9
  z9 := Tryz.sizeOf9
  v9 := Tryz.zeroValue9
  t20 := Tryz.underlying20
  a20 := Tryz.isAgg20
  z20 := Tryz.sizeOf20
  v20 := Tryz.zeroValue20
  t21 := Tryz.underlying21
  a21 := Tryz.isAgg21
  z21 := Tryz.sizeOf21
  v21 := Tryz.zeroValue21
  t37 := Tryz.underlying102
  a37 := Tryz.isAgg102
  z37 := Tryz.sizeOf102
  v37 := Tryz.zeroValue102
  t46 := Tryz.underlying181
  a46 := Tryz.isAgg181
  z46 := Tryz.sizeOf181
  v46 := Tryz.zeroValue181
  t51 := Tryz.underlying130
  a51 := Tryz.isAgg130
  z51 := Tryz.sizeOf130
  v51 := Tryz.zeroValue130
  t70 := Tryz.underlying101
  a70 := Tryz.isAgg101
  z70 := Tryz.sizeOf101
  v70 := Tryz.zeroValue101
  t72 := Tryz.underlying104
  a72 := Tryz.isAgg104
  z72 := Tryz.sizeOf104
  v72 := Tryz.zeroValue104
  t75 := Tryz.underlying112
  a75 := Tryz.isAgg112
  z75 := Tryz.sizeOf112
  v75 := Tryz.zeroValue112
  t76 := Tryz.underlying113
  a76 := Tryz.isAgg113
  z76 := Tryz.sizeOf113
  v76 := Tryz.zeroValue113
  t105 := Tryz.underlying182
  a105 := Tryz.isAgg182
  z105 := Tryz.sizeOf182
  v105 := Tryz.zeroValue182
  t107 := Tryz.underlying197
  a107 := Tryz.isAgg197
  z107 := Tryz.sizeOf197
  v107 := Tryz.zeroValue197
  t119 := Tryz.underlying220
  a119 := Tryz.isAgg220
  z119 := Tryz.sizeOf220
  t127 := Tryz.underlying166
  a127 := Tryz.isAgg166
  z127 := Tryz.sizeOf166
  v127 := Tryz.zeroValue166
  t138 := Tryz.underlying259
  a138 := Tryz.isAgg259
  z138 := Tryz.sizeOf259
  v138 := Tryz.zeroValue259
  t139 := Tryz.underlying260
  a139 := Tryz.isAgg260
  z139 := Tryz.sizeOf260
  v139 := Tryz.zeroValue260
  t164 := Tryz.underlying190
  a164 := Tryz.isAgg190
  z164 := Tryz.sizeOf190
  v164 := Tryz.zeroValue190
  g3 := by kernel_rfl
  g4 := by kernel_rfl }
theorem Tryz.Builder_Extra_230 : Builder.Extra Tryz.prog Tryz.lays230_ren := {
  sizeBuilder := by kernel_rfl
  liesBuilder := by kernel_rfl
  t5 := Tryz.underlying5
  a5 := Tryz.isAgg5
  z5 := Tryz.sizeOf5
  v5 := Tryz.zeroValue5
  infoByte := by kernel_rfl
  cellsByte := by kernel_rfl
  sizeByte := by kernel_rfl
  neB5 := by decide }
open Go.RowKit Go.Lib in
theorem Tryz.strings_IndexFunc_grows (g : Nat) (lb : Array Value) (eg : ∀ args w, (callFunc g args).run Tryz.prog w = .ok (.enter g args) w) (p : Nat → Bool) (s : ByteArray) (w : World) (hp : PredGrows Tryz.prog g lb p w) :
    Calls Tryz.prog 146 #[.string s, .func (.func g) #[] lb] w fun e w' => e = .returned (.int .i64 (Lib.idxFunc p true s)) ∧ Below w.heap.size w w' := Any.strings_IndexFunc_grows Tryz.laysGw15 g lb eg p s w hp
open Go.RowKit Go.Lib in
theorem Tryz.strings_Map_grows (g : Nat) (lb : Array Value) (eg : ∀ args w, (callFunc g args).run Tryz.prog w = .ok (.enter g args) w) (f : Int → Int) (s : ByteArray) (w : World) (hs : s.size < 35184372088832) (hf : MapGrows Tryz.prog g lb f w) (hnn : ∀ x : Nat, x ≤ 1114111 → -2147483648 ≤ f x ∧ f x ≤ 2147483647) (hT : Lib.Utf8Tabs 1 2 w) :
    Calls Tryz.prog 131 #[.func (.func g) #[] lb, .string s] w fun e w' => e = .returned (.string ⟨(Lib.mapD f s.data.toList).toArray⟩) ∧ Below w.heap.size w w' := Any.strings_Map_grows Tryz.lays230 Tryz.Builder_Extra_230 g lb eg f s w hs hf hnn hT
end Go.Proofs
namespace Go.Proofs.YtgnkmfjleecmfaaGreatDoor
open Go.RowKit

theorem digN_iff (x : Nat) (b : Bool) (h : digN x = b) : digN x = b := h
theorem fields_digit (x : Nat) (w : World) : Calls Tryz.prog 134 #[.int .i32 (x : Int)] w fun e w' => e = .returned (.bool (digN x)) ∧ w' = w := by
  by_cases h1 : x < 48
  · have H : Hid (digN x = false) := Lib.hid (by unfold digN; rw [decide_eq_false (by omega)]; rfl)
    go_enter Tryz.func134, Tryz.ntmps134
    go_wp2_with fail
    go_ret
    exact ⟨ret_bool H.out.symm, rfl⟩
  · by_cases h2 : 57 < x
    · have H : Hid (digN x = false) := Lib.hid (by unfold digN; rw [decide_eq_false (show ¬ x ≤ 57 by omega), Bool.and_false])
      have t1 : decide ((x : Int) ≤ 57) = false := by simp; omega
      go_enter Tryz.func134, Tryz.ntmps134
      go_wp2_with fail
      go_ret
      exact ⟨ret_bool H.out.symm, rfl⟩
    · have H : Hid (digN x = true) := Lib.hid (by unfold digN; rw [decide_eq_true (show x ≤ 57 by omega), decide_eq_true (show 48 ≤ x by omega)]; rfl)
      have t1 : decide ((x : Int) ≤ 57) = true := by simp; omega
      go_enter Tryz.func134, Tryz.ntmps134
      go_wp2_with fail
      go_ret
      exact ⟨ret_bool H.out.symm, rfl⟩
theorem fields_named (x : Nat) (w : World) : Calls Tryz.prog 150 #[.int .i32 (x : Int)] w fun e w' => e = .returned (.bool (namedN x)) ∧ w' = w := by
  by_cases h1 : x < 97
  · have hl : letN x = false := by unfold letN; rw [decide_eq_false (by omega)]; rfl
    cases hd : digN x with
    | true =>
      have hcon := fun w => fields_digit x w
      rw [hd] at hcon
      have H : Hid (namedN x = true) := Lib.hid (by unfold namedN; rw [hl, hd]; rfl)
      have Hcon := Lib.hid hcon
      clear hd hcon hl
      go_enter Tryz.func150, Tryz.ntmps150
      go_wp2_with (go_at_call 134; refine (Hcon.out _).mono ?_; rintro e w' ⟨rfl, rfl⟩)
      go_ret
      exact ⟨ret_bool H.out.symm, rfl⟩
    | false =>
      have hcon := fun w => fields_digit x w
      rw [hd] at hcon
      have H : Hid (namedN x = decide ((x : Int) = 45)) := Lib.hid (by
        unfold namedN; rw [hl, hd, Bool.false_or, Bool.false_or, Bool.eq_iff_iff, beq_iff_eq, decide_eq_true_iff]; omega)
      have Hcon := Lib.hid hcon
      clear hd hcon hl
      by_cases h45 : x = 45
      · have t : ((x : Int) == 45) = true := by rw [beq_iff_eq]; omega
        have H2 : Hid (namedN x = true) := Lib.hid (H.out.trans (decide_eq_true (by omega)))
        clear h45 H
        go_enter Tryz.func150, Tryz.ntmps150
        go_wp2_with (go_at_call 134; refine (Hcon.out _).mono ?_; rintro e w' ⟨rfl, rfl⟩)
        go_ret
        exact ⟨ret_bool H2.out.symm, rfl⟩
      · have t : ((x : Int) == 45) = false := by rw [beq_eq_false_iff_ne]; omega
        go_enter Tryz.func150, Tryz.ntmps150
        go_wp2_with (go_at_call 134; refine (Hcon.out _).mono ?_; rintro e w' ⟨rfl, rfl⟩)
        go_ret
        exact ⟨ret_bool (by rw [H.out, decide_eq_false (by omega)]), rfl⟩
  · by_cases h2 : 122 < x
    · have hl : letN x = false := by unfold letN; rw [decide_eq_false (show ¬ x ≤ 122 by omega), Bool.and_false]
      have hd : digN x = false := by unfold digN; rw [decide_eq_false (show ¬ x ≤ 57 by omega), Bool.and_false]
      have H : Hid (namedN x = false) := Lib.hid (by unfold namedN; rw [hl, hd, show (x == 45) = false by rw [beq_eq_false_iff_ne]; omega]; rfl)
      have t1 : decide ((x : Int) ≤ 122) = false := by simp; omega
      have t2 : ((x : Int) == 45) = false := by rw [beq_eq_false_iff_ne]; omega
      have hcon := fun w => fields_digit x w
      rw [hd] at hcon
      have Hcon := Lib.hid hcon
      clear hd hcon hl
      go_enter Tryz.func150, Tryz.ntmps150
      go_wp2_with (go_at_call 134; refine (Hcon.out _).mono ?_; rintro e w' ⟨rfl, rfl⟩)
      go_ret
      exact ⟨ret_bool H.out.symm, rfl⟩
    · have hl : letN x = true := by unfold letN; rw [decide_eq_true (show x ≤ 122 by omega), decide_eq_true (show 97 ≤ x by omega)]; rfl
      have H : Hid (namedN x = true) := Lib.hid (by unfold namedN; rw [hl]; rfl)
      have t1 : decide ((x : Int) ≤ 122) = true := by simp; omega
      clear hl
      go_enter Tryz.func150, Tryz.ntmps150
      go_wp2_with fail
      go_ret
      exact ⟨ret_bool H.out.symm, rfl⟩
theorem all1_digit (x B : Nat) (w : World) (hc : w.cell? ⟨B, 0, none⟩ = some (.func (.func 134) #[] #[])) :
    Calls Tryz.prog 170 #[.int .i32 (x : Int), .pointer (some ⟨B, 0, none⟩)] w fun e w' => e = .returned (.bool (!digN x)) ∧ w' = w := by
  go_enter Tryz.func170, Tryz.ntmps170
  go_wp2_with (go_at_call 134; refine (fields_digit _ _).mono ?_; rintro e w' ⟨rfl, rfl⟩)
  go_ret
  exact ⟨rfl, rfl⟩
theorem all1_named (x B : Nat) (w : World) (hc : w.cell? ⟨B, 0, none⟩ = some (.func (.func 150) #[] #[])) :
    Calls Tryz.prog 170 #[.int .i32 (x : Int), .pointer (some ⟨B, 0, none⟩)] w fun e w' => e = .returned (.bool (!namedN x)) ∧ w' = w := by
  go_enter Tryz.func170, Tryz.ntmps170
  go_wp2_with (go_at_call 150; refine (fields_named _ _).mono ?_; rintro e w' ⟨rfl, rfl⟩)
  go_ret
  exact ⟨rfl, rfl⟩

theorem idx_digit (s : ByteArray) (B : Nat) (w : World) (hB : B < w.heap.size) (hc : w.cell? ⟨B, 0, none⟩ = some (.func (.func 134) #[] #[])) :
    Calls Tryz.prog 146 #[.string s, .func (.func 170) #[] #[.pointer (some ⟨B, 0, none⟩)]] w fun e w' => e = .returned (.int .i64 (Lib.idxFunc (fun x => !digN x) true s)) ∧ Below w.heap.size w w' :=
  Tryz.strings_IndexFunc_grows 170 #[.pointer (some ⟨B, 0, none⟩)] (enters_of Tryz.func170 (by kernel_rfl) rfl) (fun x => !digN x) s w
    (fun W x _ hb => (all1_digit x B W ((hb.cell (p := ⟨B, 0, none⟩) hB).trans hc)).mono fun e w' ⟨he, hw⟩ => ⟨he, hw ▸ Below.refl _ _⟩)
theorem idx_named (s : ByteArray) (B : Nat) (w : World) (hB : B < w.heap.size) (hc : w.cell? ⟨B, 0, none⟩ = some (.func (.func 150) #[] #[])) :
    Calls Tryz.prog 146 #[.string s, .func (.func 170) #[] #[.pointer (some ⟨B, 0, none⟩)]] w fun e w' => e = .returned (.int .i64 (Lib.idxFunc (fun x => !namedN x) true s)) ∧ Below w.heap.size w w' :=
  Tryz.strings_IndexFunc_grows 170 #[.pointer (some ⟨B, 0, none⟩)] (enters_of Tryz.func170 (by kernel_rfl) rfl) (fun x => !namedN x) s w
    (fun W x _ hb => (all1_named x B W ((hb.cell (p := ⟨B, 0, none⟩) hB).trans hc)).mono fun e w' ⟨he, hw⟩ => ⟨he, hw ▸ Below.refl _ _⟩)

theorem all_digit_eq (s : ByteArray) : decide (Lib.idxFunc (fun x => !digN x) true s < 0) = s.data.toList.all (fun c => digN c.toNat) := by
  rw [idx_all _ (fun x h => by rw [digN_ge x h]; rfl)]; simp
theorem all_named_eq (s : ByteArray) : decide (Lib.idxFunc (fun x => !namedN x) true s < 0) = s.data.toList.all (fun c => namedN c.toNat) := by
  rw [idx_all _ (fun x h => by rw [namedN_ge x h]; rfl)]; simp

theorem below_box (w : World) (v : Value) (t : TypeId) : Below w.heap.size w (w.alloc (.cells #[v] t)) := (Below.refl _ _).alloc (Nat.le_refl _) _
theorem box_lt (w : World) (v : Value) (t : TypeId) : w.heap.size < (w.alloc (.cells #[v] t)).heap.size := by simp
theorem box_cell (w : World) (v : Value) (t : TypeId) : (w.alloc (.cells #[v] t)).cell? ⟨w.heap.size, 0, none⟩ = some v := by
  have h : (w.alloc (.cells #[v] t)).heap[w.heap.size]? = some (.cells #[v] t) := by
    show (w.heap.push _)[w.heap.size]? = _
    simp
  unfold World.cell?
  rw [h]; rfl

theorem fields_all_digit (s : ByteArray) (w : World) :
    Calls Tryz.prog 133 #[.string s, .func (.func 134) #[] #[]] w fun e w' => e = .returned (.bool (s.data.toList.all (fun c => digN c.toNat))) ∧ Below w.heap.size w w' := by
  have H := Lib.hid (all_digit_eq s)
  obtain ⟨i, hi⟩ : ∃ i, i = Lib.idxFunc (fun x => !digN x) true s := ⟨_, rfl⟩
  have HI := Lib.hid (fun B w hB hc => hi ▸ idx_digit s B w hB hc)
  rw [← hi] at H
  clear hi
  go_enter Tryz.func133, Tryz.ntmps133
  go_wp2_with fail
  refine (HI.out _ _ (box_lt _ _ _) (box_cell _ _ _)).mono ?_
  rintro e w1 ⟨rfl, hb⟩
  go_wp2_with fail
  go_ret
  exact ⟨ret_bool H.out, bstep (below_box _ _ _) hb⟩
theorem fields_all_named (s : ByteArray) (w : World) :
    Calls Tryz.prog 133 #[.string s, .func (.func 150) #[] #[]] w fun e w' => e = .returned (.bool (s.data.toList.all (fun c => namedN c.toNat))) ∧ Below w.heap.size w w' := by
  have H := Lib.hid (all_named_eq s)
  obtain ⟨i, hi⟩ : ∃ i, i = Lib.idxFunc (fun x => !namedN x) true s := ⟨_, rfl⟩
  have HI := Lib.hid (fun B w hB hc => hi ▸ idx_named s B w hB hc)
  rw [← hi] at H
  clear hi
  go_enter Tryz.func133, Tryz.ntmps133
  go_wp2_with fail
  refine (HI.out _ _ (box_lt _ _ _) (box_cell _ _ _)).mono ?_
  rintro e w1 ⟨rfl, hb⟩
  go_wp2_with fail
  go_ret
  exact ⟨ret_bool H.out, bstep (below_box _ _ _) hb⟩

theorem fields_name (s : ByteArray) (w : World) :
    Calls Tryz.prog 119 #[.string s] w fun e w' => e = .returned (.bool (nameL s.data.toList)) ∧ Below w.heap.size w w' := by
  by_cases he : s.size = 0
  · have H : Hid (nameL s.data.toList = false) := Lib.hid (by
      unfold nameL; rw [List.length_eq_zero_iff.1 (show s.data.toList.length = 0 by rw [size_len]; exact he)]; rfl)
    have t : s.toList.isEmpty = true := by
      rw [ByteArray.toList_eq, List.isEmpty_iff]; exact List.length_eq_zero_iff.1 (by rw [size_len]; exact he)
    go_enter Tryz.func119, Tryz.ntmps119
    go_wp2_with fail
    go_ret
    exact ⟨ret_bool H.out.symm, Below.refl _ _⟩
  · have t : s.toList.isEmpty = false := by
      rw [ByteArray.toList_eq, Bool.eq_false_iff, Ne, List.isEmpty_iff]; intro e; exact he (by rw [← size_len, e]; rfl)
    by_cases h32 : 32 < s.size
    · have H : Hid (nameL s.data.toList = false) := Lib.hid (by
        unfold nameL; rw [decide_eq_false (by rw [size_len]; omega), Bool.and_false, Bool.false_and])
      have t1 : decide ((s.size : Int) ≤ 32) = false := by simp; omega
      go_enter Tryz.func119, Tryz.ntmps119
      go_wp2_with fail
      go_ret
      exact ⟨ret_bool H.out.symm, Below.refl _ _⟩
    · have H : Hid (nameL s.data.toList = s.data.toList.all (fun c => namedN c.toNat)) := Lib.hid (by
        unfold nameL; rw [decide_eq_true (by rw [size_len]; omega), ← ByteArray.toList_eq, t]; rfl)
      have t1 : decide ((s.size : Int) ≤ 32) = true := by simp; omega
      have HA := Lib.hid (fun w => fields_all_named s w)
      obtain ⟨b, hb⟩ : ∃ b, b = s.data.toList.all (fun c => namedN c.toNat) := ⟨_, rfl⟩
      rw [← hb] at H HA
      clear hb
      cases b
      all_goals
        go_enter Tryz.func119, Tryz.ntmps119
        go_wp2_with fail
        refine (HA.out _).mono ?_
        rintro e w1 ⟨rfl, hb1⟩
        go_wp2_with fail
        go_ret
        exact ⟨ret_bool H.out.symm, hb1⟩

theorem fields_plain (s : ByteArray) (w : World) (hs : s.size ≤ 9223372036854775807) :
    Calls Tryz.prog 120 #[.string s] w fun e w' => e = .returned (.bool (s.data.toList.all (fun c => plainB c.toNat))) ∧ w' = w := by
  have hp := fun w => lines_put s w hs
  obtain ⟨L, hL⟩ : ∃ L, L = putLine s := ⟨_, rfl⟩
  rw [← hL] at hp
  cases hb : s.data.toList.all (fun c => plainB c.toNat) with
  | true =>
    obtain ⟨E, hE⟩ : ∃ E, E = putErr s.data.toList := ⟨_, rfl⟩
    have h4 : E ≠ 4 := by rw [hE]; unfold putErr; rw [if_neg (by rw [hb]; decide)]; split <;> decide
    rw [← hE] at hp
    have HP := Lib.hid hp
    have t : ((E : Int) != 4) = true := by rw [bne_iff_ne]; omega
    clear hp hE hb hL h4
    go_enter Tryz.func120, Tryz.ntmps120
    go_wp2_with (go_at_call 86; refine (HP.out _).mono ?_; rintro e w' ⟨rfl, rfl⟩)
    go_ret
    exact ⟨ret_bool rfl, rfl⟩
  | false =>
    rw [show putErr s.data.toList = 4 from if_pos hb] at hp
    have HP := Lib.hid hp
    clear hp hb hL
    go_enter Tryz.func120, Tryz.ntmps120
    go_wp2_with (go_at_call 86; refine (HP.out _).mono ?_; rintro e w' ⟨rfl, rfl⟩)
    go_ret
    exact ⟨ret_bool rfl, rfl⟩
end Go.Proofs.YtgnkmfjleecmfaaGreatDoor
namespace Go.Proofs.YtgnkmfjleecmfaaGreatDoor
open Go.RowKit

def stepD (n : Nat) (c : UInt8) : Nat := n * 10 + (c.toNat - 48)
/-- the number that digits spell -/
def decV (l : List UInt8) : Nat := l.foldl stepD 0
def digAll (l : List UInt8) : Bool := l.all (fun c => digN c.toNat)
def lead0 (l : List UInt8) : Bool := decide (1 < l.length) && l.head? == some 48
def numBad (l : List UInt8) : Bool := l.isEmpty || !digAll l || lead0 l
def numE (l : List UInt8) : Nat := if numBad l = true then 4 else if 9007199254740991 < decV l then 11 else 0
def numV (l : List UInt8) : Nat := if numE l = 0 then decV l else 0

theorem digN_bd (n : Nat) (h : digN n = true) : 48 ≤ n ∧ n ≤ 57 := by
  unfold digN at h; simp only [Bool.and_eq_true, decide_eq_true_eq] at h; exact h
theorem digN_not (n : Nat) (h : digN n = false) : n < 48 ∨ 57 < n := by
  unfold digN at h; simp only [Bool.and_eq_false_iff, decide_eq_false_iff_not] at h; omega
theorem digN_mk (n : Nat) (h : 48 ≤ n) (h2 : n ≤ 57) : digN n = true := by
  unfold digN; rw [decide_eq_true h, decide_eq_true h2]; rfl
theorem fold_ge (l : List UInt8) : ∀ acc, acc ≤ l.foldl stepD acc := by
  induction l with
  | nil => intro acc; exact Nat.le_refl _
  | cons c t ih => intro acc; refine Nat.le_trans ?_ (ih (stepD acc c)); unfold stepD; omega
theorem decV_snoc (l : List UInt8) (c : UInt8) : decV (l ++ [c]) = decV l * 10 + (c.toNat - 48) := by
  unfold decV; rw [List.foldl_append]; rfl
theorem decV_take_le (l : List UInt8) (k : Nat) : decV (l.take k) ≤ decV l := by
  have h : decV l = (l.drop k).foldl stepD (decV (l.take k)) := by
    unfold decV; rw [← List.foldl_append, List.take_append_drop]
  rw [h]; exact fold_ge _ _
theorem parse_dec (l : List UInt8) : ∀ acc, acc < 18446744073709551616 → digAll l = true → Go.Lib.parseUint10 acc l = if l.foldl stepD acc < 18446744073709551616 then .ok (l.foldl stepD acc) else .range := by
  induction l with
  | nil => intro acc h _; show Go.Lib.NumEnd.ok acc = if acc < 18446744073709551616 then Go.Lib.NumEnd.ok acc else _; rw [if_pos h]
  | cons c t ih =>
    intro acc h hd
    have hc : digN c.toNat = true ∧ digAll t = true := by unfold digAll at hd; rw [List.all_cons, Bool.and_eq_true] at hd; exact hd
    have hb := digN_bd _ hc.1
    have hg := fold_ge t (stepD acc c)
    show (if 48 ≤ c.toNat ∧ c.toNat ≤ 57 then _ else _) = _
    rw [if_pos hb]
    have e : (c :: t).foldl stepD acc = t.foldl stepD (stepD acc c) := rfl
    rw [e]
    have es : stepD acc c = acc * 10 + (c.toNat - 48) := rfl
    by_cases h1 : 1844674407370955162 ≤ acc
    · rw [if_pos h1, if_neg (by omega)]
    · rw [if_neg h1]
      by_cases h2 : 18446744073709551616 ≤ acc * 10 + (c.toNat - 48)
      · rw [if_pos h2, if_neg (by omega)]
      · rw [if_neg h2]
        exact ih (stepD acc c) (by omega) hc.2
theorem atoi_dec (l : List UInt8) (h0 : l ≠ []) (hd : digAll l = true) : Go.Lib.atoiAll l = if decV l < 9223372036854775808 then .ok (decV l : Int) else .range := by
  cases l with
  | nil => exact absurd rfl h0
  | cons c t =>
    have hc : digN c.toNat = true := by unfold digAll at hd; rw [List.all_cons, Bool.and_eq_true] at hd; exact hd.1
    have hb := digN_bd _ hc
    have hp := parse_dec (c :: t) 0 (by decide) hd
    change Go.Lib.parseUint10 0 (c :: t) = if decV (c :: t) < _ then .ok (decV (c :: t)) else _ at hp
    unfold Go.Lib.atoiAll
    simp only []
    rw [if_neg (show ¬ (c.toNat = 43 ∨ c.toNat = 45) by omega)]
    unfold Go.Lib.parseMag
    rw [if_neg (by simp), hp]
    by_cases h1 : decV (c :: t) < 18446744073709551616
    · rw [if_pos h1]
      by_cases h2 : decV (c :: t) < 9223372036854775808
      · simp only []
        rw [if_pos h2, if_neg (by omega), if_neg (by omega), if_neg (by omega)]
      · simp only []
        rw [if_neg h2, if_pos (by omega)]
    · rw [if_neg h1, if_neg (by omega)]

/-- a number's digits: all digits, no zero ahead of others, and they tell it -/
theorem dec_digit (k : Nat) (h : k < 10) : (UInt8.ofNat (48 + k)).toNat = 48 + k := by
  rw [UInt8.toNat_ofNat']; omega
theorem decDigits_ne (n : Nat) : Go.Lib.decDigits n ≠ [] := by
  rw [Go.Lib.decDigits]; split <;> simp
theorem decDigits_all (n : Nat) : digAll (Go.Lib.decDigits n) = true := by
  induction n using Nat.strongRecOn with
  | ind n ih =>
    rw [Go.Lib.decDigits]
    split
    · rename_i h
      unfold digAll; rw [List.all_cons, dec_digit n h, digN_mk _ (by omega) (by omega)]; rfl
    · have := ih (n / 10) (by omega)
      unfold digAll at this ⊢
      rw [List.all_append, this, List.all_cons, dec_digit (n % 10) (by omega), digN_mk _ (by omega) (by omega)]; rfl
theorem decV_decDigits (n : Nat) : decV (Go.Lib.decDigits n) = n := by
  induction n using Nat.strongRecOn with
  | ind n ih =>
    rw [Go.Lib.decDigits]
    split
    · rename_i h
      show stepD 0 _ = n
      unfold stepD; rw [dec_digit n h]; omega
    · rw [decV_snoc, ih (n / 10) (by omega), dec_digit (n % 10) (by omega)]; omega
theorem decDigits_head (n : Nat) (h : 0 < n) : ∀ c, (Go.Lib.decDigits n).head? = some c → c ≠ 48 := by
  induction n using Nat.strongRecOn with
  | ind n ih =>
    intro c
    rw [Go.Lib.decDigits]
    split
    · rename_i h10
      intro e hc
      simp only [List.head?_cons, Option.some.injEq] at e
      have := dec_digit n h10
      rw [e, hc] at this
      have : (48 : UInt8).toNat = 48 := rfl
      omega
    · intro e
      have hn := decDigits_ne (n / 10)
      refine ih (n / 10) (by omega) (by omega) c ?_
      rw [← e]
      cases hd : Go.Lib.decDigits (n / 10) with
      | nil => exact absurd hd hn
      | cons a t => rfl
theorem numBad_dec (n : Nat) : numBad (Go.Lib.decDigits n) = false := by
  unfold numBad
  rw [decDigits_all]
  have h1 : (Go.Lib.decDigits n).isEmpty = false := by
    rw [Bool.eq_false_iff, Ne, List.isEmpty_iff]; exact decDigits_ne n
  rw [h1]
  unfold lead0
  by_cases h0 : n < 10
  · rw [Go.Lib.decDigits, dif_pos h0]; rfl
  · have : ((Go.Lib.decDigits n).head? == some 48) = false := by
      rw [beq_eq_false_iff_ne]; intro e; exact decDigits_head n (by omega) 48 e rfl
    rw [this, Bool.and_false]; rfl
/-- digits without a zero ahead are the digits of their number -/
theorem lead0_snoc (l : List UInt8) (c : UInt8) (h : lead0 (l ++ [c]) = false) (h0 : l ≠ []) : l.head? ≠ some 48 := by
  intro e
  unfold lead0 at h
  cases l with
  | nil => exact h0 rfl
  | cons a t =>
    simp at e
    subst e
    simp at h
theorem decDigits_pos (l : List UInt8) (h0 : l ≠ []) (hd : digAll l = true) (hl : l.head? ≠ some 48) : 0 < decV l := by
  cases l with
  | nil => exact absurd rfl h0
  | cons c t =>
    have hc : digN c.toNat = true := by unfold digAll at hd; rw [List.all_cons, Bool.and_eq_true] at hd; exact hd.1
    have hb := digN_bd _ hc
    have hne : c.toNat ≠ 48 := by
      intro e; apply hl; rw [List.head?_cons]; congr 1; exact UInt8.toNat_inj.1 e
    have := fold_ge t (stepD 0 c)
    have e : decV (c :: t) = t.foldl stepD (stepD 0 c) := rfl
    have es : stepD 0 c = 0 * 10 + (c.toNat - 48) := rfl
    omega
theorem decDigits_decV (l : List UInt8) (k : Nat) : l.length ≤ k → numBad l = false → Go.Lib.decDigits (decV l) = l := by
  induction k generalizing l with
  | zero =>
    intro hk hb
    have : l = [] := List.length_eq_zero_iff.1 (by omega)
    subst this; simp [numBad] at hb
  | succ k ih =>
    intro hk hb
    unfold numBad at hb
    simp only [Bool.or_eq_false_iff, Bool.not_eq_false'] at hb
    obtain ⟨⟨h1, h2⟩, h3⟩ := hb
    have hne : l ≠ [] := by intro e; rw [e] at h1; exact absurd h1 (by decide)
    obtain ⟨t, c, rfl⟩ : ∃ t c, l = t ++ [c] := ⟨l.dropLast, l.getLast hne, (List.dropLast_concat_getLast hne).symm⟩
    have hc : digAll t = true ∧ digN c.toNat = true := by
      unfold digAll at h2 ⊢; rw [List.all_append, Bool.and_eq_true, List.all_cons, Bool.and_eq_true] at h2; exact ⟨h2.1, h2.2.1⟩
    have hb := digN_bd _ hc.2
    have ec : UInt8.ofNat (48 + (c.toNat - 48)) = c := by
      rw [show 48 + (c.toNat - 48) = c.toNat by omega]; exact UInt8.ofNat_toNat
    rw [decV_snoc]
    by_cases ht : t = []
    · subst ht
      show Go.Lib.decDigits (0 * 10 + (c.toNat - 48)) = [c]
      rw [Go.Lib.decDigits, dif_pos (by omega), Nat.zero_mul, Nat.zero_add, ec]
    · have hl := lead0_snoc t c h3 ht
      have hp := decDigits_pos t ht hc.1 hl
      have hbt : numBad t = false := by
        unfold numBad lead0
        rw [hc.1, (by rw [Bool.eq_false_iff, Ne, List.isEmpty_iff]; exact ht : t.isEmpty = false), (by rw [beq_eq_false_iff_ne]; exact hl : (t.head? == some 48) = false), Bool.and_false]; rfl
      rw [Go.Lib.decDigits, dif_neg (by omega), show (decV t * 10 + (c.toNat - 48)) / 10 = decV t by omega, show (decV t * 10 + (c.toNat - 48)) % 10 = c.toNat - 48 by omega, ec, ih t (by simp at hk; omega) hbt]
end Go.Proofs.YtgnkmfjleecmfaaGreatDoor
namespace Go.Proofs.YtgnkmfjleecmfaaGreatDoor
theorem g_pow10 : Tryz.prog.globalNamed "internal/strconv.uint64pow10" = some 5 := by kernel_rfl
end Go.Proofs.YtgnkmfjleecmfaaGreatDoor
namespace Go.Proofs.YtgnkmfjleecmfaaGreatDoor
open Go.RowKit

/-- what the library's variables hold, carried along a call -/
structure EnvF (w : World) : Prop where
  m : ∃ m, w.cell? ⟨0, 0, none⟩ = some (.int .i64 m)
  mlt : 0 < w.heap.size
  tabs : Lib.Utf8Tabs 1 2 w
  pow : Go.Lib.TabIs Tryz.prog w "internal/strconv.uint64pow10" .u64 Go.Lib.pow10Tab
  big : 5 < w.heap.size
  rng : ∃ tp p, w.cell? ⟨4, 0, none⟩ = some (.iface tp p)
  rlt : 4 < w.heap.size
theorem EnvF.below {w w' : World} (h : EnvF w) (hb : Below w.heap.size w w') : EnvF w' :=
  ⟨let ⟨m, hm⟩ := h.m; ⟨m, (hb.cell (p := ⟨0, 0, none⟩) h.mlt).trans hm⟩, Nat.lt_of_lt_of_le h.mlt hb.size, Utf8Tabs_below h.tabs hb, var?_below hb g_pow10 h.big h.pow, Nat.lt_of_lt_of_le h.big hb.size,
   let ⟨t, p, hp⟩ := h.rng; ⟨t, p, (hb.cell (p := ⟨4, 0, none⟩) h.rlt).trans hp⟩, Nat.lt_of_lt_of_le h.rlt hb.size⟩

end Go.Proofs.YtgnkmfjleecmfaaGreatDoor
namespace Go.Proofs.YtgnkmfjleecmfaaGreatDoor
open Go.RowKit

theorem c_itoa (n : Int) (h0 : -9223372036854775808 ≤ n) (h1 : n ≤ 9223372036854775807) (w : World) (hE : EnvF w) :
    Calls Tryz.prog 115 #[.int .i64 n] w fun e w' => e = .returned (.string (bs (Go.Lib.itoa n))) ∧ Below w.heap.size w w' :=
  (Tryz.strconv_Itoa n h0 h1 w hE.pow).mono fun _ _ ⟨he, k, os, hw⟩ => ⟨he, hw ▸ ⟨rfl, rfl, rfl, by
    show w.heap.size ≤ (w.heap ++ os).size
    simp, fun j hj => by
    show (w.heap ++ os)[j]? = w.heap[j]?
    rw [Array.getElem?_append_left hj]⟩⟩
theorem c_atoi_ok (s : ByteArray) (hs : s.size ≤ 1000000) (v : Int) (h : Go.Lib.atoiAll s.data.toList = .ok v) (w : World) :
    Calls Tryz.prog 129 #[.string s] w fun e w' => e = .returned (.tuple #[.int .i64 v, .nilIface]) ∧ Below w.heap.size w w' :=
  (Tryz.strconv_Atoi_ok s (by omega) v h w).mono fun _ _ ⟨he, hw⟩ => ⟨he, by
    rcases hw with rfl | ⟨t, rfl⟩
    · exact Below.refl _ _
    · exact Go.Lib.bytesWorld_below _ _ _⟩
def NumErr (w : World) (e : Ending) (w' : World) : Prop := ∃ n t a, e = .returned (.tuple #[.int .i64 n, .iface t (.pointer (some a))]) ∧ Below w.heap.size w w'
theorem c_atoi_range (s : ByteArray) (hs : s.size ≤ 1000000) (h : Go.Lib.atoiAll s.data.toList = .range) (w : World) (hE : EnvF w) :
    Calls Tryz.prog 129 #[.string s] w (NumErr w) := by
  obtain ⟨tp, p, hv⟩ := hE.rng
  exact (Tryz.strconv_Atoi_range s (by omega) h _ w hv (.inr ⟨tp, p, rfl⟩)).mono fun _ _ ⟨N, he, _, _, hb⟩ => ⟨_, _, _, he, hb⟩

/-- a number's digits; of none below 0 -/
def digL (n : Int) : List UInt8 := if n < 0 then [] else Go.Lib.decDigits n.toNat
theorem fields_digits (n : Int) (h0 : -9223372036854775808 ≤ n) (h1 : n ≤ 9223372036854775807) (w : World) (hE : EnvF w) :
    Calls Tryz.prog 83 #[.int .i64 n] w fun e w' => e = .returned (.string (bs (digL n))) ∧ Below w.heap.size w w' := by
  by_cases hn : n < 0
  · have H : Hid (digL n = []) := Lib.hid (if_pos hn)
    clear hE
    go_enter Tryz.func83, Tryz.ntmps83
    go_wp2_with fail
    go_ret
    exact ⟨by rw [H.out]; rfl, Below.refl _ _⟩
  · have H : Hid (digL n = Go.Lib.itoa n) := Lib.hid (by unfold digL Go.Lib.itoa; rw [if_neg hn, if_neg hn])
    have HI := Lib.hid (c_itoa n h0 h1 w hE)
    clear hE
    go_enter Tryz.func83, Tryz.ntmps83
    go_wp2_with fail
    refine HI.out.mono ?_
    rintro e w1 ⟨rfl, hb⟩
    go_wp2_with fail
    go_ret
    exact ⟨by rw [H.out]; rfl, hb⟩

theorem numE_bad (l : List UInt8) (h : numBad l = true) : numE l = 4 ∧ numV l = 0 := by
  have h1 : numE l = 4 := if_pos h
  exact ⟨h1, by unfold numV; rw [h1]; rfl⟩
theorem numE_over (l : List UInt8) (h : numBad l = false) (h2 : 9007199254740991 < decV l) : numE l = 11 ∧ numV l = 0 := by
  have h1 : numE l = 11 := by unfold numE; rw [h, if_neg (by decide), if_pos h2]
  exact ⟨h1, by unfold numV; rw [h1]; rfl⟩
theorem numE_ok (l : List UInt8) (h : numBad l = false) (h2 : ¬ 9007199254740991 < decV l) : numE l = 0 ∧ numV l = decV l := by
  have h1 : numE l = 0 := by unfold numE; rw [h, if_neg (by decide), if_neg h2]
  exact ⟨h1, by unfold numV; rw [h1]; rfl⟩
theorem ret_nums {a a' b b' : Int} (h : a = a') (h2 : b = b') : Ending.returned (.tuple #[.int .i64 a, .int .i64 b]) = .returned (.tuple #[.int .i64 a', .int .i64 b']) := by rw [h, h2]
theorem lead0_size (s : ByteArray) (h : 1 < s.size) (h2 : s[0] = 48) : lead0 s.data.toList = true := by
  unfold lead0
  rw [size_len, decide_eq_true h, List.head?_eq_getElem?, List.getElem?_eq_getElem (by rw [size_len]; omega)]
  show ((some s[0]) == some 48) = true
  rw [h2]; rfl
theorem lead0_not (s : ByteArray) (h : ¬ ∃ h : 1 < s.size, s[0] = 48) : lead0 s.data.toList = false := by
  unfold lead0
  by_cases h1 : 1 < s.size
  · rw [size_len, decide_eq_true h1, List.head?_eq_getElem?, List.getElem?_eq_getElem (by rw [size_len]; omega)]
    show (true && (some s[0]) == some 48) = false
    rw [Bool.true_and, beq_eq_false_iff_ne]
    intro e
    exact h ⟨h1, Option.some.inj e⟩
  · rw [size_len, decide_eq_false h1]; rfl

set_option maxRecDepth 100000 in
set_option maxHeartbeats 2000000 in
theorem fields_number (s : ByteArray) (w : World) (hs : s.size ≤ 1000000) (hE : EnvF w) :
    Calls Tryz.prog 96 #[.string s] w fun e w' => e = .returned (.tuple #[.int .i64 (numV s.data.toList), .int .i64 (numE s.data.toList)]) ∧ Below w.heap.size w w' := by
  have HE := Lib.hid hE
  clear hE
  obtain ⟨l, hl⟩ : ∃ l, l = s.data.toList := ⟨_, rfl⟩
  have hsl : l.length = s.size := by rw [hl]; exact size_len s
  have HA := Lib.hid (fun w => fields_all_digit s w)
  have hlead1 := fun h h2 => lead0_size s h h2
  have hlead2 := fun h => lead0_not s h
  have hok := fun v (h : Go.Lib.atoiAll s.data.toList = .ok v) w => c_atoi_ok s hs v h w
  have hrg := fun (h : Go.Lib.atoiAll s.data.toList = .range) w hE => c_atoi_range s hs h w hE
  rw [← hl] at HA hlead1 hlead2 hok hrg ⊢
  by_cases h0 : s.size = 0
  · have H := Lib.hid (numE_bad l (by rw [List.length_eq_zero_iff.1 (show l.length = 0 by omega)]; rfl))
    have t : s.toList.isEmpty = true := by
      rw [ByteArray.toList_eq, List.isEmpty_iff]; exact List.length_eq_zero_iff.1 (by rw [size_len]; exact h0)
    clear hl hsl hlead1 hlead2 hok hrg h0
    go_enter Tryz.func96, Tryz.ntmps96
    go_wp2_with fail
    go_ret2
    exact ⟨ret_nums (by rw [H.out.2]; rfl) (by rw [H.out.1]; rfl), Below.refl _ _⟩
  · have t : s.toList.isEmpty = false := by
      rw [ByteArray.toList_eq, Bool.eq_false_iff, Ne, List.isEmpty_iff]; intro e; exact h0 (by rw [← size_len, e]; rfl)
    have he : l.isEmpty = false := by rw [hl, ← ByteArray.toList_eq]; exact t
    have hne : l ≠ [] := by intro e; rw [e] at he; exact absurd he (by decide)
    have hpos : 0 < s.size := by omega
    clear h0 hl
    cases hd : l.all (fun c => digN c.toNat) with
    | false =>
      have H := Lib.hid (numE_bad l (by unfold numBad digAll; rw [hd]; simp))
      rw [hd] at HA
      clear hsl hlead1 hlead2 hok hrg hd he hne
      go_enter Tryz.func96, Tryz.ntmps96
      go_wp2_with fail
      refine (HA.out _).mono ?_
      rintro e w1 ⟨rfl, hb⟩
      go_wp2_with fail
      go_ret2
      exact ⟨ret_nums (by rw [H.out.2]; rfl) (by rw [H.out.1]; rfl), hb⟩
    | true =>
      rw [hd] at HA
      have hda : digAll l = true := hd
      by_cases h1 : ∃ h : 1 < s.size, s[0] = 48
      · obtain ⟨h1, h48⟩ := h1
        have H := Lib.hid (numE_bad l (by unfold numBad; rw [hlead1 h1 h48, Bool.or_true]))
        have t1 : ((s[0].toNat : Int) == 48) = true := by rw [h48]; rfl
        clear hsl hlead1 hlead2 hok hrg hd he hne hda h48
        go_enter Tryz.func96, Tryz.ntmps96
        go_wp2_with fail
        refine (HA.out _).mono ?_
        rintro e w1 ⟨rfl, hb⟩
        go_wp2_with fail
        go_ret2
        exact ⟨ret_nums (by rw [H.out.2]; rfl) (by rw [H.out.1]; rfl), hb⟩
      · have hbad : numBad l = false := by unfold numBad; rw [he, hda, hlead2 h1]; rfl
        have hat := atoi_dec l hne hda
        have hov := numE_over l hbad
        have hkk := numE_ok l hbad
        by_cases h2 : 1 < s.size
        case' pos =>
          have t1 : ((s[0].toNat : Int) == 48) = false := by
            rw [beq_eq_false_iff_ne]; intro e; exact h1 ⟨h2, UInt8.toNat_inj.1 (by show _ = 48; omega)⟩
        case' neg =>
          have t1 : decide ((s.size : Int) > 1) = false := decide_eq_false (by omega)
        all_goals
          by_cases hbig : decV l < 9223372036854775808
          · rw [if_pos hbig] at hat
            have HK := Lib.hid (fun w => hok _ hat w)
            obtain ⟨n, hn⟩ : ∃ n, n = decV l := ⟨_, rfl⟩
            rw [← hn] at HK hov hkk
            clear hsl hlead1 hlead2 hok hrg hd he hne hda hat hbig hn h1 hbad
            by_cases hm : 9007199254740991 < n
            · have H := Lib.hid (hov hm)
              have t2 : decide ((n : Int) > 9007199254740991) = true := decide_eq_true (by omega)
              clear hov hkk hm
              go_enter Tryz.func96, Tryz.ntmps96
              go_wp2_with fail
              refine (HA.out _).mono ?_
              rintro e w1 ⟨rfl, hb⟩
              go_wp2_with fail
              refine (HK.out _).mono ?_
              rintro e w2 ⟨rfl, hb2⟩
              go_wp2_with fail
              go_ret2
              exact ⟨ret_nums (by rw [H.out.2]; rfl) (by rw [H.out.1]; rfl), bstep hb hb2⟩
            · have H := Lib.hid (hkk hm)
              have t2 : decide ((n : Int) > 9007199254740991) = false := decide_eq_false (by omega)
              clear hov hkk hm
              go_enter Tryz.func96, Tryz.ntmps96
              go_wp2_with fail
              refine (HA.out _).mono ?_
              rintro e w1 ⟨rfl, hb⟩
              go_wp2_with fail
              refine (HK.out _).mono ?_
              rintro e w2 ⟨rfl, hb2⟩
              go_wp2_with fail
              go_ret2
              exact ⟨ret_nums (by rw [H.out.2]) (by rw [H.out.1]; rfl), bstep hb hb2⟩
          · rw [if_neg hbig] at hat
            have HK := Lib.hid (hrg hat)
            have H := Lib.hid (hov (by omega))
            clear hsl hlead1 hlead2 hok hrg hd he hne hda hat hbig h1 hbad hov hkk
            go_enter Tryz.func96, Tryz.ntmps96
            go_wp2_with fail
            refine (HA.out _).mono ?_
            rintro e w1 ⟨rfl, hb⟩
            go_wp2_with fail
            refine (HK.out _ (HE.out.below hb)).mono ?_
            rintro e w2 ⟨n, t, a, rfl, hb2⟩
            go_wp2_with fail
            go_ret2
            exact ⟨ret_nums (by rw [H.out.2]; rfl) (by rw [H.out.1]; rfl), bstep hb hb2⟩
end Go.Proofs.YtgnkmfjleecmfaaGreatDoor
namespace Go.Proofs.YtgnkmfjleecmfaaGreatDoor
open Go.RowKit

def mostR : Int := 9007199254740990
/-- may a range be? 8: it may not -/
def rErr (a b : Int) : Nat := if a < 0 ∨ b < a ∨ 9007199254740990 < b then 8 else 0
def rLen (a b : Int) : Int := if rErr a b = 0 then b - a + 1 else 0
theorem rErr_ok (a b : Int) (h : rErr a b = 0) : 0 ≤ a ∧ a ≤ b ∧ b ≤ 9007199254740990 := by
  unfold rErr at h; split at h
  · exact absurd h (by decide)
  · omega
theorem rErr_no (a b : Int) (h : rErr a b ≠ 0) : rErr a b = 8 ∧ (a < 0 ∨ b < a ∨ 9007199254740990 < b) := by
  unfold rErr at h ⊢; split at h
  · rename_i hc; exact ⟨if_pos hc, hc⟩
  · exact absurd rfl h
def asksL : List UInt8 := [98, 121, 116, 101, 115, 61]
def tellsL : List UInt8 := [98, 121, 116, 101, 115, 32]
def textR (a b : Int) : List UInt8 := digL a ++ 45 :: digL b
def askL (a b : Int) : List UInt8 := if rErr a b = 0 then asksL ++ textR a b else []
/-- what stands ahead of a byte -/
def upTo (c : UInt8) (l : List UInt8) : List UInt8 := l.takeWhile (fun x => x != c)
def hasB (c : UInt8) (l : List UInt8) : Bool := decide ((upTo c l).length < l.length)
def behind (c : UInt8) (l : List UInt8) : List UInt8 := l.drop ((upTo c l).length + 1)
theorem upTo_le (c : UInt8) (l : List UInt8) : (upTo c l).length ≤ l.length := (List.takeWhile_prefix _).length_le
theorem upTo_take (c : UInt8) (l : List UInt8) : l.take (upTo c l).length = upTo c l := (List.prefix_iff_eq_take.1 (List.takeWhile_prefix _)).symm
theorem index_one (c : UInt8) (l : List UInt8) : Go.Lib.index l [c] = if (upTo c l).length < l.length then ((upTo c l).length : Int) else -1 := by
  induction l with
  | nil => rfl
  | cons d t ih =>
    unfold Go.Lib.index
    by_cases hc : d = c
    · subst hc
      have : upTo d (d :: t) = [] := by unfold upTo; rw [List.takeWhile_cons_of_neg (by simp)]
      rw [this, if_pos (by simp [List.isPrefixOf]), if_pos (by simp)]; rfl
    · have ha : upTo c (d :: t) = d :: upTo c t := by unfold upTo; rw [List.takeWhile_cons_of_pos (by simpa using hc)]
      rw [if_neg (by simp [List.isPrefixOf]; exact fun h => hc h.symm), ih, ha]
      by_cases hlt : (upTo c t).length < t.length
      · rw [if_pos hlt, if_neg (by rw [beq_iff_eq]; omega), if_pos (by simp; omega)]; simp
      · rw [if_neg hlt, if_pos (by decide), if_neg (by simp; omega)]
theorem cut_one (c : UInt8) (l : List UInt8) : Go.Lib.cut l [c] = if hasB c l = true then (upTo c l, behind c l, true) else (l, [], false) := by
  unfold Go.Lib.cut hasB behind
  rw [index_one]
  by_cases hlt : (upTo c l).length < l.length
  · rw [if_pos hlt, if_pos (by omega), decide_eq_true hlt, if_pos rfl, Int.toNat_natCast, upTo_take]; rfl
  · rw [if_neg hlt, if_neg (by decide), decide_eq_false hlt, if_neg (by decide)]
/-- two numbers: the error of the first that is none -/
def twoE (a b : List UInt8) : Nat := if numE a ≠ 0 then numE a else numE b
/-- what is asked for: from, to, the error -/
def askedOk (l : List UInt8) : Bool := asksL.isPrefixOf l && hasB 45 (l.drop 6)
def askedF (l : List UInt8) : Nat := numV (upTo 45 (l.drop 6))
def askedT (l : List UInt8) : Nat := numV (behind 45 (l.drop 6))
def askedE (l : List UInt8) : Nat := if askedOk l = false then 4 else if twoE (upTo 45 (l.drop 6)) (behind 45 (l.drop 6)) ≠ 0 then twoE (upTo 45 (l.drop 6)) (behind 45 (l.drop 6)) else rErr (askedF l) (askedT l)
def askedA (l : List UInt8) : Int := if askedE l = 0 then (askedF l : Int) else 0
def askedB (l : List UInt8) : Int := if askedE l = 0 then (askedT l : Int) else 0
/-- what is told of so many bytes -/
def toldE (a b t : Int) : Nat := if rErr a b ≠ 0 then rErr a b else if t ≤ b ∨ 9007199254740991 < t then 8 else 0
def toldL (a b t : Int) : List UInt8 := if toldE a b t = 0 then tellsL ++ textR a b ++ 47 :: digL t else []
def tellOk (l : List UInt8) : Bool := tellsL.isPrefixOf l && hasB 45 (l.drop 6) && hasB 47 (behind 45 (l.drop 6))
def tellF (l : List UInt8) : Nat := numV (upTo 45 (l.drop 6))
def tellT (l : List UInt8) : Nat := numV (upTo 47 (behind 45 (l.drop 6)))
def tellN (l : List UInt8) : Nat := numV (behind 47 (behind 45 (l.drop 6)))
def threeE (a b c : List UInt8) : Nat := if numE a ≠ 0 then numE a else if numE b ≠ 0 then numE b else numE c
def tellE (l : List UInt8) : Nat := if tellOk l = false then 4 else if threeE (upTo 45 (l.drop 6)) (upTo 47 (behind 45 (l.drop 6))) (behind 47 (behind 45 (l.drop 6))) ≠ 0 then threeE (upTo 45 (l.drop 6)) (upTo 47 (behind 45 (l.drop 6))) (behind 47 (behind 45 (l.drop 6)))
  else toldE (tellF l) (tellT l) (tellN l)
def tellA (l : List UInt8) : Int := if tellE l = 0 then (tellF l : Int) else 0
def tellB (l : List UInt8) : Int := if tellE l = 0 then (tellT l : Int) else 0
def tellC (l : List UInt8) : Int := if tellE l = 0 then (tellN l : Int) else 0
/-- a range cut to what there is -/
def clipE (a b t : Int) : Nat := if rErr a b ≠ 0 then rErr a b else if t ≤ a then 8 else 0
def clipA (a b t : Int) : Int := if clipE a b t = 0 then a else 0
def clipB (a b t : Int) : Int := if clipE a b t = 0 then (if b < t - 1 then b else t - 1) else 0
end Go.Proofs.YtgnkmfjleecmfaaGreatDoor
namespace Go.Proofs.YtgnkmfjleecmfaaGreatDoor
open Go.RowKit

/-- a world that has come of w by reading, drawing and laying blocks -/
structure BelowOf (w : World) where
  world : World
  below : Below w.heap.size w world
instance (w : World) : Inhabited (BelowOf w) := ⟨⟨w, Below.refl _ _⟩⟩
theorem wp_region_quiet_below {P : Program} {id : Nat} {Q : Exit → Act → World → Prop} {a : Act} {w : World} {l : List Oper} (hm : P.follows .mixedOrders = true) (hB : Region.lexB .any l.toArray = true)
    (h : wpQuiet P l.toArray (fun w' => ∃ p : BelowOf w, w' = p.world) (fun a' => ∀ w', (∃ p : BelowOf w, w' = p.world) → Q .normal a' w') l a) : (Code.region id l.toArray true).wp P Q a w :=
  wp_region_quiet (C := fun w' => ∃ p : BelowOf w, w' = p.world) hm hB ⟨⟨w.drew, (Below.refl _ _).drew⟩, rfl⟩ (by simpa using h)
theorem below_of {P : Program} {f : FuncId} {args : Array Value} {w : World} {p : BelowOf w} {v : Value}
    (h : Calls P f args p.world fun e w' => e = .returned v ∧ Below p.world.heap.size p.world w') : Calls P f args p.world fun e w'' => e = .returned v ∧ ∃ q : BelowOf w, w'' = q.world :=
  h.mono fun _ _ ⟨he, hb⟩ => ⟨he, ⟨_, bstep p.below hb⟩, rfl⟩
theorem below_same {P : Program} {f : FuncId} {args : Array Value} {w : World} {p : BelowOf w} {v : Value}
    (h : Calls P f args p.world fun e w' => e = .returned v ∧ w' = p.world) : Calls P f args p.world fun e w'' => e = .returned v ∧ ∃ q : BelowOf w, w'' = q.world :=
  h.mono fun _ _ ⟨he, hw⟩ => ⟨he, p, hw⟩
theorem cell_of {w : World} (p : BelowOf w) {a : Addr} {v : Value} (hb : a.block < w.heap.size) (h : w.cell? a = some v) : p.world.cell? a = some v := (p.below.cell hb).trans h
theorem of_class {w W : World} (h : ∃ p : BelowOf w, W = p.world) : Below w.heap.size w W := let ⟨p, hp⟩ := h; hp ▸ p.below
end Go.Proofs.YtgnkmfjleecmfaaGreatDoor
