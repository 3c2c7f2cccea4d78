/- Contracts of the library's functions at this translation, laid by the kit's shelf tool; those that the claim uses. What cutting a line at its blanks returns. The number of the table of powers. What the library's variables hold, carried along a call. What the functions of package status and of its reference return. Texts as lists of bytes: joined. A number's digits, as the reference lays them. What Print, Parse and their helpers of package status, and of its reference, return. Plain facts on trimming digits and on the code of a status line (no program in sight). What the reference's Parse of a status line returns. What Parse of package status returns. Plain facts on the line of a code and what it is parsed as (no program in sight). Plain functions for the fields of a head (no program in sight). -/
import Derived.Test.YtbdmmgmcbecolaaGreatDoorPr1
import Derived.Shelf.Strings.Builder1
import Derived.Shelf.Strings.Builder2
import Derived.Shelf.Strings.OnBuilder
import Derived.Shelf.Strings.Trim
import Derived.Shelf.Small.Utf8
import Derived.Shelf.Small.Strs
import Derived.Shelf.Small.Wraps
import Derived.Shelf.Strings.BuilderF
import Derived.Shelf.Strings.BuilderK
import Derived.Shelf.Strings.BuilderRune
import Derived.Shelf.Utf8.RuneCount
import Derived.Shelf.Strings.Builder2Cap
import Derived.Shelf.Strconv.Atoi
import Derived.Shelf.Strconv.Itoa0
import Derived.Shelf.Strconv.Itoa1
import Derived.Shelf.LaysM
import Derived.Shelf.Strconv.Itoa2
import Derived.Shelf.Strconv.Itoa3
import Derived.Shelf.Strconv.AtoiErrFast
import Derived.Shelf.Strconv.ParseIntEmpty
import Derived.Shelf.Strconv.AtoiFail
import Derived.Shelf.Strconv.Clone
import Derived.Shelf.Strconv.SyntaxError
import Derived.Shelf.LaysC
import Derived.Shelf.Strconv.ToError
import Derived.Shelf.Strconv.Lower
import Derived.Shelf.Strconv.ParseUint10
import Derived.Shelf.Strconv.ParseUint10Empty
import Derived.Shelf.Strconv.ParseUint10Any
import Derived.Shelf.Strconv.ParseInt10
import Derived.Shelf.Strconv.AtoiLong
import Derived.Shelf.Strconv.AtoiInnerAll
import Derived.Shelf.Strconv.RangeError
import Derived.Shelf.Strconv.ToErrorRange
import Derived.Shelf.Strconv.AtoiAll
import Derived.Shelf.Strings.Search1
import Derived.Shelf.Strings.Search2
import Derived.Shelf.Strings.Search3
import Derived.Shelf.Strings.Cut
import Derived.Shelf.Strings.Count
import Derived.Shelf.Strings.Shaped
import Derived.Shelf.GgClosure.StringsIndexFunc
import Derived.Ground.GgwProg
import Derived.Shelf.GgClosure.StringsIndexFuncTop
import Derived.Shelf.Strings.Prefix
import Derived.Shelf.Strings.Split
import Derived.Shelf.Strings.SplitShaped
import Derived.Shelf.Unicode.Decode
import Derived.Shelf.Strings.Runes
import Derived.Shelf.Strings.RuneCount
import Derived.Shelf.Strings.AsciiSet
import Derived.Shelf.Strings.Explode
import Derived.Shelf.Unicode.DecodeSlow
import Derived.Shelf.Unicode.DecodeAny
import Derived.Shelf.Unicode.DecodeLast
import Derived.Shelf.Strings.MapAny
import Derived.Shelf.Strings.FuncGrows
import Derived.Shelf.Strings.BuilderCap
import Derived.Shelf.Strings.MapGrows
import Derived.Test.YtbdmmgmcbecolaaGreatDoorProg
import GoSem.Claims
import Derived.KernelRfl
import Derived.Lib.LaidTab
import Derived.Lib.ItoaNum
import Derived.WalkSmall
import Derived.Shelf.Strings.SlTrimAscii
import Derived.Lib.SlTrimSet
import Derived.Lib.Atoi
import Derived.Lib.SmallJoins
import Derived.Lib.TrimUEq
set_option linter.unusedVariables false
set_option linter.unusedSimpArgs false
namespace Go.Proofs
open Go.Shelf
def Tryz.lays156_ren : Go.Shelf.Ren := ⟨fun | 156 => 60 | 165 => 88 | 166 => 89 | 169 => 90 | 240 => 119 | 241 => 120 | 276 => 153 | 277 => 154 | n => n, fun | 31 => 131 | 9 => 9 | 3 => 3 | 4 => 4 | 0 => 0 | 20 => 20 | 72 => 194 | 76 => 156 | 70 => 191 | 37 => 192 | 75 => 70 | 127 => 226 | 164 => 119 | 5 => 5 | 80 => 190 | n => n, fun | n => n⟩
theorem Tryz.lays156 : Go.Proofs.Lays.n156 Tryz.prog Tryz.lays156_ren := {
  mixed := by kernel_rfl
  f156 := Tryz.func60.trans (congrArg some (by kernel_rfl))
  f165 := Tryz.func88.trans (congrArg some (by kernel_rfl))
  f166 := Tryz.func89.trans (congrArg some (by kernel_rfl))
  f169 := Tryz.func90.trans (congrArg some (by kernel_rfl))
  f240 := Tryz.func119.trans (congrArg some (by kernel_rfl))
  f241 := Tryz.func120.trans (congrArg some (by kernel_rfl))
  f276 := Tryz.func153.trans (congrArg some (by kernel_rfl))
  f277 := Tryz.func154.trans (congrArg some (by kernel_rfl))
  t0 := Tryz.underlying0
  a0 := Tryz.isAgg0
  z0 := Tryz.sizeOf0
  v0 := Tryz.zeroValue0
  t3 := Tryz.underlying3
  a3 := Tryz.isAgg3
  z3 := Tryz.sizeOf3
  v3 := Tryz.zeroValue3
  t4 := Tryz.underlying4
  a4 := Tryz.isAgg4
  z4 := Tryz.sizeOf4
  v4 := Tryz.zeroValue4
  t9 := Tryz.underlying9
  a9 := Tryz.isAgg9
  z9 := Tryz.sizeOf9
  v9 := Tryz.zeroValue9
  t20 := Tryz.underlying20
  a20 := Tryz.isAgg20
  z20 := Tryz.sizeOf20
  v20 := Tryz.zeroValue20
  t31 := Tryz.underlying131
  a31 := Tryz.isAgg131
  z31 := Tryz.sizeOf131
  v31 := Tryz.zeroValue131
  t37 := Tryz.underlying192
  a37 := Tryz.isAgg192
  z37 := Tryz.sizeOf192
  v37 := Tryz.zeroValue192
  t70 := Tryz.underlying191
  a70 := Tryz.isAgg191
  z70 := Tryz.sizeOf191
  v70 := Tryz.zeroValue191
  t72 := Tryz.underlying194
  a72 := Tryz.isAgg194
  z72 := Tryz.sizeOf194
  v72 := Tryz.zeroValue194
  t75 := Tryz.underlying70
  a75 := Tryz.isAgg70
  z75 := Tryz.sizeOf70
  v75 := Tryz.zeroValue70
  t76 := Tryz.underlying156
  a76 := Tryz.isAgg156
  z76 := Tryz.sizeOf156
  v76 := Tryz.zeroValue156
  t127 := Tryz.underlying226
  a127 := Tryz.isAgg226
  z127 := Tryz.sizeOf226
  v127 := Tryz.zeroValue226
  t164 := Tryz.underlying119
  a164 := Tryz.isAgg119
  z164 := Tryz.sizeOf119
  v164 := Tryz.zeroValue119 }
theorem Tryz.Builder_Extra_156 : Builder.Extra Tryz.prog Tryz.lays156_ren := {
  sizeBuilder := by kernel_rfl
  liesBuilder := by kernel_rfl
  t5 := Tryz.underlying5
  a5 := Tryz.isAgg5
  z5 := Tryz.sizeOf5
  v5 := Tryz.zeroValue5
  infoByte := by kernel_rfl
  cellsByte := by kernel_rfl
  sizeByte := by kernel_rfl
  neB5 := by decide }
open Go.RowKit in
theorem Tryz.strings_Join (bk o c : Nat) (xs : List ByteArray) (sep : ByteArray) (w : World) (hcells : ∀ (j : Nat) x, xs[j]? = some x → w.cell? ⟨bk, o + j, none⟩ = some (.string x)) (hbk : bk < w.heap.size) (hN : xs.length ≤ 140737488355328) (hcap : xs.length ≤ c) (hlen : (Lib.join (xs.map (·.data.toList)) sep.data.toList).length ≤ 140737488355328) :
    Calls Tryz.prog 60 #[.slice (some ⟨bk, o, none⟩) xs.length c, .string sep] w fun e w' => e = .returned (.string ⟨(Lib.join (xs.map (·.data.toList)) sep.data.toList).toArray⟩) ∧ Below w.heap.size w w' := Any.strings_Join Tryz.lays156 Tryz.Builder_Extra_156 bk o c xs sep w hcells hbk hN hcap hlen
def Tryz.lays162_ren : Go.Shelf.Ren := ⟨fun | 162 => 158 | 232 => 179 | 227 => 180 | 234 => 182 | 236 => 184 | 228 => 204 | 271 => 206 | 151 => 205 | 120 => 219 | 197 => 172 | 152 => 218 | 260 => 202 | 137 => 230 | 119 => 231 | 224 => 188 | 225 => 187 | 217 => 186 | 266 => 207 | n => n, fun | 9 => 9 | 4 => 4 | 3 => 3 | 5 => 5 | 117 => 276 | 116 => 275 | 0 => 0 | 124 => 279 | 21 => 21 | 105 => 268 | 46 => 281 | 119 => 321 | 139 => 324 | 138 => 323 | n => n, fun | 3 => 4 | 4 => 5 | n => n⟩
theorem Tryz.lays162 : Go.Proofs.Lays.n162 Tryz.prog Tryz.lays162_ren := {
  mixed := by kernel_rfl
  f119 := Tryz.func231.trans (congrArg some (by kernel_rfl))
  f120 := Tryz.func219.trans (congrArg some (by kernel_rfl))
  f137 := Tryz.func230.trans (congrArg some (by kernel_rfl))
  f151 := Tryz.func205.trans (congrArg some (by kernel_rfl))
  f152 := Tryz.func218.trans (congrArg some (by kernel_rfl))
  f162 := Tryz.func158.trans (congrArg some (by kernel_rfl))
  f197 := Tryz.func172.trans (congrArg some (by kernel_rfl))
  f217 := Tryz.func186.trans (congrArg some (by kernel_rfl))
  f224 := Tryz.func188.trans (congrArg some (by kernel_rfl))
  f225 := Tryz.func187.trans (congrArg some (by kernel_rfl))
  f227 := Tryz.func180.trans (congrArg some (by kernel_rfl))
  f228 := Tryz.func204.trans (congrArg some (by kernel_rfl))
  f232 := Tryz.func179.trans (congrArg some (by kernel_rfl))
  f234 := Tryz.func182.trans (congrArg some (by kernel_rfl))
  f236 := Tryz.func184.trans (congrArg some (by kernel_rfl))
  f260 := Tryz.func202.trans (congrArg some (by kernel_rfl))
  f266 := Tryz.func207.trans (congrArg some (by kernel_rfl))
  f271 := Tryz.func206.trans (congrArg some (by kernel_rfl))
  t0 := Tryz.underlying0
  a0 := Tryz.isAgg0
  z0 := Tryz.sizeOf0
  v0 := Tryz.zeroValue0
  t3 := Tryz.underlying3
  a3 := Tryz.isAgg3
  z3 := Tryz.sizeOf3
  v3 := Tryz.zeroValue3
  t4 := Tryz.underlying4
  a4 := Tryz.isAgg4
  z4 := Tryz.sizeOf4
  v4 := Tryz.zeroValue4
  t5 := Tryz.underlying5
  a5 := Tryz.isAgg5
  z5 := Tryz.sizeOf5
  v5 := Tryz.zeroValue5
  t9 := Tryz.underlying9
  a9 := Tryz.isAgg9
  z9 := Tryz.sizeOf9
  v9 := Tryz.zeroValue9
  t21 := Tryz.underlying21
  a21 := Tryz.isAgg21
  z21 := Tryz.sizeOf21
  v21 := Tryz.zeroValue21
  t46 := Tryz.underlying281
  a46 := Tryz.isAgg281
  z46 := Tryz.sizeOf281
  v46 := Tryz.zeroValue281
  t105 := Tryz.underlying268
  a105 := Tryz.isAgg268
  z105 := Tryz.sizeOf268
  v105 := Tryz.zeroValue268
  t116 := Tryz.underlying275
  a116 := Tryz.isAgg275
  z116 := Tryz.sizeOf275
  t117 := Tryz.underlying276
  a117 := Tryz.isAgg276
  z117 := Tryz.sizeOf276
  v117 := Tryz.zeroValue276
  t119 := Tryz.underlying321
  a119 := Tryz.isAgg321
  z119 := Tryz.sizeOf321
  t124 := Tryz.underlying279
  a124 := Tryz.isAgg279
  z124 := Tryz.sizeOf279
  v124 := Tryz.zeroValue279
  t138 := Tryz.underlying323
  a138 := Tryz.isAgg323
  z138 := Tryz.sizeOf323
  v138 := Tryz.zeroValue323
  t139 := Tryz.underlying324
  a139 := Tryz.isAgg324
  z139 := Tryz.sizeOf324
  v139 := Tryz.zeroValue324
  g3 := by kernel_rfl
  g4 := by kernel_rfl }
def Tryz.lays160_ren : Go.Shelf.Ren := ⟨fun | 160 => 147 | 232 => 179 | 231 => 178 | 227 => 180 | 234 => 182 | 233 => 181 | 236 => 184 | 235 => 183 | 228 => 204 | 271 => 206 | 151 => 205 | 197 => 172 | 120 => 219 | 152 => 218 | 260 => 202 | 137 => 230 | 119 => 231 | 224 => 188 | 225 => 187 | 217 => 186 | 266 => 207 | n => n, fun | 9 => 9 | 4 => 4 | 3 => 3 | 5 => 5 | 117 => 276 | 116 => 275 | 0 => 0 | 124 => 279 | 21 => 21 | 105 => 268 | 46 => 281 | 119 => 321 | 139 => 324 | 138 => 323 | n => n, fun | 3 => 4 | 4 => 5 | n => n⟩
theorem Tryz.lays160 : Go.Proofs.Lays.n160 Tryz.prog Tryz.lays160_ren := {
  mixed := by kernel_rfl
  f119 := Tryz.func231.trans (congrArg some (by kernel_rfl))
  f120 := Tryz.func219.trans (congrArg some (by kernel_rfl))
  f137 := Tryz.func230.trans (congrArg some (by kernel_rfl))
  f151 := Tryz.func205.trans (congrArg some (by kernel_rfl))
  f152 := Tryz.func218.trans (congrArg some (by kernel_rfl))
  f160 := Tryz.func147.trans (congrArg some (by kernel_rfl))
  f197 := Tryz.func172.trans (congrArg some (by kernel_rfl))
  f217 := Tryz.func186.trans (congrArg some (by kernel_rfl))
  f224 := Tryz.func188.trans (congrArg some (by kernel_rfl))
  f225 := Tryz.func187.trans (congrArg some (by kernel_rfl))
  f227 := Tryz.func180.trans (congrArg some (by kernel_rfl))
  f228 := Tryz.func204.trans (congrArg some (by kernel_rfl))
  f231 := Tryz.func178.trans (congrArg some (by kernel_rfl))
  f232 := Tryz.func179.trans (congrArg some (by kernel_rfl))
  f233 := Tryz.func181.trans (congrArg some (by kernel_rfl))
  f234 := Tryz.func182.trans (congrArg some (by kernel_rfl))
  f235 := Tryz.func183.trans (congrArg some (by kernel_rfl))
  f236 := Tryz.func184.trans (congrArg some (by kernel_rfl))
  f260 := Tryz.func202.trans (congrArg some (by kernel_rfl))
  f266 := Tryz.func207.trans (congrArg some (by kernel_rfl))
  f271 := Tryz.func206.trans (congrArg some (by kernel_rfl))
  t0 := Tryz.underlying0
  a0 := Tryz.isAgg0
  z0 := Tryz.sizeOf0
  v0 := Tryz.zeroValue0
  t3 := Tryz.underlying3
  a3 := Tryz.isAgg3
  z3 := Tryz.sizeOf3
  v3 := Tryz.zeroValue3
  t4 := Tryz.underlying4
  a4 := Tryz.isAgg4
  z4 := Tryz.sizeOf4
  v4 := Tryz.zeroValue4
  t5 := Tryz.underlying5
  a5 := Tryz.isAgg5
  z5 := Tryz.sizeOf5
  v5 := Tryz.zeroValue5
  t9 := Tryz.underlying9
  a9 := Tryz.isAgg9
  z9 := Tryz.sizeOf9
  v9 := Tryz.zeroValue9
  t21 := Tryz.underlying21
  a21 := Tryz.isAgg21
  z21 := Tryz.sizeOf21
  v21 := Tryz.zeroValue21
  t46 := Tryz.underlying281
  a46 := Tryz.isAgg281
  z46 := Tryz.sizeOf281
  v46 := Tryz.zeroValue281
  t105 := Tryz.underlying268
  a105 := Tryz.isAgg268
  z105 := Tryz.sizeOf268
  v105 := Tryz.zeroValue268
  t116 := Tryz.underlying275
  a116 := Tryz.isAgg275
  z116 := Tryz.sizeOf275
  t117 := Tryz.underlying276
  a117 := Tryz.isAgg276
  z117 := Tryz.sizeOf276
  v117 := Tryz.zeroValue276
  t119 := Tryz.underlying321
  a119 := Tryz.isAgg321
  z119 := Tryz.sizeOf321
  t124 := Tryz.underlying279
  a124 := Tryz.isAgg279
  z124 := Tryz.sizeOf279
  v124 := Tryz.zeroValue279
  t138 := Tryz.underlying323
  a138 := Tryz.isAgg323
  z138 := Tryz.sizeOf323
  v138 := Tryz.zeroValue323
  t139 := Tryz.underlying324
  a139 := Tryz.isAgg324
  z139 := Tryz.sizeOf324
  v139 := Tryz.zeroValue324
  g3 := by kernel_rfl
  g4 := by kernel_rfl }
def Tryz.lays103_ren : Go.Shelf.Ren := ⟨fun | 103 => 76 | 210 => 112 | 206 => 138 | n => n, fun | 9 => 9 | 4 => 4 | 24 => 162 | 3 => 3 | n => n, fun | n => n⟩
theorem Tryz.lays103 : Go.Proofs.Lays.n103 Tryz.prog Tryz.lays103_ren := {
  mixed := by kernel_rfl
  f103 := Tryz.func76.trans (congrArg some (by kernel_rfl))
  f206 := Tryz.func138.trans (congrArg some (by kernel_rfl))
  f210 := Tryz.func112.trans (congrArg some (by kernel_rfl))
  t3 := Tryz.underlying3
  a3 := Tryz.isAgg3
  z3 := Tryz.sizeOf3
  v3 := Tryz.zeroValue3
  t4 := Tryz.underlying4
  a4 := Tryz.isAgg4
  z4 := Tryz.sizeOf4
  v4 := Tryz.zeroValue4
  t9 := Tryz.underlying9
  a9 := Tryz.isAgg9
  z9 := Tryz.sizeOf9
  v9 := Tryz.zeroValue9
  t24 := Tryz.underlying162
  a24 := Tryz.isAgg162
  z24 := Tryz.sizeOf162
  v24 := Tryz.zeroValue162 }
open Go.RowKit in
theorem Tryz.strings_CutPrefix (s p : ByteArray) (w : World) :
    Calls Tryz.prog 76 #[.string s, .string p] w fun e w' => e = .returned (.tuple #[.string ⟨(Lib.trimPrefix s.data.toList p.data.toList).toArray⟩, .bool (Lib.hasPrefix s.data.toList p.data.toList)]) ∧ w' = w := Any.strings_CutPrefix Tryz.lays103 s p w
def Tryz.lays172_ren : Go.Shelf.Ren := ⟨fun | 172 => 141 | 244 => 170 | 245 => 171 | 247 => 197 | 279 => 198 | 280 => 199 | 281 => 200 | 282 => 201 | 287 => 214 | 316 => 215 | 171 => 152 | 205 => 216 | 321 => 228 | 322 => 229 | 243 => 190 | 246 => 209 | 283 => 220 | 284 => 221 | 285 => 222 | 286 => 223 | 129 => 233 | 317 => 232 | 318 => 234 | 319 => 235 | 320 => 236 | 337 => 246 | 338 => 247 | n => n, fun | 9 => 9 | 3 => 3 | 75 => 70 | 76 => 156 | 4 => 4 | 5 => 5 | 167 => 285 | 37 => 192 | 0 => 0 | 85 => 286 | 2 => 2 | 168 => 288 | 53 => 315 | 175 => 316 | 46 => 281 | 210 => 319 | 127 => 226 | 145 => 336 | 143 => 334 | 21 => 21 | 171 => 326 | 173 => 329 | 212 => 338 | 51 => 293 | 20 => 20 | 213 => 339 | 232 => 373 | 233 => 374 | 80 => 190 | n => n, fun | 15 => 2 | 16 => 3 | 17 => 6 | 18 => 7 | 19 => 8 | n => n⟩
theorem Tryz.lays172 : Go.Proofs.Lays.n172 Tryz.prog Tryz.lays172_ren := {
  mixed := by kernel_rfl
  f129 := Tryz.func233.trans (congrArg some (by kernel_rfl))
  f171 := Tryz.func152.trans (congrArg some (by kernel_rfl))
  f172 := Tryz.func141.trans (congrArg some (by kernel_rfl))
  f205 := Tryz.func216.trans (congrArg some (by kernel_rfl))
  f243 := Tryz.func190.trans (congrArg some (by kernel_rfl))
  f244 := Tryz.func170.trans (congrArg some (by kernel_rfl))
  f245 := Tryz.func171.trans (congrArg some (by kernel_rfl))
  f246 := Tryz.func209.trans (congrArg some (by kernel_rfl))
  f247 := Tryz.func197.trans (congrArg some (by kernel_rfl))
  f279 := Tryz.func198.trans (congrArg some (by kernel_rfl))
  f280 := Tryz.func199.trans (congrArg some (by kernel_rfl))
  f281 := Tryz.func200.trans (congrArg some (by kernel_rfl))
  f282 := Tryz.func201.trans (congrArg some (by kernel_rfl))
  f283 := Tryz.func220.trans (congrArg some (by kernel_rfl))
  f284 := Tryz.func221.trans (congrArg some (by kernel_rfl))
  f285 := Tryz.func222.trans (congrArg some (by kernel_rfl))
  f286 := Tryz.func223.trans (congrArg some (by kernel_rfl))
  f287 := Tryz.func214.trans (congrArg some (by kernel_rfl))
  f316 := Tryz.func215.trans (congrArg some (by kernel_rfl))
  f317 := Tryz.func232.trans (congrArg some (by kernel_rfl))
  f318 := Tryz.func234.trans (congrArg some (by kernel_rfl))
  f319 := Tryz.func235.trans (congrArg some (by kernel_rfl))
  f320 := Tryz.func236.trans (congrArg some (by kernel_rfl))
  f321 := Tryz.func228.trans (congrArg some (by kernel_rfl))
  f322 := Tryz.func229.trans (congrArg some (by kernel_rfl))
  f337 := Tryz.func246.trans (congrArg some (by kernel_rfl))
  f338 := Tryz.func247.trans (congrArg some (by kernel_rfl))
  t0 := Tryz.underlying0
  a0 := Tryz.isAgg0
  z0 := Tryz.sizeOf0
  v0 := Tryz.zeroValue0
  t2 := Tryz.underlying2
  a2 := Tryz.isAgg2
  z2 := Tryz.sizeOf2
  v2 := Tryz.zeroValue2
  t3 := Tryz.underlying3
  a3 := Tryz.isAgg3
  z3 := Tryz.sizeOf3
  v3 := Tryz.zeroValue3
  t4 := Tryz.underlying4
  a4 := Tryz.isAgg4
  z4 := Tryz.sizeOf4
  v4 := Tryz.zeroValue4
  t5 := Tryz.underlying5
  a5 := Tryz.isAgg5
  z5 := Tryz.sizeOf5
  v5 := Tryz.zeroValue5
  t9 := Tryz.underlying9
  a9 := Tryz.isAgg9
  z9 := Tryz.sizeOf9
  v9 := Tryz.zeroValue9
  t20 := Tryz.underlying20
  a20 := Tryz.isAgg20
  z20 := Tryz.sizeOf20
  v20 := Tryz.zeroValue20
  t21 := Tryz.underlying21
  a21 := Tryz.isAgg21
  z21 := Tryz.sizeOf21
  v21 := Tryz.zeroValue21
  t37 := Tryz.underlying192
  a37 := Tryz.isAgg192
  z37 := Tryz.sizeOf192
  v37 := Tryz.zeroValue192
  t46 := Tryz.underlying281
  a46 := Tryz.isAgg281
  z46 := Tryz.sizeOf281
  v46 := Tryz.zeroValue281
  t51 := Tryz.underlying293
  a51 := Tryz.isAgg293
  z51 := Tryz.sizeOf293
  v51 := Tryz.zeroValue293
  t53 := Tryz.underlying315
  a53 := Tryz.isAgg315
  z53 := Tryz.sizeOf315
  v53 := Tryz.zeroValue315
  t75 := Tryz.underlying70
  a75 := Tryz.isAgg70
  z75 := Tryz.sizeOf70
  v75 := Tryz.zeroValue70
  t76 := Tryz.underlying156
  a76 := Tryz.isAgg156
  z76 := Tryz.sizeOf156
  v76 := Tryz.zeroValue156
  t85 := Tryz.underlying286
  a85 := Tryz.isAgg286
  z85 := Tryz.sizeOf286
  v85 := Tryz.zeroValue286
  t127 := Tryz.underlying226
  a127 := Tryz.isAgg226
  z127 := Tryz.sizeOf226
  v127 := Tryz.zeroValue226
  t143 := Tryz.underlying334
  a143 := Tryz.isAgg334
  z143 := Tryz.sizeOf334
  v143 := Tryz.zeroValue334
  t145 := Tryz.underlying336
  a145 := Tryz.isAgg336
  z145 := Tryz.sizeOf336
  v145 := Tryz.zeroValue336
  t167 := Tryz.underlying285
  a167 := Tryz.isAgg285
  z167 := Tryz.sizeOf285
  v167 := Tryz.zeroValue285
  t168 := Tryz.underlying288
  a168 := Tryz.isAgg288
  z168 := Tryz.sizeOf288
  v168 := Tryz.zeroValue288
  t171 := Tryz.underlying326
  a171 := Tryz.isAgg326
  z171 := Tryz.sizeOf326
  v171 := Tryz.zeroValue326
  t173 := Tryz.underlying329
  a173 := Tryz.isAgg329
  z173 := Tryz.sizeOf329
  v173 := Tryz.zeroValue329
  t175 := Tryz.underlying316
  a175 := Tryz.isAgg316
  z175 := Tryz.sizeOf316
  v175 := Tryz.zeroValue316
  t210 := Tryz.underlying319
  a210 := Tryz.isAgg319
  z210 := Tryz.sizeOf319
  v210 := Tryz.zeroValue319
  t212 := Tryz.underlying338
  a212 := Tryz.isAgg338
  z212 := Tryz.sizeOf338
  v212 := Tryz.zeroValue338
  t213 := Tryz.underlying339
  a213 := Tryz.isAgg339
  z213 := Tryz.sizeOf339
  t232 := Tryz.underlying373
  a232 := Tryz.isAgg373
  z232 := Tryz.sizeOf373
  v232 := Tryz.zeroValue373
  t233 := Tryz.underlying374
  a233 := Tryz.isAgg374
  z233 := Tryz.sizeOf374
  v233 := Tryz.zeroValue374
  g15 := by kernel_rfl
  g16 := by kernel_rfl
  g17 := by kernel_rfl
  g18 := by kernel_rfl
  g19 := by kernel_rfl }
open Go.RowKit in
theorem Tryz.strconv_Atoi (s : ByteArray) (n : Int) (hl : s.size ≤ 18) (h : Lib.atoi s.data.toList = some n) (w : World) :
    Calls Tryz.prog 141 #[.string s] w fun e w' => e = .returned (.tuple #[.int .i64 n, .nilIface]) ∧ ∃ t, w' = Lib.bytesWorld w 5 t := Any.strconv_Atoi Tryz.lays172 s n hl h w
def Tryz.laysM171_ren : Go.Shelf.Ren := ⟨fun | 171 => 152 | 243 => 190 | 246 => 209 | 283 => 220 | 284 => 221 | 285 => 222 | 286 => 223 | 129 => 233 | 317 => 232 | 318 => 234 | 319 => 235 | 320 => 236 | 337 => 246 | 338 => 247 | n => n, fun | 3 => 3 | 9 => 9 | 2 => 2 | 4 => 4 | 171 => 326 | 0 => 0 | 53 => 315 | 37 => 192 | 5 => 5 | 173 => 329 | 212 => 338 | 51 => 293 | 20 => 20 | 213 => 339 | 46 => 281 | 232 => 373 | 233 => 374 | n => n, fun | 17 => 6 | 18 => 7 | 19 => 8 | n => n⟩
theorem Tryz.laysM171 : Go.Proofs.LaysM.n171 Tryz.prog Tryz.laysM171_ren := {
  mixed := by kernel_rfl
  f129 := Tryz.func233.trans (congrArg some (by kernel_rfl))
  f171 := Tryz.func152.trans (congrArg some (by kernel_rfl))
  f243 := Tryz.func190.trans (congrArg some (by kernel_rfl))
  f246 := Tryz.func209.trans (congrArg some (by kernel_rfl))
  f283 := Tryz.func220.trans (congrArg some (by kernel_rfl))
  f284 := Tryz.func221.trans (congrArg some (by kernel_rfl))
  f285 := Tryz.func222.trans (congrArg some (by kernel_rfl))
  f286 := Tryz.func223.trans (congrArg some (by kernel_rfl))
  f317 := Tryz.func232.trans (congrArg some (by kernel_rfl))
  f318 := Tryz.func234.trans (congrArg some (by kernel_rfl))
  f319 := Tryz.func235.trans (congrArg some (by kernel_rfl))
  f320 := Tryz.func236.trans (congrArg some (by kernel_rfl))
  f337 := Tryz.func246.trans (congrArg some (by kernel_rfl))
  f338 := Tryz.func247.trans (congrArg some (by kernel_rfl))
  t0 := Tryz.underlying0
  a0 := Tryz.isAgg0
  z0 := Tryz.sizeOf0
  v0 := Tryz.zeroValue0
  t2 := Tryz.underlying2
  a2 := Tryz.isAgg2
  z2 := Tryz.sizeOf2
  v2 := Tryz.zeroValue2
  t3 := Tryz.underlying3
  a3 := Tryz.isAgg3
  z3 := Tryz.sizeOf3
  v3 := Tryz.zeroValue3
  t4 := Tryz.underlying4
  a4 := Tryz.isAgg4
  z4 := Tryz.sizeOf4
  v4 := Tryz.zeroValue4
  t5 := Tryz.underlying5
  a5 := Tryz.isAgg5
  z5 := Tryz.sizeOf5
  v5 := Tryz.zeroValue5
  t9 := Tryz.underlying9
  a9 := Tryz.isAgg9
  z9 := Tryz.sizeOf9
  v9 := Tryz.zeroValue9
  t20 := Tryz.underlying20
  a20 := Tryz.isAgg20
  z20 := Tryz.sizeOf20
  v20 := Tryz.zeroValue20
  t37 := Tryz.underlying192
  a37 := Tryz.isAgg192
  z37 := Tryz.sizeOf192
  v37 := Tryz.zeroValue192
  t46 := Tryz.underlying281
  a46 := Tryz.isAgg281
  z46 := Tryz.sizeOf281
  v46 := Tryz.zeroValue281
  t51 := Tryz.underlying293
  a51 := Tryz.isAgg293
  z51 := Tryz.sizeOf293
  v51 := Tryz.zeroValue293
  t53 := Tryz.underlying315
  a53 := Tryz.isAgg315
  z53 := Tryz.sizeOf315
  v53 := Tryz.zeroValue315
  t171 := Tryz.underlying326
  a171 := Tryz.isAgg326
  z171 := Tryz.sizeOf326
  v171 := Tryz.zeroValue326
  t173 := Tryz.underlying329
  a173 := Tryz.isAgg329
  z173 := Tryz.sizeOf329
  v173 := Tryz.zeroValue329
  t212 := Tryz.underlying338
  a212 := Tryz.isAgg338
  z212 := Tryz.sizeOf338
  v212 := Tryz.zeroValue338
  t213 := Tryz.underlying339
  a213 := Tryz.isAgg339
  z213 := Tryz.sizeOf339
  t232 := Tryz.underlying373
  a232 := Tryz.isAgg373
  z232 := Tryz.sizeOf373
  v232 := Tryz.zeroValue373
  t233 := Tryz.underlying374
  a233 := Tryz.isAgg374
  z233 := Tryz.sizeOf374
  v233 := Tryz.zeroValue374
  g17 := by kernel_rfl
  g18 := by kernel_rfl
  g19 := by kernel_rfl
  i0 := by kernel_rfl
  i2 := by kernel_rfl
  i3 := by kernel_rfl
  i4 := by kernel_rfl
  i5 := by kernel_rfl
  i9 := by kernel_rfl
  i20 := by kernel_rfl
  i37 := by kernel_rfl
  i46 := by kernel_rfl
  i51 := by kernel_rfl
  i53 := by kernel_rfl
  i171 := by kernel_rfl
  i173 := by kernel_rfl
  i212 := by kernel_rfl
  i232 := by kernel_rfl
  i233 := by kernel_rfl
  m17 := by kernel_rfl
  m18 := by kernel_rfl
  m19 := by kernel_rfl }
open Go.RowKit Go.Sort Go.Lib in
theorem Tryz.strconv_Itoa (n : Int) (h0 : -9223372036854775808 ≤ n) (h1 : n ≤ 9223372036854775807) (w : World) (htab : Lib.TabIs Tryz.prog w "internal/strconv.uint64pow10" .u64 Lib.pow10Tab) :
    Calls Tryz.prog 152 #[.int .i64 n] w fun e w' => e = .returned (.string ⟨(Lib.itoa n).toArray⟩) ∧ ∃ k os, w' = grow (w.drewN k) os := Any.strconv_Itoa Tryz.laysM171 n h0 h1 w htab
def Tryz.laysC172_ren : Go.Shelf.Ren := ⟨fun | 172 => 141 | 244 => 170 | 245 => 171 | 247 => 197 | 279 => 198 | 280 => 199 | 281 => 200 | 282 => 201 | 287 => 214 | 316 => 215 | 171 => 152 | 205 => 216 | 321 => 228 | 322 => 229 | 243 => 190 | 246 => 209 | 283 => 220 | 284 => 221 | 285 => 222 | 286 => 223 | 129 => 233 | 317 => 232 | 318 => 234 | 319 => 235 | 320 => 236 | 337 => 246 | 338 => 247 | n => n, fun | 9 => 9 | 3 => 3 | 75 => 70 | 76 => 156 | 4 => 4 | 5 => 5 | 167 => 285 | 37 => 192 | 0 => 0 | 85 => 286 | 2 => 2 | 168 => 288 | 53 => 315 | 175 => 316 | 46 => 281 | 210 => 319 | 127 => 226 | 145 => 336 | 143 => 334 | 21 => 21 | 171 => 326 | 173 => 329 | 212 => 338 | 51 => 293 | 20 => 20 | 213 => 339 | 232 => 373 | 233 => 374 | 80 => 190 | n => n, fun | 15 => 2 | 16 => 3 | 17 => 6 | 18 => 7 | 19 => 8 | n => n⟩
theorem Tryz.laysC172 : Go.Proofs.LaysC.n172 Tryz.prog Tryz.laysC172_ren := {
  mixed := by kernel_rfl
  f129 := Tryz.func233.trans (congrArg some (by kernel_rfl))
  f171 := Tryz.func152.trans (congrArg some (by kernel_rfl))
  f172 := Tryz.func141.trans (congrArg some (by kernel_rfl))
  f205 := Tryz.func216.trans (congrArg some (by kernel_rfl))
  f243 := Tryz.func190.trans (congrArg some (by kernel_rfl))
  f244 := Tryz.func170.trans (congrArg some (by kernel_rfl))
  f245 := Tryz.func171.trans (congrArg some (by kernel_rfl))
  f246 := Tryz.func209.trans (congrArg some (by kernel_rfl))
  f247 := Tryz.func197.trans (congrArg some (by kernel_rfl))
  f279 := Tryz.func198.trans (congrArg some (by kernel_rfl))
  f280 := Tryz.func199.trans (congrArg some (by kernel_rfl))
  f281 := Tryz.func200.trans (congrArg some (by kernel_rfl))
  f282 := Tryz.func201.trans (congrArg some (by kernel_rfl))
  f283 := Tryz.func220.trans (congrArg some (by kernel_rfl))
  f284 := Tryz.func221.trans (congrArg some (by kernel_rfl))
  f285 := Tryz.func222.trans (congrArg some (by kernel_rfl))
  f286 := Tryz.func223.trans (congrArg some (by kernel_rfl))
  f287 := Tryz.func214.trans (congrArg some (by kernel_rfl))
  f316 := Tryz.func215.trans (congrArg some (by kernel_rfl))
  f317 := Tryz.func232.trans (congrArg some (by kernel_rfl))
  f318 := Tryz.func234.trans (congrArg some (by kernel_rfl))
  f319 := Tryz.func235.trans (congrArg some (by kernel_rfl))
  f320 := Tryz.func236.trans (congrArg some (by kernel_rfl))
  f321 := Tryz.func228.trans (congrArg some (by kernel_rfl))
  f322 := Tryz.func229.trans (congrArg some (by kernel_rfl))
  f337 := Tryz.func246.trans (congrArg some (by kernel_rfl))
  f338 := Tryz.func247.trans (congrArg some (by kernel_rfl))
  t0 := Tryz.underlying0
  a0 := Tryz.isAgg0
  z0 := Tryz.sizeOf0
  v0 := Tryz.zeroValue0
  t2 := Tryz.underlying2
  a2 := Tryz.isAgg2
  z2 := Tryz.sizeOf2
  v2 := Tryz.zeroValue2
  t3 := Tryz.underlying3
  a3 := Tryz.isAgg3
  z3 := Tryz.sizeOf3
  v3 := Tryz.zeroValue3
  t4 := Tryz.underlying4
  a4 := Tryz.isAgg4
  z4 := Tryz.sizeOf4
  v4 := Tryz.zeroValue4
  t5 := Tryz.underlying5
  a5 := Tryz.isAgg5
  z5 := Tryz.sizeOf5
  v5 := Tryz.zeroValue5
  t9 := Tryz.underlying9
  a9 := Tryz.isAgg9
  z9 := Tryz.sizeOf9
  v9 := Tryz.zeroValue9
  t20 := Tryz.underlying20
  a20 := Tryz.isAgg20
  z20 := Tryz.sizeOf20
  v20 := Tryz.zeroValue20
  t21 := Tryz.underlying21
  a21 := Tryz.isAgg21
  z21 := Tryz.sizeOf21
  v21 := Tryz.zeroValue21
  t37 := Tryz.underlying192
  a37 := Tryz.isAgg192
  z37 := Tryz.sizeOf192
  v37 := Tryz.zeroValue192
  t46 := Tryz.underlying281
  a46 := Tryz.isAgg281
  z46 := Tryz.sizeOf281
  v46 := Tryz.zeroValue281
  t51 := Tryz.underlying293
  a51 := Tryz.isAgg293
  z51 := Tryz.sizeOf293
  v51 := Tryz.zeroValue293
  t53 := Tryz.underlying315
  a53 := Tryz.isAgg315
  z53 := Tryz.sizeOf315
  v53 := Tryz.zeroValue315
  t75 := Tryz.underlying70
  a75 := Tryz.isAgg70
  z75 := Tryz.sizeOf70
  v75 := Tryz.zeroValue70
  t76 := Tryz.underlying156
  a76 := Tryz.isAgg156
  z76 := Tryz.sizeOf156
  v76 := Tryz.zeroValue156
  t85 := Tryz.underlying286
  a85 := Tryz.isAgg286
  z85 := Tryz.sizeOf286
  v85 := Tryz.zeroValue286
  t127 := Tryz.underlying226
  a127 := Tryz.isAgg226
  z127 := Tryz.sizeOf226
  v127 := Tryz.zeroValue226
  t143 := Tryz.underlying334
  a143 := Tryz.isAgg334
  z143 := Tryz.sizeOf334
  v143 := Tryz.zeroValue334
  t145 := Tryz.underlying336
  a145 := Tryz.isAgg336
  z145 := Tryz.sizeOf336
  v145 := Tryz.zeroValue336
  t167 := Tryz.underlying285
  a167 := Tryz.isAgg285
  z167 := Tryz.sizeOf285
  v167 := Tryz.zeroValue285
  t168 := Tryz.underlying288
  a168 := Tryz.isAgg288
  z168 := Tryz.sizeOf288
  v168 := Tryz.zeroValue288
  t171 := Tryz.underlying326
  a171 := Tryz.isAgg326
  z171 := Tryz.sizeOf326
  v171 := Tryz.zeroValue326
  t173 := Tryz.underlying329
  a173 := Tryz.isAgg329
  z173 := Tryz.sizeOf329
  v173 := Tryz.zeroValue329
  t175 := Tryz.underlying316
  a175 := Tryz.isAgg316
  z175 := Tryz.sizeOf316
  v175 := Tryz.zeroValue316
  t210 := Tryz.underlying319
  a210 := Tryz.isAgg319
  z210 := Tryz.sizeOf319
  v210 := Tryz.zeroValue319
  t212 := Tryz.underlying338
  a212 := Tryz.isAgg338
  z212 := Tryz.sizeOf338
  v212 := Tryz.zeroValue338
  t213 := Tryz.underlying339
  a213 := Tryz.isAgg339
  z213 := Tryz.sizeOf339
  t232 := Tryz.underlying373
  a232 := Tryz.isAgg373
  z232 := Tryz.sizeOf373
  v232 := Tryz.zeroValue373
  t233 := Tryz.underlying374
  a233 := Tryz.isAgg374
  z233 := Tryz.sizeOf374
  v233 := Tryz.zeroValue374
  g15 := by kernel_rfl
  g16 := by kernel_rfl
  g17 := by kernel_rfl
  g18 := by kernel_rfl
  g19 := by kernel_rfl
  t80 := Tryz.underlying190
  a80 := Tryz.isAgg190
  z80 := Tryz.sizeOf190
  v80 := Tryz.zeroValue190
  i0 := by kernel_rfl
  i2 := by kernel_rfl
  i3 := by kernel_rfl
  i4 := by kernel_rfl
  i5 := by kernel_rfl
  i9 := by kernel_rfl
  i20 := by kernel_rfl
  i21 := by kernel_rfl
  i37 := by kernel_rfl
  i46 := by kernel_rfl
  i51 := by kernel_rfl
  i53 := by kernel_rfl
  i75 := by kernel_rfl
  i76 := by kernel_rfl
  i80 := by kernel_rfl
  i85 := by kernel_rfl
  i127 := by kernel_rfl
  i143 := by kernel_rfl
  i145 := by kernel_rfl
  i167 := by kernel_rfl
  i168 := by kernel_rfl
  i171 := by kernel_rfl
  i173 := by kernel_rfl
  i175 := by kernel_rfl
  i210 := by kernel_rfl
  i212 := by kernel_rfl
  i232 := by kernel_rfl
  i233 := by kernel_rfl
  m15 := by kernel_rfl
  m16 := by kernel_rfl
  m17 := by kernel_rfl
  m18 := by kernel_rfl
  m19 := by kernel_rfl
  c0 := by kernel_rfl
  c2 := by kernel_rfl
  c3 := by kernel_rfl
  c4 := by kernel_rfl
  c5 := by kernel_rfl
  c9 := by kernel_rfl
  c20 := by kernel_rfl
  c21 := by kernel_rfl
  c37 := by kernel_rfl
  c46 := by kernel_rfl
  c51 := by kernel_rfl
  c53 := by kernel_rfl
  c75 := by kernel_rfl
  c76 := by kernel_rfl
  c80 := by kernel_rfl
  c85 := by kernel_rfl
  c127 := by kernel_rfl
  c143 := by kernel_rfl
  c145 := by kernel_rfl
  c167 := by kernel_rfl
  c168 := by kernel_rfl
  c171 := by kernel_rfl
  c173 := by kernel_rfl
  c175 := by kernel_rfl
  c210 := by kernel_rfl
  c212 := by kernel_rfl
  c213 := by kernel_rfl
  c232 := by kernel_rfl
  c233 := by kernel_rfl }
open Go.RowKit in
theorem Tryz.strconv_Atoi_ok (s : ByteArray) (hmax : s.size ≤ 9223372036854775806) (v : Int) (h : Lib.atoiAll s.data.toList = .ok v) (w : World) :
    Calls Tryz.prog 141 #[.string s] w fun e w' => e = .returned (.tuple #[.int .i64 v, .nilIface]) ∧ (w' = w ∨ ∃ t, w' = Lib.bytesWorld w 5 t) := Any.strconv_Atoi_ok Tryz.laysC172 s hmax v h w
open Go.RowKit in
theorem Tryz.strconv_Atoi_range (s : ByteArray) (hlim : s.size ≤ 281474976710656) (h : Lib.atoiAll s.data.toList = .range) (ev : Value) (w : World) (hv : w.cell? ⟨3, 0, none⟩ = some ev) (hev : ev = .nilIface ∨ ∃ te pe, ev = .iface te pe) :
    Calls Tryz.prog 141 #[.string s] w fun e w' => ∃ N, e = .returned (.tuple #[.int .i64 (Lib.atoiSat s.data.toList), .iface 288 (.pointer (some ⟨N, 0, none⟩))]) ∧ w.heap.size ≤ N ∧ w'.heap[N]? = some (.cells #[.string ⟨#[65, 116, 111, 105]⟩, .string s, ev] 319 (0, 0)) ∧ Below w.heap.size w w' := Any.strconv_Atoi_range Tryz.laysC172 s hlim h ev w hv hev
def Tryz.lays145_ren : Go.Shelf.Ren := ⟨fun | 145 => 77 | 220 => 113 | 219 => 151 | 217 => 186 | 225 => 187 | 224 => 188 | 267 => 189 | 266 => 207 | 314 => 208 | n => n, fun | 9 => 9 | 4 => 4 | 59 => 140 | 3 => 3 | 5 => 5 | 46 => 281 | 146 => 294 | 51 => 293 | n => n, fun | 1 => 1 | n => n⟩
theorem Tryz.lays145 : Go.Proofs.Lays.n145 Tryz.prog Tryz.lays145_ren := {
  mixed := by kernel_rfl
  f145 := Tryz.func77.trans (congrArg some (by kernel_rfl))
  f217 := Tryz.func186.trans (congrArg some (by kernel_rfl))
  f219 := Tryz.func151.trans (congrArg some (by kernel_rfl))
  f220 := Tryz.func113.trans (congrArg some (by kernel_rfl))
  f224 := Tryz.func188.trans (congrArg some (by kernel_rfl))
  f225 := Tryz.func187.trans (congrArg some (by kernel_rfl))
  f266 := Tryz.func207.trans (congrArg some (by kernel_rfl))
  f267 := Tryz.func189.trans (congrArg some (by kernel_rfl))
  f314 := Tryz.func208.trans (congrArg some (by kernel_rfl))
  t3 := Tryz.underlying3
  a3 := Tryz.isAgg3
  z3 := Tryz.sizeOf3
  v3 := Tryz.zeroValue3
  t4 := Tryz.underlying4
  a4 := Tryz.isAgg4
  z4 := Tryz.sizeOf4
  v4 := Tryz.zeroValue4
  t5 := Tryz.underlying5
  a5 := Tryz.isAgg5
  z5 := Tryz.sizeOf5
  v5 := Tryz.zeroValue5
  t9 := Tryz.underlying9
  a9 := Tryz.isAgg9
  z9 := Tryz.sizeOf9
  v9 := Tryz.zeroValue9
  t46 := Tryz.underlying281
  a46 := Tryz.isAgg281
  z46 := Tryz.sizeOf281
  v46 := Tryz.zeroValue281
  t51 := Tryz.underlying293
  a51 := Tryz.isAgg293
  z51 := Tryz.sizeOf293
  v51 := Tryz.zeroValue293
  t59 := Tryz.underlying140
  a59 := Tryz.isAgg140
  z59 := Tryz.sizeOf140
  v59 := Tryz.zeroValue140
  t146 := Tryz.underlying294
  a146 := Tryz.isAgg294
  z146 := Tryz.sizeOf294
  v146 := Tryz.zeroValue294
  g1 := by kernel_rfl }
open Go.RowKit Go.Lib in
theorem Tryz.strings_Cut (s sep : ByteArray) (m : Int) (w : World) (hs : s.size < 4294967281) (hm : w.cell? ⟨1, 0, none⟩ = some (.int .i64 m)) :
    Calls Tryz.prog 77 #[.string s, .string sep] w fun e w' => e = .returned (.tuple #[.string ⟨(Lib.cut s.data.toList sep.data.toList).1.toArray⟩, .string ⟨(Lib.cut s.data.toList sep.data.toList).2.1.toArray⟩, .bool (Lib.cut s.data.toList sep.data.toList).2.2]) ∧ ∃ n, w' = w.drewN n := Any.strings_Cut Tryz.lays145 s sep m w hs hm
def Tryz.lays138_ren : Go.Shelf.Ren := ⟨fun | 138 => 238 | 195 => 248 | 218 => 249 | 143 => 239 | 219 => 151 | 217 => 186 | 225 => 187 | 224 => 188 | 267 => 189 | 266 => 207 | 314 => 208 | n => n, fun | 9 => 9 | 3 => 3 | 4 => 4 | 5 => 5 | 0 => 0 | 46 => 281 | 146 => 294 | 51 => 293 | n => n, fun | 1 => 1 | n => n⟩
theorem Tryz.lays138 : Go.Proofs.Lays.n138 Tryz.prog Tryz.lays138_ren := {
  mixed := by kernel_rfl
  f138 := Tryz.func238.trans (congrArg some (by kernel_rfl))
  f143 := Tryz.func239.trans (congrArg some (by kernel_rfl))
  f195 := Tryz.func248.trans (congrArg some (by kernel_rfl))
  f217 := Tryz.func186.trans (congrArg some (by kernel_rfl))
  f218 := Tryz.func249.trans (congrArg some (by kernel_rfl))
  f219 := Tryz.func151.trans (congrArg some (by kernel_rfl))
  f224 := Tryz.func188.trans (congrArg some (by kernel_rfl))
  f225 := Tryz.func187.trans (congrArg some (by kernel_rfl))
  f266 := Tryz.func207.trans (congrArg some (by kernel_rfl))
  f267 := Tryz.func189.trans (congrArg some (by kernel_rfl))
  f314 := Tryz.func208.trans (congrArg some (by kernel_rfl))
  t0 := Tryz.underlying0
  a0 := Tryz.isAgg0
  z0 := Tryz.sizeOf0
  v0 := Tryz.zeroValue0
  t3 := Tryz.underlying3
  a3 := Tryz.isAgg3
  z3 := Tryz.sizeOf3
  v3 := Tryz.zeroValue3
  t4 := Tryz.underlying4
  a4 := Tryz.isAgg4
  z4 := Tryz.sizeOf4
  v4 := Tryz.zeroValue4
  t5 := Tryz.underlying5
  a5 := Tryz.isAgg5
  z5 := Tryz.sizeOf5
  v5 := Tryz.zeroValue5
  t9 := Tryz.underlying9
  a9 := Tryz.isAgg9
  z9 := Tryz.sizeOf9
  v9 := Tryz.zeroValue9
  t46 := Tryz.underlying281
  a46 := Tryz.isAgg281
  z46 := Tryz.sizeOf281
  v46 := Tryz.zeroValue281
  t51 := Tryz.underlying293
  a51 := Tryz.isAgg293
  z51 := Tryz.sizeOf293
  v51 := Tryz.zeroValue293
  t146 := Tryz.underlying294
  a146 := Tryz.isAgg294
  z146 := Tryz.sizeOf294
  v146 := Tryz.zeroValue294
  g1 := by kernel_rfl }
def Tryz.laysM145_ren : Go.Shelf.Ren := ⟨fun | 145 => 77 | 220 => 113 | 219 => 151 | 217 => 186 | 225 => 187 | 224 => 188 | 267 => 189 | 266 => 207 | 314 => 208 | n => n, fun | 9 => 9 | 4 => 4 | 59 => 140 | 3 => 3 | 5 => 5 | 46 => 281 | 146 => 294 | 51 => 293 | n => n, fun | 1 => 1 | n => n⟩
theorem Tryz.laysM145 : Go.Proofs.LaysM.n145 Tryz.prog Tryz.laysM145_ren := {
  mixed := by kernel_rfl
  f145 := Tryz.func77.trans (congrArg some (by kernel_rfl))
  f217 := Tryz.func186.trans (congrArg some (by kernel_rfl))
  f219 := Tryz.func151.trans (congrArg some (by kernel_rfl))
  f220 := Tryz.func113.trans (congrArg some (by kernel_rfl))
  f224 := Tryz.func188.trans (congrArg some (by kernel_rfl))
  f225 := Tryz.func187.trans (congrArg some (by kernel_rfl))
  f266 := Tryz.func207.trans (congrArg some (by kernel_rfl))
  f267 := Tryz.func189.trans (congrArg some (by kernel_rfl))
  f314 := Tryz.func208.trans (congrArg some (by kernel_rfl))
  t3 := Tryz.underlying3
  a3 := Tryz.isAgg3
  z3 := Tryz.sizeOf3
  v3 := Tryz.zeroValue3
  t4 := Tryz.underlying4
  a4 := Tryz.isAgg4
  z4 := Tryz.sizeOf4
  v4 := Tryz.zeroValue4
  t5 := Tryz.underlying5
  a5 := Tryz.isAgg5
  z5 := Tryz.sizeOf5
  v5 := Tryz.zeroValue5
  t9 := Tryz.underlying9
  a9 := Tryz.isAgg9
  z9 := Tryz.sizeOf9
  v9 := Tryz.zeroValue9
  t46 := Tryz.underlying281
  a46 := Tryz.isAgg281
  z46 := Tryz.sizeOf281
  v46 := Tryz.zeroValue281
  t51 := Tryz.underlying293
  a51 := Tryz.isAgg293
  z51 := Tryz.sizeOf293
  v51 := Tryz.zeroValue293
  t59 := Tryz.underlying140
  a59 := Tryz.isAgg140
  z59 := Tryz.sizeOf140
  v59 := Tryz.zeroValue140
  t146 := Tryz.underlying294
  a146 := Tryz.isAgg294
  z146 := Tryz.sizeOf294
  v146 := Tryz.zeroValue294
  g1 := by kernel_rfl
  i3 := by kernel_rfl
  i4 := by kernel_rfl
  i5 := by kernel_rfl
  i9 := by kernel_rfl
  i46 := by kernel_rfl
  i51 := by kernel_rfl
  i59 := by kernel_rfl
  i146 := by kernel_rfl
  m1 := by kernel_rfl
  s1_3 := fun w h => Go.Proofs.cell_of_shapedOpen_int (zero := #[.int .i64 0]) (t := 3) h (of_decide_eq_true (by kernel_rfl)) (by kernel_rfl) rfl (by kernel_rfl) (by kernel_rfl) Tryz.underlying3 }
def Tryz.laysGw15_ren : Go.Shelf.Ren := ⟨fun | 15 => 103 | 20 => 139 | n => n, fun | 9 => 9 | 23 => 212 | 3 => 3 | 4 => 4 | 0 => 0 | 21 => 21 | n => n, fun | n => n⟩
theorem Tryz.laysGw15 : Go.Proofs.LaysGw.n15 Tryz.prog Tryz.laysGw15_ren := {
  mixed := by kernel_rfl
  f15 := Tryz.func103.trans (congrArg some (by kernel_rfl))
  f20 := Tryz.func139.trans (congrArg some (by kernel_rfl))
  t0 := Tryz.underlying0
  a0 := Tryz.isAgg0
  z0 := Tryz.sizeOf0
  v0 := Tryz.zeroValue0
  i0 := by kernel_rfl
  t3 := Tryz.underlying3
  a3 := Tryz.isAgg3
  z3 := Tryz.sizeOf3
  v3 := Tryz.zeroValue3
  i3 := by kernel_rfl
  t4 := Tryz.underlying4
  a4 := Tryz.isAgg4
  z4 := Tryz.sizeOf4
  v4 := Tryz.zeroValue4
  i4 := by kernel_rfl
  t9 := Tryz.underlying9
  a9 := Tryz.isAgg9
  z9 := Tryz.sizeOf9
  v9 := Tryz.zeroValue9
  i9 := by kernel_rfl
  t21 := Tryz.underlying21
  a21 := Tryz.isAgg21
  z21 := Tryz.sizeOf21
  v21 := Tryz.zeroValue21
  i21 := by kernel_rfl
  t23 := Tryz.underlying212
  a23 := Tryz.isAgg212
  z23 := Tryz.sizeOf212
  v23 := Tryz.zeroValue212
  i23 := by kernel_rfl }
def Tryz.lays99_ren : Go.Shelf.Ren := ⟨fun | 99 => 102 | 206 => 138 | n => n, fun | 9 => 9 | 4 => 4 | 3 => 3 | n => n, fun | n => n⟩
theorem Tryz.lays99 : Go.Proofs.Lays.n99 Tryz.prog Tryz.lays99_ren := {
  mixed := by kernel_rfl
  f99 := Tryz.func102.trans (congrArg some (by kernel_rfl))
  f206 := Tryz.func138.trans (congrArg some (by kernel_rfl))
  t3 := Tryz.underlying3
  a3 := Tryz.isAgg3
  z3 := Tryz.sizeOf3
  v3 := Tryz.zeroValue3
  t4 := Tryz.underlying4
  a4 := Tryz.isAgg4
  z4 := Tryz.sizeOf4
  v4 := Tryz.zeroValue4
  t9 := Tryz.underlying9
  a9 := Tryz.isAgg9
  z9 := Tryz.sizeOf9
  v9 := Tryz.zeroValue9 }
open Go.RowKit Go.Lib in
theorem Tryz.strings_HasPrefix (s p : ByteArray) (w : World) :
    Calls Tryz.prog 102 #[.string s, .string p] w fun e w' => e = .returned (.bool (Lib.hasPrefix s.data.toList p.data.toList)) ∧ w' = w := Any.strings_HasPrefix Tryz.lays99 s p w
def Tryz.lays146_ren : Go.Shelf.Ren := ⟨fun | 146 => 211 | 221 => 224 | 268 => 237 | 138 => 238 | 143 => 239 | 195 => 248 | 197 => 172 | 218 => 249 | 219 => 151 | 260 => 202 | 217 => 186 | 225 => 187 | 224 => 188 | 267 => 189 | 266 => 207 | 314 => 208 | n => n, fun | 9 => 9 | 31 => 131 | 3 => 3 | 4 => 4 | 0 => 0 | 105 => 268 | 21 => 21 | 5 => 5 | 46 => 281 | 119 => 321 | 139 => 324 | 138 => 323 | 146 => 294 | 51 => 293 | n => n, fun | 1 => 1 | 3 => 4 | 4 => 5 | n => n⟩
theorem Tryz.lays146 : Go.Proofs.Lays.n146 Tryz.prog Tryz.lays146_ren := {
  mixed := by kernel_rfl
  f138 := Tryz.func238.trans (congrArg some (by kernel_rfl))
  f143 := Tryz.func239.trans (congrArg some (by kernel_rfl))
  f146 := Tryz.func211.trans (congrArg some (by kernel_rfl))
  f195 := Tryz.func248.trans (congrArg some (by kernel_rfl))
  f197 := Tryz.func172.trans (congrArg some (by kernel_rfl))
  f217 := Tryz.func186.trans (congrArg some (by kernel_rfl))
  f218 := Tryz.func249.trans (congrArg some (by kernel_rfl))
  f219 := Tryz.func151.trans (congrArg some (by kernel_rfl))
  f221 := Tryz.func224.trans (congrArg some (by kernel_rfl))
  f224 := Tryz.func188.trans (congrArg some (by kernel_rfl))
  f225 := Tryz.func187.trans (congrArg some (by kernel_rfl))
  f260 := Tryz.func202.trans (congrArg some (by kernel_rfl))
  f266 := Tryz.func207.trans (congrArg some (by kernel_rfl))
  f267 := Tryz.func189.trans (congrArg some (by kernel_rfl))
  f268 := Tryz.func237.trans (congrArg some (by kernel_rfl))
  f314 := Tryz.func208.trans (congrArg some (by kernel_rfl))
  t0 := Tryz.underlying0
  a0 := Tryz.isAgg0
  z0 := Tryz.sizeOf0
  v0 := Tryz.zeroValue0
  t3 := Tryz.underlying3
  a3 := Tryz.isAgg3
  z3 := Tryz.sizeOf3
  v3 := Tryz.zeroValue3
  t4 := Tryz.underlying4
  a4 := Tryz.isAgg4
  z4 := Tryz.sizeOf4
  v4 := Tryz.zeroValue4
  t5 := Tryz.underlying5
  a5 := Tryz.isAgg5
  z5 := Tryz.sizeOf5
  v5 := Tryz.zeroValue5
  t9 := Tryz.underlying9
  a9 := Tryz.isAgg9
  z9 := Tryz.sizeOf9
  v9 := Tryz.zeroValue9
  t21 := Tryz.underlying21
  a21 := Tryz.isAgg21
  z21 := Tryz.sizeOf21
  v21 := Tryz.zeroValue21
  t31 := Tryz.underlying131
  a31 := Tryz.isAgg131
  z31 := Tryz.sizeOf131
  v31 := Tryz.zeroValue131
  t46 := Tryz.underlying281
  a46 := Tryz.isAgg281
  z46 := Tryz.sizeOf281
  v46 := Tryz.zeroValue281
  t51 := Tryz.underlying293
  a51 := Tryz.isAgg293
  z51 := Tryz.sizeOf293
  v51 := Tryz.zeroValue293
  t105 := Tryz.underlying268
  a105 := Tryz.isAgg268
  z105 := Tryz.sizeOf268
  v105 := Tryz.zeroValue268
  t119 := Tryz.underlying321
  a119 := Tryz.isAgg321
  z119 := Tryz.sizeOf321
  t138 := Tryz.underlying323
  a138 := Tryz.isAgg323
  z138 := Tryz.sizeOf323
  v138 := Tryz.zeroValue323
  t139 := Tryz.underlying324
  a139 := Tryz.isAgg324
  z139 := Tryz.sizeOf324
  v139 := Tryz.zeroValue324
  t146 := Tryz.underlying294
  a146 := Tryz.isAgg294
  z146 := Tryz.sizeOf294
  v146 := Tryz.zeroValue294
  g1 := by kernel_rfl
  g3 := by kernel_rfl
  g4 := by kernel_rfl }
open Go.RowKit Go.Lib in
theorem Tryz.strings_Split (s sep : ByteArray) (m : Int) (w : World) (hs : s.size < 4294967281) (hm : w.cell? ⟨1, 0, none⟩ = some (.int .i64 m)) (h1 : 1 ≤ sep.size) :
    Calls Tryz.prog 211 #[.string s, .string sep] w fun e w' =>
      e = .returned (.slice (some ⟨w.heap.size, 0, none⟩) (Lib.countB s sep + 1) (Lib.countB s sep + 1)) ∧ w' = w.alloc (.cells ((Lib.splitB sep 0 (Lib.countB s sep) s).map Value.string).toArray 9) := Any.strings_Split Tryz.lays146 (by kernel_rfl) s sep m w hs hm h1
def Tryz.lays230_ren : Go.Shelf.Ren := ⟨fun | 230 => 144 | 197 => 172 | 118 => 173 | 165 => 88 | 166 => 89 | 168 => 174 | 270 => 175 | 167 => 176 | 169 => 90 | 260 => 202 | 240 => 119 | 241 => 120 | 242 => 203 | 276 => 153 | 277 => 154 | 278 => 217 | n => n, fun | 107 => 245 | 9 => 9 | 72 => 194 | 0 => 0 | 4 => 4 | 3 => 3 | 21 => 21 | 105 => 268 | 76 => 156 | 5 => 5 | 75 => 70 | 70 => 191 | 20 => 20 | 37 => 192 | 127 => 226 | 119 => 321 | 46 => 281 | 139 => 324 | 138 => 323 | 164 => 119 | 51 => 293 | 80 => 190 | n => n, fun | 3 => 4 | 4 => 5 | n => n⟩
theorem Tryz.lays230 : Go.Proofs.Lays.n230 Tryz.prog Tryz.lays230_ren := {
  mixed := by kernel_rfl
  f118 := Tryz.func173.trans (congrArg some (by kernel_rfl))
  f165 := Tryz.func88.trans (congrArg some (by kernel_rfl))
  f166 := Tryz.func89.trans (congrArg some (by kernel_rfl))
  f167 := Tryz.func176.trans (congrArg some (by kernel_rfl))
  f168 := Tryz.func174.trans (congrArg some (by kernel_rfl))
  f169 := Tryz.func90.trans (congrArg some (by kernel_rfl))
  f197 := Tryz.func172.trans (congrArg some (by kernel_rfl))
  f230 := Tryz.func144.trans (congrArg some (by kernel_rfl))
  f240 := Tryz.func119.trans (congrArg some (by kernel_rfl))
  f241 := Tryz.func120.trans (congrArg some (by kernel_rfl))
  f242 := Tryz.func203.trans (congrArg some (by kernel_rfl))
  f260 := Tryz.func202.trans (congrArg some (by kernel_rfl))
  f270 := Tryz.func175.trans (congrArg some (by kernel_rfl))
  f276 := Tryz.func153.trans (congrArg some (by kernel_rfl))
  f277 := Tryz.func154.trans (congrArg some (by kernel_rfl))
  f278 := Tryz.func217.trans (congrArg some (by kernel_rfl))
  t0 := Tryz.underlying0
  a0 := Tryz.isAgg0
  z0 := Tryz.sizeOf0
  v0 := Tryz.zeroValue0
  t3 := Tryz.underlying3
  a3 := Tryz.isAgg3
  z3 := Tryz.sizeOf3
  v3 := Tryz.zeroValue3
  t4 := Tryz.underlying4
  a4 := Tryz.isAgg4
  z4 := Tryz.sizeOf4
  v4 := Tryz.zeroValue4
  t5 := Tryz.underlying5
  a5 := Tryz.isAgg5
  z5 := Tryz.sizeOf5
  v5 := Tryz.zeroValue5
  t9 := Tryz.underlying9
  a9 := Tryz.isAgg9
  z9 := Tryz.sizeOf9
  v9 := Tryz.zeroValue9
  t20 := Tryz.underlying20
  a20 := Tryz.isAgg20
  z20 := Tryz.sizeOf20
  v20 := Tryz.zeroValue20
  t21 := Tryz.underlying21
  a21 := Tryz.isAgg21
  z21 := Tryz.sizeOf21
  v21 := Tryz.zeroValue21
  t37 := Tryz.underlying192
  a37 := Tryz.isAgg192
  z37 := Tryz.sizeOf192
  v37 := Tryz.zeroValue192
  t46 := Tryz.underlying281
  a46 := Tryz.isAgg281
  z46 := Tryz.sizeOf281
  v46 := Tryz.zeroValue281
  t51 := Tryz.underlying293
  a51 := Tryz.isAgg293
  z51 := Tryz.sizeOf293
  v51 := Tryz.zeroValue293
  t70 := Tryz.underlying191
  a70 := Tryz.isAgg191
  z70 := Tryz.sizeOf191
  v70 := Tryz.zeroValue191
  t72 := Tryz.underlying194
  a72 := Tryz.isAgg194
  z72 := Tryz.sizeOf194
  v72 := Tryz.zeroValue194
  t75 := Tryz.underlying70
  a75 := Tryz.isAgg70
  z75 := Tryz.sizeOf70
  v75 := Tryz.zeroValue70
  t76 := Tryz.underlying156
  a76 := Tryz.isAgg156
  z76 := Tryz.sizeOf156
  v76 := Tryz.zeroValue156
  t105 := Tryz.underlying268
  a105 := Tryz.isAgg268
  z105 := Tryz.sizeOf268
  v105 := Tryz.zeroValue268
  t107 := Tryz.underlying245
  a107 := Tryz.isAgg245
  z107 := Tryz.sizeOf245
  v107 := Tryz.zeroValue245
  t119 := Tryz.underlying321
  a119 := Tryz.isAgg321
  z119 := Tryz.sizeOf321
  t127 := Tryz.underlying226
  a127 := Tryz.isAgg226
  z127 := Tryz.sizeOf226
  v127 := Tryz.zeroValue226
  t138 := Tryz.underlying323
  a138 := Tryz.isAgg323
  z138 := Tryz.sizeOf323
  v138 := Tryz.zeroValue323
  t139 := Tryz.underlying324
  a139 := Tryz.isAgg324
  z139 := Tryz.sizeOf324
  v139 := Tryz.zeroValue324
  t164 := Tryz.underlying119
  a164 := Tryz.isAgg119
  z164 := Tryz.sizeOf119
  v164 := Tryz.zeroValue119
  g3 := by kernel_rfl
  g4 := by kernel_rfl }
theorem Tryz.Builder_Extra_230 : Builder.Extra Tryz.prog Tryz.lays230_ren := {
  sizeBuilder := by kernel_rfl
  liesBuilder := by kernel_rfl
  t5 := Tryz.underlying5
  a5 := Tryz.isAgg5
  z5 := Tryz.sizeOf5
  v5 := Tryz.zeroValue5
  infoByte := by kernel_rfl
  cellsByte := by kernel_rfl
  sizeByte := by kernel_rfl
  neB5 := by decide }
open Go.RowKit Go.Lib in
theorem Tryz.strings_IndexFunc_grows (g : Nat) (lb : Array Value) (eg : ∀ args w, (callFunc g args).run Tryz.prog w = .ok (.enter g args) w) (p : Nat → Bool) (s : ByteArray) (w : World) (hp : PredGrows Tryz.prog g lb p w) :
    Calls Tryz.prog 103 #[.string s, .func (.func g) #[] lb] w fun e w' => e = .returned (.int .i64 (Lib.idxFunc p true s)) ∧ Below w.heap.size w w' := Any.strings_IndexFunc_grows Tryz.laysGw15 g lb eg p s w hp
open Go.RowKit Go.Lib in
theorem Tryz.strings_Map_grows (g : Nat) (lb : Array Value) (eg : ∀ args w, (callFunc g args).run Tryz.prog w = .ok (.enter g args) w) (f : Int → Int) (s : ByteArray) (w : World) (hs : s.size < 35184372088832) (hf : MapGrows Tryz.prog g lb f w) (hnn : ∀ x : Nat, x ≤ 1114111 → -2147483648 ≤ f x ∧ f x ≤ 2147483647) (hT : Lib.Utf8Tabs 4 5 w) :
    Calls Tryz.prog 144 #[.func (.func g) #[] lb, .string s] w fun e w' => e = .returned (.string ⟨(Lib.mapD f s.data.toList).toArray⟩) ∧ Below w.heap.size w w' := Any.strings_Map_grows Tryz.lays230 Tryz.Builder_Extra_230 g lb eg f s w hs hf hnn hT
end Go.Proofs
namespace Go.Proofs.YtbdmmgmcbecolaaGreatDoor
open Go.RowKit

def MaxLenIs (w : World) (m : Int) : Prop := w.cell? ⟨1, 0, none⟩ = some (.int .i64 m)
theorem MaxLenIs.pos {w : World} {m : Int} (h : MaxLenIs w m) : 1 < w.heap.size := World.block_lt_of_cell? _ _ h
theorem MaxLenIs.below {w w' : World} {m : Int} (h : MaxLenIs w m) (hb : Below w.heap.size w w') : MaxLenIs w' m := (hb.cell (p := ⟨1, 0, none⟩) h.pos).trans h

theorem lines_words (s : ByteArray) (m : Int) (w : World) (hs : s.size < 1073741824) (hm : MaxLenIs w m) :
    Calls Tryz.prog 193 #[.string s] w fun e w' => ∃ v, e = .returned v ∧ w'.ownsRow w.heap.size 9 1 v (words s.data.toList).length (strs (words s.data.toList)) ∧ Below w.heap.size w w' := by
  have Hm := Lib.hid hm
  clear hm
  go_enter Tryz.func193, Tryz.ntmps193
  go_wp2_with (go_at_call 211; refine (Tryz.strings_Split s _ m _ (by omega) Hm.out (by decide)).mono ?_; rintro e w' ⟨rfl, rfl⟩)
  go_ret
  refine ⟨_, rfl, ?_, (Below.refl _ _).alloc (Nat.le_refl _) _⟩
  rw [splitB_words, countB_words]
  exact own_alloc w _ _ rfl (by rw [← countB_words]; have := Go.Lib.count_le s.data.toList [32]; have h2 : Go.Lib.countB s ⟨#[32]⟩ ≤ s.size + 1 := by simpa using this
                                unfold maxLen; omega)

/-! what the functions tell of the texts of awake -/
def t1 : ByteArray := ⟨#[97, 32, 98, 13, 10, 99]⟩
end Go.Proofs.YtbdmmgmcbecolaaGreatDoor
namespace Go.Proofs.YtbdmmgmcbecolaaGreatDoor
theorem g_pow10 : Tryz.prog.globalNamed "internal/strconv.uint64pow10" = some 6 := by kernel_rfl
end Go.Proofs.YtbdmmgmcbecolaaGreatDoor
namespace Go.Proofs.YtbdmmgmcbecolaaGreatDoor
open Go.RowKit

/-- the library's variables: MaxLen holds some number, the table of powers its numbers. -/
structure Env (w : World) : Prop where
  m : ∃ m, MaxLenIs w m
  tab : Go.Lib.TabIs Tryz.prog w "internal/strconv.uint64pow10" .u64 Go.Lib.pow10Tab
  big : 6 < w.heap.size

theorem Env.below {w w' : World} (h : Env w) (hb : Below w.heap.size w w') : Env w' :=
  ⟨let ⟨m, hm⟩ := h.m; ⟨m, hm.below hb⟩, var?_below hb g_pow10 h.big h.tab, Nat.lt_of_lt_of_le h.big hb.size⟩
end Go.Proofs.YtbdmmgmcbecolaaGreatDoor
namespace Go.Proofs.YtbdmmgmcbecolaaGreatDoor
open Go.RowKit

set_option maxHeartbeats 1000000 in
theorem status_reason (code : Int) (w : World) :
    Calls Tryz.prog 155 #[.int .i64 code] w fun e w' => e = .returned (.string (reasonOf code)) ∧ w' = w := by
  by_cases h1 : code = 200
  · subst h1; go_enter Tryz.func155, Tryz.ntmps155; go_wp2_with fail; go_ret; exact ⟨ret_str rfl, rfl⟩
  · by_cases h2 : code = 206
    · subst h2; go_enter Tryz.func155, Tryz.ntmps155; go_wp2_with fail; go_ret; exact ⟨ret_str rfl, rfl⟩
    · by_cases h3 : code = 400
      · subst h3; go_enter Tryz.func155, Tryz.ntmps155; go_wp2_with fail; go_ret; exact ⟨ret_str rfl, rfl⟩
      · by_cases h4 : code = 404
        · subst h4; go_enter Tryz.func155, Tryz.ntmps155; go_wp2_with fail; go_ret; exact ⟨ret_str rfl, rfl⟩
        · by_cases h5 : code = 416
          · subst h5; go_enter Tryz.func155, Tryz.ntmps155; go_wp2_with fail; go_ret; exact ⟨ret_str rfl, rfl⟩
          · by_cases h6 : code = 502
            · subst h6; go_enter Tryz.func155, Tryz.ntmps155; go_wp2_with fail; go_ret; exact ⟨ret_str rfl, rfl⟩
            · have H : Hid (reasonOf code = ⟨#[79, 116, 104, 101, 114]⟩) := Lib.hid (by unfold reasonOf; rw [if_neg h1, if_neg h2, if_neg h3, if_neg h4, if_neg h5, if_neg h6])
              have k1 : (code == 200) = false := by rw [beq_eq_false_iff_ne]; exact h1
              have k2 : (code == 206) = false := by rw [beq_eq_false_iff_ne]; exact h2
              have k3 : (code == 400) = false := by rw [beq_eq_false_iff_ne]; exact h3
              have k4 : (code == 404) = false := by rw [beq_eq_false_iff_ne]; exact h4
              have k5 : (code == 416) = false := by rw [beq_eq_false_iff_ne]; exact h5
              have k6 : (code == 502) = false := by rw [beq_eq_false_iff_ne]; exact h6
              clear h1 h2 h3 h4 h5 h6
              go_enter Tryz.func155, Tryz.ntmps155
              go_wp2_with fail
              go_ret
              exact ⟨ret_str H.out.symm, rfl⟩

theorem status_class (code : Int) (w : World) :
    Calls Tryz.prog 142 #[.int .i64 code] w fun e w' => e = .returned (.int .i64 (classOf code)) ∧ w' = w := by
  by_cases h : code < 100
  · have H := Lib.hid (class_out code (.inl h))
    go_enter Tryz.func142, Tryz.ntmps142; go_wp2_with fail; go_ret; exact ⟨ret_int H.out.symm, rfl⟩
  · by_cases h2 : 599 < code
    · have H := Lib.hid (class_out code (.inr h2))
      go_enter Tryz.func142, Tryz.ntmps142; go_wp2_with fail; go_ret; exact ⟨ret_int H.out.symm, rfl⟩
    · have H := Lib.hid (class_in code (by omega) (by omega))
      go_enter Tryz.func142, Tryz.ntmps142; go_wp2_with fail; go_ret; exact ⟨ret_int H.out.symm, rfl⟩
end Go.Proofs.YtbdmmgmcbecolaaGreatDoor
namespace Go.Proofs.YtbdmmgmcbecolaaGreatDoor
open Go.RowKit
theorem bs_cat (a b : List UInt8) : bs a ++ bs b = bs (a ++ b) := by
  have : (bs a ++ bs b).data.toList = a ++ b := by simp [bs]
  rw [← this, bs_self]
theorem data_cat (a b : ByteArray) : (a ++ b).data.toList = a.data.toList ++ b.data.toList := by simp
end Go.Proofs.YtbdmmgmcbecolaaGreatDoor
namespace Go.Proofs.YtbdmmgmcbecolaaGreatDoor
open Go.RowKit

theorem decDigits_len (n : Nat) (h : n < 18446744073709551616) : (Go.Lib.decDigits n).length ≤ 20 := by
  rw [Go.Lib.decDigits_length]
  have h1 := Go.Lib.numDigits_eq n
  rcases Nat.eq_zero_or_pos n with h0 | h0
  · subst h0; rw [Go.Lib.nDigits_small (by decide)]; decide
  · obtain ⟨h2, h3⟩ := h1 h0 h
    rw [← h2]; split <;> omega
theorem itoa_len (n : Int) (h0 : -9223372036854775808 ≤ n) (h1 : n ≤ 9223372036854775807) : (Go.Lib.itoa n).length ≤ 21 := by
  unfold Go.Lib.itoa
  split
  · have := decDigits_len n.natAbs (by omega); simp; omega
  · have := decDigits_len n.toNat (by omega); omega
theorem itoa_nonneg (n : Int) (h : 0 ≤ n) : Go.Lib.itoa n = Go.Lib.decDigits n.toNat := by
  unfold Go.Lib.itoa; rw [if_neg (by omega)]
end Go.Proofs.YtbdmmgmcbecolaaGreatDoor
namespace Go.Proofs.YtbdmmgmcbecolaaGreatDoor
open Go.RowKit

theorem below_grow (w : World) (k : Nat) (os : Array Obj) : Below w.heap.size w (Go.Sort.grow (w.drewN k) os) := by
  refine ⟨rfl, rfl, rfl, ?_, fun j hj => ?_⟩
  · show w.heap.size ≤ (w.heap ++ os).size
    simp
  · show (w.heap ++ os)[j]? = w.heap[j]?
    rw [Array.getElem?_append_left hj]

theorem itoa_any (n : Int) (h0 : -9223372036854775808 ≤ n) (h1 : n ≤ 9223372036854775807) (w : World) (hE : Env w) :
    Calls Tryz.prog 152 #[.int .i64 n] w fun e w' => e = .returned (.string (bs (Go.Lib.itoa n))) ∧ Below w.heap.size w w' :=
  (Tryz.strconv_Itoa n h0 h1 w hE.tab).mono fun _ _ ⟨he, k, os, hw⟩ => ⟨he, hw ▸ below_grow w k os⟩

theorem status_print (code : Int) (w : World) (hE : Env w) (h0 : -9223372036854775808 ≤ code) (h1 : code ≤ 9223372036854775807) :
    Calls Tryz.prog 121 #[.int .i64 code] w fun e w' => e = .returned (.tuple #[.string (printOf code), .int .i64 (printErr code)]) ∧ Below w.heap.size w w' := by
  by_cases hc : classOf code = 0
  · have hP : Hid (printOf code = ⟨#[]⟩ ∧ printErr code = 8) := Lib.hid ⟨if_pos hc, if_pos hc⟩
    go_enter Tryz.func121, Tryz.ntmps121
    go_wp2_with (go_at_call 142; refine (status_class _ _).mono ?_; rintro e w' ⟨rfl, rfl⟩)
    go_ret2
    exact ⟨by rw [hP.out.1, hP.out.2]; rfl, Below.refl _ _⟩
  · have hP : Hid (printOf code = statusLine code ∧ printErr code = 0) := Lib.hid ⟨if_neg hc, if_neg hc⟩
    have hcb : (classOf code == 0) = false := by rw [beq_eq_false_iff_ne]; exact hc
    have hl := itoa_len code h0 h1
    have hr := reason_size code
    obtain ⟨I, hI⟩ : ∃ I, I = bs (Go.Lib.itoa code) := ⟨_, rfl⟩
    have hIs : I.size ≤ 21 := by rw [hI, bs_size]; exact hl
    have y1 : (ByteArray.mk #[72, 84, 84, 80, 47, 49, 46, 49, 32]).size + I.size ≤ 9223372036854775807 := by show 9 + _ ≤ _; omega
    have y2 : ((ByteArray.mk #[72, 84, 84, 80, 47, 49, 46, 49, 32]) ++ I).size + (ByteArray.mk #[32]).size ≤ 9223372036854775807 := by rw [ByteArray.size_append]; show 9 + _ + 1 ≤ _; omega
    have y3 : ((ByteArray.mk #[72, 84, 84, 80, 47, 49, 46, 49, 32]) ++ I ++ ByteArray.mk #[32]).size + (reasonOf code).size ≤ 9223372036854775807 := by rw [ByteArray.size_append, ByteArray.size_append]; show 9 + _ + 1 + _ ≤ _; omega
    have HI := Lib.hid hI
    have HE := Lib.hid hE
    clear hc hI hE
    go_enter Tryz.func121, Tryz.ntmps121
    go_wp2_with (go_at_call 142; refine (status_class _ _).mono ?_; rintro e w' ⟨rfl, rfl⟩)
    refine (itoa_any code h0 h1 _ HE.out).mono ?_
    rw [← HI.out]
    rintro e w1 ⟨rfl, hb⟩
    go_wp2_with (go_at_call 155; refine (status_reason _ _).mono ?_; rintro e w' ⟨rfl, rfl⟩)
    go_ret2
    refine ⟨?_, hb⟩
    rw [hP.out.1, hP.out.2]
    unfold statusLine
    rw [HI.out]
    rfl

end Go.Proofs.YtbdmmgmcbecolaaGreatDoor
namespace Go.Proofs.YtbdmmgmcbecolaaGreatDoor
open Go.RowKit

def digitSet : List UInt8 := [48, 49, 50, 51, 52, 53, 54, 55, 56, 57]
theorem digitSet_iff (c : UInt8) : digitSet.contains c = isDigitB c := by
  have h : ∀ n : Fin 256, digitSet.contains (UInt8.ofNat n.val) = isDigitB (UInt8.ofNat n.val) := by decide +kernel
  have := h ⟨c.toNat, c.toNat_lt⟩
  simpa using this

theorem dropWhile_nil {p : UInt8 → Bool} (l : List UInt8) : l.dropWhile p = [] ↔ l.all p = true := by
  induction l with
  | nil => simp
  | cons a t ih =>
    by_cases h : p a = true
    · rw [List.dropWhile_cons_of_pos h, ih]; simp [h]
    · rw [List.dropWhile_cons_of_neg h]; simp [h]

theorem trimS_empty (l cs : List UInt8) : (Go.Lib.trimS l cs).isEmpty = l.all (cs.contains ·) := by
  unfold Go.Lib.trimS Go.Lib.trimLeftS Go.Lib.trimRightS
  rw [Bool.eq_iff_iff, List.isEmpty_iff]
  constructor
  · intro h
    have h1 := (dropWhile_nil _).1 h
    rw [List.all_reverse] at h1
    have h2 : (l.reverse.dropWhile (cs.contains ·)) = [] := by
      cases hd : l.reverse.dropWhile (cs.contains ·) with
      | nil => rfl
      | cons a t =>
        have hn := List.head?_dropWhile_not (cs.contains ·) l.reverse
        rw [hd] at h1 hn
        simp only [List.head?_cons] at hn
        simp only [List.all_cons, Bool.and_eq_true] at h1
        rw [h1.1] at hn
        exact absurd hn (by decide)
    have h3 := (dropWhile_nil _).1 h2
    rwa [List.all_reverse] at h3
  · intro h
    have h2 : (l.reverse.dropWhile (cs.contains ·)) = [] := (dropWhile_nil _).2 (by rw [List.all_reverse]; exact h)
    rw [h2]; rfl

theorem digits_trim (l : List UInt8) : (Go.Lib.trimS l digitSet).isEmpty = l.all isDigitB := by
  rw [trimS_empty]
  congr 1
  funext c
  exact digitSet_iff c

theorem three (l : List UInt8) (h : 3 ≤ l.length) : l = l[0] :: l[1] :: l[2] :: l.drop 3 := by
  match l, h with
  | a :: b :: c :: t, _ => rfl

theorem codeOf_short (l : List UInt8) (h : l.length < 3) : codeOf l = (0, 4) := by
  match l, h with
  | [], _ => rfl
  | [_], _ => rfl
  | [_, _], _ => rfl
/-- the three digits' number. -/
def numOf (a b c : UInt8) : Int := 100 * ((a.toNat : Int) - 48) + 10 * ((b.toNat : Int) - 48) + ((c.toNat : Int) - 48)
theorem codeOf_cons (a b c : UInt8) (t : List UInt8) : codeOf (a :: b :: c :: t) = if t ≠ [] ∧ t.head? ≠ some 32 then (0, 4) else if (isDigitB a && isDigitB b && isDigitB c) = false then (0, 4)
      else if classOf (numOf a b c) = 0 then (0, 4) else (numOf a b c, 0) := rfl
theorem codeOf_tail (l : List UInt8) (h : 3 < l.length) (h2 : l[3] ≠ 32) : codeOf l = (0, 4) := by
  match l, h, h2 with
  | a :: b :: c :: d :: t, _, h2 =>
    rw [codeOf_cons, if_pos ⟨by simp, by simpa using h2⟩]
theorem codeOf_main (l : List UInt8) (h : 3 ≤ l.length) (h2 : ∀ h3 : 3 < l.length, l[3] = 32) :
    codeOf l = if (isDigitB l[0] && isDigitB l[1] && isDigitB l[2]) = false then (0, 4) else if classOf (numOf l[0] l[1] l[2]) = 0 then (0, 4) else (numOf l[0] l[1] l[2], 0) := by
  match l, h, h2 with
  | [a, b, c], _, _ =>
    rw [codeOf_cons]; rfl
  | a :: b :: c :: d :: t, _, h2 =>
    have hd : d = 32 := h2 (by simp)
    rw [codeOf_cons, if_neg (by simp [hd])]; rfl
theorem codeOf_digits (l : List UInt8) (h : 3 ≤ l.length) (hd : (isDigitB l[0] && isDigitB l[1] && isDigitB l[2]) = false) : codeOf l = (0, 4) := by
  by_cases h3 : 3 < l.length
  · by_cases h4 : l[3] = 32
    · rw [codeOf_main l h (fun _ => h4), if_pos hd]
    · exact codeOf_tail l h3 h4
  · rw [codeOf_main l h (fun h' => absurd h' h3), if_pos hd]

theorem digit_bd (c : UInt8) (h : isDigitB c = true) : 48 ≤ c.toNat ∧ c.toNat ≤ 57 := by
  unfold isDigitB at h; simpa using h

theorem atoi_three (a b c : UInt8) (ha : isDigitB a = true) (hb : isDigitB b = true) (hc : isDigitB c = true) : Go.Lib.atoi [a, b, c] = some (numOf a b c) := by
  obtain ⟨a1, a2⟩ := digit_bd a ha
  obtain ⟨b1, b2⟩ := digit_bd b hb
  obtain ⟨c1, c2⟩ := digit_bd c hc
  have d1 : Go.Lib.digitVal a = some (a.toNat - 48) := if_pos ⟨a1, a2⟩
  have d2 : Go.Lib.digitVal b = some (b.toNat - 48) := if_pos ⟨b1, b2⟩
  have d3 : Go.Lib.digitVal c = some (c.toNat - 48) := if_pos ⟨c1, c2⟩
  have n1 : (a == 45) = false := by rw [beq_eq_false_iff_ne]; intro e; subst e; simp at a1
  have n2 : (a == 43) = false := by rw [beq_eq_false_iff_ne]; intro e; subst e; simp at a1
  unfold Go.Lib.atoi Go.Lib.decNat
  simp only [n1, n2, Go.Lib.decFrom, d1, d2, d3, List.isEmpty_cons, Bool.false_eq_true, if_false, Option.map_some]
  unfold numOf
  congr 1
  omega
end Go.Proofs.YtbdmmgmcbecolaaGreatDoor
namespace Go.Proofs.YtbdmmgmcbecolaaGreatDoor
open Go.RowKit

theorem status_form (l : List UInt8) (h : putErr l = 4) : statusOf l = (0, 4) := if_pos h
theorem status_version (l : List UInt8) (h : putErr l ≠ 4) (h2 : versionL.isPrefixOf l = false) : statusOf l = (0, 13) := by
  unfold statusOf; rw [if_neg h, if_pos h2]
theorem status_code (l : List UInt8) (h : putErr l ≠ 4) (h2 : versionL.isPrefixOf l = true) : statusOf l = codeOf (l.drop 9) := by
  unfold statusOf; rw [if_neg h, if_neg (by simp [h2])]
end Go.Proofs.YtbdmmgmcbecolaaGreatDoor
namespace Go.Proofs.YtbdmmgmcbecolaaGreatDoor
open Go.RowKit

theorem status_digits (s : ByteArray) (w : World) (hs : s.size ≤ 9223372036854775807) :
    Calls Tryz.prog 169 #[.string s] w fun e w' => e = .returned (.bool (s.data.toList.all isDigitB)) ∧ Below w.heap.size w w' := by
  have hcon : Calls Tryz.prog 147 #[.string s, .string ⟨#[48, 49, 50, 51, 52, 53, 54, 55, 56, 57]⟩] w (fun e w' => e = .returned (.string (bs (Go.Lib.trimS s.data.toList digitSet))) ∧ Below w.heap.size w w') :=
    Any.strings_Trim_laid Tryz.lays160 (by kernel_rfl) s ⟨#[48, 49, 50, 51, 52, 53, 54, 55, 56, 57]⟩ w hs (by decide) (Go.Proofs.ascii_of_all (by decide))
  have he : (bs (Go.Lib.trimS s.data.toList digitSet)).toList.isEmpty = s.data.toList.all isDigitB := by
    rw [isEmpty_bs]; exact digits_trim _
  obtain ⟨R, hR⟩ : ∃ R, R = bs (Go.Lib.trimS s.data.toList digitSet) := ⟨_, rfl⟩
  rw [← hR] at hcon he
  have Hcon := Lib.hid hcon
  have He := Lib.hid he
  clear hR hcon he
  go_enter Tryz.func169, Tryz.ntmps169
  go_wp2_with fail
  refine Hcon.out.mono ?_
  rintro e w' ⟨rfl, hb⟩
  go_wp2_with fail
  go_ret
  exact ⟨ret_bool He.out, hb⟩

/-- may what stands behind the version be? -/
def shapeB (l : List UInt8) : Bool := decide (3 ≤ l.length) && (decide (l.length = 3) || l[3]? == some 32) && ((l.take 3).all isDigitB)
theorem shape_short (l : List UInt8) (h : l.length < 3) : shapeB l = false := by
  unfold shapeB; rw [decide_eq_false (by omega)]; rfl
theorem shape_tail (l : List UInt8) (h : 3 < l.length) (h2 : l[3]? ≠ some 32) : shapeB l = false := by
  unfold shapeB
  have : (l[3]? == some 32) = false := by rw [beq_eq_false_iff_ne]; exact h2
  rw [this, decide_eq_false (show ¬ l.length = 3 by omega)]; simp
theorem shape_main (l : List UInt8) (h : 3 ≤ l.length) (h2 : l.length = 3 ∨ l[3]? = some 32) : shapeB l = (isDigitB l[0] && isDigitB l[1] && isDigitB l[2]) := by
  unfold shapeB
  have h3 : (decide (l.length = 3) || l[3]? == some 32) = true := by
    rcases h2 with h2 | h2
    · rw [decide_eq_true h2]; rfl
    · rw [h2]; simp
  rw [decide_eq_true h, h3, Bool.true_and, Bool.true_and]
  match l, h with
  | a :: b :: c :: t, _ => simp [Bool.and_assoc]
theorem piece1 (s : ByteArray) (k : Nat) (h : k < s.size) : (s.extract k (k + 1)).data.toList = [s[k]] := by
  rw [extract_bs, bs_data, List.take_succ_eq_append_getElem (by simpa using h), List.drop_append_of_le_length (by simp; omega), List.drop_of_length_le (by simp; omega)]
  rfl

theorem digit_at (t : ByteArray) (b : UInt8) (B : Bool) (w : World) (hs : t.size ≤ 9223372036854775807) (hb : t.data.toList = [b]) (hB : isDigitB b = B) :
    Calls Tryz.prog 169 #[.string t] w fun e w' => e = .returned (.bool B) ∧ Below w.heap.size w w' := by
  have h := status_digits t w hs
  rw [hb] at h
  simpa [hB] using h

set_option maxRecDepth 100000 in
set_option maxHeartbeats 4000000 in
theorem status_shape (s : ByteArray) (w : World) (hs : s.size ≤ 9223372036854775807) :
    Calls Tryz.prog 140 #[.string s] w fun e w' => e = .returned (.bool (shapeB s.data.toList)) ∧ Below w.heap.size w w' := by
  by_cases h3 : s.size < 3
  · have H := Lib.hid (shape_short s.data.toList (by rw [size_len]; exact h3))
    have t1 : ((s.size : Int) == 3) = false := by rw [beq_eq_false_iff_ne]; omega
    go_enter Tryz.func140, Tryz.ntmps140
    go_wp2_with fail
    go_ret
    exact ⟨ret_bool H.out.symm, Below.refl _ _⟩
  · by_cases ht : ∃ h : 3 < s.size, s[3] ≠ 32
    · obtain ⟨hlt, hne⟩ := ht
      have H := Lib.hid (shape_tail s.data.toList (by rw [size_len]; exact hlt) (by rw [List.getElem?_eq_getElem (by rw [size_len]; exact hlt)]; intro e; exact hne (Option.some.inj e)))
      have hc3 : ((s[3].toNat : Int) != 32) = true := by
        rw [bne_iff_ne]; intro e; exact hne (UInt8.toNat_inj.1 (by show _ = 32; omega))
      clear hne
      go_enter Tryz.func140, Tryz.ntmps140
      go_wp2_with fail
      go_ret
      exact ⟨ret_bool H.out.symm, Below.refl _ _⟩
    · have hm := shape_main s.data.toList (by rw [size_len]; omega) (by
        rcases Nat.lt_or_ge 3 s.size with h | h
        · right
          rw [List.getElem?_eq_getElem (by rw [size_len]; exact h)]
          have : s[3] = 32 := Classical.byContradiction fun hne => ht ⟨h, hne⟩
          exact congrArg some this
        · left; rw [size_len]; omega)
      change shapeB s.data.toList = (isDigitB (s[0]'(by omega)) && isDigitB (s[1]'(by omega)) && isDigitB (s[2]'(by omega))) at hm
      have hx : s.data.toList.length = s.size := size_len s
      have hsz3 : (s.extract 0 3).size = 3 := by rw [ByteArray.size_extract]; omega
      obtain ⟨a, ha⟩ : ∃ a, a = s[0]'(by omega) := ⟨_, rfl⟩
      obtain ⟨b, hb⟩ : ∃ b, b = s[1]'(by omega) := ⟨_, rfl⟩
      obtain ⟨c, hc⟩ : ∃ c, c = s[2]'(by omega) := ⟨_, rfl⟩
      have g0 : ((s.extract 0 3).extract 0 1).data.toList = [a] := by
        rw [piece1 (s.extract 0 3) 0 (by omega), ByteArray.getElem_extract, ha]
      have g1 : ((s.extract 0 3).extract 1 2).data.toList = [b] := by
        rw [piece1 (s.extract 0 3) 1 (by omega), ByteArray.getElem_extract, hb]
      have g2 : ((s.extract 0 3).extract 2 3).data.toList = [c] := by
        rw [piece1 (s.extract 0 3) 2 (by omega), ByteArray.getElem_extract, hc]
      have k0 : (s.extract 0 1).data.toList = [a] := by
        rw [piece1 s 0 (by omega), ha]
      have k1 : (s.extract 1 2).data.toList = [b] := by
        rw [piece1 s 1 (by omega), hb]
      have k2 : (s.extract 2 3).data.toList = [c] := by
        rw [piece1 s 2 (by omega), hc]
      rw [← ha, ← hb, ← hc] at hm
      clear ha hb hc
      obtain ⟨da, hda⟩ : ∃ d, isDigitB a = d := ⟨_, rfl⟩
      obtain ⟨db, hdb⟩ : ∃ d, isDigitB b = d := ⟨_, rfl⟩
      obtain ⟨dc, hdc⟩ : ∃ d, isDigitB c = d := ⟨_, rfl⟩
      rw [hda, hdb, hdc] at hm
      have z1 : ((s.extract 0 3).extract 0 1).size ≤ 9223372036854775807 := by rw [ByteArray.size_extract]; omega
      have z2 : ((s.extract 0 3).extract 1 2).size ≤ 9223372036854775807 := by rw [ByteArray.size_extract]; omega
      have z3 : ((s.extract 0 3).extract 2 3).size ≤ 9223372036854775807 := by rw [ByteArray.size_extract]; omega
      have y1 : (s.extract 0 1).size ≤ 9223372036854775807 := by rw [ByteArray.size_extract]; omega
      have y2 : (s.extract 1 2).size ≤ 9223372036854775807 := by rw [ByteArray.size_extract]; omega
      have y3 : (s.extract 2 3).size ≤ 9223372036854775807 := by rw [ByteArray.size_extract]; omega
      have C0 := fun w => digit_at _ a da w z1 g0 hda
      have C1 := fun w => digit_at _ b db w z2 g1 hdb
      have C2 := fun w => digit_at _ c dc w z3 g2 hdc
      have D0 := fun w => digit_at _ a da w y1 k0 hda
      have D1 := fun w => digit_at _ b db w y2 k1 hdb
      have D2 := fun w => digit_at _ c dc w y3 k2 hdc
      clear hda hdb hdc g0 g1 g2 k0 k1 k2 z1 z2 z3 y1 y2 y3 hx
      have Hm := Lib.hid hm
      have HC0 := Lib.hid C0
      have HC1 := Lib.hid C1
      have HC2 := Lib.hid C2
      have HD0 := Lib.hid D0
      have HD1 := Lib.hid D1
      have HD2 := Lib.hid D2
      clear hm C0 C1 C2 D0 D1 D2
      by_cases h4 : 3 < s.size
      · have hc3 : ((s[3].toNat : Int) != 32) = false := by
          have : s[3] = 32 := Classical.byContradiction fun hne => ht ⟨h4, hne⟩
          rw [this]; rfl
        clear ht
        cases da
        · go_enter Tryz.func140, Tryz.ntmps140
          go_wp2_with fail
          refine (HC0.out _).mono ?_
          rintro e w1 ⟨rfl, hb1⟩
          go_wp2_with fail
          go_ret
          exact ⟨ret_bool (by rw [Hm.out]; rfl), hb1⟩
        · cases db
          · go_enter Tryz.func140, Tryz.ntmps140
            go_wp2_with fail
            refine (HC0.out _).mono ?_
            rintro e w1 ⟨rfl, hb1⟩
            go_wp2_with fail
            refine (HC1.out _).mono ?_
            rintro e w2 ⟨rfl, hb2⟩
            go_wp2_with fail
            go_ret
            exact ⟨ret_bool (by rw [Hm.out]; rfl), bstep hb1 hb2⟩
          · go_enter Tryz.func140, Tryz.ntmps140
            go_wp2_with fail
            refine (HC0.out _).mono ?_
            rintro e w1 ⟨rfl, hb1⟩
            go_wp2_with fail
            refine (HC1.out _).mono ?_
            rintro e w2 ⟨rfl, hb2⟩
            go_wp2_with fail
            refine (HC2.out _).mono ?_
            rintro e w3 ⟨rfl, hb3⟩
            cases dc <;>
            · go_wp2_with fail
              go_ret
              exact ⟨ret_bool (by rw [Hm.out]; rfl), bstep hb1 (bstep hb2 hb3)⟩
      · have t3 : ((s.size : Int) == 3) = true := by rw [beq_iff_eq]; omega
        have t4 : s.size = 3 := by omega
        clear ht
        cases da
        · go_enter Tryz.func140, Tryz.ntmps140
          go_wp2_with fail
          refine (HD0.out _).mono ?_
          rintro e w1 ⟨rfl, hb1⟩
          go_wp2_with fail
          go_ret
          exact ⟨ret_bool (by rw [Hm.out]; rfl), hb1⟩
        · cases db
          · go_enter Tryz.func140, Tryz.ntmps140
            go_wp2_with fail
            refine (HD0.out _).mono ?_
            rintro e w1 ⟨rfl, hb1⟩
            go_wp2_with fail
            refine (HD1.out _).mono ?_
            rintro e w2 ⟨rfl, hb2⟩
            go_wp2_with fail
            go_ret
            exact ⟨ret_bool (by rw [Hm.out]; rfl), bstep hb1 hb2⟩
          · go_enter Tryz.func140, Tryz.ntmps140
            go_wp2_with fail
            refine (HD0.out _).mono ?_
            rintro e w1 ⟨rfl, hb1⟩
            go_wp2_with fail
            refine (HD1.out _).mono ?_
            rintro e w2 ⟨rfl, hb2⟩
            go_wp2_with fail
            refine (HD2.out _).mono ?_
            rintro e w3 ⟨rfl, hb3⟩
            cases dc <;>
            · go_wp2_with fail
              go_ret
              exact ⟨ret_bool (by rw [Hm.out]; rfl), bstep hb1 (bstep hb2 hb3)⟩

theorem codeOf_shape_no (l : List UInt8) (h : shapeB l = false) : codeOf l = (0, 4) := by
  rcases Nat.lt_or_ge l.length 3 with h3 | h3
  · exact codeOf_short l h3
  · by_cases h2 : l.length = 3 ∨ l[3]? = some 32
    · exact codeOf_digits l h3 (by rw [← shape_main l h3 h2]; exact h)
    · have h4 : 3 < l.length := by omega
      exact codeOf_tail l h4 (fun e => h2 (.inr (by rw [List.getElem?_eq_getElem h4, e])))
theorem codeOf_shape (l : List UInt8) (h : shapeB l = true) : ∃ a b c, 3 ≤ l.length ∧ l.take 3 = [a, b, c] ∧ isDigitB a = true ∧ isDigitB b = true ∧ isDigitB c = true ∧ codeOf l = if classOf (numOf a b c) = 0 then (0, 4) else (numOf a b c, 0) := by
  rcases Nat.lt_or_ge l.length 3 with h3 | h3
  · rw [shape_short l h3] at h; exact absurd h (by decide)
  · by_cases h2 : l.length = 3 ∨ l[3]? = some 32
    · have hm := shape_main l h3 h2
      rw [h] at hm
      have hm' := hm.symm
      rw [Bool.and_eq_true, Bool.and_eq_true] at hm'
      refine ⟨l[0], l[1], l[2], h3, ?_, hm'.1.1, hm'.1.2, hm'.2, ?_⟩
      · match l, h3 with
        | a :: b :: c :: t, _ => rfl
      · rw [codeOf_main l h3 ?_, if_neg (by rw [← hm]; decide)]
        intro h4
        rcases h2 with h2 | h2
        · omega
        · rw [List.getElem?_eq_getElem h4] at h2; exact Option.some.inj h2
    · have h4 : 3 < l.length := by omega
      rw [shape_tail l h4 (fun e => h2 (.inr e))] at h; exact absurd h (by decide)

theorem cut_prefix (s : ByteArray) (w : World) (R : ByteArray) (B : Bool) (hR : R = bs (Lib.trimPrefix s.data.toList versionL)) (hB : Lib.hasPrefix s.data.toList versionL = B) :
    Calls Tryz.prog 76 #[.string s, .string ⟨#[72, 84, 84, 80, 47, 49, 46, 49, 32]⟩] w fun e w' => e = .returned (.tuple #[.string R, .bool B]) ∧ w' = w := by
  have h := Tryz.strings_CutPrefix s ⟨#[72, 84, 84, 80, 47, 49, 46, 49, 32]⟩ w
  subst hR; subst hB
  exact h

theorem status_fin2 (l : List UInt8) (n : Int) (e : Nat) (h : statusOf l = (n, e)) : Ending.returned (.tuple #[.int .i64 n, .int .i64 e]) = .returned (.tuple #[.int .i64 (statusOf l).1, .int .i64 (statusOf l).2]) := by rw [h]

set_option maxRecDepth 100000 in
set_option maxHeartbeats 4000000 in
theorem status_parse (s : ByteArray) (w : World) (hs : s.size ≤ 9223372036854775807) :
    Calls Tryz.prog 106 #[.string s] w fun e w' => e = .returned (.tuple #[.int .i64 (statusOf s.data.toList).1, .int .i64 (statusOf s.data.toList).2]) ∧ Below w.heap.size w w' := by
  by_cases h4 : putErr s.data.toList = 4
  · have H := Lib.hid (status_form s.data.toList h4)
    have hput := lines_put s w hs
    rw [h4] at hput
    have Hput := Lib.hid hput
    clear hput h4
    go_enter Tryz.func106, Tryz.ntmps106
    go_wp2_with fail
    refine Hput.out.mono ?_
    rintro e w' ⟨rfl, rfl⟩
    go_wp2_with fail
    go_ret2
    exact ⟨status_fin2 _ 0 4 H.out, Below.refl _ _⟩
  · obtain ⟨E, hE⟩ : ∃ E, E = putErr s.data.toList := ⟨_, rfl⟩
    have hE4 : ((E : Int) == 4) = false := by rw [beq_eq_false_iff_ne, hE]; omega
    have hE4' : (E == 4) = false := by rw [beq_eq_false_iff_ne, hE]; omega
    have hput := lines_put s w hs
    rw [← hE] at hput
    obtain ⟨PL, hPL⟩ : ∃ PL, PL = putLine s := ⟨_, rfl⟩
    rw [← hPL] at hput
    have Hput := Lib.hid hput
    clear hput hE hPL
    by_cases hpre : versionL.isPrefixOf s.data.toList = true
    · have hcode := status_code _ h4 hpre
      obtain ⟨R, hR⟩ : ∃ R, R = bs (Lib.trimPrefix s.data.toList versionL) := ⟨_, rfl⟩
      have Hcut := Lib.hid (cut_prefix s w R true hR hpre)
      have hRl : R.data.toList = s.data.toList.drop 9 := by
        rw [hR, bs_data]; unfold Lib.trimPrefix; rw [if_pos (show Lib.hasPrefix s.data.toList versionL = true from hpre)]; rfl
      have hRs : R.size ≤ 9223372036854775807 := by
        rw [← size_len, hRl, List.length_drop, size_len]; omega
      rw [← hRl] at hcode
      clear hR hRl hpre h4
      cases hsh : shapeB R.data.toList with
      | false =>
        have H := Lib.hid (hcode.trans (codeOf_shape_no _ hsh))
        have hshp := fun w => status_shape R w hRs
        rw [hsh] at hshp
        have Hshp := Lib.hid hshp
        clear hshp hsh hcode
        go_enter Tryz.func106, Tryz.ntmps106
        go_wp2_with fail
        refine Hput.out.mono ?_
        rintro e w' ⟨rfl, rfl⟩
        go_wp2_with fail
        refine Hcut.out.mono ?_
        rintro e w' ⟨rfl, rfl⟩
        go_wp2_with fail
        refine (Hshp.out _).mono ?_
        rintro e w1 ⟨rfl, hb1⟩
        go_wp2_with fail
        go_ret2
        exact ⟨status_fin2 _ 0 4 H.out, hb1⟩
      | true =>
        obtain ⟨a, b, c, h3, ht, ha, hb, hc, hcd⟩ := codeOf_shape _ hsh
        rw [hcd] at hcode
        rw [size_len] at h3
        have hshp := fun w => status_shape R w hRs
        rw [hsh] at hshp
        have Hshp := Lib.hid hshp
        have hT : (R.extract 0 3).data.toList = [a, b, c] := by rw [extract_bs, bs_data, List.drop_zero]; exact ht
        have hato := fun w => Tryz.strconv_Atoi (R.extract 0 3) (numOf a b c) (by rw [ByteArray.size_extract]; omega) (by rw [hT]; exact atoi_three a b c ha hb hc) w
        have Hato := Lib.hid hato
        obtain ⟨C, hC⟩ : ∃ C, C = numOf a b c := ⟨_, rfl⟩
        rw [← hC] at Hato hcode
        have hCb : 0 ≤ C ∧ C ≤ 999 := by
          obtain ⟨a1, a2⟩ := digit_bd a ha
          obtain ⟨b1, b2⟩ := digit_bd b hb
          obtain ⟨c1, c2⟩ := digit_bd c hc
          rw [hC]; unfold numOf; omega
        obtain ⟨hC0, hC9⟩ := hCb
        clear hshp hsh hcd ht ha hb hc hT hato hC
        by_cases hcl : classOf C = 0
        · rw [if_pos hcl] at hcode
          have H := Lib.hid hcode
          clear hcode
          go_enter Tryz.func106, Tryz.ntmps106
          go_wp2_with fail
          refine Hput.out.mono ?_
          rintro e w' ⟨rfl, rfl⟩
          go_wp2_with fail
          refine Hcut.out.mono ?_
          rintro e w' ⟨rfl, rfl⟩
          go_wp2_with fail
          refine (Hshp.out _).mono ?_
          rintro e w1 ⟨rfl, hb1⟩
          go_wp2_with fail
          refine (Hato.out _).mono ?_
          rintro e w2 ⟨rfl, t, rfl⟩
          go_wp2_with (go_at_call 142; refine (status_class _ _).mono ?_; rintro e w' ⟨rfl, rfl⟩)
          go_ret2
          exact ⟨status_fin2 _ 0 4 H.out, bstep hb1 (Go.Joins.below_bytesWorld _ _ _ _ (Nat.le_refl _))⟩
        · rw [if_neg hcl] at hcode
          have H := Lib.hid hcode
          have hclb : (classOf C == 0) = false := by rw [beq_eq_false_iff_ne]; exact hcl
          clear hcode hcl
          go_enter Tryz.func106, Tryz.ntmps106
          go_wp2_with fail
          refine Hput.out.mono ?_
          rintro e w' ⟨rfl, rfl⟩
          go_wp2_with fail
          refine Hcut.out.mono ?_
          rintro e w' ⟨rfl, rfl⟩
          go_wp2_with fail
          refine (Hshp.out _).mono ?_
          rintro e w1 ⟨rfl, hb1⟩
          go_wp2_with fail
          refine (Hato.out _).mono ?_
          rintro e w2 ⟨rfl, t, rfl⟩
          go_wp2_with (go_at_call 142; refine (status_class _ _).mono ?_; rintro e w' ⟨rfl, rfl⟩)
          go_ret2
          exact ⟨status_fin2 _ C 0 H.out, bstep hb1 (Go.Joins.below_bytesWorld _ _ _ _ (Nat.le_refl _))⟩
    · have hpre' : versionL.isPrefixOf s.data.toList = false := Bool.eq_false_iff.2 hpre
      have H := Lib.hid (status_version _ h4 hpre')
      obtain ⟨R, hR⟩ : ∃ R, R = bs (Lib.trimPrefix s.data.toList versionL) := ⟨_, rfl⟩
      have Hcut := Lib.hid (cut_prefix s w R false hR hpre')
      clear hR hpre hpre' h4
      go_enter Tryz.func106, Tryz.ntmps106
      go_wp2_with fail
      refine Hput.out.mono ?_
      rintro e w' ⟨rfl, rfl⟩
      go_wp2_with fail
      refine Hcut.out.mono ?_
      rintro e w' ⟨rfl, rfl⟩
      go_wp2_with fail
      go_ret2
      exact ⟨status_fin2 _ 0 13 H.out, Below.refl _ _⟩
end Go.Proofs.YtbdmmgmcbecolaaGreatDoor
namespace Go.Proofs.YtbdmmgmcbecolaaGreatDoor
open Go.RowKit

/-- three digits of a code -/
def digs (n : Nat) : List UInt8 := [UInt8.ofNat (48 + n / 100), UInt8.ofNat (48 + n / 10 % 10), UInt8.ofNat (48 + n % 10)]
theorem decDigits_three (n : Nat) (h1 : 100 ≤ n) (h2 : n ≤ 999) : Go.Lib.decDigits n = digs n := by
  rw [Go.Lib.decDigits, dif_neg (by omega), Go.Lib.decDigits, dif_neg (by omega), Go.Lib.decDigits_one (show n / 10 / 10 < 10 by omega)]
  rw [show n / 10 / 10 = n / 100 by omega]
  rfl
theorem digs_digit (n : Nat) (h1 : 100 ≤ n) (h2 : n ≤ 999) : ∀ k, k < 10 → isDigitB (UInt8.ofNat (48 + k)) = true := by
  decide +kernel
theorem toNat_dig (k : Nat) (h : k < 10) : (UInt8.ofNat (48 + k)).toNat = 48 + k := by
  rw [UInt8.toNat_ofNat', Nat.mod_eq_of_lt (by omega)]
theorem digs_num (n : Nat) (h1 : 100 ≤ n) (h2 : n ≤ 999) : numOf (UInt8.ofNat (48 + n / 100)) (UInt8.ofNat (48 + n / 10 % 10)) (UInt8.ofNat (48 + n % 10)) = n := by
  unfold numOf
  rw [toNat_dig _ (by omega), toNat_dig _ (by omega), toNat_dig _ (by omega)]
  omega
theorem dig_plain (k : Nat) (h : k < 10) : plainB (UInt8.ofNat (48 + k)).toNat = true := by
  rw [toNat_dig k h]
  have : ∀ k, k < 10 → plainB (48 + k) = true := by decide
  exact this k h
theorem all_plain (n : Nat) (h1 : 100 ≤ n) (h2 : n ≤ 999) (t : List UInt8) : (versionL ++ digs n ++ t).all (fun c => plainB c.toNat) = t.all (fun c => plainB c.toNat) := by
  rw [List.all_append, List.all_append]
  have e1 : versionL.all (fun c => plainB c.toNat) = true := by decide +kernel
  have e2 : (digs n).all (fun c => plainB c.toNat) = true := by
    unfold digs
    simp only [List.all_cons, List.all_nil]
    rw [dig_plain _ (by omega), dig_plain _ (by omega), dig_plain _ (by omega)]; rfl
  rw [e1, e2, Bool.true_and, Bool.true_and]
theorem putErr_four (l : List UInt8) : putErr l = 4 ↔ l.all (fun c => plainB c.toNat) = false := by
  unfold putErr
  constructor
  · intro h
    split at h
    · assumption
    · split at h <;> exact absurd h (by decide)
  · intro h; rw [if_pos h]

theorem statusOf_line (n : Nat) (h1 : 100 ≤ n) (h2 : n ≤ 599) (t : List UInt8) (ht : t = [] ∨ t.head? = some 32) :
    statusOf (versionL ++ digs n ++ t) = if t.all (fun c => plainB c.toNat) = false then (0, 4) else ((n : Int), 0) := by
  have hp := all_plain n h1 (by omega) t
  by_cases hpl : t.all (fun c => plainB c.toNat) = false
  · rw [if_pos hpl]
    exact status_form _ ((putErr_four _).2 (by rw [hp]; exact hpl))
  · rw [if_neg hpl]
    rw [status_code _ (fun h => hpl (by rw [← hp]; exact (putErr_four _).1 h)) (by
      rw [List.isPrefixOf_iff_prefix, List.append_assoc]; exact List.prefix_append _ _)]
    rw [List.append_assoc, List.drop_append_of_le_length (by decide)]
    have hv : versionL.drop 9 = [] := by decide
    rw [hv, List.nil_append]
    show codeOf (_ :: _ :: _ :: t) = _
    have hd := digs_digit n h1 (by omega)
    rw [codeOf_cons, if_neg (by
      rintro ⟨h3, h4⟩
      rcases ht with h | h
      · exact h3 h
      · exact h4 h), if_neg (by rw [hd _ (by omega), hd _ (by omega), hd _ (by omega)]; decide), digs_num n h1 (by omega), if_neg (by
      have := class_pos (n : Int) (by omega) (by omega); omega)]

theorem statusLine_data (n : Nat) (h1 : 100 ≤ n) (h2 : n ≤ 999) : (statusLine (n : Int)).data.toList = versionL ++ digs n ++ (32 :: (reasonOf (n : Int)).data.toList) := by
  unfold statusLine
  rw [itoa_nonneg _ (by omega), Int.toNat_natCast, decDigits_three n h1 h2]
  simp [ByteArray.data_append]
theorem reason_plain (code : Int) : (reasonOf code).data.toList.all (fun c => plainB c.toNat) = true := by
  unfold reasonOf
  repeat' split
  all_goals decide +kernel
theorem statusLine_len (n : Nat) (h1 : 100 ≤ n) (h2 : n ≤ 999) : (statusLine (n : Int)).size = 13 + (reasonOf (n : Int)).size := by
  rw [← size_len, statusLine_data n h1 h2]; simp [versionL, digs]; omega
theorem status_print_put (n : Nat) (h1 : 100 ≤ n) (h2 : n ≤ 599) : putErr (statusLine (n : Int)).data.toList = 0 := by
  have hl := statusLine_len n h1 (by omega)
  have hr := reason_size (n : Int)
  unfold putErr
  rw [if_neg (by
    rw [statusLine_data n h1 (by omega), all_plain n h1 (by omega), List.all_cons, reason_plain]; decide), if_neg (by rw [size_len]; omega)]
theorem status_print_parse (n : Nat) (h1 : 100 ≤ n) (h2 : n ≤ 599) : statusOf (statusLine (n : Int)).data.toList = ((n : Int), 0) := by
  rw [statusLine_data n h1 (by omega), statusOf_line n h1 h2 _ (.inr rfl), if_neg (by rw [List.all_cons, reason_plain]; decide)]
end Go.Proofs.YtbdmmgmcbecolaaGreatDoor
namespace Go.Proofs.YtbdmmgmcbecolaaGreatDoor
open Go.RowKit

def digN (n : Nat) : Bool := decide (48 ≤ n) && decide (n ≤ 57)
def letN (n : Nat) : Bool := decide (97 ≤ n) && decide (n ≤ 122)
def namedN (n : Nat) : Bool := letN n || digN n || n == 45
def nameL (l : List UInt8) : Bool := !l.isEmpty && decide (l.length ≤ 32) && l.all (fun c => namedN c.toNat)
theorem digN_ge (n : Nat) (h : 128 ≤ n) : digN n = false := by unfold digN; simp; omega
theorem namedN_ge (n : Nat) (h : 128 ≤ n) : namedN n = false := by
  unfold namedN letN digN
  have : (n == 45) = false := by rw [beq_eq_false_iff_ne]; omega
  rw [this]; simp; omega

theorem decode_low (s : ByteArray) (pos : Nat) (h : pos < s.size) (h2 : s[pos].toNat < 128) : Utf8.decode s pos = (s[pos].toNat, 1) := by
  rw [Go.Lib.decode_N]
  have : s.data.toList.getD pos 0 = s[pos] := by
    rw [List.getD_eq_getElem?_getD, List.getElem?_eq_getElem (by rw [size_len]; exact h)]; rfl
  rw [this]
  exact Go.Lib.decodeN_ascii _ _ _ _ _ h2
theorem decodeN_high (n b0 b1 b2 b3 : Nat) (h : 128 ≤ b0) : 128 ≤ (Go.Lib.decodeN n b0 b1 b2 b3).1 := by
  unfold Go.Lib.decodeN
  rw [if_neg (by omega)]
  split
  · split
    · assumption
    · decide
  · split
    · split
      · rename_i h; show 128 ≤ _; omega
      · decide
    · split
      · split
        · rename_i h; show 128 ≤ _; omega
        · decide
      · decide
theorem decode_high (s : ByteArray) (pos : Nat) (h : pos < s.size) (h2 : 128 ≤ s[pos].toNat) : 128 ≤ (Utf8.decode s pos).1 := by
  rw [Go.Lib.decode_N]
  have : s.data.toList.getD pos 0 = s[pos] := by
    rw [List.getD_eq_getElem?_getD, List.getElem?_eq_getElem (by rw [size_len]; exact h)]; rfl
  rw [this]
  exact decodeN_high _ _ _ _ _ h2

theorem idx_all_from (p : Nat → Bool) (hp : ∀ x, 128 ≤ x → p x = true) (s : ByteArray) : ∀ (f pos : Nat), s.size ≤ pos + f →
    decide (Go.Lib.idxFuncFrom p true s f pos < 0) = (s.data.toList.drop pos).all (fun c => !p c.toNat) := by
  intro f
  induction f with
  | zero =>
    intro pos h
    rw [List.drop_eq_nil_of_le (by rw [size_len]; omega)]
    rfl
  | succ f ih =>
    intro pos h
    by_cases hlt : pos < s.size
    · have hd : s.data.toList.drop pos = s[pos] :: s.data.toList.drop (pos + 1) := List.drop_eq_getElem_cons (by rw [size_len]; exact hlt)
      unfold Go.Lib.idxFuncFrom
      rw [if_pos hlt, hd, List.all_cons]
      by_cases hb : s[pos].toNat < 128
      · rw [decode_low s pos hlt hb]
        by_cases hc : p s[pos].toNat = true
        · rw [if_pos hc, hc]
          have hn : ¬ ((pos : Int) < 0) := by omega
          rw [decide_eq_false hn]; rfl
        · rw [if_neg hc, ih (pos + 1) (by omega)]
          simp [hc]
      · have hn : ¬ ((pos : Int) < 0) := by omega
        rw [if_pos (hp _ (decode_high s pos hlt (by omega))), hp _ (show 128 ≤ s[pos].toNat by omega), decide_eq_false hn]; rfl
    · rw [List.drop_eq_nil_of_le (by rw [size_len]; omega), Go.Lib.idxFuncFrom_end _ _ _ _ _ hlt]
      rfl
theorem idx_all (p : Nat → Bool) (hp : ∀ x, 128 ≤ x → p x = true) (s : ByteArray) :
    decide (Go.Lib.idxFunc p true s < 0) = s.data.toList.all (fun c => !p c.toNat) :=
  idx_all_from p hp s s.size 0 (by omega)
end Go.Proofs.YtbdmmgmcbecolaaGreatDoor
