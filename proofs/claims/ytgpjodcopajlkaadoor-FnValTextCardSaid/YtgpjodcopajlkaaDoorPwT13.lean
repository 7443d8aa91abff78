/- Contracts of the library at this dump. -/
import Derived.Shelf.Strings.Builder1
import Derived.Shelf.Strings.Builder2
import Derived.Shelf.Strings.OnBuilder
import Derived.Shelf.Small.Strs
import Derived.Shelf.Strconv.Atoi
import Derived.Shelf.Strconv.Itoa0
import Derived.Shelf.Strconv.Itoa1
import Derived.Shelf.LaysM
import Derived.Shelf.Strconv.Itoa2
import Derived.Shelf.Strconv.Itoa3
import Derived.Shelf.Strconv.AtoiErrFast
import Derived.Shelf.Strconv.ParseIntEmpty
import Derived.Shelf.Strconv.AtoiFail
import Derived.Shelf.Strconv.Clone
import Derived.Shelf.Strconv.SyntaxError
import Derived.Shelf.LaysC
import Derived.Shelf.Strconv.ToError
import Derived.Shelf.Strconv.Lower
import Derived.Shelf.Strconv.ParseUint10
import Derived.Shelf.Strconv.ParseUint10Empty
import Derived.Shelf.Strconv.ParseUint10Any
import Derived.Shelf.Strconv.ParseInt10
import Derived.Shelf.Strconv.AtoiLong
import Derived.Shelf.Strconv.AtoiInnerAll
import Derived.Shelf.Strconv.RangeError
import Derived.Shelf.Strconv.ToErrorRange
import Derived.Shelf.Strconv.AtoiAll
import Derived.Shelf.Strings.Search1
import Derived.Shelf.Strings.Prefix
import Derived.Test.YtgpjodcopajlkaaDoorProg
import Derived.Test.YtgpjodcopajlkaaDoorPwT12
import Derived.Test.YtgpjodcopajlkaaDoorPwT10
import Derived.KernelRfl
import Derived.Test.YtgpjodcopajlkaaDoorPwT9
set_option linter.unusedSimpArgs false
set_option linter.unusedVariables false
set_option linter.unusedSectionVars false
set_option maxRecDepth 20000
namespace Go.Proofs
open Go.Shelf
open Go.RowKit
def Tryd.lays156_ren : Go.Shelf.Ren := ⟨fun | 156 => 68 | 165 => 88 | 166 => 89 | 169 => 90 | 240 => 105 | 241 => 106 | 276 => 118 | 277 => 119 | n => n, fun | 31 => 23 | 9 => 9 | 3 => 3 | 4 => 4 | 0 => 0 | 20 => 20 | 72 => 102 | 76 => 73 | 70 => 100 | 37 => 22 | 75 => 72 | 127 => 118 | 164 => 134 | 5 => 5 | 80 => 49 | n => n, fun | n => n⟩
theorem Tryd.lays156 : Go.Proofs.Lays.n156 Tryd.prog Tryd.lays156_ren := {
 mixed := by kernel_rfl
 f156 := Tryd.func68.trans (congrArg some (by kernel_rfl))
 f165 := Tryd.func88.trans (congrArg some (by kernel_rfl))
 f166 := Tryd.func89.trans (congrArg some (by kernel_rfl))
 f169 := Tryd.func90.trans (congrArg some (by kernel_rfl))
 f240 := Tryd.func105.trans (congrArg some (by kernel_rfl))
 f241 := Tryd.func106.trans (congrArg some (by kernel_rfl))
 f276 := Tryd.func118.trans (congrArg some (by kernel_rfl))
 f277 := Tryd.func119.trans (congrArg some (by kernel_rfl))
 t0 := Tryd.underlying0
 a0 := Tryd.isAgg0
 z0 := Tryd.sizeOf0
 v0 := Tryd.zeroValue0
 t3 := Tryd.underlying3
 a3 := Tryd.isAgg3
 z3 := Tryd.sizeOf3
 v3 := Tryd.zeroValue3
 t4 := Tryd.underlying4
 a4 := Tryd.isAgg4
 z4 := Tryd.sizeOf4
 v4 := Tryd.zeroValue4
 t9 := Tryd.underlying9
 a9 := Tryd.isAgg9
 z9 := Tryd.sizeOf9
 v9 := Tryd.zeroValue9
 t20 := Tryd.underlying20
 a20 := Tryd.isAgg20
 z20 := Tryd.sizeOf20
 v20 := Tryd.zeroValue20
 t31 := Tryd.underlying23
 a31 := Tryd.isAgg23
 z31 := Tryd.sizeOf23
 v31 := Tryd.zeroValue23
 t37 := Tryd.underlying22
 a37 := Tryd.isAgg22
 z37 := Tryd.sizeOf22
 v37 := Tryd.zeroValue22
 t70 := Tryd.underlying100
 a70 := Tryd.isAgg100
 z70 := Tryd.sizeOf100
 v70 := Tryd.zeroValue100
 t72 := Tryd.underlying102
 a72 := Tryd.isAgg102
 z72 := Tryd.sizeOf102
 v72 := Tryd.zeroValue102
 t75 := Tryd.underlying72
 a75 := Tryd.isAgg72
 z75 := Tryd.sizeOf72
 v75 := Tryd.zeroValue72
 t76 := Tryd.underlying73
 a76 := Tryd.isAgg73
 z76 := Tryd.sizeOf73
 v76 := Tryd.zeroValue73
 t127 := Tryd.underlying118
 a127 := Tryd.isAgg118
 z127 := Tryd.sizeOf118
 v127 := Tryd.zeroValue118
 t164 := Tryd.underlying134
 a164 := Tryd.isAgg134
 z164 := Tryd.sizeOf134
 v164 := Tryd.zeroValue134 }
theorem Tryd.Builder_Extra_156 : Builder.Extra Tryd.prog Tryd.lays156_ren := {
 sizeBuilder := by kernel_rfl
 liesBuilder := by kernel_rfl
 t5 := Tryd.underlying5
 a5 := Tryd.isAgg5
 z5 := Tryd.sizeOf5
 v5 := Tryd.zeroValue5
 infoByte := by kernel_rfl
 cellsByte := by kernel_rfl
 sizeByte := by kernel_rfl
 neB5 := by decide }
theorem Tryd.strings_Join_none (a : Option Addr) (c : Nat) (sep : ByteArray) (w : World) :
 Calls Tryd.prog 68 #[.slice a 0 c, .string sep] w fun e w' => e = .returned (.string ⟨#[]⟩) /\ w' = w := Any.strings_Join_none Tryd.lays156 Tryd.Builder_Extra_156 a c sep w
theorem Tryd.strings_Join (bk o c : Nat) (xs : List ByteArray) (sep : ByteArray) (w : World) (hcells : ∀ (j : Nat) x, xs[j]? = some x -> w.cell? ⟨bk, o + j, none⟩ = some (.string x)) (hbk : bk < w.heap.size) (hN : xs.length <= 140737488355328) (hcap : xs.length <= c) (hlen : (Lib.join (xs.map (·.data.toList)) sep.data.toList).length <= 140737488355328) :
 Calls Tryd.prog 68 #[.slice (some ⟨bk, o, none⟩) xs.length c, .string sep] w fun e w' => e = .returned (.string ⟨(Lib.join (xs.map (·.data.toList)) sep.data.toList).toArray⟩) /\ Below w.heap.size w w' := Any.strings_Join Tryd.lays156 Tryd.Builder_Extra_156 bk o c xs sep w hcells hbk hN hcap hlen
def Tryd.lays137_ren : Go.Shelf.Ren := ⟨fun | 137 => 79 | 217 => 94 | 266 => 111 | n => n, fun | 9 => 9 | 5 => 5 | 3 => 3 | n => n, fun | n => n⟩
theorem Tryd.lays137 : Go.Proofs.Lays.n137 Tryd.prog Tryd.lays137_ren := {
 mixed := by kernel_rfl
 f137 := Tryd.func79.trans (congrArg some (by kernel_rfl))
 f217 := Tryd.func94.trans (congrArg some (by kernel_rfl))
 f266 := Tryd.func111.trans (congrArg some (by kernel_rfl))
 t3 := Tryd.underlying3
 a3 := Tryd.isAgg3
 z3 := Tryd.sizeOf3
 v3 := Tryd.zeroValue3
 t5 := Tryd.underlying5
 a5 := Tryd.isAgg5
 z5 := Tryd.sizeOf5
 v5 := Tryd.zeroValue5
 t9 := Tryd.underlying9
 a9 := Tryd.isAgg9
 z9 := Tryd.sizeOf9
 v9 := Tryd.zeroValue9 }
theorem Tryd.strings_IndexByte (s : ByteArray) (c : Int) (w : World) :
 Calls Tryd.prog 79 #[.string s, .int .u8 c] w fun e w' => e = .returned (.int .i64 (Lib.indexByte s.data.toList c.toNat.toUInt8)) /\ w' = w := Any.strings_IndexByte Tryd.lays137 s c w
def Tryd.laysM171_ren : Go.Shelf.Ren := ⟨fun | 171 => 51 | 243 => 77 | 246 => 92 | 283 => 107 | 284 => 108 | 285 => 109 | 286 => 110 | 129 => 121 | 317 => 120 | 318 => 122 | 319 => 123 | 320 => 124 | 337 => 127 | 338 => 128 | n => n, fun | 3 => 3 | 9 => 9 | 2 => 2 | 4 => 4 | 171 => 119 | 0 => 0 | 53 => 120 | 37 => 22 | 5 => 5 | 173 => 123 | 212 => 138 | 51 => 139 | 20 => 20 | 213 => 140 | 46 => 127 | 232 => 148 | 233 => 149 | n => n, fun | 17 => 2 | 18 => 4 | 19 => 5 | n => n⟩
theorem Tryd.laysM171 : Go.Proofs.LaysM.n171 Tryd.prog Tryd.laysM171_ren := {
 mixed := by kernel_rfl
 f129 := Tryd.func121.trans (congrArg some (by kernel_rfl))
 f171 := Tryd.func51.trans (congrArg some (by kernel_rfl))
 f243 := Tryd.func77.trans (congrArg some (by kernel_rfl))
 f246 := Tryd.func92.trans (congrArg some (by kernel_rfl))
 f283 := Tryd.func107.trans (congrArg some (by kernel_rfl))
 f284 := Tryd.func108.trans (congrArg some (by kernel_rfl))
 f285 := Tryd.func109.trans (congrArg some (by kernel_rfl))
 f286 := Tryd.func110.trans (congrArg some (by kernel_rfl))
 f317 := Tryd.func120.trans (congrArg some (by kernel_rfl))
 f318 := Tryd.func122.trans (congrArg some (by kernel_rfl))
 f319 := Tryd.func123.trans (congrArg some (by kernel_rfl))
 f320 := Tryd.func124.trans (congrArg some (by kernel_rfl))
 f337 := Tryd.func127.trans (congrArg some (by kernel_rfl))
 f338 := Tryd.func128.trans (congrArg some (by kernel_rfl))
 t0 := Tryd.underlying0
 a0 := Tryd.isAgg0
 z0 := Tryd.sizeOf0
 v0 := Tryd.zeroValue0
 t2 := Tryd.underlying2
 a2 := Tryd.isAgg2
 z2 := Tryd.sizeOf2
 v2 := Tryd.zeroValue2
 t3 := Tryd.underlying3
 a3 := Tryd.isAgg3
 z3 := Tryd.sizeOf3
 v3 := Tryd.zeroValue3
 t4 := Tryd.underlying4
 a4 := Tryd.isAgg4
 z4 := Tryd.sizeOf4
 v4 := Tryd.zeroValue4
 t5 := Tryd.underlying5
 a5 := Tryd.isAgg5
 z5 := Tryd.sizeOf5
 v5 := Tryd.zeroValue5
 t9 := Tryd.underlying9
 a9 := Tryd.isAgg9
 z9 := Tryd.sizeOf9
 v9 := Tryd.zeroValue9
 t20 := Tryd.underlying20
 a20 := Tryd.isAgg20
 z20 := Tryd.sizeOf20
 v20 := Tryd.zeroValue20
 t37 := Tryd.underlying22
 a37 := Tryd.isAgg22
 z37 := Tryd.sizeOf22
 v37 := Tryd.zeroValue22
 t46 := Tryd.underlying127
 a46 := Tryd.isAgg127
 z46 := Tryd.sizeOf127
 v46 := Tryd.zeroValue127
 t51 := Tryd.underlying139
 a51 := Tryd.isAgg139
 z51 := Tryd.sizeOf139
 v51 := Tryd.zeroValue139
 t53 := Tryd.underlying120
 a53 := Tryd.isAgg120
 z53 := Tryd.sizeOf120
 v53 := Tryd.zeroValue120
 t171 := Tryd.underlying119
 a171 := Tryd.isAgg119
 z171 := Tryd.sizeOf119
 v171 := Tryd.zeroValue119
 t173 := Tryd.underlying123
 a173 := Tryd.isAgg123
 z173 := Tryd.sizeOf123
 v173 := Tryd.zeroValue123
 t212 := Tryd.underlying138
 a212 := Tryd.isAgg138
 z212 := Tryd.sizeOf138
 v212 := Tryd.zeroValue138
 t213 := Tryd.underlying140
 a213 := Tryd.isAgg140
 z213 := Tryd.sizeOf140
 t232 := Tryd.underlying148
 a232 := Tryd.isAgg148
 z232 := Tryd.sizeOf148
 v232 := Tryd.zeroValue148
 t233 := Tryd.underlying149
 a233 := Tryd.isAgg149
 z233 := Tryd.sizeOf149
 v233 := Tryd.zeroValue149
 g17 := by kernel_rfl
 g18 := by kernel_rfl
 g19 := by kernel_rfl
 i0 := by kernel_rfl
 i2 := by kernel_rfl
 i3 := by kernel_rfl
 i4 := by kernel_rfl
 i5 := by kernel_rfl
 i9 := by kernel_rfl
 i20 := by kernel_rfl
 i37 := by kernel_rfl
 i46 := by kernel_rfl
 i51 := by kernel_rfl
 i53 := by kernel_rfl
 i171 := by kernel_rfl
 i173 := by kernel_rfl
 i212 := by kernel_rfl
 i232 := by kernel_rfl
 i233 := by kernel_rfl
 m17 := by kernel_rfl
 m18 := by kernel_rfl
 m19 := by kernel_rfl }
open Go.RowKit Go.Sort Go.Lib in
theorem Tryd.strconv_Itoa (n : Int) (h0 : -9223372036854775808 <= n) (h1 : n <= 9223372036854775807) (w : World) (htab : Lib.TabIs Tryd.prog w "internal/strconv.uint64pow10" .u64 Lib.pow10Tab) :
 Calls Tryd.prog 51 #[.int .i64 n] w fun e w' => e = .returned (.string ⟨(Lib.itoa n).toArray⟩) /\ ∃ k os, w' = grow (w.drewN k) os := Any.strconv_Itoa Tryd.laysM171 n h0 h1 w htab
def Tryd.laysC172_ren : Go.Shelf.Ren := ⟨fun | 172 => 54 | 244 => 80 | 245 => 81 | 247 => 95 | 279 => 96 | 280 => 97 | 281 => 98 | 282 => 99 | 287 => 112 | 316 => 113 | 171 => 51 | 205 => 114 | 321 => 125 | 322 => 126 | 243 => 77 | 246 => 92 | 283 => 107 | 284 => 108 | 285 => 109 | 286 => 110 | 129 => 121 | 317 => 120 | 318 => 122 | 319 => 123 | 320 => 124 | 337 => 127 | 338 => 128 | n => n, fun | 9 => 9 | 3 => 3 | 75 => 72 | 76 => 73 | 4 => 4 | 5 => 5 | 167 => 107 | 37 => 22 | 0 => 0 | 85 => 108 | 2 => 2 | 168 => 110 | 53 => 120 | 175 => 125 | 46 => 127 | 210 => 129 | 127 => 118 | 145 => 146 | 143 => 144 | 21 => 21 | 171 => 119 | 173 => 123 | 212 => 138 | 51 => 139 | 20 => 20 | 213 => 140 | 232 => 148 | 233 => 149 | 80 => 49 | n => n, fun | 15 => 0 | 16 => 1 | 17 => 2 | 18 => 4 | 19 => 5 | n => n⟩
theorem Tryd.laysC172 : Go.Proofs.LaysC.n172 Tryd.prog Tryd.laysC172_ren := {
 mixed := by kernel_rfl
 f129 := Tryd.func121.trans (congrArg some (by kernel_rfl))
 f171 := Tryd.func51.trans (congrArg some (by kernel_rfl))
 f172 := Tryd.func54.trans (congrArg some (by kernel_rfl))
 f205 := Tryd.func114.trans (congrArg some (by kernel_rfl))
 f243 := Tryd.func77.trans (congrArg some (by kernel_rfl))
 f244 := Tryd.func80.trans (congrArg some (by kernel_rfl))
 f245 := Tryd.func81.trans (congrArg some (by kernel_rfl))
 f246 := Tryd.func92.trans (congrArg some (by kernel_rfl))
 f247 := Tryd.func95.trans (congrArg some (by kernel_rfl))
 f279 := Tryd.func96.trans (congrArg some (by kernel_rfl))
 f280 := Tryd.func97.trans (congrArg some (by kernel_rfl))
 f281 := Tryd.func98.trans (congrArg some (by kernel_rfl))
 f282 := Tryd.func99.trans (congrArg some (by kernel_rfl))
 f283 := Tryd.func107.trans (congrArg some (by kernel_rfl))
 f284 := Tryd.func108.trans (congrArg some (by kernel_rfl))
 f285 := Tryd.func109.trans (congrArg some (by kernel_rfl))
 f286 := Tryd.func110.trans (congrArg some (by kernel_rfl))
 f287 := Tryd.func112.trans (congrArg some (by kernel_rfl))
 f316 := Tryd.func113.trans (congrArg some (by kernel_rfl))
 f317 := Tryd.func120.trans (congrArg some (by kernel_rfl))
 f318 := Tryd.func122.trans (congrArg some (by kernel_rfl))
 f319 := Tryd.func123.trans (congrArg some (by kernel_rfl))
 f320 := Tryd.func124.trans (congrArg some (by kernel_rfl))
 f321 := Tryd.func125.trans (congrArg some (by kernel_rfl))
 f322 := Tryd.func126.trans (congrArg some (by kernel_rfl))
 f337 := Tryd.func127.trans (congrArg some (by kernel_rfl))
 f338 := Tryd.func128.trans (congrArg some (by kernel_rfl))
 t0 := Tryd.underlying0
 a0 := Tryd.isAgg0
 z0 := Tryd.sizeOf0
 v0 := Tryd.zeroValue0
 t2 := Tryd.underlying2
 a2 := Tryd.isAgg2
 z2 := Tryd.sizeOf2
 v2 := Tryd.zeroValue2
 t3 := Tryd.underlying3
 a3 := Tryd.isAgg3
 z3 := Tryd.sizeOf3
 v3 := Tryd.zeroValue3
 t4 := Tryd.underlying4
 a4 := Tryd.isAgg4
 z4 := Tryd.sizeOf4
 v4 := Tryd.zeroValue4
 t5 := Tryd.underlying5
 a5 := Tryd.isAgg5
 z5 := Tryd.sizeOf5
 v5 := Tryd.zeroValue5
 t9 := Tryd.underlying9
 a9 := Tryd.isAgg9
 z9 := Tryd.sizeOf9
 v9 := Tryd.zeroValue9
 t20 := Tryd.underlying20
 a20 := Tryd.isAgg20
 z20 := Tryd.sizeOf20
 v20 := Tryd.zeroValue20
 t21 := Tryd.underlying21
 a21 := Tryd.isAgg21
 z21 := Tryd.sizeOf21
 v21 := Tryd.zeroValue21
 t37 := Tryd.underlying22
 a37 := Tryd.isAgg22
 z37 := Tryd.sizeOf22
 v37 := Tryd.zeroValue22
 t46 := Tryd.underlying127
 a46 := Tryd.isAgg127
 z46 := Tryd.sizeOf127
 v46 := Tryd.zeroValue127
 t51 := Tryd.underlying139
 a51 := Tryd.isAgg139
 z51 := Tryd.sizeOf139
 v51 := Tryd.zeroValue139
 t53 := Tryd.underlying120
 a53 := Tryd.isAgg120
 z53 := Tryd.sizeOf120
 v53 := Tryd.zeroValue120
 t75 := Tryd.underlying72
 a75 := Tryd.isAgg72
 z75 := Tryd.sizeOf72
 v75 := Tryd.zeroValue72
 t76 := Tryd.underlying73
 a76 := Tryd.isAgg73
 z76 := Tryd.sizeOf73
 v76 := Tryd.zeroValue73
 t85 := Tryd.underlying108
 a85 := Tryd.isAgg108
 z85 := Tryd.sizeOf108
 v85 := Tryd.zeroValue108
 t127 := Tryd.underlying118
 a127 := Tryd.isAgg118
 z127 := Tryd.sizeOf118
 v127 := Tryd.zeroValue118
 t143 := Tryd.underlying144
 a143 := Tryd.isAgg144
 z143 := Tryd.sizeOf144
 v143 := Tryd.zeroValue144
 t145 := Tryd.underlying146
 a145 := Tryd.isAgg146
 z145 := Tryd.sizeOf146
 v145 := Tryd.zeroValue146
 t167 := Tryd.underlying107
 a167 := Tryd.isAgg107
 z167 := Tryd.sizeOf107
 v167 := Tryd.zeroValue107
 t168 := Tryd.underlying110
 a168 := Tryd.isAgg110
 z168 := Tryd.sizeOf110
 v168 := Tryd.zeroValue110
 t171 := Tryd.underlying119
 a171 := Tryd.isAgg119
 z171 := Tryd.sizeOf119
 v171 := Tryd.zeroValue119
 t173 := Tryd.underlying123
 a173 := Tryd.isAgg123
 z173 := Tryd.sizeOf123
 v173 := Tryd.zeroValue123
 t175 := Tryd.underlying125
 a175 := Tryd.isAgg125
 z175 := Tryd.sizeOf125
 v175 := Tryd.zeroValue125
 t210 := Tryd.underlying129
 a210 := Tryd.isAgg129
 z210 := Tryd.sizeOf129
 v210 := Tryd.zeroValue129
 t212 := Tryd.underlying138
 a212 := Tryd.isAgg138
 z212 := Tryd.sizeOf138
 v212 := Tryd.zeroValue138
 t213 := Tryd.underlying140
 a213 := Tryd.isAgg140
 z213 := Tryd.sizeOf140
 t232 := Tryd.underlying148
 a232 := Tryd.isAgg148
 z232 := Tryd.sizeOf148
 v232 := Tryd.zeroValue148
 t233 := Tryd.underlying149
 a233 := Tryd.isAgg149
 z233 := Tryd.sizeOf149
 v233 := Tryd.zeroValue149
 g15 := by kernel_rfl
 g16 := by kernel_rfl
 g17 := by kernel_rfl
 g18 := by kernel_rfl
 g19 := by kernel_rfl
 t80 := Tryd.underlying49
 a80 := Tryd.isAgg49
 z80 := Tryd.sizeOf49
 v80 := Tryd.zeroValue49
 i0 := by kernel_rfl
 i2 := by kernel_rfl
 i3 := by kernel_rfl
 i4 := by kernel_rfl
 i5 := by kernel_rfl
 i9 := by kernel_rfl
 i20 := by kernel_rfl
 i21 := by kernel_rfl
 i37 := by kernel_rfl
 i46 := by kernel_rfl
 i51 := by kernel_rfl
 i53 := by kernel_rfl
 i75 := by kernel_rfl
 i76 := by kernel_rfl
 i80 := by kernel_rfl
 i85 := by kernel_rfl
 i127 := by kernel_rfl
 i143 := by kernel_rfl
 i145 := by kernel_rfl
 i167 := by kernel_rfl
 i168 := by kernel_rfl
 i171 := by kernel_rfl
 i173 := by kernel_rfl
 i175 := by kernel_rfl
 i210 := by kernel_rfl
 i212 := by kernel_rfl
 i232 := by kernel_rfl
 i233 := by kernel_rfl
 m15 := by kernel_rfl
 m16 := by kernel_rfl
 m17 := by kernel_rfl
 m18 := by kernel_rfl
 m19 := by kernel_rfl
 c0 := by kernel_rfl
 c2 := by kernel_rfl
 c3 := by kernel_rfl
 c4 := by kernel_rfl
 c5 := by kernel_rfl
 c9 := by kernel_rfl
 c20 := by kernel_rfl
 c21 := by kernel_rfl
 c37 := by kernel_rfl
 c46 := by kernel_rfl
 c51 := by kernel_rfl
 c53 := by kernel_rfl
 c75 := by kernel_rfl
 c76 := by kernel_rfl
 c80 := by kernel_rfl
 c85 := by kernel_rfl
 c127 := by kernel_rfl
 c143 := by kernel_rfl
 c145 := by kernel_rfl
 c167 := by kernel_rfl
 c168 := by kernel_rfl
 c171 := by kernel_rfl
 c173 := by kernel_rfl
 c175 := by kernel_rfl
 c210 := by kernel_rfl
 c212 := by kernel_rfl
 c213 := by kernel_rfl
 c232 := by kernel_rfl
 c233 := by kernel_rfl }
theorem Tryd.strconv_Atoi_ok (s : ByteArray) (hmax : s.size <= 9223372036854775806) (v : Int) (h : Lib.atoiAll s.data.toList = .ok v) (w : World) :
 Calls Tryd.prog 54 #[.string s] w fun e w' => e = .returned (.tuple #[.int .i64 v, .nilIface]) /\ (w' = w \/ ∃ t, w' = Lib.bytesWorld w 5 t) := Any.strconv_Atoi_ok Tryd.laysC172 s hmax v h w
theorem Tryd.strconv_Atoi_range (s : ByteArray) (hlim : s.size <= 281474976710656) (h : Lib.atoiAll s.data.toList = .range) (ev : Value) (w : World) (hv : w.cell? ⟨1, 0, none⟩ = some ev) (hev : ev = .nilIface \/ ∃ te pe, ev = .iface te pe) :
 Calls Tryd.prog 54 #[.string s] w fun e w' => ∃ N, e = .returned (.tuple #[.int .i64 (Lib.atoiSat s.data.toList), .iface 110 (.pointer (some ⟨N, 0, none⟩))]) /\ w.heap.size <= N /\ w'.heap[N]? = some (.cells #[.string ⟨#[65, 116, 111, 105]⟩, .string s, ev] 129 (0, 0)) /\ Below w.heap.size w w' := Any.strconv_Atoi_range Tryd.laysC172 s hlim h ev w hv hev
def Tryd.lays99_ren : Go.Shelf.Ren := ⟨fun | 99 => 78 | 206 => 93 | n => n, fun | 9 => 9 | 4 => 4 | 3 => 3 | n => n, fun | n => n⟩
theorem Tryd.lays99 : Go.Proofs.Lays.n99 Tryd.prog Tryd.lays99_ren := {
 mixed := by kernel_rfl
 f99 := Tryd.func78.trans (congrArg some (by kernel_rfl))
 f206 := Tryd.func93.trans (congrArg some (by kernel_rfl))
 t3 := Tryd.underlying3
 a3 := Tryd.isAgg3
 z3 := Tryd.sizeOf3
 v3 := Tryd.zeroValue3
 t4 := Tryd.underlying4
 a4 := Tryd.isAgg4
 z4 := Tryd.sizeOf4
 v4 := Tryd.zeroValue4
 t9 := Tryd.underlying9
 a9 := Tryd.isAgg9
 z9 := Tryd.sizeOf9
 v9 := Tryd.zeroValue9 }
open Go.RowKit Go.Lib in
theorem Tryd.strings_HasPrefix (s p : ByteArray) (w : World) :
 Calls Tryd.prog 78 #[.string s, .string p] w fun e w' => e = .returned (.bool (Lib.hasPrefix s.data.toList p.data.toList)) /\ w' = w := Any.strings_HasPrefix Tryd.lays99 s p w
end Go.Proofs
namespace Go.Proofs.Pw
open Go.RowKit Go.Sort
variable [Globs]
theorem call_Itoa : okCallee Tryd.prog 51 = true := by kernel_rfl
theorem call_Join : okCallee Tryd.prog 68 = true := by kernel_rfl
def tabK [Globs] : Prop := ∃ g, Tryd.prog.globalNamed "internal/strconv.uint64pow10" = some g /\ (g, Lib.pow10Tab.map (fun z => Value.int .u64 z)) ∈ Globs.K
theorem Fr.grown (X : Nat -> Prop) (w : World) (k : Nat) (os : Array Obj) : Fr X w.heap.size w (grow (w.drewN k) os) :=
 ⟨rfl, rfl, rfl, by simp [grow, World.drewN], fun i hi _ => by
  show (w.heap ++ os)[i]? = w.heap[i]?
  rw [Array.getElem?_append_left hi]⟩
noncomputable def spItoa  : Spec := Spec.of (ι := Int) [false] (fun i => [.d (.one (.int .i64 i))]) (fun i => i64 i) (fun i => [.d (.one (.str (itoaB i)))]) (fun _ => [.gone])
theorem spItoa_inj : ∀ i j : Int, (fun (i : Int) => ([.d (.one (.int .i64 i))] : List AV)) i = (fun (i : Int) => ([.d (.one (.int .i64 i))] : List AV)) j -> i = j := by
 intro n n' h
 simpa [strs_eq, T.enc_eq, encL_eq, F.enc_eq, encF_eq, Tk.enc_eq, encTk_eq, Gn.enc_eq, ints_eq] using h
theorem spItoa_md  : (spItoa).md = [false] := rfl
theorem spItoa_pre  (n : Int) : (spItoa).pre [.d (.one (.int .i64 n))] = (i64 n) := Spec.of_pre' spItoa_inj n
theorem spItoa_alts  : (spItoa).alts = none := rfl
theorem spItoa_res  (n : Int) : (spItoa).res [.d (.one (.int .i64 n))] = [.d (.one (.str (itoaB n)))] := Spec.of_res spItoa_inj n
theorem spItoa_out  (n : Int) : (spItoa).out [.d (.one (.int .i64 n))] = [.gone] := Spec.of_out spItoa_inj n
theorem itoa_sound (hK : tabK) : Sound Tryd.prog 51 spItoa := by
 rintro args ⟨n, rfl, hn⟩ w S vs fps hG hS hF ha hA
 cases hA with
 | cons h1 h2 =>
   cases h2
   obtain ⟨hr, hfp⟩ := h1
   cases hr
   obtain ⟨g, hg, hk⟩ := hK
   obtain ⟨_, t, x, hx⟩ := hG.2 g _ hk
   have htab : Lib.TabIs Tryd.prog w "internal/strconv.uint64pow10" .u64 Lib.pow10Tab := by
    unfold Lib.TabIs World.var?
    rw [hg]
    simp only [Option.bind_some, hx]
   refine (Tryd.strconv_Itoa n hn.1 hn.2 w htab).mono ?_
   rintro e w' ⟨rfl, k, os, rfl⟩
   refine ⟨[.d (.one (.str (itoaB n)))], [.gone], (Spec.may_none spItoa_alts).2 ⟨(spItoa_res n).symm, (spItoa_out n).symm⟩, _, S, [fun _ => False], [fun _ => False], rfl, ⟨.str _, fun _ h => h⟩, .cons (fun _ h => h) .nil, fun g hg => .inl hg, fun g hg => ?_, ?_, ?_, Fr.grown _ w k os⟩
   ·exact Nat.lt_of_lt_of_le (hS g hg) (Fr.grown (fun _ => False) w k os).size
   ·exact ⟨fun g h => h.elim, fun g h => h.elim, fun g h => h.elim, fun g h => h.elim, trivial⟩
   ·rintro g ⟨p, hp, hpg⟩
    simp only [List.cons_append, List.nil_append, List.mem_cons, List.not_mem_nil, or_false] at hp
    rcases hp with rfl | rfl <;> exact hpg.elim
theorem Fr.below {B : Nat} (X : Nat -> Prop) {w w' : World} (h : Below B w w') : Fr X B w w' := ⟨h.os, h.tape, h.output, h.size, fun k hk _ => h.block k hk⟩
theorem strs_nil_iff {xs : List ByteArray} (h : strs xs = []) : xs = [] := by cases xs <;> simp_all [strs]
theorem join_end {xs : List ByteArray} {sep : ByteArray} {w w' : World} {S : Nat -> Prop} {r : RV} {fp fp2 : Nat -> Prop} {v2 : Value} (hp : Priv w S 1 (strs xs) r) (hf : ∀ g, fp g ↔ pblk r g) (hb : Below w.heap.size w w') (hS : ∀ g, S g -> g < w.heap.size) (ha : Apart S [fp, fp2]) (hf2 : ∀ g, ¬ fp2 g) :
 ∃ S' rfs fps', RepR w' S' [.d (.one (.str (joinB xs sep)))] (.string (joinB xs sep)) rfs /\ All3 (RepA w' S') [.own 1 (strs xs), .gone] [r.v, v2] fps' /\
  (∀ g, S' g -> S g \/ w.heap.size <= g \/ Any [fp, fp2] g) /\ (∀ g, S' g -> g < w'.heap.size) /\
  Apart S' (rfs ++ fps') /\ (∀ g, Any (rfs ++ fps') g -> (w.heap.size <= g \/ Any [fp, fp2] g) /\ g < w'.heap.size) /\ Fr (Any [fp, fp2]) w.heap.size w w' := by
 have hlt : ∀ g, pblk r g -> g < w.heap.size := fun g hg => hp.lt hg
 have hp' : Priv w' S 1 (strs xs) r := hp.move (fun _ h => h) (fun g hg => hb.block g (hS g hg)) (fun g hg => hb.block g (hlt g hg))
 refine ⟨S, [fun _ => False], [fp, fp2], ⟨.str _, fun _ h => h⟩, .cons ⟨by decide, r, rfl, hp', hf⟩ (.cons hf2 .nil), fun g hg => .inl hg, fun g hg => Nat.lt_of_lt_of_le (hS g hg) hb.size, ⟨fun g h => h.elim, fun g h => h.elim, ha⟩, ?_, Fr.below _ hb⟩
 rintro g ⟨p, hp1, hpg⟩
 simp only [List.cons_append, List.nil_append, List.mem_cons, List.not_mem_nil, or_false] at hp1
 rcases hp1 with rfl | rfl | rfl
 ·exact hpg.elim
 ·exact ⟨.inr ⟨_, by simp, hpg⟩, Nat.lt_of_lt_of_le (hlt g ((hf g).1 hpg)) hb.size⟩
 ·exact absurd hpg (hf2 g)
noncomputable def spJoin  : Spec := Spec.of (ι := (List ByteArray) × ByteArray) [true, false] (fun i => [.own 1 (strs i.1), .d (.one (.str i.2))]) (fun i => lenB 140737488355328 i.1.length /\ lenB 140737488355328 (joinB i.1 i.2).size) (fun i => [.d (.one (.str (joinB i.1 i.2)))]) (fun i => [.own 1 (strs i.1), .gone])
theorem spJoin_inj : ∀ i j : (List ByteArray) × ByteArray, (fun (i : (List ByteArray) × ByteArray) => ([.own 1 (strs i.1), .d (.one (.str i.2))] : List AV)) i = (fun (i : (List ByteArray) × ByteArray) => ([.own 1 (strs i.1), .d (.one (.str i.2))] : List AV)) j -> i = j := by
 rintro ⟨xs, sep⟩ ⟨xs', sep'⟩ h
 simp only [Prod.mk.injEq]
 simpa [strs_eq, T.enc_eq, encL_eq, F.enc_eq, encF_eq, Tk.enc_eq, encTk_eq, Gn.enc_eq, ints_eq] using h
theorem spJoin_md  : (spJoin).md = [true, false] := rfl
theorem spJoin_pre  (xs : List ByteArray) (sep : ByteArray) : (spJoin).pre [.own 1 (strs xs), .d (.one (.str sep))] = (lenB 140737488355328 xs.length /\ lenB 140737488355328 (joinB xs sep).size) := Spec.of_pre' spJoin_inj (xs, sep)
theorem spJoin_alts  : (spJoin).alts = none := rfl
theorem spJoin_res  (xs : List ByteArray) (sep : ByteArray) : (spJoin).res [.own 1 (strs xs), .d (.one (.str sep))] = [.d (.one (.str (joinB xs sep)))] := Spec.of_res spJoin_inj (xs, sep)
theorem spJoin_out  (xs : List ByteArray) (sep : ByteArray) : (spJoin).out [.own 1 (strs xs), .d (.one (.str sep))] = [.own 1 (strs xs), .gone] := Spec.of_out spJoin_inj (xs, sep)
theorem join_sound : Sound Tryd.prog 68 spJoin := by
 rintro args ⟨⟨xs, sep⟩, rfl, hn, hj⟩ w S vs fps hG hS hF ha hA
 simp only [lenB] at hn hj
 cases hA with
 | cons h1 h2 =>
   rename_i v fp vs fps
   cases h2 with
   | cons h2 h3 =>
     rename_i v2 fp2 vs fps
     cases h3
     obtain ⟨hr, hfp⟩ := h2
     cases hr
     obtain ⟨_, r, rfl, hp, hf⟩ := h1
     have key : ∀ (e : Ending) w', e = .returned (.string (joinB xs sep)) /\ Below w.heap.size w w' -> ∃ r' o, spJoin.may [.own 1 (strs xs), .d (.one (.str sep))] r' o /\ ∃ v S' rfs fps', e = .returned v /\ RepR w' S' r' v rfs /\ All3 (RepA w' S') o [r.v, .string sep] fps' /\
      (∀ g, S' g -> S g \/ w.heap.size <= g \/ Any [fp, fp2] g) /\ (∀ g, S' g -> g < w'.heap.size) /\
      Apart S' (rfs ++ fps') /\ (∀ g, Any (rfs ++ fps') g -> (w.heap.size <= g \/ Any [fp, fp2] g) /\ g < w'.heap.size) /\ Fr (Any [fp, fp2]) w.heap.size w w' := fun e w' ⟨he, hb⟩ => by
      obtain ⟨S', rfs, fps', k1, k2, k3⟩ := join_end (sep := sep) (v2 := .string sep) hp hf hb hS ha hfp
      exact ⟨_, _, (Spec.may_none spJoin_alts).2 ⟨(spJoin_res xs sep).symm, (spJoin_out xs sep).symm⟩, _, S', rfs, fps', he, k1, k2, k3⟩
     have k := hp.repX (by decide)
     generalize hes : strs xs = es at k
     generalize hv : r.v = v at k key
     cases k with
     | pl hr => cases hr
     | nil h0 hh =>
       rename_i a
       have hx := strs_nil_iff hes
       subst hx
       refine (Tryd.strings_Join_none a 0 sep w).mono ?_
       rintro e w' ⟨rfl, rfl⟩
       exact key _ _ ⟨rfl, Below.refl _ _⟩
     | own ψ h0 hh hg hcl hcm hsz hes1 hD hψ hd u hu hrr =>
       rename_i g cap cur ty
       have hlen : es.length = xs.length := by rw [<- hes, strs_len]
       have hgl : g < w.heap.size := by
        rcases Nat.lt_or_ge g w.heap.size with h | h
        ·exact h
        ·rw [Array.getElem?_eq_none h] at hg; cases hg
       have hcell : ∀ (j : Nat) x, xs[j]? = some x -> w.cell? ⟨g, 0 + j, none⟩ = some (.string x) := fun j x hx => by
        have he : es[j]? = some [C.str x] := by rw [<- hes]; simp [strs, hx]
        have q1 := hu j 0 _ _ he rfl
        have q2 := hrr j 0 _ _ he rfl
        have q3 : u (j * 1 + 0) = .string x := by
         generalize u (j * 1 + 0) = z at q2
         cases q2 with
         | pl h => cases h; rfl
        rw [q3] at q1
        unfold World.cell?
        simp only [hg]
        simpa using q1
       rw [hlen] at key ⊢
       refine (Tryd.strings_Join g 0 cap xs sep w hcell hgl (by omega) (by omega) (by have e : (joinB xs sep).size = _ := bL_size _; omega)).mono ?_
       rintro e w' ⟨rfl, hb⟩
       exact key _ _ ⟨rfl, hb⟩
end Go.Proofs.Pw
namespace Go.Proofs.Pw
mutual
def T.encX : T -> List C
 | .mk k n s ks l => [.int .i64 k, .int .i64 n, .str s, .own 1 (strs ks), .own 5 (encLX l)]
def encLX : List T -> List (List C)
 | [] => []
 | t :: l => t.encX :: encLX l
end
def agX : T -> List Pt
 | .mk k n s ks l => [.c (.int .i64 k), .c (.int .i64 n), .c (.str s), .o 1 (strs ks), .o 5 (encLX l)]
theorem encLX_map (l : List T) : encLX l = l.map T.encX := by
 induction l with
 | nil => simp [encLX]
 | cons t l ih => simp [encLX, ih]
theorem encLX_len (l : List T) : (encLX l).length = l.length := by rw [encLX_map]; simp
theorem T.encX_len (t : T) : t.encX.length = 5 := by cases t; simp [T.encX]
theorem encLX_take {l : List T} {i : Nat} {t : T} (h : l[i]? = some t) : encLX (l.take (i + 1)) = encLX (l.take i) ++ [t.encX] := by
 rw [List.take_add_one, h]; simp [encLX_map]
mutual
theorem dtL_encX : ∀ t : T, dtL t.encX = some t.enc
 | .mk k n s ks l => by simp [T.encX, T.enc, dtL, dtC, dtR_encLX l]
theorem dtR_encLX : ∀ l : List T, dtR (encLX l) = some (encL l)
 | [] => rfl
 | t :: l => by simp [encLX, encL, dtR, dtL_encX t, dtR_encLX l]
end
mutual
theorem flL_encX : ∀ t : T, flL t.encX = true
 | .mk k n s ks l => by
   have h : flR (strs ks) = true := by
    induction ks with
    | nil => rfl
    | cons s ks ih => simp only [strs, List.map_cons, flR, flL, flC, Bool.and_true, Bool.true_and]; exact ih
   simp [T.encX, flL, flC, flR_encLX l, h]
theorem flR_encLX : ∀ l : List T, flR (encLX l) = true
 | [] => rfl
 | t :: l => by simp [encLX, flR, flL_encX t, flR_encLX l]
end
theorem flR_strs (ks : List ByteArray) : flR (strs ks) = true := by
 induction ks with
 | nil => rfl
 | cons s ks ih => simp only [strs, List.map_cons, flR, flL, flC, Bool.and_true, Bool.true_and]; exact ih
attribute [go_sem] flR_strs flR_encLX callL AV.fl Pt.fl flatC encLX_len T.encX_len dtR_encLX allX allXs bslQ Q.toX delR nodupN List.contains_nil List.contains_cons
end Go.Proofs.Pw
namespace Go.Proofs.Pw
structure Stp where
 map : Bool
 key : ByteArray
 at' : Int
noncomputable instance : DecidableEq Stp := fun a b => Classical.propDecidable (a = b)
def Stp.enc (s : Stp) : List C := [.bool s.map, .str s.key, .int .i64 s.at']
def encS (l : List Stp) : List (List C) := l.map Stp.enc
def encSX (l : List (List Stp)) : List (List C) := l.map fun p => [.own 3 (encS p)]
def encSS (l : List (List Stp)) : List (List C) := l.map fun p => [.row 3 (encS p)]
theorem encS_len (l : List Stp) : (encS l).length = l.length := by simp [encS]
theorem encSX_len (l : List (List Stp)) : (encSX l).length = l.length := by simp [encSX]
theorem plainR_encS (l : List Stp) : plainR (encS l) = true := by
 induction l with
 | nil => rfl
 | cons s l ih => simp only [encS, List.map_cons, plainR_cons, Stp.enc, List.all_cons, plainC, List.all_nil, Bool.and_true, Bool.true_and]; exact ih
@[simp] theorem dtR_encS (l : List Stp) : dtR (encS l) = some (encS l) := dtR_plain (plainR_encS l)
theorem flR_encS (l : List Stp) : flR (encS l) = true := by
 induction l with
 | nil => rfl
 | cons s l ih => simp only [encS, List.map_cons, flR, flL, flC, Stp.enc, Bool.and_true, Bool.true_and]; exact ih
theorem flR_encSX (l : List (List Stp)) : flR (encSX l) = true := by
 induction l with
 | nil => rfl
 | cons s l ih => simp only [encSX, List.map_cons, flR, flL, flC, flR_encS, Bool.and_true, Bool.true_and]; exact ih
@[simp] theorem dtR_encSX (l : List (List Stp)) : dtR (encSX l) = some (encSS l) := by
 induction l with
 | nil => rfl
 | cons s l ih =>
   simp only [encSX, encSS, List.map_cons] at ih ⊢
   simp only [dtR, dtL, dtC, dtR_encS, Option.map_some, ih]
theorem encS_inj : ∀ {a b : List Stp}, encS a = encS b -> a = b := by
 intro a
 induction a with
 | nil => intro b h; cases b with
   | nil => rfl
   | cons _ _ => simp [encS] at h
 | cons x a ih => intro b h; cases b with
   | nil => simp [encS] at h
   | cons y b =>
     obtain ⟨m, k, n⟩ := x
     obtain ⟨m', k', n'⟩ := y
     simp only [encS, List.map_cons, List.cons.injEq, Stp.enc, C.bool.injEq, C.str.injEq, C.int.injEq, true_and, and_true] at h
     obtain ⟨⟨rfl, rfl, rfl⟩, h2⟩ := h
     rw [ih h2]
theorem encS_eq {a b : List Stp} : encS a = encS b ↔ a = b := ⟨encS_inj, fun h => h ▸ rfl⟩
attribute [go_sem] encS_len encSX_len plainR_encS flR_encS flR_encSX dtR_encSX dtR_encS
end Go.Proofs.Pw
