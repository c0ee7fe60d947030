/-
  THE SHELF's LAYINGS AND THE HOOKS. Printed by a program. An own text.
-/
import Derived.Test.YthkckljhcihbmaaGreatDoorQ2
import Derived.Shelf.Strings.Split
import Derived.Shelf.Strconv.ParseIntPublic10
import Derived.Shelf.Utf8.RuneCount
import Derived.Lib.AtoiErrMem
import Derived.WalkKit
import Derived.Lib.Bytealg
import Derived.Laws.Externs
set_option maxRecDepth 100000
namespace Go.Proofs
open Go.Shelf
def Tryz.lays146_ren : Go.Shelf.Ren := ⟨fun | 146 => 12 | 221 => 23 | 268 => 53 | 138 => 54 | 143 => 55 | 195 => 98 | 197 => 99 | 218 => 100 | 219 => 101 | 260 => 135 | 217 => 136 | 225 => 137 | 224 => 138 | 267 => 139 | 266 => 172 | 314 => 173 | n => n, fun | 9 => 9 | 31 => 58 | 3 => 3 | 4 => 4 | 0 => 0 | 105 => 182 | 21 => 21 | 5 => 5 | 46 => 220 | 119 => 216 | 139 => 219 | 138 => 218 | 146 => 267 | 51 => 266 | n => n, fun | 1 => 3 | 3 => 1 | 4 => 2 | n => n⟩
theorem Tryz.lays146 : Go.Proofs.Lays.n146 Tryz.prog Tryz.lays146_ren := {
 mixed := by kernel_rfl
 f138 := Tryz.func54.trans (congrArg some (by kernel_rfl))
 f143 := Tryz.func55.trans (congrArg some (by kernel_rfl))
 f146 := Tryz.func12.trans (congrArg some (by kernel_rfl))
 f195 := Tryz.func98.trans (congrArg some (by kernel_rfl))
 f197 := Tryz.func99.trans (congrArg some (by kernel_rfl))
 f217 := Tryz.func136.trans (congrArg some (by kernel_rfl))
 f218 := Tryz.func100.trans (congrArg some (by kernel_rfl))
 f219 := Tryz.func101.trans (congrArg some (by kernel_rfl))
 f221 := Tryz.func23.trans (congrArg some (by kernel_rfl))
 f224 := Tryz.func138.trans (congrArg some (by kernel_rfl))
 f225 := Tryz.func137.trans (congrArg some (by kernel_rfl))
 f260 := Tryz.func135.trans (congrArg some (by kernel_rfl))
 f266 := Tryz.func172.trans (congrArg some (by kernel_rfl))
 f267 := Tryz.func139.trans (congrArg some (by kernel_rfl))
 f268 := Tryz.func53.trans (congrArg some (by kernel_rfl))
 f314 := Tryz.func173.trans (congrArg some (by kernel_rfl))
 t0 := Tryz.underlying0
 a0 := Tryz.isAgg0
 z0 := Tryz.sizeOf0
 v0 := Tryz.zeroValue0
 t3 := Tryz.underlying3
 a3 := Tryz.isAgg3
 z3 := Tryz.sizeOf3
 v3 := Tryz.zeroValue3
 t4 := Tryz.underlying4
 a4 := Tryz.isAgg4
 z4 := Tryz.sizeOf4
 v4 := Tryz.zeroValue4
 t5 := Tryz.underlying5
 a5 := Tryz.isAgg5
 z5 := Tryz.sizeOf5
 v5 := Tryz.zeroValue5
 t9 := Tryz.underlying9
 a9 := Tryz.isAgg9
 z9 := Tryz.sizeOf9
 v9 := Tryz.zeroValue9
 t21 := Tryz.underlying21
 a21 := Tryz.isAgg21
 z21 := Tryz.sizeOf21
 v21 := Tryz.zeroValue21
 t31 := Tryz.underlying58
 a31 := Tryz.isAgg58
 z31 := Tryz.sizeOf58
 v31 := Tryz.zeroValue58
 t46 := Tryz.underlying220
 a46 := Tryz.isAgg220
 z46 := Tryz.sizeOf220
 v46 := Tryz.zeroValue220
 t51 := Tryz.underlying266
 a51 := Tryz.isAgg266
 z51 := Tryz.sizeOf266
 v51 := Tryz.zeroValue266
 t105 := Tryz.underlying182
 a105 := Tryz.isAgg182
 z105 := Tryz.sizeOf182
 v105 := Tryz.zeroValue182
 t119 := Tryz.underlying216
 a119 := Tryz.isAgg216
 z119 := Tryz.sizeOf216
 t138 := Tryz.underlying218
 a138 := Tryz.isAgg218
 z138 := Tryz.sizeOf218
 v138 := Tryz.zeroValue218
 t139 := Tryz.underlying219
 a139 := Tryz.isAgg219
 z139 := Tryz.sizeOf219
 v139 := Tryz.zeroValue219
 t146 := Tryz.underlying267
 a146 := Tryz.isAgg267
 z146 := Tryz.sizeOf267
 v146 := Tryz.zeroValue267
 g1 := by kernel_rfl
 g3 := by kernel_rfl
 g4 := by kernel_rfl }
def Tryz.laysC174_ren : Go.Shelf.Ren := ⟨fun | 174 => 95 | 247 => 129 | 245 => 130 | 287 => 158 | 279 => 159 | 280 => 160 | 281 => 161 | 282 => 162 | 321 => 206 | 322 => 207 | 316 => 208 | 171 => 73 | 205 => 209 | 243 => 114 | 246 => 124 | 283 => 153 | 284 => 154 | 285 => 155 | 286 => 156 | 129 => 201 | 317 => 200 | 318 => 202 | 319 => 203 | 320 => 204 | 337 => 238 | 338 => 239 | n => n, fun | 9 => 9 | 3 => 3 | 2 => 2 | 75 => 113 | 85 => 176 | 4 => 4 | 167 => 253 | 5 => 5 | 53 => 246 | 175 => 254 | 46 => 220 | 168 => 256 | 37 => 109 | 0 => 0 | 210 => 282 | 21 => 21 | 127 => 173 | 145 => 321 | 143 => 319 | 171 => 247 | 173 => 250 | 212 => 277 | 51 => 266 | 20 => 20 | 213 => 278 | 232 => 331 | 233 => 332 | 80 => 30 | n => n, fun | 15 => 7 | 16 => 8 | 17 => 6 | 18 => 9 | 19 => 10 | n => n⟩
theorem Tryz.laysC174 : Go.Proofs.LaysC.n174 Tryz.prog Tryz.laysC174_ren := {
 mixed := by kernel_rfl
 f129 := Tryz.func201.trans (congrArg some (by kernel_rfl))
 f171 := Tryz.func73.trans (congrArg some (by kernel_rfl))
 f174 := Tryz.func95.trans (congrArg some (by kernel_rfl))
 f205 := Tryz.func209.trans (congrArg some (by kernel_rfl))
 f243 := Tryz.func114.trans (congrArg some (by kernel_rfl))
 f245 := Tryz.func130.trans (congrArg some (by kernel_rfl))
 f246 := Tryz.func124.trans (congrArg some (by kernel_rfl))
 f247 := Tryz.func129.trans (congrArg some (by kernel_rfl))
 f279 := Tryz.func159.trans (congrArg some (by kernel_rfl))
 f280 := Tryz.func160.trans (congrArg some (by kernel_rfl))
 f281 := Tryz.func161.trans (congrArg some (by kernel_rfl))
 f282 := Tryz.func162.trans (congrArg some (by kernel_rfl))
 f283 := Tryz.func153.trans (congrArg some (by kernel_rfl))
 f284 := Tryz.func154.trans (congrArg some (by kernel_rfl))
 f285 := Tryz.func155.trans (congrArg some (by kernel_rfl))
 f286 := Tryz.func156.trans (congrArg some (by kernel_rfl))
 f287 := Tryz.func158.trans (congrArg some (by kernel_rfl))
 f316 := Tryz.func208.trans (congrArg some (by kernel_rfl))
 f317 := Tryz.func200.trans (congrArg some (by kernel_rfl))
 f318 := Tryz.func202.trans (congrArg some (by kernel_rfl))
 f319 := Tryz.func203.trans (congrArg some (by kernel_rfl))
 f320 := Tryz.func204.trans (congrArg some (by kernel_rfl))
 f321 := Tryz.func206.trans (congrArg some (by kernel_rfl))
 f322 := Tryz.func207.trans (congrArg some (by kernel_rfl))
 f337 := Tryz.func238.trans (congrArg some (by kernel_rfl))
 f338 := Tryz.func239.trans (congrArg some (by kernel_rfl))
 t0 := Tryz.underlying0
 a0 := Tryz.isAgg0
 z0 := Tryz.sizeOf0
 v0 := Tryz.zeroValue0
 t2 := Tryz.underlying2
 a2 := Tryz.isAgg2
 z2 := Tryz.sizeOf2
 v2 := Tryz.zeroValue2
 t3 := Tryz.underlying3
 a3 := Tryz.isAgg3
 z3 := Tryz.sizeOf3
 v3 := Tryz.zeroValue3
 t4 := Tryz.underlying4
 a4 := Tryz.isAgg4
 z4 := Tryz.sizeOf4
 v4 := Tryz.zeroValue4
 t5 := Tryz.underlying5
 a5 := Tryz.isAgg5
 z5 := Tryz.sizeOf5
 v5 := Tryz.zeroValue5
 t9 := Tryz.underlying9
 a9 := Tryz.isAgg9
 z9 := Tryz.sizeOf9
 v9 := Tryz.zeroValue9
 t20 := Tryz.underlying20
 a20 := Tryz.isAgg20
 z20 := Tryz.sizeOf20
 v20 := Tryz.zeroValue20
 t21 := Tryz.underlying21
 a21 := Tryz.isAgg21
 z21 := Tryz.sizeOf21
 v21 := Tryz.zeroValue21
 t37 := Tryz.underlying109
 a37 := Tryz.isAgg109
 z37 := Tryz.sizeOf109
 v37 := Tryz.zeroValue109
 t46 := Tryz.underlying220
 a46 := Tryz.isAgg220
 z46 := Tryz.sizeOf220
 v46 := Tryz.zeroValue220
 t51 := Tryz.underlying266
 a51 := Tryz.isAgg266
 z51 := Tryz.sizeOf266
 v51 := Tryz.zeroValue266
 t53 := Tryz.underlying246
 a53 := Tryz.isAgg246
 z53 := Tryz.sizeOf246
 v53 := Tryz.zeroValue246
 t75 := Tryz.underlying113
 a75 := Tryz.isAgg113
 z75 := Tryz.sizeOf113
 v75 := Tryz.zeroValue113
 t85 := Tryz.underlying176
 a85 := Tryz.isAgg176
 z85 := Tryz.sizeOf176
 v85 := Tryz.zeroValue176
 t127 := Tryz.underlying173
 a127 := Tryz.isAgg173
 z127 := Tryz.sizeOf173
 v127 := Tryz.zeroValue173
 t143 := Tryz.underlying319
 a143 := Tryz.isAgg319
 z143 := Tryz.sizeOf319
 v143 := Tryz.zeroValue319
 t145 := Tryz.underlying321
 a145 := Tryz.isAgg321
 z145 := Tryz.sizeOf321
 v145 := Tryz.zeroValue321
 t167 := Tryz.underlying253
 a167 := Tryz.isAgg253
 z167 := Tryz.sizeOf253
 v167 := Tryz.zeroValue253
 t168 := Tryz.underlying256
 a168 := Tryz.isAgg256
 z168 := Tryz.sizeOf256
 v168 := Tryz.zeroValue256
 t171 := Tryz.underlying247
 a171 := Tryz.isAgg247
 z171 := Tryz.sizeOf247
 v171 := Tryz.zeroValue247
 t173 := Tryz.underlying250
 a173 := Tryz.isAgg250
 z173 := Tryz.sizeOf250
 v173 := Tryz.zeroValue250
 t175 := Tryz.underlying254
 a175 := Tryz.isAgg254
 z175 := Tryz.sizeOf254
 v175 := Tryz.zeroValue254
 t210 := Tryz.underlying282
 a210 := Tryz.isAgg282
 z210 := Tryz.sizeOf282
 v210 := Tryz.zeroValue282
 t212 := Tryz.underlying277
 a212 := Tryz.isAgg277
 z212 := Tryz.sizeOf277
 v212 := Tryz.zeroValue277
 t213 := Tryz.underlying278
 a213 := Tryz.isAgg278
 z213 := Tryz.sizeOf278
 t232 := Tryz.underlying331
 a232 := Tryz.isAgg331
 z232 := Tryz.sizeOf331
 v232 := Tryz.zeroValue331
 t233 := Tryz.underlying332
 a233 := Tryz.isAgg332
 z233 := Tryz.sizeOf332
 v233 := Tryz.zeroValue332
 g15 := by kernel_rfl
 g16 := by kernel_rfl
 g17 := by kernel_rfl
 g18 := by kernel_rfl
 g19 := by kernel_rfl
 t80 := Tryz.underlying30
 a80 := Tryz.isAgg30
 z80 := Tryz.sizeOf30
 v80 := Tryz.zeroValue30
 i0 := by kernel_rfl
 i2 := by kernel_rfl
 i3 := by kernel_rfl
 i4 := by kernel_rfl
 i5 := by kernel_rfl
 i9 := by kernel_rfl
 i20 := by kernel_rfl
 i21 := by kernel_rfl
 i37 := by kernel_rfl
 i46 := by kernel_rfl
 i51 := by kernel_rfl
 i53 := by kernel_rfl
 i75 := by kernel_rfl
 i80 := by kernel_rfl
 i85 := by kernel_rfl
 i127 := by kernel_rfl
 i143 := by kernel_rfl
 i145 := by kernel_rfl
 i167 := by kernel_rfl
 i168 := by kernel_rfl
 i171 := by kernel_rfl
 i173 := by kernel_rfl
 i175 := by kernel_rfl
 i210 := by kernel_rfl
 i212 := by kernel_rfl
 i232 := by kernel_rfl
 i233 := by kernel_rfl
 m15 := by kernel_rfl
 m16 := by kernel_rfl
 m17 := by kernel_rfl
 m18 := by kernel_rfl
 m19 := by kernel_rfl
 c0 := by kernel_rfl
 c2 := by kernel_rfl
 c3 := by kernel_rfl
 c4 := by kernel_rfl
 c5 := by kernel_rfl
 c9 := by kernel_rfl
 c20 := by kernel_rfl
 c21 := by kernel_rfl
 c37 := by kernel_rfl
 c46 := by kernel_rfl
 c51 := by kernel_rfl
 c53 := by kernel_rfl
 c75 := by kernel_rfl
 c80 := by kernel_rfl
 c85 := by kernel_rfl
 c127 := by kernel_rfl
 c143 := by kernel_rfl
 c145 := by kernel_rfl
 c167 := by kernel_rfl
 c168 := by kernel_rfl
 c171 := by kernel_rfl
 c173 := by kernel_rfl
 c175 := by kernel_rfl
 c210 := by kernel_rfl
 c212 := by kernel_rfl
 c213 := by kernel_rfl
 c232 := by kernel_rfl
 c233 := by kernel_rfl }
def Tryz.lays195_ren : Go.Shelf.Ren := ⟨fun | 195 => 98 | n => n, fun | 9 => 9 | 3 => 3 | 0 => 0 | 4 => 4 | n => n, fun | n => n⟩
theorem Tryz.lays195 : Go.Proofs.Lays.n195 Tryz.prog Tryz.lays195_ren := {
 mixed := by kernel_rfl
 f195 := Tryz.func98.trans (congrArg some (by kernel_rfl))
 t0 := Tryz.underlying0
 a0 := Tryz.isAgg0
 z0 := Tryz.sizeOf0
 v0 := Tryz.zeroValue0
 t3 := Tryz.underlying3
 a3 := Tryz.isAgg3
 z3 := Tryz.sizeOf3
 v3 := Tryz.zeroValue3
 t4 := Tryz.underlying4
 a4 := Tryz.isAgg4
 z4 := Tryz.sizeOf4
 v4 := Tryz.zeroValue4
 t9 := Tryz.underlying9
 a9 := Tryz.isAgg9
 z9 := Tryz.sizeOf9
 v9 := Tryz.zeroValue9 }
def ren : Go.Shelf.Ren := ⟨fun | 156 => 74 | 165 => 115 | 166 => 42 | 167 => 41 | 169 => 45 | 170 => 44 | 240 => 88 | 241 => 149 | 276 => 123 | 277 => 177 | n => n, fun | 0 => 0 | 3 => 3 | 4 => 4 | 5 => 5 | 9 => 9 | 20 => 20 | 31 => 58 | 37 => 109 | 70 => 108 | 72 => 111 | 75 => 113 | 76 => 115 | 80 => 30 | 127 => 173 | 164 => 221 | n => n, fun | n => n⟩
theorem lays166 : Lays.n166 Tryz.prog ren := {
 mixed := by kernel_rfl
 f166 := Tryz.func42.trans (congrArg some (by kernel_rfl))
 f240 := Tryz.func88.trans (congrArg some (by kernel_rfl))
 f276 := Tryz.func123.trans (congrArg some (by kernel_rfl))
 t0 := Tryz.underlying0
 a0 := Tryz.isAgg0
 z0 := Tryz.sizeOf0
 v0 := Tryz.zeroValue0
 t3 := Tryz.underlying3
 a3 := Tryz.isAgg3
 z3 := Tryz.sizeOf3
 v3 := Tryz.zeroValue3
 t4 := Tryz.underlying4
 a4 := Tryz.isAgg4
 z4 := Tryz.sizeOf4
 v4 := Tryz.zeroValue4
 t9 := Tryz.underlying9
 a9 := Tryz.isAgg9
 z9 := Tryz.sizeOf9
 v9 := Tryz.zeroValue9
 t20 := Tryz.underlying20
 a20 := Tryz.isAgg20
 z20 := Tryz.sizeOf20
 v20 := Tryz.zeroValue20
 t37 := Tryz.underlying109
 a37 := Tryz.isAgg109
 z37 := Tryz.sizeOf109
 v37 := Tryz.zeroValue109
 t70 := Tryz.underlying108
 a70 := Tryz.isAgg108
 z70 := Tryz.sizeOf108
 v70 := Tryz.zeroValue108
 t72 := Tryz.underlying111
 a72 := Tryz.isAgg111
 z72 := Tryz.sizeOf111
 v72 := Tryz.zeroValue111
 t75 := Tryz.underlying113
 a75 := Tryz.isAgg113
 z75 := Tryz.sizeOf113
 v75 := Tryz.zeroValue113
 t164 := Tryz.underlying221
 a164 := Tryz.isAgg221
 z164 := Tryz.sizeOf221
 v164 := Tryz.zeroValue221 }
theorem lays167 : Lays.n167 Tryz.prog ren := {
 mixed := by kernel_rfl
 f167 := Tryz.func41.trans (congrArg some (by kernel_rfl))
 f240 := Tryz.func88.trans (congrArg some (by kernel_rfl))
 f276 := Tryz.func123.trans (congrArg some (by kernel_rfl))
 t0 := Tryz.underlying0
 a0 := Tryz.isAgg0
 z0 := Tryz.sizeOf0
 v0 := Tryz.zeroValue0
 t4 := Tryz.underlying4
 a4 := Tryz.isAgg4
 z4 := Tryz.sizeOf4
 v4 := Tryz.zeroValue4
 t5 := Tryz.underlying5
 a5 := Tryz.isAgg5
 z5 := Tryz.sizeOf5
 v5 := Tryz.zeroValue5
 t9 := Tryz.underlying9
 a9 := Tryz.isAgg9
 z9 := Tryz.sizeOf9
 v9 := Tryz.zeroValue9
 t20 := Tryz.underlying20
 a20 := Tryz.isAgg20
 z20 := Tryz.sizeOf20
 v20 := Tryz.zeroValue20
 t37 := Tryz.underlying109
 a37 := Tryz.isAgg109
 z37 := Tryz.sizeOf109
 v37 := Tryz.zeroValue109
 t70 := Tryz.underlying108
 a70 := Tryz.isAgg108
 z70 := Tryz.sizeOf108
 v70 := Tryz.zeroValue108
 t72 := Tryz.underlying111
 a72 := Tryz.isAgg111
 z72 := Tryz.sizeOf111
 v72 := Tryz.zeroValue111
 t75 := Tryz.underlying113
 a75 := Tryz.isAgg113
 z75 := Tryz.sizeOf113
 v75 := Tryz.zeroValue113
 t164 := Tryz.underlying221
 a164 := Tryz.isAgg221
 z164 := Tryz.sizeOf221
 v164 := Tryz.zeroValue221 }
theorem lays169 : Lays.n169 Tryz.prog ren := {
 mixed := by kernel_rfl
 f169 := Tryz.func45.trans (congrArg some (by kernel_rfl))
 t0 := Tryz.underlying0
 a0 := Tryz.isAgg0
 z0 := Tryz.sizeOf0
 v0 := Tryz.zeroValue0
 t3 := Tryz.underlying3
 a3 := Tryz.isAgg3
 z3 := Tryz.sizeOf3
 v3 := Tryz.zeroValue3
 t9 := Tryz.underlying9
 a9 := Tryz.isAgg9
 z9 := Tryz.sizeOf9
 v9 := Tryz.zeroValue9
 t37 := Tryz.underlying109
 a37 := Tryz.isAgg109
 z37 := Tryz.sizeOf109
 v37 := Tryz.zeroValue109
 t70 := Tryz.underlying108
 a70 := Tryz.isAgg108
 z70 := Tryz.sizeOf108
 v70 := Tryz.zeroValue108
 t72 := Tryz.underlying111
 a72 := Tryz.isAgg111
 z72 := Tryz.sizeOf111
 v72 := Tryz.zeroValue111
 t127 := Tryz.underlying173
 a127 := Tryz.isAgg173
 z127 := Tryz.sizeOf173
 v127 := Tryz.zeroValue173 }
theorem lays170 : Lays.n170 Tryz.prog ren := {
 mixed := by kernel_rfl
 f170 := Tryz.func44.trans (congrArg some (by kernel_rfl))
 t0 := Tryz.underlying0
 a0 := Tryz.isAgg0
 z0 := Tryz.sizeOf0
 v0 := Tryz.zeroValue0
 t3 := Tryz.underlying3
 a3 := Tryz.isAgg3
 z3 := Tryz.sizeOf3
 v3 := Tryz.zeroValue3
 t37 := Tryz.underlying109
 a37 := Tryz.isAgg109
 z37 := Tryz.sizeOf109
 v37 := Tryz.zeroValue109
 t70 := Tryz.underlying108
 a70 := Tryz.isAgg108
 z70 := Tryz.sizeOf108
 v70 := Tryz.zeroValue108
 t72 := Tryz.underlying111
 a72 := Tryz.isAgg111
 z72 := Tryz.sizeOf111
 v72 := Tryz.zeroValue111 }
theorem lays156 : Lays.n156 Tryz.prog ren := {
 mixed := by kernel_rfl
 f156 := Tryz.func74.trans (congrArg some (by kernel_rfl))
 f165 := Tryz.func115.trans (congrArg some (by kernel_rfl))
 f166 := Tryz.func42.trans (congrArg some (by kernel_rfl))
 f169 := Tryz.func45.trans (congrArg some (by kernel_rfl))
 f240 := Tryz.func88.trans (congrArg some (by kernel_rfl))
 f241 := Tryz.func149.trans (congrArg some (by kernel_rfl))
 f276 := Tryz.func123.trans (congrArg some (by kernel_rfl))
 f277 := Tryz.func177.trans (congrArg some (by kernel_rfl))
 t0 := Tryz.underlying0
 a0 := Tryz.isAgg0
 z0 := Tryz.sizeOf0
 v0 := Tryz.zeroValue0
 t3 := Tryz.underlying3
 a3 := Tryz.isAgg3
 z3 := Tryz.sizeOf3
 v3 := Tryz.zeroValue3
 t4 := Tryz.underlying4
 a4 := Tryz.isAgg4
 z4 := Tryz.sizeOf4
 v4 := Tryz.zeroValue4
 t9 := Tryz.underlying9
 a9 := Tryz.isAgg9
 z9 := Tryz.sizeOf9
 v9 := Tryz.zeroValue9
 t20 := Tryz.underlying20
 a20 := Tryz.isAgg20
 z20 := Tryz.sizeOf20
 v20 := Tryz.zeroValue20
 t31 := Tryz.underlying58
 a31 := Tryz.isAgg58
 z31 := Tryz.sizeOf58
 v31 := Tryz.zeroValue58
 t37 := Tryz.underlying109
 a37 := Tryz.isAgg109
 z37 := Tryz.sizeOf109
 v37 := Tryz.zeroValue109
 t70 := Tryz.underlying108
 a70 := Tryz.isAgg108
 z70 := Tryz.sizeOf108
 v70 := Tryz.zeroValue108
 t72 := Tryz.underlying111
 a72 := Tryz.isAgg111
 z72 := Tryz.sizeOf111
 v72 := Tryz.zeroValue111
 t75 := Tryz.underlying113
 a75 := Tryz.isAgg113
 z75 := Tryz.sizeOf113
 v75 := Tryz.zeroValue113
 t76 := Tryz.underlying115
 a76 := Tryz.isAgg115
 z76 := Tryz.sizeOf115
 v76 := Tryz.zeroValue115
 t127 := Tryz.underlying173
 a127 := Tryz.isAgg173
 z127 := Tryz.sizeOf173
 v127 := Tryz.zeroValue173
 t164 := Tryz.underlying221
 a164 := Tryz.isAgg221
 z164 := Tryz.sizeOf221
 v164 := Tryz.zeroValue221 }
theorem bextra : Builder.Extra Tryz.prog ren := {
 sizeBuilder := by kernel_rfl
 liesBuilder := by kernel_rfl
 t5 := Tryz.underlying5
 a5 := Tryz.isAgg5
 z5 := Tryz.sizeOf5
 v5 := Tryz.zeroValue5
 infoByte := by kernel_rfl
 cellsByte := by kernel_rfl
 sizeByte := by kernel_rfl
 neB5 := by decide }
end Go.Proofs
namespace Go.Sx.Tz
open Go Go.Proofs Go.Shelf Go.Lib
open Go.RowKit (Below)
theorem cl12 : Callable E.P 12 := ⟨_, Tryz.func12, rfl, by decide +kernel⟩
theorem h12 : ∀ az r, splitH az = some r → Ret E 12 az r := fun _ _ h => ret_Split (E := E) (ρ := Tryz.lays146_ren) Tryz.lays146 (by kernel_rfl) cl12 h
theorem cl74 : Callable E.P 74 := ⟨_, Tryz.func74, rfl, by decide +kernel⟩
theorem h74 : ∀ az r, joinH az = some r → Ret E 74 az r := fun _ _ h => ret_Join (E := E) (ρ := ren) lays156 bextra cl74 h
theorem cl42 : Callable E.P 42 := ⟨_, Tryz.func42, rfl, by decide +kernel⟩
theorem h42 : SemOK E 42 (wrS 111 5) := wrS_ok (E := E) (ρ := ren) lays166 bextra (by decide) cl42
theorem cl41 : Callable E.P 41 := ⟨_, Tryz.func41, rfl, by decide +kernel⟩
theorem h41 : SemOK E 41 (wrB 111 5) := wrB_ok (E := E) (ρ := ren) lays167 bextra (by decide) cl41
theorem cl45 : Callable E.P 45 := ⟨_, Tryz.func45, rfl, by decide +kernel⟩
theorem h45 : SemOK E 45 (stS 111 5) := stS_ok (E := E) (ρ := ren) lays169 bextra cl45
theorem cl44 : Callable E.P 44 := ⟨_, Tryz.func44, rfl, by decide +kernel⟩
theorem h44 : SemOK E 44 (lnS 111 5) := lnS_ok (E := E) (ρ := ren) lays170 cl44
def parH : List SV → Rt
 | [.str s, .int .i64 a, .int .i64 b] => (match Nat.ble s.length 1000000, decide (a = 10), decide (b = 64), parseIntB 64 s with
   | true, true, true, .ok v => frI v fun v => some (.tup [.int .i64 v, .nili])
   | _, _, _, _ => none)
 | _ => none
theorem h95 : ∀ az r, parH az = some r → Ret E 95 az r := fun az r h => by
 unfold parH at h
 split at h
 case h_2 => cases h
 rename_i s a b
 split at h
 case h_2 => cases h
 rename_i v e1 e2 e3 e4
 rw [Nat.ble_eq] at e1
 have e2 := of_decide_eq_true e2
 have e3 := of_decide_eq_true e3
 subst e2 e3
 rw [frI_eq] at h
 cases h
 refine ⟨⟨_, Tryz.func95, rfl, by decide +kernel⟩, fun w X us g hus => ?_⟩
 obtain rfl : us = #[.string ⟨s.toArray⟩, .int .i64 10, .int .i64 64] := by
  obtain ⟨u, us', hu, k1, k2⟩ := relL_cons.1 hus
  obtain ⟨u2, us2, rfl, k3, k4⟩ := relL_cons.1 k2
  obtain ⟨u3, us3, rfl, k5, k6⟩ := relL_cons.1 k4
  obtain rfl := relL_nil.1 k6
  rw [relV_leaf rfl (by simp)] at k1 k3 k5
  simp only [relP, List.cons.injEq, and_true] at k1 k3 k5
  subst k1 k3 k5
  exact Array.toList_inj.1 (by rw [hu])
 refine (Any.strconv_ParseInt_10_at64_ok Tryz.laysC174 ⟨s.toArray⟩ (by simp [ByteArray.size]; omega) v e4 w).mono ?_
 rintro e w' ⟨rfl, k⟩
 have hb : Below w.heap.size w w' := by
  rcases k with rfl | ⟨t, rfl⟩
  · exact Below.refl _ _
  · exact bytesWorld_below _ _ _
 exact ⟨_, rfl, hb, by simp [rel, relL, SV.isAgg, relP]⟩
def rcH : List SV → Rt
 | [.str []] => some (.int .i64 0)
 | _ => none
theorem h98 : ∀ az r, rcH az = some r → Ret E 98 az r := fun az r h => by
 unfold rcH at h
 split at h
 case h_2 => cases h
 cases h
 refine ⟨⟨_, Tryz.func98, rfl, by decide +kernel⟩, fun w X us g hus => ?_⟩
 obtain rfl : us = #[.string ⟨#[]⟩] := by
  obtain ⟨u, us', hu, k1, k2⟩ := relL_cons.1 hus
  obtain rfl := relL_nil.1 k2
  rw [relV_leaf rfl (by simp)] at k1
  simp only [relP, List.cons.injEq, and_true] at k1
  subst k1
  exact Array.toList_inj.1 (by rw [hu])
 refine (Any.utf8_RuneCountInString Tryz.lays195 ⟨#[]⟩ w (by decide)).mono ?_
 rintro e w' ⟨rfl, pos, rfl⟩
 have e0 : Lib.runeCount ⟨#[]⟩ = 0 := rfl
 refine ⟨_, rfl, (Below.refl _ _).alloc (Nat.le_refl _) _, ?_⟩
 rw [e0]
 simp [rel, relV, SV.isAgg, relP]
open Go.Proofs Go.RowKit Go.Lib in
set_option maxHeartbeats 1000000 in
theorem indexByte_ok (s : ByteArray) (c : Int) (w : World) :
 Calls Tryz.prog 136 #[.string s, .int .u8 c] w fun e w' => e = .returned (.int .i64 (Lib.indexByte s.data.toList c.toNat.toUInt8)) ∧ w' = w := by
 go_enter Tryz.func136, Tryz.ntmps136
 go_wp2
 rw [run_callFunc_extern Tryz.func172 (by kernel_rfl) (by kernel_rfl) (by kernel_rfl) (e := Extern.BytealgIndexByte.indexByte) (by kernel_rfl), Lib.run_indexByteString]
 simp only [Result.andThen]
 rw [Oper.upon_value]
 go_wp2
 go_ret
 exact ⟨rfl, rfl⟩
def ixH : List SV → Rt
 | [.str s, .int .u8 c] => frI (Lib.indexByte s c.toNat.toUInt8) fun i => some (.int .i64 i)
 | _ => none
theorem h136 : ∀ az r, ixH az = some r → Ret E 136 az r := fun az r h => by
 unfold ixH at h
 split at h
 case h_2 => cases h
 rename_i s c
 rw [frI_eq] at h
 cases h
 refine ⟨⟨_, Tryz.func136, rfl, by decide +kernel⟩, fun w X us _ hus => ?_⟩
 obtain rfl : us = #[.string ⟨s.toArray⟩, .int .u8 c] := by
  obtain ⟨u, us', hu, k1, k2⟩ := relL_cons.1 hus
  obtain ⟨u2, us2, rfl, k3, k4⟩ := relL_cons.1 k2
  obtain rfl := relL_nil.1 k4
  rw [relV_leaf rfl (by simp)] at k1 k3
  simp only [relP, List.cons.injEq, and_true] at k1 k3
  subst k1 k3
  exact Array.toList_inj.1 (by rw [hu])
 refine (indexByte_ok ⟨s.toArray⟩ c w).mono ?_
 rintro e w' ⟨rfl, rfl⟩
 exact ⟨_, rfl, Below.refl _ _, by simp [rel, relV, SV.isAgg, relP]⟩
def jp : JP := ⟨2, 8, 9, 88, 165, 93, 52, 3, 2, 2, "expr.go:110"⟩
theorem jpT : JT E jp := ⟨by kernel_rfl, by kernel_rfl, by kernel_rfl, by kernel_rfl, by kernel_rfl, by kernel_rfl, by kernel_rfl, by kernel_rfl, by decide⟩
noncomputable def growH (az : List SV) : Rt := fnJC E (runE E ft [] Hk.no 1000 60) 1000 4 jp Tryz.f119 az
theorem h119 : ∀ az r, growH az = some r → Ret E 119 az r := fun az r h =>
 ret_of_fnJC ok (runE_ok (fd := []) ok ft_ok True.intro HkOK.no 60) Tryz.func119 (by kernel_rfl) (fun _ => ⟨jpT, by decide, by decide, by decide, by decide⟩) (by repeat (first | exact True.intro | exact ⟨rfl, rfl⟩ | refine ⟨?_, ?_⟩)) h
noncomputable def hk : Hk := ⟨[(12, splitH), (74, joinH), (95, parH), (98, rcH), (136, ixH), (119, growH)], [(42, wrS 111 5), (41, wrB 111 5), (45, stS 111 5), (44, lnS 111 5), (148, grS)]⟩
theorem hk_ok : HkOK E hk := ⟨hkX_cons h12 (hkX_cons h74 (hkX_cons h95 (hkX_cons h98 (hkX_cons h136 (hkX_cons h119 (hkX_nil)))))), hkS_cons h42 (hkS_cons h41 (hkS_cons h45 (hkS_cons h44 (hkS_cons grS_ok (hkS_nil)))))⟩
end Go.Sx.Tz
