/- The literals: hexadecimal numbers as the library reads them. Nothing is claimed here. -/
import Derived.Shelf.Strings.Trim
import Derived.Shelf.Utf8.AppendRunePlain
import Derived.Shelf.Strings.LastIndex
import Derived.Shelf.Strconv.Lower
import Derived.Shelf.Strconv.ToError
import Derived.Shelf.Strconv.ToErrorRange
import Derived.Shelf.Strings.Runes
import Derived.Shelf.Small.Wraps
import Derived.Test.YtonehlkiackhcaaGreatDoorLitH
set_option linter.unusedVariables false
set_option linter.unusedSimpArgs false
set_option maxRecDepth 100000
set_option maxHeartbeats 16000000
namespace Go.Proofs
open Go.Shelf
def Tryz.lays160_ren : Go.Shelf.Ren:=⟨fun | 160 => 81 | 232 => 110 | 231 => 109 | 227 => 111 | 234 => 113 | 233 => 112 | 236 => 115 | 235 => 114 | 228 => 142 | 271 => 144 | 151 => 143 | 197 => 84 | 120 => 181 | 152 => 78 | 260 => 121 | 137 => 87 | 119 => 88 | 224 => 106 | 225 => 107 | 217 => 124 | 266 => 160 | n => n,fun | 9 => 9 | 4 => 4 | 3 => 3 | 5 => 5 | 117 => 172 | 116 => 171 | 0 => 0 | 124 => 175 | 21 => 21 | 105 => 131 | 46 => 121 | 119 => 160 | 139 => 163 | 138 => 162 | n => n,fun | 3 => 0 | 4 => 1 | n => n⟩
theorem Tryz.lays160 : Go.Proofs.Lays.n160 Tryz.prog Tryz.lays160_ren:={
 mixed:=by kernel_rfl
 f119:=Tryz.func88.trans (congrArg some (by kernel_rfl))
 f120:=Tryz.func181.trans (congrArg some (by kernel_rfl))
 f137:=Tryz.func87.trans (congrArg some (by kernel_rfl))
 f151:=Tryz.func143.trans (congrArg some (by kernel_rfl))
 f152:=Tryz.func78.trans (congrArg some (by kernel_rfl))
 f160:=Tryz.func81.trans (congrArg some (by kernel_rfl))
 f197:=Tryz.func84.trans (congrArg some (by kernel_rfl))
 f217:=Tryz.func124.trans (congrArg some (by kernel_rfl))
 f224:=Tryz.func106.trans (congrArg some (by kernel_rfl))
 f225:=Tryz.func107.trans (congrArg some (by kernel_rfl))
 f227:=Tryz.func111.trans (congrArg some (by kernel_rfl))
 f228:=Tryz.func142.trans (congrArg some (by kernel_rfl))
 f231:=Tryz.func109.trans (congrArg some (by kernel_rfl))
 f232:=Tryz.func110.trans (congrArg some (by kernel_rfl))
 f233:=Tryz.func112.trans (congrArg some (by kernel_rfl))
 f234:=Tryz.func113.trans (congrArg some (by kernel_rfl))
 f235:=Tryz.func114.trans (congrArg some (by kernel_rfl))
 f236:=Tryz.func115.trans (congrArg some (by kernel_rfl))
 f260:=Tryz.func121.trans (congrArg some (by kernel_rfl))
 f266:=Tryz.func160.trans (congrArg some (by kernel_rfl))
 f271:=Tryz.func144.trans (congrArg some (by kernel_rfl))
 t0:=Tryz.underlying0
 a0:=Tryz.isAgg0
 z0:=Tryz.sizeOf0
 v0:=Tryz.zeroValue0
 t3:=Tryz.underlying3
 a3:=Tryz.isAgg3
 z3:=Tryz.sizeOf3
 v3:=Tryz.zeroValue3
 t4:=Tryz.underlying4
 a4:=Tryz.isAgg4
 z4:=Tryz.sizeOf4
 v4:=Tryz.zeroValue4
 t5:=Tryz.underlying5
 a5:=Tryz.isAgg5
 z5:=Tryz.sizeOf5
 v5:=Tryz.zeroValue5
 t9:=Tryz.underlying9
 a9:=Tryz.isAgg9
 z9:=Tryz.sizeOf9
 v9:=Tryz.zeroValue9
 t21:=Tryz.underlying21
 a21:=Tryz.isAgg21
 z21:=Tryz.sizeOf21
 v21:=Tryz.zeroValue21
 t46:=Tryz.underlying121
 a46:=Tryz.isAgg121
 z46:=Tryz.sizeOf121
 v46:=Tryz.zeroValue121
 t105:=Tryz.underlying131
 a105:=Tryz.isAgg131
 z105:=Tryz.sizeOf131
 v105:=Tryz.zeroValue131
 t116:=Tryz.underlying171
 a116:=Tryz.isAgg171
 z116:=Tryz.sizeOf171
 t117:=Tryz.underlying172
 a117:=Tryz.isAgg172
 z117:=Tryz.sizeOf172
 v117:=Tryz.zeroValue172
 t119:=Tryz.underlying160
 a119:=Tryz.isAgg160
 z119:=Tryz.sizeOf160
 t124:=Tryz.underlying175
 a124:=Tryz.isAgg175
 z124:=Tryz.sizeOf175
 v124:=Tryz.zeroValue175
 t138:=Tryz.underlying162
 a138:=Tryz.isAgg162
 z138:=Tryz.sizeOf162
 v138:=Tryz.zeroValue162
 t139:=Tryz.underlying163
 a139:=Tryz.isAgg163
 z139:=Tryz.sizeOf163
 v139:=Tryz.zeroValue163
 g3:=by kernel_rfl
 g4:=by kernel_rfl }
open Go.RowKit in
theorem Tryz.strings_Trim_one (s : ByteArray) (c : UInt8) (hc : c.toNat < 128) (w : World) (hs : s.size ≤ 9223372036854775807) :
  Calls Tryz.prog 81 #[.string s,.string ⟨#[c]⟩] w fun e w' => e = .returned (.string ⟨(Lib.trimB s.data.toList c).toArray⟩)∧(w' = w∨w' = w.drew):=Any.strings_Trim_one Tryz.lays160 s c hc w hs
def Tryz.lays119_ren : Go.Shelf.Ren:=⟨fun | 119 => 88 | n => n,fun | 21 => 21 | 4 => 4 | n => n,fun | n => n⟩
theorem Tryz.lays119 : Go.Proofs.Lays.n119 Tryz.prog Tryz.lays119_ren:={
 mixed:=by kernel_rfl
 f119:=Tryz.func88.trans (congrArg some (by kernel_rfl))
 t4:=Tryz.underlying4
 a4:=Tryz.isAgg4
 z4:=Tryz.sizeOf4
 v4:=Tryz.zeroValue4
 t21:=Tryz.underlying21
 a21:=Tryz.isAgg21
 z21:=Tryz.sizeOf21
 v21:=Tryz.zeroValue21 }
theorem Tryz.utf8_ValidRune (r:Int) (w : World) :
  Calls Tryz.prog 88 #[.int .i32 r] w fun e w' => e = .returned (.bool (Lib.validRune r))∧w' = w:=Any.utf8_ValidRune Tryz.lays119 r w
def Tryz.lays242_ren : Go.Shelf.Ren:=⟨fun | 242 => 46 | 278 => 89 | n => n,fun | 37 => 71 | 21 => 21 | 51 => 63 | 4 => 4 | 5 => 5 | 46 => 121 | n => n,fun | n => n⟩
theorem Tryz.lays242 : Go.Proofs.Lays.n242 Tryz.prog Tryz.lays242_ren:={
 mixed:=by kernel_rfl
 f242:=Tryz.func46.trans (congrArg some (by kernel_rfl))
 f278:=Tryz.func89.trans (congrArg some (by kernel_rfl))
 t4:=Tryz.underlying4
 a4:=Tryz.isAgg4
 z4:=Tryz.sizeOf4
 v4:=Tryz.zeroValue4
 t5:=Tryz.underlying5
 a5:=Tryz.isAgg5
 z5:=Tryz.sizeOf5
 v5:=Tryz.zeroValue5
 t21:=Tryz.underlying21
 a21:=Tryz.isAgg21
 z21:=Tryz.sizeOf21
 v21:=Tryz.zeroValue21
 t37:=Tryz.underlying71
 a37:=Tryz.isAgg71
 z37:=Tryz.sizeOf71
 v37:=Tryz.zeroValue71
 t46:=Tryz.underlying121
 a46:=Tryz.isAgg121
 z46:=Tryz.sizeOf121
 v46:=Tryz.zeroValue121
 t51:=Tryz.underlying63
 a51:=Tryz.isAgg63
 z51:=Tryz.sizeOf63
 v51:=Tryz.zeroValue63 }
open Go.RowKit in
theorem Tryz.utf8_AppendRune_plain (B:Nat) (v : Value) (n:Nat) (xs : List Value) (r:Int) (hr0 : -2147483648 ≤ r) (hr1 : r ≤ 2147483647) (w : World) (hown : w.ownsRow B 5 1 v n xs) (hlen : n + 4 ≤ 140737488355328) (hBw : B ≤ w.heap.size) :
  Calls Tryz.prog 46 #[v,.int .i32 r] w fun e w' => ∃ v',e = .returned v'∧w'.ownsRow B 5 1 v' (n + (Lib.runeCells r).length) (xs ++ Lib.runeCells r)∧∃ o,(w.alloc o).grownBy w' v.ownBlock:=Any.utf8_AppendRune_plain Tryz.lays242 (by kernel_rfl) B v n xs r hr0 hr1 w hown hlen hBw
def Tryz.lays145_ren : Go.Shelf.Ren:=⟨fun | 145 => 37 | 220 => 80 | 219 => 108 | 217 => 124 | 225 => 107 | 224 => 106 | 267 => 141 | 266 => 160 | 314 => 180 | n => n,fun | 9 => 9 | 4 => 4 | 59 => 58 | 3 => 3 | 5 => 5 | 46 => 121 | 146 => 198 | 51 => 63 | n => n,fun | 1 => 2 | n => n⟩
theorem Tryz.lays145 : Go.Proofs.Lays.n145 Tryz.prog Tryz.lays145_ren:={
 mixed:=by kernel_rfl
 f145:=Tryz.func37.trans (congrArg some (by kernel_rfl))
 f217:=Tryz.func124.trans (congrArg some (by kernel_rfl))
 f219:=Tryz.func108.trans (congrArg some (by kernel_rfl))
 f220:=Tryz.func80.trans (congrArg some (by kernel_rfl))
 f224:=Tryz.func106.trans (congrArg some (by kernel_rfl))
 f225:=Tryz.func107.trans (congrArg some (by kernel_rfl))
 f266:=Tryz.func160.trans (congrArg some (by kernel_rfl))
 f267:=Tryz.func141.trans (congrArg some (by kernel_rfl))
 f314:=Tryz.func180.trans (congrArg some (by kernel_rfl))
 t3:=Tryz.underlying3
 a3:=Tryz.isAgg3
 z3:=Tryz.sizeOf3
 v3:=Tryz.zeroValue3
 t4:=Tryz.underlying4
 a4:=Tryz.isAgg4
 z4:=Tryz.sizeOf4
 v4:=Tryz.zeroValue4
 t5:=Tryz.underlying5
 a5:=Tryz.isAgg5
 z5:=Tryz.sizeOf5
 v5:=Tryz.zeroValue5
 t9:=Tryz.underlying9
 a9:=Tryz.isAgg9
 z9:=Tryz.sizeOf9
 v9:=Tryz.zeroValue9
 t46:=Tryz.underlying121
 a46:=Tryz.isAgg121
 z46:=Tryz.sizeOf121
 v46:=Tryz.zeroValue121
 t51:=Tryz.underlying63
 a51:=Tryz.isAgg63
 z51:=Tryz.sizeOf63
 v51:=Tryz.zeroValue63
 t59:=Tryz.underlying58
 a59:=Tryz.isAgg58
 z59:=Tryz.sizeOf58
 v59:=Tryz.zeroValue58
 t146:=Tryz.underlying198
 a146:=Tryz.isAgg198
 z146:=Tryz.sizeOf198
 v146:=Tryz.zeroValue198
 g1:=by kernel_rfl }
open Go.RowKit Go.Lib in
theorem Tryz.strings_Cut (s sep : ByteArray) (m:Int) (w : World) (hs : s.size < 4294967281) (hm : w.cell? ⟨2,0,none⟩ = some (.int .i64 m)) :
  Calls Tryz.prog 37 #[.string s,.string sep] w fun e w' => e = .returned (.tuple #[.string ⟨(Lib.cut s.data.toList sep.data.toList).1.toArray⟩,.string ⟨(Lib.cut s.data.toList sep.data.toList).2.1.toArray⟩,.bool (Lib.cut s.data.toList sep.data.toList).2.2])∧∃ n,w' = w.drewN n:=Any.strings_Cut Tryz.lays145 s sep m w hs hm
def Tryz.lays149_ren : Go.Shelf.Ren:=⟨fun | 149 => 85 | 222 => 122 | n => n,fun | 9 => 9 | 5 => 5 | 3 => 3 | 4 => 4 | n => n,fun | n => n⟩
theorem Tryz.lays149 : Go.Proofs.Lays.n149 Tryz.prog Tryz.lays149_ren:={
 mixed:=by kernel_rfl
 f149:=Tryz.func85.trans (congrArg some (by kernel_rfl))
 f222:=Tryz.func122.trans (congrArg some (by kernel_rfl))
 t3:=Tryz.underlying3
 a3:=Tryz.isAgg3
 z3:=Tryz.sizeOf3
 v3:=Tryz.zeroValue3
 t4:=Tryz.underlying4
 a4:=Tryz.isAgg4
 z4:=Tryz.sizeOf4
 v4:=Tryz.zeroValue4
 t5:=Tryz.underlying5
 a5:=Tryz.isAgg5
 z5:=Tryz.sizeOf5
 v5:=Tryz.zeroValue5
 t9:=Tryz.underlying9
 a9:=Tryz.isAgg9
 z9:=Tryz.sizeOf9
 v9:=Tryz.zeroValue9 }
open Go.RowKit Go.Lib in
theorem Tryz.strings_LastIndexByte (s : ByteArray) (c:Int) (hs : s.size < 4611686018427387904) (w : World) :
  Calls Tryz.prog 85 #[.string s,.int .u8 c] w fun e w' => e = .returned (.int .i64 (Lib.lastIndexByte s c))∧w' = w:=Any.strings_LastIndexByte Tryz.lays149 s c hs w
end Go.Proofs

namespace Go.Proofs
open Go.Shelf
def Tryz.lays121_ren : Go.Shelf.Ren:=⟨fun | 121 => 22 | 214 => 70 | n => n,fun | 4 => 4 | 9 => 9 | n => n,fun | n => n⟩
open Go.RowKit in
def Tryz.laysC245_ren : Go.Shelf.Ren:=⟨fun | 245 => 159 | 279 => 195 | 280 => 196 | 281 => 197 | 282 => 198 | 316 => 216 | 171 => 72 | 205 => 217 | 243 => 103 | 246 => 137 | 283 => 175 | 284 => 176 | 285 => 177 | 286 => 178 | 129 => 210 | 317 => 209 | 318 => 211 | 319 => 212 | 320 => 213 | 337 => 232 | 338 => 233 | n => n,fun | 9 => 9 | 3 => 3 | 75 => 101 | 167 => 238 | 4 => 4 | 168 => 240 | 210 => 272 | 37 => 71 | 0 => 0 | 127 => 158 | 145 => 300 | 143 => 298 | 2 => 2 | 171 => 226 | 53 => 164 | 5 => 5 | 173 => 229 | 212 => 261 | 51 => 63 | 20 => 20 | 213 => 262 | 46 => 121 | 232 => 308 | 233 => 309 | 80 => 54 | n => n,fun | 15 => 6 | 16 => 7 | 17 => 4 | 18 => 9 | 19 => 10 | n => n⟩
theorem Tryz.laysC245 : Go.Proofs.LaysC.n245 Tryz.prog Tryz.laysC245_ren:={
 mixed:=by kernel_rfl
 f129:=Tryz.func210.trans (congrArg some (by kernel_rfl))
 f171:=Tryz.func72.trans (congrArg some (by kernel_rfl))
 f205:=Tryz.func217.trans (congrArg some (by kernel_rfl))
 f243:=Tryz.func103.trans (congrArg some (by kernel_rfl))
 f245:=Tryz.func159.trans (congrArg some (by kernel_rfl))
 f246:=Tryz.func137.trans (congrArg some (by kernel_rfl))
 f279:=Tryz.func195.trans (congrArg some (by kernel_rfl))
 f280:=Tryz.func196.trans (congrArg some (by kernel_rfl))
 f281:=Tryz.func197.trans (congrArg some (by kernel_rfl))
 f282:=Tryz.func198.trans (congrArg some (by kernel_rfl))
 f283:=Tryz.func175.trans (congrArg some (by kernel_rfl))
 f284:=Tryz.func176.trans (congrArg some (by kernel_rfl))
 f285:=Tryz.func177.trans (congrArg some (by kernel_rfl))
 f286:=Tryz.func178.trans (congrArg some (by kernel_rfl))
 f316:=Tryz.func216.trans (congrArg some (by kernel_rfl))
 f317:=Tryz.func209.trans (congrArg some (by kernel_rfl))
 f318:=Tryz.func211.trans (congrArg some (by kernel_rfl))
 f319:=Tryz.func212.trans (congrArg some (by kernel_rfl))
 f320:=Tryz.func213.trans (congrArg some (by kernel_rfl))
 f337:=Tryz.func232.trans (congrArg some (by kernel_rfl))
 f338:=Tryz.func233.trans (congrArg some (by kernel_rfl))
 t0:=Tryz.underlying0
 a0:=Tryz.isAgg0
 z0:=Tryz.sizeOf0
 v0:=Tryz.zeroValue0
 t2:=Tryz.underlying2
 a2:=Tryz.isAgg2
 z2:=Tryz.sizeOf2
 v2:=Tryz.zeroValue2
 t3:=Tryz.underlying3
 a3:=Tryz.isAgg3
 z3:=Tryz.sizeOf3
 v3:=Tryz.zeroValue3
 t4:=Tryz.underlying4
 a4:=Tryz.isAgg4
 z4:=Tryz.sizeOf4
 v4:=Tryz.zeroValue4
 t5:=Tryz.underlying5
 a5:=Tryz.isAgg5
 z5:=Tryz.sizeOf5
 v5:=Tryz.zeroValue5
 t9:=Tryz.underlying9
 a9:=Tryz.isAgg9
 z9:=Tryz.sizeOf9
 v9:=Tryz.zeroValue9
 t20:=Tryz.underlying20
 a20:=Tryz.isAgg20
 z20:=Tryz.sizeOf20
 v20:=Tryz.zeroValue20
 t37:=Tryz.underlying71
 a37:=Tryz.isAgg71
 z37:=Tryz.sizeOf71
 v37:=Tryz.zeroValue71
 t46:=Tryz.underlying121
 a46:=Tryz.isAgg121
 z46:=Tryz.sizeOf121
 v46:=Tryz.zeroValue121
 t51:=Tryz.underlying63
 a51:=Tryz.isAgg63
 z51:=Tryz.sizeOf63
 v51:=Tryz.zeroValue63
 t53:=Tryz.underlying164
 a53:=Tryz.isAgg164
 z53:=Tryz.sizeOf164
 v53:=Tryz.zeroValue164
 t75:=Tryz.underlying101
 a75:=Tryz.isAgg101
 z75:=Tryz.sizeOf101
 v75:=Tryz.zeroValue101
 t127:=Tryz.underlying158
 a127:=Tryz.isAgg158
 z127:=Tryz.sizeOf158
 v127:=Tryz.zeroValue158
 t143:=Tryz.underlying298
 a143:=Tryz.isAgg298
 z143:=Tryz.sizeOf298
 v143:=Tryz.zeroValue298
 t145:=Tryz.underlying300
 a145:=Tryz.isAgg300
 z145:=Tryz.sizeOf300
 v145:=Tryz.zeroValue300
 t167:=Tryz.underlying238
 a167:=Tryz.isAgg238
 z167:=Tryz.sizeOf238
 v167:=Tryz.zeroValue238
 t168:=Tryz.underlying240
 a168:=Tryz.isAgg240
 z168:=Tryz.sizeOf240
 v168:=Tryz.zeroValue240
 t171:=Tryz.underlying226
 a171:=Tryz.isAgg226
 z171:=Tryz.sizeOf226
 v171:=Tryz.zeroValue226
 t173:=Tryz.underlying229
 a173:=Tryz.isAgg229
 z173:=Tryz.sizeOf229
 v173:=Tryz.zeroValue229
 t210:=Tryz.underlying272
 a210:=Tryz.isAgg272
 z210:=Tryz.sizeOf272
 v210:=Tryz.zeroValue272
 t212:=Tryz.underlying261
 a212:=Tryz.isAgg261
 z212:=Tryz.sizeOf261
 v212:=Tryz.zeroValue261
 t213:=Tryz.underlying262
 a213:=Tryz.isAgg262
 z213:=Tryz.sizeOf262
 t232:=Tryz.underlying308
 a232:=Tryz.isAgg308
 z232:=Tryz.sizeOf308
 v232:=Tryz.zeroValue308
 t233:=Tryz.underlying309
 a233:=Tryz.isAgg309
 z233:=Tryz.sizeOf309
 v233:=Tryz.zeroValue309
 g15:=by kernel_rfl
 g16:=by kernel_rfl
 g17:=by kernel_rfl
 g18:=by kernel_rfl
 g19:=by kernel_rfl
 t80:=Tryz.underlying54
 a80:=Tryz.isAgg54
 z80:=Tryz.sizeOf54
 v80:=Tryz.zeroValue54
 i0:=by kernel_rfl
 i2:=by kernel_rfl
 i3:=by kernel_rfl
 i4:=by kernel_rfl
 i5:=by kernel_rfl
 i9:=by kernel_rfl
 i20:=by kernel_rfl
 i37:=by kernel_rfl
 i46:=by kernel_rfl
 i51:=by kernel_rfl
 i53:=by kernel_rfl
 i75:=by kernel_rfl
 i80:=by kernel_rfl
 i127:=by kernel_rfl
 i143:=by kernel_rfl
 i145:=by kernel_rfl
 i167:=by kernel_rfl
 i168:=by kernel_rfl
 i171:=by kernel_rfl
 i173:=by kernel_rfl
 i210:=by kernel_rfl
 i212:=by kernel_rfl
 i232:=by kernel_rfl
 i233:=by kernel_rfl
 m15:=by kernel_rfl
 m16:=by kernel_rfl
 m17:=by kernel_rfl
 m18:=by kernel_rfl
 m19:=by kernel_rfl
 c0:=by kernel_rfl
 c2:=by kernel_rfl
 c3:=by kernel_rfl
 c4:=by kernel_rfl
 c5:=by kernel_rfl
 c9:=by kernel_rfl
 c20:=by kernel_rfl
 c37:=by kernel_rfl
 c46:=by kernel_rfl
 c51:=by kernel_rfl
 c53:=by kernel_rfl
 c75:=by kernel_rfl
 c80:=by kernel_rfl
 c127:=by kernel_rfl
 c143:=by kernel_rfl
 c145:=by kernel_rfl
 c167:=by kernel_rfl
 c168:=by kernel_rfl
 c171:=by kernel_rfl
 c173:=by kernel_rfl
 c210:=by kernel_rfl
 c212:=by kernel_rfl
 c213:=by kernel_rfl
 c232:=by kernel_rfl
 c233:=by kernel_rfl }
open Go.RowKit in
theorem Tryz.strconv_toError_syntax (fn s : ByteArray) (base bits:Int) (ev : Value) (w : World) (hlim : s.size ≤ 281474976710656) (hv : w.cell? ⟨6,0,none⟩ = some ev) (hev : ev = .nilIface∨∃ te pe,ev = .iface te pe) :
  Calls Tryz.prog 159 #[.string fn,.string s,.int .i64 base,.int .i64 bits,.iface 238 (.int .i64 2)] w fun e w' => ∃ N,e = .returned (.iface 240 (.pointer (some ⟨N,0,none⟩)))∧w.heap.size ≤ N∧w'.heap[N]? = some (.cells #[.string fn,.string s,ev] 272 (0,0))∧Below w.heap.size w w':=Any.strconv_toError_syntax Tryz.laysC245 fn s base bits ev w hlim hv hev
def Tryz.lays321_ren : Go.Shelf.Ren:=⟨fun | 321 => 193 | n => n,fun | 5 => 5 | n => n,fun | n => n⟩
theorem Tryz.lays321 : Go.Proofs.Lays.n321 Tryz.prog Tryz.lays321_ren:={
 mixed:=by kernel_rfl
 f321:=Tryz.func193.trans (congrArg some (by kernel_rfl))
 t5:=Tryz.underlying5
 a5:=Tryz.isAgg5
 z5:=Tryz.sizeOf5
 v5:=Tryz.zeroValue5 }
open Go.RowKit in
theorem Tryz.internal_strconv_lower (c:Int) (w : World) :
  Calls Tryz.prog 193 #[.int .u8 c] w fun e w' => e = .returned (.int .u8 (bits .or .u8 c 32))∧w' = w:=Any.internal_strconv_lower Tryz.lays321 c w
open Go.RowKit in
theorem Tryz.strconv_toError_range (fn s : ByteArray) (base bits:Int) (ev : Value) (w : World) (hlim : s.size ≤ 281474976710656) (hv : w.cell? ⟨7,0,none⟩ = some ev) (hev : ev = .nilIface∨∃ te pe,ev = .iface te pe) :
  Calls Tryz.prog 159 #[.string fn,.string s,.int .i64 base,.int .i64 bits,.iface 238 (.int .i64 1)] w fun e w' => ∃ N,e = .returned (.iface 240 (.pointer (some ⟨N,0,none⟩)))∧w.heap.size ≤ N∧w'.heap[N]? = some (.cells #[.string fn,.string s,ev] 272 (0,0))∧Below w.heap.size w w':=Any.strconv_toError_range Tryz.laysC245 fn s base bits ev w hlim hv hev
def Tryz.lays152_ren : Go.Shelf.Ren:=⟨fun | 152 => 78 | 137 => 87 | 119 => 88 | 224 => 106 | 225 => 107 | 217 => 124 | 266 => 160 | n => n,fun | 9 => 9 | 21 => 21 | 3 => 3 | 4 => 4 | 5 => 5 | 0 => 0 | 46 => 121 | n => n,fun | n => n⟩
theorem Tryz.lays152 : Go.Proofs.Lays.n152 Tryz.prog Tryz.lays152_ren:={
 mixed:=by kernel_rfl
 f119:=Tryz.func88.trans (congrArg some (by kernel_rfl))
 f137:=Tryz.func87.trans (congrArg some (by kernel_rfl))
 f152:=Tryz.func78.trans (congrArg some (by kernel_rfl))
 f217:=Tryz.func124.trans (congrArg some (by kernel_rfl))
 f224:=Tryz.func106.trans (congrArg some (by kernel_rfl))
 f225:=Tryz.func107.trans (congrArg some (by kernel_rfl))
 f266:=Tryz.func160.trans (congrArg some (by kernel_rfl))
 t0:=Tryz.underlying0
 a0:=Tryz.isAgg0
 z0:=Tryz.sizeOf0
 v0:=Tryz.zeroValue0
 t3:=Tryz.underlying3
 a3:=Tryz.isAgg3
 z3:=Tryz.sizeOf3
 v3:=Tryz.zeroValue3
 t4:=Tryz.underlying4
 a4:=Tryz.isAgg4
 z4:=Tryz.sizeOf4
 v4:=Tryz.zeroValue4
 t5:=Tryz.underlying5
 a5:=Tryz.isAgg5
 z5:=Tryz.sizeOf5
 v5:=Tryz.zeroValue5
 t9:=Tryz.underlying9
 a9:=Tryz.isAgg9
 z9:=Tryz.sizeOf9
 v9:=Tryz.zeroValue9
 t21:=Tryz.underlying21
 a21:=Tryz.isAgg21
 z21:=Tryz.sizeOf21
 v21:=Tryz.zeroValue21
 t46:=Tryz.underlying121
 a46:=Tryz.isAgg121
 z46:=Tryz.sizeOf121
 v46:=Tryz.zeroValue121 }
open Go.RowKit Go.Lib in
theorem Tryz.strings_IndexRune_ascii (s : ByteArray) (r:Int) (w : World) (h0 : 0 ≤ r) (h1 : r < 128) :
  Calls Tryz.prog 78 #[.string s,.int .i32 r] w fun e w' => e = .returned (.int .i64 (Lib.indexByte s.data.toList r.toNat.toUInt8))∧w' = w:=Any.strings_IndexRune_ascii Tryz.lays152 s r w h0 h1
end Go.Proofs

namespace Go.Proofs.YtonehlkiackhcaaGreatDoor
open Go.RowKit Go.Lib
theorem byteAll (p : UInt8 → Bool) (h : ((List.range 256).all fun n => p (UInt8.ofNat n)) = true) (c : UInt8) : p c = true:=by
 have:=List.all_eq_true.1 h c.toNat (List.mem_range.2 c.toNat_lt);simpa using this
def lo (c : UInt8) : Nat:=(c ||| 32).toNat
theorem lo_bits (c : UInt8) : bits .or .u8 (c.toNat:Int) 32 = (lo c:Int):=by
 have:=byteAll (fun c => bits .or .u8 (c.toNat:Int) 32 == (lo c:Int)) (by decide +kernel) c;simpa using this
theorem hex_kind (c : UInt8) : (48 ≤ c.toNat∧c.toNat ≤ 57∧hexD c = some (c.toNat - 48)) ∨
  (¬ (48 ≤ c.toNat∧c.toNat ≤ 57)∧97 ≤ lo c∧lo c ≤ 102∧hexD c = some (lo c - 87)) ∨
  (¬ (48 ≤ c.toNat∧c.toNat ≤ 57)∧103 ≤ lo c∧lo c ≤ 122∧hexD c = none) ∨
  (¬ (48 ≤ c.toNat∧c.toNat ≤ 57)∧lo c < 97∧hexD c = none)∨(¬ (48 ≤ c.toNat∧c.toNat ≤ 57)∧122 < lo c∧hexD c = none):=by
 have:=byteAll (fun c => decide ((48 ≤ c.toNat∧c.toNat ≤ 57∧hexD c = some (c.toNat - 48)) ∨
  (¬ (48 ≤ c.toNat∧c.toNat ≤ 57)∧97 ≤ lo c∧lo c ≤ 102∧hexD c = some (lo c - 87)) ∨
  (¬ (48 ≤ c.toNat∧c.toNat ≤ 57)∧103 ≤ lo c∧lo c ≤ 122∧hexD c = none) ∨
  (¬ (48 ≤ c.toNat∧c.toNat ≤ 57)∧lo c < 97∧hexD c = none)∨(¬ (48 ≤ c.toNat∧c.toNat ≤ 57)∧122 < lo c∧hexD c = none))) (by decide +kernel) c
 exact of_decide_eq_true this
theorem lower_any (c : UInt8) (w : World) : Calls Tryz.prog 193 #[.int .u8 (c.toNat:Int)] w fun e w' => e = .returned (.int .u8 (lo c:Int))∧w' = w :=
 (Tryz.internal_strconv_lower (c.toNat:Int) w).mono fun _ _ h => ⟨by rw [h.1,lo_bits],h.2⟩
theorem ne95 (c : UInt8) (h : lo c ≠ 127) : ((c.toNat:Int) == 95) = false:=by
 rw [beq_eq_false_iff_ne];intro e;refine h ?_;unfold lo;rw [show c = 95 from UInt8.toNat_inj.1 (by show c.toNat = 95; omega)];rfl
def hexE : Nat → List UInt8 → Int
 | _,[] => 0
 | n,c :: r => match hexD c with
  | none => 0
  | some d => if n * 16 + d < 4294967296 then hexE (n * 16 + d) r else 4294967295
def PuPost (R : Option Nat) (U:Int) (e : Ending) : Prop:=match R with
 | some n => e = .returned (.tuple #[.int .u64 (n:Int),.nilIface])
 | none => ∃ (k:Int),e = .returned (.tuple #[.int .u64 U,.iface 238 (.int .i64 k)])∧(k = 1∨k = 2)
theorem hex0_any (r : List UInt8) (w : World) (hl : r.length ≤ 16000) :
  Calls Tryz.prog 158 #[.string ⟨r.toArray⟩,.int .i64 16,.int .i64 32] w fun e w' => PuPost (hexS r) (hexE 0 r) e∧Below w.heap.size w w':=by
 have hmi : ∀ (k:Int) (w : World),(Instr.makeInterface 238 (.int .i64 k)).run Tryz.prog w = .ok (.iface 238 (.int .i64 k)) w:=fun _ _ => by kernel_rfl
 rcases r with _ | ⟨c0,r0⟩
 ·go_enter Tryz.func158,Tryz.ntmps158;go_wp2_with fail;go_ret2;exact ⟨⟨_,rfl,.inr rfl⟩,Below.refl _ _⟩
 ·obtain ⟨r,hr⟩ : ∃ r,c0 :: r0 = r:=⟨_,rfl⟩;have hpos : 0 < r.length:=(by rw [← hr]; simp);have hS : hexS r = hexF 0 r:=(by rw [← hr]; rfl);rw [hr] at hl ⊢;rw [hS];clear hS hr c0 r0;obtain ⟨R,U,hR⟩ : ∃ R U,(hexF 0 r,hexE 0 r) = (R,U):=⟨_,_,rfl⟩;rw [show hexF 0 r = R from congrArg Prod.fst hR,show hexE 0 r = U from congrArg Prod.snd hR];have HR0:=hid hR;clear hR
  have hne : (r == []) = false := by rcases r with _ | ⟨a, t⟩; · simp at hpos --
                                     · rfl
  obtain ⟨b,hbb⟩ : ∃ b,w.heap.size = b:=⟨_,rfl⟩;have HB:=hid hbb;obtain ⟨c1,w1,hcv,hcell,hb1,hlt1⟩:=bytes_of r w;have hb0 : Below b w w1:=(by rw [← HB.out]; exact hb1);have hbl : b < w1.heap.size:=(by rw [← HB.out]; exact hlt1);rw [hbb] at hcv hcell;have HC:=hid hcell;clear hcell hb1 hlt1 hbb;go_enter Tryz.func158,Tryz.ntmps158;go_wp2_with fail;clear hcv
  go_loopw [12,13,101] (fun us nv i wr => us = .bool false∧∃ (k n:Nat),k ≤ r.length∧i = .int .i64 (k:Int)∧nv = .int .u64 (n:Int)∧n < 4294967296∧Hid ((hexF n (r.drop k),hexE n (r.drop k)) = (R,U))∧wr = w1) (fun _ _ i _ => r.length - (RowKit.intOf i).toNat)
  case atStart => exact ⟨rfl,0,0,Nat.zero_le _,rfl,rfl,by decide,hid (by rw [List.drop_zero]; exact HR0.out),rfl⟩
  case round =>
   obtain ⟨rfl,k,n,hk,rfl,rfl,hn,HR,rfl⟩:=hrel
   by_cases hlt : k < r.length
   ·obtain ⟨c,hc⟩ : ∃ c,r[k]? = some c:=⟨r[k],List.getElem?_eq_getElem hlt⟩;have hcell:=HC.out k c hc;have hdr : r.drop k = c :: r.drop (k + 1):=by
     rw [List.drop_eq_getElem_cons hlt];rw [List.getElem?_eq_getElem hlt] at hc;injection hc with hc;rw [hc]
    have hHR:=HR.out;rw [hdr,hexF,hexE] at hHR;clear hdr hc;have hc256:=c.toNat_lt;have hlo : lo c < 256:=(c ||| 32).toNat_lt;have hbb : Below b w wr:=hb0;have h95 : (lo c:Int) - 97 < 256:=(by omega);rcases hex_kind c with ⟨h1,h2,h3⟩ | ⟨h0,h1,h2,h3⟩ | ⟨h0,h1,h2,h3⟩ | ⟨h0,h1,h3⟩ | ⟨h0,h1,h3⟩
    ·rw [h3] at hHR;have f1 : decide ((48:Int) ≤ (c.toNat:Int)) = true:=(by simp; omega);have f2 : decide ((c.toNat:Int) ≤ 57) = true:=(by simp; omega);have f3 : ((c.toNat:Int) == 95) = false:=(by rw [beq_eq_false_iff_ne]; omega);obtain ⟨d,hd⟩ : ∃ d,c.toNat - 48 = d:=⟨_,rfl⟩;rw [hd] at hHR;have HR2:=hid (show ((if n * 16 + d < 4294967296 then hexF (n * 16 + d) (r.drop (k + 1)) else none),(if n * 16 + d < 4294967296 then hexE (n * 16 + d) (r.drop (k + 1)) else 4294967295)) = (R,U) from hHR);have hd16 : d < 16:=(by omega);have f4 : IntKind.u8.wrap ((c.toNat:Int) - 48) = (d:Int):=(by rw [IntKind.wrap_u8]; omega);have f4' : ((c.toNat:Int) - 48) % 256 = (d:Int):=(by omega);clear hHR HR h1 h2 h3 hd
     -- the digit's value is known
     have f5 : IntKind.u8.wrap 16 = 16:=(by decide);have f6 : decide ((d:Int) ≥ 16) = false:=(by simp; omega);have f7 : IntKind.u64.wrap ((n:Int) * 16) = (n:Int) * 16:=IntWalk.u64_in _ (by omega);have f11 : IntKind.u64.wrap (d:Int) = (d:Int):=IntWalk.u64_in _ (by omega);have f12 : IntKind.u64.wrap ((n:Int) * 16 + (d:Int)) = (n:Int) * 16 + (d:Int):=IntWalk.u64_in _ (by omega);have f13 : decide ((n:Int) ≥ 1152921504606846976) = false:=decide_eq_false (by omega);have f14 : decide ((n:Int) * 16 + (d:Int) < (n:Int) * 16) = false:=decide_eq_false (by omega);have f15 : IntKind.u64.wrap 16 = 16:=by decide
     by_cases hov : n * 16 + d < 4294967296
     ·have HR3:=hid (show (hexF (n * 16 + d) (r.drop (k + 1)),hexE (n * 16 + d) (r.drop (k + 1))) = (R,U) from by rw [← HR2.out,if_pos hov,if_pos hov]);have g1 : decide (((n:Int) * 16 + (d:Int)) > 4294967295) = false:=decide_eq_false (by omega);go_wp2_with fail;go_roundw
      case rel => exact ⟨rfl,k + 1,n * 16 + d,by omega,by go_num,by go_num,hov,HR3,trivial⟩
      case measure => simp [RowKit.intOf]; omega
     ·have HN:=hid (show R = none∧U = 4294967295 from by have h:=HR2.out; rw [if_neg hov,if_neg hov] at h; injection h with h1 h2; exact ⟨h1.symm,h2.symm⟩);have g1 : decide (((n:Int) * 16 + (d:Int)) > 4294967295) = true:=decide_eq_true (by omega);go_wp2_with fail;go_ret2;exact ⟨by rw [HN.out.1,HN.out.2]; exact ⟨_,rfl,.inl rfl⟩,by rw [HB.out]; exact hbb⟩
    ·rw [h3] at hHR;obtain ⟨d,hd⟩ : ∃ d,lo c - 87 = d:=⟨_,rfl⟩;rw [hd] at hHR;have HR2:=hid (show ((if n * 16 + d < 4294967296 then hexF (n * 16 + d) (r.drop (k + 1)) else none),(if n * 16 + d < 4294967296 then hexE (n * 16 + d) (r.drop (k + 1)) else 4294967295)) = (R,U) from hHR);have hd16 : d < 16:=(by omega);have f1 : decide ((97:Int) ≤ (lo c:Int)) = true:=(by simp; omega);have f2 : decide ((lo c:Int) ≤ 122) = true:=(by simp; omega);have f4 : IntKind.u8.wrap ((lo c:Int) - 97) = (lo c:Int) - 97:=(by rw [IntKind.wrap_u8]; omega);have f4' : ((lo c:Int) - 97) % 256 = (lo c:Int) - 97:=(by omega);have f8 : IntKind.u8.wrap ((lo c:Int) - 97 + 10) = (d:Int):=(by rw [IntKind.wrap_u8]; omega);have f8' : ((lo c:Int) - 97 + 10) % 256 = (d:Int):=(by omega);have f3:=ne95 c (by omega);clear hHR HR h1 h2 h3 hd
     by_cases h48 : 48 ≤ c.toNat
     ·have k1 : decide ((48:Int) ≤ (c.toNat:Int)) = true:=(by simp; omega);have k2 : decide ((c.toNat:Int) ≤ 57) = false:=(by simp; omega);clear h0
      -- the digit's value is known
      have f5 : IntKind.u8.wrap 16 = 16:=(by decide);have f6 : decide ((d:Int) ≥ 16) = false:=(by simp; omega);have f7 : IntKind.u64.wrap ((n:Int) * 16) = (n:Int) * 16:=IntWalk.u64_in _ (by omega);have f11 : IntKind.u64.wrap (d:Int) = (d:Int):=IntWalk.u64_in _ (by omega);have f12 : IntKind.u64.wrap ((n:Int) * 16 + (d:Int)) = (n:Int) * 16 + (d:Int):=IntWalk.u64_in _ (by omega);have f13 : decide ((n:Int) ≥ 1152921504606846976) = false:=decide_eq_false (by omega);have f14 : decide ((n:Int) * 16 + (d:Int) < (n:Int) * 16) = false:=decide_eq_false (by omega);have f15 : IntKind.u64.wrap 16 = 16:=by decide
      by_cases hov : n * 16 + d < 4294967296
      ·have HR3:=hid (show (hexF (n * 16 + d) (r.drop (k + 1)),hexE (n * 16 + d) (r.drop (k + 1))) = (R,U) from by rw [← HR2.out,if_pos hov,if_pos hov]);have g1 : decide (((n:Int) * 16 + (d:Int)) > 4294967295) = false:=decide_eq_false (by omega);go_wp2_with fail;refine (lower_any c _).mono ?_;rintro e w2 ⟨rfl,rfl⟩;go_wp2_with fail;refine (lower_any c _).mono ?_;rintro e w2 ⟨rfl,rfl⟩;go_wp2_with fail;refine (lower_any c _).mono ?_;rintro e w2 ⟨rfl,rfl⟩;go_wp2_with fail;go_roundw
       case rel => exact ⟨rfl,k + 1,n * 16 + d,by omega,by go_num,by go_num,hov,HR3,trivial⟩
       case measure => simp [RowKit.intOf]; omega
      ·have HN:=hid (show R = none∧U = 4294967295 from by have h:=HR2.out; rw [if_neg hov,if_neg hov] at h; injection h with h1 h2; exact ⟨h1.symm,h2.symm⟩);have g1 : decide (((n:Int) * 16 + (d:Int)) > 4294967295) = true:=decide_eq_true (by omega);go_wp2_with fail;refine (lower_any c _).mono ?_;rintro e w2 ⟨rfl,rfl⟩;go_wp2_with fail;refine (lower_any c _).mono ?_;rintro e w2 ⟨rfl,rfl⟩;go_wp2_with fail;refine (lower_any c _).mono ?_;rintro e w2 ⟨rfl,rfl⟩;go_wp2_with fail;go_ret2;exact ⟨by rw [HN.out.1,HN.out.2]; exact ⟨_,rfl,.inl rfl⟩,by rw [HB.out]; exact hbb⟩
     ·have k1 : decide ((48:Int) ≤ (c.toNat:Int)) = false:=(by simp; omega);clear h0
      -- the digit's value is known
      have f5 : IntKind.u8.wrap 16 = 16:=(by decide);have f6 : decide ((d:Int) ≥ 16) = false:=(by simp; omega);have f7 : IntKind.u64.wrap ((n:Int) * 16) = (n:Int) * 16:=IntWalk.u64_in _ (by omega);have f11 : IntKind.u64.wrap (d:Int) = (d:Int):=IntWalk.u64_in _ (by omega);have f12 : IntKind.u64.wrap ((n:Int) * 16 + (d:Int)) = (n:Int) * 16 + (d:Int):=IntWalk.u64_in _ (by omega);have f13 : decide ((n:Int) ≥ 1152921504606846976) = false:=decide_eq_false (by omega);have f14 : decide ((n:Int) * 16 + (d:Int) < (n:Int) * 16) = false:=decide_eq_false (by omega);have f15 : IntKind.u64.wrap 16 = 16:=by decide
      by_cases hov : n * 16 + d < 4294967296
      ·have HR3:=hid (show (hexF (n * 16 + d) (r.drop (k + 1)),hexE (n * 16 + d) (r.drop (k + 1))) = (R,U) from by rw [← HR2.out,if_pos hov,if_pos hov]);have g1 : decide (((n:Int) * 16 + (d:Int)) > 4294967295) = false:=decide_eq_false (by omega);go_wp2_with fail;refine (lower_any c _).mono ?_;rintro e w2 ⟨rfl,rfl⟩;go_wp2_with fail;refine (lower_any c _).mono ?_;rintro e w2 ⟨rfl,rfl⟩;go_wp2_with fail;refine (lower_any c _).mono ?_;rintro e w2 ⟨rfl,rfl⟩;go_wp2_with fail;go_roundw
       case rel => exact ⟨rfl,k + 1,n * 16 + d,by omega,by go_num,by go_num,hov,HR3,trivial⟩
       case measure => simp [RowKit.intOf]; omega
      ·have HN:=hid (show R = none∧U = 4294967295 from by have h:=HR2.out; rw [if_neg hov,if_neg hov] at h; injection h with h1 h2; exact ⟨h1.symm,h2.symm⟩);have g1 : decide (((n:Int) * 16 + (d:Int)) > 4294967295) = true:=decide_eq_true (by omega);go_wp2_with fail;refine (lower_any c _).mono ?_;rintro e w2 ⟨rfl,rfl⟩;go_wp2_with fail;refine (lower_any c _).mono ?_;rintro e w2 ⟨rfl,rfl⟩;go_wp2_with fail;refine (lower_any c _).mono ?_;rintro e w2 ⟨rfl,rfl⟩;go_wp2_with fail;go_ret2;exact ⟨by rw [HN.out.1,HN.out.2]; exact ⟨_,rfl,.inl rfl⟩,by rw [HB.out]; exact hbb⟩
    ·rw [h3] at hHR;have HN:=hid (show R = none∧U = 0 from by injection hHR with h1 h2; exact ⟨h1.symm,h2.symm⟩);have f1 : decide ((97:Int) ≤ (lo c:Int)) = true:=(by simp; omega);have f2 : decide ((lo c:Int) ≤ 122) = true:=(by simp; omega);have f4 : IntKind.u8.wrap ((lo c:Int) - 97) = (lo c:Int) - 97:=(by rw [IntKind.wrap_u8]; omega);have f4' : ((lo c:Int) - 97) % 256 = (lo c:Int) - 97:=(by omega);have f8 : IntKind.u8.wrap ((lo c:Int) - 97 + 10) = (lo c:Int) - 97 + 10:=(by rw [IntKind.wrap_u8]; omega);have f8' : ((lo c:Int) - 97 + 10) % 256 = (lo c:Int) - 97 + 10:=(by omega);have f9 : decide ((lo c:Int) - 97 + 10 ≥ 16) = true:=(by simp; omega);have f10 : IntKind.u8.wrap 16 = 16:=(by decide);have f3:=ne95 c (by omega);clear hHR HR h3
     by_cases h48 : 48 ≤ c.toNat
     ·have k1 : decide ((48:Int) ≤ (c.toNat:Int)) = true:=(by simp; omega);have k2 : decide ((c.toNat:Int) ≤ 57) = false:=(by simp; omega);clear h0 h1 h2;go_wp2_with fail;refine (lower_any c _).mono ?_;rintro e w2 ⟨rfl,rfl⟩;go_wp2_with fail;refine (lower_any c _).mono ?_;rintro e w2 ⟨rfl,rfl⟩;go_wp2_with fail;refine (lower_any c _).mono ?_;rintro e w2 ⟨rfl,rfl⟩;go_wp2_with fail;go_ret2;exact ⟨by rw [HN.out.1,HN.out.2]; exact ⟨_,rfl,.inr rfl⟩,by rw [HB.out]; exact hbb⟩
     ·have k1 : decide ((48:Int) ≤ (c.toNat:Int)) = false:=(by simp; omega);clear h0 h1 h2;go_wp2_with fail;refine (lower_any c _).mono ?_;rintro e w2 ⟨rfl,rfl⟩;go_wp2_with fail;refine (lower_any c _).mono ?_;rintro e w2 ⟨rfl,rfl⟩;go_wp2_with fail;refine (lower_any c _).mono ?_;rintro e w2 ⟨rfl,rfl⟩;go_wp2_with fail;go_ret2;exact ⟨by rw [HN.out.1,HN.out.2]; exact ⟨_,rfl,.inr rfl⟩,by rw [HB.out]; exact hbb⟩
    ·rw [h3] at hHR;have HN:=hid (show R = none∧U = 0 from by injection hHR with h1 h2; exact ⟨h1.symm,h2.symm⟩);have f1 : decide ((97:Int) ≤ (lo c:Int)) = false:=(by simp; omega);have f3:=ne95 c (by omega);clear hHR HR h3
     by_cases h48 : 48 ≤ c.toNat
     ·have k1 : decide ((48:Int) ≤ (c.toNat:Int)) = true:=(by simp; omega);have k2 : decide ((c.toNat:Int) ≤ 57) = false:=(by simp; omega);clear h0 h1;go_wp2_with fail;refine (lower_any c _).mono ?_;rintro e w2 ⟨rfl,rfl⟩;go_wp2_with fail;go_ret2;exact ⟨by rw [HN.out.1,HN.out.2]; exact ⟨_,rfl,.inr rfl⟩,by rw [HB.out]; exact hbb⟩
     ·have k1 : decide ((48:Int) ≤ (c.toNat:Int)) = false:=(by simp; omega);clear h0 h1;go_wp2_with fail;refine (lower_any c _).mono ?_;rintro e w2 ⟨rfl,rfl⟩;go_wp2_with fail;go_ret2;exact ⟨by rw [HN.out.1,HN.out.2]; exact ⟨_,rfl,.inr rfl⟩,by rw [HB.out]; exact hbb⟩
    ·rw [h3] at hHR;have HN:=hid (show R = none∧U = 0 from by injection hHR with h1 h2; exact ⟨h1.symm,h2.symm⟩);have f1 : decide ((97:Int) ≤ (lo c:Int)) = true:=(by simp; omega);have f2 : decide ((lo c:Int) ≤ 122) = false:=(by simp; omega);clear hHR HR h3
     by_cases h95 : c = 95
     ·subst h95;go_wp2_with fail;refine (lower_any 95 _).mono ?_;rintro e w2 ⟨rfl,rfl⟩;go_wp2_with fail;refine (lower_any 95 _).mono ?_;rintro e w2 ⟨rfl,rfl⟩;go_wp2_with fail;go_ret2;exact ⟨by rw [HN.out.1,HN.out.2]; exact ⟨_,rfl,.inr rfl⟩,by rw [HB.out]; exact hbb⟩
     have f3 : ((c.toNat:Int) == 95) = false:=by rw [beq_eq_false_iff_ne]; intro e; exact h95 (UInt8.toNat_inj.1 (by show c.toNat = 95; omega))
     by_cases h48 : 48 ≤ c.toNat
     ·have k1 : decide ((48:Int) ≤ (c.toNat:Int)) = true:=(by simp; omega);have k2 : decide ((c.toNat:Int) ≤ 57) = false:=(by simp; omega);clear h0 h1;go_wp2_with fail;refine (lower_any c _).mono ?_;rintro e w2 ⟨rfl,rfl⟩;go_wp2_with fail;refine (lower_any c _).mono ?_;rintro e w2 ⟨rfl,rfl⟩;go_wp2_with fail;go_ret2;exact ⟨by rw [HN.out.1,HN.out.2]; exact ⟨_,rfl,.inr rfl⟩,by rw [HB.out]; exact hbb⟩
     ·have k1 : decide ((48:Int) ≤ (c.toNat:Int)) = false:=(by simp; omega);clear h0 h1;go_wp2_with fail;refine (lower_any c _).mono ?_;rintro e w2 ⟨rfl,rfl⟩;go_wp2_with fail;refine (lower_any c _).mono ?_;rintro e w2 ⟨rfl,rfl⟩;go_wp2_with fail;go_ret2;exact ⟨by rw [HN.out.1,HN.out.2]; exact ⟨_,rfl,.inr rfl⟩,by rw [HB.out]; exact hbb⟩
   ·have hkr : r.drop k = []:=List.drop_of_length_le (by omega);have HN:=hid (show R = some n from by have h:=HR.out; rw [hkr] at h; injection h with h1 h2; exact h1.symm);clear HR hkr;go_wp2_with fail;go_ret2;exact ⟨by rw [HN.out]; rfl,by rw [HB.out]; exact hb0⟩
end Go.Proofs.YtonehlkiackhcaaGreatDoor
