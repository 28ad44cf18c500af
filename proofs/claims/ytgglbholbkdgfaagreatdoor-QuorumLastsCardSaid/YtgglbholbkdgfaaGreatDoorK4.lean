/- Joined texts: BP BI B16 B17 B18. Each has its own head. -/
import Derived.Shelf.Strings.Builder1
import Derived.Shelf.Strings.Builder2
import Derived.Shelf.Small.Bits
import Derived.Shelf.Small.Wraps
import Derived.Shelf.Strings.BuilderF
import Derived.Shelf.Strconv.Itoa0
import Derived.Shelf.Strconv.Itoa1
import Derived.Shelf.LaysM
import Derived.Shelf.Strconv.Itoa2
import Derived.Shelf.Strconv.Itoa3
import Derived.Shelf.Strings.Prefix
import Derived.Shelf.Bits.Mul64
import Derived.Shelf.Strings.Repeat
import Derived.Ground.Names2Prog
import Derived.Shelf.Slices.Clone
import Derived.Shelf.Slices.SearchI
import Derived.Ground.SlgnProg
import Derived.Shelf.SlicesE.Clone
import Derived.Ground.SlgmProg
import Derived.Shelf.SortM.Plain
import Derived.Shelf.SortM.SortNone
import Derived.Shelf.SlIter.Nil
import Derived.Ground.GgzProg
import Derived.Test.YtgglbholbkdgfaaGreatDoorProg
import Derived.StringKeys
import Derived.Deep.RegionHeld3
import Derived.BigQuiet
import Derived.Test.YtgglbholbkdgfaaGreatDoorK3
set_option linter.unusedVariables false
set_option linter.unusedSimpArgs false
namespace Go.Proofs
open Go.Shelf
def Tryz.keys89_ren : Go.Shelf.Ren := ⟨fun | 7 => 89 | 10 => 120 | n => n, fun | 23 => 85 | 26 => 9 | 3 => 109 | 28 => 156 | 0 => 0 | 27 => 155 | 33 => 183 | 4 => 4 | n => n, fun | n => n⟩
theorem Tryz.keys89 : Go.Proofs.SlLaysZ.n7 Tryz.prog Tryz.keys89_ren := {
 mixed := by kernel_rfl
 f7 := ⟨Tryz.f89.name, by decide, Tryz.func89.trans (congrArg some (by kernel_rfl))⟩
 f10 := ⟨Tryz.f120.name, by decide, Tryz.func120.trans (congrArg some (by kernel_rfl))⟩
 t0 := Tryz.underlying0
 a0 := Tryz.isAgg0
 z0 := Tryz.sizeOf0
 v0 := Tryz.zeroValue0
 t4 := Tryz.underlying4
 a4 := Tryz.isAgg4
 z4 := Tryz.sizeOf4
 v4 := Tryz.zeroValue4
 t23 := Tryz.underlying85
 a23 := Tryz.isAgg85
 z23 := Tryz.sizeOf85
 v23 := Tryz.zeroValue85
 t26 := Tryz.underlying9
 a26 := Tryz.isAgg9
 z26 := Tryz.sizeOf9
 v26 := Tryz.zeroValue9
 t27 := Tryz.underlying155
 a27 := Tryz.isAgg155
 z27 := Tryz.sizeOf155
 v27 := Tryz.zeroValue155
 t28 := Tryz.underlying156
 a28 := Tryz.isAgg156
 z28 := Tryz.sizeOf156
 v28 := Tryz.zeroValue156
 t33 := Tryz.underlying183
 a33 := Tryz.isAgg183
 z33 := Tryz.sizeOf183
 v33 := Tryz.zeroValue183 }
def Tryz.sorted88_ren : Go.Shelf.Ren := ⟨fun | 6 => 88 | 8 => 118 | 9 => 119 | 11 => 132 | 13 => 134 | 12 => 133 | 23 => 155 | 24 => 156 | 14 => 146 | 15 => 147 | 16 => 148 | 17 => 149 | 18 => 150 | 19 => 151 | 20 => 152 | 21 => 153 | 22 => 154 | 25 => 162 | 26 => 163 | 27 => 164 | 28 => 165 | 29 => 166 | 30 => 167 | 31 => 174 | n => n, fun | 26 => 9 | 28 => 156 | 24 => 106 | 0 => 0 | 3 => 3 | 37 => 162 | 48 => 62 | 50 => 61 | 4 => 4 | 40 => 210 | 39 => 209 | 45 => 135 | 5 => 5 | 9 => 9 | 51 => 223 | 55 => 153 | 57 => 234 | 58 => 47 | 33 => 183 | n => n, fun | n => n⟩
theorem Tryz.sorted88 : Go.Proofs.SlLaysZ.n6 Tryz.prog Tryz.sorted88_ren := {
 mixed := by kernel_rfl
 f6 := ⟨Tryz.f88.name, by decide, Tryz.func88.trans (congrArg some (by kernel_rfl))⟩
 f8 := ⟨Tryz.f118.name, by decide, Tryz.func118.trans (congrArg some (by kernel_rfl))⟩
 f11 := ⟨Tryz.f132.name, by decide, Tryz.func132.trans (congrArg some (by kernel_rfl))⟩
 t0 := Tryz.underlying0
 a0 := Tryz.isAgg0
 z0 := Tryz.sizeOf0
 v0 := Tryz.zeroValue0
 t24 := Tryz.underlying106
 a24 := Tryz.isAgg106
 z24 := Tryz.sizeOf106
 v24 := Tryz.zeroValue106
 t26 := Tryz.underlying9
 a26 := Tryz.isAgg9
 z26 := Tryz.sizeOf9
 v26 := Tryz.zeroValue9
 t28 := Tryz.underlying156
 a28 := Tryz.isAgg156
 z28 := Tryz.sizeOf156
 v28 := Tryz.zeroValue156
 i26 := by kernel_rfl }
def Tryz.sort119_ren : Go.Shelf.Ren := ⟨fun | 6 => 119 | 8 => 134 | 9 => 133 | 19 => 155 | 20 => 156 | 21 => 146 | 22 => 147 | 23 => 148 | 24 => 149 | 25 => 150 | 26 => 151 | 27 => 152 | 28 => 153 | 29 => 154 | 36 => 162 | 31 => 163 | 32 => 164 | 37 => 165 | 38 => 166 | 39 => 167 | 41 => 174 | n => n, fun | 27 => 106 | 29 => 9 | 3 => 3 | 32 => 162 | 26 => 106 | 0 => 0 | 44 => 62 | 46 => 61 | 4 => 4 | 36 => 210 | 35 => 209 | 41 => 135 | 5 => 5 | 9 => 9 | 53 => 223 | 57 => 153 | 63 => 234 | 64 => 47 | n => n, fun | n => n⟩
theorem Tryz.sort119 : Go.Proofs.SlLaysM.n6 Tryz.prog Tryz.sort119_ren := {
 mixed := by kernel_rfl
 f6 := ⟨Tryz.f119.name, by decide, Tryz.func119.trans (congrArg some (by kernel_rfl))⟩
 f8 := Tryz.func134.trans (congrArg some (by kernel_rfl))
 f9 := ⟨Tryz.f133.name, by decide, Tryz.func133.trans (congrArg some (by kernel_rfl))⟩
 f19 := Tryz.func155.trans (congrArg some (by kernel_rfl))
 f20 := Tryz.func156.trans (congrArg some (by kernel_rfl))
 f21 := ⟨Tryz.f146.name, by decide, Tryz.func146.trans (congrArg some (by kernel_rfl))⟩
 f22 := ⟨Tryz.f147.name, by decide, Tryz.func147.trans (congrArg some (by kernel_rfl))⟩
 f23 := ⟨Tryz.f148.name, by decide, Tryz.func148.trans (congrArg some (by kernel_rfl))⟩
 f24 := ⟨Tryz.f149.name, by decide, Tryz.func149.trans (congrArg some (by kernel_rfl))⟩
 f25 := ⟨Tryz.f150.name, by decide, Tryz.func150.trans (congrArg some (by kernel_rfl))⟩
 f26 := ⟨Tryz.f151.name, by decide, Tryz.func151.trans (congrArg some (by kernel_rfl))⟩
 f27 := ⟨Tryz.f152.name, by decide, Tryz.func152.trans (congrArg some (by kernel_rfl))⟩
 f28 := ⟨Tryz.f153.name, by decide, Tryz.func153.trans (congrArg some (by kernel_rfl))⟩
 f29 := ⟨Tryz.f154.name, by decide, Tryz.func154.trans (congrArg some (by kernel_rfl))⟩
 f31 := Tryz.func163.trans (congrArg some (by kernel_rfl))
 f32 := Tryz.func164.trans (congrArg some (by kernel_rfl))
 f36 := ⟨Tryz.f162.name, by decide, Tryz.func162.trans (congrArg some (by kernel_rfl))⟩
 f37 := ⟨Tryz.f165.name, by decide, Tryz.func165.trans (congrArg some (by kernel_rfl))⟩
 f38 := ⟨Tryz.f166.name, by decide, Tryz.func166.trans (congrArg some (by kernel_rfl))⟩
 f39 := ⟨Tryz.f167.name, by decide, Tryz.func167.trans (congrArg some (by kernel_rfl))⟩
 f41 := ⟨Tryz.f174.name, by decide, Tryz.func174.trans (congrArg some (by kernel_rfl))⟩
 t0 := Tryz.underlying0
 a0 := Tryz.isAgg0
 z0 := Tryz.sizeOf0
 v0 := Tryz.zeroValue0
 t3 := Tryz.underlying3
 a3 := Tryz.isAgg3
 z3 := Tryz.sizeOf3
 v3 := Tryz.zeroValue3
 t4 := Tryz.underlying4
 a4 := Tryz.isAgg4
 z4 := Tryz.sizeOf4
 v4 := Tryz.zeroValue4
 t5 := Tryz.underlying5
 a5 := Tryz.isAgg5
 z5 := Tryz.sizeOf5
 v5 := Tryz.zeroValue5
 t9 := Tryz.underlying9
 a9 := Tryz.isAgg9
 z9 := Tryz.sizeOf9
 v9 := Tryz.zeroValue9
 t26 := Tryz.underlying106
 a26 := Tryz.isAgg106
 z26 := Tryz.sizeOf106
 v26 := Tryz.zeroValue106
 t27 := Tryz.underlying106
 a27 := Tryz.isAgg106
 z27 := Tryz.sizeOf106
 v27 := Tryz.zeroValue106
 t29 := Tryz.underlying9
 a29 := Tryz.isAgg9
 z29 := Tryz.sizeOf9
 v29 := Tryz.zeroValue9
 t32 := Tryz.underlying162
 a32 := Tryz.isAgg162
 z32 := Tryz.sizeOf162
 v32 := Tryz.zeroValue162
 t35 := Tryz.underlying209
 a35 := Tryz.isAgg209
 z35 := Tryz.sizeOf209
 v35 := Tryz.zeroValue209
 t36 := Tryz.underlying210
 a36 := Tryz.isAgg210
 z36 := Tryz.sizeOf210
 v36 := Tryz.zeroValue210
 t41 := Tryz.underlying135
 a41 := Tryz.isAgg135
 z41 := Tryz.sizeOf135
 v41 := Tryz.zeroValue135
 t44 := Tryz.underlying62
 a44 := Tryz.isAgg62
 z44 := Tryz.sizeOf62
 v44 := Tryz.zeroValue62
 t46 := Tryz.underlying61
 a46 := Tryz.isAgg61
 z46 := Tryz.sizeOf61
 v46 := Tryz.zeroValue61
 t53 := Tryz.underlying223
 a53 := Tryz.isAgg223
 z53 := Tryz.sizeOf223
 v53 := Tryz.zeroValue223
 t57 := Tryz.underlying153
 a57 := Tryz.isAgg153
 z57 := Tryz.sizeOf153
 v57 := Tryz.zeroValue153
 t63 := Tryz.underlying234
 a63 := Tryz.isAgg234
 z63 := Tryz.sizeOf234
 v63 := Tryz.zeroValue234
 t64 := Tryz.underlying47
 a64 := Tryz.isAgg47
 z64 := Tryz.sizeOf47
 v64 := Tryz.zeroValue47 }
def Tryz.lays135_ren : Go.Shelf.Ren := ⟨fun | 135 => 106 | n => n, fun | 5 => 5 | 3 => 3 | 9 => 9 | n => n, fun | n => n⟩
theorem Tryz.lays135 : Go.Proofs.Lays.n135 Tryz.prog Tryz.lays135_ren := {
 mixed := by kernel_rfl
 f135 := Tryz.func106.trans (congrArg some (by kernel_rfl))
 t3 := Tryz.underlying3
 a3 := Tryz.isAgg3
 z3 := Tryz.sizeOf3
 v3 := Tryz.zeroValue3
 t5 := Tryz.underlying5
 a5 := Tryz.isAgg5
 z5 := Tryz.sizeOf5
 v5 := Tryz.zeroValue5
 t9 := Tryz.underlying9
 a9 := Tryz.isAgg9
 z9 := Tryz.sizeOf9
 v9 := Tryz.zeroValue9 }
theorem Tryz.bits_OnesCount8 (x : Int) (w : World) (h0 : 0 ≤ x) (h1 : x ≤ 255) :
  Calls Tryz.prog 106 #[.int .u8 x] w fun e w' => e = .returned (.int .i64 (Lib.onesCount x.toNat)) ∧ w' = w := Any.bits_OnesCount8 Tryz.lays135 x w h0 h1
def Tryz.lays103_ren : Go.Shelf.Ren := ⟨fun | 103 => 99 | 210 => 126 | 206 => 137 | n => n, fun | 9 => 9 | 4 => 4 | 24 => 168 | 3 => 3 | n => n, fun | n => n⟩
theorem Tryz.lays103 : Go.Proofs.Lays.n103 Tryz.prog Tryz.lays103_ren := {
 mixed := by kernel_rfl
 f103 := Tryz.func99.trans (congrArg some (by kernel_rfl))
 f206 := Tryz.func137.trans (congrArg some (by kernel_rfl))
 f210 := Tryz.func126.trans (congrArg some (by kernel_rfl))
 t3 := Tryz.underlying3
 a3 := Tryz.isAgg3
 z3 := Tryz.sizeOf3
 v3 := Tryz.zeroValue3
 t4 := Tryz.underlying4
 a4 := Tryz.isAgg4
 z4 := Tryz.sizeOf4
 v4 := Tryz.zeroValue4
 t9 := Tryz.underlying9
 a9 := Tryz.isAgg9
 z9 := Tryz.sizeOf9
 v9 := Tryz.zeroValue9
 t24 := Tryz.underlying168
 a24 := Tryz.isAgg168
 z24 := Tryz.sizeOf168
 v24 := Tryz.zeroValue168 }
open Go.RowKit in
theorem Tryz.strings_CutPrefix (s p : ByteArray) (w : World) :
  Calls Tryz.prog 99 #[.string s, .string p] w fun e w' => e = .returned (.tuple #[.string ⟨(Lib.trimPrefix s.data.toList p.data.toList).toArray⟩, .bool (Lib.hasPrefix s.data.toList p.data.toList)]) ∧ w' = w := Any.strings_CutPrefix Tryz.lays103 s p w
def Tryz.lays171_ren : Go.Shelf.Ren := ⟨fun | 171 => 127 | 243 => 138 | 246 => 157 | 283 => 168 | 284 => 169 | 285 => 170 | 286 => 171 | 129 => 156 | 317 => 175 | 318 => 176 | 319 => 177 | 320 => 178 | 337 => 179 | 338 => 180 | n => n, fun | 3 => 3 | 9 => 9 | 2 => 2 | 4 => 4 | 171 => 228 | 0 => 0 | 53 => 61 | 37 => 35 | 5 => 5 | 173 => 230 | 212 => 238 | 51 => 62 | 20 => 20 | 213 => 239 | 46 => 162 | 232 => 240 | 233 => 241 | n => n, fun | 17 => 0 | 18 => 2 | 19 => 3 | n => n⟩
theorem Tryz.lays171 : Go.Proofs.Lays.n171 Tryz.prog Tryz.lays171_ren := {
 mixed := by kernel_rfl
 f129 := Tryz.func156.trans (congrArg some (by kernel_rfl))
 f171 := Tryz.func127.trans (congrArg some (by kernel_rfl))
 f243 := Tryz.func138.trans (congrArg some (by kernel_rfl))
 f246 := Tryz.func157.trans (congrArg some (by kernel_rfl))
 f283 := Tryz.func168.trans (congrArg some (by kernel_rfl))
 f284 := Tryz.func169.trans (congrArg some (by kernel_rfl))
 f285 := Tryz.func170.trans (congrArg some (by kernel_rfl))
 f286 := Tryz.func171.trans (congrArg some (by kernel_rfl))
 f317 := Tryz.func175.trans (congrArg some (by kernel_rfl))
 f318 := Tryz.func176.trans (congrArg some (by kernel_rfl))
 f319 := Tryz.func177.trans (congrArg some (by kernel_rfl))
 f320 := Tryz.func178.trans (congrArg some (by kernel_rfl))
 f337 := Tryz.func179.trans (congrArg some (by kernel_rfl))
 f338 := Tryz.func180.trans (congrArg some (by kernel_rfl))
 t0 := Tryz.underlying0
 a0 := Tryz.isAgg0
 z0 := Tryz.sizeOf0
 v0 := Tryz.zeroValue0
 t2 := Tryz.underlying2
 a2 := Tryz.isAgg2
 z2 := Tryz.sizeOf2
 v2 := Tryz.zeroValue2
 t3 := Tryz.underlying3
 a3 := Tryz.isAgg3
 z3 := Tryz.sizeOf3
 v3 := Tryz.zeroValue3
 t4 := Tryz.underlying4
 a4 := Tryz.isAgg4
 z4 := Tryz.sizeOf4
 v4 := Tryz.zeroValue4
 t5 := Tryz.underlying5
 a5 := Tryz.isAgg5
 z5 := Tryz.sizeOf5
 v5 := Tryz.zeroValue5
 t9 := Tryz.underlying9
 a9 := Tryz.isAgg9
 z9 := Tryz.sizeOf9
 v9 := Tryz.zeroValue9
 t20 := Tryz.underlying20
 a20 := Tryz.isAgg20
 z20 := Tryz.sizeOf20
 v20 := Tryz.zeroValue20
 t37 := Tryz.underlying35
 a37 := Tryz.isAgg35
 z37 := Tryz.sizeOf35
 v37 := Tryz.zeroValue35
 t46 := Tryz.underlying162
 a46 := Tryz.isAgg162
 z46 := Tryz.sizeOf162
 v46 := Tryz.zeroValue162
 t51 := Tryz.underlying62
 a51 := Tryz.isAgg62
 z51 := Tryz.sizeOf62
 v51 := Tryz.zeroValue62
 t53 := Tryz.underlying61
 a53 := Tryz.isAgg61
 z53 := Tryz.sizeOf61
 v53 := Tryz.zeroValue61
 t171 := Tryz.underlying228
 a171 := Tryz.isAgg228
 z171 := Tryz.sizeOf228
 v171 := Tryz.zeroValue228
 t173 := Tryz.underlying230
 a173 := Tryz.isAgg230
 z173 := Tryz.sizeOf230
 v173 := Tryz.zeroValue230
 t212 := Tryz.underlying238
 a212 := Tryz.isAgg238
 z212 := Tryz.sizeOf238
 v212 := Tryz.zeroValue238
 t213 := Tryz.underlying239
 a213 := Tryz.isAgg239
 z213 := Tryz.sizeOf239
 t232 := Tryz.underlying240
 a232 := Tryz.isAgg240
 z232 := Tryz.sizeOf240
 v232 := Tryz.zeroValue240
 t233 := Tryz.underlying241
 a233 := Tryz.isAgg241
 z233 := Tryz.sizeOf241
 v233 := Tryz.zeroValue241
 g17 := by kernel_rfl
 g18 := by kernel_rfl
 g19 := by kernel_rfl }
open Go.RowKit Go.Sort Go.Lib in
theorem Tryz.strconv_Itoa_small (i : Nat) (hi : i < 100) (w : World) :
  Calls Tryz.prog 127 #[.int .i64 i] w fun e w' => e = .returned (.string ⟨(Lib.decDigits i).toArray⟩) ∧ w' = w := Any.strconv_Itoa_small Tryz.lays171 i hi w
def Tryz.lays105_ren : Go.Shelf.Ren := ⟨fun | 105 => 128 | 212 => 139 | 99 => 140 | 165 => 141 | 166 => 142 | 170 => 143 | 169 => 144 | 263 => 158 | 264 => 159 | 206 => 137 | 240 => 160 | 241 => 161 | 276 => 172 | 277 => 173 | n => n, fun | 9 => 9 | 3 => 3 | 4 => 4 | 20 => 20 | 0 => 0 | 46 => 162 | 109 => 197 | 5 => 5 | 72 => 201 | 76 => 204 | 51 => 62 | 146 => 218 | 53 => 61 | 148 => 220 | 70 => 199 | 37 => 35 | 75 => 203 | 127 => 222 | 164 => 232 | 80 => 206 | n => n, fun | n => n⟩
theorem Tryz.lays105 : Go.Proofs.Lays.n105 Tryz.prog Tryz.lays105_ren := {
 mixed := by kernel_rfl
 f99 := Tryz.func140.trans (congrArg some (by kernel_rfl))
 f105 := Tryz.func128.trans (congrArg some (by kernel_rfl))
 f165 := Tryz.func141.trans (congrArg some (by kernel_rfl))
 f166 := Tryz.func142.trans (congrArg some (by kernel_rfl))
 f169 := Tryz.func144.trans (congrArg some (by kernel_rfl))
 f170 := Tryz.func143.trans (congrArg some (by kernel_rfl))
 f206 := Tryz.func137.trans (congrArg some (by kernel_rfl))
 f212 := Tryz.func139.trans (congrArg some (by kernel_rfl))
 f240 := Tryz.func160.trans (congrArg some (by kernel_rfl))
 f241 := Tryz.func161.trans (congrArg some (by kernel_rfl))
 f263 := Tryz.func158.trans (congrArg some (by kernel_rfl))
 f264 := Tryz.func159.trans (congrArg some (by kernel_rfl))
 f276 := Tryz.func172.trans (congrArg some (by kernel_rfl))
 f277 := Tryz.func173.trans (congrArg some (by kernel_rfl))
 t0 := Tryz.underlying0
 a0 := Tryz.isAgg0
 z0 := Tryz.sizeOf0
 v0 := Tryz.zeroValue0
 t3 := Tryz.underlying3
 a3 := Tryz.isAgg3
 z3 := Tryz.sizeOf3
 v3 := Tryz.zeroValue3
 t4 := Tryz.underlying4
 a4 := Tryz.isAgg4
 z4 := Tryz.sizeOf4
 v4 := Tryz.zeroValue4
 t5 := Tryz.underlying5
 a5 := Tryz.isAgg5
 z5 := Tryz.sizeOf5
 v5 := Tryz.zeroValue5
 t9 := Tryz.underlying9
 a9 := Tryz.isAgg9
 z9 := Tryz.sizeOf9
 v9 := Tryz.zeroValue9
 t20 := Tryz.underlying20
 a20 := Tryz.isAgg20
 z20 := Tryz.sizeOf20
 v20 := Tryz.zeroValue20
 t37 := Tryz.underlying35
 a37 := Tryz.isAgg35
 z37 := Tryz.sizeOf35
 v37 := Tryz.zeroValue35
 t46 := Tryz.underlying162
 a46 := Tryz.isAgg162
 z46 := Tryz.sizeOf162
 v46 := Tryz.zeroValue162
 t51 := Tryz.underlying62
 a51 := Tryz.isAgg62
 z51 := Tryz.sizeOf62
 v51 := Tryz.zeroValue62
 t53 := Tryz.underlying61
 a53 := Tryz.isAgg61
 z53 := Tryz.sizeOf61
 v53 := Tryz.zeroValue61
 t70 := Tryz.underlying199
 a70 := Tryz.isAgg199
 z70 := Tryz.sizeOf199
 v70 := Tryz.zeroValue199
 t72 := Tryz.underlying201
 a72 := Tryz.isAgg201
 z72 := Tryz.sizeOf201
 v72 := Tryz.zeroValue201
 t75 := Tryz.underlying203
 a75 := Tryz.isAgg203
 z75 := Tryz.sizeOf203
 v75 := Tryz.zeroValue203
 t76 := Tryz.underlying204
 a76 := Tryz.isAgg204
 z76 := Tryz.sizeOf204
 v76 := Tryz.zeroValue204
 t109 := Tryz.underlying197
 a109 := Tryz.isAgg197
 z109 := Tryz.sizeOf197
 v109 := Tryz.zeroValue197
 t127 := Tryz.underlying222
 a127 := Tryz.isAgg222
 z127 := Tryz.sizeOf222
 v127 := Tryz.zeroValue222
 t146 := Tryz.underlying218
 a146 := Tryz.isAgg218
 z146 := Tryz.sizeOf218
 v146 := Tryz.zeroValue218
 t148 := Tryz.underlying220
 a148 := Tryz.isAgg220
 z148 := Tryz.sizeOf220
 v148 := Tryz.zeroValue220
 t164 := Tryz.underlying232
 a164 := Tryz.isAgg232
 z164 := Tryz.sizeOf232
 v164 := Tryz.zeroValue232 }
theorem Tryz.Builder_Extra_105 : Builder.Extra Tryz.prog Tryz.lays105_ren := {
 sizeBuilder := by kernel_rfl
 liesBuilder := by kernel_rfl
 t5 := Tryz.underlying5
 a5 := Tryz.isAgg5
 z5 := Tryz.sizeOf5
 v5 := Tryz.zeroValue5
 infoByte := by kernel_rfl
 cellsByte := by kernel_rfl
 sizeByte := by kernel_rfl
 neB5 := by decide }
open Go.RowKit Go.Lib in
theorem Tryz.strings_Repeat (s : ByteArray) (c : Nat) (w : World) (hc : c ≤ 9223372036854775807) (hlen : s.size * c ≤ 140737488355328) :
  Calls Tryz.prog 128 #[.string s, .int .i64 c] w fun e w' => e = .returned (.string ⟨(Lib.repeatL s.data.toList c).toArray⟩) ∧ Below w.heap.size w w' := Any.strings_Repeat Tryz.lays105 Tryz.Builder_Extra_105 s c w hc hlen
def Tryz.laysNm237_ren : Go.Shelf.Ren := ⟨fun | 37 => 129 | n => n, fun | 3 => 3 | 4 => 4 | n => n, fun | n => n⟩
theorem Tryz.laysNm237 : Go.Proofs.Lays2.n37 Tryz.prog Tryz.laysNm237_ren := {
 mixed := by kernel_rfl
 f37 := Tryz.func129.trans (congrArg some (by kernel_rfl))
 t3 := Tryz.underlying3
 a3 := Tryz.isAgg3
 z3 := Tryz.sizeOf3
 v3 := Tryz.zeroValue3
 t4 := Tryz.underlying4
 a4 := Tryz.isAgg4
 z4 := Tryz.sizeOf4
 v4 := Tryz.zeroValue4 }
open Go.RowKit Go.Lib in
theorem Tryz.cmp_isNaN_int2 (x : Int) (w : World) :
  Calls Tryz.prog 129 #[.int .i64 x] w fun e w' => e = .returned (.bool false) ∧ w' = w := Any.cmp_isNaN_int2 Tryz.laysNm237 x w
def Tryz.laysSlM6_f119_ren : Go.Shelf.Ren := ⟨fun | 6 => 119 | 8 => 134 | 9 => 133 | 19 => 155 | 20 => 156 | 21 => 146 | 22 => 147 | 23 => 148 | 24 => 149 | 25 => 150 | 26 => 151 | 27 => 152 | 28 => 153 | 29 => 154 | 36 => 162 | 31 => 163 | 32 => 164 | 37 => 165 | 38 => 166 | 39 => 167 | 41 => 174 | n => n, fun | 27 => 106 | 29 => 9 | 3 => 3 | 32 => 162 | 26 => 106 | 0 => 0 | 44 => 62 | 46 => 61 | 4 => 4 | 36 => 210 | 35 => 209 | 41 => 135 | 5 => 5 | 9 => 9 | 53 => 223 | 57 => 153 | 63 => 234 | 64 => 47 | n => n, fun | n => n⟩
theorem Tryz.laysSlM6_f119 : Go.Proofs.SlLaysM.n6 Tryz.prog Tryz.laysSlM6_f119_ren := {
 mixed := by kernel_rfl
 f6 := ⟨Tryz.f119.name, by decide, Tryz.func119.trans (congrArg some (by kernel_rfl))⟩
 f8 := Tryz.func134.trans (congrArg some (by kernel_rfl))
 f9 := ⟨Tryz.f133.name, by decide, Tryz.func133.trans (congrArg some (by kernel_rfl))⟩
 f19 := Tryz.func155.trans (congrArg some (by kernel_rfl))
 f20 := Tryz.func156.trans (congrArg some (by kernel_rfl))
 f21 := ⟨Tryz.f146.name, by decide, Tryz.func146.trans (congrArg some (by kernel_rfl))⟩
 f22 := ⟨Tryz.f147.name, by decide, Tryz.func147.trans (congrArg some (by kernel_rfl))⟩
 f23 := ⟨Tryz.f148.name, by decide, Tryz.func148.trans (congrArg some (by kernel_rfl))⟩
 f24 := ⟨Tryz.f149.name, by decide, Tryz.func149.trans (congrArg some (by kernel_rfl))⟩
 f25 := ⟨Tryz.f150.name, by decide, Tryz.func150.trans (congrArg some (by kernel_rfl))⟩
 f26 := ⟨Tryz.f151.name, by decide, Tryz.func151.trans (congrArg some (by kernel_rfl))⟩
 f27 := ⟨Tryz.f152.name, by decide, Tryz.func152.trans (congrArg some (by kernel_rfl))⟩
 f28 := ⟨Tryz.f153.name, by decide, Tryz.func153.trans (congrArg some (by kernel_rfl))⟩
 f29 := ⟨Tryz.f154.name, by decide, Tryz.func154.trans (congrArg some (by kernel_rfl))⟩
 f31 := Tryz.func163.trans (congrArg some (by kernel_rfl))
 f32 := Tryz.func164.trans (congrArg some (by kernel_rfl))
 f36 := ⟨Tryz.f162.name, by decide, Tryz.func162.trans (congrArg some (by kernel_rfl))⟩
 f37 := ⟨Tryz.f165.name, by decide, Tryz.func165.trans (congrArg some (by kernel_rfl))⟩
 f38 := ⟨Tryz.f166.name, by decide, Tryz.func166.trans (congrArg some (by kernel_rfl))⟩
 f39 := ⟨Tryz.f167.name, by decide, Tryz.func167.trans (congrArg some (by kernel_rfl))⟩
 f41 := ⟨Tryz.f174.name, by decide, Tryz.func174.trans (congrArg some (by kernel_rfl))⟩
 t0 := Tryz.underlying0
 a0 := Tryz.isAgg0
 z0 := Tryz.sizeOf0
 v0 := Tryz.zeroValue0
 t3 := Tryz.underlying3
 a3 := Tryz.isAgg3
 z3 := Tryz.sizeOf3
 v3 := Tryz.zeroValue3
 t4 := Tryz.underlying4
 a4 := Tryz.isAgg4
 z4 := Tryz.sizeOf4
 v4 := Tryz.zeroValue4
 t5 := Tryz.underlying5
 a5 := Tryz.isAgg5
 z5 := Tryz.sizeOf5
 v5 := Tryz.zeroValue5
 t9 := Tryz.underlying9
 a9 := Tryz.isAgg9
 z9 := Tryz.sizeOf9
 v9 := Tryz.zeroValue9
 t26 := Tryz.underlying106
 a26 := Tryz.isAgg106
 z26 := Tryz.sizeOf106
 v26 := Tryz.zeroValue106
 t27 := Tryz.underlying106
 a27 := Tryz.isAgg106
 z27 := Tryz.sizeOf106
 v27 := Tryz.zeroValue106
 t29 := Tryz.underlying9
 a29 := Tryz.isAgg9
 z29 := Tryz.sizeOf9
 v29 := Tryz.zeroValue9
 t32 := Tryz.underlying162
 a32 := Tryz.isAgg162
 z32 := Tryz.sizeOf162
 v32 := Tryz.zeroValue162
 t35 := Tryz.underlying209
 a35 := Tryz.isAgg209
 z35 := Tryz.sizeOf209
 v35 := Tryz.zeroValue209
 t36 := Tryz.underlying210
 a36 := Tryz.isAgg210
 z36 := Tryz.sizeOf210
 v36 := Tryz.zeroValue210
 t41 := Tryz.underlying135
 a41 := Tryz.isAgg135
 z41 := Tryz.sizeOf135
 v41 := Tryz.zeroValue135
 t44 := Tryz.underlying62
 a44 := Tryz.isAgg62
 z44 := Tryz.sizeOf62
 v44 := Tryz.zeroValue62
 t46 := Tryz.underlying61
 a46 := Tryz.isAgg61
 z46 := Tryz.sizeOf61
 v46 := Tryz.zeroValue61
 t53 := Tryz.underlying223
 a53 := Tryz.isAgg223
 z53 := Tryz.sizeOf223
 v53 := Tryz.zeroValue223
 t57 := Tryz.underlying153
 a57 := Tryz.isAgg153
 z57 := Tryz.sizeOf153
 v57 := Tryz.zeroValue153
 t63 := Tryz.underlying234
 a63 := Tryz.isAgg234
 z63 := Tryz.sizeOf234
 v63 := Tryz.zeroValue234
 t64 := Tryz.underlying47
 a64 := Tryz.isAgg47
 z64 := Tryz.sizeOf47
 v64 := Tryz.zeroValue47 }
open Go.Sort Go.RowKit in
theorem Tryz.slices_Sort_string (blk off cap : Nat) (ss : List (List UInt8)) (w : World) (hH : Holds encStr w blk off ss.toArray) (hblk : blk < w.heap.size) (hsz : ss.length < 4611686018427387904) :
  Calls Tryz.prog 119 #[.slice (some ⟨blk, off, none⟩) ss.length cap] w fun e w' =>
   e = .returned (.tuple #[]) ∧ ∃ n os, w' = grow (putRow encStr (Sort.ahead w n) blk off (ss.mergeSort fun x y => decide (x ≤ y)).toArray) os := AnyM.slices_Sort_string Tryz.laysSlM6_f119 blk off cap ss w hH hblk hsz
open Go.RowKit Go.Sort in
theorem Tryz.slices_Sort_string_none (p : Option Addr) (cap : Nat) (w : World) :
  Calls Tryz.prog 119 #[.slice p 0 cap] w fun e w' => e = .returned (.tuple #[]) ∧ w' = w := AnyM.slices_Sort_string_none Tryz.laysSlM6_f119 p cap w
end Go.Proofs
namespace Go.Proofs
open Go.RowKit Go.Maps Go.Sort Go.Shelf
theorem Tryz.sorts88 (m : Nat) : AnyZ.SortsIn Tryz.prog Tryz.sorted88_ren Fence.wide m :=
  ⟨fun blk off cap ss W hH hblk hsz => callsIn_wide.2 (AnyM.slices_Sort_string Tryz.sort119 blk off cap ss W hH hblk hsz),
   fun p cap W => callsIn_wide.2 (AnyM.slices_Sort_string_none Tryz.sort119 p cap W)⟩
theorem Tryz.maps_Keys_89 (mb : Option Nat) (W : World) : CallsIn Fence.wide 5 Tryz.prog 89 #[.map mb] W fun e w' => e = .returned (.func (.func 120) #[] #[.pointer (some ⟨W.heap.size, 0, none⟩)]) ∧ w' = W.alloc (.cells #[.map mb] 85) :=
 AnyZ.keys_in Tryz.keys89 Fence.wide 5 trivial rfl mb W
set_option maxHeartbeats 1000000 in
theorem Tryz.slices_Sorted_keys_88_89 {H : Type} (b nn : Nat) (D0 : DataW H) (R : Value → Option (DataW H × List MemPlace)) (w : World) (hown : w.ownsMap Tryz.prog 9 R b nn D0) (hmax : Maps.size D0 ≤ maxLen) (hbytes : Maps.size D0 * 16 ≤ 140737488355328) :
  CallsIn Fence.wide 5 Tryz.prog 88 #[.func (.func 120) #[] #[.pointer (some ⟨w.heap.size, 0, none⟩)]] (w.alloc (.cells #[.map (some b)] 85)) fun e w' => ∃ (v : Value) (ss : List (List UInt8)), e = .returned v ∧ ss.Perm (strKeys D0) ∧
   w'.ownsRow (w.alloc (.cells #[.map (some b)] 85)).heap.size 9 1 v ss.length ((ss.mergeSort (fun x y => decide (x ≤ y))).map encStr) ∧ (v = .slice none 0 0 ↔ ss = []) ∧ Below (w.alloc (.cells #[.map (some b)] 85)).heap.size (w.alloc (.cells #[.map (some b)] 85)) w' := by
 have hbl := hown.lt
 have hseq : SeqGives Fence.wide 2 Tryz.prog 120 #[.pointer (some ⟨w.heap.size, 0, none⟩)] encStr (fun ss => ss.Perm (strKeys D0)) (Maps.size D0) (w.alloc (.cells #[.map (some b)] 85)) :=
  AnyZ.keys_gives (ρ := Tryz.keys89_ren) { Tryz.keys89 with } Fence.wide _ trivial rfl (by omega) w.heap.size b nn D0 _ (by simp) (by simp) (by
   obtain ⟨es, clock, hb, Ft, hs, hD⟩ := hown
   exact ⟨es, clock, (Below.heap_alloc _ _ b hbl).trans hb, Ft, hs, hD⟩)
 exact AnyZ.sorted_in Tryz.sorted88 Fence.wide 5 trivial trivial trivial trivial rfl (by omega) (Tryz.sorts88 _) (enters_of Tryz.func119 (by kernel_rfl) rfl) 120 #[.pointer (some ⟨w.heap.size, 0, none⟩)] trivial (enters_of Tryz.func120 (by kernel_rfl) rfl) _ _ hmax hbytes _ hseq
set_option maxHeartbeats 1000000 in
theorem Tryz.slices_Sorted_keys_nil_88_89 (w : World) :
  CallsIn Fence.wide 5 Tryz.prog 88 #[.func (.func 120) #[] #[.pointer (some ⟨w.heap.size, 0, none⟩)]] (w.alloc (.cells #[.map none] 85)) fun e w' => ∃ (v : Value) (ss : List (List UInt8)), e = .returned v ∧ ss = [] ∧
   w'.ownsRow (w.alloc (.cells #[.map none] 85)).heap.size 9 1 v ss.length ((ss.mergeSort (fun x y => decide (x ≤ y))).map encStr) ∧ (v = .slice none 0 0 ↔ ss = []) ∧ Below (w.alloc (.cells #[.map none] 85)).heap.size (w.alloc (.cells #[.map none] 85)) w' := by
 have hseq : SeqGives Fence.wide 2 Tryz.prog 120 #[.pointer (some ⟨w.heap.size, 0, none⟩)] encStr (fun ss : List (List UInt8) => ss = []) 0 (w.alloc (.cells #[.map none] 85)) :=
  AnyZ.keys_gives_nil (ρ := Tryz.keys89_ren) { Tryz.keys89 with } Fence.wide _ trivial rfl w.heap.size _ (by simp) (by simp)
 exact AnyZ.sorted_in Tryz.sorted88 Fence.wide 5 trivial trivial trivial trivial rfl (by omega) (Tryz.sorts88 _) (enters_of Tryz.func119 (by kernel_rfl) rfl) 120 #[.pointer (some ⟨w.heap.size, 0, none⟩)] trivial (enters_of Tryz.func120 (by kernel_rfl) rfl) _ 0 (Nat.zero_le _) (by omega) _ hseq
end Go.Proofs
namespace Go.Proofs.YtgglbholbkdgfaaGreatDoor
open Go.RowKit
theorem dec_enc (l : List UInt8) (h : l.length ≤ 1048576) : dec (enc l) = (l, l.length + 8, 0) := by
 have h1 : (enc l).take 4 = be 4 l.length := by
  unfold enc
  rw [List.append_assoc, List.take_append_of_le_length (by simp [be_length]), List.take_of_length_le (by simp [be_length])]
 have h2 : (enc l).drop 4 = be 4 (crc (be 4 l.length ++ l)) ++ l := by
  unfold enc
  rw [List.append_assoc, List.drop_append_of_le_length (by simp [be_length]), List.drop_of_length_le (by simp [be_length]), List.nil_append]
 have h3 : ((enc l).drop 4).take 4 = be 4 (crc (be 4 l.length ++ l)) := by
  rw [h2, List.take_append_of_le_length (by simp [be_length]), List.take_of_length_le (by simp [be_length])]
 have h4 : (enc l).drop 8 = l := by
  have : (enc l).drop 8 = ((enc l).drop 4).drop 4 := by rw [List.drop_drop]
  rw [this, h2, List.drop_append_of_le_length (by simp [be_length]), List.drop_of_length_le (by simp [be_length]), List.nil_append]
 unfold dec
 rw [h1, h3, h4, beV_be4 _ (by omega), beV_be4 _ (crc_lt _), enc_length, if_neg (by omega), if_neg (by omega), if_neg (by omega), List.take_length]
 rw [if_pos rfl, Nat.add_comm 8]
set_option maxRecDepth 100000 in
set_option maxHeartbeats 400000 in
theorem Load_none (d : Nat) (F : Nat → Prop) (D : PDisk) (s : ByteArray) (w : World) (hd : DiskIs w d F D) (hs : fsGet D.files s = none) :
  Calls Tryz.prog 36 #[.pointer (some ⟨d, 0, none⟩), .string s] w fun e w' => e = .returned (.tuple #[.slice none 0 0, .int .i64 7]) ∧ Ext NoB w w' := by
 have hr := Lib.hid (Read_none d F D s w hd hs)
 clear hd hs
 go_enter Tryz.func36, Tryz.ntmps36
 go_wp2_with fail
 refine hr.out.mono ?_; rintro e w1 ⟨rfl, x1⟩
 go_wp2_with fail
 go_ret2
 exact ⟨rfl, x1⟩
set_option maxRecDepth 100000 in
set_option maxHeartbeats 400000 in
theorem Load_ok (d : Nat) (F : Nat → Prop) (D : PDisk) (s : ByteArray) (w : World) (hd : DiskIs w d F D) (l : List UInt8) (lasts : Nat) (hl : l.length ≤ 1048576) (hs : fsGet D.files s = some ⟨enc l, lasts⟩) :
  Calls Tryz.prog 36 #[.pointer (some ⟨d, 0, none⟩), .string s] w fun e w' => ∃ v, e = .returned (.tuple #[v, .int .i64 0]) ∧ Own w' 5 1 v (bytesV l) ∧ Fresh w v ∧ Ext NoB w w' := by
 have hr := Lib.hid (Read_some d F D s w hd _ hs)
 clear hd hs
 have hlen := enc_length l
 have hne : ((l.length + 8 : Nat) : Int) ≠ ((enc l).length : Int) ↔ False := by rw [hlen]; simp
 go_enter Tryz.func36, Tryz.ntmps36
 go_wp2_with fail
 refine hr.out.mono ?_; rintro e w1 ⟨v1, rfl, o1, f1, x1⟩
 obtain ⟨a, c, rfl, hn, hcm⟩ := RdB.shape (l := enc l) o1.rd
 go_wp2_with fail
 refine (Decode_any _ (enc l) w1 o1.rd (by omega)).mono ?_
 rintro e w2 ⟨v2, rfl, o2, f2, x2⟩
 rw [dec_enc l hl] at o2 ⊢
 simp only at o2 ⊢
 rw [← hlen]
 have hO := Lib.hid o2
 clear o2 hlen hne
 go_wp2_with fail
 go_ret2
 exact ⟨v2, rfl, hO.out, f2.mono x1.size, x1.trans x2⟩
set_option maxRecDepth 100000 in
set_option maxHeartbeats 400000 in
theorem List_none (d : Nat) (F : Nat → Prop) (room : Nat) (w : World) (hd : DiskAt w d F room none []) :
  Calls Tryz.prog 51 #[.pointer (some ⟨d, 0, none⟩)] w fun e w' => e = .returned (.slice none 0 0) ∧ Ext NoB w w' := by
 have hc : w.cell? ⟨d, 2, none⟩ = some (.map none) := by rw [cell_of_blk hd.blk]; rfl
 have hk := Lib.hid (callsIn_wide.1 (Tryz.maps_Keys_89 none w))
 have hs := Lib.hid (callsIn_wide.1 (Tryz.slices_Sorted_keys_nil_88_89 w))
 clear hd
 go_enter Tryz.func51, Tryz.ntmps51
 go_wp2_with fail
 refine hk.out.mono ?_; rintro e w1 ⟨rfl, rfl⟩
 go_wp2_with fail
 refine hs.out.mono ?_; rintro e w2 ⟨v, ss, rfl, rfl, _, h2, h3⟩
 obtain rfl := h2.2 rfl
 go_wp2_with fail
 go_ret
 exact ⟨rfl, ((Ext.refl _ w).alloc _).trans (Ext.of_below h3)⟩
end Go.Proofs.YtgglbholbkdgfaaGreatDoor
namespace Go.Proofs.YtgglbholbkdgfaaGreatDoor
open Go.RowKit Go.MapKept Go.WideElems Go.WideShapes
def names (fs : List (ByteArray × PFile)) : List (List UInt8) := (fs.map (fun p => p.1.data.toList)).mergeSort (fun x y => decide (x ≤ y))
def anyR : Value → Option (DataW Unit × List MemPlace) := fun _ => some (.nil, [])
theorem insert_all_perm {H : Type} (l : List (Lit × DataW H)) : (l.foldr DataW.insert []).Perm l := by
 induction l with
 | nil => exact .refl _
 | cons x l ih => exact (insert_perm x _).trans (ih.cons x)
theorem kv_strKeys {es : Array MapEntry} {kv : List (ByteArray × Value)} (he : es.toList.map (fun e => (e.key, e.val)) = kv.map (fun p => (Value.string p.1, p.2))) (hk : ∀ p ∈ kv, p.1.size ≤ 64) :
  (∀ x ∈ es.toList, ∃ y, rd Tryz.prog 9 anyR x = some y) ∧ (strKeys (DataW.map ((es.toList.map (rg Tryz.prog 9 anyR)).foldr DataW.insert []))).Perm (kv.map (fun p => p.1.data.toList)) := by
 have h1 : ∀ x ∈ es.toList, ∃ p ∈ kv, x.key = .string p.1 := by
  intro x hx
  have : (x.key, x.val) ∈ kv.map (fun p => (Value.string p.1, p.2)) := by rw [← he]; exact List.mem_map.2 ⟨x, hx, rfl⟩
  obtain ⟨p, hp, e⟩ := List.mem_map.1 this
  exact ⟨p, hp, by simpa using (congrArg (·.1) e).symm⟩
 have h2 : ∀ x ∈ es.toList, ∀ p ∈ kv, x.key = .string p.1 → rd Tryz.prog 9 anyR x = some (.string p.1.data.toList, .nil) := by
  intro x hx p hp e
  unfold rd
  rw [e, Go.WideMaps.keyOf_string_mk unString (by have := hk p hp; unfold maxLen; omega)]
  rfl
 refine ⟨fun x hx => ?_, ?_⟩
 ·obtain ⟨p, hp, e⟩ := h1 x hx
  exact ⟨_, h2 x hx p hp e⟩
 ·have h3 : es.toList.map (rg Tryz.prog 9 anyR) = kv.map (fun p => ((.string p.1.data.toList, .nil) : Lit × DataW Unit)) := by
   have h4 : es.toList.map (rg Tryz.prog 9 anyR) = (es.toList.map (fun e => (e.key, e.val))).map (fun q => match q.1 with | .string s => (.string s.data.toList, .nil) | _ => (.bool false, .nil)) := by
    rw [List.map_map]
    apply List.map_congr_left
    intro x hx
    obtain ⟨p, hp, e⟩ := h1 x hx
    simp only [Function.comp]
    unfold rg
    rw [h2 x hx p hp e, e]
    rfl
   rw [h4, he, List.map_map]
   rfl
  show ((List.foldr DataW.insert [] _).map fun p => strOf p.1).Perm _
  refine ((insert_all_perm _).map _).trans ?_
  rw [h3, List.map_map]
  exact .refl _
def NamesEnds (fs : List (ByteArray × PFile)) (w : World) (e : Ending) (w' : World) : Prop :=
 ∃ v, e = .returned v ∧ Own w' 9 1 v ((names fs).map encStr) ∧ Fresh w v ∧ Ext NoB w w'
theorem own_of_row {w : World} {base : Nat} {e n : Nat} {v : Value} {xs : List Value} (h : w.ownsRow base e 1 v n xs) : Own w e 1 v xs ∧ ∀ g, v.ownBlock = some g → base ≤ g := by
 obtain ⟨h1, h2 | ⟨g, cap, cur, rfl, h2, h3, h4, h5, h6, h7⟩⟩ := h
 ·obtain ⟨rfl, rfl⟩ := h2
  have : xs = [] := List.eq_nil_of_length_eq_zero (by simpa using h1)
  exact ⟨.inl ⟨rfl, this⟩, fun g hg => by cases hg⟩
 ·exact ⟨.inr ⟨g, n, cap, cur, rfl, h3, h4, by omega, h5, h1, h7⟩, fun g' hg => by simp [Value.ownBlock] at hg; omega⟩
set_option maxRecDepth 100000 in
set_option maxHeartbeats 400000 in
theorem List_any (d : Nat) (F : Nat → Prop) (D : PDisk) (w : World) (hd : DiskIs w d F D) :
  Calls Tryz.prog 51 #[.pointer (some ⟨d, 0, none⟩)] w (NamesEnds D.files w) := by
 obtain ⟨mo, rs, hd, he⟩ := hd
 rcases hd.map with ⟨rfl, rfl⟩ | ⟨m, rfl, _, hm⟩
 ·refine (List_none d F D.room w hd).mono ?_
  rintro e w' ⟨h1, h2⟩
  refine ⟨_, h1, ?_, Fresh.nil _ _ _, h2⟩
  rw [he]
  simp only [names, List.map_nil, List.mergeSort_nil]
  exact Own.nil _ _ _
 ·have hcount := hd.count
  have hnames := hd.names
  have hc : w.cell? ⟨d, 2, none⟩ = some (.map (some m)) := by rw [cell_of_blk hd.blk]; rfl
  obtain ⟨es, clock, hb, hst, hkv⟩ := hm
  have hsz : es.size = rs.length := by have := MapIs.len hkv; simpa using this
  obtain ⟨k1, k2⟩ := kv_strKeys hkv (fun p hp => by
   obtain ⟨r, hr, rfl⟩ := List.mem_map.1 hp
   exact (hnames r hr).2)
  have hown : w.ownsMap Tryz.prog 9 anyR m rs.length (.map ((es.toList.map (rg Tryz.prog 9 anyR)).foldr DataW.insert [])) :=
   ⟨es, clock, hb, ⟨by unfold maxLen; omega, hst, k1⟩, by omega, rfl⟩
  have hD : Maps.size (DataW.map ((es.toList.map (rg Tryz.prog 9 anyR)).foldr DataW.insert [])) = rs.length := by
   show List.length _ = _
   rw [(insert_all_perm _).length_eq]
   simpa using hsz
  have hk := Lib.hid (callsIn_wide.1 (Tryz.maps_Keys_89 (some m) w))
  have hs := Lib.hid (callsIn_wide.1 (Tryz.slices_Sorted_keys_88_89 m rs.length _ anyR w hown (by rw [hD]; unfold maxLen; omega) (by rw [hD]; omega)))
  have hp : (strKeys (DataW.map ((es.toList.map (rg Tryz.prog 9 anyR)).foldr DataW.insert []))).Perm (D.files.map (fun p => p.1.data.toList)) := by
   refine k2.trans ?_
   rw [he, List.map_map, List.map_map]
   exact .refl _
  have Hp := Lib.hid hp
  clear hd hown hD k1 k2 hkv hst hb hnames hp he
  go_enter Tryz.func51, Tryz.ntmps51
  go_wp2_with fail
  refine hk.out.mono ?_; rintro e w1 ⟨rfl, rfl⟩
  go_wp2_with fail
  refine hs.out.mono ?_; rintro e w2 ⟨v, ss, rfl, h1, h2, h3, h4⟩
  obtain ⟨o2, f2⟩ := own_of_row h2
  have hv : ∃ a n c, v = .slice a n c := by
   rcases o2 with ⟨h, _⟩ | ⟨g, n, cap, cur, h, _⟩
   ·exact ⟨_, _, _, h⟩
   ·exact ⟨_, _, _, h⟩
  obtain ⟨a, n, c, rfl⟩ := hv
  have H1 := Lib.hid h1
  have H2 := Lib.hid o2
  have H3 := Lib.hid f2
  clear h1 h2 o2 f2 h3
  go_wp2_with fail
  go_ret
  refine ⟨_, rfl, ?_, fun g hg => Nat.le_trans (by simp) (H3.out g hg), ((Ext.refl _ w).alloc _).trans (Ext.of_below h4)⟩
  unfold names
  rw [mergeSort_of_perm (Hp.out.symm.trans H1.out.symm)]
  exact H2.out
end Go.Proofs.YtgglbholbkdgfaaGreatDoor
namespace Go.Proofs.YtgglbholbkdgfaaGreatDoor
open Go.RowKit
abbrev dot : ByteArray := { data := #[46] }
abbrev zeroS : ByteArray := { data := #[48] }
def segName (pre : ByteArray) (n : Nat) : ByteArray :=
 ((pre ++ dot) ++ ⟨(Lib.repeatL zeroS.data.toList (8 - (Lib.decDigits n).length)).toArray⟩) ++ ⟨(Lib.decDigits n).toArray⟩
theorem digits_small (i : Nat) (h : i < 100) : (Lib.decDigits i).length ≤ 2 ∧ 1 ≤ (Lib.decDigits i).length := by
 rw [Lib.decDigits]
 split
 ·simp
 ·rw [Lib.decDigits, dif_pos (by omega)]; simp
set_option maxRecDepth 100000 in
set_option maxHeartbeats 400000 in
theorem name_any (L : Nat) (pre : ByteArray) (n : Nat) (w : World) (hn : n < 100) (hpl : pre.size ≤ 64) (hp : w.cell? ⟨L, 1, none⟩ = some (.string pre)) :
  Calls Tryz.prog 100 #[.pointer (some ⟨L, 0, none⟩), .int .i64 n] w fun e w' => e = .returned (.string (segName pre n)) ∧ Ext NoB w w' := by
 have hd := digits_small n hn
 have hw : IntKind.i64.wrap (8 - ((Lib.decDigits n).length : Int)) = ((8 - (Lib.decDigits n).length : Nat) : Int) := by
  rw [IntWalk.i64_in _ (by omega)]; omega
 have hr := fun w => Lib.hid (Tryz.strings_Repeat zeroS (8 - (Lib.decDigits n).length) w (by omega) (by
  have : zeroS.size = 1 := rfl
  rw [this]; omega))
 have hrl : (⟨(Lib.repeatL zeroS.data.toList (8 - (Lib.decDigits n).length)).toArray⟩ : ByteArray).size ≤ 8 := by
  show (List.toArray _).size ≤ 8
  rw [List.size_toArray, Lib.repeatL_length]
  have : zeroS.data.toList.length = 1 := rfl
  rw [this]; omega
 have hdl : (⟨(Lib.decDigits n).toArray⟩ : ByteArray).size ≤ 2 := by
  show (List.toArray _).size ≤ 2
  rw [List.size_toArray]; omega
 have hdot : dot.size = 1 := rfl
 have k1 := fun w : World => run_string_add_sum (P := Tryz.prog) (w := w) pre dot (by omega)
 have k2 := fun w : World => run_string_add_sum (P := Tryz.prog) (w := w) (pre ++ dot) ⟨(Lib.repeatL zeroS.data.toList (8 - (Lib.decDigits n).length)).toArray⟩ (by rw [ByteArray.size_append]; omega)
 have k3 := fun w : World => run_string_add_sum (P := Tryz.prog) (w := w) ((pre ++ dot) ++ ⟨(Lib.repeatL zeroS.data.toList (8 - (Lib.decDigits n).length)).toArray⟩) ⟨(Lib.decDigits n).toArray⟩ (by rw [ByteArray.size_append, ByteArray.size_append]; omega)
 clear hrl hdl hdot hd hpl
 go_enter Tryz.func100, Tryz.ntmps100
 go_wp2_with fail
 refine (Tryz.strconv_Itoa_small n hn w).mono ?_; rintro e w1 ⟨rfl, hw1⟩; rw [hw1]
 go_wp2_with fail
 go_region_held3 (fun w' => w'.cell? ⟨L, 1, none⟩ = some (.string pre) ∧ Ext NoB w w') (refine And.intro ?_ ?_ <;> first | assumption | exact (Ext.refl _ _).drew | go_keep)
  (first | (go_at_call 128; refine (hr _).out.mono ?_; rintro e w2 ⟨rfl, x2⟩; have y2 : Ext NoB w w2 := ((Ext.refl NoB w).drew).trans (Ext.of_below x2); have z2 := y2.cell hp (fun h => h)))
 go_wp2_with fail
 go_ret
 exact ⟨rfl, y2⟩
end Go.Proofs.YtgglbholbkdgfaaGreatDoor
