/- Texts of this claim. -/
import Derived.Test.YtdhbkifpodekcaaGreatDoorRows
import Derived.Shelf.LaysC
import Derived.Shelf.LaysM
import Derived.Shelf.Small.Strs
import Derived.Shelf.Strconv.Atoi
import Derived.Shelf.Strconv.AtoiAll
import Derived.Shelf.Strconv.AtoiErrFast
import Derived.Shelf.Strconv.AtoiFail
import Derived.Shelf.Strconv.AtoiInnerAll
import Derived.Shelf.Strconv.AtoiLong
import Derived.Shelf.Strconv.Clone
import Derived.Shelf.Strconv.ErrVarAll
import Derived.Shelf.Strconv.Itoa0
import Derived.Shelf.Strconv.Itoa1
import Derived.Shelf.Strconv.Itoa2
import Derived.Shelf.Strconv.Itoa3
import Derived.Shelf.Strconv.Lower
import Derived.Shelf.Strconv.ParseInt10
import Derived.Shelf.Strconv.ParseIntEmpty
import Derived.Shelf.Strconv.ParseUint10
import Derived.Shelf.Strconv.ParseUint10Any
import Derived.Shelf.Strconv.ParseUint10Empty
import Derived.Shelf.Strconv.RangeError
import Derived.Shelf.Strconv.SyntaxError
import Derived.Shelf.Strconv.ToError
import Derived.Shelf.Strconv.ToErrorRange
import Derived.Shelf.Strings.Builder1
import Derived.Shelf.Strings.BuilderF
import Derived.Shelf.Strings.BuilderK
import Derived.Shelf.Strings.Count
import Derived.Shelf.Strings.Cut
import Derived.Shelf.Strings.Explode
import Derived.Shelf.Strings.LastIndex
import Derived.Shelf.Strings.LastIndexAll
import Derived.Shelf.Strings.RuneCount
import Derived.Shelf.Strings.Search1
import Derived.Shelf.Strings.Search2
import Derived.Shelf.Strings.Search3
import Derived.Shelf.Strings.Shaped
import Derived.Shelf.Strings.Split
import Derived.Shelf.Strings.SplitShaped
import Derived.Shelf.Unicode.Decode
import Derived.Shelf.Unicode.DecodeAny
import Derived.Shelf.Unicode.DecodeSlow
import Derived.Shelf.Utf8.RuneCount
namespace Go.Proofs.YtdhbkifpodekcaaGreatDoor
open Go.Shelf Go.Proofs
set_option maxRecDepth 100000
def Sh.lays166_ren:Go.Shelf.Ren:=⟨fun | 166=>12 | 240=>20 | 276=>33 | n=>n,fun | 0=>0 | 3=>3 | 4=>4 | 5=>5 | 9=>9 | 20=>20 | 37=>42 | 70=>41 | 72=>44 | 75=>46 | 80=>51 | 164=>78 | n=>n,fun | n=>n⟩
theorem Sh.lays166:Go.Proofs.Lays.n166 Tryz.prog Sh.lays166_ren:={
  mixed:=by kernel_rfl
  f166:=Tryz.func12.trans (congrArg some (by kernel_rfl))
  f240:=Tryz.func20.trans (congrArg some (by kernel_rfl))
  f276:=Tryz.func33.trans (congrArg some (by kernel_rfl))
  t0:=Tryz.underlying0
  a0:=Tryz.isAgg0
  z0:=Tryz.sizeOf0
  v0:=Tryz.zeroValue0
  t3:=Tryz.underlying3
  a3:=Tryz.isAgg3
  z3:=Tryz.sizeOf3
  v3:=Tryz.zeroValue3
  t4:=Tryz.underlying4
  a4:=Tryz.isAgg4
  z4:=Tryz.sizeOf4
  v4:=Tryz.zeroValue4
  t9:=Tryz.underlying9
  a9:=Tryz.isAgg9
  z9:=Tryz.sizeOf9
  v9:=Tryz.zeroValue9
  t20:=Tryz.underlying20
  a20:=Tryz.isAgg20
  z20:=Tryz.sizeOf20
  v20:=Tryz.zeroValue20
  t37:=Tryz.underlying42
  a37:=Tryz.isAgg42
  z37:=Tryz.sizeOf42
  v37:=Tryz.zeroValue42
  t70:=Tryz.underlying41
  a70:=Tryz.isAgg41
  z70:=Tryz.sizeOf41
  v70:=Tryz.zeroValue41
  t72:=Tryz.underlying44
  a72:=Tryz.isAgg44
  z72:=Tryz.sizeOf44
  v72:=Tryz.zeroValue44
  t75:=Tryz.underlying46
  a75:=Tryz.isAgg46
  z75:=Tryz.sizeOf46
  v75:=Tryz.zeroValue46
  t164:=Tryz.underlying78
  a164:=Tryz.isAgg78
  z164:=Tryz.sizeOf78
  v164:=Tryz.zeroValue78 }
theorem Sh.Builder_Extra_166:Builder.Extra Tryz.prog Sh.lays166_ren:={
  sizeBuilder:=by kernel_rfl
  liesBuilder:=by kernel_rfl
  t5:=Tryz.underlying5
  a5:=Tryz.isAgg5
  z5:=Tryz.sizeOf5
  v5:=Tryz.zeroValue5
  infoByte:=by kernel_rfl
  cellsByte:=by kernel_rfl
  sizeByte:=by kernel_rfl
  neB5:=by decide }
open Go.RowKit in
theorem Sh.Builder_WriteString_k (B b:Nat) (bs:List Value) (s:ByteArray) (w:World) (h:Lib.IsBuilderF 44 5 B b bs w) (hlen:bs.length+s.size≤140737488355328) (hBw:B≤w.heap.size) :
    Calls Tryz.prog 12 #[.pointer (some ⟨b,0,none⟩),.string s] w fun e w'=>e=.returned (.tuple #[.int .i64 s.size,.nilIface])∧(Lib.BuilderAtF 44 5 B b (.pointer (some ⟨b,0,none⟩)) (bs++Lib.strCells s) w'∧Below B w w'∧Lib.OthersKept 5 (some b) w w'):=Any.Builder_WriteString_k Sh.lays166 Sh.Builder_Extra_166 B b bs s w h hlen hBw
def Sh.lays169_ren:Go.Shelf.Ren:=⟨fun | 169=>15 | n=>n,fun | 70=>41 | 9=>9 | 0=>0 | 72=>44 | 37=>42 | 127=>75 | 3=>3 | 5=>5 | n=>n,fun | n=>n⟩
theorem Sh.lays169:Go.Proofs.Lays.n169 Tryz.prog Sh.lays169_ren:={
  mixed:=by kernel_rfl
  f169:=Tryz.func15.trans (congrArg some (by kernel_rfl))
  t0:=Tryz.underlying0
  a0:=Tryz.isAgg0
  z0:=Tryz.sizeOf0
  v0:=Tryz.zeroValue0
  t3:=Tryz.underlying3
  a3:=Tryz.isAgg3
  z3:=Tryz.sizeOf3
  v3:=Tryz.zeroValue3
  t9:=Tryz.underlying9
  a9:=Tryz.isAgg9
  z9:=Tryz.sizeOf9
  v9:=Tryz.zeroValue9
  t37:=Tryz.underlying42
  a37:=Tryz.isAgg42
  z37:=Tryz.sizeOf42
  v37:=Tryz.zeroValue42
  t70:=Tryz.underlying41
  a70:=Tryz.isAgg41
  z70:=Tryz.sizeOf41
  v70:=Tryz.zeroValue41
  t72:=Tryz.underlying44
  a72:=Tryz.isAgg44
  z72:=Tryz.sizeOf44
  v72:=Tryz.zeroValue44
  t127:=Tryz.underlying75
  a127:=Tryz.isAgg75
  z127:=Tryz.sizeOf75
  v127:=Tryz.zeroValue75 }
theorem Sh.Builder_Extra_169:Builder.Extra Tryz.prog Sh.lays169_ren:={
  sizeBuilder:=by kernel_rfl
  liesBuilder:=by kernel_rfl
  t5:=Tryz.underlying5
  a5:=Tryz.isAgg5
  z5:=Tryz.sizeOf5
  v5:=Tryz.zeroValue5
  infoByte:=by kernel_rfl
  cellsByte:=by kernel_rfl
  sizeByte:=by kernel_rfl
  neB5:=by decide }
open Go.RowKit in
open Go.RowKit in
theorem Sh.Builder_String_any_k (B b:Nat) (l:List UInt8) (w:World) (h:Lib.IsBuilderF 44 5 B b (Lib.byteCells l) w) (hBw:B≤w.heap.size) :
    Calls Tryz.prog 15 #[.pointer (some ⟨b,0,none⟩)] w fun e w'=>e=.returned (.string ⟨l.toArray⟩)∧(Lib.IsBuilderF 44 5 B b (Lib.byteCells l) w'∧Below B w w'∧Lib.OthersKept 5 (some b) w w'):=Any.Builder_String_any_k Sh.lays169 Sh.Builder_Extra_169 B b l w h hBw
def Sh.laysM171_ren:Go.Shelf.Ren:=⟨fun | 171=>22 | 243=>34 | 246=>90 | 283=>149 | 284=>150 | 285=>151 | 286=>152 | 129=>180 | 317=>179 | 318=>181 | 319=>182 | 320=>183 | 337=>199 | 338=>200 | n=>n,fun | 3=>3 | 9=>9 | 2=>2 | 4=>4 | 171=>178 | 0=>0 | 53=>55 | 37=>42 | 5=>5 | 173=>181 | 212=>211 | 51=>203 | 20=>20 | 213=>212 | 46=>177 | 232=>234 | 233=>235 | n=>n,fun | 17=>4 | 18=>7 | 19=>8 | n=>n⟩
theorem Sh.laysM171:Go.Proofs.LaysM.n171 Tryz.prog Sh.laysM171_ren:={
  mixed:=by kernel_rfl
  f129:=Tryz.func180.trans (congrArg some (by kernel_rfl))
  f171:=Tryz.func22.trans (congrArg some (by kernel_rfl))
  f243:=Tryz.func34.trans (congrArg some (by kernel_rfl))
  f246:=Tryz.func90.trans (congrArg some (by kernel_rfl))
  f283:=Tryz.func149.trans (congrArg some (by kernel_rfl))
  f284:=Tryz.func150.trans (congrArg some (by kernel_rfl))
  f285:=Tryz.func151.trans (congrArg some (by kernel_rfl))
  f286:=Tryz.func152.trans (congrArg some (by kernel_rfl))
  f317:=Tryz.func179.trans (congrArg some (by kernel_rfl))
  f318:=Tryz.func181.trans (congrArg some (by kernel_rfl))
  f319:=Tryz.func182.trans (congrArg some (by kernel_rfl))
  f320:=Tryz.func183.trans (congrArg some (by kernel_rfl))
  f337:=Tryz.func199.trans (congrArg some (by kernel_rfl))
  f338:=Tryz.func200.trans (congrArg some (by kernel_rfl))
  t0:=Tryz.underlying0
  a0:=Tryz.isAgg0
  z0:=Tryz.sizeOf0
  v0:=Tryz.zeroValue0
  t2:=Tryz.underlying2
  a2:=Tryz.isAgg2
  z2:=Tryz.sizeOf2
  v2:=Tryz.zeroValue2
  t3:=Tryz.underlying3
  a3:=Tryz.isAgg3
  z3:=Tryz.sizeOf3
  v3:=Tryz.zeroValue3
  t4:=Tryz.underlying4
  a4:=Tryz.isAgg4
  z4:=Tryz.sizeOf4
  v4:=Tryz.zeroValue4
  t5:=Tryz.underlying5
  a5:=Tryz.isAgg5
  z5:=Tryz.sizeOf5
  v5:=Tryz.zeroValue5
  t9:=Tryz.underlying9
  a9:=Tryz.isAgg9
  z9:=Tryz.sizeOf9
  v9:=Tryz.zeroValue9
  t20:=Tryz.underlying20
  a20:=Tryz.isAgg20
  z20:=Tryz.sizeOf20
  v20:=Tryz.zeroValue20
  t37:=Tryz.underlying42
  a37:=Tryz.isAgg42
  z37:=Tryz.sizeOf42
  v37:=Tryz.zeroValue42
  t46:=Tryz.underlying177
  a46:=Tryz.isAgg177
  z46:=Tryz.sizeOf177
  v46:=Tryz.zeroValue177
  t51:=Tryz.underlying203
  a51:=Tryz.isAgg203
  z51:=Tryz.sizeOf203
  v51:=Tryz.zeroValue203
  t53:=Tryz.underlying55
  a53:=Tryz.isAgg55
  z53:=Tryz.sizeOf55
  v53:=Tryz.zeroValue55
  t171:=Tryz.underlying178
  a171:=Tryz.isAgg178
  z171:=Tryz.sizeOf178
  v171:=Tryz.zeroValue178
  t173:=Tryz.underlying181
  a173:=Tryz.isAgg181
  z173:=Tryz.sizeOf181
  v173:=Tryz.zeroValue181
  t212:=Tryz.underlying211
  a212:=Tryz.isAgg211
  z212:=Tryz.sizeOf211
  v212:=Tryz.zeroValue211
  t213:=Tryz.underlying212
  a213:=Tryz.isAgg212
  z213:=Tryz.sizeOf212
  t232:=Tryz.underlying234
  a232:=Tryz.isAgg234
  z232:=Tryz.sizeOf234
  v232:=Tryz.zeroValue234
  t233:=Tryz.underlying235
  a233:=Tryz.isAgg235
  z233:=Tryz.sizeOf235
  v233:=Tryz.zeroValue235
  g17:=by kernel_rfl
  g18:=by kernel_rfl
  g19:=by kernel_rfl
  i0:=by kernel_rfl
  i2:=by kernel_rfl
  i3:=by kernel_rfl
  i4:=by kernel_rfl
  i5:=by kernel_rfl
  i9:=by kernel_rfl
  i20:=by kernel_rfl
  i37:=by kernel_rfl
  i46:=by kernel_rfl
  i51:=by kernel_rfl
  i53:=by kernel_rfl
  i171:=by kernel_rfl
  i173:=by kernel_rfl
  i212:=by kernel_rfl
  i232:=by kernel_rfl
  i233:=by kernel_rfl
  m17:=by kernel_rfl
  m18:=by kernel_rfl
  m19:=by kernel_rfl }
open Go.RowKit Go.Sort Go.Lib in
theorem Sh.strconv_Itoa (n : Int) (h0 : -9223372036854775808 ≤ n) (h1 : n ≤ 9223372036854775807) (w : World) (htab : Lib.TabIs Tryz.prog w "internal/strconv.uint64pow10" .u64 Lib.pow10Tab) :
    Calls Tryz.prog 22 #[.int .i64 n] w fun e w' => e = .returned (.string ⟨(Lib.itoa n).toArray⟩) ∧ ∃ k os, w' = grow (w.drewN k) os := Any.strconv_Itoa Sh.laysM171 n h0 h1 w htab
def Sh.laysC172_ren:Go.Shelf.Ren:=⟨fun | 172=>111 | 244=>156 | 245=>157 | 247=>186 | 279=>187 | 280=>188 | 281=>189 | 282=>190 | 287=>202 | 316=>203 | 171=>22 | 205=>204 | 321=>208 | 322=>209 | 243=>34 | 246=>90 | 283=>149 | 284=>150 | 285=>151 | 286=>152 | 129=>180 | 317=>179 | 318=>181 | 319=>182 | 320=>183 | 337=>199 | 338=>200 | n=>n,fun | 9=>9 | 3=>3 | 75=>46 | 76=>47 | 4=>4 | 5=>5 | 167=>216 | 37=>42 | 0=>0 | 85=>217 | 2=>2 | 168=>219 | 53=>55 | 175=>228 | 46=>177 | 210=>231 | 127=>75 | 145=>239 | 143=>237 | 21=>21 | 171=>178 | 173=>181 | 212=>211 | 51=>203 | 20=>20 | 213=>212 | 232=>234 | 233=>235 | 80=>51 | n=>n,fun | 15=>5 | 16=>6 | 17=>4 | 18=>7 | 19=>8 | n=>n⟩
theorem Sh.laysC172:Go.Proofs.LaysC.n172 Tryz.prog Sh.laysC172_ren:={
  mixed:=by kernel_rfl
  f129:=Tryz.func180.trans (congrArg some (by kernel_rfl))
  f171:=Tryz.func22.trans (congrArg some (by kernel_rfl))
  f172:=Tryz.func111.trans (congrArg some (by kernel_rfl))
  f205:=Tryz.func204.trans (congrArg some (by kernel_rfl))
  f243:=Tryz.func34.trans (congrArg some (by kernel_rfl))
  f244:=Tryz.func156.trans (congrArg some (by kernel_rfl))
  f245:=Tryz.func157.trans (congrArg some (by kernel_rfl))
  f246:=Tryz.func90.trans (congrArg some (by kernel_rfl))
  f247:=Tryz.func186.trans (congrArg some (by kernel_rfl))
  f279:=Tryz.func187.trans (congrArg some (by kernel_rfl))
  f280:=Tryz.func188.trans (congrArg some (by kernel_rfl))
  f281:=Tryz.func189.trans (congrArg some (by kernel_rfl))
  f282:=Tryz.func190.trans (congrArg some (by kernel_rfl))
  f283:=Tryz.func149.trans (congrArg some (by kernel_rfl))
  f284:=Tryz.func150.trans (congrArg some (by kernel_rfl))
  f285:=Tryz.func151.trans (congrArg some (by kernel_rfl))
  f286:=Tryz.func152.trans (congrArg some (by kernel_rfl))
  f287:=Tryz.func202.trans (congrArg some (by kernel_rfl))
  f316:=Tryz.func203.trans (congrArg some (by kernel_rfl))
  f317:=Tryz.func179.trans (congrArg some (by kernel_rfl))
  f318:=Tryz.func181.trans (congrArg some (by kernel_rfl))
  f319:=Tryz.func182.trans (congrArg some (by kernel_rfl))
  f320:=Tryz.func183.trans (congrArg some (by kernel_rfl))
  f321:=Tryz.func208.trans (congrArg some (by kernel_rfl))
  f322:=Tryz.func209.trans (congrArg some (by kernel_rfl))
  f337:=Tryz.func199.trans (congrArg some (by kernel_rfl))
  f338:=Tryz.func200.trans (congrArg some (by kernel_rfl))
  t0:=Tryz.underlying0
  a0:=Tryz.isAgg0
  z0:=Tryz.sizeOf0
  v0:=Tryz.zeroValue0
  t2:=Tryz.underlying2
  a2:=Tryz.isAgg2
  z2:=Tryz.sizeOf2
  v2:=Tryz.zeroValue2
  t3:=Tryz.underlying3
  a3:=Tryz.isAgg3
  z3:=Tryz.sizeOf3
  v3:=Tryz.zeroValue3
  t4:=Tryz.underlying4
  a4:=Tryz.isAgg4
  z4:=Tryz.sizeOf4
  v4:=Tryz.zeroValue4
  t5:=Tryz.underlying5
  a5:=Tryz.isAgg5
  z5:=Tryz.sizeOf5
  v5:=Tryz.zeroValue5
  t9:=Tryz.underlying9
  a9:=Tryz.isAgg9
  z9:=Tryz.sizeOf9
  v9:=Tryz.zeroValue9
  t20:=Tryz.underlying20
  a20:=Tryz.isAgg20
  z20:=Tryz.sizeOf20
  v20:=Tryz.zeroValue20
  t21:=Tryz.underlying21
  a21:=Tryz.isAgg21
  z21:=Tryz.sizeOf21
  v21:=Tryz.zeroValue21
  t37:=Tryz.underlying42
  a37:=Tryz.isAgg42
  z37:=Tryz.sizeOf42
  v37:=Tryz.zeroValue42
  t46:=Tryz.underlying177
  a46:=Tryz.isAgg177
  z46:=Tryz.sizeOf177
  v46:=Tryz.zeroValue177
  t51:=Tryz.underlying203
  a51:=Tryz.isAgg203
  z51:=Tryz.sizeOf203
  v51:=Tryz.zeroValue203
  t53:=Tryz.underlying55
  a53:=Tryz.isAgg55
  z53:=Tryz.sizeOf55
  v53:=Tryz.zeroValue55
  t75:=Tryz.underlying46
  a75:=Tryz.isAgg46
  z75:=Tryz.sizeOf46
  v75:=Tryz.zeroValue46
  t76:=Tryz.underlying47
  a76:=Tryz.isAgg47
  z76:=Tryz.sizeOf47
  v76:=Tryz.zeroValue47
  t85:=Tryz.underlying217
  a85:=Tryz.isAgg217
  z85:=Tryz.sizeOf217
  v85:=Tryz.zeroValue217
  t127:=Tryz.underlying75
  a127:=Tryz.isAgg75
  z127:=Tryz.sizeOf75
  v127:=Tryz.zeroValue75
  t143:=Tryz.underlying237
  a143:=Tryz.isAgg237
  z143:=Tryz.sizeOf237
  v143:=Tryz.zeroValue237
  t145:=Tryz.underlying239
  a145:=Tryz.isAgg239
  z145:=Tryz.sizeOf239
  v145:=Tryz.zeroValue239
  t167:=Tryz.underlying216
  a167:=Tryz.isAgg216
  z167:=Tryz.sizeOf216
  v167:=Tryz.zeroValue216
  t168:=Tryz.underlying219
  a168:=Tryz.isAgg219
  z168:=Tryz.sizeOf219
  v168:=Tryz.zeroValue219
  t171:=Tryz.underlying178
  a171:=Tryz.isAgg178
  z171:=Tryz.sizeOf178
  v171:=Tryz.zeroValue178
  t173:=Tryz.underlying181
  a173:=Tryz.isAgg181
  z173:=Tryz.sizeOf181
  v173:=Tryz.zeroValue181
  t175:=Tryz.underlying228
  a175:=Tryz.isAgg228
  z175:=Tryz.sizeOf228
  v175:=Tryz.zeroValue228
  t210:=Tryz.underlying231
  a210:=Tryz.isAgg231
  z210:=Tryz.sizeOf231
  v210:=Tryz.zeroValue231
  t212:=Tryz.underlying211
  a212:=Tryz.isAgg211
  z212:=Tryz.sizeOf211
  v212:=Tryz.zeroValue211
  t213:=Tryz.underlying212
  a213:=Tryz.isAgg212
  z213:=Tryz.sizeOf212
  t232:=Tryz.underlying234
  a232:=Tryz.isAgg234
  z232:=Tryz.sizeOf234
  v232:=Tryz.zeroValue234
  t233:=Tryz.underlying235
  a233:=Tryz.isAgg235
  z233:=Tryz.sizeOf235
  v233:=Tryz.zeroValue235
  g15:=by kernel_rfl
  g16:=by kernel_rfl
  g17:=by kernel_rfl
  g18:=by kernel_rfl
  g19:=by kernel_rfl
  t80:=Tryz.underlying51
  a80:=Tryz.isAgg51
  z80:=Tryz.sizeOf51
  v80:=Tryz.zeroValue51
  i0:=by kernel_rfl
  i2:=by kernel_rfl
  i3:=by kernel_rfl
  i4:=by kernel_rfl
  i5:=by kernel_rfl
  i9:=by kernel_rfl
  i20:=by kernel_rfl
  i21:=by kernel_rfl
  i37:=by kernel_rfl
  i46:=by kernel_rfl
  i51:=by kernel_rfl
  i53:=by kernel_rfl
  i75:=by kernel_rfl
  i76:=by kernel_rfl
  i80:=by kernel_rfl
  i85:=by kernel_rfl
  i127:=by kernel_rfl
  i143:=by kernel_rfl
  i145:=by kernel_rfl
  i167:=by kernel_rfl
  i168:=by kernel_rfl
  i171:=by kernel_rfl
  i173:=by kernel_rfl
  i175:=by kernel_rfl
  i210:=by kernel_rfl
  i212:=by kernel_rfl
  i232:=by kernel_rfl
  i233:=by kernel_rfl
  m15:=by kernel_rfl
  m16:=by kernel_rfl
  m17:=by kernel_rfl
  m18:=by kernel_rfl
  m19:=by kernel_rfl
  c0:=by kernel_rfl
  c2:=by kernel_rfl
  c3:=by kernel_rfl
  c4:=by kernel_rfl
  c5:=by kernel_rfl
  c9:=by kernel_rfl
  c20:=by kernel_rfl
  c21:=by kernel_rfl
  c37:=by kernel_rfl
  c46:=by kernel_rfl
  c51:=by kernel_rfl
  c53:=by kernel_rfl
  c75:=by kernel_rfl
  c76:=by kernel_rfl
  c80:=by kernel_rfl
  c85:=by kernel_rfl
  c127:=by kernel_rfl
  c143:=by kernel_rfl
  c145:=by kernel_rfl
  c167:=by kernel_rfl
  c168:=by kernel_rfl
  c171:=by kernel_rfl
  c173:=by kernel_rfl
  c175:=by kernel_rfl
  c210:=by kernel_rfl
  c212:=by kernel_rfl
  c213:=by kernel_rfl
  c232:=by kernel_rfl
  c233:=by kernel_rfl }
open Go.RowKit in
theorem Sh.strconv_Atoi_ok (s:ByteArray) (hmax:s.size≤9223372036854775806) (v:Int) (h:Lib.atoiAll s.data.toList=.ok v) (w:World) :
    Calls Tryz.prog 111 #[.string s] w fun e w'=>e=.returned (.tuple #[.int .i64 v,.nilIface])∧(w'=w∨∃ t,w'=Lib.bytesWorld w 5 t):=Any.strconv_Atoi_ok Sh.laysC172 s hmax v h w
open Go.RowKit in
theorem Sh.strconv_Atoi_syntax_var (s : ByteArray) (hlim : s.size ≤ 281474976710656) (h : Lib.atoiAll s.data.toList = Lib.atoiAll []) (tp : TypeId) (p : Value) (w : World) (hvar : w.var? Tryz.prog "strconv.ErrSyntax" = some #[.iface tp p]) :
    Calls Tryz.prog 111 #[.string s] w fun e w' => ∃ N, e = .returned (.tuple #[.int .i64 0, .iface 219 (.pointer (some ⟨N, 0, none⟩))]) ∧ w.heap.size ≤ N ∧ w'.heap[N]? = some (.cells #[.string ⟨#[65, 116, 111, 105]⟩, .string s, .iface tp p] 231 (0, 0)) ∧ Below w.heap.size w w' := Any.strconv_Atoi_syntax_var Sh.laysC172 s hlim (h.trans (by rfl)) tp p w hvar
open Go.RowKit in
theorem Sh.strconv_Atoi_range_var (s : ByteArray) (hlim : s.size ≤ 281474976710656) (h : Lib.atoiAll s.data.toList = .range) (tp : TypeId) (p : Value) (w : World) (hvar : w.var? Tryz.prog "strconv.ErrRange" = some #[.iface tp p]) :
    Calls Tryz.prog 111 #[.string s] w fun e w' => ∃ N, e = .returned (.tuple #[.int .i64 (Lib.atoiSat s.data.toList), .iface 219 (.pointer (some ⟨N, 0, none⟩))]) ∧ w.heap.size ≤ N ∧ w'.heap[N]? = some (.cells #[.string ⟨#[65, 116, 111, 105]⟩, .string s, .iface tp p] 231 (0, 0)) ∧ Below w.heap.size w w' := Any.strconv_Atoi_range_var Sh.laysC172 s hlim h tp p w hvar
def Sh.lays145_ren:Go.Shelf.Ren:=⟨fun | 145=>16 | 220=>28 | 219=>85 | 217=>144 | 225=>145 | 224=>146 | 267=>147 | 266=>177 | 314=>178 | n=>n,fun | 9=>9 | 4=>4 | 59=>52 | 3=>3 | 5=>5 | 46=>177 | 146=>204 | 51=>203 | n=>n,fun | 1=>0 | n=>n⟩
theorem Sh.lays145:Go.Proofs.Lays.n145 Tryz.prog Sh.lays145_ren:={
  mixed:=by kernel_rfl
  f145:=Tryz.func16.trans (congrArg some (by kernel_rfl))
  f217:=Tryz.func144.trans (congrArg some (by kernel_rfl))
  f219:=Tryz.func85.trans (congrArg some (by kernel_rfl))
  f220:=Tryz.func28.trans (congrArg some (by kernel_rfl))
  f224:=Tryz.func146.trans (congrArg some (by kernel_rfl))
  f225:=Tryz.func145.trans (congrArg some (by kernel_rfl))
  f266:=Tryz.func177.trans (congrArg some (by kernel_rfl))
  f267:=Tryz.func147.trans (congrArg some (by kernel_rfl))
  f314:=Tryz.func178.trans (congrArg some (by kernel_rfl))
  t3:=Tryz.underlying3
  a3:=Tryz.isAgg3
  z3:=Tryz.sizeOf3
  v3:=Tryz.zeroValue3
  t4:=Tryz.underlying4
  a4:=Tryz.isAgg4
  z4:=Tryz.sizeOf4
  v4:=Tryz.zeroValue4
  t5:=Tryz.underlying5
  a5:=Tryz.isAgg5
  z5:=Tryz.sizeOf5
  v5:=Tryz.zeroValue5
  t9:=Tryz.underlying9
  a9:=Tryz.isAgg9
  z9:=Tryz.sizeOf9
  v9:=Tryz.zeroValue9
  t46:=Tryz.underlying177
  a46:=Tryz.isAgg177
  z46:=Tryz.sizeOf177
  v46:=Tryz.zeroValue177
  t51:=Tryz.underlying203
  a51:=Tryz.isAgg203
  z51:=Tryz.sizeOf203
  v51:=Tryz.zeroValue203
  t59:=Tryz.underlying52
  a59:=Tryz.isAgg52
  z59:=Tryz.sizeOf52
  v59:=Tryz.zeroValue52
  t146:=Tryz.underlying204
  a146:=Tryz.isAgg204
  z146:=Tryz.sizeOf204
  v146:=Tryz.zeroValue204
  g1:=by kernel_rfl }
open Go.RowKit Go.Lib in
theorem Sh.strings_Cut (s sep:ByteArray) (m:Int) (w:World) (hs:s.size < 4294967281) (hm:w.cell? ⟨0,0,none⟩=some (.int .i64 m)) :
    Calls Tryz.prog 16 #[.string s,.string sep] w fun e w'=>e=.returned (.tuple #[.string ⟨(Lib.cut s.data.toList sep.data.toList).1.toArray⟩,.string ⟨(Lib.cut s.data.toList sep.data.toList).2.1.toArray⟩,.bool (Lib.cut s.data.toList sep.data.toList).2.2])∧∃ n,w'=w.drewN n:=Any.strings_Cut Sh.lays145 s sep m w hs hm
open Go.RowKit Go.Lib in
def Sh.lays146_ren:Go.Shelf.Ren:=⟨fun | 146=>11 | 221=>17 | 268=>29 | 138=>30 | 143=>31 | 195=>86 | 197=>87 | 218=>88 | 219=>85 | 260=>148 | 217=>144 | 225=>145 | 224=>146 | 267=>147 | 266=>177 | 314=>178 | n=>n,fun | 9=>9 | 31=>26 | 3=>3 | 4=>4 | 0=>0 | 105=>124 | 21=>21 | 5=>5 | 46=>177 | 119=>206 | 139=>209 | 138=>208 | 146=>204 | 51=>203 | n=>n,fun | 1=>0 | 3=>2 | 4=>3 | n=>n⟩
theorem Sh.lays146:Go.Proofs.Lays.n146 Tryz.prog Sh.lays146_ren:={
  mixed:=by kernel_rfl
  f138:=Tryz.func30.trans (congrArg some (by kernel_rfl))
  f143:=Tryz.func31.trans (congrArg some (by kernel_rfl))
  f146:=Tryz.func11.trans (congrArg some (by kernel_rfl))
  f195:=Tryz.func86.trans (congrArg some (by kernel_rfl))
  f197:=Tryz.func87.trans (congrArg some (by kernel_rfl))
  f217:=Tryz.func144.trans (congrArg some (by kernel_rfl))
  f218:=Tryz.func88.trans (congrArg some (by kernel_rfl))
  f219:=Tryz.func85.trans (congrArg some (by kernel_rfl))
  f221:=Tryz.func17.trans (congrArg some (by kernel_rfl))
  f224:=Tryz.func146.trans (congrArg some (by kernel_rfl))
  f225:=Tryz.func145.trans (congrArg some (by kernel_rfl))
  f260:=Tryz.func148.trans (congrArg some (by kernel_rfl))
  f266:=Tryz.func177.trans (congrArg some (by kernel_rfl))
  f267:=Tryz.func147.trans (congrArg some (by kernel_rfl))
  f268:=Tryz.func29.trans (congrArg some (by kernel_rfl))
  f314:=Tryz.func178.trans (congrArg some (by kernel_rfl))
  t0:=Tryz.underlying0
  a0:=Tryz.isAgg0
  z0:=Tryz.sizeOf0
  v0:=Tryz.zeroValue0
  t3:=Tryz.underlying3
  a3:=Tryz.isAgg3
  z3:=Tryz.sizeOf3
  v3:=Tryz.zeroValue3
  t4:=Tryz.underlying4
  a4:=Tryz.isAgg4
  z4:=Tryz.sizeOf4
  v4:=Tryz.zeroValue4
  t5:=Tryz.underlying5
  a5:=Tryz.isAgg5
  z5:=Tryz.sizeOf5
  v5:=Tryz.zeroValue5
  t9:=Tryz.underlying9
  a9:=Tryz.isAgg9
  z9:=Tryz.sizeOf9
  v9:=Tryz.zeroValue9
  t21:=Tryz.underlying21
  a21:=Tryz.isAgg21
  z21:=Tryz.sizeOf21
  v21:=Tryz.zeroValue21
  t31:=Tryz.underlying26
  a31:=Tryz.isAgg26
  z31:=Tryz.sizeOf26
  v31:=Tryz.zeroValue26
  t46:=Tryz.underlying177
  a46:=Tryz.isAgg177
  z46:=Tryz.sizeOf177
  v46:=Tryz.zeroValue177
  t51:=Tryz.underlying203
  a51:=Tryz.isAgg203
  z51:=Tryz.sizeOf203
  v51:=Tryz.zeroValue203
  t105:=Tryz.underlying124
  a105:=Tryz.isAgg124
  z105:=Tryz.sizeOf124
  v105:=Tryz.zeroValue124
  t119:=Tryz.underlying206
  a119:=Tryz.isAgg206
  z119:=Tryz.sizeOf206
  t138:=Tryz.underlying208
  a138:=Tryz.isAgg208
  z138:=Tryz.sizeOf208
  v138:=Tryz.zeroValue208
  t139:=Tryz.underlying209
  a139:=Tryz.isAgg209
  z139:=Tryz.sizeOf209
  v139:=Tryz.zeroValue209
  t146:=Tryz.underlying204
  a146:=Tryz.isAgg204
  z146:=Tryz.sizeOf204
  v146:=Tryz.zeroValue204
  g1:=by kernel_rfl
  g3:=by kernel_rfl
  g4:=by kernel_rfl }
open Go.RowKit Go.Lib in
theorem Sh.strings_Split (s sep:ByteArray) (m:Int) (w:World) (hs:s.size < 4294967281) (hm:w.cell? ⟨0,0,none⟩=some (.int .i64 m)) (h1:1≤sep.size) :
    Calls Tryz.prog 11 #[.string s,.string sep] w fun e w' =>
      e=.returned (.slice (some ⟨w.heap.size,0,none⟩) (Lib.countB s sep+1) (Lib.countB s sep+1))∧w'=w.alloc (.cells ((Lib.splitB sep 0 (Lib.countB s sep) s).map Value.string).toArray 9):=Any.strings_Split Sh.lays146 (by kernel_rfl) s sep m w hs hm h1
end Go.Proofs.YtdhbkifpodekcaaGreatDoor
