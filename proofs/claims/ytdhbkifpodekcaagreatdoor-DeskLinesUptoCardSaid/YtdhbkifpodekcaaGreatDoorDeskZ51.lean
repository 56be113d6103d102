/- Texts of this claim. -/
import Derived.Test.YtdhbkifpodekcaaGreatDoorDeskZ6
import Derived.Shelf.Strings.Builder2
import Derived.Shelf.Strings.OnBuilder
import Derived.Shelf.Strings.Prefix
namespace Go.Proofs.YtdhbkifpodekcaaGreatDoor
open Go.Shelf Go.Proofs
def Sh.lays156_ren:Go.Shelf.Ren:=⟨fun | 156=>10 | 165=>19 | 166=>12 | 169=>15 | 240=>20 | 241=>32 | 276=>33 | 277=>89 | n=>n,fun | 31=>26 | 9=>9 | 3=>3 | 4=>4 | 0=>0 | 20=>20 | 72=>44 | 76=>47 | 70=>41 | 37=>42 | 75=>46 | 127=>75 | 164=>78 | 5=>5 | 80=>51 | n=>n,fun | n=>n⟩
theorem Sh.lays156:Go.Proofs.Lays.n156 Tryz.prog Sh.lays156_ren:={
  mixed:=by kernel_rfl
  f156:=Tryz.func10.trans (congrArg some (by kernel_rfl))
  f165:=Tryz.func19.trans (congrArg some (by kernel_rfl))
  f166:=Tryz.func12.trans (congrArg some (by kernel_rfl))
  f169:=Tryz.func15.trans (congrArg some (by kernel_rfl))
  f240:=Tryz.func20.trans (congrArg some (by kernel_rfl))
  f241:=Tryz.func32.trans (congrArg some (by kernel_rfl))
  f276:=Tryz.func33.trans (congrArg some (by kernel_rfl))
  f277:=Tryz.func89.trans (congrArg some (by kernel_rfl))
  t0:=Tryz.underlying0
  a0:=Tryz.isAgg0
  z0:=Tryz.sizeOf0
  v0:=Tryz.zeroValue0
  t3:=Tryz.underlying3
  a3:=Tryz.isAgg3
  z3:=Tryz.sizeOf3
  v3:=Tryz.zeroValue3
  t4:=Tryz.underlying4
  a4:=Tryz.isAgg4
  z4:=Tryz.sizeOf4
  v4:=Tryz.zeroValue4
  t9:=Tryz.underlying9
  a9:=Tryz.isAgg9
  z9:=Tryz.sizeOf9
  v9:=Tryz.zeroValue9
  t20:=Tryz.underlying20
  a20:=Tryz.isAgg20
  z20:=Tryz.sizeOf20
  v20:=Tryz.zeroValue20
  t31:=Tryz.underlying26
  a31:=Tryz.isAgg26
  z31:=Tryz.sizeOf26
  v31:=Tryz.zeroValue26
  t37:=Tryz.underlying42
  a37:=Tryz.isAgg42
  z37:=Tryz.sizeOf42
  v37:=Tryz.zeroValue42
  t70:=Tryz.underlying41
  a70:=Tryz.isAgg41
  z70:=Tryz.sizeOf41
  v70:=Tryz.zeroValue41
  t72:=Tryz.underlying44
  a72:=Tryz.isAgg44
  z72:=Tryz.sizeOf44
  v72:=Tryz.zeroValue44
  t75:=Tryz.underlying46
  a75:=Tryz.isAgg46
  z75:=Tryz.sizeOf46
  v75:=Tryz.zeroValue46
  t76:=Tryz.underlying47
  a76:=Tryz.isAgg47
  z76:=Tryz.sizeOf47
  v76:=Tryz.zeroValue47
  t127:=Tryz.underlying75
  a127:=Tryz.isAgg75
  z127:=Tryz.sizeOf75
  v127:=Tryz.zeroValue75
  t164:=Tryz.underlying78
  a164:=Tryz.isAgg78
  z164:=Tryz.sizeOf78
  v164:=Tryz.zeroValue78 }
theorem Sh.Builder_Extra_156:Builder.Extra Tryz.prog Sh.lays156_ren:={
  sizeBuilder:=by kernel_rfl
  liesBuilder:=by kernel_rfl
  t5:=Tryz.underlying5
  a5:=Tryz.isAgg5
  z5:=Tryz.sizeOf5
  v5:=Tryz.zeroValue5
  infoByte:=by kernel_rfl
  cellsByte:=by kernel_rfl
  sizeByte:=by kernel_rfl
  neB5:=by decide }
open Go.RowKit in
theorem Sh.strings_Join_none (a:Option Addr) (c:Nat) (sep:ByteArray) (w:World) :
    Calls Tryz.prog 10 #[.slice a 0 c,.string sep] w fun e w'=>e=.returned (.string ⟨#[]⟩)∧w'=w:=Any.strings_Join_none Sh.lays156 Sh.Builder_Extra_156 a c sep w
open Go.RowKit in
theorem Sh.strings_Join (bk o c:Nat) (xs:List ByteArray) (sep:ByteArray) (w:World) (hcells:∀ (j:Nat) x,xs[j]?=some x→w.cell? ⟨bk,o+j,none⟩=some (.string x)) (hbk:bk < w.heap.size) (hN:xs.length≤140737488355328) (hcap:xs.length≤c) (hlen:(Lib.join (xs.map (·.data.toList)) sep.data.toList).length≤140737488355328) :
    Calls Tryz.prog 10 #[.slice (some ⟨bk,o,none⟩) xs.length c,.string sep] w fun e w'=>e=.returned (.string ⟨(Lib.join (xs.map (·.data.toList)) sep.data.toList).toArray⟩)∧Below w.heap.size w w':=Any.strings_Join Sh.lays156 Sh.Builder_Extra_156 bk o c xs sep w hcells hbk hN hcap hlen
def Sh.lays99_ren:Go.Shelf.Ren:=⟨fun | 99=>8 | 206=>18 | n=>n,fun | 9=>9 | 4=>4 | 3=>3 | n=>n,fun | n=>n⟩
theorem Sh.lays99:Go.Proofs.Lays.n99 Tryz.prog Sh.lays99_ren:={
  mixed:=by kernel_rfl
  f99:=Tryz.func8.trans (congrArg some (by kernel_rfl))
  f206:=Tryz.func18.trans (congrArg some (by kernel_rfl))
  t3:=Tryz.underlying3
  a3:=Tryz.isAgg3
  z3:=Tryz.sizeOf3
  v3:=Tryz.zeroValue3
  t4:=Tryz.underlying4
  a4:=Tryz.isAgg4
  z4:=Tryz.sizeOf4
  v4:=Tryz.zeroValue4
  t9:=Tryz.underlying9
  a9:=Tryz.isAgg9
  z9:=Tryz.sizeOf9
  v9:=Tryz.zeroValue9 }
open Go.RowKit Go.Lib in
theorem Sh.strings_HasPrefix (s p:ByteArray) (w:World) :
    Calls Tryz.prog 8 #[.string s,.string p] w fun e w'=>e=.returned (.bool (Lib.hasPrefix s.data.toList p.data.toList))∧w'=w:=Any.strings_HasPrefix Sh.lays99 s p w
def Sh.lays221_ren:Go.Shelf.Ren:=⟨fun | 221=>17 | 268=>29 | 138=>30 | 143=>31 | 195=>86 | 197=>87 | 218=>88 | 219=>85 | 260=>148 | 217=>144 | 225=>145 | 224=>146 | 267=>147 | 266=>177 | 314=>178 | n=>n,fun | 9=>9 | 3=>3 | 31=>26 | 4=>4 | 0=>0 | 105=>124 | 21=>21 | 5=>5 | 46=>177 | 119=>206 | 139=>209 | 138=>208 | 146=>204 | 51=>203 | n=>n,fun | 1=>0 | 3=>2 | 4=>3 | n=>n⟩
theorem Sh.lays221:Go.Proofs.Lays.n221 Tryz.prog Sh.lays221_ren:={
  mixed:=by kernel_rfl
  f138:=Tryz.func30.trans (congrArg some (by kernel_rfl))
  f143:=Tryz.func31.trans (congrArg some (by kernel_rfl))
  f195:=Tryz.func86.trans (congrArg some (by kernel_rfl))
  f197:=Tryz.func87.trans (congrArg some (by kernel_rfl))
  f217:=Tryz.func144.trans (congrArg some (by kernel_rfl))
  f218:=Tryz.func88.trans (congrArg some (by kernel_rfl))
  f219:=Tryz.func85.trans (congrArg some (by kernel_rfl))
  f221:=Tryz.func17.trans (congrArg some (by kernel_rfl))
  f224:=Tryz.func146.trans (congrArg some (by kernel_rfl))
  f225:=Tryz.func145.trans (congrArg some (by kernel_rfl))
  f260:=Tryz.func148.trans (congrArg some (by kernel_rfl))
  f266:=Tryz.func177.trans (congrArg some (by kernel_rfl))
  f267:=Tryz.func147.trans (congrArg some (by kernel_rfl))
  f268:=Tryz.func29.trans (congrArg some (by kernel_rfl))
  f314:=Tryz.func178.trans (congrArg some (by kernel_rfl))
  t0:=Tryz.underlying0
  a0:=Tryz.isAgg0
  z0:=Tryz.sizeOf0
  v0:=Tryz.zeroValue0
  t3:=Tryz.underlying3
  a3:=Tryz.isAgg3
  z3:=Tryz.sizeOf3
  v3:=Tryz.zeroValue3
  t4:=Tryz.underlying4
  a4:=Tryz.isAgg4
  z4:=Tryz.sizeOf4
  v4:=Tryz.zeroValue4
  t5:=Tryz.underlying5
  a5:=Tryz.isAgg5
  z5:=Tryz.sizeOf5
  v5:=Tryz.zeroValue5
  t9:=Tryz.underlying9
  a9:=Tryz.isAgg9
  z9:=Tryz.sizeOf9
  v9:=Tryz.zeroValue9
  t21:=Tryz.underlying21
  a21:=Tryz.isAgg21
  z21:=Tryz.sizeOf21
  v21:=Tryz.zeroValue21
  t31:=Tryz.underlying26
  a31:=Tryz.isAgg26
  z31:=Tryz.sizeOf26
  v31:=Tryz.zeroValue26
  t46:=Tryz.underlying177
  a46:=Tryz.isAgg177
  z46:=Tryz.sizeOf177
  v46:=Tryz.zeroValue177
  t51:=Tryz.underlying203
  a51:=Tryz.isAgg203
  z51:=Tryz.sizeOf203
  v51:=Tryz.zeroValue203
  t105:=Tryz.underlying124
  a105:=Tryz.isAgg124
  z105:=Tryz.sizeOf124
  v105:=Tryz.zeroValue124
  t119:=Tryz.underlying206
  a119:=Tryz.isAgg206
  z119:=Tryz.sizeOf206
  t138:=Tryz.underlying208
  a138:=Tryz.isAgg208
  z138:=Tryz.sizeOf208
  v138:=Tryz.zeroValue208
  t139:=Tryz.underlying209
  a139:=Tryz.isAgg209
  z139:=Tryz.sizeOf209
  v139:=Tryz.zeroValue209
  t146:=Tryz.underlying204
  a146:=Tryz.isAgg204
  z146:=Tryz.sizeOf204
  v146:=Tryz.zeroValue204
  g1:=by kernel_rfl
  g3:=by kernel_rfl
  g4:=by kernel_rfl }
open Go.RowKit Go.Lib in
theorem Sh.strings_genSplit (s sep:ByteArray) (sv:Nat) (n:Int) (N:Nat) (m:Int) (w:World) (hs:s.size < 4294967281) (hm:w.cell? ⟨0,0,none⟩=some (.int .i64 m)) (h1:1≤sep.size) (hsv:sv≤sep.size) (hn0:n≠0) (hn63:n≤9223372036854775807) (hN:(N:Int)=min (if n < 0 then (Lib.countB s sep:Int)+1 else n) ((s.size:Int)+1)) :
    Calls Tryz.prog 17 #[.string s,.string sep,.int .i64 sv,.int .i64 n] w fun e w' =>
      e=.returned (.slice (some ⟨w.heap.size,0,none⟩) (Lib.splitB sep sv (N - 1) s).length N)∧w'=w.alloc (.cells (Lib.cellsOf (Lib.splitB sep sv (N - 1) s) N) 9):=Any.strings_genSplit Sh.lays221 (by kernel_rfl) s sep sv n N m w hs hm h1 hsv hn0 hn63 hN
def Sh.lays167_ren:Go.Shelf.Ren:=⟨fun | 167=>14 | 240=>20 | 276=>33 | n=>n,fun | 0=>0 | 4=>4 | 5=>5 | 9=>9 | 20=>20 | 37=>42 | 70=>41 | 72=>44 | 75=>46 | 80=>51 | 164=>78 | n=>n,fun | n=>n⟩
theorem Sh.lays167:Go.Proofs.Lays.n167 Tryz.prog Sh.lays167_ren:={
  mixed:=by kernel_rfl
  f167:=Tryz.func14.trans (congrArg some (by kernel_rfl))
  f240:=Tryz.func20.trans (congrArg some (by kernel_rfl))
  f276:=Tryz.func33.trans (congrArg some (by kernel_rfl))
  t0:=Tryz.underlying0
  a0:=Tryz.isAgg0
  z0:=Tryz.sizeOf0
  v0:=Tryz.zeroValue0
  t4:=Tryz.underlying4
  a4:=Tryz.isAgg4
  z4:=Tryz.sizeOf4
  v4:=Tryz.zeroValue4
  t5:=Tryz.underlying5
  a5:=Tryz.isAgg5
  z5:=Tryz.sizeOf5
  v5:=Tryz.zeroValue5
  t9:=Tryz.underlying9
  a9:=Tryz.isAgg9
  z9:=Tryz.sizeOf9
  v9:=Tryz.zeroValue9
  t20:=Tryz.underlying20
  a20:=Tryz.isAgg20
  z20:=Tryz.sizeOf20
  v20:=Tryz.zeroValue20
  t37:=Tryz.underlying42
  a37:=Tryz.isAgg42
  z37:=Tryz.sizeOf42
  v37:=Tryz.zeroValue42
  t70:=Tryz.underlying41
  a70:=Tryz.isAgg41
  z70:=Tryz.sizeOf41
  v70:=Tryz.zeroValue41
  t72:=Tryz.underlying44
  a72:=Tryz.isAgg44
  z72:=Tryz.sizeOf44
  v72:=Tryz.zeroValue44
  t75:=Tryz.underlying46
  a75:=Tryz.isAgg46
  z75:=Tryz.sizeOf46
  v75:=Tryz.zeroValue46
  t164:=Tryz.underlying78
  a164:=Tryz.isAgg78
  z164:=Tryz.sizeOf78
  v164:=Tryz.zeroValue78 }
theorem Sh.Builder_Extra_167:Builder.Extra Tryz.prog Sh.lays167_ren:={
  sizeBuilder:=by kernel_rfl
  liesBuilder:=by kernel_rfl
  t5:=Tryz.underlying5
  a5:=Tryz.isAgg5
  z5:=Tryz.sizeOf5
  v5:=Tryz.zeroValue5
  infoByte:=by kernel_rfl
  cellsByte:=by kernel_rfl
  sizeByte:=by kernel_rfl
  neB5:=by decide }
open Go.RowKit in
theorem Sh.Builder_WriteByte_k (B b:Nat) (bs:List Value) (c:Int) (w:World) (h:Lib.IsBuilderF 44 5 B b bs w) (hlen:bs.length+1≤140737488355328) (hBw:B≤w.heap.size) :
    Calls Tryz.prog 14 #[.pointer (some ⟨b,0,none⟩),.int .u8 c] w fun e w'=>e=.returned .nilIface∧(Lib.BuilderAtF 44 5 B b (.pointer (some ⟨b,0,none⟩)) (bs++[.int .u8 c]) w'∧Below B w w'∧Lib.OthersKept 5 (some b) w w'):=Any.Builder_WriteByte_k Sh.lays167 Sh.Builder_Extra_167 B b bs c w h hlen hBw
end Go.Proofs.YtdhbkifpodekcaaGreatDoor
