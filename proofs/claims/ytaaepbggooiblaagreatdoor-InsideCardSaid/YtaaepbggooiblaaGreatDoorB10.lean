/- Texts of mine, one behind the other; nothing is assumed. -/
import Derived.Shelf.Small.Strs
import Derived.Shelf.Strings.Search3
import Derived.Lib.ItoaNum
import Derived.Shelf.Strconv.Clone
import Derived.Shelf.Strings.Shaped
import Derived.Shelf.Unicode.Latin
import Derived.Shelf.Unicode.Props
import Derived.Shelf.Strings.Runes
import Derived.Shelf.Strings.AsciiSet
import Derived.Ground.SlgnProg
import Derived.Test.YtaaepbggooiblaaGreatDoorProg
namespace Go.Proofs
open Go.Shelf
def Tryz.ND:Go.Shelf.Ren:=⟨fun|137=>113|217=>157|266=>192|n=>n,fun|9=>9|5=>5|3=>3|n=>n,fun|n=>n⟩
theorem Tryz.lays137:Go.Proofs.Lays.n137 Tryz.prog Tryz.ND:={
 mixed:=by kernel_rfl
 f137:=Tryz.func113.trans (congrArg some (by kernel_rfl))
 f217:=Tryz.func157.trans (congrArg some (by kernel_rfl))
 f266:=Tryz.func192.trans (congrArg some (by kernel_rfl))
 t3:=Tryz.underlying3
 a3:=Tryz.isAgg3
 z3:=Tryz.sizeOf3
 v3:=Tryz.zeroValue3
 t5:=Tryz.underlying5
 a5:=Tryz.isAgg5
 z5:=Tryz.sizeOf5
 v5:=Tryz.zeroValue5
 t9:=Tryz.underlying9
 a9:=Tryz.isAgg9
 z9:=Tryz.sizeOf9
 v9:=Tryz.zeroValue9 }
open Go.RowKit in
theorem Tryz.strings_IndexByte(s:ByteArray)(c:Int)(w:World):
  Calls Tryz.prog 113 #[.string s,.int .u8 c] w fun e w'=>e=.returned (.int .i64 (Lib.indexByte s.data.toList c.toNat.toUInt8))∧w'=w:=Any.strings_IndexByte Tryz.lays137 s c w
def Tryz.KJ:Go.Shelf.Ren:=⟨fun|316=>257|n=>n,fun|9=>9|3=>3|4=>4|37=>137|0=>0|127=>238|5=>5|n=>n,fun|n=>n⟩
theorem Tryz.laysM316:Go.Proofs.LaysM.n316 Tryz.prog Tryz.KJ:={
 mixed:=by kernel_rfl
 f316:=Tryz.func257.trans (congrArg some (by kernel_rfl))
 t0:=Tryz.underlying0
 a0:=Tryz.isAgg0
 z0:=Tryz.sizeOf0
 v0:=Tryz.zeroValue0
 t3:=Tryz.underlying3
 a3:=Tryz.isAgg3
 z3:=Tryz.sizeOf3
 v3:=Tryz.zeroValue3
 t4:=Tryz.underlying4
 a4:=Tryz.isAgg4
 z4:=Tryz.sizeOf4
 v4:=Tryz.zeroValue4
 t9:=Tryz.underlying9
 a9:=Tryz.isAgg9
 z9:=Tryz.sizeOf9
 v9:=Tryz.zeroValue9
 t37:=Tryz.underlying137
 a37:=Tryz.isAgg137
 z37:=Tryz.sizeOf137
 v37:=Tryz.zeroValue137
 t127:=Tryz.underlying238
 a127:=Tryz.isAgg238
 z127:=Tryz.sizeOf238
 v127:=Tryz.zeroValue238
 t5:=Tryz.underlying5
 a5:=Tryz.isAgg5
 z5:=Tryz.sizeOf5
 v5:=Tryz.zeroValue5
 i0:=by kernel_rfl
 i3:=by kernel_rfl
 i4:=by kernel_rfl
 i5:=by kernel_rfl
 i9:=by kernel_rfl
 i37:=by kernel_rfl
 i127:=by kernel_rfl }
open Go.RowKit in
theorem Tryz.stringslite_Clone(s:ByteArray)(w:World)(hlim:s.size≤281474976710656):
  Calls Tryz.prog 257 #[.string s] w fun e w'=>e=.returned (.string s)∧Below w.heap.size w w':=Any.stringslite_Clone Tryz.laysM316 s w hlim
def Tryz.NC:Go.Shelf.Ren:=⟨fun|143=>151|219=>186|217=>157|225=>211|224=>212|267=>213|266=>192|314=>256|n=>n,fun|9=>9|3=>3|4=>4|5=>5|46=>186|146=>442|51=>180|n=>n,fun|1=>4|n=>n⟩
theorem Tryz.lays143:Go.Proofs.Lays.n143 Tryz.prog Tryz.NC:={
 mixed:=by kernel_rfl
 f143:=Tryz.func151.trans (congrArg some (by kernel_rfl))
 f217:=Tryz.func157.trans (congrArg some (by kernel_rfl))
 f219:=Tryz.func186.trans (congrArg some (by kernel_rfl))
 f224:=Tryz.func212.trans (congrArg some (by kernel_rfl))
 f225:=Tryz.func211.trans (congrArg some (by kernel_rfl))
 f266:=Tryz.func192.trans (congrArg some (by kernel_rfl))
 f267:=Tryz.func213.trans (congrArg some (by kernel_rfl))
 f314:=Tryz.func256.trans (congrArg some (by kernel_rfl))
 t3:=Tryz.underlying3
 a3:=Tryz.isAgg3
 z3:=Tryz.sizeOf3
 v3:=Tryz.zeroValue3
 t4:=Tryz.underlying4
 a4:=Tryz.isAgg4
 z4:=Tryz.sizeOf4
 v4:=Tryz.zeroValue4
 t5:=Tryz.underlying5
 a5:=Tryz.isAgg5
 z5:=Tryz.sizeOf5
 v5:=Tryz.zeroValue5
 t9:=Tryz.underlying9
 a9:=Tryz.isAgg9
 z9:=Tryz.sizeOf9
 v9:=Tryz.zeroValue9
 t46:=Tryz.underlying186
 a46:=Tryz.isAgg186
 z46:=Tryz.sizeOf186
 v46:=Tryz.zeroValue186
 t51:=Tryz.underlying180
 a51:=Tryz.isAgg180
 z51:=Tryz.sizeOf180
 v51:=Tryz.zeroValue180
 t146:=Tryz.underlying442
 a146:=Tryz.isAgg442
 z146:=Tryz.sizeOf442
 v146:=Tryz.zeroValue442
 g1:=by kernel_rfl }
open Go.RowKit Go.Lib in
theorem Tryz.strings_Index(s sub:ByteArray)(m:Int)(w:World)(hs:s.size<4294967281)(hm:w.cell? ⟨4,0,none⟩=some (.int .i64 m)):
  Calls Tryz.prog 151 #[.string s,.string sub] w fun e w'=>e=.returned (.int .i64 (Lib.index s.data.toList sub.data.toList))∧w'=w:=Any.strings_Index Tryz.lays143 s sub m w hs hm
def Tryz.Nz:Go.Shelf.Ren:=⟨fun|144=>112|143=>151|219=>186|217=>157|225=>211|224=>212|267=>213|266=>192|314=>256|n=>n,fun|9=>9|4=>4|3=>3|5=>5|46=>186|146=>442|51=>180|n=>n,fun|1=>4|n=>n⟩
theorem Tryz.lays144:Go.Proofs.Lays.n144 Tryz.prog Tryz.Nz:={
 mixed:=by kernel_rfl
 f143:=Tryz.func151.trans (congrArg some (by kernel_rfl))
 f144:=Tryz.func112.trans (congrArg some (by kernel_rfl))
 f217:=Tryz.func157.trans (congrArg some (by kernel_rfl))
 f219:=Tryz.func186.trans (congrArg some (by kernel_rfl))
 f224:=Tryz.func212.trans (congrArg some (by kernel_rfl))
 f225:=Tryz.func211.trans (congrArg some (by kernel_rfl))
 f266:=Tryz.func192.trans (congrArg some (by kernel_rfl))
 f267:=Tryz.func213.trans (congrArg some (by kernel_rfl))
 f314:=Tryz.func256.trans (congrArg some (by kernel_rfl))
 t3:=Tryz.underlying3
 a3:=Tryz.isAgg3
 z3:=Tryz.sizeOf3
 v3:=Tryz.zeroValue3
 t4:=Tryz.underlying4
 a4:=Tryz.isAgg4
 z4:=Tryz.sizeOf4
 v4:=Tryz.zeroValue4
 t5:=Tryz.underlying5
 a5:=Tryz.isAgg5
 z5:=Tryz.sizeOf5
 v5:=Tryz.zeroValue5
 t9:=Tryz.underlying9
 a9:=Tryz.isAgg9
 z9:=Tryz.sizeOf9
 v9:=Tryz.zeroValue9
 t46:=Tryz.underlying186
 a46:=Tryz.isAgg186
 z46:=Tryz.sizeOf186
 v46:=Tryz.zeroValue186
 t51:=Tryz.underlying180
 a51:=Tryz.isAgg180
 z51:=Tryz.sizeOf180
 v51:=Tryz.zeroValue180
 t146:=Tryz.underlying442
 a146:=Tryz.isAgg442
 z146:=Tryz.sizeOf442
 v146:=Tryz.zeroValue442
 g1:=by kernel_rfl }
open Go.RowKit Go.Lib in
theorem Tryz.strings_Contains(s sub:ByteArray)(m:Int)(w:World)(hs:s.size<4294967281)(hm:w.cell? ⟨4,0,none⟩=some (.int .i64 m)):
  Calls Tryz.prog 112 #[.string s,.string sub] w fun e w'=>e=.returned (.bool (Lib.contains s.data.toList sub.data.toList))∧w'=w:=Any.strings_Contains Tryz.lays144 s sub m w hs hm
def Tryz.lays198_ren:Go.Shelf.Ren:=⟨fun|198=>156|261=>191|311=>221|312=>222|n=>n,fun|21=>21|4=>4|141=>386|0=>0|196=>407|193=>404|3=>3|51=>180|198=>410|49=>408|194=>405|201=>413|226=>447|46=>186|227=>448|n=>n,fun|5=>3|n=>n⟩
theorem Tryz.lays198:Go.Proofs.Lays.n198 Tryz.prog Tryz.lays198_ren:={
 mixed:=by kernel_rfl
 f198:=Tryz.func156.trans (congrArg some (by kernel_rfl))
 f261:=Tryz.func191.trans (congrArg some (by kernel_rfl))
 f311:=Tryz.func221.trans (congrArg some (by kernel_rfl))
 f312:=Tryz.func222.trans (congrArg some (by kernel_rfl))
 t0:=Tryz.underlying0
 a0:=Tryz.isAgg0
 z0:=Tryz.sizeOf0
 v0:=Tryz.zeroValue0
 t3:=Tryz.underlying3
 a3:=Tryz.isAgg3
 z3:=Tryz.sizeOf3
 v3:=Tryz.zeroValue3
 t4:=Tryz.underlying4
 a4:=Tryz.isAgg4
 z4:=Tryz.sizeOf4
 v4:=Tryz.zeroValue4
 t21:=Tryz.underlying21
 a21:=Tryz.isAgg21
 z21:=Tryz.sizeOf21
 v21:=Tryz.zeroValue21
 t46:=Tryz.underlying186
 a46:=Tryz.isAgg186
 z46:=Tryz.sizeOf186
 v46:=Tryz.zeroValue186
 t49:=Tryz.underlying408
 a49:=Tryz.isAgg408
 z49:=Tryz.sizeOf408
 v49:=Tryz.zeroValue408
 t51:=Tryz.underlying180
 a51:=Tryz.isAgg180
 z51:=Tryz.sizeOf180
 v51:=Tryz.zeroValue180
 t141:=Tryz.underlying386
 a141:=Tryz.isAgg386
 z141:=Tryz.sizeOf386
 v141:=Tryz.zeroValue386
 t193:=Tryz.underlying404
 a193:=Tryz.isAgg404
 z193:=Tryz.sizeOf404
 v193:=Tryz.zeroValue404
 t194:=Tryz.underlying405
 a194:=Tryz.isAgg405
 z194:=Tryz.sizeOf405
 v194:=Tryz.zeroValue405
 t196:=Tryz.underlying407
 a196:=Tryz.isAgg407
 z196:=Tryz.sizeOf407
 v196:=Tryz.zeroValue407
 t198:=Tryz.underlying410
 a198:=Tryz.isAgg410
 z198:=Tryz.sizeOf410
 v198:=Tryz.zeroValue410
 t201:=Tryz.underlying413
 a201:=Tryz.isAgg413
 z201:=Tryz.sizeOf413
 v201:=Tryz.zeroValue413
 t226:=Tryz.underlying447
 a226:=Tryz.isAgg447
 z226:=Tryz.sizeOf447
 v226:=Tryz.zeroValue447
 t227:=Tryz.underlying448
 a227:=Tryz.isAgg448
 z227:=Tryz.sizeOf448
 v227:=Tryz.zeroValue448
 g5:=by kernel_rfl }
open Go.RowKit Go.Lib in
theorem Tryz.unicode_IsDigit(r:Int)(w:World)(h:r≤255):
  Calls Tryz.prog 156 #[.int .i32 r] w fun e w'=>e=.returned (.bool (Lib.isDigitL r))∧w'=w:=Any.unicode_IsDigit Tryz.lays198 r w h
def Tryz.lays200_ren:Go.Shelf.Ren:=⟨fun|200=>155|261=>191|311=>221|312=>222|n=>n,fun|21=>21|4=>4|51=>180|5=>5|119=>384|0=>0|141=>386|196=>407|193=>404|3=>3|198=>410|49=>408|194=>405|201=>413|226=>447|46=>186|227=>448|n=>n,fun|7=>1|8=>2|n=>n⟩
theorem Tryz.lays200:Go.Proofs.Lays.n200 Tryz.prog Tryz.lays200_ren:={
 mixed:=by kernel_rfl
 f200:=Tryz.func155.trans (congrArg some (by kernel_rfl))
 f261:=Tryz.func191.trans (congrArg some (by kernel_rfl))
 f311:=Tryz.func221.trans (congrArg some (by kernel_rfl))
 f312:=Tryz.func222.trans (congrArg some (by kernel_rfl))
 t0:=Tryz.underlying0
 a0:=Tryz.isAgg0
 z0:=Tryz.sizeOf0
 v0:=Tryz.zeroValue0
 t3:=Tryz.underlying3
 a3:=Tryz.isAgg3
 z3:=Tryz.sizeOf3
 v3:=Tryz.zeroValue3
 t4:=Tryz.underlying4
 a4:=Tryz.isAgg4
 z4:=Tryz.sizeOf4
 v4:=Tryz.zeroValue4
 t5:=Tryz.underlying5
 a5:=Tryz.isAgg5
 z5:=Tryz.sizeOf5
 v5:=Tryz.zeroValue5
 t21:=Tryz.underlying21
 a21:=Tryz.isAgg21
 z21:=Tryz.sizeOf21
 v21:=Tryz.zeroValue21
 t46:=Tryz.underlying186
 a46:=Tryz.isAgg186
 z46:=Tryz.sizeOf186
 v46:=Tryz.zeroValue186
 t49:=Tryz.underlying408
 a49:=Tryz.isAgg408
 z49:=Tryz.sizeOf408
 v49:=Tryz.zeroValue408
 t51:=Tryz.underlying180
 a51:=Tryz.isAgg180
 z51:=Tryz.sizeOf180
 v51:=Tryz.zeroValue180
 t119:=Tryz.underlying384
 a119:=Tryz.isAgg384
 z119:=Tryz.sizeOf384
 t141:=Tryz.underlying386
 a141:=Tryz.isAgg386
 z141:=Tryz.sizeOf386
 v141:=Tryz.zeroValue386
 t193:=Tryz.underlying404
 a193:=Tryz.isAgg404
 z193:=Tryz.sizeOf404
 v193:=Tryz.zeroValue404
 t194:=Tryz.underlying405
 a194:=Tryz.isAgg405
 z194:=Tryz.sizeOf405
 v194:=Tryz.zeroValue405
 t196:=Tryz.underlying407
 a196:=Tryz.isAgg407
 z196:=Tryz.sizeOf407
 v196:=Tryz.zeroValue407
 t198:=Tryz.underlying410
 a198:=Tryz.isAgg410
 z198:=Tryz.sizeOf410
 v198:=Tryz.zeroValue410
 t201:=Tryz.underlying413
 a201:=Tryz.isAgg413
 z201:=Tryz.sizeOf413
 v201:=Tryz.zeroValue413
 t226:=Tryz.underlying447
 a226:=Tryz.isAgg447
 z226:=Tryz.sizeOf447
 v226:=Tryz.zeroValue447
 t227:=Tryz.underlying448
 a227:=Tryz.isAgg448
 z227:=Tryz.sizeOf448
 v227:=Tryz.zeroValue448
 g7:=by kernel_rfl
 g8:=by kernel_rfl }
open Go.RowKit Go.Lib in
theorem Tryz.unicode_IsLetter(c:Nat)(w:World)(hc:c<256)(htab:Lib.TabIs Tryz.prog w "unicode.properties" .u8 Lib.propertiesTab):
  Calls Tryz.prog 155 #[.int .i32 c] w fun e w'=>e=.returned (.bool (Lib.isLetterL c))∧w'=w:=Any.unicode_IsLetter Tryz.lays200 (by kernel_rfl) c w hc htab
def Tryz.lays151_ren:Go.Shelf.Ren:=⟨fun|151=>153|152=>188|137=>113|119=>214|224=>212|225=>211|217=>157|266=>192|n=>n,fun|9=>9|21=>21|4=>4|3=>3|5=>5|0=>0|46=>186|n=>n,fun|n=>n⟩
theorem Tryz.lays151:Go.Proofs.Lays.n151 Tryz.prog Tryz.lays151_ren:={
 mixed:=by kernel_rfl
 f119:=Tryz.func214.trans (congrArg some (by kernel_rfl))
 f137:=Tryz.func113.trans (congrArg some (by kernel_rfl))
 f151:=Tryz.func153.trans (congrArg some (by kernel_rfl))
 f152:=Tryz.func188.trans (congrArg some (by kernel_rfl))
 f217:=Tryz.func157.trans (congrArg some (by kernel_rfl))
 f224:=Tryz.func212.trans (congrArg some (by kernel_rfl))
 f225:=Tryz.func211.trans (congrArg some (by kernel_rfl))
 f266:=Tryz.func192.trans (congrArg some (by kernel_rfl))
 t0:=Tryz.underlying0
 a0:=Tryz.isAgg0
 z0:=Tryz.sizeOf0
 v0:=Tryz.zeroValue0
 t3:=Tryz.underlying3
 a3:=Tryz.isAgg3
 z3:=Tryz.sizeOf3
 v3:=Tryz.zeroValue3
 t4:=Tryz.underlying4
 a4:=Tryz.isAgg4
 z4:=Tryz.sizeOf4
 v4:=Tryz.zeroValue4
 t5:=Tryz.underlying5
 a5:=Tryz.isAgg5
 z5:=Tryz.sizeOf5
 v5:=Tryz.zeroValue5
 t9:=Tryz.underlying9
 a9:=Tryz.isAgg9
 z9:=Tryz.sizeOf9
 v9:=Tryz.zeroValue9
 t21:=Tryz.underlying21
 a21:=Tryz.isAgg21
 z21:=Tryz.sizeOf21
 v21:=Tryz.zeroValue21
 t46:=Tryz.underlying186
 a46:=Tryz.isAgg186
 z46:=Tryz.sizeOf186
 v46:=Tryz.zeroValue186 }
open Go.RowKit Go.Lib in
theorem Tryz.strings_ContainsRune_ascii(s:ByteArray)(r:Int)(w:World)(h0:0≤r)(h1:r<128):
  Calls Tryz.prog 153 #[.string s,.int .i32 r] w fun e w'=>e=.returned (.bool (decide (0≤Lib.indexByte s.data.toList r.toNat.toUInt8)))∧w'=w:=Any.strings_ContainsRune_ascii Tryz.lays151 s r w h0 h1
def Tryz.Ny:Go.Shelf.Ren:=⟨fun|227=>182|n=>n,fun|9=>9|116=>377|4=>4|0=>0|3=>3|5=>5|n=>n,fun|n=>n⟩
theorem Tryz.Wp:Go.Proofs.Lays.n227 Tryz.prog Tryz.Ny:={
 mixed:=by kernel_rfl
 f227:=Tryz.func182.trans (congrArg some (by kernel_rfl))
 t0:=Tryz.underlying0
 a0:=Tryz.isAgg0
 z0:=Tryz.sizeOf0
 v0:=Tryz.zeroValue0
 t3:=Tryz.underlying3
 a3:=Tryz.isAgg3
 z3:=Tryz.sizeOf3
 v3:=Tryz.zeroValue3
 t4:=Tryz.underlying4
 a4:=Tryz.isAgg4
 z4:=Tryz.sizeOf4
 v4:=Tryz.zeroValue4
 t5:=Tryz.underlying5
 a5:=Tryz.isAgg5
 z5:=Tryz.sizeOf5
 v5:=Tryz.zeroValue5
 t9:=Tryz.underlying9
 a9:=Tryz.isAgg9
 z9:=Tryz.sizeOf9
 v9:=Tryz.zeroValue9
 t116:=Tryz.underlying377
 a116:=Tryz.isAgg377
 z116:=Tryz.sizeOf377 }
open Go.RowKit Go.Lib in
theorem Tryz.strings_makeASCIISet(hv116:∀w,(zeroValue 377).run Tryz.prog w=.ok (.agg (Array.replicate 256 (.bool false))) w)(chars:ByteArray)(w:World)(hs:chars.size<4294967281)(hascii:∀(j:Nat) b,chars.data.toList[j]?=some b→b.toNat<128):
  Calls Tryz.prog 182 #[.string chars] w fun e w'=>e=.returned (.tuple #[.agg (Lib.setCells chars.data.toList),.bool true])∧w'=w.alloc (.cells (Lib.setCells chars.data.toList) 377):=Any.strings_makeASCIISet Tryz.Wp hv116 (by kernel_rfl) chars w hs hascii
def Tryz.Nv:Go.Shelf.Ren:=⟨fun|228=>209|n=>n,fun|124=>381|5=>5|4=>4|0=>0|116=>377|n=>n,fun|n=>n⟩
theorem Tryz.Wn:Go.Proofs.Lays.n228 Tryz.prog Tryz.Nv:={
 mixed:=by kernel_rfl
 f228:=Tryz.func209.trans (congrArg some (by kernel_rfl))
 t0:=Tryz.underlying0
 a0:=Tryz.isAgg0
 z0:=Tryz.sizeOf0
 v0:=Tryz.zeroValue0
 t4:=Tryz.underlying4
 a4:=Tryz.isAgg4
 z4:=Tryz.sizeOf4
 v4:=Tryz.zeroValue4
 t5:=Tryz.underlying5
 a5:=Tryz.isAgg5
 z5:=Tryz.sizeOf5
 v5:=Tryz.zeroValue5
 t116:=Tryz.underlying377
 a116:=Tryz.isAgg377
 z116:=Tryz.sizeOf377
 t124:=Tryz.underlying381
 a124:=Tryz.isAgg381
 z124:=Tryz.sizeOf381
 v124:=Tryz.zeroValue381 }
open Go.RowKit Go.Lib in
theorem Tryz.asciiSet_contains(b:Nat)(x:UInt8)(v:Bool)(w:World)(hc:w.cell? ⟨b,x.toNat,none⟩=some (.bool v)):
  Calls Tryz.prog 209 #[.pointer (some ⟨b,0,none⟩),.int .u8 x.toNat] w fun e w'=>e=.returned (.bool v)∧w'=w:=Any.asciiSet_contains Tryz.Wn b x v w hc
end Go.Proofs
