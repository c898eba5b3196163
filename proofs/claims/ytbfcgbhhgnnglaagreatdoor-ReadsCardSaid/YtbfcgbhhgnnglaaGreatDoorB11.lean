/- Texts of mine, one behind the other; nothing is assumed. -/
import Derived.Shelf.Small.Strs
import Derived.Shelf.Strings.Search3
import Derived.Lib.ItoaNum
import Derived.Shelf.Strconv.Clone
import Derived.Shelf.Strings.Shaped
import Derived.Shelf.Unicode.Latin
import Derived.Shelf.Unicode.Props
import Derived.Shelf.Strings.Runes
import Derived.Shelf.Strings.AsciiSet
import Derived.Ground.SlgnProg
import Derived.Test.YtbfcgbhhgnnglaaGreatDoorProg
namespace Go.Proofs
open Go.Shelf
def Tryz.QP:Go.Shelf.Ren:=⟨λ|137=>164|217=>206|266=>233|n=>n,λ|9=>9|5=>5|3=>3|n=>n,λ|n=>n⟩
theorem Tryz.lays137:Go.Proofs.Lays.n137 Tryz.prog Tryz.QP:={
 mixed:=by kernel_rfl
 f137:=Tryz.func164.trans (congrArg some (by kernel_rfl))
 f217:=Tryz.func206.trans (congrArg some (by kernel_rfl))
 f266:=Tryz.func233.trans (congrArg some (by kernel_rfl))
 t3:=Tryz.underlying3
 a3:=Tryz.isAgg3
 z3:=Tryz.sizeOf3
 v3:=Tryz.zeroValue3
 t5:=Tryz.underlying5
 a5:=Tryz.isAgg5
 z5:=Tryz.sizeOf5
 v5:=Tryz.zeroValue5
 t9:=Tryz.underlying9
 a9:=Tryz.isAgg9
 z9:=Tryz.sizeOf9
 v9:=Tryz.zeroValue9 }
open Go.RowKit in
theorem Tryz.strings_IndexByte(s:ByteArray)(c:Int)(w:World):
  Calls Tryz.prog 164 #[.string s,.int .u8 c] w λe w'=>e=.returned (.int .i64 (Lib.indexByte s.data.toList c.toNat.toUInt8))/\w'=w:=Any.strings_IndexByte Tryz.lays137 s c w
def Tryz.Ob:Go.Shelf.Ren:=⟨λ|316=>252|n=>n,λ|9=>9|3=>3|4=>4|37=>97|0=>0|127=>316|5=>5|n=>n,λ|n=>n⟩
theorem Tryz.laysM316:Go.Proofs.LaysM.n316 Tryz.prog Tryz.Ob:={
 mixed:=by kernel_rfl
 f316:=Tryz.func252.trans (congrArg some (by kernel_rfl))
 t0:=Tryz.underlying0
 a0:=Tryz.isAgg0
 z0:=Tryz.sizeOf0
 v0:=Tryz.zeroValue0
 t3:=Tryz.underlying3
 a3:=Tryz.isAgg3
 z3:=Tryz.sizeOf3
 v3:=Tryz.zeroValue3
 t4:=Tryz.underlying4
 a4:=Tryz.isAgg4
 z4:=Tryz.sizeOf4
 v4:=Tryz.zeroValue4
 t9:=Tryz.underlying9
 a9:=Tryz.isAgg9
 z9:=Tryz.sizeOf9
 v9:=Tryz.zeroValue9
 t37:=Tryz.underlying97
 a37:=Tryz.isAgg97
 z37:=Tryz.sizeOf97
 v37:=Tryz.zeroValue97
 t127:=Tryz.underlying316
 a127:=Tryz.isAgg316
 z127:=Tryz.sizeOf316
 v127:=Tryz.zeroValue316
 t5:=Tryz.underlying5
 a5:=Tryz.isAgg5
 z5:=Tryz.sizeOf5
 v5:=Tryz.zeroValue5
 i0:=by kernel_rfl
 i3:=by kernel_rfl
 i4:=by kernel_rfl
 i5:=by kernel_rfl
 i9:=by kernel_rfl
 i37:=by kernel_rfl
 i127:=by kernel_rfl }
open Go.RowKit in
theorem Tryz.stringslite_Clone(s:ByteArray)(w:World)(hlim:s.size<=281474976710656):
  Calls Tryz.prog 252 #[.string s] w λe w'=>e=.returned (.string s)/\Below w.heap.size w w':=Any.stringslite_Clone Tryz.laysM316 s w hlim
def Tryz.QO:Go.Shelf.Ren:=⟨λ|143=>200|219=>227|217=>206|225=>238|224=>239|267=>240|266=>233|314=>251|n=>n,λ|9=>9|3=>3|4=>4|5=>5|46=>313|146=>442|51=>222|n=>n,λ|1=>4|n=>n⟩
theorem Tryz.lays143:Go.Proofs.Lays.n143 Tryz.prog Tryz.QO:={
 mixed:=by kernel_rfl
 f143:=Tryz.func200.trans (congrArg some (by kernel_rfl))
 f217:=Tryz.func206.trans (congrArg some (by kernel_rfl))
 f219:=Tryz.func227.trans (congrArg some (by kernel_rfl))
 f224:=Tryz.func239.trans (congrArg some (by kernel_rfl))
 f225:=Tryz.func238.trans (congrArg some (by kernel_rfl))
 f266:=Tryz.func233.trans (congrArg some (by kernel_rfl))
 f267:=Tryz.func240.trans (congrArg some (by kernel_rfl))
 f314:=Tryz.func251.trans (congrArg some (by kernel_rfl))
 t3:=Tryz.underlying3
 a3:=Tryz.isAgg3
 z3:=Tryz.sizeOf3
 v3:=Tryz.zeroValue3
 t4:=Tryz.underlying4
 a4:=Tryz.isAgg4
 z4:=Tryz.sizeOf4
 v4:=Tryz.zeroValue4
 t5:=Tryz.underlying5
 a5:=Tryz.isAgg5
 z5:=Tryz.sizeOf5
 v5:=Tryz.zeroValue5
 t9:=Tryz.underlying9
 a9:=Tryz.isAgg9
 z9:=Tryz.sizeOf9
 v9:=Tryz.zeroValue9
 t46:=Tryz.underlying313
 a46:=Tryz.isAgg313
 z46:=Tryz.sizeOf313
 v46:=Tryz.zeroValue313
 t51:=Tryz.underlying222
 a51:=Tryz.isAgg222
 z51:=Tryz.sizeOf222
 v51:=Tryz.zeroValue222
 t146:=Tryz.underlying442
 a146:=Tryz.isAgg442
 z146:=Tryz.sizeOf442
 v146:=Tryz.zeroValue442
 g1:=by kernel_rfl }
open Go.RowKit Go.Lib in
theorem Tryz.strings_Index(s sub:ByteArray)(m:Int)(w:World)(hs:s.size<4294967281)(hm:w.cell? ⟨4,0,none⟩=some (.int .i64 m)):
  Calls Tryz.prog 200 #[.string s,.string sub] w λe w'=>e=.returned (.int .i64 (Lib.index s.data.toList sub.data.toList))/\w'=w:=Any.strings_Index Tryz.lays143 s sub m w hs hm
def Tryz.QN:Go.Shelf.Ren:=⟨λ|144=>163|143=>200|219=>227|217=>206|225=>238|224=>239|267=>240|266=>233|314=>251|n=>n,λ|9=>9|4=>4|3=>3|5=>5|46=>313|146=>442|51=>222|n=>n,λ|1=>4|n=>n⟩
theorem Tryz.lays144:Go.Proofs.Lays.n144 Tryz.prog Tryz.QN:={
 mixed:=by kernel_rfl
 f143:=Tryz.func200.trans (congrArg some (by kernel_rfl))
 f144:=Tryz.func163.trans (congrArg some (by kernel_rfl))
 f217:=Tryz.func206.trans (congrArg some (by kernel_rfl))
 f219:=Tryz.func227.trans (congrArg some (by kernel_rfl))
 f224:=Tryz.func239.trans (congrArg some (by kernel_rfl))
 f225:=Tryz.func238.trans (congrArg some (by kernel_rfl))
 f266:=Tryz.func233.trans (congrArg some (by kernel_rfl))
 f267:=Tryz.func240.trans (congrArg some (by kernel_rfl))
 f314:=Tryz.func251.trans (congrArg some (by kernel_rfl))
 t3:=Tryz.underlying3
 a3:=Tryz.isAgg3
 z3:=Tryz.sizeOf3
 v3:=Tryz.zeroValue3
 t4:=Tryz.underlying4
 a4:=Tryz.isAgg4
 z4:=Tryz.sizeOf4
 v4:=Tryz.zeroValue4
 t5:=Tryz.underlying5
 a5:=Tryz.isAgg5
 z5:=Tryz.sizeOf5
 v5:=Tryz.zeroValue5
 t9:=Tryz.underlying9
 a9:=Tryz.isAgg9
 z9:=Tryz.sizeOf9
 v9:=Tryz.zeroValue9
 t46:=Tryz.underlying313
 a46:=Tryz.isAgg313
 z46:=Tryz.sizeOf313
 v46:=Tryz.zeroValue313
 t51:=Tryz.underlying222
 a51:=Tryz.isAgg222
 z51:=Tryz.sizeOf222
 v51:=Tryz.zeroValue222
 t146:=Tryz.underlying442
 a146:=Tryz.isAgg442
 z146:=Tryz.sizeOf442
 v146:=Tryz.zeroValue442
 g1:=by kernel_rfl }
open Go.RowKit Go.Lib in
theorem Tryz.strings_Contains(s sub:ByteArray)(m:Int)(w:World)(hs:s.size<4294967281)(hm:w.cell? ⟨4,0,none⟩=some (.int .i64 m)):
  Calls Tryz.prog 163 #[.string s,.string sub] w λe w'=>e=.returned (.bool (Lib.contains s.data.toList sub.data.toList))/\w'=w:=Any.strings_Contains Tryz.lays144 s sub m w hs hm
def Tryz.lays198_ren:Go.Shelf.Ren:=⟨λ|198=>205|261=>232|311=>248|312=>249|n=>n,λ|21=>21|4=>4|141=>422|0=>0|196=>434|193=>431|3=>3|51=>222|198=>437|49=>435|194=>432|201=>440|226=>447|46=>313|227=>448|n=>n,λ|5=>3|n=>n⟩
theorem Tryz.lays198:Go.Proofs.Lays.n198 Tryz.prog Tryz.lays198_ren:={
 mixed:=by kernel_rfl
 f198:=Tryz.func205.trans (congrArg some (by kernel_rfl))
 f261:=Tryz.func232.trans (congrArg some (by kernel_rfl))
 f311:=Tryz.func248.trans (congrArg some (by kernel_rfl))
 f312:=Tryz.func249.trans (congrArg some (by kernel_rfl))
 t0:=Tryz.underlying0
 a0:=Tryz.isAgg0
 z0:=Tryz.sizeOf0
 v0:=Tryz.zeroValue0
 t3:=Tryz.underlying3
 a3:=Tryz.isAgg3
 z3:=Tryz.sizeOf3
 v3:=Tryz.zeroValue3
 t4:=Tryz.underlying4
 a4:=Tryz.isAgg4
 z4:=Tryz.sizeOf4
 v4:=Tryz.zeroValue4
 t21:=Tryz.underlying21
 a21:=Tryz.isAgg21
 z21:=Tryz.sizeOf21
 v21:=Tryz.zeroValue21
 t46:=Tryz.underlying313
 a46:=Tryz.isAgg313
 z46:=Tryz.sizeOf313
 v46:=Tryz.zeroValue313
 t49:=Tryz.underlying435
 a49:=Tryz.isAgg435
 z49:=Tryz.sizeOf435
 v49:=Tryz.zeroValue435
 t51:=Tryz.underlying222
 a51:=Tryz.isAgg222
 z51:=Tryz.sizeOf222
 v51:=Tryz.zeroValue222
 t141:=Tryz.underlying422
 a141:=Tryz.isAgg422
 z141:=Tryz.sizeOf422
 v141:=Tryz.zeroValue422
 t193:=Tryz.underlying431
 a193:=Tryz.isAgg431
 z193:=Tryz.sizeOf431
 v193:=Tryz.zeroValue431
 t194:=Tryz.underlying432
 a194:=Tryz.isAgg432
 z194:=Tryz.sizeOf432
 v194:=Tryz.zeroValue432
 t196:=Tryz.underlying434
 a196:=Tryz.isAgg434
 z196:=Tryz.sizeOf434
 v196:=Tryz.zeroValue434
 t198:=Tryz.underlying437
 a198:=Tryz.isAgg437
 z198:=Tryz.sizeOf437
 v198:=Tryz.zeroValue437
 t201:=Tryz.underlying440
 a201:=Tryz.isAgg440
 z201:=Tryz.sizeOf440
 v201:=Tryz.zeroValue440
 t226:=Tryz.underlying447
 a226:=Tryz.isAgg447
 z226:=Tryz.sizeOf447
 v226:=Tryz.zeroValue447
 t227:=Tryz.underlying448
 a227:=Tryz.isAgg448
 z227:=Tryz.sizeOf448
 v227:=Tryz.zeroValue448
 g5:=by kernel_rfl }
open Go.RowKit Go.Lib in
theorem Tryz.unicode_IsDigit(r:Int)(w:World)(h:r<=255):
  Calls Tryz.prog 205 #[.int .i32 r] w λe w'=>e=.returned (.bool (Lib.isDigitL r))/\w'=w:=Any.unicode_IsDigit Tryz.lays198 r w h
def Tryz.lays200_ren:Go.Shelf.Ren:=⟨λ|200=>204|261=>232|311=>248|312=>249|n=>n,λ|21=>21|4=>4|51=>222|5=>5|119=>420|0=>0|141=>422|196=>434|193=>431|3=>3|198=>437|49=>435|194=>432|201=>440|226=>447|46=>313|227=>448|n=>n,λ|7=>1|8=>2|n=>n⟩
theorem Tryz.lays200:Go.Proofs.Lays.n200 Tryz.prog Tryz.lays200_ren:={
 mixed:=by kernel_rfl
 f200:=Tryz.func204.trans (congrArg some (by kernel_rfl))
 f261:=Tryz.func232.trans (congrArg some (by kernel_rfl))
 f311:=Tryz.func248.trans (congrArg some (by kernel_rfl))
 f312:=Tryz.func249.trans (congrArg some (by kernel_rfl))
 t0:=Tryz.underlying0
 a0:=Tryz.isAgg0
 z0:=Tryz.sizeOf0
 v0:=Tryz.zeroValue0
 t3:=Tryz.underlying3
 a3:=Tryz.isAgg3
 z3:=Tryz.sizeOf3
 v3:=Tryz.zeroValue3
 t4:=Tryz.underlying4
 a4:=Tryz.isAgg4
 z4:=Tryz.sizeOf4
 v4:=Tryz.zeroValue4
 t5:=Tryz.underlying5
 a5:=Tryz.isAgg5
 z5:=Tryz.sizeOf5
 v5:=Tryz.zeroValue5
 t21:=Tryz.underlying21
 a21:=Tryz.isAgg21
 z21:=Tryz.sizeOf21
 v21:=Tryz.zeroValue21
 t46:=Tryz.underlying313
 a46:=Tryz.isAgg313
 z46:=Tryz.sizeOf313
 v46:=Tryz.zeroValue313
 t49:=Tryz.underlying435
 a49:=Tryz.isAgg435
 z49:=Tryz.sizeOf435
 v49:=Tryz.zeroValue435
 t51:=Tryz.underlying222
 a51:=Tryz.isAgg222
 z51:=Tryz.sizeOf222
 v51:=Tryz.zeroValue222
 t119:=Tryz.underlying420
 a119:=Tryz.isAgg420
 z119:=Tryz.sizeOf420
 t141:=Tryz.underlying422
 a141:=Tryz.isAgg422
 z141:=Tryz.sizeOf422
 v141:=Tryz.zeroValue422
 t193:=Tryz.underlying431
 a193:=Tryz.isAgg431
 z193:=Tryz.sizeOf431
 v193:=Tryz.zeroValue431
 t194:=Tryz.underlying432
 a194:=Tryz.isAgg432
 z194:=Tryz.sizeOf432
 v194:=Tryz.zeroValue432
 t196:=Tryz.underlying434
 a196:=Tryz.isAgg434
 z196:=Tryz.sizeOf434
 v196:=Tryz.zeroValue434
 t198:=Tryz.underlying437
 a198:=Tryz.isAgg437
 z198:=Tryz.sizeOf437
 v198:=Tryz.zeroValue437
 t201:=Tryz.underlying440
 a201:=Tryz.isAgg440
 z201:=Tryz.sizeOf440
 v201:=Tryz.zeroValue440
 t226:=Tryz.underlying447
 a226:=Tryz.isAgg447
 z226:=Tryz.sizeOf447
 v226:=Tryz.zeroValue447
 t227:=Tryz.underlying448
 a227:=Tryz.isAgg448
 z227:=Tryz.sizeOf448
 v227:=Tryz.zeroValue448
 g7:=by kernel_rfl
 g8:=by kernel_rfl }
open Go.RowKit Go.Lib in
theorem Tryz.unicode_IsLetter(c:Nat)(w:World)(hc:c<256)(htab:Lib.TabIs Tryz.prog w "unicode.properties" .u8 Lib.propertiesTab):
  Calls Tryz.prog 204 #[.int .i32 c] w λe w'=>e=.returned (.bool (Lib.isLetterL c))/\w'=w:=Any.unicode_IsLetter Tryz.lays200 (by kernel_rfl) c w hc htab
def Tryz.lays151_ren:Go.Shelf.Ren:=⟨λ|151=>202|152=>229|137=>164|119=>241|224=>239|225=>238|217=>206|266=>233|n=>n,λ|9=>9|21=>21|4=>4|3=>3|5=>5|0=>0|46=>313|n=>n,λ|n=>n⟩
theorem Tryz.lays151:Go.Proofs.Lays.n151 Tryz.prog Tryz.lays151_ren:={
 mixed:=by kernel_rfl
 f119:=Tryz.func241.trans (congrArg some (by kernel_rfl))
 f137:=Tryz.func164.trans (congrArg some (by kernel_rfl))
 f151:=Tryz.func202.trans (congrArg some (by kernel_rfl))
 f152:=Tryz.func229.trans (congrArg some (by kernel_rfl))
 f217:=Tryz.func206.trans (congrArg some (by kernel_rfl))
 f224:=Tryz.func239.trans (congrArg some (by kernel_rfl))
 f225:=Tryz.func238.trans (congrArg some (by kernel_rfl))
 f266:=Tryz.func233.trans (congrArg some (by kernel_rfl))
 t0:=Tryz.underlying0
 a0:=Tryz.isAgg0
 z0:=Tryz.sizeOf0
 v0:=Tryz.zeroValue0
 t3:=Tryz.underlying3
 a3:=Tryz.isAgg3
 z3:=Tryz.sizeOf3
 v3:=Tryz.zeroValue3
 t4:=Tryz.underlying4
 a4:=Tryz.isAgg4
 z4:=Tryz.sizeOf4
 v4:=Tryz.zeroValue4
 t5:=Tryz.underlying5
 a5:=Tryz.isAgg5
 z5:=Tryz.sizeOf5
 v5:=Tryz.zeroValue5
 t9:=Tryz.underlying9
 a9:=Tryz.isAgg9
 z9:=Tryz.sizeOf9
 v9:=Tryz.zeroValue9
 t21:=Tryz.underlying21
 a21:=Tryz.isAgg21
 z21:=Tryz.sizeOf21
 v21:=Tryz.zeroValue21
 t46:=Tryz.underlying313
 a46:=Tryz.isAgg313
 z46:=Tryz.sizeOf313
 v46:=Tryz.zeroValue313 }
open Go.RowKit Go.Lib in
theorem Tryz.strings_ContainsRune_ascii(s:ByteArray)(r:Int)(w:World)(h0:0<=r)(h1:r<128):
  Calls Tryz.prog 202 #[.string s,.int .i32 r] w λe w'=>e=.returned (.bool (decide (0<=Lib.indexByte s.data.toList r.toNat.toUInt8)))/\w'=w:=Any.strings_ContainsRune_ascii Tryz.lays151 s r w h0 h1
def Tryz.QM:Go.Shelf.Ren:=⟨λ|227=>223|n=>n,λ|9=>9|116=>413|4=>4|0=>0|3=>3|5=>5|n=>n,λ|n=>n⟩
theorem Tryz.abV:Go.Proofs.Lays.n227 Tryz.prog Tryz.QM:={
 mixed:=by kernel_rfl
 f227:=Tryz.func223.trans (congrArg some (by kernel_rfl))
 t0:=Tryz.underlying0
 a0:=Tryz.isAgg0
 z0:=Tryz.sizeOf0
 v0:=Tryz.zeroValue0
 t3:=Tryz.underlying3
 a3:=Tryz.isAgg3
 z3:=Tryz.sizeOf3
 v3:=Tryz.zeroValue3
 t4:=Tryz.underlying4
 a4:=Tryz.isAgg4
 z4:=Tryz.sizeOf4
 v4:=Tryz.zeroValue4
 t5:=Tryz.underlying5
 a5:=Tryz.isAgg5
 z5:=Tryz.sizeOf5
 v5:=Tryz.zeroValue5
 t9:=Tryz.underlying9
 a9:=Tryz.isAgg9
 z9:=Tryz.sizeOf9
 v9:=Tryz.zeroValue9
 t116:=Tryz.underlying413
 a116:=Tryz.isAgg413
 z116:=Tryz.sizeOf413 }
open Go.RowKit Go.Lib in
theorem Tryz.strings_makeASCIISet(hv116:∀w,(zeroValue 413).run Tryz.prog w=.ok (.agg (Array.replicate 256 (.bool false))) w)(chars:ByteArray)(w:World)(hs:chars.size<4294967281)(hascii:∀(j:Nat) b,chars.data.toList[j]?=some b->b.toNat<128):
  Calls Tryz.prog 223 #[.string chars] w λe w'=>e=.returned (.tuple #[.agg (Lib.setCells chars.data.toList),.bool true])/\w'=w.alloc (.cells (Lib.setCells chars.data.toList) 413):=Any.strings_makeASCIISet Tryz.abV hv116 (by kernel_rfl) chars w hs hascii
def Tryz.QL:Go.Shelf.Ren:=⟨λ|228=>236|n=>n,λ|124=>417|5=>5|4=>4|0=>0|116=>413|n=>n,λ|n=>n⟩
theorem Tryz.abU:Go.Proofs.Lays.n228 Tryz.prog Tryz.QL:={
 mixed:=by kernel_rfl
 f228:=Tryz.func236.trans (congrArg some (by kernel_rfl))
 t0:=Tryz.underlying0
 a0:=Tryz.isAgg0
 z0:=Tryz.sizeOf0
 v0:=Tryz.zeroValue0
 t4:=Tryz.underlying4
 a4:=Tryz.isAgg4
 z4:=Tryz.sizeOf4
 v4:=Tryz.zeroValue4
 t5:=Tryz.underlying5
 a5:=Tryz.isAgg5
 z5:=Tryz.sizeOf5
 v5:=Tryz.zeroValue5
 t116:=Tryz.underlying413
 a116:=Tryz.isAgg413
 z116:=Tryz.sizeOf413
 t124:=Tryz.underlying417
 a124:=Tryz.isAgg417
 z124:=Tryz.sizeOf417
 v124:=Tryz.zeroValue417 }
open Go.RowKit Go.Lib in
theorem Tryz.asciiSet_contains(b:Nat)(x:UInt8)(v:Bool)(w:World)(hc:w.cell? ⟨b,x.toNat,none⟩=some (.bool v)):
  Calls Tryz.prog 236 #[.pointer (some ⟨b,0,none⟩),.int .u8 x.toNat] w λe w'=>e=.returned (.bool v)/\w'=w:=Any.asciiSet_contains Tryz.abU b x v w hc
end Go.Proofs
