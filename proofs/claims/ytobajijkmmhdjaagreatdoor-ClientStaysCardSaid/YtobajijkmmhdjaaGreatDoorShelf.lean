/-
  A part of the proof of ClientStays (the machine on named data, and the contracts of the functions that the law reaches). Its names and spaces were shortened by a program of ours.
-/
import Derived.Shelf.Strings.Builder1
import Derived.Shelf.Strings.Builder2
import Derived.Shelf.Strings.OnBuilder
import Derived.Shelf.Small.Bits
import Derived.Shelf.Small.Strs
import Derived.Test.YtobajijkmmhdjaaGreatDoorProg
set_option linter.all false
namespace Go.Proofs
open Go.Shelf
def Tryz.lays158_ren:Go.Shelf.Ren:=⟨fun|158=>116|165=>139|166=>140|167=>141|169=>142|230=>143|203=>144|240=>164|241=>165|197=>166|118=>167|168=>168|270=>169|262=>170|276=>187|277=>188|260=>189|242=>190|313=>191|278=>194|274=>195|275=>196|n=>n,fun|9=>9|4=>4|3=>3|5=>5|72=>236|0=>0|76=>239|75=>238|107=>243|70=>234|20=>20|37=>44|127=>270|21=>21|105=>271|164=>293|162=>298|203=>296|119=>300|46=>40|139=>303|138=>302|51=>24|160=>304|208=>310|206=>308|80=>175|n=>n,fun|13=>4|3=>5|4=>6|n=>n⟩
theorem Tryz.lays158:Go.Proofs.Lays.n158 Tryz.prog Tryz.lays158_ren:={
 mixed:=by kernel_rfl
 f118:=Tryz.func167.trans (congrArg some (by kernel_rfl))
 f158:=Tryz.func116.trans (congrArg some (by kernel_rfl))
 f165:=Tryz.func139.trans (congrArg some (by kernel_rfl))
 f166:=Tryz.func140.trans (congrArg some (by kernel_rfl))
 f167:=Tryz.func141.trans (congrArg some (by kernel_rfl))
 f168:=Tryz.func168.trans (congrArg some (by kernel_rfl))
 f169:=Tryz.func142.trans (congrArg some (by kernel_rfl))
 f197:=Tryz.func166.trans (congrArg some (by kernel_rfl))
 f203:=Tryz.func144.trans (congrArg some (by kernel_rfl))
 f230:=Tryz.func143.trans (congrArg some (by kernel_rfl))
 f240:=Tryz.func164.trans (congrArg some (by kernel_rfl))
 f241:=Tryz.func165.trans (congrArg some (by kernel_rfl))
 f242:=Tryz.func190.trans (congrArg some (by kernel_rfl))
 f260:=Tryz.func189.trans (congrArg some (by kernel_rfl))
 f262:=Tryz.func170.trans (congrArg some (by kernel_rfl))
 f270:=Tryz.func169.trans (congrArg some (by kernel_rfl))
 f274:=Tryz.func195.trans (congrArg some (by kernel_rfl))
 f275:=Tryz.func196.trans (congrArg some (by kernel_rfl))
 f276:=Tryz.func187.trans (congrArg some (by kernel_rfl))
 f277:=Tryz.func188.trans (congrArg some (by kernel_rfl))
 f278:=Tryz.func194.trans (congrArg some (by kernel_rfl))
 f313:=Tryz.func191.trans (congrArg some (by kernel_rfl))
 t0:=Tryz.underlying0
 a0:=Tryz.isAgg0
 z0:=Tryz.sizeOf0
 v0:=Tryz.zeroValue0
 t3:=Tryz.underlying3
 a3:=Tryz.isAgg3
 z3:=Tryz.sizeOf3
 v3:=Tryz.zeroValue3
 t4:=Tryz.underlying4
 a4:=Tryz.isAgg4
 z4:=Tryz.sizeOf4
 v4:=Tryz.zeroValue4
 t5:=Tryz.underlying5
 a5:=Tryz.isAgg5
 z5:=Tryz.sizeOf5
 v5:=Tryz.zeroValue5
 t9:=Tryz.underlying9
 a9:=Tryz.isAgg9
 z9:=Tryz.sizeOf9
 v9:=Tryz.zeroValue9
 t20:=Tryz.underlying20
 a20:=Tryz.isAgg20
 z20:=Tryz.sizeOf20
 v20:=Tryz.zeroValue20
 t21:=Tryz.underlying21
 a21:=Tryz.isAgg21
 z21:=Tryz.sizeOf21
 v21:=Tryz.zeroValue21
 t37:=Tryz.underlying44
 a37:=Tryz.isAgg44
 z37:=Tryz.sizeOf44
 v37:=Tryz.zeroValue44
 t46:=Tryz.underlying40
 a46:=Tryz.isAgg40
 z46:=Tryz.sizeOf40
 v46:=Tryz.zeroValue40
 t51:=Tryz.underlying24
 a51:=Tryz.isAgg24
 z51:=Tryz.sizeOf24
 v51:=Tryz.zeroValue24
 t70:=Tryz.underlying234
 a70:=Tryz.isAgg234
 z70:=Tryz.sizeOf234
 v70:=Tryz.zeroValue234
 t72:=Tryz.underlying236
 a72:=Tryz.isAgg236
 z72:=Tryz.sizeOf236
 v72:=Tryz.zeroValue236
 t75:=Tryz.underlying238
 a75:=Tryz.isAgg238
 z75:=Tryz.sizeOf238
 v75:=Tryz.zeroValue238
 t76:=Tryz.underlying239
 a76:=Tryz.isAgg239
 z76:=Tryz.sizeOf239
 v76:=Tryz.zeroValue239
 t105:=Tryz.underlying271
 a105:=Tryz.isAgg271
 z105:=Tryz.sizeOf271
 v105:=Tryz.zeroValue271
 t107:=Tryz.underlying243
 a107:=Tryz.isAgg243
 z107:=Tryz.sizeOf243
 v107:=Tryz.zeroValue243
 t119:=Tryz.underlying300
 a119:=Tryz.isAgg300
 z119:=Tryz.sizeOf300
 t127:=Tryz.underlying270
 a127:=Tryz.isAgg270
 z127:=Tryz.sizeOf270
 v127:=Tryz.zeroValue270
 t138:=Tryz.underlying302
 a138:=Tryz.isAgg302
 z138:=Tryz.sizeOf302
 v138:=Tryz.zeroValue302
 t139:=Tryz.underlying303
 a139:=Tryz.isAgg303
 z139:=Tryz.sizeOf303
 v139:=Tryz.zeroValue303
 t160:=Tryz.underlying304
 a160:=Tryz.isAgg304
 z160:=Tryz.sizeOf304
 v160:=Tryz.zeroValue304
 t162:=Tryz.underlying298
 a162:=Tryz.isAgg298
 z162:=Tryz.sizeOf298
 v162:=Tryz.zeroValue298
 t164:=Tryz.underlying293
 a164:=Tryz.isAgg293
 z164:=Tryz.sizeOf293
 v164:=Tryz.zeroValue293
 t203:=Tryz.underlying296
 a203:=Tryz.isAgg296
 z203:=Tryz.sizeOf296
 v203:=Tryz.zeroValue296
 t206:=Tryz.underlying308
 a206:=Tryz.isAgg308
 z206:=Tryz.sizeOf308
 v206:=Tryz.zeroValue308
 t208:=Tryz.underlying310
 a208:=Tryz.isAgg310
 z208:=Tryz.sizeOf310
 v208:=Tryz.zeroValue310
 g3:=by kernel_rfl
 g4:=by kernel_rfl
 g13:=by kernel_rfl}
theorem Tryz.Builder_Extra_158:Builder.Extra Tryz.prog Tryz.lays158_ren:={
 sizeBuilder:=by kernel_rfl
 liesBuilder:=by kernel_rfl
 t5:=Tryz.underlying5
 a5:=Tryz.isAgg5
 z5:=Tryz.sizeOf5
 v5:=Tryz.zeroValue5
 infoByte:=by kernel_rfl
 cellsByte:=by kernel_rfl
 sizeByte:=by kernel_rfl
 neB5:=by decide}
open Go.RowKit in
theorem Tryz.strings_ToUpper_ascii(s:ByteArray)(w:World)(hs:s.size≤140737488355328)(hascii:∀(j:Nat) (b:UInt8),s.data.toList[j]? =some b→b.toNat<128):
  Calls Tryz.prog 116 #[.string s] w fun e w'=>e=.returned (.string ⟨(Lib.toUpperA s.data.toList).toArray⟩)∧Below w.heap.size w w':=Any.strings_ToUpper_ascii Tryz.lays158 Tryz.Builder_Extra_158 s w hs hascii
def Tryz.lays125_ren:Go.Shelf.Ren:=⟨fun|125=>112|128=>134|129=>135|n=>n,fun|46=>40|3=>3|51=>24|53=>27|4=>4|5=>5|9=>9|n=>n,fun|n=>n⟩
theorem Tryz.lays125:Go.Proofs.Lays.n125 Tryz.prog Tryz.lays125_ren:={
 mixed:=by kernel_rfl
 f125:=Tryz.func112.trans (congrArg some (by kernel_rfl))
 f128:=Tryz.func134.trans (congrArg some (by kernel_rfl))
 f129:=Tryz.func135.trans (congrArg some (by kernel_rfl))
 t3:=Tryz.underlying3
 a3:=Tryz.isAgg3
 z3:=Tryz.sizeOf3
 v3:=Tryz.zeroValue3
 t4:=Tryz.underlying4
 a4:=Tryz.isAgg4
 z4:=Tryz.sizeOf4
 v4:=Tryz.zeroValue4
 t5:=Tryz.underlying5
 a5:=Tryz.isAgg5
 z5:=Tryz.sizeOf5
 v5:=Tryz.zeroValue5
 t9:=Tryz.underlying9
 a9:=Tryz.isAgg9
 z9:=Tryz.sizeOf9
 v9:=Tryz.zeroValue9
 t46:=Tryz.underlying40
 a46:=Tryz.isAgg40
 z46:=Tryz.sizeOf40
 v46:=Tryz.zeroValue40
 t51:=Tryz.underlying24
 a51:=Tryz.isAgg24
 z51:=Tryz.sizeOf24
 v51:=Tryz.zeroValue24
 t53:=Tryz.underlying27
 a53:=Tryz.isAgg27
 z53:=Tryz.sizeOf27
 v53:=Tryz.zeroValue27}
theorem Tryz.bits_Len(x:Int)(w:World)(h0:0≤x)(h1:x≤18446744073709551615):
  Calls Tryz.prog 112 #[.int .u64 x] w fun e w'=>e=.returned (.int .i64 (Lib.bitLen x.toNat))∧w'=w:=Any.bits_Len Tryz.lays125 x w h0 h1
end Go.Proofs
