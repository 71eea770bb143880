/-
  A part of the proof of ClientStays (the machine on named data, and the contracts of the functions that the law reaches). Its names and spaces were shortened by a program of ours.
-/
import Derived.Ground.SlgnProg
import Derived.Shelf.SlicesE.Reverse
import Derived.Shelf.SlicesE.Clone
import Derived.Test.YtobajijkmmhdjaaGreatDoorProg
set_option linter.all false
namespace Go.Proofs
open Go.Shelf
def Tryz.laysSlE35_f175_ren:Go.Shelf.Ren:=⟨fun|35=>175|n=>n,fun|22=>278|23=>4|3=>3|4=>4|0=>0|n=>n,fun|n=>n⟩
theorem Tryz.laysSlE35_f175:Go.Proofs.SlLaysE.n35 Tryz.prog Tryz.laysSlE35_f175_ren:={
 mixed:=by kernel_rfl
 f35:=⟨Tryz.f175.name,by decide,Tryz.func175.trans (congrArg some (by kernel_rfl))⟩
 t0:=Tryz.underlying0
 a0:=Tryz.isAgg0
 z0:=Tryz.sizeOf0
 v0:=Tryz.zeroValue0
 t3:=Tryz.underlying3
 a3:=Tryz.isAgg3
 z3:=Tryz.sizeOf3
 v3:=Tryz.zeroValue3
 t4:=Tryz.underlying4
 a4:=Tryz.isAgg4
 z4:=Tryz.sizeOf4
 v4:=Tryz.zeroValue4
 t22:=Tryz.underlying278
 a22:=Tryz.isAgg278
 z22:=Tryz.sizeOf278
 v22:=Tryz.zeroValue278
 a23:=Tryz.isAgg4
 z23:=Tryz.sizeOf4}
open Go.RowKit Go.Lib Go.Sort in
theorem Tryz.slices_Reverse{α:Type}[Inhabited α](enc:α→Value)(h1:OneCell enc)(blk off cap:Nat)(zs:List α)(w:World)(hH:Holds enc w blk off zs.toArray)(hsz:zs.length≤9223372036854775807):
  Calls Tryz.prog 175 #[.slice (some ⟨blk,off,none⟩) zs.length cap] w fun e w'=>e=.returned (.tuple #[])∧∃n,w'=putRow enc (Sort.ahead w n) blk off zs.reverse.toArray:=AnyE.slices_Reverse Tryz.laysSlE35_f175 enc h1 blk off cap zs w hH hsz
open Go.RowKit Go.Lib Go.Sort in
theorem Tryz.slices_Reverse_empty(a:Option Addr)(cap:Nat)(w:World):
  Calls Tryz.prog 175 #[.slice a 0 cap] w fun e w'=>e=.returned (.tuple #[])∧w'=w:=AnyE.slices_Reverse_empty Tryz.laysSlE35_f175 a cap w
def Tryz.laysSlE41_f47_ren:Go.Shelf.Ren:=⟨fun|41=>47|n=>n,fun|22=>34|23=>31|4=>4|n=>n,fun|n=>n⟩
theorem Tryz.laysSlE41_f47:Go.Proofs.SlLaysE0.n41 Tryz.prog Tryz.laysSlE41_f47_ren:={
 mixed:=by kernel_rfl
 f41:=⟨Tryz.f47.name,by decide,Tryz.func47.trans (congrArg some (by kernel_rfl))⟩
 t4:=Tryz.underlying4
 a4:=Tryz.isAgg4
 z4:=Tryz.sizeOf4
 v4:=Tryz.zeroValue4
 t22:=Tryz.underlying34
 a22:=Tryz.isAgg34
 z22:=Tryz.sizeOf34
 v22:=Tryz.zeroValue34}
def Tryz.laysSlE41_f51_ren:Go.Shelf.Ren:=⟨fun|41=>51|n=>n,fun|22=>41|23=>122|4=>4|n=>n,fun|n=>n⟩
theorem Tryz.laysSlE41_f51:Go.Proofs.SlLaysE0.n41 Tryz.prog Tryz.laysSlE41_f51_ren:={
 mixed:=by kernel_rfl
 f41:=⟨Tryz.f51.name,by decide,Tryz.func51.trans (congrArg some (by kernel_rfl))⟩
 t4:=Tryz.underlying4
 a4:=Tryz.isAgg4
 z4:=Tryz.sizeOf4
 v4:=Tryz.zeroValue4
 t22:=Tryz.underlying41
 a22:=Tryz.isAgg41
 z22:=Tryz.sizeOf41
 v22:=Tryz.zeroValue41}
def Tryz.laysSlE41_f52_ren:Go.Shelf.Ren:=⟨fun|41=>52|n=>n,fun|22=>122|23=>26|4=>4|n=>n,fun|n=>n⟩
theorem Tryz.laysSlE41_f52:Go.Proofs.SlLaysE0.n41 Tryz.prog Tryz.laysSlE41_f52_ren:={
 mixed:=by kernel_rfl
 f41:=⟨Tryz.f52.name,by decide,Tryz.func52.trans (congrArg some (by kernel_rfl))⟩
 t4:=Tryz.underlying4
 a4:=Tryz.isAgg4
 z4:=Tryz.sizeOf4
 v4:=Tryz.zeroValue4
 t22:=Tryz.underlying122
 a22:=Tryz.isAgg122
 z22:=Tryz.sizeOf122
 v22:=Tryz.zeroValue122}
end Go.Proofs
