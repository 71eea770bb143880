/-
  A part of the proof of ClientStays (the machine on named data, and the contracts of the functions that the law reaches). Its names and spaces were shortened by a program of ours.
-/
import Derived.Calls
import GoSem.Claims
import Derived.Laws.AppendOwn
import GoSem.ClaimKeys
set_option linter.all false
noncomputable section
namespace Go.AM
open Go
abbrev ACH:=@Bool.and_eq_true
abbrev ACI:=@List.getD_eq_getElem?_getD
abbrev ACJ:=@Option.some.injEq
abbrev ACK:=@decide_eq_false_iff_not
abbrev ACL:=@List.getElem?_eq_getElem
abbrev ACN:=@decide_eq_true_eq
abbrev ACO:=@List.map_cons
abbrev ACP:=@Prod.mk.injEq
abbrev ACQ:=@Array.getElem?_eq_some_iff
abbrev ACR:=@decide_eq_false
abbrev ACS:=@List.map_nil
abbrev ACT:=@List.length_append
abbrev ACU:=@List.mem_cons
abbrev ACV:=@List.getElem?_append_right
abbrev ACW:=@List.getElem?_eq_some_iff
abbrev ACX:=@List.length_map
abbrev ACY:=@Nat.beq_eq
abbrev ACZ:=@Int.ofNat_eq_natCast
abbrev ACa:=@Option.map_eq_some_iff
abbrev ACb:=@decide_eq_true
abbrev ACc:=@List.getElem?_append_left
abbrev ACd:=@List.map_append
abbrev ACe:=@List.length_cons
abbrev ACf:=@List.mem_iff_getElem?
abbrev ACg:=@List.take_of_length_le
abbrev ACh:=@List.length_take
abbrev ACi:=@List.length_eq_zero_iff
abbrev ACj:=@List.drop_eq_getElem_cons
abbrev ACk:=@Nat.zero_add
abbrev ACl:=@List.getElem?_cons_zero
abbrev ACm:=@List.not_mem_nil
abbrev ACn:=@Nat.ble_eq
abbrev ACo:=@Option.getD_some
abbrev ACp:=@Array.length_toList
abbrev ACq:=@Array.getElem?_eq_getElem
abbrev ACr:=@List.getD_cons_succ
abbrev ACs:=@List.mem_singleton
abbrev ACt:=@List.all_eq_true
abbrev ACu:=@List.mem_cons_of_mem
abbrev ACv:=@Nat.le_refl
abbrev ACw:=@List.getElem?_map
abbrev ACx:=@Nat.mul_le_mul_right
abbrev ACy:=@List.append_assoc
abbrev ACz:=@List.take_append_of_le_length
abbrev AC0:=@List.getElem?_cons_succ
abbrev AC1:=@List.drop_zero
abbrev AC2:=@List.drop_of_length_le
abbrev AC3:=@Bool.false_eq_true
abbrev AC4:=@List.getD_cons_zero
abbrev AC5:=@Int.toNat_natCast
abbrev AC6:=@List.getElem?_take
abbrev AC7:=@List.getElem_mem
abbrev AC8:=@List.getElem?_eq_none
abbrev AC9:=@List.getElem?_drop
abbrev ADA:=@List.length_drop
abbrev ADB:=@Array.eq_empty_of_size_eq_zero
abbrev ADC:=@List.mem_of_mem_drop
abbrev ADD:=@List.nil_append
abbrev ADE:=@List.flatten_cons
abbrev ADF:=@Option.map_some
abbrev ADG:=@List.getElem?_take_of_lt
abbrev ADH:=@Nat.add_mul
abbrev ADI:=@Nat.eq_of_beq_eq_true
abbrev ADJ:=@List.length_singleton
abbrev ADK:=@Array.getD_eq_getD_getElem?
abbrev ADL:=@List.drop_append_of_le_length
abbrev ADM:=@Int.eq_ofNat_of_zero_le
abbrev ADN:=@List.map_congr_left
abbrev ADO:=@Nat.zero_le
abbrev ADP:=@List.drop_eq_nil_of_le
abbrev ADQ:=@List.map_map
abbrev ADR:=@List.mem_append
abbrev ADS:=@List.take_succ_cons
abbrev ADT:=@Nat.mul_comm
abbrev ADU:=@List.length_nil
abbrev ADV:=@List.getElem?_toArray
abbrev ADW:=@Bool.or_eq_true
abbrev ADX:=@Array.ext'
abbrev ADY:=@List.cons_append
abbrev ADZ:=@Nat.min_eq_left
abbrev ADa:=@List.cons.injEq
abbrev ADb:=@Int.fdiv_eq_ediv_of_nonneg
abbrev ADc:=@Bool.not_eq_true'
abbrev ADd:=@Nat.lt_or_ge
abbrev ADe:=@Nat.le_of_ble_eq_true
abbrev ADf:=@Nat.add_zero
abbrev ADg:=@List.append_nil
abbrev ADh:=@List.ext_getElem?
abbrev ADi:=@List.length_eq_one_iff
abbrev ADj:=@List.mem_or_eq_of_mem_set
abbrev ADk:=@Nat.lt_succ_self
abbrev ADl:=@List.eq_nil_of_length_eq_zero
abbrev ADm:=@List.size_toArray
abbrev ADn:=@Option.some.inj
abbrev ADo:=@Nat.sub_zero
abbrev ADp:=@Nat.ne_of_beq_eq_false
abbrev ADq:=@List.length_reverse
abbrev ADr:=@List.drop_succ_cons
abbrev ADs:=@Array.size_append
abbrev ADt:=@Array.getElem?_setIfInBounds_ne
abbrev ADu:=@Bool.and_false
abbrev ADv:=@Nat.beq_refl
abbrev ADw:=@List.mem_map
abbrev ADx:=@ByteArray.size_append
abbrev ADy:=@Array.getElem?_replicate
abbrev ADz:=@Nat.mod_eq_of_lt
abbrev AD0:=@Array.toList_inj
abbrev AD1:=@List.mem_of_mem_take
abbrev AD2:=@Nat.add_sub_cancel_left
abbrev AD3:=@Nat.zero_mul
abbrev AD4:=@Nat.mod_lt
abbrev AD5:=@List.flatMap_cons
abbrev AD6:=@Nat.mul_one
abbrev AD7:=@List.replicate_succ
abbrev AD8:=@Array.toList_append
abbrev AD9:=@Array.getElem?_append_left
abbrev AEA:=@Option.getD_none
abbrev AEB:=@Nat.le_trans
abbrev AEC:=@List.take_append_drop
abbrev AED:=@List.mem_cons_self
abbrev AEE:=@Nat.shiftRight_eq_div_pow
abbrev AEF:=@Nat.lt_trichotomy
abbrev AEG:=@Bool.eq_iff_iff
abbrev AEH:=@Prod.mk.inj
abbrev AEI:=@List.map_flatten
abbrev AEJ:=@Nat.succ_mul
abbrev AEK:=@Nat.mul_add_mod
abbrev AEL:=@Nat.div_lt_iff_lt_mul
abbrev AEM:=@Nat.div_add_mod
abbrev AEN:=@Bool.and_eq_false_iff
abbrev AEO:=@Nat.pow_le_pow_right
abbrev AEP:=@List.pairwise_iff_getElem
abbrev AEQ:=@List.drop_drop
abbrev AER:=@Nat.div_eq_of_lt
abbrev AES:=@List.take_length
abbrev AET:=@Nat.mod_one
abbrev AEU:=@List.takeWhile_cons
abbrev AEV:=@List.map_id
abbrev AEW:=@Nat.ne_of_lt
abbrev AEX:=@Option.bind_eq_some_iff
abbrev AEY:=@Nat.mul_add_div
abbrev AEZ:=@Nat.add_assoc
abbrev AEa:=@List.getElem?_replicate
abbrev AEb:=@List.all_cons
abbrev AEc:=@Bool.and_true
abbrev AEd:=@Nat.testBit_lt_two_pow
abbrev AEe:=@List.getElem?_set_self
abbrev AEf:=@Array.getElem?_eq_none
abbrev AEg:=@List.length_range
abbrev AEh:=@List.take_take
abbrev AEi:=@Array.getElem?_toList
abbrev AEj:=@List.mem_of_getElem?
abbrev AEk:=@Bool.or_eq_false_iff
abbrev AEl:=@Bool.true_and
abbrev AEm:=@Nat.div_one
abbrev AEn:=@List.length_set
abbrev AEo:=@List.foldl_cons
abbrev AEp:=@Nat.min_self
inductive DV where
 |int (k:IntKind) (z:Int)
 |bool (b:Bool)
 |str (s:ByteArray)
 |list (es:List (List DV))
inductive Ty where
 |int (k:IntKind)
 |bool
 |str
 |slice (cs:List Ty)
inductive SX where
 |v (i:Nat)
 |ki (k:IntKind) (z:Int)
 |kb (b:Bool)
 |ks (s:ByteArray)
 |emp
 |len (e:SX)
 |at (e i:SX) (c:Nat)
 |byte (e i:SX)
 |bin (op:BinOp) (x y:SX)
 |conv (k:IntKind) (x:SX)
 |not (x:SX)
 |cut (e lo hi:SX)
 |cat (x y:SX)
 |bytes (e:SX)
 |text (e:SX)
 |all (es:List SX)
 |app (f:Nat) (es:List SX)
 |row (es:List SX)
 |upd (e i:SX) (c:Nat) (x:SX)
 |fit (e x:SX)
structure Rho where
 ρ:Nat→DV
 I:Nat→List DV→DV
def F7(op:BinOp)(k:IntKind)(x y:Int):Int:=
 match op with
 |.and=>k.wrap (BitVec.ofInt k.bits x&&& BitVec.ofInt k.bits y).toNat
 |.or=>k.wrap (BitVec.ofInt k.bits x|||BitVec.ofInt k.bits y).toNat
 |.xor=>k.wrap (BitVec.ofInt k.bits x^^^BitVec.ofInt k.bits y).toNat
 |_=>k.wrap (BitVec.ofInt k.bits x&&& ~~~BitVec.ofInt k.bits y).toNat
open Classical in
def nR:List (List DV)→List (List DV)→Bool
 | [r],fs=>decide (r∈fs)
 |_,_=>false
def AZ(op:BinOp)(a b:DV):DV:=
 match a,b with
 |.int k x,.int l y=>match op with
  |.lss=>.bool (decide (x<y))
  |.eql=>.bool (decide (k=l)&&decide (x=y))
  |.add=>.int k (k.wrap (x+y))
  |.sub=>.int k (k.wrap (x-y))
  |.mul=>.int k (k.wrap (x*y))
  |.shr=>.int k (x.fdiv (2^min y.toNat k.bits))
  |.shl=>.int k (k.wrap (x*2^min y.toNat k.bits))
  |.quo=>.int k (k.wrap (x.tdiv y))
  |.rem=>.int k (x.tmod y)
  |op=>.int k (F7 op k x y)
 |.bool x,.bool y=>.bool (x==y)
 |.str x,.str y=>match op with
  |.eql=>.bool (decide (x=y))
  |_=>.bool (Op.bytesLess x.toList y.toList)
 |.list x,.list y=>.bool (nR x y)
 |_,_=>.bool false
def Bm:DV→DV
 |.str s=>.int .i64 s.size
 |.list es=>.int .i64 es.length
 |_=>.bool false
def atD(e i:DV)(c:Nat):DV:=
 match e,i with
 |.list es,.int _ z=>(es.getD z.toNat []).getD c (.bool false)
 |_,_=>.bool false
def fJ(e i:DV):DV:=
 match e,i with
 |.str s,.int _ z=>.int .u8 (s.data.toList.getD z.toNat 0).toNat
 |_,_=>.bool false
def C7(k:IntKind):DV→DV
 |.int _ z=>.int k (k.wrap z)
 |_=>.bool false
def Gn:DV→DV
 |.bool b=>.bool (!b)
 |_=>.bool false
def FQ(e lo hi:DV):DV:=
 match e,lo,hi with
 |.str s,.int _ a,.int _ b=>.str (s.extract a.toNat b.toNat)
 |.list es,.int _ a,.int _ b=>.list ((es.take b.toNat).drop a.toNat)
 |_,_,_=>.bool false
def Du(x y:DV):DV:=
 match x,y with
 |.str s,.str t=>.str (s++t)
 |.list es,.list fs=>.list (es++fs)
 |_,_=>.bool false
def Eo:DV→DV
 |.str s=>.list (s.data.toList.map fun b=>[.int .u8 b.toNat])
 |.int _ z=>.list (List.replicate z.toNat [.int .u8 0])
 |_=>.bool false
def byteOf:List DV→UInt8
 | [.int _ z]=>UInt8.ofNat z.toNat
 |_=>0
def PU:DV→DV
 |.list es=>.str ⟨(es.map byteOf).toArray⟩
 |_=>.bool false
def fK(e i:DV)(c:Nat)(x:DV):DV:=
 match e,i with
 |.list es,.int _ z=>.list (es.set z.toNat ((es.getD z.toNat []).set c x))
 |e,_=>e
def fM(e x:DV):DV:=
 match e,x with
 |.list l,.list k=>if k.length=l.length then .list k else .list l
 |e,_=>e
def isT:DV→Bool
 |.bool b=>b
 |_=>false
def den(R:Rho):SX→DV
 |.v i=>R.ρ i
 |.ki k z=>.int k z
 |.kb b=>.bool b
 |.ks s=>.str s
 |.emp=>.list []
 |.len e=>Bm (den R e)
 |.at e i c=>atD (den R e) (den R i) c
 |.byte e i=>fJ (den R e) (den R i)
 |.bin op x y=>AZ op (den R x) (den R y)
 |.conv k x=>C7 k (den R x)
 |.not x=>Gn (den R x)
 |.cut e lo hi=>FQ (den R e) (den R lo) (den R hi)
 |.cat x y=>Du (den R x) (den R y)
 |.bytes e=>Eo (den R e)
 |.text e=>PU (den R e)
 |.all es=>.bool (denAll es)
 |.app f es=>R.I f (denL es)
 |.row es=>.list [denL es]
 |.upd e i c x=>fK (den R e) (den R i) c (den R x)
 |.fit e x=>fM (den R e) (den R x)
where
 denAll:List SX→Bool
  | []=>true
  |e::es=>isT (den R e)&&denAll es
 denL:List SX→List DV
  | []=>[]
  |e::es=>den R e::denL es
def eqK:IntKind→IntKind→Bool:=fun a b=>decide (a=b)
def eqI:Int→Int→Bool
 |.ofNat a,.ofNat b=>Nat.beq a b
 |.negSucc a,.negSucc b=>Nat.beq a b
 |_,_=>false
def opN:BinOp→Nat
 |.add=>0|.sub=>1|.mul=>2|.and=>3|.or=>4|.xor=>5|.andNot=>6|.eql=>7|.lss=>8|.shr=>9|.shl=>10|.quo=>11|.rem=>12|_=>13
def eqO(a b:BinOp):Bool:=Nat.beq (opN a) (opN b)&&Nat.blt (opN a) 13
def eqN:List UInt8→List UInt8→Bool
 | [],[]=>true
 |a::as,b::bs=>Nat.beq a.toNat b.toNat&&eqN as bs
 |_,_=>false
def eqSX:SX→SX→Bool
 |.v i,.v j=>Nat.beq i j
 |.ki k z,.ki l y=>eqK k l&&eqI z y
 |.kb a,.kb b=>a==b
 |.ks s,.ks t=>eqN s.data.toList t.data.toList
 |.emp,.emp=>true
 |.len e,.len f=>eqSX e f
 |.at e i c,.at f j d=>Nat.beq c d&&eqSX i j&&eqSX e f
 |.byte e i,.byte f j=>eqSX i j&&eqSX e f
 |.bin o x y,.bin p z u=>eqO o p&&eqSX x z&&eqSX y u
 |.conv k x,.conv l y=>eqK k l&&eqSX x y
 |.not x,.not y=>eqSX x y
 |.cut e a b,.cut f c d=>eqSX a c&&eqSX b d&&eqSX e f
 |.cat x y,.cat z u=>eqSX x z&&eqSX y u
 |.bytes x,.bytes y=>eqSX x y
 |.text x,.text y=>eqSX x y
 |.all es,.all fs=>eqSXs es fs
 |.app f es,.app g fs=>Nat.beq f g&&eqSXs es fs
 |.row es,.row fs=>eqSXs es fs
 |.upd e i c x,.upd f j d y=>Nat.beq c d&&eqSX i j&&eqSX x y&&eqSX e f
 |.fit e x,.fit f y=>eqSX x y&&eqSX e f
 |_,_=>false
where
 eqSXs:List SX→List SX→Bool
  | [],[]=>true
  |x::xs,y::ys=>eqSX x y&&eqSXs xs ys
  |_,_=>false
def CJ:Ty→Ty→Bool
 |.int k,.int l=>eqK k l
 |.bool,.bool=>true
 |.str,.str=>true
 |.slice cs,.slice ds=>eqTys cs ds
 |_,_=>false
where
 eqTys:List Ty→List Ty→Bool
  | [],[]=>true
  |x::xs,y::ys=>CJ x y&&eqTys xs ys
  |_,_=>false
theorem Ep{a b:IntKind}(h:eqK a b=true):a=b:=by simpa[eqK]using h
theorem jr{a b:Int}(h:eqI a b=true):a=b:=by
 cases a<;>cases b<;>simp[eqI]at h<;>simp[h]
theorem u0{a b:BinOp}(h:eqO a b=true):a=b:=by
 cases a<;>cases b<;>first|rfl|(simp[eqO,opN]at h;try exact absurd h (by decide))
theorem Ym:∀{a b:List UInt8},eqN a b=true→a=b
 | [],[],_=>rfl
 |a::as,b::bs,h=>by
  simp only[eqN,Bool.and_eq_true,Nat.beq_eq]at h;rw[Ym h.2,UInt8.toNat_inj.1 h.1]
 | [],_::_,h=>by simp[eqN]at h
 |_::_,[],h=>by simp[eqN]at h
theorem Ib{s t:ByteArray}(h:s.data.toList=t.data.toList):s=t:=by
 cases s;cases t;simp only at h;congr 1
 exact Array.toList_inj.1 h
mutual
theorem Aw:∀{a b:SX},eqSX a b=true→a=b:=by
 intro a b h;unfold eqSX at h;split at h<;>(try (cases h;done))<;>(try simp only[Bool.and_eq_true,Nat.beq_eq]at h)
 ·rw[h]
 ·rw[Ep h.1,jr h.2]
 ·rw[eq_of_beq h]
 ·rw[Ib (Ym h)]
 ·rfl
 ·rw[Aw h]
 ·rw[h.1.1,Aw h.1.2,Aw h.2]
 ·rw[Aw h.1,Aw h.2]
 ·rw[u0 h.1.1,Aw h.1.2,Aw h.2]
 ·rw[Ep h.1,Aw h.2]
 ·rw[Aw h]
 ·rw[Aw h.1.1,Aw h.1.2,Aw h.2]
 ·rw[Aw h.1,Aw h.2]
 ·rw[Aw h]
 ·rw[Aw h]
 ·rw[E9 h]
 ·rw[h.1,E9 h.2]
 ·rw[E9 h]
 ·rw[h.1.1.1,Aw h.1.1.2,Aw h.1.2,Aw h.2]
 ·rw[Aw h.1,Aw h.2]
theorem E9:∀{a b:List SX},eqSX.eqSXs a b=true→a=b:=by
 intro a b h;cases a with
 |nil=>cases b with
  |nil=>rfl
  |cons y ys=>simp[eqSX.eqSXs]at h
 |cons x xs=>cases b with
  |nil=>simp[eqSX.eqSXs]at h
  |cons y ys=>
   simp only[eqSX.eqSXs,Bool.and_eq_true]at h;rw[Aw h.1,E9 h.2]
end
mutual
theorem PV:∀{a b:Ty},CJ a b=true→a=b:=by
 intro a b h;unfold CJ at h;split at h<;>(try (cases h;done))
 ·rw[Ep h]
 ·rfl
 ·rfl
 ·rw[BS h]
theorem BS:∀{a b:List Ty},CJ.eqTys a b=true→a=b:=by
 intro a b h;cases a with
 |nil=>cases b with
  |nil=>rfl
  |cons y ys=>simp[CJ.eqTys]at h
 |cons x xs=>cases b with
  |nil=>simp[CJ.eqTys]at h
  |cons y ys=>
   simp only[CJ.eqTys,Bool.and_eq_true]at h;rw[PV h.1,BS h.2]
end
class Orc where
 orc:SX→Option Bool
 I:Nat→List DV→DV
def SW(e:SX):List (SX×Bool)→Option Bool
 | []=>none
 |(f,b)::l=>match eqSX e f with
  |true=>some b
  |false=>SW e l
def ltI:Int→Int→Bool
 |.ofNat a,.ofNat b=>Nat.blt a b
 |.negSucc a,.negSucc b=>Nat.blt b a
 |.negSucc _,.ofNat _=>true
 |.ofNat _,.negSucc _=>false
def look[O:Orc]:SX→Option Bool
 |.kb b=>some b
 |.bin .lss (.ki _ a) (.ki _ b)=>some (ltI a b)
 |.bin .eql (.ki k a) (.ki l b)=>some (eqK k l&&eqI a b)
 |.bin .lss (.len _) (.ki _ (.ofNat 0))=>some false
 |.not x=>match look x with
  |some b=>some (Bool.not b)
  |none=>none
 |e=>O.orc e
def FactsOK[O:Orc](R:Rho):Prop:=R.I=O.I∧∀e b,O.orc e=some b→den R e=.bool b
theorem WI{e:SX}{b:Bool}:∀{l:List (SX×Bool)},SW e l=some b→(e,b)∈l
 | [],h=>by simp[SW]at h
 |(f,c)::l,h=>by
  rw[SW]at h;split at h
  ·rename_i heq;cases h;rw[Aw heq];simp
  ·exact List.mem_cons_of_mem _ (WI h)
abbrev mkO(l:List (SX×Bool))(I:Nat→List DV→DV):Orc:=⟨fun e=>SW e l,I⟩
theorem HP{l:List (SX×Bool)}{R:Rho}{I:Nat→List DV→DV}(hI:R.I=I)(h:∀p∈l,den R p.1=.bool p.2):@FactsOK (mkO l I) R:=⟨hI,fun e b hb=>h _ (WI hb)⟩
theorem u4(a b:Int):ltI a b=decide (a<b):=by
 rw[Bool.eq_iff_iff,decide_eq_true_eq];cases a with
 |ofNat a=>cases b with
  |ofNat b=>
   simp only[ltI,Nat.blt,Nat.ble_eq,Int.ofNat_eq_natCast];omega
  |negSucc b=>
   simp only[ltI,Int.negSucc_eq,Int.ofNat_eq_natCast];constructor
   ·intro h;cases h
   ·intro h;omega
 |negSucc a=>cases b with
  |ofNat b=>
   simp only[ltI,Int.negSucc_eq,Int.ofNat_eq_natCast,true_iff];omega
  |negSucc b=>
   simp only[ltI,Nat.blt,Nat.ble_eq,Int.negSucc_eq];omega
theorem sR(a b:Int):eqI a b=decide (a=b):=by
 rw[Bool.eq_iff_iff,decide_eq_true_eq];constructor
 ·exact jr
 ·rintro rfl;cases a<;>simp[eqI]
theorem Bv[O:Orc]{R:Rho}(hF:FactsOK R):∀{e:SX} {b:Bool},look e=some b→den R e=.bool b:=by
 intro e
 induction e using SX.rec (motive_2:=fun _=>True) with
 |kb c=>intro b h;simp only[look,Option.some.injEq]at h;rw[h];rfl
 |not x ih=>
  intro b h;simp only[look]at h;split at h
  ·rename_i c hc;simp only[Option.some.injEq]at h;rw[den,ih hc,←h];rfl
  ·cases h
 |nil=>trivial
 |cons=>trivial
 |bin op x y ihx ihy=>
  intro b h;unfold look at h;split at h
  ·rename_i heq;cases heq
  ·rename_i k u l v heq;cases heq;cases h;simp only[den,AZ,u4]
  ·rename_i k u l v heq;cases heq;cases h;simp only[den,AZ,sR];rfl
  ·rename_i e k heq;cases heq;cases h;simp only[den,Bm];split<;>simp[AZ]
  ·rename_i heq;cases heq
  ·exact hF.2 _ _ h
 |_=>
  intro b h;exact hF.2 _ _ (by simpa only[look]using h)
end Go.AM
set_option linter.unusedVariables false
namespace Go.AM
open Go
inductive Tr (α:Type) where
 |nil
 |node (v:Option α) (l r:Tr α)
def Tr.get{α:Type}(t:Tr α):Nat→Option α:=
 @Tr.rec α (fun _=>Nat→Option α) (fun _=>none)
  (fun v _ _ gl gr i=>cond (Nat.beq i 0) v (cond (Nat.beq (Nat.land i 1) 1) (gl (Nat.div i 2)) (gr (Nat.sub (Nat.div i 2) 1)))) t
def Tr.one{α:Type}(v:Option α)(f:Nat):Nat→Tr α:=
 @Nat.rec (fun _=>Nat→Tr α) (fun _=>.nil)
  (fun _ ih i=>cond (Nat.beq i 0) (.node v .nil .nil) (cond (Nat.beq (Nat.land i 1) 1) (.node none (ih (Nat.div i 2)) .nil) (.node none .nil (ih (Nat.sub (Nat.div i 2) 1))))) f
def Tr.set{α:Type}(v:Option α)(f:Nat)(t:Tr α):Nat→Tr α:=
 @Tr.rec α (fun _=>Nat→Tr α) (fun i=>Tr.one v f i)
  (fun u l r sl sr i=>cond (Nat.beq i 0) (.node v l r) (cond (Nat.beq (Nat.land i 1) 1) (.node u (sl (Nat.div i 2)) r) (.node u l (sr (Nat.sub (Nat.div i 2) 1))))) t
inductive AV where
 |sc (v:Value)
 |agg (cs:List AV)
 |tup (vs:List AV)
 |ifc (t:TypeId) (v:AV)
 |clo (fn:Fn) (first captured:List AV)
 |ptr (id off:Nat)
 |sl (id off len:Nat) (cap:Option Nat)
 |emp (k:Nat)
 |fp (cells:List AV)
 |fsl (sz:Nat) (exact:Bool) (elems:List (List AV))
 |sy (t:Ty) (e:SX)
 |dead
 |hnd (k id:Nat)
 |own (id:Nat) (ts:List Ty) (e:SX)
 |oe (id:Nat) (ts:List Ty) (e i:SX) (c:Nat)
 deriving Inhabited
inductive Ex where
 |normal
 |exit (id:Nat)
 |ret
 |goto (l:Nat)
structure LpX where
 st:Nat
 pend:Ex
 ps:Array Tmp
 asg:Code
 body:Code
structure Blk where
 t:TypeId
 row:Bool
 sz:Nat
 n:Nat
 z:List AV
 c:Tr AV
 lp:Option LpX:=none
inductive AObj where
 |blk (b:Blk)
 |iter (s:ByteArray) (pos:Nat)
 |map (es:List (ByteArray×Value))
 |box (opened:Bool)
 |grow (t:TypeId) (ts:List Ty) (e:SX)
 |loop (st:Nat) (pend:Ex) (tm:Tr AV) (n:Nat) (ps:Array Tmp) (asg body:Code)
structure AHeap where
 next:Nat
 lim:Nat
 t:Tr AObj
def Tr.put{α:Type}(t:Tr α)(i:Nat)(v:α):Tr α:=Tr.set (some v) (Nat.succ i) t i
def Tr.cut{α:Type}(t:Tr α)(i:Nat):Tr α:=Tr.set none (Nat.succ i) t i
def Blk.cell(b:Blk)(i:Nat):AV:=
 match b.c.get i with
 |some v=>v
 |none=>b.z.getD (i%b.z.length) .dead
def Blk.cellsFrom(b:Blk)(off n:Nat):List AV:=
 @Nat.rec (fun _=>Nat→List AV) (fun _=>[]) (fun _ ih off=>b.cell off::ih (Nat.succ off)) n off
def Blk.putAll(c:Tr AV)(off:Nat)(vs:List AV):Tr AV:=
 @List.rec AV (fun _=>Tr AV→Nat→Tr AV) (fun c _=>c) (fun v _ ih c off=>ih (c.put off v) (Nat.succ off)) vs c off
def AHeap.blk?(h:AHeap)(id:Nat):Option Blk:=
 match h.t.get id with
 |some (.blk b)=>some b
 |_=>none
def AHeap.alloc(h:AHeap)(o:AObj):AHeap:={next:=h.lim,lim:=Nat.succ h.lim,t:=h.t.put h.next o}
def AHeap.put(h:AHeap)(id:Nat)(o:AObj):AHeap:={next:=h.next,lim:=h.lim,t:=h.t.put id o}
def toV:AV→Option Value
 |.sc v=>some v
 |.agg cs=>(toVs cs).map fun vs=>.agg vs.toArray
 |.tup cs=>(toVs cs).map fun vs=>.tuple vs.toArray
 |.ifc t v=>(toV v).map (.iface t)
 |_=>none
where
 toVs:List AV→Option (List Value)
  | []=>some []
  |c::cs=>match toV c with
   |some v=>match toVs cs with
    |some vs=>some (v::vs)
    |none=>none
   |none=>none
def qC:Value→Bool
 |.agg _|.tuple _=>true
 |_=>false
def BW:AV→Bool
 |.sc v=>!qC v
 |.agg _|.tup _|.dead=>false
 |_=>true
def cellsOf:AV→Option (List AV)
 |.sc (.agg cs)=>some (cs.toList.map .sc)
 |.sc (.tuple _)=>none
 |.agg cs=>some cs
 |.tup _=>none
 |.dead=>none
 |v=>some [v]
def G1:AV→Option (List AV)
 |.sc (.agg cs)=>some (cs.toList.map .sc)
 |.agg cs=>some cs
 |_=>none
def Dk{α:Type}(P:Program):Sem α→Option α
 |.pure a=>some a
 |.program k=>Dk P (k P)
 |.mark _ k=>Dk P k
 |_=>none
def FZ(P:Program)(t:TypeId):Option Bool:=
 match P.underlying t with
 |some (.struct _)=>some true
 |some (.array _ _)=>some true
 |some _=>some false
 |none=>none
def zeroOf(P:Program)(t:TypeId):Option Value:=(P.info? t).bind (·.zero)
def Bh(P:Program)(t:TypeId):Option Nat:=(P.info? t).map (·.size)
def Ek(P:Program)(t:TypeId)(cs:List AV):Option AV:=
 match FZ P t with
 |some true=>some (.agg cs)
 |some false=>match cs with
  | [c]=>some c
  |_=>none
 |none=>none
def BZ(h:AHeap)(size n:Nat):AV→Option (List AV)
 |.sc (.slice none _ _)=>match n with
  |0=>some []
  |_=>none
 |.sc (.string s)=>some ((s.data.toList.take n).map fun b=>.sc (.int .u8 b.toNat))
 |.emp _=>match n with
  |0=>some []
  |_=>none
 |.sl id off len _=>match h.blk? id with
  |some b=>match Nat.ble n len&&Nat.ble (off+n*size) b.n with
   |true=>some (b.cellsFrom off (n*size))
   |false=>none
  |none=>none
 |.fsl sz _ elems=>match Nat.beq sz size&&Nat.ble n elems.length with
  |true=>some ((elems.take n).flatten)
  |false=>none
 |_=>none
def lenOf:AV→Option Nat
 |.sc (.slice _ n _)=>some n
 |.sc (.string s)=>some s.size
 |.emp _=>some 0
 |.sl _ _ n _=>some n
 |.fsl _ _ es=>some es.length
 |_=>none
def EK:List AV→Option (List UInt8)
 | []=>some []
 |.sc (.int .u8 n)::cs=>(EK cs).map (UInt8.ofNat n.toNat:: ·)
 |_=>none
def H8:AV→Option Nat
 |.sc (.int _ (.ofNat n))=>some n
 |_=>none
def E5(n:Nat):AV:=.sc (.int .i64 n)
def bound(ev:Operand→AV)(d:Nat):Option Operand→Option Nat
 |none=>some d
 |some x=>H8 (ev x)
abbrev Out:=Option (AV×AHeap)
def uY(P:Program)(op:BinOp)(t:TypeId)(x y:Operand)(a b:AV):Option AV:=
 match toV a,toV b with
 |some u,some v=>(Dk P (do eqGuard op t x y u v;binOp op t u v)).map .sc
 |_,_=>none
def kindOf:AV→Nat
 |.ptr .. |.fp _=>1
 |.sl ..=>2
 |.clo ..=>3
 |.ifc ..=>4
 |_=>0
def I4:AV→Nat
 |.sc (.pointer none)=>1
 |.sc (.slice none _ _)=>2
 |.sc .nilFunc=>3
 |.sc .nilIface=>4
 |_=>5
def Ee(P:Program)(t:TypeId):Nat:=
 match P.underlying t with
 |some (.pointer _)=>1
 |some (.slice _)=>2
 |some (.func _ _ _)=>3
 |some (.interface _)=>4
 |_=>6
def Xk(P:Program)(op:BinOp)(t:TypeId)(a b:AV):Option AV:=
 match (Nat.beq (kindOf a) (Ee P t)&&Nat.beq (I4 b) (Ee P t))||(Nat.beq (I4 a) (Ee P t)&&Nat.beq (kindOf b) (Ee P t)) with
 |true=>match op with
  |.eql=>some (.sc (.bool false))
  |.neq=>some (.sc (.bool true))
  |_=>none
 |false=>none
def MK(place:Nat→Option (Nat×Nat))(cells:List AV):List (Nat×AV)→Option (List AV)
 | []=>some cells
 |(i,v)::rest=>match place i with
  |none=>none
  |some (off,size)=>match cellsOf v with
   |none=>none
   |some cs=>match Nat.beq cs.length size&&Nat.ble (off+size) cells.length with
    |false=>none
    |true=>MK place (cells.take off++cs++cells.drop (off+size)) rest
def zeroCells(P:Program)(t:TypeId):Option (List AV):=(zeroOf P t).map fun z=>z.cells.toList.map .sc
def Jp(t:TypeId)(cs:List AV):Blk:={t,row:=false,sz:=1,n:=cs.length,z:=[],c:=Blk.putAll .nil 0 cs}
def Xl(P:Program)(ev:Operand→AV)(h:AHeap)(c a b:Operand):Out:=
 match ev c with
 |.sc (.bool t)=>some (match t with|true=>ev a|false=>ev b,h)
 |_=>none
def au(P:Program)(ev:Operand→AV)(h:AHeap)(t:TypeId):Out:=
 match zeroCells P t with
 |some cs=>some (.ptr h.next 0,h.alloc (.blk {t,row:=false,sz:=1,n:=cs.length,z:=cs,c:=.nil}))
 |none=>none
def eM(P:Program)(ev:Operand→AV)(h:AHeap)(t:TypeId)(x:Operand):Out:=
 match cellsOf (ev x) with
 |some cs=>some (.ptr h.next 0,h.alloc (.blk (Jp t cs)))
 |none=>none
def UB(P:Program)(ev:Operand→AV)(h:AHeap)(t:TypeId)(parts:Array (Nat×Operand)):Out:=
 match zeroCells P t with
 |none=>none
 |some zero=>match P.underlying t with
  |some (.struct fs)=>match fs.toList.mapM (fun f=>(P.info? f.type).map fun i=>(f.offset,i.size)) with
   |some places=>(MK (fun i=>places.toArray[i]?) zero (parts.toList.map fun (i,x)=>(i,ev x))).map fun cs=>(.agg cs,h)
   |none=>none
  |some (.array _ e)=>match Bh P e with
   |some size=>(MK (fun i=>some (i*size,size)) zero (parts.toList.map fun (i,x)=>(i,ev x))).map fun cs=>(.agg cs,h)
   |none=>none
  |_=>none
def Jq(P:Program)(ev:Operand→AV)(h:AHeap)(t:TypeId)(len:Nat)(parts:Array (Nat×Operand)):Out:=
 match P.underlying t with
 |some (.slice e)=>match Bh P e,zeroCells P e with
  |some size,some zero=>match Nat.ble (len*size) 4096&&Nat.beq zero.length size with
   |false=>none
   |true=>match MK (fun i=>some (i*size,size)) (List.replicate len zero).flatten (parts.toList.map fun (i,x)=>(i,ev x)) with
    |some cs=>some (.sl h.next 0 len (some len),h.alloc (.blk (Jp e cs)))
    |none=>none
  |_,_=>none
 |_=>none
def Rt(P:Program)(ev:Operand→AV)(h:AHeap)(t:TypeId)(a:Operand):Out:=
 match Bh P t with
 |none=>none
 |some k=>match ev a with
  |.ptr id off=>match h.blk? id with
   |some b=>match Nat.ble (off+k) b.n with
    |true=>(Ek P t (b.cellsFrom off k)).map fun v=>(v,h)
    |false=>none
   |none=>none
  |.fp cs=>match Nat.ble k cs.length with
   |true=>(Ek P t (cs.take k)).map fun v=>(v,h)
   |false=>none
  |_=>none
def UC(P:Program)(ev:Operand→AV)(h:AHeap)(t:TypeId)(a x:Operand):Out:=
 match Bh P t,cellsOf (ev x),ev a with
 |some k,some cs,.ptr id off=>match h.blk? id with
  |some b=>match Nat.beq cs.length k&&Nat.ble (off+k) b.n&&cs.all BW with
   |true=>some (.sc undef,h.put id (.blk {b with c:=Blk.putAll b.c off cs}))
   |false=>none
  |none=>none
 |_,_,_=>none
def ML(P:Program)(ev:Operand→AV)(h:AHeap)(x:Operand):Out:=
 match ev x with
 |.ptr id off=>some (.ptr id off,h)
 |.fp cs=>some (.fp cs,h)
 |.clo (.func f) u v=>some (.clo (.func f) u v,h)
 |.sc (.func (.func f) u v)=>some (.sc (.func (.func f) u v),h)
 |.ifc t v=>some (.ifc t v,h)
 |.sc (.iface t v)=>some (.sc (.iface t v),h)
 |_=>none
def lim:IntKind→Nat
 |.i8=>128
 |.u8=>256
 |.i16=>32768
 |.u16=>65536
 |.i32=>2147483648
 |.u32=>4294967296
 |.i64=>9223372036854775808
 |.u64=>18446744073709551616
def Gj(k:IntKind)(n:Nat):Option AV:=
 cond (Nat.blt n (lim k)) (some (.sc (.int k (.ofNat n)))) (cond k.signed none (some (.sc (.int k (.ofNat (Nat.mod n (lim k)))))))
def Hh(op:BinOp)(k:IntKind)(a b:Nat):Option AV:=
 match op with
 |.add=>Gj k (Nat.add a b)
 |.sub=>cond (Nat.ble b a) (Gj k (Nat.sub a b)) none
 |.mul=>Gj k (Nat.mul a b)
 |.and=>cond (Nat.blt a (lim k)&&Nat.blt b (lim k)) (some (.sc (.int k (.ofNat (Nat.land a b))))) none
 |.or=>cond (Nat.blt a (lim k)&&Nat.blt b (lim k)) (some (.sc (.int k (.ofNat (Nat.lor a b))))) none
 |.xor=>cond (Nat.blt a (lim k)&&Nat.blt b (lim k)) (some (.sc (.int k (.ofNat (Nat.xor a b))))) none
 |.eql=>some (.sc (.bool (Nat.beq a b)))
 |.neq=>some (.sc (.bool (Bool.not (Nat.beq a b))))
 |.lss=>some (.sc (.bool (Nat.blt a b)))
 |.leq=>some (.sc (.bool (Nat.ble a b)))
 |.gtr=>some (.sc (.bool (Nat.blt b a)))
 |.geq=>some (.sc (.bool (Nat.ble b a)))
 |_=>none
def Ka(op:BinOp)(k:IntKind)(a b:Nat):Option AV:=
 cond (Nat.blt b 8||(Nat.blt b 32&&Nat.blt 2147483647 (lim k))) (match op with
  |.shl=>Gj k (Nat.mul a (Nat.pow 2 b))
  |.shr=>some (.sc (.int k (.ofNat (Nat.div a (Nat.pow 2 b)))))
  |_=>none) none
def UD(op:BinOp)(a b:AV):Option AV:=
 match a,b with
 |.sc (.int k (.ofNat x)),.sc (.int k2 (.ofNat y))=>match op with
  |.shl=>Ka .shl k x y
  |.shr=>Ka .shr k x y
  |_=>match decide (k=k2) with
   |true=>Hh op k x y
   |false=>none
 |_,_=>none
def UE(P:Program)(ev:Operand→AV)(h:AHeap)(op:BinOp)(t:TypeId)(x y:Operand):Out:=
 match UD op (ev x) (ev y) with
 |some v=>some (v,h)
 |none=>match uY P op t x y (ev x) (ev y) with
  |some v=>some (v,h)
  |none=>(Xk P op t (ev x) (ev y)).map fun v=>(v,h)
def uZ(op:UnOp)(a:AV):Option AV:=
 match op,a with
 |.not,.sc (.bool b)=>some (.sc (.bool (Bool.not b)))
 |_,_=>none
def Xm(P:Program)(ev:Operand→AV)(h:AHeap)(op:UnOp)(x:Operand):Out:=
 match uZ op (ev x) with
 |some v=>some (v,h)
 |none=>match toV (ev x) with
  |some u=>(Dk P (Op.unary op u)).map fun v=>(.sc v,h)
  |none=>none
def Xn(P:Program)(dst:TypeId)(a:AV):Option AV:=
 match a with
 |.sc (.int _ (.ofNat n))=>match P.underlying dst with
  |some (.int k)=>Gj k n
  |_=>none
 |_=>none
def Fa(P:Program)(ev:Operand→AV)(h:AHeap)(src dst:TypeId)(x:Operand):Out:=
 match P.underlying src,P.underlying dst with
 |some (.slice e),some .string=>match P.underlying e with
  |some (.int .u8)=>match ev x with
   |.sc (.string _)=>none
   |v=>match lenOf v with
    |some n=>match BZ h 1 n v with
     |some cs=>(EK cs).map fun bs=>(.sc (.string ⟨bs.toArray⟩),h)
     |none=>none
    |none=>none
  |_=>none
 |some _,some (.slice e)=>match P.underlying e with
  |some (.int .u8)=>match ev x with
   |.sc (.string s)=>some (.fsl 1 false (s.data.toList.map fun b=>[.sc (.int .u8 b.toNat)]),h)
   |_=>none
  |_=>none
 |some _,_=>match Xn P dst (ev x) with
  |some v=>some (v,h)
  |none=>match toV (ev x) with
   |some u=>(Dk P (convert src dst u)).map fun v=>(.sc v,h)
   |none=>none
 |none,_=>none
def De(P:Program)(ev:Operand→AV)(h:AHeap)(t:TypeId)(x:Operand):Out:=
 match P.underlying t with
 |some (.array n e)=>match ev x,Bh P e with
  |.sl id off len _,some _=>match Nat.ble n len with
   |true=>some (.ptr id off,h)
   |false=>none
  |.fsl sz _ es,some k=>match Nat.ble n es.length&&Nat.beq sz k&&Nat.ble 1 n with
   |true=>some (.fp es.flatten,h)
   |false=>none
  |_,_=>none
 |_=>none
def G2(P:Program)(ev:Operand→AV)(h:AHeap)(t:TypeId)(x:Operand):Out:=
 match P.underlying t with
 |some (.interface _)=>none
 |some _=>match toV (ev x) with
  |some v=>some (.sc (.iface t v),h)
  |none=>some (.ifc t (ev x),h)
 |none=>none
def K7(P:Program)(ev:Operand→AV)(h:AHeap)(t:TypeId)(l c:Operand):Out:=
 match P.underlying t with
 |some (.slice e)=>match H8 (ev l),H8 (ev c),P.info? e with
  |some len,some cap,some i=>match i.zero with
   |some z=>match Nat.ble len cap&&Nat.ble (cap*i.bytes) 281474976710656&&Nat.ble cap 9223372036854775807&&Nat.beq z.cells.size i.size&&Nat.ble 1 i.size with
    |true=>some (.sl h.next 0 len (some cap),h.alloc (.blk {t:=e,row:=false,sz:=1,n:=cap*i.size,z:=z.cells.toList.map .sc,c:=.nil}))
    |false=>none
   |none=>none
  |_,_,_=>none
 |_=>none
def JY(P:Program)(ev:Operand→AV)(h:AHeap)(t:TypeId)(x:Operand)(lo hi mx:Option Operand):Out:=
 match P.underlying t with
 |some .string=>match ev x with
  |.sc (.string s)=>match bound ev 0 lo,bound ev s.size hi,mx with
   |some l,some u,none=>match Nat.ble l u&&Nat.ble u s.size with
    |true=>some (.sc (.string (s.extract l u)),h)
    |false=>none
   |_,_,_=>none
  |_=>none
 |some (.slice e)=>match Bh P e with
  |none=>none
  |some size=>match ev x with
   |.sl id off len cap=>match bound ev 0 lo,bound ev len hi,mx.map (bound ev 0∘some) with
    |some l,some u,none=>match cap with
     |some c=>match Nat.ble l u&&Nat.ble u c with
      |true=>some (.sl id (if c-l=0 then off else off+l*size) (u-l) (some (c-l)),h)
      |false=>none
     |none=>match Nat.ble l u&&Nat.ble u len&&Nat.ble 1 size with
      |true=>some (match Nat.beq l 0 with|true=>.sl id off u none|false=>match Nat.blt l len with|true=>.sl id (off+l*size) (u-l) none|false=>.emp 1,h)
      |false=>none
    |some l,some u,some (some m)=>match Nat.ble l u&&Nat.ble u m&&Nat.ble m (cap.getD len)&&hi.isSome with
     |true=>some (match Nat.beq m l with|true=>.emp 0|false=>.sl id (off+l*size) (u-l) (some (m-l)),h)
     |false=>none
    |_,_,_=>none
   |.fsl sz ex es=>match bound ev 0 lo,bound ev es.length hi,mx.map (bound ev 0∘some) with
    |some l,some u,none=>match Nat.ble l u&&Nat.ble u es.length&&Nat.beq sz size with
     |true=>some (.fsl sz (ex&&Nat.beq u es.length) ((es.take u).drop l),h)
     |false=>none
    |some l,some u,some (some m)=>match Nat.ble l u&&Nat.ble u m&&Nat.ble m es.length&&Nat.beq sz size&&hi.isSome with
     |true=>some (match Nat.beq m l with|true=>.emp 0|false=>.fsl sz (Nat.beq u m) ((es.take u).drop l),h)
     |false=>none
    |_,_,_=>none
   |.sc (.slice none 0 0)=>match bound ev 0 lo,bound ev 0 hi,bound ev 0 mx with
    |some 0,some 0,some 0=>match mx.isNone||hi.isSome with
     |true=>some (.sc (.slice none 0 0),h)
     |false=>none
    |_,_,_=>none
   |.emp k=>match bound ev 0 lo,bound ev 0 hi,mx.map (bound ev 0∘some) with
    |some 0,some 0,none=>some (.emp k,h)
    |some 0,some 0,some (some 0)=>match hi.isSome with
     |true=>some (.emp 0,h)
     |false=>none
    |_,_,_=>none
   |_=>none
 |some (.array n e)=>match Bh P e,ev x with
  |some size,.ptr id off=>match bound ev 0 lo,bound ev n hi,mx with
   |some l,some u,none=>match Nat.ble l u&&Nat.ble u n with
    |true=>some (.sl id (if n=l then off else off+l*size) (u-l) (some (n-l)),h)
    |false=>none
   |_,_,_=>none
  |some size,.fp cs=>match bound ev 0 lo,bound ev n hi,mx with
   |some 0,some u,none=>match Nat.ble u n&&Nat.beq size 1&&Nat.ble n cs.length with
    |true=>some (.fsl size (Nat.beq u n) ((cs.take u).map fun c=>[c]),h)
    |false=>none
   |_,_,_=>none
  |_,_=>none
 |_=>none
def K8(P:Program)(ev:Operand→AV)(h:AHeap)(s:TypeId)(x:Operand)(f:Nat):Out:=
 match P.underlying s with
 |some (.struct fs)=>match fs[f]? with
  |some fl=>match Bh P fl.type with
   |some (_+1)=>match ev x with
    |.ptr id off=>some (.ptr id (off+fl.offset),h)
    |.fp cs=>some (.fp (cs.drop fl.offset),h)
    |_=>none
   |_=>none
  |none=>none
 |_=>none
def UF(P:Program)(ev:Operand→AV)(h:AHeap)(t:TypeId)(x:Operand)(f:Nat):Out:=
 match P.underlying t,ev x with
 |some (.struct fs),v=>match fs[f]?,G1 v with
  |some fl,some cs=>match Bh P fl.type with
   |some k=>match Nat.ble (fl.offset+k) cs.length with
    |true=>(Ek P fl.type ((cs.drop fl.offset).take k)).map fun v=>(v,h)
    |false=>none
   |none=>none
  |_,_=>none
 |_,_=>none
def H9(P:Program)(ev:Operand→AV)(h:AHeap)(t:TypeId)(x ix:Operand):Out:=
 match H8 (ev ix),P.underlying t with
 |some i,some (.array len e)=>match Bh P e with
  |some size=>match Nat.blt i len,ev x with
   |true,.ptr id off=>some (.ptr id (off+i*size),h)
   |true,.fp cs=>some (.fp (cs.drop (i*size)),h)
   |_,_=>none
  |none=>none
 |some i,some (.slice e)=>match Bh P e with
  |some size=>match ev x with
   |.sl id off len _=>match Nat.blt i len with
    |true=>some (.ptr id (off+i*size),h)
    |false=>none
   |.fsl sz _ es=>match Nat.beq sz size with
    |true=>match es[i]? with
     |some cs=>some (.fp cs,h)
     |none=>none
    |false=>none
   |_=>none
  |none=>none
 |_,_=>none
def PF(P:Program)(ev:Operand→AV)(h:AHeap)(t:TypeId)(x ix:Operand):Out:=
 match P.underlying t with
 |some .string=>match ev x,H8 (ev ix) with
  |.sc (.string s),some i=>match s[i]? with
   |some b=>some (.sc (.int .u8 b.toNat),h)
   |none=>none
  |_,_=>none
 |some (.array len e)=>match Bh P e,H8 (ev ix),G1 (ev x) with
  |some size,some i,some cs=>match Nat.blt i len&&Nat.ble (i*size+size) cs.length with
   |true=>(Ek P e ((cs.drop (i*size)).take size)).map fun v=>(v,h)
   |false=>none
  |_,_,_=>none
 |_=>none
def NZ(P:Program)(ev:Operand→AV)(h:AHeap)(t:Operand)(i:Nat):Out:=
 match ev t with
 |.tup vs=>match vs[i]? with
  |some v=>some (v,h)
  |none=>none
 |.sc (.tuple vs)=>match vs[i]? with
  |some v=>some (.sc v,h)
  |none=>none
 |_=>none
def UG(P:Program)(ev:Operand→AV)(h:AHeap)(t:TypeId)(x:Operand):Out:=
 match P.underlying t,ev x with
 |some .string,.sc (.string s)=>some (.ptr h.next 0,h.alloc (.iter s 0))
 |_,_=>none
def Xo(P:Program)(ev:Operand→AV)(h:AHeap)(it:Operand)(isString:Bool):Out:=
 match isString,ev it with
 |true,.ptr id 0=>match h.t.get id with
  |some (.iter s pos)=>match Nat.blt pos s.size with
   |true=>match Utf8.decode s pos with
    |(c,width)=>some (.sc (.tuple #[.bool true,goInt pos,.int .i32 c]),h.put id (.iter s (pos+width)))
   |false=>some (.sc (.tuple #[.bool false]),h)
  |_=>none
 |_,_=>none
def Jr(P:Program)(ev:Operand→AV)(h:AHeap)(x:Operand)(t:TypeId)(ok:Bool):Out:=
 match P.underlying t,ev x with
 |some (.interface _),_=>none
 |some _,.sc (.iface u v)=>match Nat.beq u t with
  |true=>some (match ok with|true=>.sc (.tuple #[v,.bool true])|false=>.sc v,h)
  |false=>none
 |some _,.ifc u v=>match Nat.beq u t with
  |true=>some (match ok with|true=>.tup [v,.sc (.bool true)]|false=>v,h)
  |false=>none
 |_,_=>none
def MM(s:ByteArray):List (ByteArray×Value)→Option Value
 | []=>none
 |(k,v)::l=>match eqN s.data.toList k.data.toList with
  |true=>some v
  |false=>MM s l
def Js(P:Program)(t:TypeId):Option TypeId:=
 match P.underlying t with
 |some (.map k e)=>match P.underlying k with
  |some .string=>some e
  |_=>none
 |_=>none
def Nf(P:Program)(ev:Operand→AV)(h:AHeap)(t:TypeId)(r:Option Operand):Out:=
 match Js P t,r with
 |some _,none=>some (.hnd 0 h.next,h.alloc (.map []))
 |some _,some x=>match ev x with
  |.sc (.int _ _)=>some (.hnd 0 h.next,h.alloc (.map []))
  |_=>none
 |none,_=>none
def IA(P:Program)(ev:Operand→AV)(h:AHeap)(t:TypeId)(m k x:Operand):Out:=
 match Js P t,ev m,ev k,toV (ev x) with
 |some _,.hnd 0 id,.sc (.string s),some v=>match h.t.get id with
  |some (.map es)=>match MM s es with
   |none=>some (.sc undef,h.put id (.map (es++[(s,v)])))
   |some _=>none
  |_=>none
 |_,_,_,_=>none
def Qg(P:Program)(ev:Operand→AV)(h:AHeap)(t:TypeId)(x i:Operand)(ok:Bool):Out:=
 match Js P t,ev x,ev i with
 |some e,.hnd 0 id,.sc (.string s)=>match h.t.get id with
  |some (.map es)=>match MM s es with
   |some v=>match ok with
    |true=>some (.sc (.tuple #[v,.bool true]),h)
    |false=>some (.sc v,h)
   |none=>match zeroOf P e,ok with
    |some z,true=>some (.sc (.tuple #[z,.bool false]),h)
    |some z,false=>some (.sc z,h)
    |none,_=>none
  |_=>none
 |_,_,_=>none
def opA(P:Program)(ev:Operand→AV)(h:AHeap)(o:Oper):Out:=
 match o.op with
 |.move x|.assign x=>some (ev x,h)
 |.pick c a b=>Xl P ev h c a b
 |.alloc t=>au P ev h t
 |.box t x=>eM P ev h t x
 |.build t parts=>UB P ev h t parts
 |.buildSlice t len parts=>Jq P ev h t len parts
 |.load t a=>Rt P ev h t a
 |.store t a x=>UC P ev h t a x
 |.nilCheck x=>ML P ev h x
 |.binOp op t x y _=>UE P ev h op t x y
 |.unOp op _ x=>Xm P ev h op x
 |.convert src dst x=>Fa P ev h src dst x
 |.sliceToArrayPointer t x=>De P ev h t x
 |.makeInterface t x=>G2 P ev h t x
 |.makeFunc fn first captured=>some (.clo fn (first.toList.map ev) (captured.toList.map ev),h)
 |.makeSlice t l c=>K7 P ev h t l c
 |.slice t x lo hi mx=>JY P ev h t x lo hi mx
 |.fieldAddr s x f=>K8 P ev h s x f
 |.field t x f=>UF P ev h t x f
 |.indexAddr t x ix=>H9 P ev h t x ix
 |.index t x ix=>PF P ev h t x ix
 |.extract t i=>NZ P ev h t i
 |.range t x=>UG P ev h t x
 |.next it isString=>Xo P ev h it isString
 |.typeAssert x _ t ok=>Jr P ev h x t ok
 |.makeMap t r=>Nf P ev h t r
 |.mapUpdate t m k x|.insert t m k x=>IA P ev h t m k x
 |.lookup t x i ok=>Qg P ev h t x i ok
 |_=>none
def qD(P:Program)(h:AHeap)(ts:Array TypeId)(ty:TypeId)(args:List AV):Out:=
 match ts[0]?,args with
 |some t,[x]=>match P.underlying t with
  |some (.slice _)=>match x with
   |.sc (.string _)=>none
   |_=>match lenOf x with
    |some n=>some (E5 n,h)
    |none=>none
  |some .string=>match x with
   |.sc (.string s)=>some (E5 s.size,h)
   |_=>none
  |some (.array n _)=>some (E5 n,h)
  |some (.pointer a)=>match P.underlying a with
   |some (.array n _)=>some (E5 n,h)
   |_=>none
  |_=>none
 |_,_=>none
def qE(P:Program)(h:AHeap)(ts:Array TypeId)(ty:TypeId)(args:List AV):Out:=
 match toV.toVs args with
 |some vs=>(Dk P (Builtin.min_ ts ty vs.toArray)).map fun v=>(.sc v,h)
 |none=>none
def qG(P:Program)(h:AHeap)(ts:Array TypeId)(ty:TypeId)(args:List AV):Out:=
 match toV.toVs args with
 |some vs=>(Dk P (Builtin.max_ ts ty vs.toArray)).map fun v=>(.sc v,h)
 |none=>none
def EX(P:Program)(h:AHeap)(ts:Array TypeId)(ty:TypeId)(args:List AV):Out:=
 match ts[0]?,ts[1]?,args with
 |some t,some u,[s,x]=>match P.underlying t,P.underlying u with
  |some (.slice _),some (.int _)=>none
  |some (.slice e),some _=>match P.info? e,zeroCells P e with
   |some i,some z=>match lenOf s,lenOf x with
    |some sl,some n=>match Nat.ble ((sl+n)*i.bytes) 140737488355328&&Nat.ble (sl+n) 9223372036854775807&&Nat.beq z.length i.size&&Nat.ble 1 i.size&&Nat.ble 1 i.bytes with
     |false=>none
     |true=>match BZ h i.size n x with
      |none=>none
      |some new=>match new.all BW&&Nat.beq new.length (n*i.size) with
       |false=>none
       |true=>
       let grown:List AV→Out:=fun old=>
        some (.sl h.next 0 (sl+n) none,h.alloc (.blk {t:=e,row:=true,sz:=i.size,n:=(sl+n)*i.size,z:=[],c:=Blk.putAll .nil 0 (old++new)}))
       match s with
       |.sc (.slice none 0 0)=>match n with
        |0=>some (s,h)
        |_=>grown []
       |.emp 0=>match n with
        |0=>some (s,h)
        |_=>grown []
       |.fsl sz true es=>match Nat.beq sz i.size with
        |true=>match n with
         |0=>some (s,h)
         |_=>grown es.flatten
        |false=>none
       |.sl id off len (some c)=>match Nat.ble (len+n) c with
        |true=>match h.blk? id with
         |some b=>match Nat.ble (off+(len+n)*i.size) b.n with
          |true=>some (.sl id off (len+n) (some c),h.put id (.blk {b with c:=Blk.putAll b.c (off+len*i.size) new}))
          |false=>none
         |none=>none
        |false=>match h.blk? id with
         |some b=>match Nat.ble (off+len*i.size) b.n with
          |true=>grown (b.cellsFrom off (len*i.size))
          |false=>none
         |none=>none
       |.sl id 0 len none=>match h.blk? id with
        |some b=>match b.row&&Nat.beq b.n (len*i.size)&&Nat.beq b.sz i.size&&Nat.beq b.t e with
         |true=>some (.sl h.next 0 (len+n) none,AHeap.alloc {h with t:=h.t.cut id} (.blk {b with n:=(len+n)*i.size,c:=Blk.putAll b.c (len*i.size) new}))
         |false=>none
        |none=>none
       |_=>none
    |_,_=>none
   |_,_=>none
  |_,_=>none
 |_,_,_=>none
def El(P:Program)(h:AHeap)(ts:Array TypeId)(ty:TypeId)(args:List AV):Out:=
 match ts[0]?,args with
 |some t,[d,x]=>match P.underlying t with
  |some (.slice e)=>match Bh P e,lenOf d,lenOf x with
   |some size,some dl,some n0=>match BZ h size (Nat.min n0 dl) x,d with
    |some cs,.sl id off _ _=>match h.blk? id with
     |some b=>match Nat.ble (off+(Nat.min n0 dl)*size) b.n&&cs.all BW&&Nat.beq cs.length ((Nat.min n0 dl)*size) with
      |true=>some (E5 (Nat.min n0 dl),h.put id (.blk {b with c:=Blk.putAll b.c off cs}))
      |false=>none
     |none=>none
    |some [],.emp _=>some (E5 (Nat.min n0 dl),h)
    |some [],.sc (.slice none _ _)=>some (E5 (Nat.min n0 dl),h)
    |some [],.fsl _ _ []=>some (E5 (Nat.min n0 dl),h)
    |_,_=>none
   |_,_,_=>none
  |_=>none
 |_,_=>none
def A7(P:Program)(h:AHeap)(b:Builtin)(ts:Array TypeId)(ty:TypeId)(args:List AV):Out:=
 match b with
 |.len=>qD P h ts ty args
 |.min=>qE P h ts ty args
 |.max=>qG P h ts ty args
 |.append=>EX P h ts ty args
 |.copy=>El P h ts ty args
 |_=>none
def eqU(e:SX):SX→Bool
 |.upd f i c x=>eqSX e (.upd f i c x)||eqU e f
 |.fit f x=>eqSX e (.fit f x)||eqU e f
 |f=>eqSX e f
def Xp(e i:SX):Nat→List SX→SX
 |_,[]=>e
 |c,x::xs=>.upd (Xp e i (Nat.succ c) xs) i c x
def W0(e i:SX):Nat→List SX→Bool
 |_,[]=>true
 |c,x::xs=>eqSX x (.at e i c)&&W0 e i (Nat.succ c) xs
def mN(e i:SX)(c:Nat)(xs:List SX):SX:=match W0 e i c xs with
 |true=>e
 |false=>Xp e i c xs
def Qh[O:Orc]:AV→AV
 |.sy .bool e=>match look e with
  |some b=>.sc (.bool b)
  |none=>.sy .bool e
 |a=>a
def MN:AV→Option (Ty×SX)
 |.sy t e=>some (t,e)
 |.sc (.int k z)=>some (.int k,.ki k z)
 |.sc (.bool b)=>some (.bool,.kb b)
 |.sc (.string s)=>some (.str,.ks s)
 |_=>none
def MO(a:AV):Option SX:=
 match MN a with
 |some (.int _,e)=>some e
 |_=>none
def eqS(x y:SX):SX:=match eqSX x y with
 |true=>.kb true
 |false=>.bin .eql x y
def Xq(op:BinOp)(x y:SX):Option SX:=
 match op with
 |.eql=>some (eqS x y)
 |.neq=>some (.not (eqS x y))
 |.lss=>some (.bin .lss x y)
 |.geq=>some (.not (.bin .lss x y))
 |.gtr=>some (.bin .lss y x)
 |.leq=>some (.not (.bin .lss y x))
 |_=>none
def inR(k:IntKind):Int→Bool
 |.ofNat n=>Nat.blt n (lim k)
 |.negSucc n=>k.signed&&Nat.blt n (lim k)
def G3(t:Ty)(a:AV):Option SX:=
 match t,a with
 |.int k,.sy (.int l) e=>match eqK k l with
  |true=>some e
  |false=>none
 |.int k,.sc (.int l z)=>match eqK k l&&inR l z with
  |true=>some (.ki l z)
  |false=>none
 |.bool,.sy .bool e=>some e
 |.bool,.sc (.bool b)=>some (.kb b)
 |.str,.sy .str e=>some e
 |.str,.sc (.string s)=>match Nat.ble s.size 9223372036854775807 with
  |true=>some (.ks s)
  |false=>none
 |_,_=>none
def symLits(P:Program):Nat→TypeId→List AV→Option (List SX)
 |0,_,_=>none
 |d+1,t,cs=>
  match P.underlying t with
  |some .bool=>match cs with
   | [c]=>(G3 .bool c).map ([·])
   |_=>none
  |some (.int q)=>match cs with
   | [c]=>(G3 (.int q) c).map ([·])
   |_=>none
  |some .string=>match cs with
   | [c]=>(G3 .str c).map ([·])
   |_=>none
  |some (.array n e)=>match Nat.beq cs.length (P.cellsOf t) with
   |true=>((List.range n).mapM fun i=>symLits P d e ((cs.drop (i*P.cellsOf e)).take (P.cellsOf e))).map List.flatten
   |false=>none
  |some (.struct fs)=>match Nat.beq cs.length (P.cellsOf t)&&fs.all (·.name != "_") with
   |true=>(fs.toList.mapM fun f=>symLits P d f.type ((cs.drop f.offset).take (P.cellsOf f.type))).map List.flatten
   |false=>none
  |_=>none
def IB:List SX→List SX→List SX
 |x::xs,y::ys=>match eqSX x y with
  |true=>IB xs ys
  |false=>.bin .eql x y::IB xs ys
 |_,_=>[]
def mO:List SX→SX
 | []=>.kb true
 | [e]=>e
 |es=>.all es
def W3(P:Program)(t:TypeId)(a b:AV):Option SX:=
 match G1 a,G1 b with
 |some cs,some ds=>match P.keyTypeAt 8 t&&Bool.not (P.eqGuardType P.depth t) with
  |true=>match symLits P 8 t cs,symLits P 8 t ds with
   |some xs,some ys=>match Nat.beq xs.length ys.length with
    |true=>some (mO (IB xs ys))
    |false=>none
   |_,_=>none
  |false=>none
 |_,_=>none
def ua(op:BinOp)(a b:AV):Option AV:=
 match op,a,b with
 |.shr,.sy (.int k) x,.sc (.int l (.ofNat c))=>some (.sy (.int k) (.bin .shr x (.ki l (.ofNat c))))
 |.shl,.sy (.int k) x,.sc (.int l (.ofNat c))=>some (.sy (.int k) (.bin .shl x (.ki l (.ofNat c))))
 |.quo,.sy (.int k) x,.sc (.int l (.ofNat c))=>match eqK k l&&Nat.blt 0 c with
  |true=>some (.sy (.int k) (.bin .quo x (.ki l (.ofNat c))))
  |false=>none
 |.rem,.sy (.int k) x,.sc (.int l (.ofNat c))=>match eqK k l&&Nat.blt 0 c with
  |true=>some (.sy (.int k) (.bin .rem x (.ki l (.ofNat c))))
  |false=>none
 |_,_,_=>none
def UH(P:Program)(op:BinOp)(t:TypeId)(a b:AV):Option AV:=
 match MN a,MN b with
 |some (.int k,x),some (.int l,y)=>match eqK k l with
  |true=>match op with
   |.add=>some (.sy (.int k) (.bin .add x y))
   |.sub=>some (.sy (.int k) (.bin .sub x y))
   |.mul=>some (.sy (.int k) (.bin .mul x y))
   |.and=>some (.sy (.int k) (.bin .and x y))
   |.or=>some (.sy (.int k) (.bin .or x y))
   |.xor=>some (.sy (.int k) (.bin .xor x y))
   |.andNot=>some (.sy (.int k) (.bin .andNot x y))
   |op=>(Xq op x y).map (.sy .bool)
  |false=>none
 |some (.str,x),some (.str,y)=>match op with
  |.eql=>some (.sy .bool (eqS x y))
  |.neq=>some (.sy .bool (.not (eqS x y)))
  |.lss=>some (.sy .bool (.bin .lss x y))
  |.geq=>some (.sy .bool (.not (.bin .lss x y)))
  |.gtr=>some (.sy .bool (.bin .lss y x))
  |.leq=>some (.sy .bool (.not (.bin .lss y x)))
  |_=>none
 |some (.bool,x),some (.bool,y)=>match P.underlying t with
  |some .bool=>match op with
   |.eql=>some (.sy .bool (eqS x y))
   |.neq=>some (.sy .bool (.not (eqS x y)))
   |_=>none
  |_=>none
 |_,_=>match op with
  |.eql=>match FZ P t with
   |some true=>(W3 P t a b).map (.sy .bool)
   |_=>none
  |.neq=>match FZ P t with
   |some true=>(W3 P t a b).map fun e=>.sy .bool (.not e)
   |_=>none
  |_=>none
def Xr(P:Program)(op:BinOp)(t:TypeId)(a b:AV):Option AV:=
 match ua op a b with
 |some r=>some r
 |none=>UH P op t a b
def leS[O:Orc](x y:SX):Bool:=
 match x,y with
 |.ki _ (.ofNat a),.ki _ (.ofNat b)=>Nat.ble a b
 |.ki _ (.ofNat 0),.len _=>true
 |x,y=>eqSX x y||(match look (.bin .lss x y) with
  |some true=>true
  |_=>match look (.bin .lss y x) with
   |some false=>true
   |_=>false)
def EL:SX:=.ki .i64 (.ofNat 0)
def Ac(e i:SX):Nat→List Ty→List AV
 |_,[]=>[]
 |k,t::ts=>.sy t (.at e i k)::Ac e i (Nat.succ k) ts
def rowsOf(e:SX)(cs:List Ty):Nat→Nat→List (List AV)
 |_,0=>[]
 |i,n+1=>Ac e (.ki .i64 (.ofNat i)) 0 cs::rowsOf e cs (i+1) n
def BH(t:TypeId)(ts:List Ty)(e:SX)(n:Nat):Blk:={t,row:=true,sz:=ts.length,n:=n*ts.length,z:=[],c:=Blk.putAll .nil 0 (rowsOf e ts 0 n).flatten}
def FA(ev:Operand→AV)(d:SX):Option Operand→Option SX
 |none=>some d
 |some x=>MO (ev x)
def mP:List Value→Bool
 | [.int .u8 (.ofNat 0)]=>true
 |_=>false
def UI[O:Orc](P:Program)(h:AHeap)(t:TypeId)(l c:AV):Out:=
 match P.underlying t,l,MO c with
 |some (.slice el),.sy (.int .i64) (.len d),some c'=>match P.info? el with
  |some i=>match i.zero with
   |some z=>match mP z.cells.toList&&Nat.beq i.size 1&&Nat.beq i.bytes 1&&leS (.len d) c'&&leS c' (.ki .i64 (.ofNat 1000000)) with
    |true=>some (.own h.next [.int .u8] (.bytes (.len d)),h.alloc (.grow el [.int .u8] (.bytes (.len d))))
    |false=>none
   |none=>none
  |none=>none
 |_,_,_=>none
def Fb(t:Ty)(a:AV):Option SX:=
 match a with
 |.sy u e=>match CJ t u with
  |true=>some e
  |false=>none
 |.sc v=>match t,v with
  |.int k,.int l z=>match eqK k l&&inR l z with
   |true=>some (.ki l z)
   |false=>none
  |.bool,.bool b=>some (.kb b)
  |.str,.string s=>match Nat.ble s.size 9223372036854775807 with
   |true=>some (.ks s)
   |false=>none
  |.slice _,.slice none 0 0=>some .emp
  |_,_=>none
 |_=>none
def Em:Ty→Bool
 |.slice _=>false
 |_=>true
def scalTs:List Ty→Bool
 | []=>true
 |t::ts=>Em t&&scalTs ts
def keyKind(P:Program)(kt:TypeId):Option Nat:=
 match P.underlying kt with
 |some (.int _)=>some 0
 |some (.struct _)=>match P.keyTypeAt 8 kt with
  |true=>some 1
  |false=>none
 |_=>none
def jD(P:Program):Nat→TypeId→Option (List Ty)
 |0,_=>none
 |d+1,t=>match P.underlying t with
  |some .bool=>some [.bool]
  |some (.int q)=>some [.int q]
  |some .string=>some [.str]
  |some (.struct fs)=>(fs.toList.mapM fun f=>jD P d f.type).map List.flatten
  |_=>none
def dummies:List Ty→Nat→List AV
 | [],_=>[]
 |t::ts,i=>.sy t (.v i)::dummies ts (Nat.succ i)
def varsFrom:List Ty→Nat→List SX
 | [],_=>[]
 |_::ts,i=>.v i::varsFrom ts (Nat.succ i)
def Qi(P:Program)(t:TypeId):Option (TypeId×TypeId×Nat×List Ty):=
 match P.underlying t with
 |some (.map k e)=>match keyKind P k,jD P 8 k,zeroOf P e with
  |some b,some ts,some (.bool false)=>match symLits P 8 k (dummies ts 0) with
   |some xs=>match scalTs ts&&eqSX.eqSXs xs (varsFrom ts 0) with
    |true=>some (k,e,b,ts)
    |false=>none
   |none=>none
  |_,_,_=>none
 |_=>none
def Fz:List Ty→List AV→Option (List SX)
 | [],[]=>some []
 |t::ts,c::cs=>match Fb t c,Fz ts cs with
  |some e,some es=>some (e::es)
  |_,_=>none
 |_,_=>none
def W4(b:Nat)(ts:List Ty)(a:AV):Option (List SX):=
 match Nat.beq b 0 with
 |true=>Fz ts [a]
 |false=>match G1 a with
  |some cs=>Fz ts cs
  |none=>none
def neC:SX→SX→Bool
 |.ki _ z,.ki _ y=>Bool.not (eqI z y)
 |.kb a,.kb b=>Bool.not (a==b)
 |_,_=>false
def UJ:List SX→List SX→Bool
 |x::xs,y::ys=>neC x y||UJ xs ys
 |_,_=>false
def Ng:SX→List SX→Option Bool
 |.emp,_=>some false
 |.cat x (.row ls),ks=>match eqSX.eqSXs ls ks with
  |true=>some true
  |false=>match UJ ls ks with
   |true=>Ng x ks
   |false=>none
 |_,_=>none
def Qj:SX→Option Nat
 |.emp=>some 0
 |.cat x (.row _)=>match Qj x with
  |some n=>some (Nat.succ n)
  |none=>none
 |_=>none
def jE[O:Orc](e:SX):Bool:=
 match Qj e with
 |some n=>Nat.ble n 1000000
 |none=>leS (.len e) (.ki .i64 (.ofNat 1000000))
def ub[O:Orc](e:SX)(ks:List SX):Option Bool:=
 match Ng e ks with
 |some c=>some c
 |none=>look (.bin .lss (.row ks) e)
def I5(P:Program)(ev:Operand→AV)(h:AHeap)(t:TypeId)(r:Option Operand):Out:=
 match Qi P t,r with
 |some (_,_,b,ts),none=>some (.hnd 2 h.next,h.alloc (.grow b ts .emp))
 |some (_,_,b,ts),some x=>match ev x with
  |.sc (.int _ _)=>some (.hnd 2 h.next,h.alloc (.grow b ts .emp))
  |_=>none
 |none,_=>none
def Nh(P:Program)(h:AHeap)(t:TypeId)(x i:AV):Out:=
 match Qi P t,x with
 |some (_,_,b,ts),.hnd 2 id=>match h.t.get id,W4 b ts i with
  |some (.grow c us e),some ks=>match Nat.beq b c&&CJ.eqTys us ts with
   |true=>match Ng e ks with
    |some r=>some (.sc (.bool r),h)
    |none=>some (.sy .bool (.bin .lss (.row ks) e),h)
   |false=>none
  |_,_=>none
 |_,_=>none
def Ni[O:Orc](P:Program)(h:AHeap)(t:TypeId)(x i v:AV):Out:=
 match Qi P t,x,v with
 |some (_,_,b,ts),.hnd 2 id,.sc (.bool true)=>match h.t.get id,W4 b ts i with
  |some (.grow c us e),some ks=>match Nat.beq b c&&CJ.eqTys us ts with
   |true=>match ub e ks,jE e with
    |some false,true=>some (.sc undef,h.put id (.grow b ts (.cat e (.row ks))))
    |_,_=>none
   |false=>none
  |_,_=>none
 |_,_,_=>none
def DF[O:Orc](P:Program)(ev:Operand→AV)(h:AHeap)(o:Oper):Out:=
 match o.op with
 |.pick c a b=>match Qh (ev c) with
  |.sc (.bool true)=>some (ev a,h)
  |.sc (.bool false)=>some (ev b,h)
  |_=>none
 |.binOp op t x y _=>(Xr P op t (ev x) (ev y)).map fun v=>(v,h)
 |.unOp .not _ x=>match ev x with
  |.sy .bool e=>some (.sy .bool (.not e),h)
  |_=>none
 |.convert src dst x=>match P.underlying src,P.underlying dst,ev x with
  |some _,some (.int k),.sy (.int _) e=>some (.sy (.int k) (.conv k e),h)
  |some (.slice el),some .string,.sy (.slice [.int .u8]) e=>match P.underlying el with
   |some (.int .u8)=>some (.sy .str (.text e),h)
   |_=>none
  |some (.slice el),some .string,.own id [.int .u8] e=>match P.underlying el,h.t.get id with
   |some (.int .u8),some (.grow _ [.int .u8] f)=>match eqU e f with
    |true=>some (.sy .str (.text f),h)
    |false=>none
   |_,_=>none
  |some .string,some (.slice el),.sy .str e=>match P.underlying el with
   |some (.int .u8)=>some (.sy (.slice [.int .u8]) (.bytes e),h)
   |_=>none
  |_,_,_=>none
 |.slice t x lo hi none=>match P.underlying t,ev x with
  |some .string,.sy .str e=>match FA ev EL lo,FA ev (.len e) hi with
   |some a,some b=>match leS EL a&&leS a b&&leS b (.len e) with
    |true=>some (.sy .str (.cut e a b),h)
    |false=>none
   |_,_=>none
  |some (.slice el),.sy (.slice cs) e=>match Bh P el with
   |some size=>match FA ev EL lo,FA ev (.len e) hi with
    |some a,some b=>match leS EL a&&leS a b&&leS b (.len e)&&Nat.beq size cs.length with
     |true=>some (.sy (.slice cs) (.cut e a b),h)
     |false=>none
    |_,_=>none
   |none=>none
  |some (.slice el),.sl id 0 len none=>match Bh P el,h.blk? id with
   |some size,some blk=>match bound ev 0 lo,bound ev len hi with
    |some l,some u=>match blk.row&&Nat.beq blk.sz size&&Nat.ble 1 size&&Nat.blt l u&&Nat.ble (u*size) blk.n with
     |true=>some (.sl id (l*size) (u-l) none,h)
     |false=>none
    |_,_=>none
   |_,_=>none
  |_,_=>none
 |.slice t x lo hi (some mx)=>match P.underlying t,ev x with
  |some (.slice el),.sy (.slice cs) _=>match Bh P el,bound ev 0 lo,bound ev 1 hi,bound ev 1 (some mx) with
   |some size,some 0,some 0,some 0=>match Nat.beq size cs.length with
    |true=>some (.emp 0,h)
    |false=>none
   |_,_,_,_=>none
  |_,_=>none
 |.indexAddr t x ix=>match P.underlying t,ev x with
  |some (.slice el),.sy (.slice cs) e=>match Bh P el,MO (ev ix) with
   |some size,some i=>match leS EL i&&Nat.beq size cs.length with
    |true=>match look (.bin .lss i (.len e)) with
     |some true=>some (.fp (Ac e i 0 cs),h)
     |_=>none
    |false=>none
   |_,_=>none
  |_,_=>none
 |.index t x ix=>match P.underlying t,ev x with
  |some .string,.sy .str e=>match MO (ev ix) with
   |some i=>match leS EL i with
    |true=>match look (.bin .lss i (.len e)) with
     |some true=>some (.sy (.int .u8) (.byte e i),h)
     |_=>none
    |false=>none
   |none=>none
  |_,_=>none
 |.sliceToArrayPointer t x=>match P.underlying t,ev x with
  |some (.array n el),.sy (.slice cs) e=>match Bh P el with
   |some size=>match Nat.beq size cs.length&&Nat.ble 1 n&&leS (.ki .i64 (.ofNat n)) (.len e) with
    |true=>some (.fp (rowsOf e cs 0 n).flatten,h)
    |false=>none
   |none=>none
  |_,_=>none
 |.makeSlice t l c=>UI P h t (ev l) (ev c)
 |.makeMap t r=>I5 P ev h t r
 |.lookup t x i false=>Nh P h t (ev x) (ev i)
 |.mapUpdate t m k x|.insert t m k x=>Ni P h t (ev m) (ev k) (ev x)
 |_=>none
def Nj[O:Orc](k:IntKind)(e:SX):Nat→Option Nat
 |0=>match look (.bin .eql e (.ki k (.ofNat 0))) with
  |some true=>some 0
  |_=>none
 |n+1=>match look (.bin .eql e (.ki k (.ofNat (Nat.succ n)))) with
  |some true=>some (Nat.succ n)
  |_=>Nj k e n
def Qk[O:Orc](a:AV):AV:=
 match a with
 |.sy (.int k) e=>match Nj k e 16 with
  |some c=>.sc (.int k (.ofNat c))
  |none=>a
 |_=>a
def mQ[O:Orc](op:BinOp)(a b:AV):Option AV:=
 match a,b with
 |.sy (.int k) x,.sy (.int l) y=>match op with
  |.quo=>match eqK k l&&(match look (.bin .eql y (.ki l (.ofNat 0))) with|some false=>true|_=>false) with
   |true=>some (.sy (.int k) (.bin .quo x y))
   |false=>none
  |.rem=>match eqK k l&&(match look (.bin .eql y (.ki l (.ofNat 0))) with|some false=>true|_=>false) with
   |true=>some (.sy (.int k) (.bin .rem x y))
   |false=>none
  |.shr=>match l.signed with
   |false=>some (.sy (.int k) (.bin .shr x y))
   |true=>none
  |.shl=>match l.signed with
   |false=>some (.sy (.int k) (.bin .shl x y))
   |true=>none
  |_=>none
 |_,_=>none
def UK[O:Orc](P:Program)(t:TypeId)(a b:AV):Option AV:=
 match P.underlying t,a with
 |some (.slice el),.own id ts e=>match Bh P el,MO b with
  |some size,some i=>match leS EL i&&Nat.beq size ts.length&&(match look (.bin .lss i (.len e)) with|some true=>true|_=>false) with
   |true=>some (.oe id ts e i 0)
   |false=>none
  |_,_=>none
 |_,_=>none
def UL(P:Program)(h:AHeap)(t:TypeId)(a:AV):Option AV:=
 match a with
 |.oe id ts e i c=>match h.t.get id,Bh P t with
  |some (.grow _ us f),some k=>match CJ.eqTys ts us&&eqU e f&&Nat.ble (c+k) ts.length&&Nat.ble 1 ts.length with
   |true=>Ek P t (((Ac f i 0 ts).drop c).take k)
   |false=>none
  |_,_=>none
 |_=>none
def Ql(P:Program)(h:AHeap)(t:TypeId)(a x:AV):Option AHeap:=
 match a with
 |.oe id ts e i c=>match h.t.get id,Bh P t,cellsOf x with
  |some (.grow el us f),some k,some cs=>match CJ.eqTys ts us&&eqU e f&&Nat.beq cs.length k&&Nat.ble (c+k) ts.length&&Nat.ble 1 ts.length&&cs.all BW with
   |true=>match Fz ((ts.drop c).take k) cs with
    |some es=>some (h.put id (.grow el us (mN f i c es)))
    |none=>none
   |false=>none
  |_,_,_=>none
 |_=>none
def Qm(P:Program)(s:TypeId)(a:AV)(f:Nat):Option AV:=
 match a,P.underlying s with
 |.oe id ts e i c,some (.struct fs)=>match fs[f]? with
  |some fl=>match Bh P fl.type with
   |some (_+1)=>some (.oe id ts e i (c+fl.offset))
   |_=>none
  |none=>none
 |_,_=>none
def Ru[O:Orc](a:AV):Option SX:=
 match a with
 |.sc (.string s)=>match Nat.ble s.size 1000000 with
  |true=>some (.ks s)
  |false=>none
 |.sy .str e=>match look (.bin .lss (.ki .i64 (.ofNat 1000000)) (.len e)) with
  |some false=>some e
  |_=>none
 |_=>none
def mR[O:Orc](op:BinOp)(a b:AV):Option AV:=
 match op,Ru a,Ru b with
 |.add,some x,some y=>some (.sy .str (.cat x y))
 |_,_,_=>none
def uc(a:AV):Option AV:=
 match a with
 |.sy (.int k) e=>some (.sy (.int k) (.bin .sub (.ki k (.ofNat 0)) e))
 |_=>none
def I6[O:Orc](P:Program)(ev:Operand→AV)(h:AHeap)(o:Oper):Out:=
 match DF P ev h o with
 |some r=>some r
 |none=>match o.op with
  |.indexAddr t x ix=>match UK P t (ev x) (ev ix) with
   |some r=>some (r,h)
   |none=>opA P (fun x=>Qk (ev x)) h o
  |.index _ _ _=>opA P (fun x=>Qk (ev x)) h o
  |.load t a=>(UL P h t (ev a)).map fun v=>(v,h)
  |.store t a x=>(Ql P h t (ev a) (ev x)).map fun h'=>(.sc undef,h')
  |.fieldAddr s x f=>(Qm P s (ev x) f).map fun v=>(v,h)
  |.binOp op _ x y _=>match mQ op (ev x) (ev y) with
   |some v=>some (v,h)
   |none=>(mR op (ev x) (ev y)).map fun v=>(v,h)
  |.unOp .neg _ x=>(uc (ev x)).map fun v=>(v,h)
  |_=>none
def jF(P:Program)(h:AHeap)(ts:Array TypeId)(args:List AV):Out:=
 match ts[0]?,args with
 |some t,[.sy .str e]=>match P.underlying t with
  |some .string=>some (.sy (.int .i64) (.len e),h)
  |_=>none
 |some t,[.sy (.slice _) e]=>match P.underlying t with
  |some (.slice _)=>some (.sy (.int .i64) (.len e),h)
  |_=>none
 |some t,[.own _ _ e]=>match P.underlying t with
  |some (.slice _)=>some (.sy (.int .i64) (.len e),h)
  |_=>none
 |_,_=>none
def jG[O:Orc](h:AHeap)(args:List AV):Out:=
 match args with
 | [a,b]=>match MN a,MN b with
  |some (.int k,x),some (.int l,y)=>match eqK k l with
   |true=>match leS x y with
    |true=>some (a,h)
    |false=>match leS y x with
     |true=>some (b,h)
     |false=>none
   |false=>none
  |_,_=>none
 |_=>none
def UM[O:Orc](a b:AV):Option AV:=
 match MN a,MN b with
 |some (.int k,x),some (.int l,y)=>match eqK k l with
  |true=>match leS x y with
   |true=>some b
   |false=>match leS y x with
    |true=>some a
    |false=>none
  |false=>none
 |_,_=>none
def Lp[O:Orc]:AV→List AV→Option AV
 |a,[]=>some a
 |a,b::l=>match UM a b with
  |some c=>Lp c l
  |none=>none
def jH[O:Orc](h:AHeap)(args:List AV):Out:=
 match args with
 |a::l=>match Lp a l with
  |some c=>some (c,h)
  |none=>none
 | []=>none
def noRoom:AV→Bool
 |.sc (.slice none 0 0)=>true
 |.sl _ _ 0 (some 0)=>true
 |.emp 0=>true
 |_=>false
def Lq(t:Ty):List AV→Option SX
 | []=>some .emp
 |a::as=>match Fb t a,Lq t as with
  |some e,some es=>some (.cat (.row [e]) es)
  |_,_=>none
def Rv:AV→Option (Ty×SX)
 |.sy (.slice [t]) e=>some (t,e)
 |.sy .str e=>some (.int .u8,.bytes e)
 |_=>none
def MP[O:Orc](P:Program)(h:AHeap)(ts:Array TypeId)(args:List AV):Out:=
 match ts[0]?,ts[1]?,args with
 |some t,some u,[.sl id off len (some c),x]=>match P.underlying t,P.underlying u,Rv x with
  |some (.slice _),some (.int _),_=>none
  |some (.slice el),some _,some (ty,e)=>match P.info? el,zeroCells P el,h.blk? id with
   |some i,some z,some b=>match Em ty&&Nat.beq c len&&Nat.beq i.size 1&&Nat.beq z.length 1&&Nat.ble 1 i.bytes&&Nat.ble (2000000*i.bytes) 140737488355328&&Nat.ble len 1000000&&Nat.ble (off+len) b.n with
    |true=>match Lq ty (b.cellsFrom off len),look (.bin .lss (.ki .i64 (.ofNat 1000000)) (.len e)) with
     |some old,some false=>some (.sy (.slice [ty]) (.cat old e),{next:=h.lim,lim:=Nat.succ h.lim,t:=h.t.cut id})
     |_,_=>none
    |false=>none
   |_,_,_=>none
  |_,_,_=>none
 |_,_,_=>none
def Nl[O:Orc](P:Program)(h:AHeap)(ts:Array TypeId)(args:List AV):Out:=
 match ts[0]?,ts[1]?,args with
 |some t,some u,[s,.sy (.slice cs) e]=>match P.underlying t,P.underlying u with
  |some (.slice el),some (.slice _)=>match P.info? el,zeroCells P el with
   |some i,some z=>match noRoom s&&Nat.beq cs.length i.size&&Nat.beq z.length i.size&&Nat.ble 1 i.size&&Nat.ble 1 i.bytes&&Nat.ble (1000000*i.bytes) 140737488355328 with
    |true=>match look (.bin .lss (.ki .i64 (.ofNat 1000000)) (.len e)) with
     |some false=>some (.sy (.slice cs) e,{next:=h.lim,lim:=Nat.succ h.lim,t:=h.t})
     |_=>none
    |false=>none
   |_,_=>none
  |_,_=>none
 |_,_,_=>none
def Gk:List Ty→List AV→Option (List SX×List AV)
 | [],as=>some ([],as)
 |t::ts,a::as=>match Fb t a,Gk ts as with
  |some e,some (es,r)=>some (e::es,r)
  |_,_=>none
 |_,_=>none
def Kb(ts:List Ty):Nat→List AV→Option SX
 |0,_=>some .emp
 |1,as=>match Gk ts as with
  |some (es,_)=>some (.row es)
  |none=>none
 |n+1,as=>match Gk ts as with
  |some (es,r)=>match Kb ts n r with
   |some x=>some (.cat (.row es) x)
   |none=>none
  |none=>none
def Nn[O:Orc](e:SX):Bool:=
 match e with
 |.emp=>true
 |.row _=>true
 |e=>match look (.bin .lss (.ki .i64 (.ofNat 1000000)) (.len e)) with
  |some false=>true
  |_=>false
def Rw[O:Orc](h:AHeap)(ts:List Ty)(x:AV):Option SX:=
 match x with
 |.sy (.slice us) e=>match CJ.eqTys ts us&&Nn e with
  |true=>some e
  |false=>none
 |.sy .str e=>match CJ.eqTys ts [.int .u8]&&Nn (.bytes e) with
  |true=>some (.bytes e)
  |false=>none
 |.sc (.string s)=>match CJ.eqTys ts [.int .u8]&&Nat.ble s.size 4096 with
  |true=>some (.bytes (.ks s))
  |false=>none
 |.sc (.slice none 0 0)=>some .emp
 |.emp _=>some .emp
 |.sl id off len _=>match Nat.ble len 4096,h.blk? id with
  |true,some b=>match Nat.ble (off+len*ts.length) b.n with
   |true=>Kb ts len (b.cellsFrom off (len*ts.length))
   |false=>none
  |_,_=>none
 |_=>none
def qH[O:Orc](e:SX):Bool:=match look (.bin .eql (.len (.cat .emp e)) (.len e)) with
 |some true=>true
 |_=>false
def eN[O:Orc](e e':SX):Bool:=match eqU e e' with
 |true=>true
 |false=>match eqSX e (.bytes (.len e')) with
  |true=>qH e'
  |false=>false
def PG[O:Orc](P:Program)(h:AHeap)(ts:Array TypeId)(args:List AV):Out:=
 match ts[0]?,ts[1]?,args with
 |some t,some u,[.own id tys e,x]=>match P.underlying t,P.underlying u with
  |some (.slice _),some (.int _)=>none
  |some (.slice el),some _=>match P.info? el,zeroCells P el,h.t.get id with
   |some i,some z,some (.grow t' tys' e')=>match Nat.beq t' el&&CJ.eqTys tys tys'&&eN e e'&&Nat.beq i.size tys.length&&Nat.beq z.length i.size&&Nat.ble 1 i.size&&Nat.ble 1 i.bytes&&Nat.ble (2000000*i.bytes) 140737488355328&&Nn e' with
    |true=>match Rw h tys x with
     |some x'=>some (.own h.next tys (.cat e' x'),AHeap.alloc {h with t:=h.t.cut id} (.grow el tys (.cat e' x')))
     |none=>none
    |false=>none
   |_,_,_=>none
  |_,_=>none
 |_,_,_=>none
def eO(h:AHeap)(id off:Nat):Option AHeap:=
 match h.blk? id with
 |some b=>match Nat.blt off b.n,b.cell off with
  |true,.own j us f=>match h.t.get j with
   |some (.grow _ vs g)=>match CJ.eqTys us vs&&eqU f g with
    |true=>some (AHeap.put {next:=h.next,lim:=h.lim,t:=h.t.cut j} id (.blk {b with c:=b.c.put off (.sy (.slice us) g)}))
    |false=>none
   |_=>none
  |_,_=>none
 |none=>none
def UN(h:AHeap)(x:AV):Option (AV×AHeap):=
 match x with
 |.own j us f=>match h.t.get j with
  |some (.grow _ vs g)=>match CJ.eqTys us vs&&eqU f g with
   |true=>some (.sy (.slice us) g,{next:=h.next,lim:=h.lim,t:=h.t.cut j})
   |false=>none
  |_=>none
 |.sl id off len cap=>match eO h id off with
  |some h'=>some (.sl id off len cap,h')
  |none=>none
 |_=>none
def Qn[O:Orc](P:Program)(h:AHeap)(ts:Array TypeId)(args:List AV):Out:=
 match args with
 | [s,x]=>match UN h x with
  |some (x',h')=>PG P h' ts [s,x']
  |none=>none
 |_=>none
def Jt[O:Orc](e:SX):Nat→Option Nat
 |0=>match look (.bin .eql (.len e) (.ki .i64 (.ofNat 0))) with
  |some true=>some 0
  |_=>none
 |n+1=>match look (.bin .eql (.len e) (.ki .i64 (.ofNat (Nat.succ n)))) with
  |some true=>some (Nat.succ n)
  |_=>Jt e n
def UO[O:Orc](P:Program)(h:AHeap)(ts:Array TypeId)(args:List AV):Out:=
 match args with
 | [.sl id off len cap,.sy (.slice cs) e]=>match leS (.ki .i64 (.ofNat len)) (.len e) with
  |true=>El P h ts 0 [.sl id off len cap,.fsl cs.length false (rowsOf e cs 0 len)]
  |false=>match Jt e len with
   |some j=>El P h ts 0 [.sl id off len cap,.fsl cs.length false (rowsOf e cs 0 j)]
   |none=>none
 |_=>none
def MQ[O:Orc](P:Program)(h:AHeap)(ts:Array TypeId)(args:List AV):Out:=
 match ts[0]?,args with
 |some t,[.own id tys e,x]=>match P.underlying t with
  |some (.slice el)=>match Bh P el,h.t.get id,Rw h tys x with
   |some size,some (.grow t' tys' e'),some x'=>match CJ.eqTys tys tys'&&eqSX e e'&&eqSX e (.bytes (.len x'))&&Nat.beq size tys.length&&Nat.ble 1 size with
    |true=>some (.sy (.int .i64) (.len x'),h.put id (.grow t' tys x'))
    |false=>none
   |_,_,_=>none
  |_=>none
 |_,_=>none
def Qo[O:Orc](P:Program)(h:AHeap)(ts:Array TypeId)(args:List AV):Out:=
 match args with
 | [s,x]=>match UN h x with
  |some (x',h')=>MQ P h' ts [s,x']
  |none=>none
 |_=>none
def Rx(b:Blk)(off:Nat):Nat→Bool
 |0=>true
 |n+1=>(match b.cell (off+n) with
  |.sc (.int .u8 (.ofNat 0))=>true
  |_=>false)&&Rx b off n
def Qp[O:Orc](P:Program)(h:AHeap)(ts:Array TypeId)(args:List AV):Out:=
 match ts[0]?,args with
 |some t,[.sl id off len _,.sy (.slice [.int .u8]) e]=>match P.underlying t with
  |some (.slice el)=>match Bh P el,h.blk? id with
   |some size,some b=>match Nat.beq size 1&&leS (.len e) (.ki .i64 (.ofNat len))&&Nat.ble (off+len) b.n&&Rx b off len with
    |true=>some (.sy (.int .i64) (.len e),h.put id (.blk {b with c:=Blk.putAll b.c off (rowsOf (.cat e (.bytes (.ki .i64 (.ofNat len)))) [.int .u8] 0 len).flatten}))
    |false=>none
   |_,_=>none
  |_=>none
 |_,_=>none
def MS(P:Program)(h:AHeap)(ts:Array TypeId)(args:List AV):Out:=
 match ts[0]?,ts[1]?,args with
 |some t,some u,[.sl id off len cap,.emp _]=>match P.underlying t,P.underlying u with
  |some (.slice e),some (.slice _)=>match P.info? e with
   |some _=>some (.sl id off len cap,h)
   |none=>none
  |_,_=>none
 |_,_,_=>none
def Qq(P:Program)(h:AHeap)(ts:Array TypeId)(args:List AV):Out:=
 match ts[0]?,args with
 |some t,[.sl id off len _]=>match P.underlying t with
  |some (.slice e)=>match zeroOf P e,h.blk? id with
   |some z,some b=>match Nat.ble 1 len&&Nat.ble 1 z.cells.size&&(List.replicate len (z.cells.toList.map AV.sc)).flatten.all BW&&Nat.ble (off+(List.replicate len (z.cells.toList.map AV.sc)).flatten.length) b.n with
    |true=>some (.sc (.tuple #[]),h.put id (.blk {b with c:=Blk.putAll b.c off (List.replicate len (z.cells.toList.map AV.sc)).flatten}))
    |false=>none
   |_,_=>none
  |_=>none
 |_,_=>none
def MT[O:Orc](P:Program)(h:AHeap)(b:Builtin)(ts:Array TypeId)(args:List AV):Out:=
 match b with
 |.len=>jF P h ts args
 |.min=>jG h args
 |.append=>match Nl P h ts args with
  |some r=>some r
  |none=>match MP P h ts args with
   |some r=>some r
   |none=>match PG P h ts args with
    |some r=>some r
    |none=>match Qn P h ts args with
     |some r=>some r
     |none=>MS P h ts args
 |.copy=>match UO P h ts args with
  |some r=>some r
  |none=>match MQ P h ts args with
   |some r=>some r
   |none=>match Qo P h ts args with
    |some r=>some r
    |none=>Qp P h ts args
 |.max=>jH h args
 |.clear=>Qq P h ts args
 |_=>none
def PH(x:AV)(args:List AV):Option (FuncId×List AV):=
 match x with
 |.sc (.func (.func g) first captured)=>some (g,first.toList.map .sc++args++captured.toList.map .sc)
 |.clo (.func g) first captured=>some (g,first++args++captured)
 |_=>none
def Gr(ev:Operand→AV)(c:Call):Option (FuncId×List AV):=
 match c.callee with
 |.value f=>PH (ev f) (c.args.toList.map ev)
 |_=>none
def yid:Nat:=18446744073709551616
def Lr(ev:Operand→AV)(c:Call):Option (List AV):=
 match c.callee with
 |.value f=>match ev f with
  |.hnd 1 id=>some (.hnd 1 id::c.args.toList.map ev)
  |_=>none
 |_=>none
inductive DefA where
 |box (id:Nat)
 |fn (f:FuncId) (args:List AV)
 |rest (l:List Deferred)
structure St where
 tm:Tr AV
 n:Nat
 h:AHeap
 df:Option (List DefA):=some []
def evF(G:Nat→Option (List AV))(tv:Nat→AV):Operand→AV
 |.tmp t=>tv t
 |.const v=>.sc v
 |.global g=>match G g with
  |some cs=>.fp cs
  |none=>.sc (.pointer (some ⟨g,0,none⟩))
 |.func f=>.sc (.func (.func f) #[] #[])
def tmV(tm:Tr AV)(t:Nat):AV:=(tm.get t).getD (.sc undef)
def St.ev(G:Nat→Option (List AV))(tm:Tr AV):Operand→AV:=evF G (tmV tm)
def St.putDst(s:St)(dst:Option Tmp)(v:AV)(h:AHeap):Option St:=
 match dst with
 |none=>some {s with h}
 |some d=>match Nat.blt d s.n with
  |true=>some {s with tm:=s.tm.put d v,h}
  |false=>none
abbrev Bi:=FuncId→List AV→AHeap→Out
def DD[O:Orc](P:Program)(call:Bi)(ev:Operand→AV)(h:AHeap)(o:Oper):Out:=
 match o.op with
 |.call c=>match c.callee with
  |.builtin b=>match A7 P h b c.argTypes o.type (c.args.toList.map ev) with
   |some r=>some r
   |none=>MT P h b c.argTypes (c.args.toList.map ev)
  |_=>match Gr ev c with
   |some (f,args)=>match Nat.beq f yid with
    |true=>none
    |false=>call f args h
   |none=>match Lr ev c with
    |some args=>call yid args h
    |none=>none
 |_=>match opA P ev h o with
  |some r=>some r
  |none=>I6 P ev h o
def F0[O:Orc](ops:Array Oper)(tv:Nat→AV)(o:Oper):Option Bool:=
 match o.guard with
 |none=>some true
 |some (j,want)=>match (ops[j]?).bind (·.dst) with
  |some d=>match Qh (tv d) with
   |.sc (.bool b)=>some (b==want)
   |.dead=>none
   |.sy _ _=>none
   |_=>some false
  |none=>some false
def Xs(ev:Operand→AV)(s:St)(o:Oper):Option St:=
 match o.op with
 |.defer c=>match s.df,Gr ev c with
  |some l,some (f,args)=>match s.putDst o.dst (.sc undef) s.h with
   |some s'=>some {s' with df:=some (.fn f args::l)}
   |none=>none
  |_,_=>none
 |_=>none
def Qr[O:Orc](P:Program)(G:Nat→Option (List AV))(call:Bi)(ops:Array Oper):List Oper→St→Option St
 | [],s=>some s
 |o::rest,s=>match F0 ops (tmV s.tm) o with
  |some true=>match DD P call (St.ev G s.tm) s.h o with
   |some (v,h)=>match s.putDst o.dst v h with
    |some s'=>Qr P G call ops rest s'
    |none=>none
   |none=>match Xs (St.ev G s.tm) s o with
    |some s'=>Qr P G call ops rest s'
    |none=>none
  |some false=>match s.putDst o.dst (.sc undef) s.h with
   |some s'=>Qr P G call ops rest s'
   |none=>none
  |none=>none
def hasBit(m i:Nat):Bool:=Nat.beq (Nat.land (Nat.shiftRight m i) 1) 1
def bit(i:Nat):Nat:=Nat.shiftLeft 1 i
def eqV:Value→Value→Bool
 |.bool a,.bool b=>match a with
  |true=>b
  |false=>Bool.not b
 |.int k (.ofNat a),.int l (.ofNat b)=>decide (k=l)&&Nat.beq a b
 |.int k (.negSucc a),.int l (.negSucc b)=>decide (k=l)&&Nat.beq a b
 |.pointer none,.pointer none=>true
 |.slice none a b,.slice none c d=>Nat.beq a c&&Nat.beq b d
 |.nilFunc,.nilFunc=>true
 |.nilIface,.nilIface=>true
 |.map none,.map none=>true
 |.string a,.string b=>decide (a.data.toList.map (·.toNat)=b.data.toList.map (·.toNat))
 |_,_=>false
def eqA:AV→AV→Bool
 |.dead,_=>true
 |.sc u,.sc v=>eqV u v
 |.ptr i a,.ptr j b=>Nat.beq i j&&Nat.beq a b
 |.sl i a l c,.sl j b k d=>Nat.beq i j&&Nat.beq a b&&Nat.beq l k&&(match c,d with
  |none,none=>true
  |some c,some d=>Nat.beq c d
  |_,_=>false)
 |.emp a,.emp b=>Nat.beq a b
 |.agg cs,.agg ds=>eqAs cs ds
 |.ifc t x,.ifc u y=>Nat.beq t u&&eqA x y
 |.sy t e,.sy u f=>CJ t u&&eqSX e f
 |.fp cs,.fp ds=>eqAs cs ds
 |.fsl s x es,.fsl t y fs=>Nat.beq s t&&x==y&&eqRs es fs
 |.own i ts e,.own j us f=>Nat.beq i j&&CJ.eqTys ts us&&eqSX e f
 |_,_=>false
where
 eqAs:List AV→List AV→Bool
  | [],[]=>true
  |c::cs,d::ds=>eqA c d&&eqAs cs ds
  |_,_=>false
 eqRs:List (List AV)→List (List AV)→Bool
  | [],[]=>true
  |c::cs,d::ds=>eqAs c d&&eqRs cs ds
  |_,_=>false
def No(e:Edge):Bool:=
 match e.ground with
 |.textOnly _=>false
 |.gcOnly _=>false
 |_=>true
def F1(acc:List Nat):List Edge→Nat
 | []=>0
 |e::es=>match No e with
  |true=>Nat.lor (Nat.lor (F1 acc es) (bit e.on)) (acc.getD e.on 0)
  |false=>F1 acc es
def FB:List Oper→List Nat→List Nat
 | [],acc=>acc
 |o::os,acc=>FB os (acc++[F1 acc o.after.toList])
def C3(o:Oper):Bool:=
 match o.op with
 |.store ..=>true
 |.next ..=>true
 |.call c=>match c.callee with
  |.builtin .len=>false
  |.builtin .min=>false
  |.builtin .max=>false
  |_=>true
 |_=>false
def Fc(o:Oper):Bool:=
 match o.op with
 |.load ..=>true
 |.convert ..=>true
 |_=>false
def tmpsOf:List Operand→List Tmp
 | []=>[]
 |.tmp t::xs=>t::tmpsOf xs
 |_::xs=>tmpsOf xs
def I7(ops:Array Oper)(o:Oper):List Tmp:=
 (match o.guard with
  |some (j,_)=>match (ops[j]?).bind (·.dst) with
   |some d=>[d]
   |none=>[]
  |none=>[])++tmpsOf o.op.operands.toList
def Xt(t:Nat):List Nat→Bool
 | []=>false
 |u::us=>Nat.beq t u||Xt t us
structure DRow where
 j:Nat
 o:Oper
 sees:List Tmp
 anc:Nat
 act:Bool
def Hi(ops:Array Oper)(ms:List Nat):Nat→List Oper→List DRow
 |_,[]=>[]
 |j,o::os=>{j,o,sees:=I7 ops o,anc:=ms.getD j 0,act:=C3 o}::Hi ops ms (Nat.succ j) os
def CP(ops:Array Oper):List DRow:=Hi ops (FB ops.toList []) 0 ops.toList
def writesIn(x:DRow)(ts:List Tmp):Bool:=
 match x.o.dst with
 |some d=>Xt d ts
 |none=>false
def aw(x y:DRow):Bool:=
 match x.o.dst,y.o.dst with
 |some d,some e=>Nat.beq d e
 |_,_=>false
def Xu(x y:DRow):Bool:=
 hasBit y.anc x.j||Bool.not ((x.act&&y.act)||writesIn x y.sees||writesIn y x.sees||aw x y)
def DJ:List DRow→Bool
 | []=>true
 |x::xs=>Nat.blt x.anc (bit x.j)&&xs.all (Xu x)&&DJ xs
def loA(rows:List DRow)(y:DRow):Nat:=(rows.filter fun x=>x.act&&hasBit y.anc x.j).length
def hiA(rows:List DRow)(y:DRow):Nat:=(rows.filter fun x=>x.act&&Bool.not (hasBit x.anc y.j)).length
def F2(b anc mk:Nat):List (Nat×AObj)→Tr AObj→Tr AObj
 | [],t=>t
 |(i,o)::l,t=>match hasBit anc i&&Bool.not (hasBit mk i) with
  |true=>(F2 b anc mk l t).put (Nat.add b i) o
  |false=>F2 b anc mk l t
structure DS where
 tm:Tr AV
 news:List (Nat×AObj)
 h:AHeap
 got:Nat
 past:List (AHeap×Nat)
 reads:List (DRow×Tr AV×AV)
def farA(b:Nat):Nat:=Nat.add b 1180591620717411303424
def UP(n:Nat)(tm:Tr AV)(dst:Option Tmp)(v:AV):Option (Tr AV):=
 match dst with
 |none=>some tm
 |some d=>match Nat.blt d n with
  |true=>some (tm.put d v)
  |false=>none
section
variable [O:Orc]
variable (P:Program)(G:Nat→Option (List AV))(call:Bi)(ops:Array Oper)(b nt:Nat)
def PI(y:DRow)(lim:Nat)(news:List (Nat×AObj))(h:AHeap)(mk:Nat):AHeap:={next:=Nat.add b y.j,lim,t:=F2 b y.anc mk news h.t}
def mS(y:DRow)(s:DS):Option DS:=
 match F0 ops (tmV s.tm) y.o with
 |none=>none
 |some false=>match UP nt s.tm y.o.dst (.sc undef) with
  |none=>none
  |some tm=>match y.act with
   |true=>some {s with tm,got:=Nat.lor s.got (bit y.j),past:=s.past++[(s.h,Nat.lor s.got (bit y.j))]}
   |false=>some {s with tm}
 |some true=>match y.act with
  |true=>match DD P call (St.ev G s.tm) (PI b y s.h.lim s.news s.h s.got) y.o with
   |none=>none
   |some (v,h)=>match Nat.ble s.h.lim h.lim&&Nat.ble h.lim (farA b) with
    |false=>none
    |true=>match UP nt s.tm y.o.dst v with
     |none=>none
     |some tm=>some {s with tm,h,got:=Nat.lor (Nat.lor s.got y.anc) (bit y.j),past:=s.past++[(h,Nat.lor (Nat.lor s.got y.anc) (bit y.j))]}
  |false=>match DD P call (St.ev G s.tm) {next:=Nat.add b y.j,lim:=farA b,t:=.nil} y.o with
   |some (v,h)=>match UP nt s.tm y.o.dst v with
    |none=>none
    |some tm=>match h.t.get (Nat.add b y.j) with
     |some ob=>match Nat.beq h.next (farA b)&&Nat.beq h.lim (Nat.succ (farA b)) with
      |true=>some {s with tm,news:=(y.j,ob)::s.news}
      |false=>none
     |none=>match Nat.beq h.next (Nat.add b y.j)&&Nat.beq h.lim (farA b) with
      |true=>some {s with tm}
      |false=>none
   |none=>match Fc y.o with
    |false=>none
    |true=>match DD P call (St.ev G s.tm) (PI b y (farA b) s.news s.h s.got) y.o with
     |none=>none
     |some (v,_)=>match UP nt s.tm y.o.dst v with
      |none=>none
      |some tm=>some {s with tm,reads:=(y,s.tm,v)::s.reads}
def Lt:List DRow→DS→Option DS
 | [],s=>some s
 |y::ys,s=>match mS P G call ops b nt y s with
  |some s'=>Lt ys s'
  |none=>none
def jI(r:DRow×Tr AV×AV)(news:List (Nat×AObj))(c:AHeap×Nat):Bool:=
 match DD P call (St.ev G r.2.1) (PI b r.1 (farA b) news c.1 c.2) r.1.o with
 |some (v,_)=>eqA r.2.2 v
 |none=>false
def Xv(rows:List DRow)(news:List (Nat×AObj))(past:List (AHeap×Nat))(r:DRow×Tr AV×AV):Bool:=
 Nat.ble (hiA rows r.1) (loA rows r.1)||((past.take (Nat.succ (hiA rows r.1))).drop (loA rows r.1)).all (jI P G call b r news)
end
def notGrow:AObj→Bool
 |.grow ..=>false
 |_=>true
def noGrowAt(h:AHeap)(id:Nat):Bool:=
 match h.t.get id with
 |some (.grow ..)=>false
 |_=>true
def jJ[O:Orc](P:Program)(G:Nat→Option (List AV))(call:Bi)(ops:Array Oper)(rows:List DRow)(s:St):Option St:=
 match DJ rows&&Nat.ble (Nat.add s.h.lim ops.size) (farA s.h.lim) with
 |false=>none
 |true=>match Lt P G call ops s.h.lim s.n rows {tm:=s.tm,news:=[],h:={next:=0,lim:=Nat.add s.h.lim ops.size,t:=s.h.t},got:=0,past:=[({next:=0,lim:=Nat.add s.h.lim ops.size,t:=s.h.t},0)],reads:=[]} with
  |none=>none
  |some d=>match d.reads.all (Xv P G call s.h.lim rows d.news d.past)&&(d.news.all (fun n=>notGrow n.2)&&d.past.all (fun c=>d.news.all (fun n=>noGrowAt c.1 (Nat.add s.h.lim n.1)))) with
   |false=>none
   |true=>some {tm:=d.tm,n:=s.n,h:={next:=d.h.lim,lim:=Nat.succ d.h.lim,t:=F2 s.h.lim (Nat.sub (bit ops.size) 1) d.got d.news d.h.t},df:=s.df}
def eP[O:Orc](P:Program)(G:Nat→Option (List AV))(call:Bi)(ops:Array Oper)(s:St):Option St:=jJ P G call ops (CP ops) s
abbrev Run:=Option (Ex×St)
def Xw(P:Program)(call:Bi)(g:AV)(ps:Array Tmp)(asg body:Code)(s:St):Run:=
 match s.df with
 |none=>none
 |some l=>match PH g [.hnd 1 (s.h.alloc (.box true)).next]with
  |none=>none
  |some (f,args)=>match (match Nat.beq f yid with|true=>none|false=>call f args ((s.h.alloc (.box true)).alloc (.loop 0 .normal s.tm s.n ps asg body))) with
   |none=>none
   |some (_,h)=>match h.t.get (s.h.alloc (.box true)).next with
    |some (.loop st pend tm n ps' asg' body')=>match Nat.beq st 1 with
     |true=>none
     |false=>some (pend,{tm:=s.tm,n:=s.n,h:=h.put (s.h.alloc (.box true)).next (.loop 3 pend tm n ps' asg' body'),df:=some (.box s.h.next::l)})
    |_=>none
def BA[O:Orc](P:Program)(G:Nat→Option (List AV))(call:Bi)(iter jump:Code→St→Run):Code→St→Run
 |.skip,s=>some (.normal,s)
 |.region _ ops draw,s=>match draw with
  |false=>match Qr P G call ops ops.toList s with
   |some s'=>some (.normal,s')
   |none=>none
  |true=>match eP P G call ops s with
   |some s'=>some (.normal,s')
   |none=>none
 |.seq a b,s=>match BA P G call iter jump a s with
  |some (.normal,s')=>BA P G call iter jump b s'
  |r=>r
 |.cond c a b,s=>match Qh (St.ev G s.tm c) with
  |.sc (.bool true)=>BA P G call iter jump a s
  |.sc (.bool false)=>BA P G call iter jump b s
  |_=>none
 |.block id a,s=>match BA P G call iter jump a s with
  |some (.exit i,s')=>match Nat.beq i id with
   |true=>some (.normal,s')
   |false=>some (.exit i,s')
  |r=>r
 |.loop a,s=>iter a s
 |.scope a,s=>match BA P G call iter jump a s with
  |some (.goto l,s')=>match findLabel a l with
   |some rest=>match jump rest s' with
    |some (.goto _,_)=>none
    |r=>r
   |none=>some (.goto l,s')
  |r=>r
 |.goto l,s=>some (.goto l,s)
 |.rangeFunc g ps asg body,s=>Xw P call (St.ev G s.tm g) ps asg body s
 |.exit id,s=>some (.exit id,s)
 |.label _,s=>some (.normal,s)
 |.ret,s=>some (.ret,s)
 |_,_=>none
def Cq(P:Program)(tm:Tr AV)(h:AHeap):List ResultVar→Option (List AV)
 | []=>some []
 |.tmp t::rs=>match Cq P tm h rs with
  |some vs=>some ((tm.get t).getD (.sc undef)::vs)
  |none=>none
 |.cell a t::rs=>match tm.get a,Bh P t,Cq P tm h rs with
  |some (.ptr id off),some k,some vs=>match h.blk? id with
   |some b=>match Nat.ble (off+k) b.n with
    |true=>match Ek P t (b.cellsFrom off k) with
     |some v=>some (v::vs)
     |none=>none
    |false=>none
   |none=>none
  |_,_,_=>none
def Ju(i:Nat)(vs:List AV)(t:Tr AV):Tr AV:=Blk.putAll t i vs
def MU(n:Nat):List Tmp→List AV→Tr AV→Option (Tr AV)
 | [],[],tm=>some tm
 |t::ts,v::vs,tm=>match Nat.blt t n with
  |true=>MU n ts vs (tm.put t v)
  |false=>none
 |_,_,_=>none
def Xx(run:Code→St→Run)(args:List AV)(h:AHeap):Out:=
 match args with
 |.hnd 1 id::vs=>match h.t.get id with
  |some (.loop _ _ tm n ps asg body)=>match MU n ps.toList vs tm with
   |none=>none
   |some tm'=>match run asg {tm:=tm',n,h,df:=none} with
    |some (.normal,s1)=>match s1.h.t.get id with
     |some (.loop 0 pend tm1 n1 ps1 asg1 body1)=>match run body {s1 with h:=s1.h.put id (.loop 1 pend tm1 n1 ps1 asg1 body1)} with
      |some (e,s2)=>match s2.h.t.get id with
       |some (.loop _ _ tm2 n2 ps2 asg2 body2)=>match e with
        |.normal=>some (.sc (.bool true),s2.h.put id (.loop 0 .normal tm2 n2 ps2 asg2 body2))
        |.goto _=>none
        |e=>some (.sc (.bool false),s2.h.put id (.loop 2 e tm2 n2 ps2 asg2 body2))
       |_=>none
      |none=>none
     |_=>none
    |_=>none
  |_=>none
 |_=>none
def isRec(o:Oper):Bool:=
 match o.op with
 |.call c=>match c.callee with
  |.builtin .recover=>true
  |_=>false
 |_=>false
def Ry:Bi:=fun _ _ _=>none
def Qs[O:Orc](P:Program)(G:Nat→Option (List AV))(ops:Array Oper):List Oper→St→Option St
 | [],s=>some s
 |o::rest,s=>match F0 ops (tmV s.tm) o with
  |some true=>match isRec o with
   |true=>match s.putDst o.dst (.sc .nilIface) s.h with
    |some s'=>Qs P G ops rest s'
    |none=>none
   |false=>match DD P Ry (St.ev G s.tm) s.h o with
    |some (v,h)=>match s.putDst o.dst v h with
     |some s'=>Qs P G ops rest s'
     |none=>none
    |none=>none
  |some false=>match s.putDst o.dst (.sc undef) s.h with
   |some s'=>Qs P G ops rest s'
   |none=>none
  |none=>none
def FT[O:Orc](P:Program)(G:Nat→Option (List AV))(run:Code→St→Run):Code→St→Run
 |.seq a b,s=>match FT P G run a s with
  |some (.normal,s')=>FT P G run b s'
  |r=>r
 |.cond c a b,s=>match Qh (St.ev G s.tm c) with
  |.sc (.bool true)=>FT P G run a s
  |.sc (.bool false)=>FT P G run b s
  |_=>none
 |.region id ops draw,s=>match draw with
  |false=>match Qs P G ops ops.toList s with
   |some s'=>some (.normal,s')
   |none=>none
  |true=>run (.region id ops draw) s
 |c,s=>run c s
def Xy(P:Program)(runD:Code→St→Run)(f:FuncId)(args:List AV)(h:AHeap):Option AHeap:=
 match P.funcs[f]? with
 |none=>none
 |some fn=>match fn.body with
  |none=>none
  |some c=>match runD c {tm:=Ju 0 args .nil,n:=Nat.max args.length fn.ntmps,h} with
   |some (.normal,s)|some (.ret,s)=>match s.df,Cq P s.tm s.h fn.results.toList with
    |some [],some _=>some s.h
    |_,_=>none
   |_=>none
def G4(P:Program)(runD:Code→St→Run):List DefA→AHeap→Option AHeap
 | [],h=>some h
 |.box id::ds,h=>match h.t.get id with
  |some (.box true)=>G4 P runD ds (h.put id (.box false))
  |_=>none
 |.fn f args::ds,h=>match Xy P runD f args h with
  |some h'=>G4 P runD ds h'
  |none=>none
 |.rest _::_,_=>none
def Rz(P:Program)(run runD:Code→St→Run)(fn:Func)(args:List AV)(h:AHeap):Out:=
 match fn.body with
 |none=>none
 |some c=>match run c {tm:=Ju 0 args .nil,n:=Nat.max args.length fn.ntmps,h} with
  |some (.normal,s)|some (.ret,s)=>match s.df with
   |none=>none
   |some l=>match G4 P runD l s.h with
    |none=>none
    |some h'=>match Cq P s.tm h' fn.results.toList with
     |some [v]=>some (v,h')
     |some vs=>some (.tup vs,h')
     |none=>none
  |_=>none
def GP(P:Program)(run runD:Code→St→Run)(f:FuncId)(args:List AV)(h:AHeap):Out:=
 match Nat.beq f yid with
 |true=>none
 |false=>match P.funcs[f]? with
  |none=>none
  |some fn=>Rz P run runD fn args h
def Np(P:Program)(run runD:Code→St→Run)(f:FuncId)(args:List AV)(h:AHeap):Out:=
 match Nat.beq f yid with
 |true=>Xx run args h
 |false=>GP P run runD f args h
def Cn[O:Orc](P:Program)(G:Nat→Option (List AV))(spec:FuncId→Option (List AV→AHeap→Out)):Nat→Code→St→Run
 |0,_,_=>none
 |n+1,c,s=>BA P G
   (fun f args h=>match spec f with
    |some sp=>sp args h
    |none=>Np P (Cn P G spec n) (FT P G (Cn P G spec n)) f args h)
   (fun a s=>match Cn P G spec n a s with
    |some (.normal,s')=>Cn P G spec n (.loop a) s'
    |r=>r) (Cn P G spec n) c s
def W5[O:Orc](P:Program)(G:Nat→Option (List AV))(spec:FuncId→Option (List AV→AHeap→Out))(n:Nat)(f:FuncId)(args:List AV)(h:AHeap):Out:=
 GP P (Cn P G spec n) (FT P G (Cn P G spec n)) f args h
end Go.AM
end
