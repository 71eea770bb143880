/-
  A part of the proof of ClientTells (the machine on named data, and the contracts of the functions that the law reaches): Kg Kf0 Kfd Kf1.
-/
import Derived.Test.YteoindgcjoldhaaGreatDoorProg
import Derived.KernelRfl
import Derived.Lib.Case
import Derived.Test.YteoindgcjoldhaaGreatDoorAmF
import Derived.Test.YteoindgcjoldhaaGreatDoorAmH
set_option linter.all false
set_option linter.unusedVariables false
set_option linter.unusedSimpArgs false
set_option linter.unusedSectionVars false
namespace Go.Proofs.YteoindgcjoldhaaGreatDoor
open Go Go.AM
noncomputable def gStart : List AV := [.sc (.int .u32 1779033703), .sc (.int .u32 3144134277), .sc (.int .u32 1013904242), .sc (.int .u32 2773480762), .sc (.int .u32 1359893119), .sc (.int .u32 2600822924), .sc (.int .u32 528734635), .sc (.int .u32 1541459225)]
noncomputable def gOrders : List AV := [.sc (.int .i64 0), .sc (.int .i64 1), .sc (.int .i64 2), .sc (.int .i64 3), .sc (.int .i64 4), .sc (.int .i64 5), .sc (.int .i64 6), .sc (.int .i64 7), .sc (.int .i64 8), .sc (.int .i64 9), .sc (.int .i64 10), .sc (.int .i64 11), .sc (.int .i64 12), .sc (.int .i64 13), .sc (.int .i64 14), .sc (.int .i64 15), .sc (.int .i64 14), .sc (.int .i64 10), .sc (.int .i64 4), .sc (.int .i64 8), .sc (.int .i64 9), .sc (.int .i64 15), .sc (.int .i64 13), .sc (.int .i64 6), .sc (.int .i64 1), .sc (.int .i64 12), .sc (.int .i64 0), .sc (.int .i64 2), .sc (.int .i64 11), .sc (.int .i64 7), .sc (.int .i64 5), .sc (.int .i64 3), .sc (.int .i64 11), .sc (.int .i64 8), .sc (.int .i64 12), .sc (.int .i64 0), .sc (.int .i64 5), .sc (.int .i64 2), .sc (.int .i64 15), .sc (.int .i64 13), .sc (.int .i64 10), .sc (.int .i64 14), .sc (.int .i64 3), .sc (.int .i64 6), .sc (.int .i64 7), .sc (.int .i64 1), .sc (.int .i64 9), .sc (.int .i64 4), .sc (.int .i64 7), .sc (.int .i64 9), .sc (.int .i64 3), .sc (.int .i64 1), .sc (.int .i64 13), .sc (.int .i64 12), .sc (.int .i64 11), .sc (.int .i64 14), .sc (.int .i64 2), .sc (.int .i64 6), .sc (.int .i64 5), .sc (.int .i64 10), .sc (.int .i64 4), .sc (.int .i64 0), .sc (.int .i64 15), .sc (.int .i64 8), .sc (.int .i64 9), .sc (.int .i64 0), .sc (.int .i64 5), .sc (.int .i64 7), .sc (.int .i64 2), .sc (.int .i64 4), .sc (.int .i64 10), .sc (.int .i64 15), .sc (.int .i64 14), .sc (.int .i64 1), .sc (.int .i64 11), .sc (.int .i64 12), .sc (.int .i64 6), .sc (.int .i64 8), .sc (.int .i64 3), .sc (.int .i64 13), .sc (.int .i64 2), .sc (.int .i64 12), .sc (.int .i64 6), .sc (.int .i64 10), .sc (.int .i64 0), .sc (.int .i64 11), .sc (.int .i64 8), .sc (.int .i64 3), .sc (.int .i64 4), .sc (.int .i64 13), .sc (.int .i64 7), .sc (.int .i64 5), .sc (.int .i64 15), .sc (.int .i64 14), .sc (.int .i64 1), .sc (.int .i64 9), .sc (.int .i64 12), .sc (.int .i64 5), .sc (.int .i64 1), .sc (.int .i64 15), .sc (.int .i64 14), .sc (.int .i64 13), .sc (.int .i64 4), .sc (.int .i64 10), .sc (.int .i64 0), .sc (.int .i64 7), .sc (.int .i64 6), .sc (.int .i64 3), .sc (.int .i64 9), .sc (.int .i64 2), .sc (.int .i64 8), .sc (.int .i64 11), .sc (.int .i64 13), .sc (.int .i64 11), .sc (.int .i64 7), .sc (.int .i64 14), .sc (.int .i64 12), .sc (.int .i64 1), .sc (.int .i64 3), .sc (.int .i64 9), .sc (.int .i64 5), .sc (.int .i64 0), .sc (.int .i64 15), .sc (.int .i64 4), .sc (.int .i64 8), .sc (.int .i64 6), .sc (.int .i64 2), .sc (.int .i64 10), .sc (.int .i64 6), .sc (.int .i64 15), .sc (.int .i64 14), .sc (.int .i64 9), .sc (.int .i64 11), .sc (.int .i64 3), .sc (.int .i64 0), .sc (.int .i64 8), .sc (.int .i64 12), .sc (.int .i64 2), .sc (.int .i64 13), .sc (.int .i64 7), .sc (.int .i64 1), .sc (.int .i64 4), .sc (.int .i64 10), .sc (.int .i64 5), .sc (.int .i64 10), .sc (.int .i64 2), .sc (.int .i64 8), .sc (.int .i64 4), .sc (.int .i64 7), .sc (.int .i64 6), .sc (.int .i64 1), .sc (.int .i64 5), .sc (.int .i64 15), .sc (.int .i64 11), .sc (.int .i64 9), .sc (.int .i64 14), .sc (.int .i64 3), .sc (.int .i64 12), .sc (.int .i64 13), .sc (.int .i64 0)]
noncomputable def gFours : List AV := [.sc (.int .i64 0), .sc (.int .i64 4), .sc (.int .i64 8), .sc (.int .i64 12), .sc (.int .i64 1), .sc (.int .i64 5), .sc (.int .i64 9), .sc (.int .i64 13), .sc (.int .i64 2), .sc (.int .i64 6), .sc (.int .i64 10), .sc (.int .i64 14), .sc (.int .i64 3), .sc (.int .i64 7), .sc (.int .i64 11), .sc (.int .i64 15), .sc (.int .i64 0), .sc (.int .i64 5), .sc (.int .i64 10), .sc (.int .i64 15), .sc (.int .i64 1), .sc (.int .i64 6), .sc (.int .i64 11), .sc (.int .i64 12), .sc (.int .i64 2), .sc (.int .i64 7), .sc (.int .i64 8), .sc (.int .i64 13), .sc (.int .i64 3), .sc (.int .i64 4), .sc (.int .i64 9), .sc (.int .i64 14)]
noncomputable def G : Nat → Option (List AV)
  | 0 => some gStart
  | 2 => some gOrders
  | 3 => some gFours
  | _ => none
noncomputable def dig0 : List AV := [.sc (.int .u8 105), .sc (.int .u8 33), .sc (.int .u8 122), .sc (.int .u8 48), .sc (.int .u8 121), .sc (.int .u8 144), .sc (.int .u8 128), .sc (.int .u8 148), .sc (.int .u8 225), .sc (.int .u8 17), .sc (.int .u8 33), .sc (.int .u8 208), .sc (.int .u8 66), .sc (.int .u8 53), .sc (.int .u8 74), .sc (.int .u8 124), .sc (.int .u8 31), .sc (.int .u8 85), .sc (.int .u8 182), .sc (.int .u8 72), .sc (.int .u8 44), .sc (.int .u8 161), .sc (.int .u8 165), .sc (.int .u8 30), .sc (.int .u8 27), .sc (.int .u8 37), .sc (.int .u8 13), .sc (.int .u8 253), .sc (.int .u8 30), .sc (.int .u8 208), .sc (.int .u8 238), .sc (.int .u8 249)]
noncomputable def dig1 : List AV := [.sc (.int .u8 81), .sc (.int .u8 230), .sc (.int .u8 225), .sc (.int .u8 118), .sc (.int .u8 180), .sc (.int .u8 169), .sc (.int .u8 227), .sc (.int .u8 231), .sc (.int .u8 99), .sc (.int .u8 70), .sc (.int .u8 33), .sc (.int .u8 122), .sc (.int .u8 38), .sc (.int .u8 211), .sc (.int .u8 170), .sc (.int .u8 22), .sc (.int .u8 50), .sc (.int .u8 251), .sc (.int .u8 151), .sc (.int .u8 236), .sc (.int .u8 158), .sc (.int .u8 31), .sc (.int .u8 34), .sc (.int .u8 188), .sc (.int .u8 199), .sc (.int .u8 86), .sc (.int .u8 186), .sc (.int .u8 186), .sc (.int .u8 200), .sc (.int .u8 200), .sc (.int .u8 139), .sc (.int .u8 225)]
noncomputable def msg1 : List Nat := [2, 0, 0, 0, 0, 0, 0, 0, 0, 0, 0, 0, 0, 0, 0, 0, 0, 0, 0, 0, 0, 0, 0, 0, 0, 0, 0, 0, 0, 0, 0, 0, 0, 0, 0, 0, 0]
noncomputable def noSpec : FuncId → Option (List AV → AHeap → Out) := fun _ => none
end Go.Proofs.YteoindgcjoldhaaGreatDoor
namespace Go.Proofs.YteoindgcjoldhaaGreatDoor
open Go Go.AM
abbrev tI : Ty := .int .i64
abbrev tU8 : Ty := .int .u8
abbrev tU32 : Ty := .int .u32
abbrev tU64 : Ty := .int .u64
def tVal : List Ty := [tI, tI, .str]
def tId : List Ty := List.replicate 32 tU8
def tDig : List Ty := tU64 :: (tId ++ tId)
def tQry : List Ty := tI :: .str :: (tVal ++ tVal ++ tVal ++ tDig)
def tCli : List Ty := tI :: tU32 :: .str :: .bool :: (tQry ++ [.bool, tI, .slice tDig])
def tTx : List Ty := [tI, tU32, .str]
end Go.Proofs.YteoindgcjoldhaaGreatDoor
namespace Go.Proofs.YteoindgcjoldhaaGreatDoor
open Go Go.AM
def bstr (a : Array UInt8) : ByteArray := ⟨a⟩
def iD (ds : List DV) (k : Nat) : Int := match ds.getD k (.bool false) with
  | .int _ z => z
  | _ => 0
def sD (ds : List DV) (k : Nat) : ByteArray := match ds.getD k (.bool false) with
  | .str s => s
  | _ => ⟨#[]⟩
def bD (ds : List DV) (k : Nat) : Bool := match ds.getD k (.bool false) with
  | .bool b => b
  | _ => false
def lD (ds : List DV) (k : Nat) : List (List DV) := match ds.getD k (.bool false) with
  | .list es => es
  | _ => []
/-- May a transaction be? -/
def txB (c s : Int) (t : ByteArray) : Bool := decide (1 ≤ c) && decide (c ≤ 3) && decide (s ≠ 0) && decide (t.size ≤ 1019)
def F36 (ds : List DV) : List (List DV) := [[.int .i64 (if txB (iD ds 0) (iD ds 1) (sD ds 2) then 0 else 270)]]
def F39 (ds : List DV) : List (List DV) := [[.bool (txB (iD ds 0) (iD ds 1) (sD ds 2))]]
/-- May a value be? -/
def valB (k n : Int) (t : ByteArray) : Bool :=
  if k = 1 then decide (n = 0) && decide (t = ⟨#[]⟩) else if k = 2 then decide (0 ≤ n) && decide (n ≤ 1) && decide (t = ⟨#[]⟩) else if k = 3 then decide (t = ⟨#[]⟩) else
  if k = 4 then decide (n = 0) && decide (t.size ≤ 64) else false
def F63 (ds : List DV) : List (List DV) := [[.int .i64 (if valB (iD ds 0) (iD ds 1) (sD ds 2) then 0 else 150)]]
def F69 (ds : List DV) : List (List DV) := [[.bool (valB (iD ds 0) (iD ds 1) (sD ds 2))]]
def letterZ (z : Int) : Bool := (decide (97 ≤ z) && decide (z ≤ 122)) || (decide (65 ≤ z) && decide (z ≤ 90)) || decide (z = 95)
def digitZ (z : Int) : Bool := decide (48 ≤ z) && decide (z ≤ 57)
def F102 (ds : List DV) : List (List DV) := [[.bool (letterZ (iD ds 0))]]
def F104 (ds : List DV) : List (List DV) := [[.bool (letterZ (iD ds 0) || digitZ (iD ds 0))]]
def F160 (ds : List DV) : List (List DV) := [[.bool (digitZ (iD ds 0))]]
def F67 (ds : List DV) : List (List DV) := [[.int .i64 (if iD ds 0 < iD ds 1 then -1 else if iD ds 1 < iD ds 0 then 1 else 0)]]
def keysL : List ByteArray := [bstr #[67, 82, 69, 65, 84, 69], bstr #[84, 65, 66, 76, 69], bstr #[68, 82, 79, 80], bstr #[73, 78, 83, 69, 82, 84], bstr #[73, 78, 84, 79], bstr #[86, 65, 76, 85, 69, 83], bstr #[85, 80, 68, 65, 84, 69], bstr #[83, 69, 84], bstr #[68, 69, 76, 69, 84, 69], bstr #[70, 82, 79, 77], bstr #[83, 69, 76, 69, 67, 84], bstr #[87, 72, 69, 82, 69], bstr #[73, 78, 78, 69, 82], bstr #[74, 79, 73, 78], bstr #[79, 78], bstr #[79, 82, 68, 69, 82], bstr #[66, 89], bstr #[65, 83, 67], bstr #[68, 69, 83, 67], bstr #[76, 73, 77, 73, 84], bstr #[71, 82, 79, 85, 80], bstr #[67, 79, 85, 78, 84], bstr #[83, 85, 77], bstr #[65, 78, 68], bstr #[79, 82], bstr #[78, 79, 84], bstr #[78, 85, 76, 76], bstr #[84, 82, 85, 69], bstr #[70, 65, 76, 83, 69], bstr #[73, 83], bstr #[73, 78, 84], bstr #[66, 79, 79, 76], bstr #[84, 69, 88, 84], bstr #[80, 82, 73, 77, 65, 82, 89], bstr #[75, 69, 89]]
def upS (s : ByteArray) : ByteArray := ⟨(Lib.toUpperA s.data.toList).toArray⟩
def keptB (s : ByteArray) : Bool := keysL.any fun k => decide (upS s = k)
def endFrom (p : Int → Bool) (s : ByteArray) (n : Int) : Int := n + ((s.data.toList.drop n.toNat).takeWhile fun c => p c.toNat).length
def alnumZ (z : Int) : Bool := letterZ z || digitZ z
def F103 (ds : List DV) : List (List DV) := [[.int .i64 (endFrom letterZ (sD ds 0) 0)]]
def F2103 (ds : List DV) : List (List DV) := [[.int .i64 (endFrom alnumZ (sD ds 0) 0)]]
def F153 (ds : List DV) : List (List DV) := [[.str (upS (sD ds 0))]]
def F101 (ds : List DV) : List (List DV) := if endFrom letterZ (sD ds 0) 0 < (sD ds 0).size then [[.str (bstr #[])], [.bool false]] else
  if keptB (sD ds 0) then [[.str (upS (sD ds 0))], [.bool true]] else [[.str (bstr #[])], [.bool false]]
def F106 (ds : List DV) : List (List DV) := if keptB (sD ds 0) then [[.str (upS (sD ds 0))], [.bool true]] else [[.str (bstr #[])], [.bool false]]
def byteZ (s : ByteArray) (j : Nat) : Int := (s.data.toList.getD j 0).toNat
def wordFrom (s : ByteArray) (n : Int) : Bool := decide (∀ j : Nat, j < s.size → n ≤ (j : Int) → (letterZ (byteZ s j) || (decide (j ≠ 0) && digitZ (byteZ s j))) = true)
def wordB (s : ByteArray) : Bool := wordFrom s 0 && decide (s ≠ bstr #[])
def F107 (ds : List DV) : List (List DV) := [[.bool (wordB (sD ds 0))]]
def nameB (s : ByteArray) : Bool := wordB s && !keptB s && decide (s.size ≤ 24)
def F68 (ds : List DV) : List (List DV) := [[.bool (nameB (sD ds 0))]]
noncomputable def oldE : List SX := .bin .eql (.v 11) (.ki .u64 (.ofNat 0)) :: (List.range 64).map fun i => .bin .eql (.v (12 + i)) (.ki .u8 (.ofNat 0))
noncomputable def allO (xs : List SX) : SX := .all (xs ++ oldE)
noncomputable def oldZ (ds : List DV) : Bool := den.denAll ⟨fun i => ds.getD i (.bool false), fun _ _ => .bool false⟩ oldE
def zeroV (k n : Int) (t : ByteArray) : Bool := decide (k = 0) && decide (n = 0) && decide (t = bstr #[])
/-- May it be asked? -/
noncomputable def qryD (ds : List DV) : Bool :=
  let zv := fun k => zeroV (iD ds k) (iD ds (k + 1)) (sD ds (k + 2))
  let vv := fun k => valB (iD ds k) (iD ds (k + 1)) (sD ds (k + 2))
  if iD ds 0 = 1 then nameB (sD ds 1) && vv 2 && decide (iD ds 2 ≠ 1) && zv 5 && zv 8 && oldZ ds else
  if iD ds 0 = 2 then nameB (sD ds 1) && vv 5 && vv 8 && zv 2 && oldZ ds else
  if iD ds 0 = 3 then decide (sD ds 1 = bstr #[]) && zv 2 && zv 5 && zv 8 else false
noncomputable def F37 (ds : List DV) : List (List DV) := [[.int .i64 (if qryD ds then 0 else 300)]]
noncomputable def F40 (ds : List DV) : List (List DV) := [[.bool (qryD ds)]]
def ix (es : List (List DV)) (j : Nat) : Int := iD (es.getD j []) 0
def sortedFrom (es : List (List DV)) (i : Int) : Bool := decide (∀ j : Nat, j < es.length → i ≤ (j : Int) → j = 0 ∨ ix es (j - 1) < ix es j)
noncomputable def qzE : List SX := .bin .eql (.v 4) (.ki .i64 (.ofNat 0)) :: .bin .eql (.v 5) (.ks (bstr #[])) ::
  .bin .eql (.v 6) (.ki .i64 (.ofNat 0)) :: .bin .eql (.v 7) (.ki .i64 (.ofNat 0)) :: .bin .eql (.v 8) (.ks (bstr #[])) ::
  .bin .eql (.v 9) (.ki .i64 (.ofNat 0)) :: .bin .eql (.v 10) (.ki .i64 (.ofNat 0)) :: .bin .eql (.v 11) (.ks (bstr #[])) ::
  .bin .eql (.v 12) (.ki .i64 (.ofNat 0)) :: .bin .eql (.v 13) (.ki .i64 (.ofNat 0)) :: .bin .eql (.v 14) (.ks (bstr #[])) ::
  .bin .eql (.v 15) (.ki .u64 (.ofNat 0)) :: (List.range 64).map fun i => .bin .eql (.v (16 + i)) (.ki .u8 (.ofNat 0))
noncomputable def qArgs : List SX := (List.range 76).map fun i => .v (4 + i)
noncomputable def qZ (ds : List DV) : Bool := den.denAll ⟨fun i => ds.getD i (.bool false), fun _ _ => .bool false⟩ qzE
/-- May a client be? -/
noncomputable def cliD (ds : List DV) : Bool :=
  decide (1 ≤ iD ds 0) && decide (iD ds 0 ≤ 3) && !(bD ds 3 && bD ds 80) && (if bD ds 3 then txB (iD ds 0) (iD ds 1) (sD ds 2) else decide (sD ds 2 = bstr #[])) &&
  decide (0 ≤ iD ds 81) && decide (iD ds 81 ≤ 5) && decide ((lD ds 82).length ≤ 16) && (if bD ds 80 then qryD ((ds.drop 4).take 76) else qZ ds) && sortedFrom (lD ds 82) 0
noncomputable def F12 (ds : List DV) : List (List DV) := [[.int .i64 (if cliD ds then 0 else 320)]]
noncomputable def F15 (ds : List DV) : List (List DV) := [[.bool (cliD ds)]]
def cutN (n : Nat) (s : ByteArray) : ByteArray := s.extract 0 (min s.size n)
def cutT (s : ByteArray) : ByteArray := if 1000 < s.size then cutN 1025 s else cutN 200 s
def F24 (ds : List DV) : List (List DV) := [[.str (cutT (sD ds 0))]]
def row58 (a b : DV) (s : ByteArray) : List DV := [a, b, .str (cutN 65 s)]
def F58 (ds : List DV) : List (List DV) := [row58 (ds.getD 0 (.bool false)) (ds.getD 1 (.bool false)) (sD ds 2)]
def row25 (ds : List DV) : List DV := ds.getD 0 (.bool false) :: .str (cutN 30 (sD ds 1)) :: (row58 (ds.getD 2 (.bool false)) (ds.getD 3 (.bool false)) (sD ds 4) ++ row58 (ds.getD 5 (.bool false)) (ds.getD 6 (.bool false)) (sD ds 7) ++ row58 (ds.getD 8 (.bool false)) (ds.getD 9 (.bool false)) (sD ds 10) ++ ds.drop 11)
def F25 (ds : List DV) : List (List DV) := [row25 ds]
def row7 (ds : List DV) : List DV := [ds.getD 0 (.bool false), ds.getD 1 (.bool false), .str (cutT (sD ds 2)), ds.getD 3 (.bool false)] ++ row25 ((ds.drop 4).take 76) ++ [ds.getD 80 (.bool false), ds.getD 81 (.bool false), .list ((lD ds 82).take 17)]
def F7 (ds : List DV) : List (List DV) := [row7 ds]
noncomputable def vars (a n : Nat) : List SX := (List.range n).map fun i => .v (a + i)
noncomputable def q25 : List SX := (List.range 76).map fun k => .at (.app 25 qArgs) (.ki .i64 (.ofNat 0)) k
open Classical in
/-- From row i on the rows are the same. -/
noncomputable def eqFrom (es fs : List (List DV)) (i : Int) : Bool := decide (∀ j : Nat, j < es.length → i ≤ (j : Int) → es.getD j [] = fs.getD j [])
noncomputable def F41 (ds : List DV) : List (List DV) := [[.bool (decide ((lD ds 0).length = (lD ds 1).length) && eqFrom (lD ds 0) (lD ds 1) 0)]]
noncomputable def qEq : List SX := (List.range 76).map fun i => .bin .eql (.v (4 + i)) (.v (87 + i))
open Classical in
/-- Are two clients one? -/
noncomputable def sameD (ds : List DV) : Bool := decide (∀ i : Nat, i < 82 → ds.getD i (.bool false) = ds.getD (83 + i) (.bool false)) && (decide ((lD ds 82).length = (lD ds 165).length) && eqFrom (lD ds 82) (lD ds 165) 0)
noncomputable def F16 (ds : List DV) : List (List DV) := [[.bool (sameD ds)]]
noncomputable def restS : List SX := [(.ki .u32 (.ofNat 0)), (.ks (bstr #[])), (.kb false), (.ki .i64 (.ofNat 0)), (.ks (bstr #[])), (.ki .i64 (.ofNat 0)), (.ki .i64 (.ofNat 0)), (.ks (bstr #[])), (.ki .i64 (.ofNat 0)), (.ki .i64 (.ofNat 0)), (.ks (bstr #[])), (.ki .i64 (.ofNat 0)), (.ki .i64 (.ofNat 0)), (.ks (bstr #[])), (.ki .u64 (.ofNat 0)), (.ki .u8 (.ofNat 0)), (.ki .u8 (.ofNat 0)), (.ki .u8 (.ofNat 0)), (.ki .u8 (.ofNat 0)), (.ki .u8 (.ofNat 0)), (.ki .u8 (.ofNat 0)), (.ki .u8 (.ofNat 0)), (.ki .u8 (.ofNat 0)), (.ki .u8 (.ofNat 0)), (.ki .u8 (.ofNat 0)), (.ki .u8 (.ofNat 0)), (.ki .u8 (.ofNat 0)), (.ki .u8 (.ofNat 0)), (.ki .u8 (.ofNat 0)), (.ki .u8 (.ofNat 0)), (.ki .u8 (.ofNat 0)), (.ki .u8 (.ofNat 0)), (.ki .u8 (.ofNat 0)), (.ki .u8 (.ofNat 0)), (.ki .u8 (.ofNat 0)), (.ki .u8 (.ofNat 0)), (.ki .u8 (.ofNat 0)), (.ki .u8 (.ofNat 0)), (.ki .u8 (.ofNat 0)), (.ki .u8 (.ofNat 0)), (.ki .u8 (.ofNat 0)), (.ki .u8 (.ofNat 0)), (.ki .u8 (.ofNat 0)), (.ki .u8 (.ofNat 0)), (.ki .u8 (.ofNat 0)), (.ki .u8 (.ofNat 0)), (.ki .u8 (.ofNat 0)), (.ki .u8 (.ofNat 0)), (.ki .u8 (.ofNat 0)), (.ki .u8 (.ofNat 0)), (.ki .u8 (.ofNat 0)), (.ki .u8 (.ofNat 0)), (.ki .u8 (.ofNat 0)), (.ki .u8 (.ofNat 0)), (.ki .u8 (.ofNat 0)), (.ki .u8 (.ofNat 0)), (.ki .u8 (.ofNat 0)), (.ki .u8 (.ofNat 0)), (.ki .u8 (.ofNat 0)), (.ki .u8 (.ofNat 0)), (.ki .u8 (.ofNat 0)), (.ki .u8 (.ofNat 0)), (.ki .u8 (.ofNat 0)), (.ki .u8 (.ofNat 0)), (.ki .u8 (.ofNat 0)), (.ki .u8 (.ofNat 0)), (.ki .u8 (.ofNat 0)), (.ki .u8 (.ofNat 0)), (.ki .u8 (.ofNat 0)), (.ki .u8 (.ofNat 0)), (.ki .u8 (.ofNat 0)), (.ki .u8 (.ofNat 0)), (.ki .u8 (.ofNat 0)), (.ki .u8 (.ofNat 0)), (.ki .u8 (.ofNat 0)), (.ki .u8 (.ofNat 0)), (.ki .u8 (.ofNat 0)), (.ki .u8 (.ofNat 0)), (.ki .u8 (.ofNat 0)), (.kb false), (.ki .i64 (.ofNat 0)), .emp]
noncomputable def restD : List DV := restS.map (den ⟨fun _ => .bool false, fun _ _ => .bool false⟩)
noncomputable def F9 (ds : List DV) : List (List DV) := if 1 ≤ iD ds 0 ∧ iD ds 0 ≤ 3 then [.int .i64 (iD ds 0) :: restD, [.int .i64 0]] else [.int .i64 0 :: restD, [.int .i64 2]]
def cmpZ (a b : Int) : Int := if a < b then -1 else if b < a then 1 else 0
def F66 (ds : List DV) : List (List DV) := [[.int .i64 (cmpZ (iD ds 0) (iD ds 65))]]
/-- Where a binary search ends. -/
def bs (es : List (List DV)) (t : Int) : Nat → Int → Int → Int
  | 0, i, _ => i
  | n + 1, i, j => if i < j then (if ix es ((i + j) / 2).toNat < t then bs es t n ((i + j) / 2 + 1) j else bs es t n i ((i + j) / 2)) else i
def F65 (ds : List DV) : List (List DV) := [[.int .i64 (bs (lD ds 0) (iD ds 1) (lD ds 0).length 0 (lD ds 0).length)], [.bool (decide (bs (lD ds 0) (iD ds 1) (lD ds 0).length 0 (lD ds 0).length < (lD ds 0).length) && decide (ix (lD ds 0) (bs (lD ds 0) (iD ds 1) (lD ds 0).length 0 (lD ds 0).length).toNat = iD ds 1))]]
def zdig : List DV := .int .u64 0 :: List.replicate 64 (.int .u8 0)
noncomputable def F14 (ds : List DV) : List (List DV) :=
  let es := lD ds 82
  let i := bs es (iD ds 83) es.length 0 es.length
  if cliD (ds.take 83) && (decide (i < es.length) && decide (ix es i.toNat = iD ds 83)) then [es.getD i.toNat [], [.bool true]] else [zdig, [.bool false]]
/-- What a search through all digests finds. -/
def scanL (right : Bool) (n : Int) : List (List DV) → Bool × List DV → Bool × List DV
  | [], s => s
  | y :: l, s => scanL right n l (if right && decide (iD y 0 = n) then (true, y) else s)
def F1005 (ds : List DV) : List (List DV) :=
  let r := scanL (bD ds 1) (iD ds 2) ((lD ds 0).drop (iD ds 4).toNat) (bD ds 3, (ds.drop 5).take 65)
  [[.bool r.1], r.2]
def F6 (_ : List DV) : List (List DV) := [[.bool true]]
end Go.Proofs.YteoindgcjoldhaaGreatDoor
namespace Go.Proofs.YteoindgcjoldhaaGreatDoor
open Go Go.AM
theorem hmix : Tryz.prog.follows .mixedOrders = true := by kernel_rfl
theorem namesRun : Tryz.prog.funcs.toList.all (fun fn => !(fn.name == "runtime.NumGoroutine")) = true := by kernel_rfl
theorem hNum (f : FuncId) (fn : Func) (h : Tryz.prog.funcs[f]? = some fn) : (fn.name == "runtime.NumGoroutine") = false := by
  have := List.all_eq_true.1 namesRun fn (List.mem_iff_getElem?.2 ⟨f, by simpa using h⟩)
  simpa using this
noncomputable def isSc : AV → Bool
  | .sc _ => true
  | _ => false
theorem isSc_ok {cs : List AV} (h : cs.all isSc = true) : ∀ c ∈ cs, ∃ u, c = AV.sc u := by
  intro c hc
  have := List.all_eq_true.1 h c hc
  unfold isSc at this
  split at this
  · exact ⟨_, rfl⟩
  · cases this
theorem scStart : gStart.all isSc = true := by kernel_rfl
theorem scOrders : gOrders.all isSc = true := by kernel_rfl
theorem scFours : gFours.all isSc = true := by kernel_rfl
theorem plain_key (cs l : List AV) (hl : l.all isSc = true) (e : some l = some cs) : ∀ c ∈ cs, ∃ u, c = AV.sc u := by
  cases e
  exact isSc_ok hl
theorem G0 : G 0 = some gStart := by kernel_rfl
theorem G1 : G 1 = none := by kernel_rfl
theorem G2 : G 2 = some gOrders := by kernel_rfl
theorem G3 : G 3 = some gFours := by kernel_rfl
theorem G4 (n : Nat) : G (n + 4) = none := by kernel_rfl
theorem plainG : PlainG G := by
  intro g cs h
  rcases g with _ | _ | _ | _ | n
  · exact plain_key cs gStart scStart (G0.symm.trans h)
  · exact absurd (G1.symm.trans h) (by simp)
  · exact plain_key cs gOrders scOrders (G2.symm.trans h)
  · exact plain_key cs gFours scFours (G3.symm.trans h)
  · exact absurd ((G4 n).symm.trans h) (by simp)
noncomputable def hasB (f : FuncId) : Bool := match Tryz.prog.funcs[f]? with
  | some fn => !fn.body.isNone
  | none => false
theorem hasB_ok {f : FuncId} (h : hasB f = true) : HasBody Tryz.prog f := by
  unfold hasB at h
  split at h
  · rename_i fn e
    exact ⟨fn, e, by simpa using h, hNum f fn e⟩
  · cases h
theorem noSpec_ok (O : Orc) : SpecOK Tryz.prog G noSpec := fun f sp h => by simp [noSpec] at h
theorem sameF {f : FuncId} {X : CallF} : (fun g args h => if g = f then X g args h else none) = (fun g args h => if g = f then X f args h else none) := by
  funext g args h
  by_cases e : g = f
  · rw [if_pos e, if_pos e, e]
  · rw [if_neg e, if_neg e]
/-- A function without loops of its own, or whose loops are run. -/
theorem fn_run {I : Nat → List DV → DV} {spec : Orc → FuncId → Option (List AV → AHeap → Out)} (hsp : ∀ O : Orc, O.I = I → @SpecOK O Tryz.prog G (spec O)) {f : FuncId} {sg rs : Sig} {pre : List DV → Prop} {F : List DV → List (List DV)} (hb : hasB f = true) (p : Pln)
    (hc : checkPlan rs (fun facts => @callL (mkO facts I) Tryz.prog G (spec (mkO facts I)) 100 (fun _ => none) f (mkArgs 0 sg) heap0) [] p = true)
    (hgoal : ∀ (E : Nat → Option Obj) (ds : List (List DV)) (vs : List Value), RepArgs (envE E) sg ds vs → pre ds.flatten → goalPlan (rhoOf I ds.flatten) (F ds.flatten) p) : FnOK Tryz.prog G f sg rs pre F := by
  have hl : ∀ (O : Orc) (fn : Func) (c : Code), Tryz.prog.funcs[f]? = some fn → fn.body = some c → LoopsOK Tryz.prog G O.I (fun _ => none) c := by
    intro O fn c _ _ B _ L h
    exact absurd h (by simp)
  have hcall : ∀ O : Orc, O.I = I → @CallOK O Tryz.prog G (fun g args h => if g = f then @callL O Tryz.prog G (spec O) 100 (fun _ => none) g args h else none) := by
    intro O hI
    rw [sameF]
    exact @callL_ok O Tryz.prog G (spec O) (fun _ => none) hmix hNum (hsp O hI) plainG 100 f (hl O)
  exact fn_plan (call := fun O => @callL O Tryz.prog G (spec O) 100 (fun _ => none)) plainG (hasB_ok hb) hcall p hc hgoal
end Go.Proofs.YteoindgcjoldhaaGreatDoor
