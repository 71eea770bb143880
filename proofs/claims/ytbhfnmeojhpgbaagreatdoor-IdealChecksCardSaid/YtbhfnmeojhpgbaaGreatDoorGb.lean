/-
  A part of the proof of IdealChecks (the machine on named data, and the contracts of the functions that the law reaches): It.
-/
import Derived.Test.YtbhfnmeojhpgbaaGreatDoorGa
set_option linter.all false
set_option linter.unusedVariables false
set_option linter.unusedSimpArgs false
set_option linter.unusedSectionVars false
namespace Go.Proofs.YtbhfnmeojhpgbaaGreatDoor
open Go Go.AM
noncomputable def keyTab : List (List AV × AV) := [([.sc (.string (.mk #[67,82,69,65,84,69]))], .tup [.sc (.string (.mk #[67,82,69,65,84,69])), .sc (.bool true)]),
  ([.sc (.string (.mk #[84,65,66,76,69]))], .tup [.sc (.string (.mk #[84,65,66,76,69])), .sc (.bool true)]),
  ([.sc (.string (.mk #[116]))], .tup [.sc (.string (.mk #[])), .sc (.bool false)]),
  ([.sc (.string (.mk #[97]))], .tup [.sc (.string (.mk #[])), .sc (.bool false)]),
  ([.sc (.string (.mk #[73,78,84]))], .tup [.sc (.string (.mk #[73,78,84])), .sc (.bool true)]),
  ([.sc (.string (.mk #[80,82,73,77,65,82,89]))], .tup [.sc (.string (.mk #[80,82,73,77,65,82,89])), .sc (.bool true)]),
  ([.sc (.string (.mk #[75,69,89]))], .tup [.sc (.string (.mk #[75,69,89])), .sc (.bool true)]),
  ([.sc (.string (.mk #[68,82,79,80]))], .tup [.sc (.string (.mk #[68,82,79,80])), .sc (.bool true)])]
noncomputable def nameTab : List (List AV × AV) := [([.sc (.string (.mk #[116]))], .sc (.bool true)),
  ([.sc (.string (.mk #[97]))], .sc (.bool true))]
noncomputable def firstTab : List (List AV × AV) := [([.sc (.string (.mk #[67,82,69,65,84,69,32,84,65,66,76,69,32,116,32,40,97,32,73,78,84,32,80,82,73,77,65,82,89,32,75,69,89,41]))], .tup [.agg [.sc (.int .i64 1), .sc (.string (.mk #[67,82,69,65,84,69])), .sc (.int .i64 0), .sc (.int .i64 0), .sc (.int .i64 0)], .sc (.int .i64 6), .sc (.int .i64 0)]),
  ([.sc (.string (.mk #[84,65,66,76,69,32,116,32,40,97,32,73,78,84,32,80,82,73,77,65,82,89,32,75,69,89,41]))], .tup [.agg [.sc (.int .i64 1), .sc (.string (.mk #[84,65,66,76,69])), .sc (.int .i64 0), .sc (.int .i64 0), .sc (.int .i64 0)], .sc (.int .i64 5), .sc (.int .i64 0)]),
  ([.sc (.string (.mk #[116,32,40,97,32,73,78,84,32,80,82,73,77,65,82,89,32,75,69,89,41]))], .tup [.agg [.sc (.int .i64 2), .sc (.string (.mk #[116])), .sc (.int .i64 0), .sc (.int .i64 0), .sc (.int .i64 0)], .sc (.int .i64 1), .sc (.int .i64 0)]),
  ([.sc (.string (.mk #[40,97,32,73,78,84,32,80,82,73,77,65,82,89,32,75,69,89,41]))], .tup [.agg [.sc (.int .i64 5), .sc (.string (.mk #[40])), .sc (.int .i64 0), .sc (.int .i64 0), .sc (.int .i64 0)], .sc (.int .i64 1), .sc (.int .i64 0)]),
  ([.sc (.string (.mk #[97,32,73,78,84,32,80,82,73,77,65,82,89,32,75,69,89,41]))], .tup [.agg [.sc (.int .i64 2), .sc (.string (.mk #[97])), .sc (.int .i64 0), .sc (.int .i64 0), .sc (.int .i64 0)], .sc (.int .i64 1), .sc (.int .i64 0)]),
  ([.sc (.string (.mk #[73,78,84,32,80,82,73,77,65,82,89,32,75,69,89,41]))], .tup [.agg [.sc (.int .i64 1), .sc (.string (.mk #[73,78,84])), .sc (.int .i64 0), .sc (.int .i64 0), .sc (.int .i64 0)], .sc (.int .i64 3), .sc (.int .i64 0)]),
  ([.sc (.string (.mk #[80,82,73,77,65,82,89,32,75,69,89,41]))], .tup [.agg [.sc (.int .i64 1), .sc (.string (.mk #[80,82,73,77,65,82,89])), .sc (.int .i64 0), .sc (.int .i64 0), .sc (.int .i64 0)], .sc (.int .i64 7), .sc (.int .i64 0)]),
  ([.sc (.string (.mk #[75,69,89,41]))], .tup [.agg [.sc (.int .i64 1), .sc (.string (.mk #[75,69,89])), .sc (.int .i64 0), .sc (.int .i64 0), .sc (.int .i64 0)], .sc (.int .i64 3), .sc (.int .i64 0)]),
  ([.sc (.string (.mk #[41]))], .tup [.agg [.sc (.int .i64 5), .sc (.string (.mk #[41])), .sc (.int .i64 0), .sc (.int .i64 0), .sc (.int .i64 0)], .sc (.int .i64 1), .sc (.int .i64 0)]),
  ([.sc (.string (.mk #[68,82,79,80,32,84,65,66,76,69,32,116]))], .tup [.agg [.sc (.int .i64 1), .sc (.string (.mk #[68,82,79,80])), .sc (.int .i64 0), .sc (.int .i64 0), .sc (.int .i64 0)], .sc (.int .i64 4), .sc (.int .i64 0)]),
  ([.sc (.string (.mk #[84,65,66,76,69,32,116]))], .tup [.agg [.sc (.int .i64 1), .sc (.string (.mk #[84,65,66,76,69])), .sc (.int .i64 0), .sc (.int .i64 0), .sc (.int .i64 0)], .sc (.int .i64 5), .sc (.int .i64 0)]),
  ([.sc (.string (.mk #[116]))], .tup [.agg [.sc (.int .i64 2), .sc (.string (.mk #[116])), .sc (.int .i64 0), .sc (.int .i64 0), .sc (.int .i64 0)], .sc (.int .i64 1), .sc (.int .i64 0)])]
noncomputable def blankTab : List (List AV × AV) := [([.sc (.string (.mk #[67,82,69,65,84,69,32,84,65,66,76,69,32,116,32,40,97,32,73,78,84,32,80,82,73,77,65,82,89,32,75,69,89,41]))], .sc (.int .i64 0)),
  ([.sc (.string (.mk #[32,84,65,66,76,69,32,116,32,40,97,32,73,78,84,32,80,82,73,77,65,82,89,32,75,69,89,41]))], .sc (.int .i64 1)),
  ([.sc (.string (.mk #[32,116,32,40,97,32,73,78,84,32,80,82,73,77,65,82,89,32,75,69,89,41]))], .sc (.int .i64 1)),
  ([.sc (.string (.mk #[32,40,97,32,73,78,84,32,80,82,73,77,65,82,89,32,75,69,89,41]))], .sc (.int .i64 1)),
  ([.sc (.string (.mk #[97,32,73,78,84,32,80,82,73,77,65,82,89,32,75,69,89,41]))], .sc (.int .i64 0)),
  ([.sc (.string (.mk #[32,73,78,84,32,80,82,73,77,65,82,89,32,75,69,89,41]))], .sc (.int .i64 1)),
  ([.sc (.string (.mk #[32,80,82,73,77,65,82,89,32,75,69,89,41]))], .sc (.int .i64 1)),
  ([.sc (.string (.mk #[32,75,69,89,41]))], .sc (.int .i64 1)),
  ([.sc (.string (.mk #[41]))], .sc (.int .i64 0)),
  ([.sc (.string (.mk #[]))], .sc (.int .i64 0)),
  ([.sc (.string (.mk #[68,82,79,80,32,84,65,66,76,69,32,116]))], .sc (.int .i64 0)),
  ([.sc (.string (.mk #[32,84,65,66,76,69,32,116]))], .sc (.int .i64 1)),
  ([.sc (.string (.mk #[32,116]))], .sc (.int .i64 1))]
noncomputable def bkr0 : List AV × AV := ([.agg [.sc (.int .u32 1795745351), .sc (.int .u32 3144134277), .sc (.int .u32 1013904242), .sc (.int .u32 2773480762), .sc (.int .u32 1359893119), .sc (.int .u32 2600822924), .sc (.int .u32 528734635), .sc (.int .u32 1541459225)], .agg [.sc (.int .u8 0), .sc (.int .u8 1), .sc (.int .u8 0), .sc (.int .u8 0), .sc (.int .u8 0), .sc (.int .u8 1), .sc (.int .u8 67), .sc (.int .u8 82), .sc (.int .u8 69), .sc (.int .u8 65), .sc (.int .u8 84), .sc (.int .u8 69), .sc (.int .u8 32), .sc (.int .u8 84), .sc (.int .u8 65), .sc (.int .u8 66), .sc (.int .u8 76), .sc (.int .u8 69), .sc (.int .u8 32), .sc (.int .u8 116), .sc (.int .u8 32), .sc (.int .u8 40), .sc (.int .u8 97), .sc (.int .u8 32), .sc (.int .u8 73), .sc (.int .u8 78), .sc (.int .u8 84), .sc (.int .u8 32), .sc (.int .u8 80), .sc (.int .u8 82), .sc (.int .u8 73), .sc (.int .u8 77), .sc (.int .u8 65), .sc (.int .u8 82), .sc (.int .u8 89), .sc (.int .u8 32), .sc (.int .u8 75), .sc (.int .u8 69), .sc (.int .u8 89), .sc (.int .u8 41), .sc (.int .u8 0), .sc (.int .u8 0), .sc (.int .u8 0), .sc (.int .u8 0), .sc (.int .u8 0), .sc (.int .u8 0), .sc (.int .u8 0), .sc (.int .u8 0), .sc (.int .u8 0), .sc (.int .u8 0), .sc (.int .u8 0), .sc (.int .u8 0), .sc (.int .u8 0), .sc (.int .u8 0), .sc (.int .u8 0), .sc (.int .u8 0), .sc (.int .u8 0), .sc (.int .u8 0), .sc (.int .u8 0), .sc (.int .u8 0), .sc (.int .u8 0), .sc (.int .u8 0), .sc (.int .u8 0), .sc (.int .u8 0)], .sc (.int .u64 40), .sc (.bool true)], .agg [.sc (.int .u32 3490352608), .sc (.int .u32 1370265083), .sc (.int .u32 4092993862), .sc (.int .u32 3532049298), .sc (.int .u32 783981165), .sc (.int .u32 1155011793), .sc (.int .u32 3749507976), .sc (.int .u32 3005667366)])
noncomputable def bkr1 : List AV × AV := ([.agg [.sc (.int .u32 1795745351), .sc (.int .u32 3144134277), .sc (.int .u32 1013904242), .sc (.int .u32 2773480762), .sc (.int .u32 1359893119), .sc (.int .u32 2600822924), .sc (.int .u32 528734635), .sc (.int .u32 1541459225)], .agg [.sc (.int .u8 0), .sc (.int .u8 1), .sc (.int .u8 0), .sc (.int .u8 0), .sc (.int .u8 0), .sc (.int .u8 1), .sc (.int .u8 68), .sc (.int .u8 82), .sc (.int .u8 79), .sc (.int .u8 80), .sc (.int .u8 32), .sc (.int .u8 84), .sc (.int .u8 65), .sc (.int .u8 66), .sc (.int .u8 76), .sc (.int .u8 69), .sc (.int .u8 32), .sc (.int .u8 116), .sc (.int .u8 0), .sc (.int .u8 0), .sc (.int .u8 0), .sc (.int .u8 0), .sc (.int .u8 0), .sc (.int .u8 0), .sc (.int .u8 0), .sc (.int .u8 0), .sc (.int .u8 0), .sc (.int .u8 0), .sc (.int .u8 0), .sc (.int .u8 0), .sc (.int .u8 0), .sc (.int .u8 0), .sc (.int .u8 0), .sc (.int .u8 0), .sc (.int .u8 0), .sc (.int .u8 0), .sc (.int .u8 0), .sc (.int .u8 0), .sc (.int .u8 0), .sc (.int .u8 0), .sc (.int .u8 0), .sc (.int .u8 0), .sc (.int .u8 0), .sc (.int .u8 0), .sc (.int .u8 0), .sc (.int .u8 0), .sc (.int .u8 0), .sc (.int .u8 0), .sc (.int .u8 0), .sc (.int .u8 0), .sc (.int .u8 0), .sc (.int .u8 0), .sc (.int .u8 0), .sc (.int .u8 0), .sc (.int .u8 0), .sc (.int .u8 0), .sc (.int .u8 0), .sc (.int .u8 0), .sc (.int .u8 0), .sc (.int .u8 0), .sc (.int .u8 0), .sc (.int .u8 0), .sc (.int .u8 0), .sc (.int .u8 0)], .sc (.int .u64 18), .sc (.bool true)], .agg [.sc (.int .u32 512251485), .sc (.int .u32 419560103), .sc (.int .u32 382062494), .sc (.int .u32 1854639804), .sc (.int .u32 1187330349), .sc (.int .u32 805416075), .sc (.int .u32 1287616233), .sc (.int .u32 1250185327)])
noncomputable def bkr2 : List AV × AV := ([.agg [.sc (.int .u32 1795745351), .sc (.int .u32 3144134277), .sc (.int .u32 1013904242), .sc (.int .u32 2773480762), .sc (.int .u32 1359893119), .sc (.int .u32 2600822924), .sc (.int .u32 528734635), .sc (.int .u32 1541459225)], .agg [.sc (.int .u8 0), .sc (.int .u8 0), .sc (.int .u8 0), .sc (.int .u8 0), .sc (.int .u8 0), .sc (.int .u8 0), .sc (.int .u8 0), .sc (.int .u8 0), .sc (.int .u8 0), .sc (.int .u8 0), .sc (.int .u8 0), .sc (.int .u8 0), .sc (.int .u8 0), .sc (.int .u8 0), .sc (.int .u8 0), .sc (.int .u8 0), .sc (.int .u8 0), .sc (.int .u8 0), .sc (.int .u8 0), .sc (.int .u8 0), .sc (.int .u8 0), .sc (.int .u8 0), .sc (.int .u8 0), .sc (.int .u8 0), .sc (.int .u8 0), .sc (.int .u8 0), .sc (.int .u8 0), .sc (.int .u8 0), .sc (.int .u8 0), .sc (.int .u8 0), .sc (.int .u8 0), .sc (.int .u8 0), .sc (.int .u8 0), .sc (.int .u8 0), .sc (.int .u8 0), .sc (.int .u8 0), .sc (.int .u8 0), .sc (.int .u8 0), .sc (.int .u8 0), .sc (.int .u8 0), .sc (.int .u8 0), .sc (.int .u8 0), .sc (.int .u8 0), .sc (.int .u8 0), .sc (.int .u8 0), .sc (.int .u8 0), .sc (.int .u8 0), .sc (.int .u8 0), .sc (.int .u8 0), .sc (.int .u8 0), .sc (.int .u8 0), .sc (.int .u8 0), .sc (.int .u8 0), .sc (.int .u8 0), .sc (.int .u8 0), .sc (.int .u8 0), .sc (.int .u8 0), .sc (.int .u8 0), .sc (.int .u8 0), .sc (.int .u8 0), .sc (.int .u8 0), .sc (.int .u8 0), .sc (.int .u8 0), .sc (.int .u8 0)], .sc (.int .u64 1), .sc (.bool true)], .agg [.sc (.int .u32 3681832419), .sc (.int .u32 3337899951), .sc (.int .u32 3430013099), .sc (.int .u32 3528524834), .sc (.int .u32 2219321066), .sc (.int .u32 4216813420), .sc (.int .u32 3845114026), .sc (.int .u32 3930838554)])
noncomputable def bkr3 : List AV × AV := ([.agg [.sc (.int .u32 1795745351), .sc (.int .u32 3144134277), .sc (.int .u32 1013904242), .sc (.int .u32 2773480762), .sc (.int .u32 1359893119), .sc (.int .u32 2600822924), .sc (.int .u32 528734635), .sc (.int .u32 1541459225)], .agg [.sc (.int .u8 2), .sc (.int .u8 0), .sc (.int .u8 0), .sc (.int .u8 0), .sc (.int .u8 0), .sc (.int .u8 0), .sc (.int .u8 0), .sc (.int .u8 0), .sc (.int .u8 0), .sc (.int .u8 0), .sc (.int .u8 0), .sc (.int .u8 0), .sc (.int .u8 0), .sc (.int .u8 0), .sc (.int .u8 0), .sc (.int .u8 0), .sc (.int .u8 0), .sc (.int .u8 0), .sc (.int .u8 0), .sc (.int .u8 0), .sc (.int .u8 0), .sc (.int .u8 0), .sc (.int .u8 0), .sc (.int .u8 0), .sc (.int .u8 0), .sc (.int .u8 0), .sc (.int .u8 0), .sc (.int .u8 0), .sc (.int .u8 0), .sc (.int .u8 0), .sc (.int .u8 0), .sc (.int .u8 0), .sc (.int .u8 0), .sc (.int .u8 0), .sc (.int .u8 0), .sc (.int .u8 0), .sc (.int .u8 0), .sc (.int .u8 0), .sc (.int .u8 0), .sc (.int .u8 0), .sc (.int .u8 0), .sc (.int .u8 0), .sc (.int .u8 0), .sc (.int .u8 0), .sc (.int .u8 0), .sc (.int .u8 0), .sc (.int .u8 0), .sc (.int .u8 0), .sc (.int .u8 0), .sc (.int .u8 0), .sc (.int .u8 0), .sc (.int .u8 0), .sc (.int .u8 0), .sc (.int .u8 0), .sc (.int .u8 0), .sc (.int .u8 0), .sc (.int .u8 0), .sc (.int .u8 0), .sc (.int .u8 0), .sc (.int .u8 0), .sc (.int .u8 0), .sc (.int .u8 0), .sc (.int .u8 0), .sc (.int .u8 0)], .sc (.int .u64 37), .sc (.bool true)], .agg [.sc (.int .u32 1994516049), .sc (.int .u32 3890457012), .sc (.int .u32 2049001059), .sc (.int .u32 380293926), .sc (.int .u32 3969383218), .sc (.int .u32 3156352926), .sc (.int .u32 3132774087), .sc (.int .u32 3784034504)])
noncomputable def blkTab : List (List AV × AV) := [bkr0, bkr1, bkr2, bkr3]
noncomputable def upB (b : UInt8) : UInt8 := bif (Nat.ble 97 b.toNat && Nat.ble b.toNat 122) then b - 32 else b
noncomputable def spUp (args : List AV) (h : AHeap) : Out := match args with
  | [.sc (.string s)] => match s.data.toList.all (fun b => Nat.blt b.toNat 128) && Nat.ble s.size 4096 with
    | true => some (.sc (.string ⟨(s.data.toList.map upB).toArray⟩), h)
    | false => none
  | _ => none
noncomputable def cmpB : List UInt8 → List UInt8 → Int
  | [], [] => 0
  | [], _ :: _ => -1
  | _ :: _, [] => 1
  | a :: xs, b :: ys => bif Nat.beq a.toNat b.toNat then cmpB xs ys else bif Nat.blt a.toNat b.toNat then -1 else 1
noncomputable def spCmp (args : List AV) (h : AHeap) : Out := match args with
  | [.sc (.string a), .sc (.string b)] => some (.sc (.int .i64 (cmpB a.data.toList b.data.toList)), h)
  | _ => none
noncomputable def spec0 : FuncId → Option (List AV → AHeap → Out)
  | 234 => some spUp
  | 247 => some spCmp
  | _ => none
noncomputable def spec1 : FuncId → Option (List AV → AHeap → Out)
  | 234 => some spUp
  | 247 => some spCmp
  | 197 => some (tabX keyTab)
  | _ => none
noncomputable def spec2 : FuncId → Option (List AV → AHeap → Out)
  | 234 => some spUp
  | 247 => some spCmp
  | 197 => some (tabX keyTab)
  | 182 => some (tabX nameTab)
  | _ => none
noncomputable def spec3 : FuncId → Option (List AV → AHeap → Out)
  | 234 => some spUp
  | 247 => some spCmp
  | 197 => some (tabX keyTab)
  | 182 => some (tabX nameTab)
  | 144 => some (tabX firstTab)
  | 143 => some (tabX blankTab)
  | 86 => some (tabX blkTab)
  | _ => none
noncomputable def spec4 : FuncId → Option (List AV → AHeap → Out)
  | 234 => some spUp
  | 247 => some spCmp
  | 197 => some (tabX keyTab)
  | 182 => some (tabX nameTab)
  | 144 => some (tabX firstTab)
  | 143 => some (tabX blankTab)
  | 86 => some (tabX blkTab)
  | 92 => some (@callRec O0 Tryz.prog G spec3 1000000 9 92)
  | _ => none
noncomputable def isTrue : Out → Bool
  | some (.sc (.bool true), _) => true
  | _ => false
end Go.Proofs.YtbhfnmeojhpgbaaGreatDoor
