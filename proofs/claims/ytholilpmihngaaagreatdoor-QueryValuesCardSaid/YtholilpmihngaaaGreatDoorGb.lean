/-
  A part of the proof of QueryValues (the machine on named data, and the contracts of the functions that the law reaches): Wt.
-/
import Derived.Test.YtholilpmihngaaaGreatDoorGa
set_option linter.all false
set_option linter.unusedVariables false
set_option linter.unusedSimpArgs false
set_option linter.unusedSectionVars false
namespace Go.Proofs.YtholilpmihngaaaGreatDoor
open Go Go.AM
noncomputable def keyTab : List (List AV × AV) := [([.sc (.string (.mk #[67,82,69,65,84,69]))], .tup [.sc (.string (.mk #[67,82,69,65,84,69])), .sc (.bool true)]),
  ([.sc (.string (.mk #[84,65,66,76,69]))], .tup [.sc (.string (.mk #[84,65,66,76,69])), .sc (.bool true)]),
  ([.sc (.string (.mk #[116]))], .tup [.sc (.string (.mk #[])), .sc (.bool false)]),
  ([.sc (.string (.mk #[97]))], .tup [.sc (.string (.mk #[])), .sc (.bool false)]),
  ([.sc (.string (.mk #[73,78,84]))], .tup [.sc (.string (.mk #[73,78,84])), .sc (.bool true)]),
  ([.sc (.string (.mk #[80,82,73,77,65,82,89]))], .tup [.sc (.string (.mk #[80,82,73,77,65,82,89])), .sc (.bool true)]),
  ([.sc (.string (.mk #[75,69,89]))], .tup [.sc (.string (.mk #[75,69,89])), .sc (.bool true)]),
  ([.sc (.string (.mk #[98]))], .tup [.sc (.string (.mk #[])), .sc (.bool false)]),
  ([.sc (.string (.mk #[84,69,88,84]))], .tup [.sc (.string (.mk #[84,69,88,84])), .sc (.bool true)]),
  ([.sc (.string (.mk #[73,78,83,69,82,84]))], .tup [.sc (.string (.mk #[73,78,83,69,82,84])), .sc (.bool true)]),
  ([.sc (.string (.mk #[73,78,84,79]))], .tup [.sc (.string (.mk #[73,78,84,79])), .sc (.bool true)]),
  ([.sc (.string (.mk #[86,65,76,85,69,83]))], .tup [.sc (.string (.mk #[86,65,76,85,69,83])), .sc (.bool true)]),
  ([.sc (.string (.mk #[78,85,76,76]))], .tup [.sc (.string (.mk #[78,85,76,76])), .sc (.bool true)]),
  ([.sc (.string (.mk #[83,69,76,69,67,84]))], .tup [.sc (.string (.mk #[83,69,76,69,67,84])), .sc (.bool true)]),
  ([.sc (.string (.mk #[70,82,79,77]))], .tup [.sc (.string (.mk #[70,82,79,77])), .sc (.bool true)]),
  ([.sc (.string (.mk #[87,72,69,82,69]))], .tup [.sc (.string (.mk #[87,72,69,82,69])), .sc (.bool true)])]
noncomputable def nameTab : List (List AV × AV) := [([.sc (.string (.mk #[116]))], .sc (.bool true)),
  ([.sc (.string (.mk #[97]))], .sc (.bool true)),
  ([.sc (.string (.mk #[98]))], .sc (.bool true))]
noncomputable def firstTab : List (List AV × AV) := [([.sc (.string (.mk #[67,82,69,65,84,69,32,84,65,66,76,69,32,116,32,40,97,32,73,78,84,32,80,82,73,77,65,82,89,32,75,69,89,44,32,98,32,84,69,88,84,41]))], .tup [.agg [.sc (.int .i64 1), .sc (.string (.mk #[67,82,69,65,84,69])), .sc (.int .i64 0), .sc (.int .i64 0), .sc (.int .i64 0)], .sc (.int .i64 6), .sc (.int .i64 0)]),
  ([.sc (.string (.mk #[84,65,66,76,69,32,116,32,40,97,32,73,78,84,32,80,82,73,77,65,82,89,32,75,69,89,44,32,98,32,84,69,88,84,41]))], .tup [.agg [.sc (.int .i64 1), .sc (.string (.mk #[84,65,66,76,69])), .sc (.int .i64 0), .sc (.int .i64 0), .sc (.int .i64 0)], .sc (.int .i64 5), .sc (.int .i64 0)]),
  ([.sc (.string (.mk #[116,32,40,97,32,73,78,84,32,80,82,73,77,65,82,89,32,75,69,89,44,32,98,32,84,69,88,84,41]))], .tup [.agg [.sc (.int .i64 2), .sc (.string (.mk #[116])), .sc (.int .i64 0), .sc (.int .i64 0), .sc (.int .i64 0)], .sc (.int .i64 1), .sc (.int .i64 0)]),
  ([.sc (.string (.mk #[40,97,32,73,78,84,32,80,82,73,77,65,82,89,32,75,69,89,44,32,98,32,84,69,88,84,41]))], .tup [.agg [.sc (.int .i64 5), .sc (.string (.mk #[40])), .sc (.int .i64 0), .sc (.int .i64 0), .sc (.int .i64 0)], .sc (.int .i64 1), .sc (.int .i64 0)]),
  ([.sc (.string (.mk #[97,32,73,78,84,32,80,82,73,77,65,82,89,32,75,69,89,44,32,98,32,84,69,88,84,41]))], .tup [.agg [.sc (.int .i64 2), .sc (.string (.mk #[97])), .sc (.int .i64 0), .sc (.int .i64 0), .sc (.int .i64 0)], .sc (.int .i64 1), .sc (.int .i64 0)]),
  ([.sc (.string (.mk #[73,78,84,32,80,82,73,77,65,82,89,32,75,69,89,44,32,98,32,84,69,88,84,41]))], .tup [.agg [.sc (.int .i64 1), .sc (.string (.mk #[73,78,84])), .sc (.int .i64 0), .sc (.int .i64 0), .sc (.int .i64 0)], .sc (.int .i64 3), .sc (.int .i64 0)]),
  ([.sc (.string (.mk #[80,82,73,77,65,82,89,32,75,69,89,44,32,98,32,84,69,88,84,41]))], .tup [.agg [.sc (.int .i64 1), .sc (.string (.mk #[80,82,73,77,65,82,89])), .sc (.int .i64 0), .sc (.int .i64 0), .sc (.int .i64 0)], .sc (.int .i64 7), .sc (.int .i64 0)]),
  ([.sc (.string (.mk #[75,69,89,44,32,98,32,84,69,88,84,41]))], .tup [.agg [.sc (.int .i64 1), .sc (.string (.mk #[75,69,89])), .sc (.int .i64 0), .sc (.int .i64 0), .sc (.int .i64 0)], .sc (.int .i64 3), .sc (.int .i64 0)]),
  ([.sc (.string (.mk #[44,32,98,32,84,69,88,84,41]))], .tup [.agg [.sc (.int .i64 5), .sc (.string (.mk #[44])), .sc (.int .i64 0), .sc (.int .i64 0), .sc (.int .i64 0)], .sc (.int .i64 1), .sc (.int .i64 0)]),
  ([.sc (.string (.mk #[98,32,84,69,88,84,41]))], .tup [.agg [.sc (.int .i64 2), .sc (.string (.mk #[98])), .sc (.int .i64 0), .sc (.int .i64 0), .sc (.int .i64 0)], .sc (.int .i64 1), .sc (.int .i64 0)]),
  ([.sc (.string (.mk #[84,69,88,84,41]))], .tup [.agg [.sc (.int .i64 1), .sc (.string (.mk #[84,69,88,84])), .sc (.int .i64 0), .sc (.int .i64 0), .sc (.int .i64 0)], .sc (.int .i64 4), .sc (.int .i64 0)]),
  ([.sc (.string (.mk #[41]))], .tup [.agg [.sc (.int .i64 5), .sc (.string (.mk #[41])), .sc (.int .i64 0), .sc (.int .i64 0), .sc (.int .i64 0)], .sc (.int .i64 1), .sc (.int .i64 0)]),
  ([.sc (.string (.mk #[73,78,83,69,82,84,32,73,78,84,79,32,116,32,86,65,76,85,69,83,32,40,50,44,32,39,120,39,41]))], .tup [.agg [.sc (.int .i64 1), .sc (.string (.mk #[73,78,83,69,82,84])), .sc (.int .i64 0), .sc (.int .i64 0), .sc (.int .i64 0)], .sc (.int .i64 6), .sc (.int .i64 0)]),
  ([.sc (.string (.mk #[73,78,84,79,32,116,32,86,65,76,85,69,83,32,40,50,44,32,39,120,39,41]))], .tup [.agg [.sc (.int .i64 1), .sc (.string (.mk #[73,78,84,79])), .sc (.int .i64 0), .sc (.int .i64 0), .sc (.int .i64 0)], .sc (.int .i64 4), .sc (.int .i64 0)]),
  ([.sc (.string (.mk #[116,32,86,65,76,85,69,83,32,40,50,44,32,39,120,39,41]))], .tup [.agg [.sc (.int .i64 2), .sc (.string (.mk #[116])), .sc (.int .i64 0), .sc (.int .i64 0), .sc (.int .i64 0)], .sc (.int .i64 1), .sc (.int .i64 0)]),
  ([.sc (.string (.mk #[86,65,76,85,69,83,32,40,50,44,32,39,120,39,41]))], .tup [.agg [.sc (.int .i64 1), .sc (.string (.mk #[86,65,76,85,69,83])), .sc (.int .i64 0), .sc (.int .i64 0), .sc (.int .i64 0)], .sc (.int .i64 6), .sc (.int .i64 0)]),
  ([.sc (.string (.mk #[40,50,44,32,39,120,39,41]))], .tup [.agg [.sc (.int .i64 5), .sc (.string (.mk #[40])), .sc (.int .i64 0), .sc (.int .i64 0), .sc (.int .i64 0)], .sc (.int .i64 1), .sc (.int .i64 0)]),
  ([.sc (.string (.mk #[50,44,32,39,120,39,41]))], .tup [.agg [.sc (.int .i64 3), .sc (.string (.mk #[])), .sc (.int .i64 2), .sc (.int .i64 0), .sc (.int .i64 0)], .sc (.int .i64 1), .sc (.int .i64 0)]),
  ([.sc (.string (.mk #[44,32,39,120,39,41]))], .tup [.agg [.sc (.int .i64 5), .sc (.string (.mk #[44])), .sc (.int .i64 0), .sc (.int .i64 0), .sc (.int .i64 0)], .sc (.int .i64 1), .sc (.int .i64 0)]),
  ([.sc (.string (.mk #[39,120,39,41]))], .tup [.agg [.sc (.int .i64 4), .sc (.string (.mk #[120])), .sc (.int .i64 0), .sc (.int .i64 0), .sc (.int .i64 0)], .sc (.int .i64 3), .sc (.int .i64 0)]),
  ([.sc (.string (.mk #[73,78,83,69,82,84,32,73,78,84,79,32,116,32,86,65,76,85,69,83,32,40,49,44,32,78,85,76,76,41]))], .tup [.agg [.sc (.int .i64 1), .sc (.string (.mk #[73,78,83,69,82,84])), .sc (.int .i64 0), .sc (.int .i64 0), .sc (.int .i64 0)], .sc (.int .i64 6), .sc (.int .i64 0)]),
  ([.sc (.string (.mk #[73,78,84,79,32,116,32,86,65,76,85,69,83,32,40,49,44,32,78,85,76,76,41]))], .tup [.agg [.sc (.int .i64 1), .sc (.string (.mk #[73,78,84,79])), .sc (.int .i64 0), .sc (.int .i64 0), .sc (.int .i64 0)], .sc (.int .i64 4), .sc (.int .i64 0)]),
  ([.sc (.string (.mk #[116,32,86,65,76,85,69,83,32,40,49,44,32,78,85,76,76,41]))], .tup [.agg [.sc (.int .i64 2), .sc (.string (.mk #[116])), .sc (.int .i64 0), .sc (.int .i64 0), .sc (.int .i64 0)], .sc (.int .i64 1), .sc (.int .i64 0)]),
  ([.sc (.string (.mk #[86,65,76,85,69,83,32,40,49,44,32,78,85,76,76,41]))], .tup [.agg [.sc (.int .i64 1), .sc (.string (.mk #[86,65,76,85,69,83])), .sc (.int .i64 0), .sc (.int .i64 0), .sc (.int .i64 0)], .sc (.int .i64 6), .sc (.int .i64 0)]),
  ([.sc (.string (.mk #[40,49,44,32,78,85,76,76,41]))], .tup [.agg [.sc (.int .i64 5), .sc (.string (.mk #[40])), .sc (.int .i64 0), .sc (.int .i64 0), .sc (.int .i64 0)], .sc (.int .i64 1), .sc (.int .i64 0)]),
  ([.sc (.string (.mk #[49,44,32,78,85,76,76,41]))], .tup [.agg [.sc (.int .i64 3), .sc (.string (.mk #[])), .sc (.int .i64 1), .sc (.int .i64 0), .sc (.int .i64 0)], .sc (.int .i64 1), .sc (.int .i64 0)]),
  ([.sc (.string (.mk #[44,32,78,85,76,76,41]))], .tup [.agg [.sc (.int .i64 5), .sc (.string (.mk #[44])), .sc (.int .i64 0), .sc (.int .i64 0), .sc (.int .i64 0)], .sc (.int .i64 1), .sc (.int .i64 0)]),
  ([.sc (.string (.mk #[78,85,76,76,41]))], .tup [.agg [.sc (.int .i64 1), .sc (.string (.mk #[78,85,76,76])), .sc (.int .i64 0), .sc (.int .i64 0), .sc (.int .i64 0)], .sc (.int .i64 4), .sc (.int .i64 0)]),
  ([.sc (.string (.mk #[83,69,76,69,67,84,32,97,32,43,32,49,32,70,82,79,77,32,116,32,87,72,69,82,69,32,98,32,61,32,39,120,39]))], .tup [.agg [.sc (.int .i64 1), .sc (.string (.mk #[83,69,76,69,67,84])), .sc (.int .i64 0), .sc (.int .i64 0), .sc (.int .i64 0)], .sc (.int .i64 6), .sc (.int .i64 0)]),
  ([.sc (.string (.mk #[97,32,43,32,49,32,70,82,79,77,32,116,32,87,72,69,82,69,32,98,32,61,32,39,120,39]))], .tup [.agg [.sc (.int .i64 2), .sc (.string (.mk #[97])), .sc (.int .i64 0), .sc (.int .i64 0), .sc (.int .i64 0)], .sc (.int .i64 1), .sc (.int .i64 0)]),
  ([.sc (.string (.mk #[43,32,49,32,70,82,79,77,32,116,32,87,72,69,82,69,32,98,32,61,32,39,120,39]))], .tup [.agg [.sc (.int .i64 5), .sc (.string (.mk #[43])), .sc (.int .i64 0), .sc (.int .i64 0), .sc (.int .i64 0)], .sc (.int .i64 1), .sc (.int .i64 0)]),
  ([.sc (.string (.mk #[49,32,70,82,79,77,32,116,32,87,72,69,82,69,32,98,32,61,32,39,120,39]))], .tup [.agg [.sc (.int .i64 3), .sc (.string (.mk #[])), .sc (.int .i64 1), .sc (.int .i64 0), .sc (.int .i64 0)], .sc (.int .i64 1), .sc (.int .i64 0)]),
  ([.sc (.string (.mk #[70,82,79,77,32,116,32,87,72,69,82,69,32,98,32,61,32,39,120,39]))], .tup [.agg [.sc (.int .i64 1), .sc (.string (.mk #[70,82,79,77])), .sc (.int .i64 0), .sc (.int .i64 0), .sc (.int .i64 0)], .sc (.int .i64 4), .sc (.int .i64 0)]),
  ([.sc (.string (.mk #[116,32,87,72,69,82,69,32,98,32,61,32,39,120,39]))], .tup [.agg [.sc (.int .i64 2), .sc (.string (.mk #[116])), .sc (.int .i64 0), .sc (.int .i64 0), .sc (.int .i64 0)], .sc (.int .i64 1), .sc (.int .i64 0)]),
  ([.sc (.string (.mk #[87,72,69,82,69,32,98,32,61,32,39,120,39]))], .tup [.agg [.sc (.int .i64 1), .sc (.string (.mk #[87,72,69,82,69])), .sc (.int .i64 0), .sc (.int .i64 0), .sc (.int .i64 0)], .sc (.int .i64 5), .sc (.int .i64 0)]),
  ([.sc (.string (.mk #[98,32,61,32,39,120,39]))], .tup [.agg [.sc (.int .i64 2), .sc (.string (.mk #[98])), .sc (.int .i64 0), .sc (.int .i64 0), .sc (.int .i64 0)], .sc (.int .i64 1), .sc (.int .i64 0)]),
  ([.sc (.string (.mk #[61,32,39,120,39]))], .tup [.agg [.sc (.int .i64 5), .sc (.string (.mk #[61])), .sc (.int .i64 0), .sc (.int .i64 0), .sc (.int .i64 0)], .sc (.int .i64 1), .sc (.int .i64 0)]),
  ([.sc (.string (.mk #[39,120,39]))], .tup [.agg [.sc (.int .i64 4), .sc (.string (.mk #[120])), .sc (.int .i64 0), .sc (.int .i64 0), .sc (.int .i64 0)], .sc (.int .i64 3), .sc (.int .i64 0)])]
noncomputable def blankTab : List (List AV × AV) := [([.sc (.string (.mk #[67,82,69,65,84,69,32,84,65,66,76,69,32,116,32,40,97,32,73,78,84,32,80,82,73,77,65,82,89,32,75,69,89,44,32,98,32,84,69,88,84,41]))], .sc (.int .i64 0)),
  ([.sc (.string (.mk #[32,84,65,66,76,69,32,116,32,40,97,32,73,78,84,32,80,82,73,77,65,82,89,32,75,69,89,44,32,98,32,84,69,88,84,41]))], .sc (.int .i64 1)),
  ([.sc (.string (.mk #[32,116,32,40,97,32,73,78,84,32,80,82,73,77,65,82,89,32,75,69,89,44,32,98,32,84,69,88,84,41]))], .sc (.int .i64 1)),
  ([.sc (.string (.mk #[32,40,97,32,73,78,84,32,80,82,73,77,65,82,89,32,75,69,89,44,32,98,32,84,69,88,84,41]))], .sc (.int .i64 1)),
  ([.sc (.string (.mk #[97,32,73,78,84,32,80,82,73,77,65,82,89,32,75,69,89,44,32,98,32,84,69,88,84,41]))], .sc (.int .i64 0)),
  ([.sc (.string (.mk #[32,73,78,84,32,80,82,73,77,65,82,89,32,75,69,89,44,32,98,32,84,69,88,84,41]))], .sc (.int .i64 1)),
  ([.sc (.string (.mk #[32,80,82,73,77,65,82,89,32,75,69,89,44,32,98,32,84,69,88,84,41]))], .sc (.int .i64 1)),
  ([.sc (.string (.mk #[32,75,69,89,44,32,98,32,84,69,88,84,41]))], .sc (.int .i64 1)),
  ([.sc (.string (.mk #[44,32,98,32,84,69,88,84,41]))], .sc (.int .i64 0)),
  ([.sc (.string (.mk #[32,98,32,84,69,88,84,41]))], .sc (.int .i64 1)),
  ([.sc (.string (.mk #[32,84,69,88,84,41]))], .sc (.int .i64 1)),
  ([.sc (.string (.mk #[41]))], .sc (.int .i64 0)),
  ([.sc (.string (.mk #[]))], .sc (.int .i64 0)),
  ([.sc (.string (.mk #[73,78,83,69,82,84,32,73,78,84,79,32,116,32,86,65,76,85,69,83,32,40,50,44,32,39,120,39,41]))], .sc (.int .i64 0)),
  ([.sc (.string (.mk #[32,73,78,84,79,32,116,32,86,65,76,85,69,83,32,40,50,44,32,39,120,39,41]))], .sc (.int .i64 1)),
  ([.sc (.string (.mk #[32,116,32,86,65,76,85,69,83,32,40,50,44,32,39,120,39,41]))], .sc (.int .i64 1)),
  ([.sc (.string (.mk #[32,86,65,76,85,69,83,32,40,50,44,32,39,120,39,41]))], .sc (.int .i64 1)),
  ([.sc (.string (.mk #[32,40,50,44,32,39,120,39,41]))], .sc (.int .i64 1)),
  ([.sc (.string (.mk #[50,44,32,39,120,39,41]))], .sc (.int .i64 0)),
  ([.sc (.string (.mk #[44,32,39,120,39,41]))], .sc (.int .i64 0)),
  ([.sc (.string (.mk #[32,39,120,39,41]))], .sc (.int .i64 1)),
  ([.sc (.string (.mk #[73,78,83,69,82,84,32,73,78,84,79,32,116,32,86,65,76,85,69,83,32,40,49,44,32,78,85,76,76,41]))], .sc (.int .i64 0)),
  ([.sc (.string (.mk #[32,73,78,84,79,32,116,32,86,65,76,85,69,83,32,40,49,44,32,78,85,76,76,41]))], .sc (.int .i64 1)),
  ([.sc (.string (.mk #[32,116,32,86,65,76,85,69,83,32,40,49,44,32,78,85,76,76,41]))], .sc (.int .i64 1)),
  ([.sc (.string (.mk #[32,86,65,76,85,69,83,32,40,49,44,32,78,85,76,76,41]))], .sc (.int .i64 1)),
  ([.sc (.string (.mk #[32,40,49,44,32,78,85,76,76,41]))], .sc (.int .i64 1)),
  ([.sc (.string (.mk #[49,44,32,78,85,76,76,41]))], .sc (.int .i64 0)),
  ([.sc (.string (.mk #[44,32,78,85,76,76,41]))], .sc (.int .i64 0)),
  ([.sc (.string (.mk #[32,78,85,76,76,41]))], .sc (.int .i64 1)),
  ([.sc (.string (.mk #[83,69,76,69,67,84,32,97,32,43,32,49,32,70,82,79,77,32,116,32,87,72,69,82,69,32,98,32,61,32,39,120,39]))], .sc (.int .i64 0)),
  ([.sc (.string (.mk #[32,97,32,43,32,49,32,70,82,79,77,32,116,32,87,72,69,82,69,32,98,32,61,32,39,120,39]))], .sc (.int .i64 1)),
  ([.sc (.string (.mk #[32,43,32,49,32,70,82,79,77,32,116,32,87,72,69,82,69,32,98,32,61,32,39,120,39]))], .sc (.int .i64 1)),
  ([.sc (.string (.mk #[32,49,32,70,82,79,77,32,116,32,87,72,69,82,69,32,98,32,61,32,39,120,39]))], .sc (.int .i64 1)),
  ([.sc (.string (.mk #[32,70,82,79,77,32,116,32,87,72,69,82,69,32,98,32,61,32,39,120,39]))], .sc (.int .i64 1)),
  ([.sc (.string (.mk #[32,116,32,87,72,69,82,69,32,98,32,61,32,39,120,39]))], .sc (.int .i64 1)),
  ([.sc (.string (.mk #[32,87,72,69,82,69,32,98,32,61,32,39,120,39]))], .sc (.int .i64 1)),
  ([.sc (.string (.mk #[32,98,32,61,32,39,120,39]))], .sc (.int .i64 1)),
  ([.sc (.string (.mk #[32,61,32,39,120,39]))], .sc (.int .i64 1)),
  ([.sc (.string (.mk #[32,39,120,39]))], .sc (.int .i64 1))]
noncomputable def checkTab : List (List AV × AV) := [([.agg [.sc (.int .i64 3), .sc (.int .i64 2), .sc (.string (.mk #[]))]], .sc (.int .i64 0)),
  ([.agg [.sc (.int .i64 4), .sc (.int .i64 0), .sc (.string (.mk #[120]))]], .sc (.int .i64 0)),
  ([.agg [.sc (.int .i64 3), .sc (.int .i64 1), .sc (.string (.mk #[]))]], .sc (.int .i64 0)),
  ([.agg [.sc (.int .i64 1), .sc (.int .i64 0), .sc (.string (.mk #[]))]], .sc (.int .i64 0))]
noncomputable def compTab : List (List AV × AV) := [([.agg [.sc (.int .i64 3), .sc (.int .i64 1), .sc (.string (.mk #[]))], .agg [.sc (.int .i64 3), .sc (.int .i64 2), .sc (.string (.mk #[]))]], .sc (.int .i64 (-1))),
  ([.agg [.sc (.int .i64 4), .sc (.int .i64 0), .sc (.string (.mk #[120]))], .agg [.sc (.int .i64 4), .sc (.int .i64 0), .sc (.string (.mk #[120]))]], .sc (.int .i64 0))]
noncomputable def upB (b : UInt8) : UInt8 := bif (Nat.ble 97 b.toNat && Nat.ble b.toNat 122) then b - 32 else b
noncomputable def spUp (args : List AV) (h : AHeap) : Out := match args with
  | [.sc (.string s)] => match s.data.toList.all (fun b => Nat.blt b.toNat 128) && Nat.ble s.size 4096 with
    | true => some (.sc (.string ⟨(s.data.toList.map upB).toArray⟩), h)
    | false => none
  | _ => none
noncomputable def cmpB : List UInt8 → List UInt8 → Int
  | [], [] => 0
  | [], _ :: _ => -1
  | _ :: _, [] => 1
  | a :: xs, b :: ys => bif Nat.beq a.toNat b.toNat then cmpB xs ys else bif Nat.blt a.toNat b.toNat then -1 else 1
noncomputable def spCmp (args : List AV) (h : AHeap) : Out := match args with
  | [.sc (.string a), .sc (.string b)] => some (.sc (.int .i64 (cmpB a.data.toList b.data.toList)), h)
  | _ => none
noncomputable def spec0 : FuncId → Option (List AV → AHeap → Out)
  | 185 => some spUp
  | 198 => some spCmp
  | _ => none
noncomputable def spec1 : FuncId → Option (List AV → AHeap → Out)
  | 185 => some spUp
  | 198 => some spCmp
  | 147 => some (tabX keyTab)
  | _ => none
noncomputable def spec2 : FuncId → Option (List AV → AHeap → Out)
  | 185 => some spUp
  | 198 => some spCmp
  | 147 => some (tabX keyTab)
  | 148 => some (tabX nameTab)
  | _ => none
noncomputable def spec3 : FuncId → Option (List AV → AHeap → Out)
  | 185 => some spUp
  | 198 => some spCmp
  | 147 => some (tabX keyTab)
  | 148 => some (tabX nameTab)
  | 93 => some (tabX firstTab)
  | 92 => some (tabX blankTab)
  | 40 => some (tabX checkTab)
  | 103 => some (tabX compTab)
  | _ => none
noncomputable def isTrue : Out → Bool
  | some (.sc (.bool true), _) => true
  | _ => false
end Go.Proofs.YtholilpmihngaaaGreatDoor
