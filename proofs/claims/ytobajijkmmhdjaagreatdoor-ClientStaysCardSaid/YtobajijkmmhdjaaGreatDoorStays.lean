/-
  ClientStays holds for every input: the tied card of the law tallyhouselaw22.ClientStays. Conditions: those that the given row lists (the package-level variables hold what the program text lays; blake.start, blake.orders, blake.fours are read), and none besides.
-/
import Derived.Test.YtobajijkmmhdjaaGreatDoorPBj
import Derived.Test.YtobajijkmmhdjaaGreatDoorPBk
set_option linter.all false
namespace Go.Proofs.YtobajijkmmhdjaaGreatDoor
open Go Go.AM Go.ChangeShapes Go.WideShapes Go.ChangeAt Go.RowKit
theorem clientStays_card:Rows.ClientStaysCardSaid:=
 Claim7.holds_tied_plain_at .later [] _ _ _ _ said (fun _ h=>by cases h) (by kernel_rfl) (fun _ h=>by cases h) clientStays_row_tie rfl ⟨rfl,rfl⟩ (by kernel_rfl) rfl uS (by kernel_rfl)
end Go.Proofs.YtobajijkmmhdjaaGreatDoor
