/-
  A part of the proof of QueryValues (the machine on named data, and the contracts of the functions that the law reaches): Qj2c.
-/
import Derived.Test.YtholilpmihngaaaGreatDoorKl
set_option linter.all false
set_option linter.unusedVariables false
set_option linter.unusedSimpArgs false
set_option linter.unusedSectionVars false
namespace Go.Proofs.YtholilpmihngaaaGreatDoor
open Go Go.ChangeShapes Go.WideShapes Go.ChangeAt Go.RowKit
theorem start_plain (os : Os) : laidMet Tryz.prog plainL (start os) := by
  have e1 : (plainL.filter fun x => (plainL.map (·.1)).contains x.1) = plainL := List.filter_eq_self.2 fun x hx => List.contains_iff_mem.2 (List.mem_map.2 ⟨x, hx, rfl⟩)
  have e2 : (plainL.filter fun x => !(plainL.map (·.1)).contains x.1) = [] := List.filter_eq_nil_iff.2 fun x hx => by rw [List.contains_iff_mem.2 (List.mem_map.2 ⟨x, hx, rfl⟩)]; simp
  exact laidMet_layVars (w0 := World.doorLaid Tryz.prog 115 os) (plainL.map (·.1)) [] (by rw [e1]; rfl) (by rw [e1]; exact start_fits os) (by rw [e1]; exact start_ifaces os) (by rw [e2]; exact LaidIn.none)
theorem start_h (os : Os) (args : Array Value) : (Rows.queryValuesRow.laid.filter fun x => x.2.handleName?.isSome && x.2.funcsIn?.isNone).all (handleAtB Tryz.prog ((start os).forCall (fun _ _ => 0) ⟨#[], args, []⟩).memory) = true := by kernel_rfl
end Go.Proofs.YtholilpmihngaaaGreatDoor
