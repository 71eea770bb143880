/-
  A part of the proof of QueryValues (the machine on named data, and the contracts of the functions that the law reaches): Qj3.
-/
import Derived.Test.YtholilpmihngaaaGreatDoorKo
import Derived.Test.YtholilpmihngaaaGreatDoorKj
set_option linter.all false
set_option linter.unusedVariables false
set_option linter.unusedSimpArgs false
set_option linter.unusedSectionVars false
namespace Go.Proofs.YtholilpmihngaaaGreatDoor
open Go Go.AM Go.ChangeShapes Go.WideShapes Go.ChangeAt Go.RowKit
set_option maxHeartbeats 100000000 in
set_option maxRecDepth 100000 in
theorem lifted (os : Os) (started : os.Started) (H : Type) (enc : TypeId × Value → H) :
    ReturnsInHanded {} Tryz.checked os 3 .any (fun w args => (Rows.queryValuesSpec.pre enc Tryz.prog Tryz.f3 Rows.queryValuesRow.domain false w args ∧ laidMetH Tryz.prog Rows.queryValuesRow.laid w) ∧ sizedMet enc Tryz.prog Tryz.f3 (OpenSpec.ofChange Rows.queryValuesSpec) false w args)
      (Rows.queryValuesSpec.post enc Tryz.prog Tryz.f3 false true false false) := by
  refine returnsInHanded_of_change_and (C := Tryz.checked) (X := fun w _ => laidMetH Tryz.prog Rows.queryValuesRow.laid w) (fun _ _ _ hh h => h.of_heap hh) ownT started (by as_aux_lemma => kernel_rfl) Tryz.func3
    (ChangeSpec.witness_shaped (enc := enc) (C := Tryz.checked) (os := os) (X := fun w _ => laidMetH Tryz.prog Rows.queryValuesRow.laid w) false (start os) #[.slice none 0 0, .slice none 0 0] 8 (start_os os)
      (World.shaped_of_ZipB (by as_aux_lemma => kernel_rfl) (by as_aux_lemma => kernel_rfl)) (by as_aux_lemma => kernel_rfl) (by as_aux_lemma => kernel_rfl) (by as_aux_lemma => kernel_rfl) (start_met os _)) ?_
  intro W base args ds gs before hval hW _ _ hL _
  exact contract H enc W base args ds gs before hval hW hL
end Go.Proofs.YtholilpmihngaaaGreatDoor
