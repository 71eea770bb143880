/-
  QuerySame holds for every input: the tied card of the law tallyhouselaw14.QuerySame. Conditions: those that the given row lists (the package-level variables hold what the program text lays; value.tests, value.reckons are read), and none besides.
-/
import Derived.Test.YtnacaggkeejodaaGreatDoorKi
set_option linter.all false
set_option linter.unusedVariables false
set_option linter.unusedSimpArgs false
set_option linter.unusedSectionVars false
namespace Go.Proofs.YtnacaggkeejodaaGreatDoor
open Go Go.AM Go.ChangeShapes Go.WideShapes Go.ChangeAt Go.RowKit
theorem plainT3 (f : FuncId) (fn : Func) (hf : Tryz.pinned.checked.prog.funcNamed "tallyhouse/tallyhouselaw14.QuerySame" = some f) (hfn : Tryz.pinned.checked.prog.funcs[f]? = some fn) :
    true = Tryz.pinned.checked.prog.looks [] ∧ ∀ (j : Nat) t, fn.params[j]? = some t → Tryz.pinned.checked.prog.wantsStandIn t = false := by
  obtain rfl : f = 3 := Option.some.inj ((show Tryz.prog.funcNamed "tallyhouse/tallyhouselaw14.QuerySame" = some 3 by kernel_rfl).symm.trans hf) |>.symm
  obtain rfl : fn = Tryz.f3 := (Option.some.inj (Tryz.func3.symm.trans hfn)).symm
  refine ⟨by kernel_rfl, fun j t ht => ?_⟩
  rw [Tryz.params3] at ht
  have hm : t ∈ [25, 25] := by simpa using Array.mem_of_getElem? ht
  have hall : ([25, 25].all fun u => !Tryz.prog.wantsStandIn u) = true := by kernel_rfl
  exact (show Tryz.prog.wantsStandIn t = false by simpa using List.all_eq_true.1 hall t hm)
/-- THE CARD. -/
theorem querySame_card : Rows.QuerySameCardSaid :=
  Claim7.holds_tied_plain_at .later [] _ _ _ _ said (fun _ h => by cases h) (by kernel_rfl) (fun _ h => by cases h) querySame_row_tie rfl ⟨rfl, rfl⟩ (by kernel_rfl) rfl plainT3 (by kernel_rfl)
end Go.Proofs.YtnacaggkeejodaaGreatDoor
