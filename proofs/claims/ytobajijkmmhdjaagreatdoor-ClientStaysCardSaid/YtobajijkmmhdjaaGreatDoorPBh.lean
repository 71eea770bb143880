/-
  A part of the proof of ClientStays (the machine on named data, and the contracts of the functions that the law reaches). Its names and spaces were shortened by a program of ours.
-/
import Derived.Test.YtobajijkmmhdjaaGreatDoorPBf
import Derived.Test.YtobajijkmmhdjaaGreatDoorPBg
set_option linter.all false
namespace Go.Proofs.YtobajijkmmhdjaaGreatDoor
open Go Go.AM Go.ChangeShapes Go.WideShapes Go.ChangeAt Go.RowKit
set_option maxHeartbeats 100000000 in
set_option maxRecDepth 100000 in
theorem lifted(os:Os)(started:os.Started)(H:Type)(enc:TypeId×Value→H):
  ReturnsInHanded {} Tryz.checked os 3 .any (fun w args=>(Rows.clientStaysSpec.pre enc Tryz.prog Tryz.f3 Rows.clientStaysRow.domain false w args∧laidMetH Tryz.prog Rows.clientStaysRow.laid w)∧sizedMet enc Tryz.prog Tryz.f3 (OpenSpec.ofChange Rows.clientStaysSpec) false w args)
   (Rows.clientStaysSpec.post enc Tryz.prog Tryz.f3 false true false false):=by
 refine returnsInHanded_of_change_and (C:=Tryz.checked) (X:=fun w _=>laidMetH Tryz.prog Rows.clientStaysRow.laid w) (fun _ _ _ hh h=>h.of_heap hh) ACG started (by as_aux_lemma=>kernel_rfl) Tryz.func3
  (ChangeSpec.witness_shaped (enc:=enc) (C:=Tryz.checked) (os:=os) (X:=fun w _=>laidMetH Tryz.prog Rows.clientStaysRow.laid w) false (start os) #[.int .i64 0,.slice none 0 0] 8 (qB os)
   (World.shaped_of_ZipB (by as_aux_lemma=>kernel_rfl) (by as_aux_lemma=>kernel_rfl)) (by as_aux_lemma=>kernel_rfl) (by as_aux_lemma=>kernel_rfl) (by as_aux_lemma=>kernel_rfl) (mI os _)) ?_
 intro W base args ds gs before hval hW _ _ hL _;exact qA H enc W base args ds gs before hval hW hL
end Go.Proofs.YtobajijkmmhdjaaGreatDoor
