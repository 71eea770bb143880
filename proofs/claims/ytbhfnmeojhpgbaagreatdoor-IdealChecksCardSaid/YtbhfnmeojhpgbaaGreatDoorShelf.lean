/-
  A part of the proof of IdealChecks (the machine on named data, and the contracts of the functions that the law reaches): YtbhfnmeojhpgbaaGreatDoorShelf.
-/
import Derived.Shelf.Strings.Builder1
import Derived.Shelf.Strings.Builder2
import Derived.Shelf.Strings.OnBuilder
import Derived.Shelf.Small.Strs
import Derived.Test.YtbhfnmeojhpgbaaGreatDoorProg
set_option linter.all false
set_option linter.unusedVariables false
set_option linter.unusedSimpArgs false
set_option linter.unusedSectionVars false
/-
  DERIVED: THE SHELF's CONTRACTS AT THIS DUMP, IN PLAIN WORDS (tools/lay-plain.mjs out of 'TryzTrimShelf.lean', which tools/lay-shelf.mjs wrote): THE SAME DECLARATIONS UNDER THE SAME NAMES: 'import', 'namespace', 'open', 'def', 'theorem' AND NOTHING ELSE: no command of the shelf's: FOR A HAND-IN. Each laying: the table of numbers ('.._ren') and one theorem, a field a fact of the dump's own or the kernel's comparison; each contract: ONE APPLICATION.
-/
namespace Go.Proofs
open Go.Shelf
def Tryz.lays158_ren : Go.Shelf.Ren := ⟨fun | 158 => 234 | 165 => 267 | 166 => 268 | 167 => 269 | 169 => 270 | 230 => 271 | 203 => 272 | 240 => 300 | 241 => 301 | 197 => 302 | 118 => 303 | 168 => 304 | 270 => 305 | 262 => 306 | 276 => 328 | 277 => 329 | 260 => 330 | 242 => 331 | 313 => 332 | 278 => 349 | 274 => 350 | 275 => 351 | n => n, fun | 9 => 9 | 4 => 4 | 3 => 3 | 5 => 5 | 72 => 387 | 0 => 0 | 76 => 389 | 75 => 355 | 107 => 393 | 70 => 385 | 20 => 20 | 37 => 54 | 127 => 415 | 21 => 21 | 105 => 416 | 164 => 442 | 162 => 447 | 203 => 445 | 119 => 464 | 46 => 207 | 139 => 467 | 138 => 466 | 51 => 42 | 160 => 468 | 208 => 483 | 206 => 481 | 80 => 236 | n => n, fun | 13 => 5 | 3 => 9 | 4 => 10 | n => n⟩
theorem Tryz.lays158 : Go.Proofs.Lays.n158 Tryz.prog Tryz.lays158_ren := {
  mixed := by kernel_rfl
  f118 := Tryz.func303.trans (congrArg some (by kernel_rfl))
  f158 := Tryz.func234.trans (congrArg some (by kernel_rfl))
  f165 := Tryz.func267.trans (congrArg some (by kernel_rfl))
  f166 := Tryz.func268.trans (congrArg some (by kernel_rfl))
  f167 := Tryz.func269.trans (congrArg some (by kernel_rfl))
  f168 := Tryz.func304.trans (congrArg some (by kernel_rfl))
  f169 := Tryz.func270.trans (congrArg some (by kernel_rfl))
  f197 := Tryz.func302.trans (congrArg some (by kernel_rfl))
  f203 := Tryz.func272.trans (congrArg some (by kernel_rfl))
  f230 := Tryz.func271.trans (congrArg some (by kernel_rfl))
  f240 := Tryz.func300.trans (congrArg some (by kernel_rfl))
  f241 := Tryz.func301.trans (congrArg some (by kernel_rfl))
  f242 := Tryz.func331.trans (congrArg some (by kernel_rfl))
  f260 := Tryz.func330.trans (congrArg some (by kernel_rfl))
  f262 := Tryz.func306.trans (congrArg some (by kernel_rfl))
  f270 := Tryz.func305.trans (congrArg some (by kernel_rfl))
  f274 := Tryz.func350.trans (congrArg some (by kernel_rfl))
  f275 := Tryz.func351.trans (congrArg some (by kernel_rfl))
  f276 := Tryz.func328.trans (congrArg some (by kernel_rfl))
  f277 := Tryz.func329.trans (congrArg some (by kernel_rfl))
  f278 := Tryz.func349.trans (congrArg some (by kernel_rfl))
  f313 := Tryz.func332.trans (congrArg some (by kernel_rfl))
  t0 := Tryz.underlying0
  a0 := Tryz.isAgg0
  z0 := Tryz.sizeOf0
  v0 := Tryz.zeroValue0
  t3 := Tryz.underlying3
  a3 := Tryz.isAgg3
  z3 := Tryz.sizeOf3
  v3 := Tryz.zeroValue3
  t4 := Tryz.underlying4
  a4 := Tryz.isAgg4
  z4 := Tryz.sizeOf4
  v4 := Tryz.zeroValue4
  t5 := Tryz.underlying5
  a5 := Tryz.isAgg5
  z5 := Tryz.sizeOf5
  v5 := Tryz.zeroValue5
  t9 := Tryz.underlying9
  a9 := Tryz.isAgg9
  z9 := Tryz.sizeOf9
  v9 := Tryz.zeroValue9
  t20 := Tryz.underlying20
  a20 := Tryz.isAgg20
  z20 := Tryz.sizeOf20
  v20 := Tryz.zeroValue20
  t21 := Tryz.underlying21
  a21 := Tryz.isAgg21
  z21 := Tryz.sizeOf21
  v21 := Tryz.zeroValue21
  t37 := Tryz.underlying54
  a37 := Tryz.isAgg54
  z37 := Tryz.sizeOf54
  v37 := Tryz.zeroValue54
  t46 := Tryz.underlying207
  a46 := Tryz.isAgg207
  z46 := Tryz.sizeOf207
  v46 := Tryz.zeroValue207
  t51 := Tryz.underlying42
  a51 := Tryz.isAgg42
  z51 := Tryz.sizeOf42
  v51 := Tryz.zeroValue42
  t70 := Tryz.underlying385
  a70 := Tryz.isAgg385
  z70 := Tryz.sizeOf385
  v70 := Tryz.zeroValue385
  t72 := Tryz.underlying387
  a72 := Tryz.isAgg387
  z72 := Tryz.sizeOf387
  v72 := Tryz.zeroValue387
  t75 := Tryz.underlying355
  a75 := Tryz.isAgg355
  z75 := Tryz.sizeOf355
  v75 := Tryz.zeroValue355
  t76 := Tryz.underlying389
  a76 := Tryz.isAgg389
  z76 := Tryz.sizeOf389
  v76 := Tryz.zeroValue389
  t105 := Tryz.underlying416
  a105 := Tryz.isAgg416
  z105 := Tryz.sizeOf416
  v105 := Tryz.zeroValue416
  t107 := Tryz.underlying393
  a107 := Tryz.isAgg393
  z107 := Tryz.sizeOf393
  v107 := Tryz.zeroValue393
  t119 := Tryz.underlying464
  a119 := Tryz.isAgg464
  z119 := Tryz.sizeOf464
  t127 := Tryz.underlying415
  a127 := Tryz.isAgg415
  z127 := Tryz.sizeOf415
  v127 := Tryz.zeroValue415
  t138 := Tryz.underlying466
  a138 := Tryz.isAgg466
  z138 := Tryz.sizeOf466
  v138 := Tryz.zeroValue466
  t139 := Tryz.underlying467
  a139 := Tryz.isAgg467
  z139 := Tryz.sizeOf467
  v139 := Tryz.zeroValue467
  t160 := Tryz.underlying468
  a160 := Tryz.isAgg468
  z160 := Tryz.sizeOf468
  v160 := Tryz.zeroValue468
  t162 := Tryz.underlying447
  a162 := Tryz.isAgg447
  z162 := Tryz.sizeOf447
  v162 := Tryz.zeroValue447
  t164 := Tryz.underlying442
  a164 := Tryz.isAgg442
  z164 := Tryz.sizeOf442
  v164 := Tryz.zeroValue442
  t203 := Tryz.underlying445
  a203 := Tryz.isAgg445
  z203 := Tryz.sizeOf445
  v203 := Tryz.zeroValue445
  t206 := Tryz.underlying481
  a206 := Tryz.isAgg481
  z206 := Tryz.sizeOf481
  v206 := Tryz.zeroValue481
  t208 := Tryz.underlying483
  a208 := Tryz.isAgg483
  z208 := Tryz.sizeOf483
  v208 := Tryz.zeroValue483
  g3 := by kernel_rfl
  g4 := by kernel_rfl
  g13 := by kernel_rfl }
theorem Tryz.Builder_Extra_158 : Builder.Extra Tryz.prog Tryz.lays158_ren := {
  sizeBuilder := by kernel_rfl
  liesBuilder := by kernel_rfl
  t5 := Tryz.underlying5
  a5 := Tryz.isAgg5
  z5 := Tryz.sizeOf5
  v5 := Tryz.zeroValue5
  infoByte := by kernel_rfl
  cellsByte := by kernel_rfl
  sizeByte := by kernel_rfl
  neB5 := by decide }
open Go.RowKit in
/-- strings.ToUpper: "ToUpper returns s with all Unicode letters mapped to their upper case.": ON ASCII TEXT OF AT MOST 2^47 BYTES. Below the heap's end the world is as it was: where a letter turns, the call makes a builder and its buffer. (LAID: no walk: one application.) -/
theorem Tryz.strings_ToUpper_ascii (s : ByteArray) (w : World) (hs : s.size ≤ 140737488355328) (hascii : ∀ (j : Nat) (b : UInt8), s.data.toList[j]? = some b → b.toNat < 128) :
    Calls Tryz.prog 234 #[.string s] w fun e w' => e = .returned (.string ⟨(Lib.toUpperA s.data.toList).toArray⟩) ∧ Below w.heap.size w w' := Any.strings_ToUpper_ascii Tryz.lays158 Tryz.Builder_Extra_158 s w hs hascii
def Tryz.lays106_ren : Go.Shelf.Ren := ⟨fun | 106 => 247 | 213 => 280 | 265 => 314 | n => n, fun | 9 => 9 | 3 => 3 | n => n, fun | n => n⟩
theorem Tryz.lays106 : Go.Proofs.Lays.n106 Tryz.prog Tryz.lays106_ren := {
  mixed := by kernel_rfl
  f106 := Tryz.func247.trans (congrArg some (by kernel_rfl))
  f213 := Tryz.func280.trans (congrArg some (by kernel_rfl))
  f265 := Tryz.func314.trans (congrArg some (by kernel_rfl))
  t3 := Tryz.underlying3
  a3 := Tryz.isAgg3
  z3 := Tryz.sizeOf3
  v3 := Tryz.zeroValue3
  t9 := Tryz.underlying9
  a9 := Tryz.isAgg9
  z9 := Tryz.sizeOf9
  v9 := Tryz.zeroValue9 }
open Go.RowKit in
/-- strings.Compare: "Compare returns an integer comparing two strings lexicographically. The result will be 0 if a == b, -1 if a < b, and +1 if a > b.": IT RETURNS 'Lib.compareBytes a b'; the world is as it was. (LAID: no walk: one application.) -/
theorem Tryz.strings_Compare (a b : ByteArray) (w : World) :
    Calls Tryz.prog 247 #[.string a, .string b] w fun e w' => e = .returned (.int .i64 (Lib.compareBytes a.data.toList b.data.toList)) ∧ w' = w := Any.strings_Compare Tryz.lays106 a b w
end Go.Proofs
