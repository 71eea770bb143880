/-
  A part of the proof of LedgerTxs (the machine on named data, and the contracts of the functions that the law reaches): YtlhdmgmjpnocjaaGreatDoorShelf.
-/
import Derived.Shelf.Strings.Builder1
import Derived.Shelf.Strings.Builder2
import Derived.Shelf.Strings.OnBuilder
import Derived.Shelf.Small.Strs
import Derived.Test.YtlhdmgmjpnocjaaGreatDoorProg
set_option linter.all false
set_option linter.unusedVariables false
set_option linter.unusedSimpArgs false
set_option linter.unusedSectionVars false
/-
  DERIVED: THE SHELF's CONTRACTS AT THIS DUMP, IN PLAIN WORDS (tools/lay-plain.mjs out of 'YtlhdmgmjpnocjaaGreatDoorShelf.lean', which tools/lay-shelf.mjs wrote): THE SAME DECLARATIONS UNDER THE SAME NAMES: 'import', 'namespace', 'open', 'def', 'theorem' AND NOTHING ELSE: no command of the shelf's: FOR A HAND-IN. Each laying: the table of numbers ('.._ren') and one theorem, a field a fact of the dump's own or the kernel's comparison; each contract: ONE APPLICATION.
-/
namespace Go.Proofs
open Go.Shelf
def Tryz.lays158_ren : Go.Shelf.Ren := ⟨fun | 158 => 220 | 165 => 253 | 166 => 254 | 167 => 255 | 169 => 256 | 230 => 257 | 203 => 258 | 240 => 286 | 241 => 287 | 197 => 288 | 118 => 289 | 168 => 290 | 270 => 291 | 262 => 292 | 276 => 314 | 277 => 315 | 260 => 316 | 242 => 317 | 313 => 318 | 278 => 335 | 274 => 336 | 275 => 337 | n => n, fun | 9 => 9 | 4 => 4 | 3 => 3 | 5 => 5 | 72 => 358 | 0 => 0 | 76 => 360 | 75 => 326 | 107 => 364 | 70 => 356 | 20 => 20 | 37 => 25 | 127 => 386 | 21 => 21 | 105 => 387 | 164 => 413 | 162 => 418 | 203 => 416 | 119 => 435 | 46 => 138 | 139 => 438 | 138 => 437 | 51 => 22 | 160 => 439 | 208 => 454 | 206 => 452 | 80 => 203 | n => n, fun | 13 => 5 | 3 => 9 | 4 => 10 | n => n⟩
theorem Tryz.lays158 : Go.Proofs.Lays.n158 Tryz.prog Tryz.lays158_ren := {
  mixed := by kernel_rfl
  f118 := Tryz.func289.trans (congrArg some (by kernel_rfl))
  f158 := Tryz.func220.trans (congrArg some (by kernel_rfl))
  f165 := Tryz.func253.trans (congrArg some (by kernel_rfl))
  f166 := Tryz.func254.trans (congrArg some (by kernel_rfl))
  f167 := Tryz.func255.trans (congrArg some (by kernel_rfl))
  f168 := Tryz.func290.trans (congrArg some (by kernel_rfl))
  f169 := Tryz.func256.trans (congrArg some (by kernel_rfl))
  f197 := Tryz.func288.trans (congrArg some (by kernel_rfl))
  f203 := Tryz.func258.trans (congrArg some (by kernel_rfl))
  f230 := Tryz.func257.trans (congrArg some (by kernel_rfl))
  f240 := Tryz.func286.trans (congrArg some (by kernel_rfl))
  f241 := Tryz.func287.trans (congrArg some (by kernel_rfl))
  f242 := Tryz.func317.trans (congrArg some (by kernel_rfl))
  f260 := Tryz.func316.trans (congrArg some (by kernel_rfl))
  f262 := Tryz.func292.trans (congrArg some (by kernel_rfl))
  f270 := Tryz.func291.trans (congrArg some (by kernel_rfl))
  f274 := Tryz.func336.trans (congrArg some (by kernel_rfl))
  f275 := Tryz.func337.trans (congrArg some (by kernel_rfl))
  f276 := Tryz.func314.trans (congrArg some (by kernel_rfl))
  f277 := Tryz.func315.trans (congrArg some (by kernel_rfl))
  f278 := Tryz.func335.trans (congrArg some (by kernel_rfl))
  f313 := Tryz.func318.trans (congrArg some (by kernel_rfl))
  t0 := Tryz.underlying0
  a0 := Tryz.isAgg0
  z0 := Tryz.sizeOf0
  v0 := Tryz.zeroValue0
  t3 := Tryz.underlying3
  a3 := Tryz.isAgg3
  z3 := Tryz.sizeOf3
  v3 := Tryz.zeroValue3
  t4 := Tryz.underlying4
  a4 := Tryz.isAgg4
  z4 := Tryz.sizeOf4
  v4 := Tryz.zeroValue4
  t5 := Tryz.underlying5
  a5 := Tryz.isAgg5
  z5 := Tryz.sizeOf5
  v5 := Tryz.zeroValue5
  t9 := Tryz.underlying9
  a9 := Tryz.isAgg9
  z9 := Tryz.sizeOf9
  v9 := Tryz.zeroValue9
  t20 := Tryz.underlying20
  a20 := Tryz.isAgg20
  z20 := Tryz.sizeOf20
  v20 := Tryz.zeroValue20
  t21 := Tryz.underlying21
  a21 := Tryz.isAgg21
  z21 := Tryz.sizeOf21
  v21 := Tryz.zeroValue21
  t37 := Tryz.underlying25
  a37 := Tryz.isAgg25
  z37 := Tryz.sizeOf25
  v37 := Tryz.zeroValue25
  t46 := Tryz.underlying138
  a46 := Tryz.isAgg138
  z46 := Tryz.sizeOf138
  v46 := Tryz.zeroValue138
  t51 := Tryz.underlying22
  a51 := Tryz.isAgg22
  z51 := Tryz.sizeOf22
  v51 := Tryz.zeroValue22
  t70 := Tryz.underlying356
  a70 := Tryz.isAgg356
  z70 := Tryz.sizeOf356
  v70 := Tryz.zeroValue356
  t72 := Tryz.underlying358
  a72 := Tryz.isAgg358
  z72 := Tryz.sizeOf358
  v72 := Tryz.zeroValue358
  t75 := Tryz.underlying326
  a75 := Tryz.isAgg326
  z75 := Tryz.sizeOf326
  v75 := Tryz.zeroValue326
  t76 := Tryz.underlying360
  a76 := Tryz.isAgg360
  z76 := Tryz.sizeOf360
  v76 := Tryz.zeroValue360
  t105 := Tryz.underlying387
  a105 := Tryz.isAgg387
  z105 := Tryz.sizeOf387
  v105 := Tryz.zeroValue387
  t107 := Tryz.underlying364
  a107 := Tryz.isAgg364
  z107 := Tryz.sizeOf364
  v107 := Tryz.zeroValue364
  t119 := Tryz.underlying435
  a119 := Tryz.isAgg435
  z119 := Tryz.sizeOf435
  t127 := Tryz.underlying386
  a127 := Tryz.isAgg386
  z127 := Tryz.sizeOf386
  v127 := Tryz.zeroValue386
  t138 := Tryz.underlying437
  a138 := Tryz.isAgg437
  z138 := Tryz.sizeOf437
  v138 := Tryz.zeroValue437
  t139 := Tryz.underlying438
  a139 := Tryz.isAgg438
  z139 := Tryz.sizeOf438
  v139 := Tryz.zeroValue438
  t160 := Tryz.underlying439
  a160 := Tryz.isAgg439
  z160 := Tryz.sizeOf439
  v160 := Tryz.zeroValue439
  t162 := Tryz.underlying418
  a162 := Tryz.isAgg418
  z162 := Tryz.sizeOf418
  v162 := Tryz.zeroValue418
  t164 := Tryz.underlying413
  a164 := Tryz.isAgg413
  z164 := Tryz.sizeOf413
  v164 := Tryz.zeroValue413
  t203 := Tryz.underlying416
  a203 := Tryz.isAgg416
  z203 := Tryz.sizeOf416
  v203 := Tryz.zeroValue416
  t206 := Tryz.underlying452
  a206 := Tryz.isAgg452
  z206 := Tryz.sizeOf452
  v206 := Tryz.zeroValue452
  t208 := Tryz.underlying454
  a208 := Tryz.isAgg454
  z208 := Tryz.sizeOf454
  v208 := Tryz.zeroValue454
  g3 := by kernel_rfl
  g4 := by kernel_rfl
  g13 := by kernel_rfl }
theorem Tryz.Builder_Extra_158 : Builder.Extra Tryz.prog Tryz.lays158_ren := {
  sizeBuilder := by kernel_rfl
  liesBuilder := by kernel_rfl
  t5 := Tryz.underlying5
  a5 := Tryz.isAgg5
  z5 := Tryz.sizeOf5
  v5 := Tryz.zeroValue5
  infoByte := by kernel_rfl
  cellsByte := by kernel_rfl
  sizeByte := by kernel_rfl
  neB5 := by decide }
open Go.RowKit in
/-- strings.ToUpper: "ToUpper returns s with all Unicode letters mapped to their upper case.": ON ASCII TEXT OF AT MOST 2^47 BYTES. Below the heap's end the world is as it was: where a letter turns, the call makes a builder and its buffer. (LAID: no walk: one application.) -/
theorem Tryz.strings_ToUpper_ascii (s : ByteArray) (w : World) (hs : s.size ≤ 140737488355328) (hascii : ∀ (j : Nat) (b : UInt8), s.data.toList[j]? = some b → b.toNat < 128) :
    Calls Tryz.prog 220 #[.string s] w fun e w' => e = .returned (.string ⟨(Lib.toUpperA s.data.toList).toArray⟩) ∧ Below w.heap.size w w' := Any.strings_ToUpper_ascii Tryz.lays158 Tryz.Builder_Extra_158 s w hs hascii
def Tryz.lays106_ren : Go.Shelf.Ren := ⟨fun | 106 => 233 | 213 => 266 | 265 => 300 | n => n, fun | 9 => 9 | 3 => 3 | n => n, fun | n => n⟩
theorem Tryz.lays106 : Go.Proofs.Lays.n106 Tryz.prog Tryz.lays106_ren := {
  mixed := by kernel_rfl
  f106 := Tryz.func233.trans (congrArg some (by kernel_rfl))
  f213 := Tryz.func266.trans (congrArg some (by kernel_rfl))
  f265 := Tryz.func300.trans (congrArg some (by kernel_rfl))
  t3 := Tryz.underlying3
  a3 := Tryz.isAgg3
  z3 := Tryz.sizeOf3
  v3 := Tryz.zeroValue3
  t9 := Tryz.underlying9
  a9 := Tryz.isAgg9
  z9 := Tryz.sizeOf9
  v9 := Tryz.zeroValue9 }
open Go.RowKit in
/-- strings.Compare: "Compare returns an integer comparing two strings lexicographically. The result will be 0 if a == b, -1 if a < b, and +1 if a > b.": IT RETURNS 'Lib.compareBytes a b'; the world is as it was. (LAID: no walk: one application.) -/
theorem Tryz.strings_Compare (a b : ByteArray) (w : World) :
    Calls Tryz.prog 233 #[.string a, .string b] w fun e w' => e = .returned (.int .i64 (Lib.compareBytes a.data.toList b.data.toList)) ∧ w' = w := Any.strings_Compare Tryz.lays106 a b w
end Go.Proofs
