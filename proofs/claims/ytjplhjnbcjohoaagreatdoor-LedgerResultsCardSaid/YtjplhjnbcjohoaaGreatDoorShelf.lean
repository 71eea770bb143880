/-
  A part of the proof of LedgerResults (the machine on named data, and the contracts of the functions that the law reaches): YtjplhjnbcjohoaaGreatDoorShelf.
-/
import Derived.Shelf.Strings.Builder1
import Derived.Shelf.Strings.Builder2
import Derived.Shelf.Strings.OnBuilder
import Derived.Shelf.Small.Strs
import Derived.Test.YtjplhjnbcjohoaaGreatDoorProg
set_option linter.all false
set_option linter.unusedVariables false
set_option linter.unusedSimpArgs false
set_option linter.unusedSectionVars false
/-
  DERIVED: THE SHELF's CONTRACTS AT THIS DUMP, IN PLAIN WORDS (tools/lay-plain.mjs out of 'YtjplhjnbcjohoaaGreatDoorShelf.lean', which tools/lay-shelf.mjs wrote): THE SAME DECLARATIONS UNDER THE SAME NAMES: 'import', 'namespace', 'open', 'def', 'theorem' AND NOTHING ELSE: no command of the shelf's: FOR A HAND-IN. Each laying: the table of numbers ('.._ren') and one theorem, a field a fact of the dump's own or the kernel's comparison; each contract: ONE APPLICATION.
-/
namespace Go.Proofs
open Go.Shelf
def Tryz.lays158_ren : Go.Shelf.Ren := ⟨fun | 158 => 236 | 165 => 269 | 166 => 270 | 167 => 271 | 169 => 272 | 230 => 273 | 203 => 274 | 240 => 302 | 241 => 303 | 197 => 304 | 118 => 305 | 168 => 306 | 270 => 307 | 262 => 308 | 276 => 330 | 277 => 331 | 260 => 332 | 242 => 333 | 313 => 334 | 278 => 351 | 274 => 352 | 275 => 353 | n => n, fun | 9 => 9 | 4 => 4 | 3 => 3 | 5 => 5 | 72 => 374 | 0 => 0 | 76 => 376 | 75 => 343 | 107 => 380 | 70 => 372 | 20 => 20 | 37 => 26 | 127 => 402 | 21 => 21 | 105 => 403 | 164 => 428 | 162 => 433 | 203 => 431 | 119 => 450 | 46 => 193 | 139 => 453 | 138 => 452 | 51 => 41 | 160 => 454 | 208 => 468 | 206 => 466 | 80 => 222 | n => n, fun | 13 => 5 | 3 => 9 | 4 => 10 | n => n⟩
theorem Tryz.lays158 : Go.Proofs.Lays.n158 Tryz.prog Tryz.lays158_ren := {
  mixed := by kernel_rfl
  f118 := Tryz.func305.trans (congrArg some (by kernel_rfl))
  f158 := Tryz.func236.trans (congrArg some (by kernel_rfl))
  f165 := Tryz.func269.trans (congrArg some (by kernel_rfl))
  f166 := Tryz.func270.trans (congrArg some (by kernel_rfl))
  f167 := Tryz.func271.trans (congrArg some (by kernel_rfl))
  f168 := Tryz.func306.trans (congrArg some (by kernel_rfl))
  f169 := Tryz.func272.trans (congrArg some (by kernel_rfl))
  f197 := Tryz.func304.trans (congrArg some (by kernel_rfl))
  f203 := Tryz.func274.trans (congrArg some (by kernel_rfl))
  f230 := Tryz.func273.trans (congrArg some (by kernel_rfl))
  f240 := Tryz.func302.trans (congrArg some (by kernel_rfl))
  f241 := Tryz.func303.trans (congrArg some (by kernel_rfl))
  f242 := Tryz.func333.trans (congrArg some (by kernel_rfl))
  f260 := Tryz.func332.trans (congrArg some (by kernel_rfl))
  f262 := Tryz.func308.trans (congrArg some (by kernel_rfl))
  f270 := Tryz.func307.trans (congrArg some (by kernel_rfl))
  f274 := Tryz.func352.trans (congrArg some (by kernel_rfl))
  f275 := Tryz.func353.trans (congrArg some (by kernel_rfl))
  f276 := Tryz.func330.trans (congrArg some (by kernel_rfl))
  f277 := Tryz.func331.trans (congrArg some (by kernel_rfl))
  f278 := Tryz.func351.trans (congrArg some (by kernel_rfl))
  f313 := Tryz.func334.trans (congrArg some (by kernel_rfl))
  t0 := Tryz.underlying0
  a0 := Tryz.isAgg0
  z0 := Tryz.sizeOf0
  v0 := Tryz.zeroValue0
  t3 := Tryz.underlying3
  a3 := Tryz.isAgg3
  z3 := Tryz.sizeOf3
  v3 := Tryz.zeroValue3
  t4 := Tryz.underlying4
  a4 := Tryz.isAgg4
  z4 := Tryz.sizeOf4
  v4 := Tryz.zeroValue4
  t5 := Tryz.underlying5
  a5 := Tryz.isAgg5
  z5 := Tryz.sizeOf5
  v5 := Tryz.zeroValue5
  t9 := Tryz.underlying9
  a9 := Tryz.isAgg9
  z9 := Tryz.sizeOf9
  v9 := Tryz.zeroValue9
  t20 := Tryz.underlying20
  a20 := Tryz.isAgg20
  z20 := Tryz.sizeOf20
  v20 := Tryz.zeroValue20
  t21 := Tryz.underlying21
  a21 := Tryz.isAgg21
  z21 := Tryz.sizeOf21
  v21 := Tryz.zeroValue21
  t37 := Tryz.underlying26
  a37 := Tryz.isAgg26
  z37 := Tryz.sizeOf26
  v37 := Tryz.zeroValue26
  t46 := Tryz.underlying193
  a46 := Tryz.isAgg193
  z46 := Tryz.sizeOf193
  v46 := Tryz.zeroValue193
  t51 := Tryz.underlying41
  a51 := Tryz.isAgg41
  z51 := Tryz.sizeOf41
  v51 := Tryz.zeroValue41
  t70 := Tryz.underlying372
  a70 := Tryz.isAgg372
  z70 := Tryz.sizeOf372
  v70 := Tryz.zeroValue372
  t72 := Tryz.underlying374
  a72 := Tryz.isAgg374
  z72 := Tryz.sizeOf374
  v72 := Tryz.zeroValue374
  t75 := Tryz.underlying343
  a75 := Tryz.isAgg343
  z75 := Tryz.sizeOf343
  v75 := Tryz.zeroValue343
  t76 := Tryz.underlying376
  a76 := Tryz.isAgg376
  z76 := Tryz.sizeOf376
  v76 := Tryz.zeroValue376
  t105 := Tryz.underlying403
  a105 := Tryz.isAgg403
  z105 := Tryz.sizeOf403
  v105 := Tryz.zeroValue403
  t107 := Tryz.underlying380
  a107 := Tryz.isAgg380
  z107 := Tryz.sizeOf380
  v107 := Tryz.zeroValue380
  t119 := Tryz.underlying450
  a119 := Tryz.isAgg450
  z119 := Tryz.sizeOf450
  t127 := Tryz.underlying402
  a127 := Tryz.isAgg402
  z127 := Tryz.sizeOf402
  v127 := Tryz.zeroValue402
  t138 := Tryz.underlying452
  a138 := Tryz.isAgg452
  z138 := Tryz.sizeOf452
  v138 := Tryz.zeroValue452
  t139 := Tryz.underlying453
  a139 := Tryz.isAgg453
  z139 := Tryz.sizeOf453
  v139 := Tryz.zeroValue453
  t160 := Tryz.underlying454
  a160 := Tryz.isAgg454
  z160 := Tryz.sizeOf454
  v160 := Tryz.zeroValue454
  t162 := Tryz.underlying433
  a162 := Tryz.isAgg433
  z162 := Tryz.sizeOf433
  v162 := Tryz.zeroValue433
  t164 := Tryz.underlying428
  a164 := Tryz.isAgg428
  z164 := Tryz.sizeOf428
  v164 := Tryz.zeroValue428
  t203 := Tryz.underlying431
  a203 := Tryz.isAgg431
  z203 := Tryz.sizeOf431
  v203 := Tryz.zeroValue431
  t206 := Tryz.underlying466
  a206 := Tryz.isAgg466
  z206 := Tryz.sizeOf466
  v206 := Tryz.zeroValue466
  t208 := Tryz.underlying468
  a208 := Tryz.isAgg468
  z208 := Tryz.sizeOf468
  v208 := Tryz.zeroValue468
  g3 := by kernel_rfl
  g4 := by kernel_rfl
  g13 := by kernel_rfl }
theorem Tryz.Builder_Extra_158 : Builder.Extra Tryz.prog Tryz.lays158_ren := {
  sizeBuilder := by kernel_rfl
  liesBuilder := by kernel_rfl
  t5 := Tryz.underlying5
  a5 := Tryz.isAgg5
  z5 := Tryz.sizeOf5
  v5 := Tryz.zeroValue5
  infoByte := by kernel_rfl
  cellsByte := by kernel_rfl
  sizeByte := by kernel_rfl
  neB5 := by decide }
open Go.RowKit in
/-- strings.ToUpper: "ToUpper returns s with all Unicode letters mapped to their upper case.": ON ASCII TEXT OF AT MOST 2^47 BYTES. Below the heap's end the world is as it was: where a letter turns, the call makes a builder and its buffer. (LAID: no walk: one application.) -/
theorem Tryz.strings_ToUpper_ascii (s : ByteArray) (w : World) (hs : s.size ≤ 140737488355328) (hascii : ∀ (j : Nat) (b : UInt8), s.data.toList[j]? = some b → b.toNat < 128) :
    Calls Tryz.prog 236 #[.string s] w fun e w' => e = .returned (.string ⟨(Lib.toUpperA s.data.toList).toArray⟩) ∧ Below w.heap.size w w' := Any.strings_ToUpper_ascii Tryz.lays158 Tryz.Builder_Extra_158 s w hs hascii
def Tryz.lays106_ren : Go.Shelf.Ren := ⟨fun | 106 => 249 | 213 => 282 | 265 => 316 | n => n, fun | 9 => 9 | 3 => 3 | n => n, fun | n => n⟩
theorem Tryz.lays106 : Go.Proofs.Lays.n106 Tryz.prog Tryz.lays106_ren := {
  mixed := by kernel_rfl
  f106 := Tryz.func249.trans (congrArg some (by kernel_rfl))
  f213 := Tryz.func282.trans (congrArg some (by kernel_rfl))
  f265 := Tryz.func316.trans (congrArg some (by kernel_rfl))
  t3 := Tryz.underlying3
  a3 := Tryz.isAgg3
  z3 := Tryz.sizeOf3
  v3 := Tryz.zeroValue3
  t9 := Tryz.underlying9
  a9 := Tryz.isAgg9
  z9 := Tryz.sizeOf9
  v9 := Tryz.zeroValue9 }
open Go.RowKit in
/-- strings.Compare: "Compare returns an integer comparing two strings lexicographically. The result will be 0 if a == b, -1 if a < b, and +1 if a > b.": IT RETURNS 'Lib.compareBytes a b'; the world is as it was. (LAID: no walk: one application.) -/
theorem Tryz.strings_Compare (a b : ByteArray) (w : World) :
    Calls Tryz.prog 249 #[.string a, .string b] w fun e w' => e = .returned (.int .i64 (Lib.compareBytes a.data.toList b.data.toList)) ∧ w' = w := Any.strings_Compare Tryz.lays106 a b w
end Go.Proofs
