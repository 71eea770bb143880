/-
  A part of the proof of ClientTells (the machine on named data, and the contracts of the functions that the law reaches): YteoindgcjoldhaaGreatDoorShelf.
-/
import Derived.Shelf.Strings.Builder1
import Derived.Shelf.Strings.Builder2
import Derived.Shelf.Strings.OnBuilder
import Derived.Test.YteoindgcjoldhaaGreatDoorProg
set_option linter.all false
set_option linter.unusedVariables false
set_option linter.unusedSimpArgs false
set_option linter.unusedSectionVars false
/-
  DERIVED: THE SHELF's CONTRACTS AT THIS DUMP, IN PLAIN WORDS (tools/lay-plain.mjs out of 'TryzShelf.lean', which tools/lay-shelf.mjs wrote): THE SAME DECLARATIONS UNDER THE SAME NAMES: 'import', 'namespace', 'open', 'def', 'theorem' AND NOTHING ELSE: no command of the shelf's: FOR A HAND-IN. Each laying: the table of numbers ('.._ren') and one theorem, a field a fact of the dump's own or the kernel's comparison; each contract: ONE APPLICATION.
-/
namespace Go.Proofs
open Go.Shelf
def Tryz.lays158_ren : Go.Shelf.Ren := ⟨fun | 158 => 153 | 165 => 189 | 166 => 190 | 167 => 191 | 169 => 192 | 230 => 193 | 203 => 194 | 240 => 224 | 241 => 225 | 197 => 226 | 118 => 227 | 168 => 228 | 270 => 229 | 262 => 230 | 276 => 255 | 277 => 256 | 260 => 257 | 242 => 258 | 313 => 259 | 278 => 266 | 274 => 267 | 275 => 268 | n => n, fun | 9 => 9 | 4 => 4 | 3 => 3 | 5 => 5 | 72 => 276 | 0 => 0 | 76 => 279 | 75 => 278 | 107 => 283 | 70 => 274 | 20 => 20 | 37 => 42 | 127 => 314 | 21 => 21 | 105 => 315 | 164 => 340 | 162 => 345 | 203 => 343 | 119 => 352 | 46 => 52 | 139 => 355 | 138 => 354 | 51 => 22 | 160 => 356 | 208 => 363 | 206 => 361 | 80 => 197 | n => n, fun | 13 => 4 | 3 => 5 | 4 => 6 | n => n⟩
theorem Tryz.lays158 : Go.Proofs.Lays.n158 Tryz.prog Tryz.lays158_ren := {
  mixed := by kernel_rfl
  f118 := Tryz.func227.trans (congrArg some (by kernel_rfl))
  f158 := Tryz.func153.trans (congrArg some (by kernel_rfl))
  f165 := Tryz.func189.trans (congrArg some (by kernel_rfl))
  f166 := Tryz.func190.trans (congrArg some (by kernel_rfl))
  f167 := Tryz.func191.trans (congrArg some (by kernel_rfl))
  f168 := Tryz.func228.trans (congrArg some (by kernel_rfl))
  f169 := Tryz.func192.trans (congrArg some (by kernel_rfl))
  f197 := Tryz.func226.trans (congrArg some (by kernel_rfl))
  f203 := Tryz.func194.trans (congrArg some (by kernel_rfl))
  f230 := Tryz.func193.trans (congrArg some (by kernel_rfl))
  f240 := Tryz.func224.trans (congrArg some (by kernel_rfl))
  f241 := Tryz.func225.trans (congrArg some (by kernel_rfl))
  f242 := Tryz.func258.trans (congrArg some (by kernel_rfl))
  f260 := Tryz.func257.trans (congrArg some (by kernel_rfl))
  f262 := Tryz.func230.trans (congrArg some (by kernel_rfl))
  f270 := Tryz.func229.trans (congrArg some (by kernel_rfl))
  f274 := Tryz.func267.trans (congrArg some (by kernel_rfl))
  f275 := Tryz.func268.trans (congrArg some (by kernel_rfl))
  f276 := Tryz.func255.trans (congrArg some (by kernel_rfl))
  f277 := Tryz.func256.trans (congrArg some (by kernel_rfl))
  f278 := Tryz.func266.trans (congrArg some (by kernel_rfl))
  f313 := Tryz.func259.trans (congrArg some (by kernel_rfl))
  t0 := Tryz.underlying0
  a0 := Tryz.isAgg0
  z0 := Tryz.sizeOf0
  v0 := Tryz.zeroValue0
  t3 := Tryz.underlying3
  a3 := Tryz.isAgg3
  z3 := Tryz.sizeOf3
  v3 := Tryz.zeroValue3
  t4 := Tryz.underlying4
  a4 := Tryz.isAgg4
  z4 := Tryz.sizeOf4
  v4 := Tryz.zeroValue4
  t5 := Tryz.underlying5
  a5 := Tryz.isAgg5
  z5 := Tryz.sizeOf5
  v5 := Tryz.zeroValue5
  t9 := Tryz.underlying9
  a9 := Tryz.isAgg9
  z9 := Tryz.sizeOf9
  v9 := Tryz.zeroValue9
  t20 := Tryz.underlying20
  a20 := Tryz.isAgg20
  z20 := Tryz.sizeOf20
  v20 := Tryz.zeroValue20
  t21 := Tryz.underlying21
  a21 := Tryz.isAgg21
  z21 := Tryz.sizeOf21
  v21 := Tryz.zeroValue21
  t37 := Tryz.underlying42
  a37 := Tryz.isAgg42
  z37 := Tryz.sizeOf42
  v37 := Tryz.zeroValue42
  t46 := Tryz.underlying52
  a46 := Tryz.isAgg52
  z46 := Tryz.sizeOf52
  v46 := Tryz.zeroValue52
  t51 := Tryz.underlying22
  a51 := Tryz.isAgg22
  z51 := Tryz.sizeOf22
  v51 := Tryz.zeroValue22
  t70 := Tryz.underlying274
  a70 := Tryz.isAgg274
  z70 := Tryz.sizeOf274
  v70 := Tryz.zeroValue274
  t72 := Tryz.underlying276
  a72 := Tryz.isAgg276
  z72 := Tryz.sizeOf276
  v72 := Tryz.zeroValue276
  t75 := Tryz.underlying278
  a75 := Tryz.isAgg278
  z75 := Tryz.sizeOf278
  v75 := Tryz.zeroValue278
  t76 := Tryz.underlying279
  a76 := Tryz.isAgg279
  z76 := Tryz.sizeOf279
  v76 := Tryz.zeroValue279
  t105 := Tryz.underlying315
  a105 := Tryz.isAgg315
  z105 := Tryz.sizeOf315
  v105 := Tryz.zeroValue315
  t107 := Tryz.underlying283
  a107 := Tryz.isAgg283
  z107 := Tryz.sizeOf283
  v107 := Tryz.zeroValue283
  t119 := Tryz.underlying352
  a119 := Tryz.isAgg352
  z119 := Tryz.sizeOf352
  t127 := Tryz.underlying314
  a127 := Tryz.isAgg314
  z127 := Tryz.sizeOf314
  v127 := Tryz.zeroValue314
  t138 := Tryz.underlying354
  a138 := Tryz.isAgg354
  z138 := Tryz.sizeOf354
  v138 := Tryz.zeroValue354
  t139 := Tryz.underlying355
  a139 := Tryz.isAgg355
  z139 := Tryz.sizeOf355
  v139 := Tryz.zeroValue355
  t160 := Tryz.underlying356
  a160 := Tryz.isAgg356
  z160 := Tryz.sizeOf356
  v160 := Tryz.zeroValue356
  t162 := Tryz.underlying345
  a162 := Tryz.isAgg345
  z162 := Tryz.sizeOf345
  v162 := Tryz.zeroValue345
  t164 := Tryz.underlying340
  a164 := Tryz.isAgg340
  z164 := Tryz.sizeOf340
  v164 := Tryz.zeroValue340
  t203 := Tryz.underlying343
  a203 := Tryz.isAgg343
  z203 := Tryz.sizeOf343
  v203 := Tryz.zeroValue343
  t206 := Tryz.underlying361
  a206 := Tryz.isAgg361
  z206 := Tryz.sizeOf361
  v206 := Tryz.zeroValue361
  t208 := Tryz.underlying363
  a208 := Tryz.isAgg363
  z208 := Tryz.sizeOf363
  v208 := Tryz.zeroValue363
  g3 := by kernel_rfl
  g4 := by kernel_rfl
  g13 := by kernel_rfl }
theorem Tryz.Builder_Extra_158 : Builder.Extra Tryz.prog Tryz.lays158_ren := {
  sizeBuilder := by kernel_rfl
  liesBuilder := by kernel_rfl
  t5 := Tryz.underlying5
  a5 := Tryz.isAgg5
  z5 := Tryz.sizeOf5
  v5 := Tryz.zeroValue5
  infoByte := by kernel_rfl
  cellsByte := by kernel_rfl
  sizeByte := by kernel_rfl
  neB5 := by decide }
open Go.RowKit in
/-- strings.ToUpper: "ToUpper returns s with all Unicode letters mapped to their upper case.": ON ASCII TEXT OF AT MOST 2^47 BYTES. Below the heap's end the world is as it was: where a letter turns, the call makes a builder and its buffer. (LAID: no walk: one application.) -/
theorem Tryz.strings_ToUpper_ascii (s : ByteArray) (w : World) (hs : s.size ≤ 140737488355328) (hascii : ∀ (j : Nat) (b : UInt8), s.data.toList[j]? = some b → b.toNat < 128) :
    Calls Tryz.prog 153 #[.string s] w fun e w' => e = .returned (.string ⟨(Lib.toUpperA s.data.toList).toArray⟩) ∧ Below w.heap.size w w' := Any.strings_ToUpper_ascii Tryz.lays158 Tryz.Builder_Extra_158 s w hs hascii
end Go.Proofs
