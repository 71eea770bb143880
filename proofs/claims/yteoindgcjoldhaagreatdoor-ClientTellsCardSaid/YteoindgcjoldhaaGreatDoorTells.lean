/-
  ClientTells holds for every input: the tied card of the law tallyhouselaw22.ClientTells. Conditions: those that the given row lists (the package-level variables hold what the program text lays; blake.start, blake.orders, blake.fours are read), and none besides.
-/
import Derived.Test.YteoindgcjoldhaaGreatDoorCards
import Derived.Test.YteoindgcjoldhaaGreatDoorTie
import Derived.ProofKit
import Derived.OpenShut
import Derived.LaidMore
import Derived.Lay
import Derived.SevenTiedAt
import Derived.Stop.Joined
import Derived.Carry
import Derived.Test.YteoindgcjoldhaaGreatDoorKi
import Derived.Test.YteoindgcjoldhaaGreatDoorAmH
set_option linter.all false
set_option linter.unusedVariables false
set_option linter.unusedSimpArgs false
set_option linter.unusedSectionVars false
namespace Go.Proofs.YteoindgcjoldhaaGreatDoor
open Go Go.AM Go.ChangeShapes Go.WideShapes Go.ChangeAt Go.RowKit
theorem ownT : ownKnob Tryz.prog.godebug = none := by kernel_rfl
theorem gName0 : Tryz.prog.globalNamed "tallyhouse/blake.start" = some 0 := by kernel_rfl
theorem gName2 : Tryz.prog.globalNamed "tallyhouse/blake.orders" = some 2 := by kernel_rfl
theorem gName3 : Tryz.prog.globalNamed "tallyhouse/blake.fours" = some 3 := by kernel_rfl
noncomputable def unSc : AV → Value
  | .sc v => v
  | _ => undef
theorem unSc_map {l : List AV} (h : l.all isSc = true) : l = (l.map unSc).map .sc := by
  rw [List.map_map]
  refine (List.map_id' l).symm.trans (List.map_congr_left fun a ha => ?_)
  have := List.all_eq_true.1 h a ha
  cases a <;> first | rfl | (simp [isSc] at this)
theorem lit0 : litCells (Rows.laid_tallyhouse_blake_start (H := Unit)) = some (gStart.map unSc) := by kernel_rfl
theorem lit2 : litCells (Rows.laid_tallyhouse_blake_orders (H := Unit)) = some (gOrders.map unSc) := by kernel_rfl
theorem lit3 : litCells (Rows.laid_tallyhouse_blake_fours (H := Unit)) = some (gFours.map unSc) := by kernel_rfl
theorem gType0 : (Tryz.prog.globals[0]?).map (fun g => arrT Tryz.prog 5 g.type) = some true := by kernel_rfl
theorem gType2 : (Tryz.prog.globals[2]?).map (fun g => arrT Tryz.prog 5 g.type) = some true := by kernel_rfl
theorem gType3 : (Tryz.prog.globals[3]?).map (fun g => arrT Tryz.prog 5 g.type) = some true := by kernel_rfl
theorem arr_of {g : Nat} {t : TypeId} (h : (Tryz.prog.globals[g]?).map (fun g => arrT Tryz.prog 5 g.type) = some true) (ht : (Tryz.prog.globals[g]?).map (·.type) = some t) : arrT Tryz.prog 5 t = true := by
  cases hg : Tryz.prog.globals[g]? with
  | none => rw [hg] at ht; cases ht
  | some x =>
    rw [hg] at h ht
    simp only [Option.map_some, Option.some.injEq] at h ht
    rw [← ht]
    exact h
set_option maxRecDepth 100000 in
/-- What the row lists is what the machine wants of memory. -/
theorem glob_laid {W : World} (h : laidMetH Tryz.prog Rows.clientTellsRow.laid W) : GlobOK G fun b => W.heap[b]? := by
  rw [MakeChecks.laidMetH_plain _ _ _ (by kernel_rfl)] at h
  obtain ⟨ps, ⟨_, _, _, _, _, _, _, _, _, _, ⟨g0, t0, c0, f0, p0, q0, a0, b0, v0, d0, ⟨g2, t2, c2, f2, p2, q2, a2, b2, v2, d2, ⟨g3, t3, c3, f3, p3, q3, a3, b3, v3, d3, _, _⟩, _⟩, _⟩, _⟩, _, _⟩ := h
  obtain rfl := Option.some.inj (gName0.symm.trans a0)
  obtain rfl := Option.some.inj (gName2.symm.trans a2)
  obtain rfl := Option.some.inj (gName3.symm.trans a3)
  intro g cs hg
  rcases g with _ | _ | _ | _ | n
  · rw [← Option.some.inj (G0.symm.trans hg)]
    exact glob_read 5 gName0 v0 d0 (arr_of gType0 b0) lit0 (unSc_map scStart)
  · exact absurd (G1.symm.trans hg) (by simp)
  · rw [← Option.some.inj (G2.symm.trans hg)]
    exact glob_read 5 gName2 v2 d2 (arr_of gType2 b2) lit2 (unSc_map scOrders)
  · rw [← Option.some.inj (G3.symm.trans hg)]
    exact glob_read 5 gName3 v3 d3 (arr_of gType3 b3) lit3 (unSc_map scFours)
  · exact absurd ((G4 n).symm.trans hg) (by simp)
set_option maxRecDepth 100000 in
theorem slice_val {W : World} {r : Reach} {b : Nat} {t e : TypeId} {v : Value} (ht : Tryz.prog.underlying t = some (.slice e)) (h : Value.okWide Tryz.prog W r b t v) : ∃ a l c, v = .slice a l c := by
  unfold Value.okWide at h
  rw [ht] at h
  unfold Cell.okWide at h
  rw [ht] at h
  cases v <;> first | exact ⟨_, _, _, rfl⟩ | (simp [Cell.ok, ht] at h)
set_option maxRecDepth 100000 in
theorem one_arg {H : Type} {enc : TypeId × Value → H} {W : World} {r : Reach} {b : Nat} {t e : TypeId} {v : Value} {d : DataW H} {ps : List MemPlace} {ty : Ty} (ht : Tryz.prog.underlying t = some (.slice e)) (hv : Value.okWide Tryz.prog W r b t v) (hf : flat Tryz.prog 12 t = some [ty])
    (h : DataW.Trod enc Tryz.prog W 0 (fun _ => true) true t v d ps) : ∃ x, RepOne (memE W) (.one ty) [x] v := by
  obtain ⟨a, l, c, rfl⟩ := slice_val ht hv
  obtain ⟨fuel, h⟩ := h
  obtain ⟨ds, hd⟩ := read_sound 12 t [ty] hf fuel _ _ h
  simp only [RepV] at hd
  obtain ⟨x, ds', v', vs', rfl, e1, h1, rfl, rfl⟩ := hd
  have : Value.cells (.slice a l c) = #[.slice a l c] := rfl
  rw [this] at e1
  cases e1
  exact ⟨x, x, rfl, h1⟩
set_option maxRecDepth 100000 in
theorem flat68 : flat Tryz.prog 12 68 = some [.slice tCli] := by kernel_rfl
theorem flat69 : flat Tryz.prog 12 69 = some [.slice [tI]] := by kernel_rfl
theorem flat70 : flat Tryz.prog 12 70 = some [.slice [tU64]] := by kernel_rfl
/-- The memory that was there is as it was. -/
theorem below_of {W W' : World} {E E' : Nat → Option Obj} (h : Grows E E' W W') (hs : W.heap.size ≤ W'.heap.size) : Below W.heap.size W { W' with tape := W.tape } :=
  ⟨congrArg Prod.fst h.io, rfl, congrArg Prod.snd h.io, hs, h.old⟩
theorem size_of {W W' : World} (h : ∀ b, b < W.heap.size → W'.heap[b]? = W.heap[b]?) : W.heap.size ≤ W'.heap.size := by
  by_cases h0 : W.heap.size = 0
  · omega
  · have h1 := h (W.heap.size - 1) (by omega)
    have h2 : W.heap[W.heap.size - 1]? = some (W.heap[W.heap.size - 1]'(by omega)) := Array.getElem?_eq_getElem (by omega)
    rw [h2] at h1
    have := (Array.getElem?_eq_some_iff.1 h1).1
    omega
set_option maxRecDepth 100000 in
/-- THE CONTRACT, in the form's words. -/
theorem contract (H : Type) (enc : TypeId × Value → H) (W : World) (base : Nat) (args : Array Value) (ds gs : List (DataW H)) (before : List MemPlace)
    (hval : ∀ (j : Nat) t v, Tryz.f5.params[j]? = some t → args[j]? = some v → Value.okWide Tryz.prog W .any base t v)
    (hW : DataW.Whole enc Tryz.prog Tryz.f5.params.toList Rows.clientTellsSpec.vars false W args.toList ds gs before) (hL : laidMetH Tryz.prog Rows.clientTellsRow.laid W) :
    Calls Tryz.prog 5 args W fun e W' => ∃ v, e = .returned v ∧ Rows.clientTellsSpec.post enc Tryz.prog Tryz.f5 false true false false W args v W' := by
  have hW' := hW
  obtain ⟨p, q, hA0, hV, rfl, _, _⟩ := hW
  have hA : DataW.TrodAll enc Tryz.prog W 0 (fun _ => true) true Tryz.f5.params.toList args.toList ds p := hA0
  rw [Tryz.params5] at hA hval
  obtain ⟨v0, vs0, d0, ds0, p0, q0, hargs, rfl, rfl, h0, r0⟩ := trodAll_cons hA
  obtain ⟨v1, vs1, d1, ds1, p1, q1, rfl, rfl, rfl, h1, r1⟩ := trodAll_cons r0
  obtain ⟨v2, vs2, d2, ds2, p2, q2, rfl, rfl, rfl, h2, r2⟩ := trodAll_cons r1
  obtain ⟨rfl, rfl, rfl⟩ := trodAll_nil r2
  obtain rfl : args = #[v0, v1, v2] := by apply Array.ext'; simpa using hargs
  obtain ⟨rfl, rfl⟩ := trodVars_none hV
  obtain ⟨x0, a0⟩ := one_arg Tryz.underlying68 (hval 0 68 v0 rfl rfl) flat68 h0
  obtain ⟨x1, a1⟩ := one_arg Tryz.underlying69 (hval 1 69 v1 rfl rfl) flat69 h1
  obtain ⟨x2, a2⟩ := one_arg Tryz.underlying70 (hval 2 70 v2 rfl rfl) flat70 h2
  have hR : RepArgs (memE W) tTells [[x0], [x1], [x2]] (#[v0, v1, v2] : Array Value).toList :=
    ⟨_, _, _, _, rfl, rfl, a0, _, _, _, _, rfl, rfl, a1, _, _, _, _, rfl, rfl, a2, rfl, rfl⟩
  refine (fn5.2 (fun b => W.heap[b]?) _ #[v0, v1, v2] W (fun _ _ h => h) hR trivial (glob_laid hL)).mono ?_
  rintro e W' ⟨v, E', rfl, hg, hr⟩
  obtain ⟨d, e1, x, rfl, e2⟩ := hr
  cases e1
  simp only [Rep] at e2
  obtain ⟨b, e3, rfl⟩ := e2
  cases e3
  have hb := below_of hg (size_of hg.old)
  have hlt : ∀ x ∈ p0 ++ (p1 ++ (p2 ++ [])), x.block < W.heap.size := fun x hx => by
    have := hW'.lt x (by simpa using hx)
    exact this
  have ARG : ∀ {t : TypeId} {v : Value} {d : DataW H} {ps : List MemPlace}, Tryz.prog.readableRec t = true → t < Tryz.prog.types.size → DataW.Trod enc Tryz.prog W 0 (fun _ => true) true t v d ps → (∀ x ∈ ps, x.block < W.heap.size) →
      DataW.Trod enc Tryz.prog W' 0 (fun b => decide (b < W.heap.size)) true t v d ps := fun hr ht h hl =>
    DataW.Trod.of_heap (w := { W' with tape := W.tape }) (w' := W') rfl (Below.trod (by kernel_rfl) hr ht h hb hl)
  have hfr : ∀ may, W.keptBut W' may := fun may => ⟨hb.os, hb.output, (hb.frame may).2.2⟩
  have hl0 : ∀ x ∈ p0, x.block < W.heap.size := fun x hx => hlt x (by simp [hx])
  have hl1 : ∀ x ∈ p1, x.block < W.heap.size := fun x hx => hlt x (by simp [hx])
  have hl2 : ∀ x ∈ p2, x.block < W.heap.size := fun x hx => hlt x (by simp [hx])
  have A3 := trodAll_mk3 (ARG (by kernel_rfl) (of_decide_eq_true (by kernel_rfl)) h0 hl0) (ARG (by kernel_rfl) (of_decide_eq_true (by kernel_rfl)) h1 hl1) (ARG (by kernel_rfl) (of_decide_eq_true (by kernel_rfl)) h2 hl2)
  exact ⟨_, rfl, _, _, _, [], _, [], hW', trodAll_mk1 (shut_bool Tryz.underlying4 _), A3, rfl, hfr _, fun h => by cases h⟩
end Go.Proofs.YteoindgcjoldhaaGreatDoor
namespace Go.Proofs.YteoindgcjoldhaaGreatDoor
open Go Go.AM Go.ChangeShapes Go.WideShapes Go.ChangeAt Go.RowKit
set_option maxRecDepth 100000 in
theorem lifted (os : Os) (started : os.Started) (H : Type) (enc : TypeId × Value → H) :
    ReturnsInHanded {} Tryz.checked os 5 .any (fun w args => (Rows.clientTellsSpec.pre enc Tryz.prog Tryz.f5 Rows.clientTellsRow.domain false w args ∧ laidMetH Tryz.prog Rows.clientTellsRow.laid w) ∧ sizedMet enc Tryz.prog Tryz.f5 (OpenSpec.ofChange Rows.clientTellsSpec) false w args)
      (Rows.clientTellsSpec.post enc Tryz.prog Tryz.f5 false true false false) := by
  refine returnsInHanded_of_change_and (C := Tryz.checked) (X := fun w _ => laidMetH Tryz.prog Rows.clientTellsRow.laid w) (fun _ _ _ hh h => h.of_heap hh) ownT started (by kernel_rfl) Tryz.func5
    (ChangeSpec.witness_shaped (enc := enc) (C := Tryz.checked) (os := os) (X := fun w _ => laidMetH Tryz.prog Rows.clientTellsRow.laid w) false (World.laidAll Tryz.prog os Rows.clientTellsRow.laid) #[.slice none 0 0, .slice none 0 0, .slice none 0 0] 8 (World.laidAll_os _ _ _)
      (World.shaped_of_ZipB (by kernel_rfl) (by kernel_rfl)) (by kernel_rfl) (by kernel_rfl) (by kernel_rfl)
      (by rw [MakeChecks.laidMetH_plain _ _ _ (by kernel_rfl)]; exact laidMet_laidAll _ (by kernel_rfl) (by kernel_rfl))) ?_
  intro W base args ds gs before hval hW _ _ hL _
  exact contract H enc W base args ds gs before hval hW hL
theorem said : Rows.ClientTellsSaid :=
  OpenClaim.holds_of_wide 5 Tryz.f5 rfl rfl rfl rfl rfl rfl rfl ⟨rfl, rfl, rfl, rfl, rfl⟩ rfl rfl rfl rfl rfl (by kernel_rfl) Tryz.func5 (by kernel_rfl)
    (of_decide_eq_true (by kernel_rfl)) (by unfold Func.isWrapper; first | (rw [if_pos (by decide +kernel)]; kernel_rfl) | (rw [if_neg (by decide +kernel)]; exact ⟨rfl, rfl⟩))
    (fun os started H enc _ => lifted os started H enc)
theorem plainT5 (f : FuncId) (fn : Func) (hf : Tryz.pinned.checked.prog.funcNamed "tallyhouse/tallyhouselaw22.ClientTells" = some f) (hfn : Tryz.pinned.checked.prog.funcs[f]? = some fn) :
    false = Tryz.pinned.checked.prog.looks [] ∧ ∀ (j : Nat) t, fn.params[j]? = some t → Tryz.pinned.checked.prog.wantsStandIn t = false := by
  obtain rfl : f = 5 := Option.some.inj ((show Tryz.prog.funcNamed "tallyhouse/tallyhouselaw22.ClientTells" = some 5 by kernel_rfl).symm.trans hf) |>.symm
  obtain rfl : fn = Tryz.f5 := (Option.some.inj (Tryz.func5.symm.trans hfn)).symm
  refine ⟨by kernel_rfl, fun j t ht => ?_⟩
  rw [Tryz.params5] at ht
  have hm : t ∈ [68, 69, 70] := by simpa using Array.mem_of_getElem? ht
  have hall : ([68, 69, 70].all fun u => !Tryz.prog.wantsStandIn u) = true := by kernel_rfl
  exact (show Tryz.prog.wantsStandIn t = false by simpa using List.all_eq_true.1 hall t hm)
/-- THE CARD. -/
theorem clientTells_card : Rows.ClientTellsCardSaid :=
  Claim7.holds_tied_plain_at .later [] _ _ _ _ said (fun _ h => by cases h) (by kernel_rfl) (fun _ h => by cases h) clientTells_row_tie rfl ⟨rfl, rfl⟩ (by kernel_rfl) rfl plainT5 (by kernel_rfl)
end Go.Proofs.YteoindgcjoldhaaGreatDoor
