/-
  A part of the proof of IdealChecks (the machine on named data, and the contracts of the functions that the law reaches): Ij.
-/
import Derived.Test.YtbhfnmeojhpgbaaGreatDoorKf
import Derived.Test.YtbhfnmeojhpgbaaGreatDoorKg
import Derived.Test.YtbhfnmeojhpgbaaGreatDoorAmH
set_option linter.all false
set_option linter.unusedVariables false
set_option linter.unusedSimpArgs false
set_option linter.unusedSectionVars false
namespace Go.Proofs.YtbhfnmeojhpgbaaGreatDoor
open Go Go.AM Go.ChangeShapes Go.WideShapes Go.ChangeAt Go.RowKit
theorem gName0 : Tryz.prog.globalNamed "tallyhouse/blake.start" = some 0 := by kernel_rfl
theorem gName1 : Tryz.prog.globalNamed "tallyhouse/blake.orders" = some 1 := by kernel_rfl
theorem gName2 : Tryz.prog.globalNamed "tallyhouse/blake.fours" = some 2 := by kernel_rfl
noncomputable def unSc : AV → Value
  | .sc v => v
  | _ => undef
theorem unSc_map {l : List AV} (h : l.all isSc = true) : l = (l.map unSc).map .sc := by
  rw [List.map_map]
  refine (List.map_id' l).symm.trans (List.map_congr_left fun a ha => ?_)
  have := List.all_eq_true.1 h a ha
  cases a <;> first | rfl | (simp [isSc] at this)
theorem lit0 : litCells (Rows.laid_tallyhouse_blake_start (H := Unit)) = some (gStart.map unSc) := by kernel_rfl
theorem lit1 : litCells (Rows.laid_tallyhouse_blake_orders (H := Unit)) = some (gOrders.map unSc) := by kernel_rfl
theorem lit2 : litCells (Rows.laid_tallyhouse_blake_fours (H := Unit)) = some (gFours.map unSc) := by kernel_rfl
theorem gType0 : (Tryz.prog.globals[0]?).map (fun g => arrT Tryz.prog 5 g.type) = some true := by kernel_rfl
theorem gType1 : (Tryz.prog.globals[1]?).map (fun g => arrT Tryz.prog 5 g.type) = some true := by kernel_rfl
theorem gType2 : (Tryz.prog.globals[2]?).map (fun g => arrT Tryz.prog 5 g.type) = some true := by kernel_rfl
theorem arr_of {g : Nat} {t : TypeId} (h : (Tryz.prog.globals[g]?).map (fun g => arrT Tryz.prog 5 g.type) = some true) (ht : (Tryz.prog.globals[g]?).map (·.type) = some t) : arrT Tryz.prog 5 t = true := by
  cases hg : Tryz.prog.globals[g]? with
  | none => rw [hg] at ht; cases ht
  | some x =>
    rw [hg] at h ht
    simp only [Option.map_some, Option.some.injEq] at h ht
    rw [← ht]
    exact h
/-- The listed variables that are read. -/
def isBlake (x : String × DataW Unit) : Bool := x.1 == "tallyhouse/blake.start" || x.1 == "tallyhouse/blake.orders" || x.1 == "tallyhouse/blake.fours"
def blakeL : List (String × DataW Unit) := [("tallyhouse/blake.start", Rows.laid_tallyhouse_blake_start), ("tallyhouse/blake.orders", Rows.laid_tallyhouse_blake_orders), ("tallyhouse/blake.fours", Rows.laid_tallyhouse_blake_fours)]
theorem blakeF : Rows.idealChecksRow.laid.filter isBlake = blakeL := by kernel_rfl
theorem Gelse {g : Nat} {cs : List AV} (h : G g = some cs) : g = 0 ∧ cs = gStart ∨ g = 1 ∧ cs = gOrders ∨ g = 2 ∧ cs = gFours := by
  unfold G at h
  split at h <;> cases h
  · exact .inl ⟨rfl, rfl⟩
  · exact .inr (.inl ⟨rfl, rfl⟩)
  · exact .inr (.inr ⟨rfl, rfl⟩)
theorem scStart : gStart.all isSc = true := by kernel_rfl
theorem scOrders : gOrders.all isSc = true := by kernel_rfl
theorem scFours : gFours.all isSc = true := by kernel_rfl
set_option maxRecDepth 100000 in
/-- What the row lists is what the machine wants of memory. -/
theorem glob_laid {W : World} (h : laidMetH Tryz.prog Rows.idealChecksRow.laid W) : GlobOK G fun b => W.heap[b]? := by
  have h := laidMetH.filter isBlake h
  rw [blakeF, MakeChecks.laidMetH_plain _ _ _ (by kernel_rfl)] at h
  obtain ⟨ps, ⟨g0, t0, c0, f0, p0, q0, a0, b0, v0, d0, ⟨g1, t1, c1, f1, p1, q1, a1, b1, v1, d1, ⟨g2, t2, c2, f2, p2, q2, a2, b2, v2, d2, _, _⟩, _⟩, _⟩, _, _⟩ := h
  obtain rfl := Option.some.inj (gName0.symm.trans a0)
  obtain rfl := Option.some.inj (gName1.symm.trans a1)
  obtain rfl := Option.some.inj (gName2.symm.trans a2)
  intro g cs hg
  rcases Gelse hg with ⟨rfl, rfl⟩ | ⟨rfl, rfl⟩ | ⟨rfl, rfl⟩
  · exact glob_read 5 gName0 v0 d0 (arr_of gType0 b0) lit0 (unSc_map scStart)
  · exact glob_read 5 gName1 v1 d1 (arr_of gType1 b1) lit1 (unSc_map scOrders)
  · exact glob_read 5 gName2 v2 d2 (arr_of gType2 b2) lit2 (unSc_map scFours)
set_option maxRecDepth 100000 in
theorem slice_val {W : World} {r : Reach} {b : Nat} {t e : TypeId} {v : Value} (ht : Tryz.prog.underlying t = some (.slice e)) (h : Value.okWide Tryz.prog W r b t v) : ∃ a l c, v = .slice a l c := by
  unfold Value.okWide at h
  rw [ht] at h
  unfold Cell.okWide at h
  rw [ht] at h
  cases v <;> first | exact ⟨_, _, _, rfl⟩ | (simp [Cell.ok, ht] at h)
set_option maxRecDepth 100000 in
theorem struct_val {W : World} {r : Reach} {b : Nat} {t : TypeId} {fs : Array Field} {v : Value} (ht : Tryz.prog.underlying t = some (.struct fs)) (h : Value.okWide Tryz.prog W r b t v) : ∃ xs, v = .agg xs := by
  unfold Value.okWide at h
  rw [ht] at h
  cases v <;> first | exact ⟨_, rfl⟩ | (simp at h)
set_option maxRecDepth 100000 in
theorem one_arg {H : Type} {enc : TypeId × Value → H} {W : World} {r : Reach} {b : Nat} {t e : TypeId} {v : Value} {d : DataW H} {ps : List MemPlace} {ty : Ty} (ht : Tryz.prog.underlying t = some (.slice e)) (hv : Value.okWide Tryz.prog W r b t v) (hf : flat Tryz.prog 12 t = some [ty])
    (h : DataW.Trod enc Tryz.prog W 0 (fun _ => true) true t v d ps) : ∃ x, RepOne (memE W) (.one ty) [x] v := by
  obtain ⟨a, l, c, rfl⟩ := slice_val ht hv
  obtain ⟨fuel, h⟩ := h
  obtain ⟨ds, hd⟩ := read_sound 12 t [ty] hf fuel _ _ h
  simp only [RepV] at hd
  obtain ⟨x, ds', v', vs', rfl, e1, h1, rfl, rfl⟩ := hd
  have : Value.cells (.slice a l c) = #[.slice a l c] := rfl
  rw [this] at e1
  cases e1
  exact ⟨x, x, rfl, h1⟩
set_option maxRecDepth 100000 in
theorem agg_arg {H : Type} {enc : TypeId × Value → H} {W : World} {r : Reach} {b : Nat} {t : TypeId} {fs : Array Field} {v : Value} {d : DataW H} {ps : List MemPlace} {ts : List Ty} (ht : Tryz.prog.underlying t = some (.struct fs)) (hv : Value.okWide Tryz.prog W r b t v) (hf : flat Tryz.prog 12 t = some ts)
    (h : DataW.Trod enc Tryz.prog W 0 (fun _ => true) true t v d ps) : ∃ ds, RepOne (memE W) (.agg ts) ds v := by
  obtain ⟨xs, rfl⟩ := struct_val ht hv
  obtain ⟨fuel, h⟩ := h
  obtain ⟨ds, hd⟩ := read_sound 12 t ts hf fuel _ _ h
  exact ⟨ds, xs, rfl, hd⟩
set_option maxRecDepth 100000 in
theorem flatA : flat Tryz.prog 12 22 = some [tRws] := by kernel_rfl
theorem flatB : flat Tryz.prog 12 23 = some [tOrd] := by kernel_rfl
/-- The memory that was there is as it was. -/
theorem below_of {W W' : World} {E E' : Nat → Option Obj} (h : Grows E E' W W') (hs : W.heap.size ≤ W'.heap.size) : Below W.heap.size W { W' with tape := W.tape } :=
  ⟨congrArg Prod.fst h.io, rfl, congrArg Prod.snd h.io, hs, h.old⟩
theorem size_of {W W' : World} (h : ∀ b, b < W.heap.size → W'.heap[b]? = W.heap[b]?) : W.heap.size ≤ W'.heap.size := by
  by_cases h0 : W.heap.size = 0
  · omega
  · have h1 := h (W.heap.size - 1) (by omega)
    have h2 : W.heap[W.heap.size - 1]? = some (W.heap[W.heap.size - 1]'(by omega)) := Array.getElem?_eq_getElem (by omega)
    rw [h2] at h1
    have := (Array.getElem?_eq_some_iff.1 h1).1
    omega
set_option maxRecDepth 100000 in
/-- THE CONTRACT, in the form's words. -/
theorem contract (H : Type) (enc : TypeId × Value → H) (W : World) (base : Nat) (args : Array Value) (ds gs : List (DataW H)) (before : List MemPlace)
    (hval : ∀ (j : Nat) t v, Tryz.f3.params[j]? = some t → args[j]? = some v → Value.okWide Tryz.prog W .any base t v)
    (hW : DataW.Whole enc Tryz.prog Tryz.f3.params.toList Rows.idealChecksSpec.vars false W args.toList ds gs before) (hL : laidMetH Tryz.prog Rows.idealChecksRow.laid W) :
    Calls Tryz.prog 3 args W fun e W' => ∃ v, e = .returned v ∧ Rows.idealChecksSpec.post enc Tryz.prog Tryz.f3 false true false false W args v W' := by
  have hW' := hW
  obtain ⟨p, q, hA0, hV, rfl, _, _⟩ := hW
  have hA : DataW.TrodAll enc Tryz.prog W 0 (fun _ => true) true Tryz.f3.params.toList args.toList ds p := hA0
  rw [Tryz.params3] at hA hval
  obtain ⟨v0, vs0, d0, ds0, p0, q0, hargs, rfl, rfl, h0, r0⟩ := trodAll_cons hA
  obtain ⟨v1, vs1, d1, ds1, p1, q1, rfl, rfl, rfl, h1, r1⟩ := trodAll_cons r0
  obtain ⟨rfl, rfl, rfl⟩ := trodAll_nil r1
  obtain rfl : args = #[v0, v1] := by apply Array.ext'; simpa using hargs
  obtain ⟨rfl, rfl⟩ := trodVars_none hV
  obtain ⟨x0, a0⟩ := one_arg Tryz.underlying22 (hval 0 22 v0 rfl rfl) flatA h0
  obtain ⟨x1, a1⟩ := one_arg Tryz.underlying23 (hval 1 23 v1 rfl rfl) flatB h1
  have hR : RepArgs (memE W) [.one tRws, .one tOrd] [[x0], [x1]] (#[v0, v1] : Array Value).toList :=
    ⟨_, _, _, _, rfl, rfl, a0, _, _, _, _, rfl, rfl, a1, rfl, rfl⟩
  refine ((fnLaw fnWakes).2 (fun b => W.heap[b]?) _ #[v0, v1] W (fun _ _ h => h) hR trivial (glob_laid hL)).mono ?_
  rintro e W' ⟨v, E', rfl, hg, hr⟩
  obtain ⟨d, e1, x, rfl, e2⟩ := hr
  cases e1
  simp only [Rep] at e2
  obtain ⟨b, e3, rfl⟩ := e2
  cases e3
  have hb := below_of hg (size_of hg.old)
  have hlt : ∀ x ∈ p0 ++ (p1 ++ []), x.block < W.heap.size := fun x hx => by
    have := hW'.lt x (by simpa using hx)
    exact this
  have ARG : ∀ {t : TypeId} {v : Value} {d : DataW H} {ps : List MemPlace}, Tryz.prog.readableRec t = true → t < Tryz.prog.types.size → DataW.Trod enc Tryz.prog W 0 (fun _ => true) true t v d ps → (∀ x ∈ ps, x.block < W.heap.size) →
      DataW.Trod enc Tryz.prog W' 0 (fun b => decide (b < W.heap.size)) true t v d ps := fun hr ht h hl =>
    DataW.Trod.of_heap (w := { W' with tape := W.tape }) (w' := W') rfl (Below.trod (by kernel_rfl) hr ht h hb hl)
  have hfr : ∀ may, W.keptBut W' may := fun may => ⟨hb.os, hb.output, (hb.frame may).2.2⟩
  have hl0 : ∀ x ∈ p0, x.block < W.heap.size := fun x hx => hlt x (by simp [hx])
  have hl1 : ∀ x ∈ p1, x.block < W.heap.size := fun x hx => hlt x (by simp [hx])
  have A2 := trodAll_mk2 (ARG (by kernel_rfl) (of_decide_eq_true (by kernel_rfl)) h0 hl0) (ARG (by kernel_rfl) (of_decide_eq_true (by kernel_rfl)) h1 hl1)
  exact ⟨_, rfl, _, _, _, [], _, [], hW', trodAll_mk1 (shut_bool Tryz.underlying4 _), A2, rfl, hfr _, fun h => by cases h⟩
end Go.Proofs.YtbhfnmeojhpgbaaGreatDoor
