/-
  A part of the proof of QueryValues (the machine on named data, and the contracts of the functions that the law reaches): Qj.
-/
import Derived.Test.YtholilpmihngaaaGreatDoorKh
import Derived.Test.YtholilpmihngaaaGreatDoorKi
import Derived.Test.YtholilpmihngaaaGreatDoorAmH
set_option linter.all false
set_option linter.unusedVariables false
set_option linter.unusedSimpArgs false
set_option linter.unusedSectionVars false
namespace Go.Proofs.YtholilpmihngaaaGreatDoor
open Go Go.AM Go.ChangeShapes Go.WideShapes Go.ChangeAt Go.RowKit
theorem gName1 : Tryz.prog.globalNamed "tallyhouse/value.reckons" = some 0 := by kernel_rfl
theorem gName5 : Tryz.prog.globalNamed "tallyhouse/value.tests" = some 1 := by kernel_rfl
/-- Is the type an array of functions? -/
noncomputable def funcsT (t : TypeId) (n : Nat) : Bool := match Tryz.prog.underlying t with
  | some (.array k e) => Nat.beq k n && Nat.beq (Tryz.prog.cellsOf t) n && Nat.beq (Tryz.prog.cellsOf e) 1 && (match Tryz.prog.underlying e with
    | some (.func _ _ _) => true
    | _ => false)
  | _ => false
theorem funcsT_ok {t : TypeId} {n : Nat} (h : funcsT t n = true) : ∃ e ps rs vd, Tryz.prog.underlying t = some (.array n e) ∧ Tryz.prog.underlying e = some (.func ps rs vd) ∧ Tryz.prog.cellsOf e = 1 ∧ Tryz.prog.cellsOf t = n := by
  unfold funcsT at h
  split at h
  · rename_i k e ht
    simp only [Bool.and_eq_true, Nat.beq_eq] at h
    obtain ⟨⟨⟨rfl, h2⟩, h3⟩, h4⟩ := h
    split at h4
    · rename_i ps rs vd he
      exact ⟨e, ps, rs, vd, ht, he, h3, h2⟩
    · cases h4
  · cases h
theorem type_of {g n : Nat} (h : ((Tryz.prog.globals[g]?).map fun x => funcsT x.type n) = some true) : ∃ t, (Tryz.prog.globals[g]?).map (·.type) = some t ∧ funcsT t n = true := by
  cases hg : Tryz.prog.globals[g]? with
  | none => rw [hg] at h; cases h
  | some x =>
    rw [hg] at h
    exact ⟨x.type, rfl, by simpa using h⟩
theorem gType1 : ((Tryz.prog.globals[0]?).map fun x => funcsT x.type 6) = some true := by kernel_rfl
theorem gType5 : ((Tryz.prog.globals[1]?).map fun x => funcsT x.type 7) = some true := by kernel_rfl
noncomputable def inDat (d : DataW Unit) : DataW Unit := d.funcsIn?.getD .nil
noncomputable def aggOf (d : DataW (List UInt8)) : List (DataW (List UInt8)) := match d with
  | .agg ds => ds
  | _ => []
noncomputable abbrev dReck : DataW Unit := inDat Rows.laid_tallyhouse_value_reckons
noncomputable abbrev dTest : DataW Unit := inDat Rows.laid_tallyhouse_value_tests
noncomputable def fsReck : List (Option FuncId) := [none, some 328, some 329, some 330, some 331, some 332]
noncomputable def fsTest : List (Option FuncId) := [none, some 333, some 334, some 335, some 336, some 337, some 338]
theorem okReck : okFs Tryz.prog (aggOf dReck.funcsOut) fsReck = true := by kernel_rfl
theorem okTest : okFs Tryz.prog (aggOf dTest.funcsOut) fsTest = true := by kernel_rfl
theorem aggReck : dReck.funcsOut = .agg (aggOf dReck.funcsOut) := by kernel_rfl
theorem aggTest : dTest.funcsOut = .agg (aggOf dTest.funcsOut) := by kernel_rfl
theorem inReck : ("tallyhouse/value.reckons", DataW.iface "func table" dReck) ∈ Rows.queryValuesRow.laid := List.mem_iff_getElem?.2 ⟨7, by kernel_rfl⟩
theorem inTest : ("tallyhouse/value.tests", DataW.iface "func table" dTest) ∈ Rows.queryValuesRow.laid := List.mem_iff_getElem?.2 ⟨6, by kernel_rfl⟩
theorem G1 : G 0 = some gReckons := rfl
theorem G5 : G 1 = some gTests := rfl
theorem Gelse {g : Nat} {cs : List AV} (h : G g = some cs) : g = 0 ∧ cs = gReckons ∨ g = 1 ∧ cs = gTests := by
  unfold G at h
  split at h <;> cases h
  · exact .inl ⟨rfl, rfl⟩
  · exact .inr ⟨rfl, rfl⟩
/-- What the row lists is what the machine wants of memory. -/
theorem glob_laid {W : World} (h : laidMetH Tryz.prog Rows.queryValuesRow.laid W) : GlobOK G fun b => W.heap[b]? := by
  intro g cs hg
  rcases Gelse hg with ⟨rfl, rfl⟩ | ⟨rfl, rfl⟩
  · obtain ⟨t, ht, hf⟩ := type_of gType1
    obtain ⟨e, ps, rs, vd, k1, k2, k3, k4⟩ := funcsT_ok hf
    exact func_read (n := 6) gName1 ht (h.funcs inReck) k1 k2 k3 k4 aggReck okReck rfl
  · obtain ⟨t, ht, hf⟩ := type_of gType5
    obtain ⟨e, ps, rs, vd, k1, k2, k3, k4⟩ := funcsT_ok hf
    exact func_read (n := 7) gName5 ht (h.funcs inTest) k1 k2 k3 k4 aggTest okTest rfl
set_option maxRecDepth 100000 in
theorem slice_val {W : World} {r : Reach} {b : Nat} {t e : TypeId} {v : Value} (ht : Tryz.prog.underlying t = some (.slice e)) (h : Value.okWide Tryz.prog W r b t v) : ∃ a l c, v = .slice a l c := by
  unfold Value.okWide at h
  rw [ht] at h
  unfold Cell.okWide at h
  rw [ht] at h
  cases v <;> first | exact ⟨_, _, _, rfl⟩ | (simp [Cell.ok, ht] at h)
set_option maxRecDepth 100000 in
theorem struct_val {W : World} {r : Reach} {b : Nat} {t : TypeId} {fs : Array Field} {v : Value} (ht : Tryz.prog.underlying t = some (.struct fs)) (h : Value.okWide Tryz.prog W r b t v) : ∃ xs, v = .agg xs := by
  unfold Value.okWide at h
  rw [ht] at h
  cases v <;> first | exact ⟨_, rfl⟩ | (simp at h)
set_option maxRecDepth 100000 in
theorem one_arg {H : Type} {enc : TypeId × Value → H} {W : World} {r : Reach} {b : Nat} {t e : TypeId} {v : Value} {d : DataW H} {ps : List MemPlace} {ty : Ty} (ht : Tryz.prog.underlying t = some (.slice e)) (hv : Value.okWide Tryz.prog W r b t v) (hf : flat Tryz.prog 12 t = some [ty])
    (h : DataW.Trod enc Tryz.prog W 0 (fun _ => true) true t v d ps) : ∃ x, RepOne (memE W) (.one ty) [x] v := by
  obtain ⟨a, l, c, rfl⟩ := slice_val ht hv
  obtain ⟨fuel, h⟩ := h
  obtain ⟨ds, hd⟩ := read_sound 12 t [ty] hf fuel _ _ h
  simp only [RepV] at hd
  obtain ⟨x, ds', v', vs', rfl, e1, h1, rfl, rfl⟩ := hd
  have : Value.cells (.slice a l c) = #[.slice a l c] := rfl
  rw [this] at e1
  cases e1
  exact ⟨x, x, rfl, h1⟩
set_option maxRecDepth 100000 in
theorem agg_arg {H : Type} {enc : TypeId × Value → H} {W : World} {r : Reach} {b : Nat} {t : TypeId} {fs : Array Field} {v : Value} {d : DataW H} {ps : List MemPlace} {ts : List Ty} (ht : Tryz.prog.underlying t = some (.struct fs)) (hv : Value.okWide Tryz.prog W r b t v) (hf : flat Tryz.prog 12 t = some ts)
    (h : DataW.Trod enc Tryz.prog W 0 (fun _ => true) true t v d ps) : ∃ ds, RepOne (memE W) (.agg ts) ds v := by
  obtain ⟨xs, rfl⟩ := struct_val ht hv
  obtain ⟨fuel, h⟩ := h
  obtain ⟨ds, hd⟩ := read_sound 12 t ts hf fuel _ _ h
  exact ⟨ds, xs, rfl, hd⟩
set_option maxRecDepth 100000 in
theorem flatA : flat Tryz.prog 12 22 = some [.slice [tE]] := by kernel_rfl
theorem flatB : flat Tryz.prog 12 23 = some [tRows] := by kernel_rfl
/-- The memory that was there is as it was. -/
theorem below_of {W W' : World} {E E' : Nat → Option Obj} (h : Grows E E' W W') (hs : W.heap.size ≤ W'.heap.size) : Below W.heap.size W { W' with tape := W.tape } :=
  ⟨congrArg Prod.fst h.io, rfl, congrArg Prod.snd h.io, hs, h.old⟩
theorem size_of {W W' : World} (h : ∀ b, b < W.heap.size → W'.heap[b]? = W.heap[b]?) : W.heap.size ≤ W'.heap.size := by
  by_cases h0 : W.heap.size = 0
  · omega
  · have h1 := h (W.heap.size - 1) (by omega)
    have h2 : W.heap[W.heap.size - 1]? = some (W.heap[W.heap.size - 1]'(by omega)) := Array.getElem?_eq_getElem (by omega)
    rw [h2] at h1
    have := (Array.getElem?_eq_some_iff.1 h1).1
    omega
set_option maxRecDepth 100000 in
/-- THE CONTRACT, in the form's words. -/
theorem contract (H : Type) (enc : TypeId × Value → H) (W : World) (base : Nat) (args : Array Value) (ds gs : List (DataW H)) (before : List MemPlace)
    (hval : ∀ (j : Nat) t v, Tryz.f3.params[j]? = some t → args[j]? = some v → Value.okWide Tryz.prog W .any base t v)
    (hW : DataW.Whole enc Tryz.prog Tryz.f3.params.toList Rows.queryValuesSpec.vars false W args.toList ds gs before) (hL : laidMetH Tryz.prog Rows.queryValuesRow.laid W) :
    Calls Tryz.prog 3 args W fun e W' => ∃ v, e = .returned v ∧ Rows.queryValuesSpec.post enc Tryz.prog Tryz.f3 false true false false W args v W' := by
  have hW' := hW
  obtain ⟨p, q, hA0, hV, rfl, _, _⟩ := hW
  have hA : DataW.TrodAll enc Tryz.prog W 0 (fun _ => true) true Tryz.f3.params.toList args.toList ds p := hA0
  rw [Tryz.params3] at hA hval
  obtain ⟨v0, vs0, d0, ds0, p0, q0, hargs, rfl, rfl, h0, r0⟩ := trodAll_cons hA
  obtain ⟨v1, vs1, d1, ds1, p1, q1, rfl, rfl, rfl, h1, r1⟩ := trodAll_cons r0
  obtain ⟨rfl, rfl, rfl⟩ := trodAll_nil r1
  obtain rfl : args = #[v0, v1] := by apply Array.ext'; simpa using hargs
  obtain ⟨rfl, rfl⟩ := trodVars_none hV
  obtain ⟨x0, a0⟩ := one_arg Tryz.underlying22 (hval 0 22 v0 rfl rfl) flatA h0
  obtain ⟨x1, a1⟩ := one_arg Tryz.underlying23 (hval 1 23 v1 rfl rfl) flatB h1
  have hR : RepArgs (memE W) [.one (.slice [tE]), .one tRows] [[x0], [x1]] (#[v0, v1] : Array Value).toList :=
    ⟨_, _, _, _, rfl, rfl, a0, _, _, _, _, rfl, rfl, a1, rfl, rfl⟩
  refine ((fnLaw fnWakes).2 (fun b => W.heap[b]?) _ #[v0, v1] W (fun _ _ h => h) hR trivial (glob_laid hL)).mono ?_
  rintro e W' ⟨v, E', rfl, hg, hr⟩
  obtain ⟨d, e1, x, rfl, e2⟩ := hr
  cases e1
  simp only [Rep] at e2
  obtain ⟨b, e3, rfl⟩ := e2
  cases e3
  have hb := below_of hg (size_of hg.old)
  have hlt : ∀ x ∈ p0 ++ (p1 ++ []), x.block < W.heap.size := fun x hx => by
    have := hW'.lt x (by simpa using hx)
    exact this
  have ARG : ∀ {t : TypeId} {v : Value} {d : DataW H} {ps : List MemPlace}, Tryz.prog.readableRec t = true → t < Tryz.prog.types.size → DataW.Trod enc Tryz.prog W 0 (fun _ => true) true t v d ps → (∀ x ∈ ps, x.block < W.heap.size) →
      DataW.Trod enc Tryz.prog W' 0 (fun b => decide (b < W.heap.size)) true t v d ps := fun hr ht h hl =>
    DataW.Trod.of_heap (w := { W' with tape := W.tape }) (w' := W') rfl (Below.trod (by kernel_rfl) hr ht h hb hl)
  have hfr : ∀ may, W.keptBut W' may := fun may => ⟨hb.os, hb.output, (hb.frame may).2.2⟩
  have hl0 : ∀ x ∈ p0, x.block < W.heap.size := fun x hx => hlt x (by simp [hx])
  have hl1 : ∀ x ∈ p1, x.block < W.heap.size := fun x hx => hlt x (by simp [hx])
  have A2 := trodAll_mk2 (ARG (by kernel_rfl) (of_decide_eq_true (by kernel_rfl)) h0 hl0) (ARG (by kernel_rfl) (of_decide_eq_true (by kernel_rfl)) h1 hl1)
  exact ⟨_, rfl, _, _, _, [], _, [], hW', trodAll_mk1 (shut_bool Tryz.underlying4 _), A2, rfl, hfr _, fun h => by cases h⟩
end Go.Proofs.YtholilpmihngaaaGreatDoor
