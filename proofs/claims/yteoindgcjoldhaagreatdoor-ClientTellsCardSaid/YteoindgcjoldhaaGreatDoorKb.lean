/-
  A part of the proof of ClientTells (the machine on named data, and the contracts of the functions that the law reaches): Kf2 Kfb Kf3 Kf4.
-/
import Derived.IntWalk
import Derived.Test.YteoindgcjoldhaaGreatDoorKa
set_option linter.all false
set_option linter.unusedVariables false
set_option linter.unusedSimpArgs false
set_option linter.unusedSectionVars false
namespace Go.Proofs.YteoindgcjoldhaaGreatDoor
open Go Go.AM
def i0 : Nat → List DV → DV := fun _ _ => .bool false
noncomputable def p36 : Pln :=
  (.ask (.bin .lss (.v 0) (.ki .i64 (.ofNat 1)))
    (.done [[(.ki .i64 (.ofNat 270))]])
    (.ask (.bin .lss (.ki .i64 (.ofNat 3)) (.v 0))
      (.done [[(.ki .i64 (.ofNat 270))]])
      (.ask (.bin .eql (.v 1) (.ki .u32 (.ofNat 0)))
        (.done [[(.ki .i64 (.ofNat 270))]])
        (.ask (.bin .lss (.ki .i64 (.ofNat 1019)) (.len (.v 2)))
          (.done [[(.ki .i64 (.ofNat 270))]])
          (.done [[(.ki .i64 (.ofNat 0))]])))))
noncomputable def p39 : Pln :=
  (.ask (.bin .lss (.v 0) (.ki .i64 (.ofNat 1)))
    (.done [[(.kb false)]])
    (.ask (.bin .lss (.ki .i64 (.ofNat 3)) (.v 0))
      (.done [[(.kb false)]])
      (.ask (.bin .lss (.v 1) (.ki .u32 (.ofNat 1)))
        (.done [[(.kb false)]])
        (.done [[(.not (.bin .lss (.ki .i64 (.ofNat 1019)) (.len (.v 2))))]]))))
noncomputable def p63 : Pln :=
  (.ask (.bin .eql (.v 0) (.ki .i64 (.ofNat 1)))
    (.ask (.bin .eql (.v 1) (.ki .i64 (.ofNat 0)))
      (.ask (.bin .eql (.v 2) (.ks (bstr #[])))
        (.done [[(.ki .i64 (.ofNat 0))]])
        (.done [[(.ki .i64 (.ofNat 150))]]))
      (.done [[(.ki .i64 (.ofNat 150))]]))
    (.ask (.bin .eql (.v 0) (.ki .i64 (.ofNat 2)))
      (.ask (.bin .eql (.v 1) (.ki .i64 (.ofNat 0)))
        (.ask (.bin .eql (.v 2) (.ks (bstr #[])))
          (.done [[(.ki .i64 (.ofNat 0))]])
          (.done [[(.ki .i64 (.ofNat 150))]]))
        (.ask (.bin .eql (.v 1) (.ki .i64 (.ofNat 1)))
          (.ask (.bin .eql (.v 2) (.ks (bstr #[])))
            (.done [[(.ki .i64 (.ofNat 0))]])
            (.done [[(.ki .i64 (.ofNat 150))]]))
          (.done [[(.ki .i64 (.ofNat 150))]])))
      (.ask (.bin .eql (.v 0) (.ki .i64 (.ofNat 3)))
        (.ask (.bin .eql (.v 2) (.ks (bstr #[])))
          (.done [[(.ki .i64 (.ofNat 0))]])
          (.done [[(.ki .i64 (.ofNat 150))]]))
        (.ask (.bin .eql (.v 0) (.ki .i64 (.ofNat 4)))
          (.ask (.bin .eql (.v 1) (.ki .i64 (.ofNat 0)))
            (.ask (.bin .lss (.ki .i64 (.ofNat 64)) (.len (.v 2)))
              (.done [[(.ki .i64 (.ofNat 150))]])
              (.done [[(.ki .i64 (.ofNat 0))]]))
            (.done [[(.ki .i64 (.ofNat 150))]]))
          (.done [[(.ki .i64 (.ofNat 150))]])))))
noncomputable def p69 : Pln :=
  (.ask (.bin .eql (.v 0) (.ki .i64 (.ofNat 1)))
    (.ask (.bin .eql (.v 1) (.ki .i64 (.ofNat 0)))
      (.done [[(.bin .eql (.v 2) (.ks (bstr #[])))]])
      (.done [[(.kb false)]]))
    (.ask (.bin .eql (.v 0) (.ki .i64 (.ofNat 2)))
      (.ask (.bin .lss (.v 1) (.ki .i64 (.ofNat 0)))
        (.done [[(.kb false)]])
        (.ask (.bin .lss (.ki .i64 (.ofNat 1)) (.v 1))
          (.done [[(.kb false)]])
          (.done [[(.bin .eql (.v 2) (.ks (bstr #[])))]])))
      (.ask (.bin .eql (.v 0) (.ki .i64 (.ofNat 3)))
        (.done [[(.bin .eql (.v 2) (.ks (bstr #[])))]])
        (.ask (.bin .eql (.v 0) (.ki .i64 (.ofNat 4)))
          (.ask (.bin .eql (.v 1) (.ki .i64 (.ofNat 0)))
            (.done [[(.not (.bin .lss (.ki .i64 (.ofNat 64)) (.len (.v 2))))]])
            (.done [[(.kb false)]]))
          (.done [[(.kb false)]])))))
noncomputable def p102 : Pln :=
  (.ask (.bin .lss (.bin .or (.v 0) (.ki .u8 (.ofNat 32))) (.ki .u8 (.ofNat 97)))
    (.done [[(.bin .eql (.v 0) (.ki .u8 (.ofNat 95)))]])
    (.ask (.bin .lss (.ki .u8 (.ofNat 122)) (.bin .or (.v 0) (.ki .u8 (.ofNat 32))))
      (.done [[(.bin .eql (.v 0) (.ki .u8 (.ofNat 95)))]])
      (.done [[(.kb true)]])))
noncomputable def p104 : Pln :=
  (.ask (.bin .lss (.bin .or (.v 0) (.ki .u8 (.ofNat 32))) (.ki .u8 (.ofNat 97)))
    (.ask (.bin .eql (.v 0) (.ki .u8 (.ofNat 95)))
      (.done [[(.kb true)]])
      (.ask (.bin .lss (.v 0) (.ki .u8 (.ofNat 48)))
        (.done [[(.kb false)]])
        (.done [[(.not (.bin .lss (.ki .u8 (.ofNat 57)) (.v 0)))]])))
    (.ask (.bin .lss (.ki .u8 (.ofNat 122)) (.bin .or (.v 0) (.ki .u8 (.ofNat 32))))
      (.ask (.bin .eql (.v 0) (.ki .u8 (.ofNat 95)))
        (.done [[(.kb true)]])
        (.ask (.bin .lss (.v 0) (.ki .u8 (.ofNat 48)))
          (.done [[(.kb false)]])
          (.done [[(.not (.bin .lss (.ki .u8 (.ofNat 57)) (.v 0)))]])))
      (.done [[(.kb true)]])))
noncomputable def p159 : Pln :=
  (.ask (.bin .lss (.v 0) (.ki .u8 (.ofNat 97)))
    (.ask (.bin .lss (.v 0) (.ki .u8 (.ofNat 65)))
      (.done [[(.bin .eql (.v 0) (.ki .u8 (.ofNat 95)))]])
      (.ask (.bin .lss (.ki .u8 (.ofNat 90)) (.v 0))
        (.done [[(.bin .eql (.v 0) (.ki .u8 (.ofNat 95)))]])
        (.done [[(.kb true)]])))
    (.ask (.bin .lss (.ki .u8 (.ofNat 122)) (.v 0))
      (.ask (.bin .lss (.v 0) (.ki .u8 (.ofNat 65)))
        (.done [[(.bin .eql (.v 0) (.ki .u8 (.ofNat 95)))]])
        (.ask (.bin .lss (.ki .u8 (.ofNat 90)) (.v 0))
          (.done [[(.bin .eql (.v 0) (.ki .u8 (.ofNat 95)))]])
          (.done [[(.kb true)]])))
      (.done [[(.kb true)]])))
noncomputable def p160 : Pln :=
  (.ask (.bin .lss (.v 0) (.ki .u8 (.ofNat 48)))
    (.done [[(.kb false)]])
    (.done [[(.not (.bin .lss (.ki .u8 (.ofNat 57)) (.v 0)))]]))
noncomputable def p67 : Pln :=
  (.ask (.bin .lss (.v 0) (.v 1))
    (.done [[(.ki .i64 (.negSucc 0))]])
    (.ask (.bin .lss (.v 1) (.v 0))
      (.done [[(.ki .i64 (.ofNat 1))]])
      (.done [[(.ki .i64 (.ofNat 0))]])))
theorem c36 : checkPlan [.one tI] (fun facts => @callL (mkO facts i0) Tryz.prog G noSpec 100 (fun _ => none) 36 (mkArgs 0 [.agg tTx]) heap0) [] p36 = true := by kernel_rfl
theorem c39 : checkPlan [.one .bool] (fun facts => @callL (mkO facts i0) Tryz.prog G noSpec 100 (fun _ => none) 39 (mkArgs 0 [.agg tTx]) heap0) [] p39 = true := by kernel_rfl
theorem c63 : checkPlan [.one tI] (fun facts => @callL (mkO facts i0) Tryz.prog G noSpec 100 (fun _ => none) 63 (mkArgs 0 [.agg tVal]) heap0) [] p63 = true := by kernel_rfl
theorem c69 : checkPlan [.one .bool] (fun facts => @callL (mkO facts i0) Tryz.prog G noSpec 100 (fun _ => none) 69 (mkArgs 0 [.agg tVal]) heap0) [] p69 = true := by kernel_rfl
theorem c102 : checkPlan [.one .bool] (fun facts => @callL (mkO facts i0) Tryz.prog G noSpec 100 (fun _ => none) 102 (mkArgs 0 [.one tU8]) heap0) [] p102 = true := by kernel_rfl
theorem c104 : checkPlan [.one .bool] (fun facts => @callL (mkO facts i0) Tryz.prog G noSpec 100 (fun _ => none) 104 (mkArgs 0 [.one tU8]) heap0) [] p104 = true := by kernel_rfl
theorem c159 : checkPlan [.one .bool] (fun facts => @callL (mkO facts i0) Tryz.prog G noSpec 100 (fun _ => none) 159 (mkArgs 0 [.one tU8]) heap0) [] p159 = true := by kernel_rfl
theorem c160 : checkPlan [.one .bool] (fun facts => @callL (mkO facts i0) Tryz.prog G noSpec 100 (fun _ => none) 160 (mkArgs 0 [.one tU8]) heap0) [] p160 = true := by kernel_rfl
theorem c67 : checkPlan [.one tI] (fun facts => @callL (mkO facts i0) Tryz.prog G noSpec 100 (fun _ => none) 67 (mkArgs 0 [.one tU64, .one tU64]) heap0) [] p67 = true := by kernel_rfl

theorem or_tab : ∀ n : Fin 256, (decide (97 ≤ bitsD .or .u8 (n.val : Int) 32) && decide (bitsD .or .u8 (n.val : Int) 32 ≤ 122)) = ((decide (97 ≤ (n.val : Int)) && decide ((n.val : Int) ≤ 122)) || (decide (65 ≤ (n.val : Int)) && decide ((n.val : Int) ≤ 90))) := by decide +kernel
theorem or_z {z : Int} (h1 : 0 ≤ z) (h2 : z ≤ 255) : (97 ≤ bitsD .or .u8 z 32 ∧ bitsD .or .u8 z 32 ≤ 122) ↔ (97 ≤ z ∧ z ≤ 122) ∨ (65 ≤ z ∧ z ≤ 90) := by
  obtain ⟨n, rfl⟩ := Int.eq_ofNat_of_zero_le h1
  have := or_tab ⟨n, by omega⟩
  simp only at this
  rw [Bool.eq_iff_iff] at this
  simpa using this
theorem u8_bd {z : Int} (h1 : IntKind.u8.min ≤ z) (h2 : z ≤ IntKind.u8.max) : 0 ≤ z ∧ z ≤ 255 := by
  simp [IntKind.min, IntKind.max, IntKind.signed, IntKind.bits] at h1 h2
  omega
theorem u32_bd {z : Int} (h1 : IntKind.u32.min ≤ z) (h2 : z ≤ IntKind.u32.max) : 0 ≤ z ∧ z ≤ 4294967295 := by
  simp [IntKind.min, IntKind.max, IntKind.signed, IntKind.bits] at h1 h2
  omega

theorem one_u8 {m : Env} {ds : List (List DV)} {vs : List Value} (h : RepArgs m [.one tU8] ds vs) : ∃ z, ds = [[.int .u8 z]] ∧ 0 ≤ z ∧ z ≤ 255 := by
  simp only [RepArgs, RepOne, RepV, Rep] at h
  obtain ⟨_, _, _, _, rfl, rfl, ⟨_, rfl, z, rfl, rfl, h1, h2⟩, rfl, rfl⟩ := h
  exact ⟨z, rfl, u8_bd h1 h2⟩
theorem agg_tx {m : Env} {ds : List (List DV)} {vs : List Value} (h : RepArgs m [.agg tTx] ds vs) : ∃ c s t, ds = [[.int .i64 c, .int .u32 s, .str t]] ∧ 0 ≤ s := by
  simp only [RepArgs, RepOne, tTx, RepV, Rep] at h
  obtain ⟨_, _, _, _, rfl, rfl, ⟨_, rfl, _, _, _, _, rfl, _, ⟨c, rfl, rfl, hc1, hc2⟩, _, _, _, _, rfl, rfl, ⟨s, rfl, rfl, hs1, hs2⟩, _, _, _, _, rfl, rfl, ⟨t, rfl, rfl, ht⟩, rfl, rfl⟩, rfl, rfl⟩ := h
  exact ⟨c, s, t, rfl, (u32_bd hs1 hs2).1⟩
theorem agg_val {m : Env} {ds : List (List DV)} {vs : List Value} (h : RepArgs m [.agg tVal] ds vs) : ∃ k n t, ds = [[.int .i64 k, .int .i64 n, .str t]] := by
  simp only [RepArgs, RepOne, tVal, RepV, Rep] at h
  obtain ⟨_, _, _, _, rfl, rfl, ⟨_, rfl, _, _, _, _, rfl, _, ⟨c, rfl, rfl, hc1, hc2⟩, _, _, _, _, rfl, rfl, ⟨s, rfl, rfl, hs1, hs2⟩, _, _, _, _, rfl, rfl, ⟨t, rfl, rfl, ht⟩, rfl, rfl⟩, rfl, rfl⟩ := h
  exact ⟨c, s, t, rfl⟩
theorem fn36 : FnOK Tryz.prog G 36 [.agg tTx] [.one tI] (fun _ => True) F36 := by
  refine fn_run (spec := fun _ => noSpec) (fun O _ => noSpec_ok O) (by kernel_rfl) p36 c36 ?_
  intro E ds vs h _
  obtain ⟨c, s, t, rfl, hs⟩ := agg_tx h
  simp [p36, goalPlan, den, binD, lenD, rhoOf, F36, txB, iD, sD]
  omega
theorem fn39 : FnOK Tryz.prog G 39 [.agg tTx] [.one .bool] (fun _ => True) F39 := by
  refine fn_run (spec := fun _ => noSpec) (fun O _ => noSpec_ok O) (by kernel_rfl) p39 c39 ?_
  intro E ds vs h _
  obtain ⟨c, s, t, rfl, hs⟩ := agg_tx h
  simp [p39, goalPlan, den, binD, lenD, notD, rhoOf, F39, txB, iD, sD]
  grind
theorem fn63 : FnOK Tryz.prog G 63 [.agg tVal] [.one tI] (fun _ => True) F63 := by
  refine fn_run (spec := fun _ => noSpec) (fun O _ => noSpec_ok O) (by kernel_rfl) p63 c63 ?_
  intro E ds vs h _
  obtain ⟨k, n, t, rfl⟩ := agg_val h
  simp [p63, goalPlan, den, binD, lenD, rhoOf, F63, valB, iD, sD, bstr]
  grind
theorem fn69 : FnOK Tryz.prog G 69 [.agg tVal] [.one .bool] (fun _ => True) F69 := by
  refine fn_run (spec := fun _ => noSpec) (fun O _ => noSpec_ok O) (by kernel_rfl) p69 c69 ?_
  intro E ds vs h _
  obtain ⟨k, n, t, rfl⟩ := agg_val h
  simp [p69, goalPlan, den, binD, lenD, notD, rhoOf, F69, valB, iD, sD, bstr]
  grind
theorem fn102 : FnOK Tryz.prog G 102 [.one tU8] [.one .bool] (fun _ => True) F102 := by
  refine fn_run (spec := fun _ => noSpec) (fun O _ => noSpec_ok O) (by kernel_rfl) p102 c102 ?_
  intro E ds vs h _
  obtain ⟨z, rfl, h1, h2⟩ := one_u8 h
  have := or_z h1 h2
  simp [p102, goalPlan, den, binD, notD, rhoOf, F102, letterZ, iD]
  grind
theorem fn104 : FnOK Tryz.prog G 104 [.one tU8] [.one .bool] (fun _ => True) F104 := by
  refine fn_run (spec := fun _ => noSpec) (fun O _ => noSpec_ok O) (by kernel_rfl) p104 c104 ?_
  intro E ds vs h _
  obtain ⟨z, rfl, h1, h2⟩ := one_u8 h
  have := or_z h1 h2
  simp [p104, goalPlan, den, binD, notD, rhoOf, F104, letterZ, digitZ, iD]
  refine ⟨fun a => ⟨fun b => ?_, fun b => ⟨fun c => ?_, fun c => ?_⟩⟩, fun a => ⟨fun b => ⟨fun c => ?_, fun c => ⟨fun d => ?_, fun d => ?_⟩⟩, fun b => ?_⟩⟩
  all_goals first
    | omega
    | (rw [Bool.eq_iff_iff]; simp; omega)
theorem fn159 : FnOK Tryz.prog G 159 [.one tU8] [.one .bool] (fun _ => True) F102 := by
  refine fn_run (spec := fun _ => noSpec) (fun O _ => noSpec_ok O) (by kernel_rfl) p159 c159 ?_
  intro E ds vs h _
  obtain ⟨z, rfl, h1, h2⟩ := one_u8 h
  simp [p159, goalPlan, den, binD, notD, rhoOf, F102, letterZ, digitZ, iD]
  grind
theorem fn160 : FnOK Tryz.prog G 160 [.one tU8] [.one .bool] (fun _ => True) F160 := by
  refine fn_run (spec := fun _ => noSpec) (fun O _ => noSpec_ok O) (by kernel_rfl) p160 c160 ?_
  intro E ds vs h _
  obtain ⟨z, rfl, h1, h2⟩ := one_u8 h
  simp [p160, goalPlan, den, binD, notD, rhoOf, F160, letterZ, digitZ, iD]
  grind
end Go.Proofs.YteoindgcjoldhaaGreatDoor
namespace Go.Proofs.YteoindgcjoldhaaGreatDoor
open Go Go.AM
/-- The body of a function's first loop. -/
noncomputable def bodyOf (f : FuncId) : Code := match Tryz.prog.funcs[f]? with
  | some fn => match fn.body with
    | some c => c
    | none => .skip
  | none => .skip
noncomputable def loop1 (f : FuncId) : Code := (loopsIn (bodyOf f)).headD .skip
noncomputable def exOfRun : Run → Option Ex
  | some (e, _) => some e
  | none => none
noncomputable def theI : Nat → List DV → DV
  | 102, ds => .list (F102 ds)
  | 104, ds => .list (F104 ds)
  | 160, ds => .list (F160 ds)
  | 36, ds => .list (F36 ds)
  | 39, ds => .list (F39 ds)
  | 63, ds => .list (F63 ds)
  | 69, ds => .list (F69 ds)
  | 67, ds => .list (F67 ds)
  | 1103, ds => .int .i64 (endFrom letterZ (sD ds 0) (iD ds 1))
  | 1104, ds => .int .i64 (endFrom alnumZ (sD ds 0) (iD ds 1))
  | 103, ds => .list (F103 ds)
  | 2103, ds => .list (F2103 ds)
  | 153, ds => .list (F153 ds)
  | 158, ds => .list (F153 ds)
  | 101, ds => .list (F101 ds)
  | 106, ds => .list (F106 ds)
  | 107, ds => .list (F107 ds)
  | 1107, ds => .bool (wordFrom (sD ds 0) (iD ds 1))
  | 37, ds => .list (F37 ds)
  | 40, ds => .list (F40 ds)
  | 1012, ds => .bool (bD ds 2 && sortedFrom (lD ds 0) (iD ds 1))
  | 1015, ds => .bool (sortedFrom (lD ds 0) (iD ds 1))
  | 12, ds => .list (F12 ds)
  | 15, ds => .list (F15 ds)
  | 24, ds => .list (F24 ds)
  | 58, ds => .list (F58 ds)
  | 25, ds => .list (F25 ds)
  | 7, ds => .list (F7 ds)
  | 41, ds => .list (F41 ds)
  | 1041, ds => .bool (eqFrom (lD ds 0) (lD ds 1) (iD ds 2))
  | 16, ds => .list (F16 ds)
  | 17, ds => .list (F16 ds)
  | 9, ds => .list (F9 ds)
  | 66, ds => .list (F66 ds)
  | 65, ds => .list (F65 ds)
  | 38, ds => .list (F65 ds)
  | 14, ds => .list (F14 ds)
  | 1065, ds => .int .i64 (bs (lD ds 0) (iD ds 1) (iD ds 3 - iD ds 2).toNat (iD ds 2) (iD ds 3))
  | 1005, ds => .list (F1005 ds)
  | 6, ds => .list (F6 ds)
  | 64, ds => .list (F68 ds)
  | 68, ds => .list (F68 ds)
  | _, _ => .bool false
noncomputable def sp1 (O : Orc) : FuncId → Option (List AV → AHeap → Out)
  | 102 => some (@symSp O [.one tU8] [.one .bool] [] 102)
  | 104 => some (@symSp O [.one tU8] [.one .bool] [] 104)
  | 159 => some (@symSp O [.one tU8] [.one .bool] [] 102)
  | 160 => some (@symSp O [.one tU8] [.one .bool] [] 160)
  | _ => none
noncomputable def T103 (f : FuncId) : Tmpl := ⟨[(0, .sy .str (.v 0)), (1, .sc (.func (.func f) #[] #[])), (5, .sy tI (.v 1))], []⟩
noncomputable def L103 (f fid : Nat) (ex : Nat) : LoopSp :=
  { n := 20, T := T103 f, src := [.tm 0 .str, .tm 5 tI], pre := [(.bin .lss (.v 1) zeroS, false), (.bin .lss (.len (.v 0)) (.v 1), false)], cnd := .kb true,
    yes := (.exit ex, Tmpl.sub ⟨[(5, .sy tI (.v 0))], []⟩ [.app fid [.v 0, .v 1]]), no := (.exit ex, Tmpl.sub ⟨[(5, .sy tI (.v 0))], []⟩ [.app fid [.v 0, .v 1]]) }
end Go.Proofs.YteoindgcjoldhaaGreatDoor
namespace Go.Proofs.YteoindgcjoldhaaGreatDoor
open Go Go.AM
theorem fn_weak {f : FuncId} {sg rs : Sig} {F : List DV → List (List DV)} {pre : List DV → Prop} (h : FnOK Tryz.prog G f sg rs (fun _ => True) F) : FnOK Tryz.prog G f sg rs pre F :=
  ⟨h.1, fun E ds vs w a b _ d => h.2 E ds vs w a b trivial d⟩
theorem spec_one [O : Orc] {f fid : Nat} {sg rs : Sig} {F : List DV → List (List DV)} (h : FnOK Tryz.prog G f sg rs (fun _ => True) F) (hI : ∀ ds, O.I fid ds = .list (F ds)) : CallOK Tryz.prog G (fun g args h => if g = f then symSp sg rs [] fid args h else none) :=
  symSp_ok plainG (fn_weak h) hI rfl
theorem sp1_ok (O : Orc) (hO : O.I = theI) : SpecOK Tryz.prog G (sp1 O) := by
  intro f sp h
  unfold sp1 at h
  split at h <;> cases h
  · exact spec_one fn102 fun ds => by rw [hO]; rfl
  · exact spec_one fn104 fun ds => by rw [hO]; rfl
  · exact spec_one fn159 fun ds => by rw [hO]; rfl
  · exact spec_one fn160 fun ds => by rw [hO]; rfl

/-! ### Where letters end -/
theorem endFrom_ge {p : Int → Bool} {s : ByteArray} {n : Int} (h : (s.size : Int) ≤ n) : endFrom p s n = n := by
  unfold endFrom
  have : s.data.toList.drop n.toNat = [] := List.drop_eq_nil_of_le (by simp; omega)
  rw [this]
  simp
theorem drop_cons {s : ByteArray} {n : Int} (h0 : 0 ≤ n) (h : n < s.size) : s.data.toList.drop n.toNat = s.data.toList.getD n.toNat 0 :: s.data.toList.drop (n + 1).toNat := by
  have hl : n.toNat < s.data.toList.length := by simp; omega
  rw [List.drop_eq_getElem_cons hl, show (n + 1).toNat = n.toNat + 1 by omega]
  simp [List.getD_eq_getElem?_getD, List.getElem?_eq_getElem hl]
theorem endFrom_no {p : Int → Bool} {s : ByteArray} {n : Int} (h0 : 0 ≤ n) (h : n < s.size) (hp : p (s.data.toList.getD n.toNat 0).toNat = false) : endFrom p s n = n := by
  unfold endFrom
  rw [drop_cons h0 h, List.takeWhile_cons, if_neg (by rw [hp]; simp)]
  simp
theorem endFrom_yes {p : Int → Bool} {s : ByteArray} {n : Int} (h0 : 0 ≤ n) (h : n < s.size) (hp : p (s.data.toList.getD n.toNat 0).toNat = true) : endFrom p s (n + 1) = endFrom p s n := by
  unfold endFrom
  rw [drop_cons h0 h, List.takeWhile_cons, if_pos hp]
  simp
  omega

def inv2 (R : Rho) : Prop := ∃ (s : ByteArray) (n : Int), R.ρ 0 = .str s ∧ R.ρ 1 = .int .i64 n ∧ 0 ≤ n ∧ n ≤ s.size ∧ s.size ≤ maxLen
noncomputable def mu2 (R : Rho) : Nat := match R.ρ 0, R.ρ 1 with
  | .str s, .int _ n => s.size - n.toNat
  | _, _ => 0
theorem wrap_i64 {z : Int} (h0 : 0 ≤ z) (h1 : z ≤ maxLen) : IntKind.i64.wrap z = z := by
  unfold maxLen at h1
  exact Go.IntWalk.i64_in z (by omega)

theorem x1103a : stepExit (L103 102 1103 0) ⟨[(5, .sy tI (.v 0))], []⟩ (.exit 0) [.v 1] (@codeL (mkO [(.bin .lss (.v 1) (.len (.v 0)), false)] theI) Tryz.prog G (sp1 (mkO [(.bin .lss (.v 1) (.len (.v 0)), false)] theI)) 100 (fun _ => none) (loop1 103) ((L103 102 1103 0).T.st (L103 102 1103 0).n)) = true := by kernel_rfl
noncomputable def f1103 (b : Bool) : List (SX × Bool) := [(.bin .lss (.v 1) (.len (.v 0)), true), (.bin .lss (.v 1) zeroS, false), (.at (.app 102 [.byte (.v 0) (.v 1)]) (.ki .i64 (.ofNat 0)) 0, b)]
theorem x1103b : stepExit (L103 102 1103 0) ⟨[(5, .sy tI (.v 0))], []⟩ (.exit 0) [.v 1] (@codeL (mkO (f1103 false) theI) Tryz.prog G (sp1 (mkO (f1103 false) theI)) 100 (fun _ => none) (loop1 103) ((L103 102 1103 0).T.st (L103 102 1103 0).n)) = true := by kernel_rfl
theorem x1103c : stepNext (L103 102 1103 0) [.v 0, .bin .add (.v 1) (.ki .i64 (.ofNat 1))] (@codeL (mkO (f1103 true) theI) Tryz.prog G (sp1 (mkO (f1103 true) theI)) 100 (fun _ => none) (loop1 103) ((L103 102 1103 0).T.st (L103 102 1103 0).n)) = true := by kernel_rfl
theorem noLoops103 : LoopsOK Tryz.prog G theI (fun _ => none) (loop1 103) := fun _ _ _ h => by cases h
theorem lk1103 : LoopOK Tryz.prog G theI (loop1 103) (L103 102 1103 0) := by
  refine loop_ind (spec := sp1) hmix hNum sp1_ok plainG 100 noLoops103 (by kernel_rfl) inv2 mu2 ?_ ?_
  · intro m a w hr hp
    obtain ⟨_, z2, _, _, _⟩ := hr
    have h0 := z2 0
    have h5 := z2 5
    have e0 : (((L103 102 1103 0).T.st (L103 102 1103 0).n).tm.get 0).getD (.sc undef) = .sy .str (.v 0) := by kernel_rfl
    have e5 : (((L103 102 1103 0).T.st (L103 102 1103 0).n).tm.get 5).getD (.sc undef) = .sy tI (.v 1) := by kernel_rfl
    rw [e0] at h0
    rw [e5] at h5
    simp only [V, Rep, den] at h0 h5
    obtain ⟨s, h1, _, h2⟩ := h0
    obtain ⟨n, h3, _, _, _⟩ := h5
    have p1 := hp (.bin .lss (.v 1) zeroS, false) (by simp [L103])
    have p2 := hp (.bin .lss (.len (.v 0)) (.v 1), false) (by simp [L103])
    simp [den, h1, h3, zeroS, binD, lenD] at p1 p2
    exact ⟨s, n, h1, h3, p1, p2, h2⟩
  · rintro R hI ⟨s, n, h0, h1, h2, h3, h4⟩
    have hI' : ∀ k ds, R.I k ds = theI k ds := fun k ds => by rw [hI]
    by_cases hlt : n < s.size
    · have hb : den R (.at (.app 102 [.byte (.v 0) (.v 1)]) (.ki .i64 (.ofNat 0)) 0) = .bool (letterZ (s.data.toList.getD n.toNat 0).toNat) := by
        simp [den, den.denL, hI', h0, h1, byteD, theI, F102, iD, atD]
      cases hp : letterZ (s.data.toList.getD n.toNat 0).toNat with
      | false =>
        refine StepOK.exit (T' := ⟨[(5, .sy tI (.v 0))], []⟩) (e := .exit 0) (outs := [.app 1103 [.v 0, .v 1]]) (τ := [.v 1]) (b := true) (f1103 false) x1103b ?_ rfl rfl ?_
        · intro q hq
          simp only [f1103, List.mem_cons, List.not_mem_nil, or_false] at hq
          rcases hq with rfl | rfl | rfl
          · simp [den, h0, h1, binD, lenD, hlt]
          · simp [den, h1, zeroS, binD]; omega
          · rw [hb, hp]
        · intro j
          cases j with
          | zero => simp [den, den.denL, hI', h0, h1, theI, sD, iD]; exact endFrom_no (p := letterZ) h2 hlt hp
          | succ j => simp
      | true =>
        refine StepOK.next [.v 0, .bin .add (.v 1) (.ki .i64 (.ofNat 1))] (f1103 true) x1103c ?_ ?_ ?_ rfl ?_
        · intro q hq
          simp only [f1103, List.mem_cons, List.not_mem_nil, or_false] at hq
          rcases hq with rfl | rfl | rfl
          · simp [den, h0, h1, binD, lenD, hlt]
          · simp [den, h1, zeroS, binD]; omega
          · rw [hb, hp]
        · refine ⟨s, n + 1, h0, ?_, by omega, by omega, h4⟩
          simp [Rho.sub, den, h1, binD]
          exact wrap_i64 (by omega) (by omega)
        · have e1 : (R.sub [.v 0, .bin .add (.v 1) (.ki .i64 (.ofNat 1))]).ρ 1 = .int .i64 (n + 1) := by
            simp [Rho.sub, den, h1, binD]
            exact wrap_i64 (by omega) (by omega)
          have e0 : (R.sub [.v 0, .bin .add (.v 1) (.ki .i64 (.ofNat 1))]).ρ 0 = .str s := h0
          simp only [mu2, e0, e1, h0, h1]
          omega
        · have e1 : (R.sub [.v 0, .bin .add (.v 1) (.ki .i64 (.ofNat 1))]).ρ 1 = .int .i64 (n + 1) := by
            simp [Rho.sub, den, h1, binD]
            exact wrap_i64 (by omega) (by omega)
          have e0 : (R.sub [.v 0, .bin .add (.v 1) (.ki .i64 (.ofNat 1))]).ρ 0 = .str s := h0
          have eI : ∀ k ds, (R.sub [.v 0, .bin .add (.v 1) (.ki .i64 (.ofNat 1))]).I k ds = theI k ds := hI'
          have key : den (R.sub [.v 0, .bin .add (.v 1) (.ki .i64 (.ofNat 1))]) (.app 1103 [.v 0, .v 1]) = den R (.app 1103 [.v 0, .v 1]) := by
            simp only [den, den.denL, e0, e1, h0, h1, hI', eI]
            simp [theI, sD, iD]
            exact endFrom_yes (p := letterZ) h2 hlt hp
          intro b _ x hx
          have hx' : x = .app 1103 [.v 0, .v 1] := by cases b <;> simpa [L103, LoopSp.pick, Tmpl.sub, Tmpl.sxs, substTm, substAV, subst, subst.substs, sxsTm, sxsOb, sxs, substOb] using hx
          rw [hx', key]
    · refine StepOK.exit (T' := ⟨[(5, .sy tI (.v 0))], []⟩) (e := .exit 0) (outs := [.app 1103 [.v 0, .v 1]]) (τ := [.v 1]) (b := true) [(.bin .lss (.v 1) (.len (.v 0)), false)] x1103a ?_ rfl rfl ?_
      · intro q hq
        simp only [List.mem_cons, List.not_mem_nil, or_false] at hq
        subst hq
        simp [den, h0, h1, binD, lenD]
        omega
      · intro j
        cases j with
        | zero => simp [den, den.denL, hI', h0, h1, theI, sD, iD]; exact endFrom_ge (p := letterZ) (by omega)
        | succ j => simp

theorem x1104a : stepExit (L103 104 1104 0) ⟨[(5, .sy tI (.v 0))], []⟩ (.exit 0) [.v 1] (@codeL (mkO [(.bin .lss (.v 1) (.len (.v 0)), false)] theI) Tryz.prog G (sp1 (mkO [(.bin .lss (.v 1) (.len (.v 0)), false)] theI)) 100 (fun _ => none) (loop1 103) ((L103 104 1104 0).T.st (L103 104 1104 0).n)) = true := by kernel_rfl
noncomputable def f1104 (b : Bool) : List (SX × Bool) := [(.bin .lss (.v 1) (.len (.v 0)), true), (.bin .lss (.v 1) zeroS, false), (.at (.app 104 [.byte (.v 0) (.v 1)]) (.ki .i64 (.ofNat 0)) 0, b)]
theorem x1104b : stepExit (L103 104 1104 0) ⟨[(5, .sy tI (.v 0))], []⟩ (.exit 0) [.v 1] (@codeL (mkO (f1104 false) theI) Tryz.prog G (sp1 (mkO (f1104 false) theI)) 100 (fun _ => none) (loop1 103) ((L103 104 1104 0).T.st (L103 104 1104 0).n)) = true := by kernel_rfl
theorem x1104c : stepNext (L103 104 1104 0) [.v 0, .bin .add (.v 1) (.ki .i64 (.ofNat 1))] (@codeL (mkO (f1104 true) theI) Tryz.prog G (sp1 (mkO (f1104 true) theI)) 100 (fun _ => none) (loop1 103) ((L103 104 1104 0).T.st (L103 104 1104 0).n)) = true := by kernel_rfl
theorem lk1104 : LoopOK Tryz.prog G theI (loop1 103) (L103 104 1104 0) := by
  refine loop_ind (spec := sp1) hmix hNum sp1_ok plainG 100 noLoops103 (by kernel_rfl) inv2 mu2 ?_ ?_
  · intro m a w hr hp
    obtain ⟨_, z2, _, _, _⟩ := hr
    have h0 := z2 0
    have h5 := z2 5
    have e0 : (((L103 104 1104 0).T.st (L103 104 1104 0).n).tm.get 0).getD (.sc undef) = .sy .str (.v 0) := by kernel_rfl
    have e5 : (((L103 104 1104 0).T.st (L103 104 1104 0).n).tm.get 5).getD (.sc undef) = .sy tI (.v 1) := by kernel_rfl
    rw [e0] at h0
    rw [e5] at h5
    simp only [V, Rep, den] at h0 h5
    obtain ⟨s, h1, _, h2⟩ := h0
    obtain ⟨n, h3, _, _, _⟩ := h5
    have p1 := hp (.bin .lss (.v 1) zeroS, false) (by simp [L103])
    have p2 := hp (.bin .lss (.len (.v 0)) (.v 1), false) (by simp [L103])
    simp [den, h1, h3, zeroS, binD, lenD] at p1 p2
    exact ⟨s, n, h1, h3, p1, p2, h2⟩
  · rintro R hI ⟨s, n, h0, h1, h2, h3, h4⟩
    have hI' : ∀ k ds, R.I k ds = theI k ds := fun k ds => by rw [hI]
    by_cases hlt : n < s.size
    · have hb : den R (.at (.app 104 [.byte (.v 0) (.v 1)]) (.ki .i64 (.ofNat 0)) 0) = .bool (alnumZ (s.data.toList.getD n.toNat 0).toNat) := by
        simp [den, den.denL, hI', h0, h1, byteD, theI, F104, iD, atD, alnumZ]
      cases hp : alnumZ (s.data.toList.getD n.toNat 0).toNat with
      | false =>
        refine StepOK.exit (T' := ⟨[(5, .sy tI (.v 0))], []⟩) (e := .exit 0) (outs := [.app 1104 [.v 0, .v 1]]) (τ := [.v 1]) (b := true) (f1104 false) x1104b ?_ rfl rfl ?_
        · intro q hq
          simp only [f1104, List.mem_cons, List.not_mem_nil, or_false] at hq
          rcases hq with rfl | rfl | rfl
          · simp [den, h0, h1, binD, lenD, hlt]
          · simp [den, h1, zeroS, binD]; omega
          · rw [hb, hp]
        · intro j
          cases j with
          | zero => simp [den, den.denL, hI', h0, h1, theI, sD, iD]; exact endFrom_no (p := alnumZ) h2 hlt hp
          | succ j => simp
      | true =>
        refine StepOK.next [.v 0, .bin .add (.v 1) (.ki .i64 (.ofNat 1))] (f1104 true) x1104c ?_ ?_ ?_ rfl ?_
        · intro q hq
          simp only [f1104, List.mem_cons, List.not_mem_nil, or_false] at hq
          rcases hq with rfl | rfl | rfl
          · simp [den, h0, h1, binD, lenD, hlt]
          · simp [den, h1, zeroS, binD]; omega
          · rw [hb, hp]
        · refine ⟨s, n + 1, h0, ?_, by omega, by omega, h4⟩
          simp [Rho.sub, den, h1, binD]
          exact wrap_i64 (by omega) (by omega)
        · have e1 : (R.sub [.v 0, .bin .add (.v 1) (.ki .i64 (.ofNat 1))]).ρ 1 = .int .i64 (n + 1) := by
            simp [Rho.sub, den, h1, binD]
            exact wrap_i64 (by omega) (by omega)
          have e0 : (R.sub [.v 0, .bin .add (.v 1) (.ki .i64 (.ofNat 1))]).ρ 0 = .str s := h0
          simp only [mu2, e0, e1, h0, h1]
          omega
        · have e1 : (R.sub [.v 0, .bin .add (.v 1) (.ki .i64 (.ofNat 1))]).ρ 1 = .int .i64 (n + 1) := by
            simp [Rho.sub, den, h1, binD]
            exact wrap_i64 (by omega) (by omega)
          have e0 : (R.sub [.v 0, .bin .add (.v 1) (.ki .i64 (.ofNat 1))]).ρ 0 = .str s := h0
          have eI : ∀ k ds, (R.sub [.v 0, .bin .add (.v 1) (.ki .i64 (.ofNat 1))]).I k ds = theI k ds := hI'
          have key : den (R.sub [.v 0, .bin .add (.v 1) (.ki .i64 (.ofNat 1))]) (.app 1104 [.v 0, .v 1]) = den R (.app 1104 [.v 0, .v 1]) := by
            simp only [den, den.denL, e0, e1, h0, h1, hI', eI]
            simp [theI, sD, iD]
            exact endFrom_yes (p := alnumZ) h2 hlt hp
          intro b _ x hx
          have hx' : x = .app 1104 [.v 0, .v 1] := by cases b <;> simpa [L103, LoopSp.pick, Tmpl.sub, Tmpl.sxs, substTm, substAV, subst, subst.substs, sxsTm, sxsOb, sxs, substOb] using hx
          rw [hx', key]
    · refine StepOK.exit (T' := ⟨[(5, .sy tI (.v 0))], []⟩) (e := .exit 0) (outs := [.app 1104 [.v 0, .v 1]]) (τ := [.v 1]) (b := true) [(.bin .lss (.v 1) (.len (.v 0)), false)] x1104a ?_ rfl rfl ?_
      · intro q hq
        simp only [List.mem_cons, List.not_mem_nil, or_false] at hq
        subst hq
        simp [den, h0, h1, binD, lenD]
        omega
      · intro j
        cases j with
        | zero => simp [den, den.denL, hI', h0, h1, theI, sD, iD]; exact endFrom_ge (p := alnumZ) (by omega)
        | succ j => simp


theorem bodyOf_eq {f : FuncId} {fn : Func} {c : Code} (h1 : Tryz.prog.funcs[f]? = some fn) (h2 : fn.body = some c) : bodyOf f = c := by
  unfold bodyOf
  split
  · rename_i fn' e
    have : fn' = fn := Option.some.inj (e.symm.trans h1)
    subst this
    split
    · rename_i c' e'
      exact Option.some.inj (e'.symm.trans h2)
    · rename_i e'
      rw [h2] at e'
      cases e'
  · rename_i e
    rw [h1] at e
    cases e
/-- A function whose loops are taken by contracts. -/
theorem fn_loops {spec : Orc → FuncId → Option (List AV → AHeap → Out)} (hsp : ∀ O : Orc, O.I = theI → @SpecOK O Tryz.prog G (spec O)) {f : FuncId} {sg rs : Sig} {pre : List DV → Prop} {F : List DV → List (List DV)} {lps : Nat → Option LoopSp} (hl : LoopsOK Tryz.prog G theI lps (bodyOf f)) (hb : hasB f = true) (p : Pln)
    (hc : checkPlan rs (fun facts => @callL (mkO facts theI) Tryz.prog G (spec (mkO facts theI)) 100 lps f (mkArgs 0 sg) heap0) [] p = true)
    (hgoal : ∀ (E : Nat → Option Obj) (ds : List (List DV)) (vs : List Value), RepArgs (envE E) sg ds vs → pre ds.flatten → goalPlan (rhoOf theI ds.flatten) (F ds.flatten) p) : FnOK Tryz.prog G f sg rs pre F := by
  have hl' : ∀ (O : Orc), O.I = theI → ∀ (fn : Func) (c : Code), Tryz.prog.funcs[f]? = some fn → fn.body = some c → LoopsOK Tryz.prog G O.I lps c := by
    intro O hO fn c h1 h2
    rw [hO, ← bodyOf_eq h1 h2]
    exact hl
  have hcall : ∀ O : Orc, O.I = theI → @CallOK O Tryz.prog G (fun g args h => if g = f then @callL O Tryz.prog G (spec O) 100 lps g args h else none) := by
    intro O hI
    rw [sameF]
    exact @callL_ok O Tryz.prog G (spec O) lps hmix hNum (hsp O hI) plainG 100 f (hl' O hI)
  exact fn_plan (call := fun O => @callL O Tryz.prog G (spec O) 100 lps) plainG (hasB_ok hb) hcall p hc hgoal
noncomputable def lp (k : Nat) (L : LoopSp) : Nat → Option LoopSp := fun i => match Nat.beq i k with | true => some L | false => none
theorem loops_one {f k : Nat} {L : LoopSp} (h1 : (loopsIn (bodyOf f)).length = 1) (h : LoopOK Tryz.prog G theI (loop1 f) L) : LoopsOK Tryz.prog G theI (lp k L) (bodyOf f) := by
  intro B hB L' hL
  unfold lp at hL
  have hB' : B = loop1 f := by
    unfold loop1
    cases hl : loopsIn (bodyOf f) with
    | nil => rw [hl] at hB; cases hB
    | cons x xs =>
      rw [hl] at h1 hB
      have : xs = [] := by simpa using h1
      subst this
      simpa using hB
  split at hL
  · cases hL; rw [hB']; exact h
  · cases hL
theorem one103 : (loopsIn (bodyOf 103)).length = 1 := by kernel_rfl
noncomputable def p1103 : Pln :=
  (.done [[(.app 1103 [(.v 0), (.ki .i64 (.ofNat 0))])]])
noncomputable def p1104 : Pln :=
  (.done [[(.app 1104 [(.v 0), (.ki .i64 (.ofNat 0))])]])

theorem c103 : checkPlan [.one tI] (fun facts => @callL (mkO facts theI) Tryz.prog G (sp1 (mkO facts theI)) 100 (lp 3 (L103 102 1103 0)) 103 (mkArgs 0 [.one .str, .con 102]) heap0) [] p1103 = true := by kernel_rfl
theorem c2103 : checkPlan [.one tI] (fun facts => @callL (mkO facts theI) Tryz.prog G (sp1 (mkO facts theI)) 100 (lp 3 (L103 104 1104 0)) 103 (mkArgs 0 [.one .str, .con 104]) heap0) [] p1104 = true := by kernel_rfl
theorem str_con {m : Env} {f : FuncId} {ds : List (List DV)} {vs : List Value} (h : RepArgs m [.one .str, .con f] ds vs) : ∃ s, ds = [[.str s], []] ∧ s.size ≤ maxLen := by
  simp only [RepArgs, RepOne, Rep] at h
  obtain ⟨_, _, _, _, rfl, rfl, ⟨_, rfl, s, rfl, rfl, hs⟩, _, _, _, _, rfl, rfl, ⟨rfl, rfl⟩, rfl, rfl⟩ := h
  exact ⟨s, rfl, hs⟩
theorem one_str {m : Env} {ds : List (List DV)} {vs : List Value} (h : RepArgs m [.one .str] ds vs) : ∃ s, ds = [[.str s]] ∧ s.size ≤ maxLen := by
  simp only [RepArgs, RepOne, Rep] at h
  obtain ⟨_, _, _, _, rfl, rfl, ⟨_, rfl, s, rfl, rfl, hs⟩, rfl, rfl⟩ := h
  exact ⟨s, rfl, hs⟩
theorem fn103 : FnOK Tryz.prog G 103 [.one .str, .con 102] [.one tI] (fun _ => True) F103 := by
  refine fn_loops (spec := sp1) (lps := lp 3 (L103 102 1103 0)) sp1_ok (loops_one one103 lk1103) (by kernel_rfl) p1103 c103 ?_
  intro E ds vs h _
  obtain ⟨s, rfl, hs⟩ := str_con h
  simp [p1103, goalPlan, den, den.denL, rhoOf, F103, theI, sD, iD]
theorem fn2103 : FnOK Tryz.prog G 103 [.one .str, .con 104] [.one tI] (fun _ => True) F2103 := by
  refine fn_loops (spec := sp1) (lps := lp 3 (L103 104 1104 0)) sp1_ok (loops_one one103 lk1104) (by kernel_rfl) p1104 c2103 ?_
  intro E ds vs h _
  obtain ⟨s, rfl, hs⟩ := str_con h
  simp [p1104, goalPlan, den, den.denL, rhoOf, F2103, theI, sD, iD]
end Go.Proofs.YteoindgcjoldhaaGreatDoor
namespace Go.Proofs.YteoindgcjoldhaaGreatDoor
open Go Go.AM
theorem wordFrom_ge {s : ByteArray} {n : Int} (h : (s.size : Int) ≤ n) : wordFrom s n = true := by
  unfold wordFrom
  simp only [decide_eq_true_eq]
  intro j h1 h2
  omega
theorem wordFrom_step {s : ByteArray} {n : Int} (h0 : 0 ≤ n) (h : n < s.size) : wordFrom s n = ((letterZ (byteZ s n.toNat) || (decide (n ≠ 0) && digitZ (byteZ s n.toNat))) && wordFrom s (n + 1)) := by
  rw [Bool.eq_iff_iff]
  simp only [wordFrom, decide_eq_true_eq, Bool.and_eq_true]
  constructor
  · intro H
    refine ⟨?_, fun j h1 h2 => H j h1 (by omega)⟩
    have := H n.toNat (by omega) (by omega)
    have e : decide (n.toNat ≠ 0) = decide (n ≠ 0) := by
      by_cases hz : n = 0
      · simp [hz]
      · have : n.toNat ≠ 0 := by omega
        simp [hz, this]
    rw [e] at this
    exact this
  · rintro ⟨H1, H2⟩ j h1 h2
    by_cases e : (j : Int) = n
    · have e2 : n.toNat = j := by omega
      rw [e2] at H1
      have e : decide (j ≠ 0) = decide (n ≠ 0) := by
        by_cases hz : n = 0
        · have : j = 0 := by omega
          simp [hz, this]
        · have : j ≠ 0 := by omega
          simp [hz, this]
      rw [e]
      exact H1
    · exact H2 j h1 (by omega)
noncomputable def T107 : Tmpl := ⟨[(0, .sy .str (.v 0)), (2, .sc (.bool false)), (5, .sy tI (.len (.v 0))), (6, .sy tI (.v 1))], []⟩
noncomputable def Y107 : Tmpl := ⟨[(0, .sy .str (.v 0))], []⟩
noncomputable def N107 : Tmpl := ⟨[(2, .sc (.bool false))], []⟩
noncomputable def L107 : LoopSp :=
  { n := 28, T := T107, src := [.tm 0 .str, .tm 6 tI], pre := [(.bin .lss (.v 1) zeroS, false), (.bin .lss (.len (.v 0)) (.v 1), false)], cnd := .app 1107 [.v 0, .v 1],
    yes := (.exit 0, Y107.sub [.v 0]), no := (.ret, N107.sub []) }
noncomputable def run107 (facts : List (SX × Bool)) (s : St) : Run := @codeL (mkO facts theI) Tryz.prog G (sp1 (mkO facts theI)) 100 (fun _ => none) (loop1 107) s
noncomputable def letA : SX := .at (.app 102 [.byte (.v 0) (.v 1)]) (.ki .i64 (.ofNat 0)) 0
noncomputable def digA : SX := .at (.app 160 [.byte (.v 0) (.v 1)]) (.ki .i64 (.ofNat 0)) 0
noncomputable def in107 : List (SX × Bool) := [(.bin .lss (.v 1) (.len (.v 0)), true), (.bin .lss (.v 1) zeroS, false)]
noncomputable def g1 : List (SX × Bool) := [(.bin .lss (.v 1) (.len (.v 0)), false)]
noncomputable def g2 : List (SX × Bool) := (letA, true) :: in107
noncomputable def g3 : List (SX × Bool) := (letA, false) :: (.bin .eql (.v 1) zeroS, true) :: in107
noncomputable def g4 (b : Bool) : List (SX × Bool) := (letA, false) :: (.bin .eql (.v 1) zeroS, false) :: (digA, b) :: in107
noncomputable def nx : List SX := [.v 0, .bin .add (.v 1) (.ki .i64 (.ofNat 1))]
theorem y1 : stepExit L107 Y107 (.exit 0) [.v 0] (run107 g1 (L107.T.st L107.n)) = true := by kernel_rfl
theorem y2 : stepNext L107 nx (run107 g2 (L107.T.st L107.n)) = true := by kernel_rfl
theorem y3 : stepExit L107 N107 .ret [] (run107 g3 (L107.T.st L107.n)) = true := by kernel_rfl
theorem y4 : stepNext L107 nx (run107 (g4 true) (L107.T.st L107.n)) = true := by kernel_rfl
theorem y5 : stepExit L107 N107 .ret [] (run107 (g4 false) (L107.T.st L107.n)) = true := by kernel_rfl
theorem one107 : (loopsIn (bodyOf 107)).length = 1 := by kernel_rfl
theorem noLoops107 : LoopsOK Tryz.prog G theI (fun _ => none) (loop1 107) := fun _ _ _ h => by cases h
theorem nx_rho {R : Rho} {s : ByteArray} {n : Int} (h0 : R.ρ 0 = .str s) (h1 : R.ρ 1 = .int .i64 n) (h2 : 0 ≤ n) (h3 : n < s.size) (h4 : s.size ≤ maxLen) : (R.sub nx).ρ 0 = .str s ∧ (R.sub nx).ρ 1 = .int .i64 (n + 1) := by
  refine ⟨h0, ?_⟩
  simp [nx, Rho.sub, den, h1, binD]
  exact wrap_i64 (by omega) (by omega)
theorem lk107 : LoopOK Tryz.prog G theI (loop1 107) L107 := by
  refine loop_ind (spec := sp1) hmix hNum sp1_ok plainG 100 noLoops107 (by kernel_rfl) inv2 mu2 ?_ ?_
  · intro m a w hr hp
    obtain ⟨_, z2, _, _, _⟩ := hr
    have h0 := z2 0
    have h6 := z2 6
    have e0 : ((L107.T.st L107.n).tm.get 0).getD (.sc undef) = .sy .str (.v 0) := by kernel_rfl
    have e6 : ((L107.T.st L107.n).tm.get 6).getD (.sc undef) = .sy tI (.v 1) := by kernel_rfl
    rw [e0] at h0
    rw [e6] at h6
    simp only [V, Rep, den] at h0 h6
    obtain ⟨s, h1, _, h2⟩ := h0
    obtain ⟨n, h3, _, _, _⟩ := h6
    have p1 := hp (.bin .lss (.v 1) zeroS, false) (by simp [L107])
    have p2 := hp (.bin .lss (.len (.v 0)) (.v 1), false) (by simp [L107])
    simp [den, h1, h3, zeroS, binD, lenD] at p1 p2
    exact ⟨s, n, h1, h3, p1, p2, h2⟩
  · rintro R hI ⟨s, n, h0, h1, h2, h3, h4⟩
    have hI' : ∀ k ds, R.I k ds = theI k ds := fun k ds => by rw [hI]
    have hcnd : den R L107.cnd = .bool (wordFrom s n) := by simp [L107, den, den.denL, hI', h0, h1, theI, sD, iD]
    have hx : ∀ b, ∀ x ∈ (L107.pick b).2.sxs, den (R.sub nx) x = den R x := by
      intro b x hx
      cases b with
      | false => simp [L107, LoopSp.pick, N107, Tmpl.sub, Tmpl.sxs, substTm, substAV, sxsTm, sxsOb, sxs, substOb] at hx
      | true =>
        have : x = .v 0 := by simpa [L107, LoopSp.pick, Y107, Tmpl.sub, Tmpl.sxs, substTm, substAV, subst, sxsTm, sxsOb, sxs, substOb] using hx
        subst this
        rfl
    by_cases hlt : n < s.size
    · have hl : den R letA = .bool (letterZ (byteZ s n.toNat)) := by simp [letA, den, den.denL, hI', h0, h1, byteD, theI, F102, iD, atD, byteZ]
      have hd : den R digA = .bool (digitZ (byteZ s n.toNat)) := by simp [digA, den, den.denL, hI', h0, h1, byteD, theI, F160, iD, atD, byteZ]
      have hin : ∀ q ∈ in107, den R q.1 = .bool q.2 := by
        intro q hq
        simp only [in107, List.mem_cons, List.not_mem_nil, or_false] at hq
        rcases hq with rfl | rfl
        · simp [den, h0, h1, binD, lenD, hlt]
        · simp [den, h1, zeroS, binD]; omega
      have hstep := wordFrom_step h2 hlt
      have next : ∀ facts, stepNext L107 nx (run107 facts (L107.T.st L107.n)) = true → (∀ q ∈ facts, den R q.1 = .bool q.2) → wordFrom s n = wordFrom s (n + 1) → StepOK theI run107 L107 inv2 mu2 R := by
        intro facts hc hf hw
        obtain ⟨e0, e1⟩ := nx_rho h0 h1 h2 hlt h4
        refine StepOK.next nx facts hc hf ⟨s, n + 1, e0, e1, by omega, by omega, h4⟩ ?_ ?_ (fun b _ => hx b)
        · simp only [mu2, e0, e1, h0, h1]
          omega
        · have eI : ∀ k ds, (R.sub nx).I k ds = theI k ds := hI'
          rw [hcnd, hw]
          simp [L107, den, den.denL, eI, e0, e1, theI, sD, iD]
      cases hL : letterZ (byteZ s n.toNat) with
      | true =>
        refine next g2 y2 ?_ (by rw [hstep, hL]; simp)
        intro q hq
        simp only [g2, List.mem_cons] at hq
        rcases hq with rfl | hq
        · rw [hl, hL]
        · exact hin q hq
      | false =>
        by_cases hz : n = 0
        · refine StepOK.exit (T' := N107) (e := .ret) (outs := []) (τ := []) (b := false) g3 y3 ?_ (by rw [hcnd, hstep, hL]; simp [hz]) rfl (fun _ => rfl)
          intro q hq
          simp only [g3, List.mem_cons] at hq
          rcases hq with rfl | rfl | hq
          · rw [hl, hL]
          · simp [den, h1, zeroS, binD, hz]
          · exact hin q hq
        · cases hD : digitZ (byteZ s n.toNat) with
          | true =>
            refine next (g4 true) y4 ?_ (by rw [hstep, hL, hD]; simp [hz])
            intro q hq
            simp only [g4, List.mem_cons] at hq
            rcases hq with rfl | rfl | rfl | hq
            · rw [hl, hL]
            · simp [den, h1, zeroS, binD, hz]
            · rw [hd, hD]
            · exact hin q hq
          | false =>
            refine StepOK.exit (T' := N107) (e := .ret) (outs := []) (τ := []) (b := false) (g4 false) y5 ?_ (by rw [hcnd, hstep, hL, hD]; simp) rfl (fun _ => rfl)
            intro q hq
            simp only [g4, List.mem_cons] at hq
            rcases hq with rfl | rfl | rfl | hq
            · rw [hl, hL]
            · simp [den, h1, zeroS, binD, hz]
            · rw [hd, hD]
            · exact hin q hq
    · refine StepOK.exit (T' := Y107) (e := .exit 0) (outs := [.v 0]) (τ := [.v 0]) (b := true) g1 y1 ?_ (by rw [hcnd, wordFrom_ge (by omega)]) rfl (fun _ => rfl)
      intro q hq
      simp only [g1, List.mem_cons, List.not_mem_nil, or_false] at hq
      subst hq
      simp [den, h0, h1, binD, lenD]
      omega
end Go.Proofs.YteoindgcjoldhaaGreatDoor
