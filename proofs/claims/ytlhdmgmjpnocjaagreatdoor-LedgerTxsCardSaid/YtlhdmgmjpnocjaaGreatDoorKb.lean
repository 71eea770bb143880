/-
  A part of the proof of LedgerTxs (the machine on named data, and the contracts of the functions that the law reaches): Lf5 Lf6 Lf7 Lf8.
-/
import Derived.Test.YtlhdmgmjpnocjaaGreatDoorKa
set_option linter.all false
set_option linter.unusedVariables false
set_option linter.unusedSimpArgs false
set_option linter.unusedSectionVars false
namespace Go.Proofs.YtlhdmgmjpnocjaaGreatDoor
open Go Go.AM
noncomputable abbrev k64 (n : Nat) : SX := .ki .i64 (.ofNat n)
noncomputable abbrev lss (a b : SX) : SX := .bin .lss a b
noncomputable def p9 : Pln :=
  (.ask (.bin .lss (.v 0) (.ki .i64 (.ofNat 1)))
    (.done [[(.ki .i64 (.ofNat 270))]])
    (.ask (.bin .lss (.ki .i64 (.ofNat 3)) (.v 0))
      (.done [[(.ki .i64 (.ofNat 270))]])
      (.ask (.bin .eql (.v 1) (.ki .u32 (.ofNat 0)))
        (.done [[(.ki .i64 (.ofNat 270))]])
        (.ask (.bin .lss (.ki .i64 (.ofNat 1019)) (.len (.v 2)))
          (.done [[(.ki .i64 (.ofNat 270))]])
          (.done [[(.ki .i64 (.ofNat 0))]])))))
noncomputable def p8 : Pln :=
  (.ask (.bin .lss (.v 0) (.ki .i64 (.ofNat 1)))
    (.done [[(.kb false)]])
    (.ask (.bin .lss (.ki .i64 (.ofNat 3)) (.v 0))
      (.done [[(.kb false)]])
      (.ask (.bin .lss (.v 1) (.ki .u32 (.ofNat 1)))
        (.done [[(.kb false)]])
        (.done [[(.not (.bin .lss (.ki .i64 (.ofNat 1019)) (.len (.v 2))))]]))))
noncomputable def p5 : Pln :=
  (.ask (.bin .lss (.v 0) (.ki .i64 (.ofNat 1)))
    (.done [[.emp], [(.ki .i64 (.ofNat 270))]])
    (.ask (.bin .lss (.ki .i64 (.ofNat 3)) (.v 0))
      (.done [[.emp], [(.ki .i64 (.ofNat 270))]])
      (.ask (.bin .eql (.v 1) (.ki .u32 (.ofNat 0)))
        (.done [[.emp], [(.ki .i64 (.ofNat 270))]])
        (.ask (.bin .lss (.ki .i64 (.ofNat 1019)) (.len (.v 2)))
          (.done [[.emp], [(.ki .i64 (.ofNat 270))]])
          (.know (.bin .lss (.ki .i64 (.ofNat 1000000)) (.len (.bytes (.v 2)))) false
            (.done [[(.cat (.cat (.row [(.conv .u8 (.v 0))]) (.cat (.row [(.conv .u8 (.bin .shr (.v 1) (.ki .i64 (.ofNat 24))))]) (.cat (.row [(.conv .u8 (.bin .shr (.v 1) (.ki .i64 (.ofNat 16))))]) (.cat (.row [(.conv .u8 (.bin .shr (.v 1) (.ki .i64 (.ofNat 8))))]) (.cat (.row [(.conv .u8 (.bin .shr (.v 1) (.ki .i64 (.ofNat 0))))]) .emp))))) (.bytes (.v 2)))], [(.ki .i64 (.ofNat 0))]]))))))
noncomputable abbrev rowC : SX := .cat (.row [(.conv .u8 (.v 0))]) .emp
noncomputable abbrev rowS : SX := (.cat (.row [(.conv .u8 (.bin .rem (.bin .quo (.bin .quo (.bin .quo (.conv .u64 (.v 1)) (.ki .u64 (.ofNat 256))) (.ki .u64 (.ofNat 256))) (.ki .u64 (.ofNat 256))) (.ki .u64 (.ofNat 256))))]) (.cat (.row [(.conv .u8 (.bin .rem (.bin .quo (.bin .quo (.conv .u64 (.v 1)) (.ki .u64 (.ofNat 256))) (.ki .u64 (.ofNat 256))) (.ki .u64 (.ofNat 256))))]) (.cat (.row [(.conv .u8 (.bin .rem (.bin .quo (.conv .u64 (.v 1)) (.ki .u64 (.ofNat 256))) (.ki .u64 (.ofNat 256))))]) (.cat (.row [(.conv .u8 (.bin .rem (.conv .u64 (.v 1)) (.ki .u64 (.ofNat 256))))]) .emp))))
noncomputable abbrev both1 : SX := .at (.app 23 [rowC, rowS]) (k64 0) 0
noncomputable def p11 : Pln :=
  .know (lss (k64 1000000) (.len rowC)) false (.know (lss (k64 1000000) (.len rowS)) false (.know (lss (k64 1000000) (.len both1)) false (.know (lss (k64 1000000) (.len (.bytes (.v 2)))) false
    (.done [[.at (.app 23 [both1, .bytes (.v 2)]) (k64 0) 0]]))))
noncomputable abbrev C15 : SX := .cut (.v 0) (k64 1) (k64 5)
noncomputable abbrev C01 : SX := .cut (.v 0) (k64 0) (k64 1)
noncomputable abbrev L0 : SX := .len (.v 0)
noncomputable abbrev SS : SX := .bin .add (k64 5) (.bin .sub L0 (k64 5))
noncomputable abbrev QQ : SX := .bin .sub SS (.bin .sub L0 (k64 5))
noncomputable def knows : List (SX × Bool) → Pln → Pln
  | [], p => p
  | (e, b) :: l, p => .know e b (knows l p)
noncomputable def f7 : List (SX × Bool) := [(lss (k64 0) L0, true), (lss (k64 0) (.len C15), true), (lss (k64 1) (.len C15), true), (lss (k64 2) (.len C15), true), (lss (k64 3) (.len C15), true), (lss (k64 4) (.len C15), false)]
noncomputable def f6 : List (SX × Bool) := [(lss (.bin .sub L0 (k64 0)) (k64 1), false), (lss (k64 1) L0, true), (lss (k64 0) (.len C01), true), (lss (k64 1) (.len C01), false),
  (lss (.bin .sub L0 (k64 1)) (k64 4), false), (lss (k64 0) (.len C15), true), (lss (k64 1) (.len C15), true), (lss (k64 2) (.len C15), true), (lss (k64 3) (.len C15), true), (lss (k64 4) (.len C15), false),
  (lss (k64 0) QQ, true), (lss (k64 1000000) (.len (.cut (.v 0) QQ SS)), false), (lss SS QQ, false), (lss L0 SS, false), (lss (.bin .sub L0 (k64 5)) (k64 0), false), (lss (.bin .sub L0 (k64 5)) (.bin .sub L0 (k64 5)), false)]
noncomputable abbrev no270 : Pln := .done [[(.ki .i64 (.ofNat 0)), (.ki .u32 (.ofNat 0)), (.ks (bstr #[]))], [(.ki .i64 (.ofNat 270))]]
noncomputable abbrev no7 : Pln := .done [[(.ki .i64 (.ofNat 0)), (.ki .u32 (.ofNat 0)), (.ks (bstr #[]))], [(.ki .i64 (.ofNat 7))]]
noncomputable abbrev atB (e : SX) (n : Nat) : SX := .at e (k64 n) 0
noncomputable abbrev c7 : SX := .conv .i64 (atB (.v 0) 0)
noncomputable abbrev s7 : SX := .conv .u32 (.bin .add (.bin .mul (.ki .u64 (.ofNat 256)) (.bin .add (.bin .mul (.ki .u64 (.ofNat 256)) (.bin .add (.bin .mul (.ki .u64 (.ofNat 256)) (.bin .add (.ki .u64 (.ofNat 0)) (.conv .u64 (atB C15 0)))) (.conv .u64 (atB C15 1)))) (.conv .u64 (atB C15 2)))) (.conv .u64 (atB C15 3)))
noncomputable abbrev t7 : SX := .text (.cut (.v 0) (k64 5) L0)
noncomputable def p7 : Pln :=
  .ask (lss L0 (k64 5)) no7 (knows f7 (.ask (lss c7 (k64 1)) no270 (.ask (lss (k64 3) c7) no270 (.ask (lss s7 (.ki .u32 (.ofNat 1))) no270 (.ask (lss (k64 1019) (.len t7)) no270 (.done [[c7, s7, t7], [k64 0]]))))))
noncomputable abbrev c6 : SX := .conv .i64 (.conv .u8 (.bin .or (.ki .u64 (.ofNat 0)) (.conv .u64 (atB C01 0))))
noncomputable abbrev s6 : SX := .conv .u32 (.bin .or (.bin .shl (.bin .or (.bin .shl (.bin .or (.bin .shl (.bin .or (.ki .u64 (.ofNat 0)) (.conv .u64 (atB C15 0))) (.ki .u64 (.ofNat 8))) (.conv .u64 (atB C15 1))) (.ki .u64 (.ofNat 8))) (.conv .u64 (atB C15 2))) (.ki .u64 (.ofNat 8))) (.conv .u64 (atB C15 3)))
noncomputable abbrev t6 : SX := .text (.at (.app 39 [.cut (.v 0) QQ SS]) (k64 0) 0)
noncomputable def p6 : Pln :=
  .ask (lss L0 (k64 5)) no7 (knows f6 (.ask (lss c6 (k64 1)) no270 (.ask (lss (k64 3) c6) no270 (.ask (.bin .eql s6 (.ki .u32 (.ofNat 0))) no270 (.ask (lss (k64 1019) (.len t6)) no270 (.done [[c6, s6, t6], [k64 0]]))))))
noncomputable def noneS : Orc → FuncId → Option (List AV → AHeap → Out) := fun _ => noSpec
noncomputable def specM : Orc → FuncId → Option (List AV → AHeap → Out) := fun O => @spM O
theorem c9 : checkPlan [.one tI] (runI theI noneS [] 9 [.agg tTx]) [] p9 = true := by kernel_rfl
theorem c8 : checkPlan [.one .bool] (runI theI noneS [] 8 [.agg tTx]) [] p8 = true := by kernel_rfl
theorem c5 : checkPlan [.one tB, .one tI] (runI theI noneS [some tU8, none] 5 [.agg tTx]) [] p5 = true := by kernel_rfl
theorem c11 : checkPlan [.one tB] (runI theI specM [some tU8] 11 [.agg tTx]) [] p11 = true := by kernel_rfl
theorem c7' : checkPlan [.agg tTx, .one tI] (runI theI noneS [] 7 [.one tB]) [] p7 = true := by kernel_rfl
theorem c6' : checkPlan [.agg tTx, .one tI] (runI theI specM [] 6 [.one tB]) [] p6 = true := by kernel_rfl
end Go.Proofs.YtlhdmgmjpnocjaaGreatDoor
namespace Go.Proofs.YtlhdmgmjpnocjaaGreatDoor
open Go Go.AM
theorem wrap_u8 (z : Int) : IntKind.u8.wrap z = z % 256 := by simp [IntKind.wrap, IntKind.signed, IntKind.bits]
theorem wrap_u32 (z : Int) : IntKind.u32.wrap z = z % 4294967296 := by simp [IntKind.wrap, IntKind.signed, IntKind.bits]
theorem wrap_u64 (z : Int) : IntKind.u64.wrap z = z % 18446744073709551616 := by simp [IntKind.wrap, IntKind.signed, IntKind.bits]
theorem wrap_i64 {z : Int} (h1 : -9223372036854775808 ≤ z) (h2 : z ≤ 9223372036854775807) : IntKind.i64.wrap z = z := by
  have e : IntKind.i64.wrap z = if z % 18446744073709551616 ≥ 9223372036854775808 then z % 18446744073709551616 - 18446744073709551616 else z % 18446744073709551616 := by
    simp [IntKind.wrap, IntKind.signed, IntKind.bits]
  rw [e]
  split <;> omega
theorem goal_ask {R : Rho} {res : List (List DV)} {e : SX} {b : Bool} {t f : Pln} (h : den R e = .bool b) (ht : b = true → goalPlan R res t) (hf : b = false → goalPlan R res f) : goalPlan R res (.ask e t f) := by
  refine ⟨⟨b, h⟩, fun g => ht ?_, fun g => hf ?_⟩
  · rw [h] at g; simpa using g
  · rw [h] at g; simpa using g
theorem goal_know {R : Rho} {res : List (List DV)} {e : SX} {b : Bool} {p : Pln} (h : den R e = .bool b) (hp : goalPlan R res p) : goalPlan R res (.know e b p) := ⟨h, hp⟩
theorem u8_bd {z : Int} (h1 : IntKind.u8.min ≤ z) (h2 : z ≤ IntKind.u8.max) : 0 ≤ z ∧ z ≤ 255 := by
  simp [IntKind.min, IntKind.max, IntKind.signed, IntKind.bits] at h1 h2
  omega
theorem u32_bd {z : Int} (h1 : IntKind.u32.min ≤ z) (h2 : z ≤ IntKind.u32.max) : 0 ≤ z ∧ z ≤ 4294967295 := by
  simp [IntKind.min, IntKind.max, IntKind.signed, IntKind.bits] at h1 h2
  omega
theorem agg_tx {m : Env} {ds : List (List DV)} {vs : List Value} (h : RepArgs m [.agg tTx] ds vs) : ∃ c s t, ds = [[.int .i64 c, .int .u32 s, .str t]] ∧ 0 ≤ s ∧ s ≤ 4294967295 := by
  simp only [RepArgs, RepOne, tTx, RepV, Rep] at h
  obtain ⟨_, _, _, _, rfl, rfl, ⟨_, rfl, _, _, _, _, rfl, _, ⟨c, rfl, rfl, hc1, hc2⟩, _, _, _, _, rfl, rfl, ⟨s, rfl, rfl, hs1, hs2⟩, _, _, _, _, rfl, rfl, ⟨t, rfl, rfl, ht⟩, rfl, rfl⟩, rfl, rfl⟩ := h
  exact ⟨c, s, t, rfl, (u32_bd hs1 hs2).1, (u32_bd hs1 hs2).2⟩
theorem spec_one [O : Orc] {P : Program} {G : Nat → Option (List AV)} {spec : FuncId → Option (List AV → AHeap → Out)} {f : FuncId} {sp sp' : List AV → AHeap → Out} (h : CallOK P G (fun g args h => if g = f then sp args h else none)) (e : some sp = some sp') : CallOK P G (fun g args h => if g = f then sp' args h else none) := by
  cases e; exact h
theorem pre_at {f : FuncId} {sg rs : Sig} {preS : List (SX × Bool)} {F : List DV → List (List DV)} (O : Orc) (hO : O.I = theI) (h : ∀ I : Nat → List DV → DV, FnOK Tryz.prog G f sg rs (fun ds => ∀ p ∈ preS, den (rhoOf I ds) p.1 = .bool p.2) F) : FnOK Tryz.prog G f sg rs (fun ds => ∀ p ∈ preS, den (rhoOf O.I ds) p.1 = .bool p.2) F := h O.I
theorem specM_ok (O : Orc) (hO : O.I = theI) : @SpecOK O Tryz.prog G (specM O) := by
  intro f sp h
  unfold specM spM at h
  split at h <;> (try (cases h; done))
  · exact spec_one (spec := noSpec) (iceSp_ok (symSp_ok plainG (fn23 O.I) (by intro ds; rw [hO]; rfl) (by kernel_rfl)) (fn23 O.I).1) h
  · exact spec_one (spec := noSpec) (symSp_ok plainG (fn39 O.I) (by intro ds; rw [hO]; rfl) (by kernel_rfl)) h
theorem fn9 : FnOK Tryz.prog G 9 [.agg tTx] [.one tI] (fun _ => True) F9 := by
  refine fn_run (spec := noneS) (fun O _ => noSpec_ok O) [] (by kernel_rfl) p9 c9 ?_
  intro E ds vs h _
  obtain ⟨c, s, t, rfl, hs, _⟩ := agg_tx h
  simp [p9, goalPlan, den, binD, lenD, rhoOf, F9, txB, iD, sD]
  omega
theorem fn8 : FnOK Tryz.prog G 8 [.agg tTx] [.one .bool] (fun _ => True) F8 := by
  refine fn_run (spec := noneS) (fun O _ => noSpec_ok O) [] (by kernel_rfl) p8 c8 ?_
  intro E ds vs h _
  obtain ⟨c, s, t, rfl, hs, _⟩ := agg_tx h
  simp [p8, goalPlan, den, binD, lenD, notD, rhoOf, F8, txB, iD, sD]
  grind
theorem bytesD_I (t : ByteArray) : bytesD (.str t) = .list (bytesI (strI t)) := by
  simp [bytesD, bytesI, strI]
theorem len_bytesI (l : List Int) : (bytesI l).length = l.length := by simp [bytesI]
theorem len_strI (t : ByteArray) : (strI t).length = t.size := by simp [strI]
theorem den_row (R : Rho) (e : SX) : den R (.row [e]) = .list [[den R e]] := rfl
theorem cat_I (R : Rho) {x y : SX} {a b : List Int} (hx : den R x = .list (bytesI a)) (hy : den R y = .list (bytesI b)) : den R (.cat x y) = .list (bytesI (a ++ b)) := by
  simp only [den, hx, hy, catD, bytesI, List.map_append]
theorem row_I (R : Rho) {x : SX} {z : Int} (hx : den R x = .int .u8 z) : den R (.row [x]) = .list (bytesI [z]) := by
  rw [den_row, hx]; rfl
theorem emp_I (R : Rho) : den R .emp = .list (bytesI []) := rfl
theorem row_cons (R : Rho) {x y : SX} {z : Int} {b : List Int} (hx : den R x = .int .u8 z) (hy : den R y = .list (bytesI b)) : den R (.cat (.row [x]) y) = .list (bytesI (z :: b)) := cat_I R (row_I R hx) hy
theorem bytes_I (R : Rho) {x : SX} {t : ByteArray} (hx : den R x = .str t) : den R (.bytes x) = .list (bytesI (strI t)) := by
  simp only [den, hx, bytesD_I]
theorem shr_I (R : Rho) {x : SX} {s : Int} (hx : den R x = .int .u32 s) (hs : 0 ≤ s) (n : Nat) (hn : n ≤ 32) : den R (.conv .u8 (.bin .shr x (.ki .i64 (.ofNat n)))) = .int .u8 (s / 2 ^ n % 256) := by
  have hm : min n 32 = n := Nat.min_eq_left hn
  have hf : s.fdiv (2 ^ n) = s / 2 ^ n := Int.fdiv_eq_ediv_of_nonneg _ (Int.le_of_lt (Int.pow_pos (by omega)))
  simp [den, hx, binD, convD, IntKind.bits, hm, hf, wrap_u8]
theorem fn5 : FnOK Tryz.prog G 5 [.agg tTx] [.one tB, .one tI] (fun _ => True) F5 := by
  refine fn_run (spec := noneS) (fun O _ => noSpec_ok O) [some tU8, none] (by kernel_rfl) p5 c5 ?_
  intro E ds vs h _
  obtain ⟨c, s, t, rfl, hs, hs1⟩ := agg_tx h
  generalize hR : rhoOf theI [[.int .i64 c, .int .u32 s, .str t]].flatten = R
  have r0 : den R (.v 0) = .int .i64 c := by rw [← hR]; rfl
  have r1 : den R (.v 1) = .int .u32 s := by rw [← hR]; rfl
  have r2 : den R (.v 2) = .str t := by rw [← hR]; rfl
  have q0 : R.ρ 0 = .int .i64 c := r0
  have q1 : R.ρ 1 = .int .u32 s := r1
  have q2 : R.ρ 2 = .str t := r2
  have no : txB c s t = false → goalPlan R (F5 [[.int .i64 c, .int .u32 s, .str t]].flatten) (.done [[.emp], [(.ki .i64 (.ofNat 270))]]) := by
    intro hb
    show F5 _ = _
    have : F5 [[.int .i64 c, .int .u32 s, .str t]].flatten = if txB c s t then [[.list (bytesI (encI c s t))], [.int .i64 0]] else [[.list []], [.int .i64 270]] := rfl
    rw [this, hb]
    rfl
  unfold p5
  refine goal_ask (b := decide (c < 1)) (by simp [den, q0, binD]) (fun h1 => no (by simp [txB] at *; omega)) fun h1 => ?_
  refine goal_ask (b := decide (3 < c)) (by simp [den, q0, binD]) (fun h2 => no (by simp [txB] at *; omega)) fun h2 => ?_
  refine goal_ask (b := decide (s = 0)) (by simp [den, q1, binD]) (fun h3 => no (by simp [txB] at *; omega)) fun h3 => ?_
  refine goal_ask (b := decide (1019 < t.size)) (by simp [den, q2, binD, lenD]; omega) (fun h4 => no (by simp [txB] at *; omega)) fun h4 => ?_
  simp only [decide_eq_false_iff_not] at h1 h2 h3 h4
  refine goal_know ?_ ?_
  · simp only [den, q2, bytesD_I, lenD, binD, len_bytesI, len_strI]
    simp
    omega
  · show F5 _ = _
    have hb : txB c s t = true := by simp [txB]; omega
    have : F5 [[.int .i64 c, .int .u32 s, .str t]].flatten = if txB c s t then [[.list (bytesI (encI c s t))], [.int .i64 0]] else [[.list []], [.int .i64 270]] := rfl
    rw [this, hb]
    have hcat := cat_I R (row_cons R (x := .conv .u8 (.v 0)) (z := c % 256) (by simp [den, q0, convD, wrap_u8]) (row_cons R (shr_I R r1 hs 24 (by omega)) (row_cons R (shr_I R r1 hs 16 (by omega)) (row_cons R (shr_I R r1 hs 8 (by omega)) (row_cons R (shr_I R r1 hs 0 (by omega)) (emp_I R)))))) (bytes_I R r2)
    simp only [if_true, List.map_cons, List.map_nil]
    rw [hcat]
    simp [encI, den]
theorem both_I (R : Rho) (hI : R.I = theI) {x y : SX} {a b : List Int} (hx : den R x = .list (bytesI a)) (hy : den R y = .list (bytesI b)) : den R (.at (.app 23 [x, y]) (k64 0) 0) = .list (bytesI (a ++ b)) := by
  simp only [den, den.denL, hI, hx, hy, theI, F23, atD]
  simp [lD, bytesI]
theorem len_le (R : Rho) {x : SX} {a : List Int} (hx : den R x = .list (bytesI a)) (hl : a.length ≤ 1000000) : den R (lss (k64 1000000) (.len x)) = .bool false := by
  simp only [den, hx, lenD, binD, len_bytesI]
  simp
  omega
theorem quo_I (R : Rho) {x : SX} {s : Int} (hx : den R x = .int .u64 s) (h0 : 0 ≤ s) (h1 : s ≤ 4294967295) : den R (.bin .quo x (.ki .u64 (.ofNat 256))) = .int .u64 (s / 256) := by
  have : s.tdiv 256 = s / 256 := Int.tdiv_eq_ediv_of_nonneg h0
  simp only [den, hx, binD, wrap_u64]
  show DV.int _ (s.tdiv 256 % _) = _
  rw [this]
  congr 1
  omega
theorem rem_I (R : Rho) {x : SX} {s : Int} (hx : den R x = .int .u64 s) (h0 : 0 ≤ s) : den R (.conv .u8 (.bin .rem x (.ki .u64 (.ofNat 256)))) = .int .u8 (s % 256) := by
  have : s.tmod 256 = s % 256 := Int.tmod_eq_emod_of_nonneg h0
  simp only [den, hx, binD, convD, wrap_u8]
  show DV.int _ (s.tmod 256 % _) = _
  rw [this]
  congr 1
  omega
theorem fn11 : FnOK Tryz.prog G 11 [.agg tTx] [.one tB] (fun ds => ∀ p ∈ [lenOK 2], den (rhoOf theI ds) p.1 = .bool p.2) F11 := by
  refine fn_run (spec := specM) specM_ok [some tU8] (by kernel_rfl) p11 c11 ?_
  intro E ds vs h hpre
  obtain ⟨c, s, t, rfl, hs, hs1⟩ := agg_tx h
  have ht := hpre (lenOK 2) (by simp)
  generalize hR : rhoOf theI [[.int .i64 c, .int .u32 s, .str t]].flatten = R at ht ⊢
  have hI : R.I = theI := by rw [← hR]; rfl
  have q0 : R.ρ 0 = .int .i64 c := by rw [← hR]; rfl
  have q1 : R.ρ 1 = .int .u32 s := by rw [← hR]; rfl
  have q2 : R.ρ 2 = .str t := by rw [← hR]; rfl
  have ht' : t.size ≤ 1000000 := by
    simp only [lenOK, den, q2, lenD, binD, DV.bool.injEq, decide_eq_false_iff_not] at ht
    simp at ht
    omega
  have r1 : den R (.conv .u64 (.v 1)) = .int .u64 s := by
    simp only [den, q1, convD, wrap_u64]
    congr 1
    omega
  have g1 := quo_I R r1 hs hs1
  have g2 := quo_I R g1 (by omega) (by omega)
  have g3 := quo_I R g2 (by omega) (by omega)
  have hC : den R rowC = .list (bytesI [c % 256]) := row_cons R (by simp [den, q0, convD, wrap_u8]) (emp_I R)
  have hS : den R rowS = .list (bytesI [s / 256 / 256 / 256 % 256, s / 256 / 256 % 256, s / 256 % 256, s % 256]) :=
    row_cons R (rem_I R g3 (by omega)) (row_cons R (rem_I R g2 (by omega)) (row_cons R (rem_I R g1 (by omega)) (row_cons R (rem_I R r1 hs) (emp_I R))))
  have hB := both_I R hI hC hS
  have hT := bytes_I R (x := .v 2) q2
  have hF := both_I R hI hB hT
  unfold p11
  refine goal_know (len_le R hC (by simp)) (goal_know (len_le R hS (by simp)) (goal_know (len_le R hB (by simp)) (goal_know (len_le R hT (by rw [len_strI]; exact ht')) ?_)))
  show F11 _ = _
  simp only [List.map_cons, List.map_nil]
  rw [hF]
  have : F11 [[.int .i64 c, .int .u32 s, .str t]].flatten = [[.list (bytesI (encI c s t))]] := rfl
  rw [this]
  have e1 : s / 256 / 256 = s / 65536 := by omega
  have e2 : s / 65536 / 256 = s / 16777216 := by omega
  rw [e1, e2]
  rfl
end Go.Proofs.YtlhdmgmjpnocjaaGreatDoor
namespace Go.Proofs.YtlhdmgmjpnocjaaGreatDoor
open Go Go.AM
theorem one_B {m : Env} {ds : List (List DV)} {vs : List Value} (h : RepArgs m [.one tB] ds vs) : ∃ l : List Int, ds = [[.list (bytesI l)]] ∧ (∀ z ∈ l, 0 ≤ z ∧ z ≤ 255) ∧ l.length ≤ maxLen := by
  simp only [RepArgs, RepOne] at h
  obtain ⟨_, _, _, _, rfl, rfl, ⟨d, rfl, h⟩, rfl, rfl⟩ := h
  obtain ⟨xs, rfl, h2, h3, _⟩ := sy_exact (t := tU8) rfl h
  have : ∀ xs : List DV, (∀ x ∈ xs, Rep m tU8 x (valD x)) → ∃ l : List Int, xs = l.map (DV.int .u8) ∧ ∀ z ∈ l, 0 ≤ z ∧ z ≤ 255 := by
    intro xs
    induction xs with
    | nil => intro _; exact ⟨[], rfl, by simp⟩
    | cons x xs ih =>
      intro h
      have hx := h x (by simp)
      simp only [Rep] at hx
      obtain ⟨z, rfl, _, k1, k2⟩ := hx
      obtain ⟨l, rfl, hl⟩ := ih fun y hy => h y (List.mem_cons_of_mem _ hy)
      refine ⟨z :: l, rfl, fun y hy => ?_⟩
      rcases List.mem_cons.1 hy with rfl | hy
      · exact u8_bd k1 k2
      · exact hl y hy
  obtain ⟨l, rfl, hl⟩ := this xs h3
  exact ⟨l, by simp [bytesI], hl, by simpa using h2⟩
theorem text_I (R : Rho) {x : SX} {l : List Int} (hx : den R x = .list (bytesI l)) : den R (.text x) = .str (textI l) := by
  simp only [den, hx, textD]
  unfold bytesI textI
  rw [List.map_map]
  rfl
theorem at_I (R : Rho) {x : SX} {l : List Int} (hx : den R x = .list (bytesI l)) {n : Nat} {z : Int} (hn : l[n]? = some z) : den R (atB x n) = .int .u8 z := by
  simp only [den, hx, atD, bytesI]
  have : (l.map fun z => [DV.int .u8 z]).getD n [] = [DV.int .u8 z] := by
    rw [List.getD_eq_getElem?_getD, List.getElem?_map, hn]
    rfl
  show (((l.map fun z => [DV.int .u8 z]).getD n []).getD 0 _) = _
  rw [this]
  rfl
theorem cut_I (R : Rho) {x a b : SX} {l : List Int} {i j : Nat} (hx : den R x = .list (bytesI l)) (ha : den R a = .int .i64 i) (hb : den R b = .int .i64 j) : den R (.cut x a b) = .list (bytesI ((l.take j).drop i)) := by
  simp only [den, hx, ha, hb, cutD, bytesI, Int.toNat_natCast]
  rw [List.map_drop, List.map_take]
theorem len_I (R : Rho) {x : SX} {l : List Int} (hx : den R x = .list (bytesI l)) : den R (.len x) = .int .i64 l.length := by
  simp only [den, hx, lenD, len_bytesI]
theorem lss_I (R : Rho) {x y : SX} {k l : IntKind} {a b : Int} (hx : den R x = .int k a) (hy : den R y = .int l b) : den R (lss x y) = .bool (decide (a < b)) := by
  simp only [den, hx, hy, binD]
theorem k_I (R : Rho) (n : Nat) : den R (k64 n) = .int .i64 n := rfl
theorem c64_I (R : Rho) {x : SX} {z : Int} (hx : den R x = .int .u8 z) (h : 0 ≤ z ∧ z ≤ 255) : den R (.conv .u64 x) = .int .u64 z := by
  simp only [den, hx, convD, wrap_u64]
  congr 1
  omega
theorem ci_I (R : Rho) {x : SX} {z : Int} (hx : den R x = .int .u8 z) (h : 0 ≤ z ∧ z ≤ 255) : den R (.conv .i64 x) = .int .i64 z := by
  simp only [den, hx, convD]
  rw [wrap_i64 (by omega) (by omega)]
theorem step_I (R : Rho) {x y : SX} {s z : Int} (hx : den R x = .int .u64 s) (hy : den R y = .int .u64 z) (h0 : 0 ≤ s) (h1 : s ≤ 4294967295) (hz : 0 ≤ z ∧ z ≤ 255) : den R (.bin .add (.bin .mul (.ki .u64 (.ofNat 256)) x) y) = .int .u64 (s * 256 + z) := by
  simp only [den, hx, hy, binD, wrap_u64]
  congr 1
  show (Int.ofNat 256 * s % _ + z) % _ = _
  have : Int.ofNat 256 = 256 := rfl
  rw [this]
  omega
theorem c32_I (R : Rho) {x : SX} {s : Int} (hx : den R x = .int .u64 s) (h0 : 0 ≤ s) (h1 : s ≤ 4294967295) : den R (.conv .u32 x) = .int .u32 s := by
  simp only [den, hx, convD, wrap_u32]
  congr 1
  omega
theorem or_n (y c : Nat) (hc : c < 256) (hy : y < 72057594037927936) : bitsD .or .u64 ((y * 256 : Nat) : Int) (c : Int) = ((y * 256 + c : Nat) : Int) := by
  show IntKind.u64.wrap ((BitVec.ofInt 64 ((y * 256 : Nat) : Int) ||| BitVec.ofInt 64 (c : Int)).toNat : Int) = _
  rw [wrap_u64]
  have e1 : (BitVec.ofInt 64 ((y * 256 : Nat) : Int)).toNat = y * 256 := by
    rw [BitVec.ofInt_natCast, BitVec.toNat_ofNat]
    omega
  have e2 : (BitVec.ofInt 64 (c : Int)).toNat = c := by
    rw [BitVec.ofInt_natCast, BitVec.toNat_ofNat]
    omega
  rw [BitVec.toNat_or, e1, e2]
  have e3 : y * 256 ||| c = y * 256 + c := by
    have := Nat.two_pow_add_eq_or_of_lt (i := 8) (b := c) (by omega) y
    rw [Nat.mul_comm y 256]
    exact this.symm
  rw [e3]
  omega
theorem or_I (R : Rho) {x y : SX} {s z : Int} (hx : den R x = .int .u64 (s * 256)) (hy : den R y = .int .u64 z) (h0 : 0 ≤ s) (h1 : s ≤ 4294967295) (hz : 0 ≤ z ∧ z ≤ 255) : den R (.bin .or x y) = .int .u64 (s * 256 + z) := by
  have e1 : s = (s.toNat : Int) := by omega
  have e2 : z = (z.toNat : Int) := by omega
  simp only [den, hx, hy, binD]
  have := or_n s.toNat z.toNat (by omega) (by omega)
  rw [Int.natCast_add, Int.natCast_mul, ← e1, ← e2] at this
  congr 1
theorem shl_I (R : Rho) {x : SX} {s : Int} (hx : den R x = .int .u64 s) (h0 : 0 ≤ s) (h1 : s ≤ 4294967295) : den R (.bin .shl x (.ki .u64 (.ofNat 8))) = .int .u64 (s * 256) := by
  simp only [den, hx, binD, wrap_u64]
  congr 1
  show s * 2 ^ min 8 64 % _ = _
  have : (2 : Int) ^ min 8 64 = 256 := by decide
  rw [this]
  omega
theorem dec_short {l : List Int} (h : l.length < 5) : decF l = noTx 7 := by
  match l, h with
  | [], _ => rfl
  | [_], _ => rfl
  | [_, _], _ => rfl
  | [_, _, _], _ => rfl
  | [_, _, _, _], _ => rfl
theorem long_5 {l : List Int} (h : ¬ l.length < 5) : ∃ a b c d e r, l = a :: b :: c :: d :: e :: r := by
  match l, h with
  | [], h => simp at h
  | [_], h => simp at h
  | [_, _], h => simp at h
  | [_, _, _], h => simp at h
  | [_, _, _, _], h => simp at h
  | a :: b :: c :: d :: e :: r, _ => exact ⟨a, b, c, d, e, r, rfl⟩
theorem F6_I (l : List Int) : F6 [[DV.list (bytesI l)]].flatten = decF l := by
  show decF ((bytesI l).map intOfRow) = _
  rw [ints_bytes]
theorem fn7 : FnOK Tryz.prog G 7 [.one tB] [.agg tTx, .one tI] (fun _ => True) F6 := by
  refine fn_run (spec := noneS) (fun O _ => noSpec_ok O) [] (by kernel_rfl) p7 c7' ?_
  intro E ds vs h _
  obtain ⟨l, rfl, hz, hlen⟩ := one_B h
  rw [F6_I]
  generalize hR : rhoOf theI [[DV.list (bytesI l)]].flatten = R
  have r0 : den R (.v 0) = .list (bytesI l) := by rw [← hR]; rfl
  have rl := len_I R r0
  unfold p7
  refine goal_ask (lss_I R rl (k_I R 5)) (fun h1 => ?_) fun h1 => ?_
  · have h1 := of_decide_eq_true h1
    show decF l = _
    rw [dec_short (by omega)]
    rfl
  · have h1 := of_decide_eq_false h1
    obtain ⟨a, b, c, d, e, r, rfl⟩ := long_5 (l := l) (by omega)
    have za := hz a (by simp)
    have zb := hz b (by simp)
    have zc := hz c (by simp)
    have zd := hz d (by simp)
    have ze := hz e (by simp)
    have hC : den R C15 = .list (bytesI [b, c, d, e]) := cut_I R r0 (k_I R 1) (k_I R 5)
    have lC := len_I R hC
    have ha := ci_I R (at_I R r0 (n := 0) rfl) za
    have hb := c64_I R (at_I R hC (n := 0) rfl) zb
    have hc := c64_I R (at_I R hC (n := 1) rfl) zc
    have hd := c64_I R (at_I R hC (n := 2) rfl) zd
    have he := c64_I R (at_I R hC (n := 3) rfl) ze
    have s1 : den R (.bin .add (.ki .u64 (.ofNat 0)) (.conv .u64 (atB C15 0))) = .int .u64 b := by
      show binD .add (.int .u64 0) _ = _
      rw [hb]
      simp only [binD, wrap_u64]
      congr 1
      omega
    have s2 := step_I R s1 hc (by omega) (by omega) zc
    have s3 := step_I R s2 hd (by omega) (by omega) zd
    have s4 := step_I R s3 he (by omega) (by omega) ze
    have hs := c32_I R s4 (by omega) (by omega)
    have ht := text_I R (cut_I R r0 (k_I R 5) rl)
    rw [List.take_of_length_le (Nat.le_refl _)] at ht
    have lt : den R (.len t7) = .int .i64 (textI r).size := by
      show lenD (den R t7) = _
      rw [ht]
      rfl
    have no : txB a (((b * 256 + c) * 256 + d) * 256 + e) (textI r) = false → goalPlan R (decF (a :: b :: c :: d :: e :: r)) no270 := by
      intro hb
      show decF _ = _
      simp only [decF, hb]
      rfl
    have kk : ∀ n : Nat, den R (lss (k64 n) (.len C15)) = .bool (decide ((n : Int) < 4)) := fun n => lss_I R (k_I R n) lC
    unfold f7
    simp only [knows]
    refine goal_know ?_ (goal_know (kk 0) (goal_know (kk 1) (goal_know (kk 2) (goal_know (kk 3) (goal_know (kk 4) ?_)))))
    · rw [lss_I R (k_I R 0) rl]
      simp
      omega
    · refine goal_ask (lss_I R ha (k_I R 1)) (fun h2 => no (by simp [txB] at *; omega)) fun h2 => ?_
      refine goal_ask (lss_I R (k_I R 3) ha) (fun h3 => no (by simp [txB] at *; omega)) fun h3 => ?_
      refine goal_ask (lss_I R hs (show den R (.ki .u32 (.ofNat 1)) = .int .u32 1 from rfl)) (fun h4 => no (by simp [txB] at *; omega)) fun h4 => ?_
      refine goal_ask (lss_I R (k_I R 1019) lt) (fun h5 => no (by simp [txB] at *; omega)) fun h5 => ?_
      have hb : txB a (((b * 256 + c) * 256 + d) * 256 + e) (textI r) = true := by
        simp [txB] at *
        omega
      show decF _ = _
      simp only [decF, hb, if_true, List.map_cons, List.map_nil]
      rw [ha, hs, ht]
      rfl
end Go.Proofs.YtlhdmgmjpnocjaaGreatDoor
namespace Go.Proofs.YtlhdmgmjpnocjaaGreatDoor
open Go Go.AM
theorem sub_I (R : Rho) {x y : SX} {a b : Int} (hx : den R x = .int .i64 a) (hy : den R y = .int .i64 b) (h1 : 0 ≤ a) (h2 : a ≤ 9223372036854775807) (h3 : 0 ≤ b) (h4 : b ≤ 9223372036854775807) : den R (.bin .sub x y) = .int .i64 (a - b) := by
  simp only [den, hx, hy, binD]
  rw [wrap_i64 (by omega) (by omega)]
theorem add_I (R : Rho) {x y : SX} {a b : Int} (hx : den R x = .int .i64 a) (hy : den R y = .int .i64 b) (h1 : 0 ≤ a) (h3 : 0 ≤ b) (h4 : a + b ≤ 9223372036854775807) : den R (.bin .add x y) = .int .i64 (a + b) := by
  simp only [den, hx, hy, binD]
  rw [wrap_i64 (by omega) (by omega)]
theorem clone_I (R : Rho) (hI : R.I = theI) {x : SX} {a : List Int} (hx : den R x = .list (bytesI a)) : den R (.at (.app 39 [x]) (k64 0) 0) = .list (bytesI a) := by
  simp only [den, den.denL, hI, hx, theI, F39, atD]
  simp [lD]
theorem fn6 : FnOK Tryz.prog G 6 [.one tB] [.agg tTx, .one tI] (fun ds => ∀ p ∈ [lenOK 0], den (rhoOf theI ds) p.1 = .bool p.2) F6 := by
  refine fn_run (spec := specM) specM_ok [] (by kernel_rfl) p6 c6' ?_
  intro E ds vs h hpre
  obtain ⟨l, rfl, hz, hlen⟩ := one_B h
  have hp := hpre (lenOK 0) (by simp)
  rw [F6_I]
  generalize hR : rhoOf theI [[DV.list (bytesI l)]].flatten = R at hp ⊢
  have hI : R.I = theI := by rw [← hR]; rfl
  have r0 : den R (.v 0) = .list (bytesI l) := by rw [← hR]; rfl
  have rl := len_I R r0
  have hn : l.length ≤ 1000000 := by
    have := lss_I R (k_I R 1000000) rl
    rw [show lss (k64 1000000) (.len (.v 0)) = (lenOK 0).1 from rfl, hp] at this
    simp [lenOK] at this
    omega
  unfold p6
  refine goal_ask (lss_I R rl (k_I R 5)) (fun h1 => ?_) fun h1 => ?_
  · have h1 := of_decide_eq_true h1
    show decF l = _
    rw [dec_short (by omega)]
    rfl
  · have h1 := of_decide_eq_false h1
    obtain ⟨a, b, c, d, e, r, rfl⟩ := long_5 (l := l) (by omega)
    have za := hz a (by simp)
    have zb := hz b (by simp)
    have zc := hz c (by simp)
    have zd := hz d (by simp)
    have ze := hz e (by simp)
    generalize hN : ((a :: b :: c :: d :: e :: r).length : Int) = N at rl
    have hN5 : N = r.length + 5 := by rw [← hN]; simp; omega
    have hN1 : N ≤ 1000000 := by rw [← hN]; omega
    have hC : den R C15 = .list (bytesI [b, c, d, e]) := cut_I R r0 (k_I R 1) (k_I R 5)
    have hC0 : den R C01 = .list (bytesI [a]) := cut_I R r0 (k_I R 0) (k_I R 1)
    have lC := len_I R hC
    have lC0 := len_I R hC0
    have d0 := sub_I R rl (k_I R 0) (by omega) (by omega) (by omega) (by omega)
    have d1 := sub_I R rl (k_I R 1) (by omega) (by omega) (by omega) (by omega)
    have d5 := sub_I R rl (k_I R 5) (by omega) (by omega) (by omega) (by omega)
    have dS : den R SS = .int .i64 ((5 : Nat) + (N - (5 : Nat))) := add_I R (k_I R 5) d5 (by omega) (by omega) (by omega)
    have eS : ((5 : Nat) : Int) + (N - (5 : Nat)) = ((a :: b :: c :: d :: e :: r).length : Nat) := by rw [hN]; omega
    rw [eS] at dS
    have dQ : den R QQ = .int .i64 (((a :: b :: c :: d :: e :: r).length : Nat) - (N - (5 : Nat))) := sub_I R dS d5 (by omega) (by omega) (by omega) (by omega)
    have eQ : (((a :: b :: c :: d :: e :: r).length : Nat) : Int) - (N - (5 : Nat)) = ((5 : Nat) : Int) := by rw [hN]; omega
    rw [eQ] at dQ
    have hT : den R (.cut (.v 0) QQ SS) = .list (bytesI r) := by
      have := cut_I R r0 dQ dS
      rw [List.take_of_length_le (Nat.le_refl _)] at this
      exact this
    have lT := len_I R hT
    have a1 : den R (.conv .u8 (.bin .or (.ki .u64 (.ofNat 0)) (.conv .u64 (atB C01 0)))) = .int .u8 a := by
      have h0 := or_I R (x := .ki .u64 (.ofNat 0)) (s := 0) rfl (c64_I R (at_I R hC0 (n := 0) rfl) za) (by omega) (by omega) za
      rw [show (0 : Int) * 256 + a = a by omega] at h0
      show convD .u8 (den R _) = _
      rw [h0]
      simp only [convD, wrap_u8]
      congr 1
      omega
    have ha := ci_I R a1 za
    have hb := c64_I R (at_I R hC (n := 0) rfl) zb
    have hc := c64_I R (at_I R hC (n := 1) rfl) zc
    have hd := c64_I R (at_I R hC (n := 2) rfl) zd
    have he := c64_I R (at_I R hC (n := 3) rfl) ze
    have s1 := or_I R (x := .ki .u64 (.ofNat 0)) (s := 0) rfl hb (by omega) (by omega) zb
    rw [show (0 : Int) * 256 + b = b by omega] at s1
    have s2 := or_I R (shl_I R s1 (by omega) (by omega)) hc (by omega) (by omega) zc
    have s3 := or_I R (shl_I R s2 (by omega) (by omega)) hd (by omega) (by omega) zd
    have s4 := or_I R (shl_I R s3 (by omega) (by omega)) he (by omega) (by omega) ze
    have hs := c32_I R s4 (by omega) (by omega)
    have ht := text_I R (clone_I R hI hT)
    have lt : den R (.len t6) = .int .i64 (textI r).size := by
      show lenD (den R t6) = _
      rw [ht]
      rfl
    have no : txB a (((b * 256 + c) * 256 + d) * 256 + e) (textI r) = false → goalPlan R (decF (a :: b :: c :: d :: e :: r)) no270 := by
      intro hb
      show decF _ = _
      simp only [decF, hb]
      rfl
    have kk : ∀ n : Nat, den R (lss (k64 n) (.len C15)) = .bool (decide ((n : Int) < 4)) := fun n => lss_I R (k_I R n) lC
    have kf : ∀ {x y : SX} {k l : IntKind} {p q : Int}, den R x = .int k p → den R y = .int l q → q ≤ p → den R (lss x y) = .bool false := fun h1 h2 h3 => by rw [lss_I R h1 h2]; simp; omega
    have kt : ∀ {x y : SX} {k l : IntKind} {p q : Int}, den R x = .int k p → den R y = .int l q → p < q → den R (lss x y) = .bool true := fun h1 h2 h3 => by rw [lss_I R h1 h2]; simp; omega
    unfold f6
    simp only [knows]
    refine goal_know (kf d0 (k_I R 1) (by omega)) (goal_know (kt (k_I R 1) rl (by omega)) (goal_know (kt (k_I R 0) lC0 (by simp)) (goal_know (kf (k_I R 1) lC0 (by simp)) (goal_know (kf d1 (k_I R 4) (by omega)) ?_))))
    refine goal_know (kk 0) (goal_know (kk 1) (goal_know (kk 2) (goal_know (kk 3) (goal_know (kk 4) ?_))))
    refine goal_know (kt (k_I R 0) dQ (by simp)) (goal_know (kf (k_I R 1000000) lT (by omega)) (goal_know (kf dS dQ (by rw [hN]; omega)) (goal_know (kf rl dS (by rw [hN]; omega)) (goal_know (kf d5 (k_I R 0) (by omega)) (goal_know (kf d5 d5 (Int.le_refl _)) ?_)))))
    refine goal_ask (lss_I R ha (k_I R 1)) (fun h2 => no (by simp [txB] at *; omega)) fun h2 => ?_
    refine goal_ask (lss_I R (k_I R 3) ha) (fun h3 => no (by simp [txB] at *; omega)) fun h3 => ?_
    refine goal_ask (b := decide (((b * 256 + c) * 256 + d) * 256 + e = 0)) ?_ (fun h4 => no (by simp [txB] at *; omega)) fun h4 => ?_
    · show binD .eql (den R s6) (.int .u32 0) = _
      rw [hs]
      simp [binD]
    refine goal_ask (lss_I R (k_I R 1019) lt) (fun h5 => no (by simp [txB] at *; omega)) fun h5 => ?_
    have hb : txB a (((b * 256 + c) * 256 + d) * 256 + e) (textI r) = true := by
      simp [txB] at *
      omega
    show decF _ = _
    simp only [decF, hb, if_true, List.map_cons, List.map_nil]
    rw [ha, hs, ht]
    rfl
end Go.Proofs.YtlhdmgmjpnocjaaGreatDoor
