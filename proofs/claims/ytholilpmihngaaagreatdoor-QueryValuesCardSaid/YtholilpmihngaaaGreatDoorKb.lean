/-
  A part of the proof of QueryValues (the machine on named data, and the contracts of the functions that the law reaches): Q4 Q5.
-/
import Derived.Test.YtholilpmihngaaaGreatDoorKa
set_option linter.all false
set_option linter.unusedVariables false
set_option linter.unusedSimpArgs false
set_option linter.unusedSectionVars false
namespace Go.Proofs.YtholilpmihngaaaGreatDoor
open Go Go.AM
/-! ### values: tests and reckoning -/
theorem is_v {d : List DV} (h : IsL tV d) : ∃ k n s, d = [.int .i64 k, .int .i64 n, .str s] ∧ In64 k ∧ In64 n ∧ s.size ≤ maxLen := by
  simp only [IsL, tV] at h
  obtain ⟨d1, _, rfl, h1, d2, _, rfl, h2, d3, _, rfl, h3, rfl⟩ := h
  obtain ⟨k, rfl, a1, a2⟩ := h1.i64
  obtain ⟨n, rfl, b1, b2⟩ := h2.i64
  obtain ⟨s, rfl, c⟩ := h3.str
  exact ⟨k, n, s, rfl, ⟨a1, a2⟩, ⟨b1, b2⟩, c⟩
theorem v_of {ds : List (List DV)} (h : IsArgs [.agg tV] ds) : ∃ k n s, ds = [[.int .i64 k, .int .i64 n, .str s]] ∧ In64 k ∧ In64 n ∧ s.size ≤ maxLen := by
  simp only [IsArgs, IsOne] at h
  obtain ⟨_, _, rfl, h1, rfl⟩ := h
  obtain ⟨k, n, s, rfl, h⟩ := is_v h1
  exact ⟨k, n, s, rfl, h⟩
theorem vv_of {ds : List (List DV)} (h : IsArgs [.agg tV, .agg tV] ds) : ∃ ka na sa kb nb sb, ds = [[.int .i64 ka, .int .i64 na, .str sa], [.int .i64 kb, .int .i64 nb, .str sb]] ∧ In64 na ∧ In64 nb := by
  simp only [IsArgs, IsOne] at h
  obtain ⟨_, _, rfl, h1, _, _, rfl, h2, rfl⟩ := h
  obtain ⟨ka, na, sa, rfl, _, x, _⟩ := is_v h1
  obtain ⟨kb, nb, sb, rfl, _, y, _⟩ := is_v h2
  exact ⟨ka, na, sa, kb, nb, sb, rfl, x, y⟩
theorem ovv_of {ds : List (List DV)} (h : IsArgs [.one tI, .agg tV, .agg tV] ds) : ∃ o ka na sa kb nb sb, ds = [[.int .i64 o], [.int .i64 ka, .int .i64 na, .str sa], [.int .i64 kb, .int .i64 nb, .str sb]] ∧ In64 na ∧ In64 nb := by
  simp only [IsArgs, IsOne] at h
  obtain ⟨_, _, rfl, ⟨d, rfl, h0⟩, _, _, rfl, h1, _, _, rfl, h2, rfl⟩ := h
  obtain ⟨o, rfl, _⟩ := h0.i64
  obtain ⟨ka, na, sa, rfl, _, x, _⟩ := is_v h1
  obtain ⟨kb, nb, sb, rfl, _, y, _⟩ := is_v h2
  exact ⟨o, ka, na, sa, kb, nb, sb, rfl, x, y⟩
theorem oovv_of {ds : List (List DV)} (h : IsArgs [.one tI, .one tI, .agg tV, .agg tV] ds) : ∃ o l ka na sa kb nb sb, ds = [[.int .i64 o], [.int .i64 l], [.int .i64 ka, .int .i64 na, .str sa], [.int .i64 kb, .int .i64 nb, .str sb]] := by
  simp only [IsArgs, IsOne] at h
  obtain ⟨_, _, rfl, ⟨d, rfl, h0⟩, _, _, rfl, ⟨d', rfl, h0'⟩, _, _, rfl, h1, _, _, rfl, h2, rfl⟩ := h
  obtain ⟨o, rfl, _⟩ := h0.i64
  obtain ⟨l, rfl, _⟩ := h0'.i64
  obtain ⟨ka, na, sa, rfl, _⟩ := is_v h1
  obtain ⟨kb, nb, sb, rfl, _⟩ := is_v h2
  exact ⟨o, l, ka, na, sa, kb, nb, sb, rfl⟩
theorem less_refl : ∀ x : List UInt8, Op.bytesLess x x = false
  | [] => rfl
  | a :: x => by
    have h : ¬ a < a := fun h3 => by have : a.toNat < a.toNat := h3; omega
    simp [Op.bytesLess, less_refl x, h]
theorem less_of (a b : ByteArray) : Op.bytesLess a.toList b.toList = false → ¬ a = b → Op.bytesLess b.toList a.toList = true := by
  intro h1 h2
  rw [less_tri, h1, Bool.false_or]
  rw [str_eq, decide_eq_false h2]
  rfl
theorem bstr0 : (bstr #[]) = (⟨#[]⟩ : ByteArray) := rfl
noncomputable def pCmp : Pln :=
  (.ask (.bin .lss (.v 0) (.v 3))
    (.ask (.bin .lss (.v 1) (.v 4))
      (.ask (.bin .lss (.v 2) (.v 5))
        (.done [[(.ki .i64 (.negSucc 0))]])
        (.ask (.bin .lss (.v 5) (.v 2))
          (.done [[(.ki .i64 (.negSucc 0))]])
          (.done [[(.ki .i64 (.negSucc 0))]])))
      (.ask (.bin .lss (.v 4) (.v 1))
        (.ask (.bin .lss (.v 2) (.v 5))
          (.done [[(.ki .i64 (.negSucc 0))]])
          (.ask (.bin .lss (.v 5) (.v 2))
            (.done [[(.ki .i64 (.negSucc 0))]])
            (.done [[(.ki .i64 (.negSucc 0))]])))
        (.ask (.bin .lss (.v 2) (.v 5))
          (.done [[(.ki .i64 (.negSucc 0))]])
          (.ask (.bin .lss (.v 5) (.v 2))
            (.done [[(.ki .i64 (.negSucc 0))]])
            (.done [[(.ki .i64 (.negSucc 0))]])))))
    (.ask (.bin .lss (.v 3) (.v 0))
      (.ask (.bin .lss (.v 1) (.v 4))
        (.ask (.bin .lss (.v 2) (.v 5))
          (.done [[(.ki .i64 (.ofNat 1))]])
          (.ask (.bin .lss (.v 5) (.v 2))
            (.done [[(.ki .i64 (.ofNat 1))]])
            (.done [[(.ki .i64 (.ofNat 1))]])))
        (.ask (.bin .lss (.v 4) (.v 1))
          (.ask (.bin .lss (.v 2) (.v 5))
            (.done [[(.ki .i64 (.ofNat 1))]])
            (.ask (.bin .lss (.v 5) (.v 2))
              (.done [[(.ki .i64 (.ofNat 1))]])
              (.done [[(.ki .i64 (.ofNat 1))]])))
          (.ask (.bin .lss (.v 2) (.v 5))
            (.done [[(.ki .i64 (.ofNat 1))]])
            (.ask (.bin .lss (.v 5) (.v 2))
              (.done [[(.ki .i64 (.ofNat 1))]])
              (.done [[(.ki .i64 (.ofNat 1))]])))))
      (.ask (.bin .lss (.v 1) (.v 4))
        (.ask (.bin .lss (.v 2) (.v 5))
          (.done [[(.ki .i64 (.negSucc 0))]])
          (.ask (.bin .lss (.v 5) (.v 2))
            (.done [[(.ki .i64 (.negSucc 0))]])
            (.done [[(.ki .i64 (.negSucc 0))]])))
        (.ask (.bin .lss (.v 4) (.v 1))
          (.ask (.bin .lss (.v 2) (.v 5))
            (.done [[(.ki .i64 (.ofNat 1))]])
            (.ask (.bin .lss (.v 5) (.v 2))
              (.done [[(.ki .i64 (.ofNat 1))]])
              (.done [[(.ki .i64 (.ofNat 1))]])))
          (.ask (.bin .lss (.v 2) (.v 5))
            (.done [[(.ki .i64 (.negSucc 0))]])
            (.ask (.bin .lss (.v 5) (.v 2))
              (.done [[(.ki .i64 (.ofNat 1))]])
              (.done [[(.ki .i64 (.ofNat 0))]])))))))
noncomputable def pCmr : Pln :=
  (.ask (.all [(.bin .eql (.v 0) (.v 3)), (.bin .eql (.v 1) (.v 4)), (.bin .eql (.v 2) (.v 5))])
    (.done [[(.ki .i64 (.ofNat 0))]])
    (.ask (.bin .lss (.v 0) (.v 3))
      (.done [[(.ki .i64 (.negSucc 0))]])
      (.ask (.bin .eql (.v 0) (.v 3))
        (.ask (.bin .lss (.v 1) (.v 4))
          (.done [[(.ki .i64 (.negSucc 0))]])
          (.ask (.bin .eql (.v 1) (.v 4))
            (.ask (.bin .lss (.v 2) (.v 5))
              (.done [[(.ki .i64 (.negSucc 0))]])
              (.done [[(.ki .i64 (.ofNat 1))]]))
            (.done [[(.ki .i64 (.ofNat 1))]])))
        (.done [[(.ki .i64 (.ofNat 1))]]))))
noncomputable def pBoth : Pln :=
  (.ask (.bin .lss (.v 0) (.ki .i64 (.ofNat 1)))
    (.done [[(.ki .i64 (.ofNat 2))]])
    (.ask (.bin .lss (.v 1) (.v 0))
      (.done [[(.ki .i64 (.ofNat 2))]])
      (.ask (.bin .eql (.at (.app 11 [(.v 2), (.v 3), (.v 4)]) (.ki .i64 (.ofNat 0)) 0) (.ki .i64 (.ofNat 0)))
        (.ask (.bin .eql (.at (.app 11 [(.v 5), (.v 6), (.v 7)]) (.ki .i64 (.ofNat 0)) 0) (.ki .i64 (.ofNat 0)))
          (.done [[(.ki .i64 (.ofNat 0))]])
          (.done [[(.ki .i64 (.ofNat 150))]]))
        (.done [[(.ki .i64 (.ofNat 150))]]))))
noncomputable def pRight : Pln :=
  (.ask (.bin .eql (.v 0) (.ki .i64 (.ofNat 1)))
    (.ask (.bin .eql (.v 1) (.ki .i64 (.ofNat 0)))
      (.done [[(.bin .eql (.v 2) (.ks (bstr #[])))]])
      (.done [[(.kb false)]]))
    (.ask (.bin .eql (.v 0) (.ki .i64 (.ofNat 2)))
      (.ask (.bin .lss (.v 1) (.ki .i64 (.ofNat 0)))
        (.done [[(.kb false)]])
        (.ask (.bin .lss (.ki .i64 (.ofNat 1)) (.v 1))
          (.done [[(.kb false)]])
          (.done [[(.bin .eql (.v 2) (.ks (bstr #[])))]])))
      (.ask (.bin .eql (.v 0) (.ki .i64 (.ofNat 3)))
        (.done [[(.bin .eql (.v 2) (.ks (bstr #[])))]])
        (.ask (.bin .eql (.v 0) (.ki .i64 (.ofNat 4)))
          (.ask (.bin .eql (.v 1) (.ki .i64 (.ofNat 0)))
            (.done [[(.not (.bin .lss (.ki .i64 (.ofNat 64)) (.len (.v 2))))]])
            (.done [[(.kb false)]]))
          (.done [[(.kb false)]])))))
noncomputable def pOrr : Pln :=
  (.done [[(.at (.app 18 [(.at (.app 16 [(.at (.app 18 [(.v 0)]) (.ki .i64 (.ofNat 0)) 0), (.at (.app 18 [(.v 1)]) (.ki .i64 (.ofNat 0)) 0)]) (.ki .i64 (.ofNat 0)) 0)]) (.ki .i64 (.ofNat 0)) 0)]])
theorem kCmp : (hasB 103 && checkPlan [.one tI] (runI theI (entS []) [] [] 103 [.agg tV, .agg tV]) [] pCmp) = true := by kernel_rfl
theorem fnCmp : FnOK Tryz.prog G 103 [.agg tV, .agg tV] [.one tI] (fun _ => True) FvCmp := by
  have hk := kCmp
  rw [Bool.and_eq_true] at hk
  refine fn_run (entS_ok (show EntsOK Tryz.prog G theI [] from trivial)) [] [] noLoops hk.1 pCmp hk.2 ?_
  intro ds h _
  obtain ⟨ka, na, sa, kb, nb, sb, rfl, _⟩ := vv_of h
  have e0 : (rhoOf theI ([[DV.int .i64 ka, DV.int .i64 na, DV.str sa], [DV.int .i64 kb, DV.int .i64 nb, DV.str sb]] : List (List DV)).flatten).ρ 0 = DV.int .i64 ka := rfl
  have e1 : (rhoOf theI ([[DV.int .i64 ka, DV.int .i64 na, DV.str sa], [DV.int .i64 kb, DV.int .i64 nb, DV.str sb]] : List (List DV)).flatten).ρ 1 = DV.int .i64 na := rfl
  have e2 : (rhoOf theI ([[DV.int .i64 ka, DV.int .i64 na, DV.str sa], [DV.int .i64 kb, DV.int .i64 nb, DV.str sb]] : List (List DV)).flatten).ρ 2 = DV.str sa := rfl
  have e3 : (rhoOf theI ([[DV.int .i64 ka, DV.int .i64 na, DV.str sa], [DV.int .i64 kb, DV.int .i64 nb, DV.str sb]] : List (List DV)).flatten).ρ 3 = DV.int .i64 kb := rfl
  have e4 : (rhoOf theI ([[DV.int .i64 ka, DV.int .i64 na, DV.str sa], [DV.int .i64 kb, DV.int .i64 nb, DV.str sb]] : List (List DV)).flatten).ρ 4 = DV.int .i64 nb := rfl
  have e5 : (rhoOf theI ([[DV.int .i64 ka, DV.int .i64 na, DV.str sa], [DV.int .i64 kb, DV.int .i64 nb, DV.str sb]] : List (List DV)).flatten).ρ 5 = DV.str sb := rfl
  have hI : (rhoOf theI ([[DV.int .i64 ka, DV.int .i64 na, DV.str sa], [DV.int .i64 kb, DV.int .i64 nb, DV.str sb]] : List (List DV)).flatten).I = theI := rfl
  generalize rhoOf theI ([[DV.int .i64 ka, DV.int .i64 na, DV.str sa], [DV.int .i64 kb, DV.int .i64 nb, DV.str sb]] : List (List DV)).flatten = R at *
  simp only [pCmp, goalPlan, den, den.denL, den.denAll, e0, e1, e2, e3, e4, e5, hI, binD, lenD, notD, atD, isT, Bool.and_true, Bool.and_eq_true, DV.bool.injEq, decide_eq_true_eq, decide_eq_false_iff_not, exists_eq', true_and, decide_true, Bool.true_and, k0, k1, km1]
  repeat' (first | (intro _) | (apply And.intro))
  all_goals simp_all [FvCmp, cmpV, cmpZ, cmpS, iD, sD, den, den.denL, den.denAll, binD, lenD, notD]
  all_goals (repeat' split) <;> (first | rfl | omega | (simp_all; done) | (exfalso; omega) | skip)

theorem kCmr : (hasB 90 && checkPlan [.one tI] (runI theI (entS []) [] [] 90 [.agg tV, .agg tV]) [] pCmr) = true := by kernel_rfl
theorem fnCmr : FnOK Tryz.prog G 90 [.agg tV, .agg tV] [.one tI] (fun _ => True) FvCmp := by
  have hk := kCmr
  rw [Bool.and_eq_true] at hk
  refine fn_run (entS_ok (show EntsOK Tryz.prog G theI [] from trivial)) [] [] noLoops hk.1 pCmr hk.2 ?_
  intro ds h _
  obtain ⟨ka, na, sa, kb, nb, sb, rfl, _⟩ := vv_of h
  have e0 : (rhoOf theI ([[DV.int .i64 ka, DV.int .i64 na, DV.str sa], [DV.int .i64 kb, DV.int .i64 nb, DV.str sb]] : List (List DV)).flatten).ρ 0 = DV.int .i64 ka := rfl
  have e1 : (rhoOf theI ([[DV.int .i64 ka, DV.int .i64 na, DV.str sa], [DV.int .i64 kb, DV.int .i64 nb, DV.str sb]] : List (List DV)).flatten).ρ 1 = DV.int .i64 na := rfl
  have e2 : (rhoOf theI ([[DV.int .i64 ka, DV.int .i64 na, DV.str sa], [DV.int .i64 kb, DV.int .i64 nb, DV.str sb]] : List (List DV)).flatten).ρ 2 = DV.str sa := rfl
  have e3 : (rhoOf theI ([[DV.int .i64 ka, DV.int .i64 na, DV.str sa], [DV.int .i64 kb, DV.int .i64 nb, DV.str sb]] : List (List DV)).flatten).ρ 3 = DV.int .i64 kb := rfl
  have e4 : (rhoOf theI ([[DV.int .i64 ka, DV.int .i64 na, DV.str sa], [DV.int .i64 kb, DV.int .i64 nb, DV.str sb]] : List (List DV)).flatten).ρ 4 = DV.int .i64 nb := rfl
  have e5 : (rhoOf theI ([[DV.int .i64 ka, DV.int .i64 na, DV.str sa], [DV.int .i64 kb, DV.int .i64 nb, DV.str sb]] : List (List DV)).flatten).ρ 5 = DV.str sb := rfl
  have hI : (rhoOf theI ([[DV.int .i64 ka, DV.int .i64 na, DV.str sa], [DV.int .i64 kb, DV.int .i64 nb, DV.str sb]] : List (List DV)).flatten).I = theI := rfl
  generalize rhoOf theI ([[DV.int .i64 ka, DV.int .i64 na, DV.str sa], [DV.int .i64 kb, DV.int .i64 nb, DV.str sb]] : List (List DV)).flatten = R at *
  have hs := less_of sa sb
  have hr := less_refl
  simp only [pCmr, goalPlan, den, den.denL, den.denAll, e0, e1, e2, e3, e4, e5, hI, binD, lenD, notD, atD, isT, Bool.and_true, Bool.and_eq_true, DV.bool.injEq, decide_eq_true_eq, decide_eq_false_iff_not, exists_eq', true_and, decide_true, Bool.true_and, k0, k1, km1]
  repeat' (first | (intro _) | (apply And.intro))
  all_goals simp_all [FvCmp, cmpV, cmpZ, cmpS, iD, sD, den, den.denL, den.denAll, binD, lenD, notD]
  all_goals (repeat' split) <;> (first | rfl | omega | (simp_all; done) | (exfalso; omega) | skip)

theorem kRight : (hasB 20 && checkPlan [.one .bool] (runI theI (entS []) [] [] 20 [.agg tV]) [] pRight) = true := by kernel_rfl
theorem fnRight : FnOK Tryz.prog G 20 [.agg tV] [.one .bool] (fun _ => True) Fright := by
  have hk := kRight
  rw [Bool.and_eq_true] at hk
  refine fn_run (entS_ok (show EntsOK Tryz.prog G theI [] from trivial)) [] [] noLoops hk.1 pRight hk.2 ?_
  intro ds h _
  obtain ⟨k, n, s, rfl, _⟩ := v_of h
  have z1 : (s = ByteArray.empty) = (s.size = 0) := propext (size0 s)
  have e0 : (rhoOf theI ([[DV.int .i64 k, DV.int .i64 n, DV.str s]] : List (List DV)).flatten).ρ 0 = DV.int .i64 k := rfl
  have e1 : (rhoOf theI ([[DV.int .i64 k, DV.int .i64 n, DV.str s]] : List (List DV)).flatten).ρ 1 = DV.int .i64 n := rfl
  have e2 : (rhoOf theI ([[DV.int .i64 k, DV.int .i64 n, DV.str s]] : List (List DV)).flatten).ρ 2 = DV.str s := rfl
  have hI : (rhoOf theI ([[DV.int .i64 k, DV.int .i64 n, DV.str s]] : List (List DV)).flatten).I = theI := rfl
  generalize rhoOf theI ([[DV.int .i64 k, DV.int .i64 n, DV.str s]] : List (List DV)).flatten = R at *
  simp only [pRight, goalPlan, den, den.denL, den.denAll, e0, e1, e2, hI, binD, lenD, notD, atD, isT, Bool.and_true, Bool.and_eq_true, DV.bool.injEq, decide_eq_true_eq, decide_eq_false_iff_not, exists_eq', true_and, decide_true, Bool.true_and, k0, k1, km1]
  repeat' (first | (intro _) | (apply And.intro))
  all_goals simp_all [Fright, valOK, z1, iD, sD, den, den.denL, den.denAll, binD, lenD, notD]
  all_goals (repeat' split) <;> (first | rfl | omega | (simp_all; done) | (exact (size0 s).symm) | (rw [← decide_not, decide_eq_decide]; omega) | (rw [Bool.eq_iff_iff, beq_iff_eq, decide_eq_true_eq]; first | done | exact (size0 s).symm) | (rw [show (n == 0 || n == 1) = true by (rw [Bool.or_eq_true, beq_iff_eq, beq_iff_eq]; omega), Bool.true_and, Bool.eq_iff_iff, beq_iff_eq, decide_eq_true_eq]; exact (size0 s).symm))

noncomputable def eCk : Ent := eFn 40 [.agg tV] [.one tI] [] 11
theorem eCk_ok : EntsOK Tryz.prog G theI [eCk] := ⟨eFn_ok plainG (pre_true fnCheck) (fun _ => rfl) [] (by kernel_rfl), trivial⟩
theorem i11 (ds : List DV) : theI 11 ds = .list (FvCheck ds) := rfl
theorem kBoth : (hasB 181 && checkPlan [.one tI] (runI theI (entS [eCk]) [] [] 181 [.one tI, .one tI, .agg tV, .agg tV]) [] pBoth) = true := by kernel_rfl
theorem fnBoth : FnOK Tryz.prog G 181 [.one tI, .one tI, .agg tV, .agg tV] [.one tI] (fun _ => True) Fboth := by
  have hk := kBoth
  rw [Bool.and_eq_true] at hk
  refine fn_run (entS_ok eCk_ok) [] [] noLoops hk.1 pBoth hk.2 ?_
  intro ds h _
  obtain ⟨o, l, ka, na, sa, kb, nb, sb, rfl⟩ := oovv_of h
  have e0 : (rhoOf theI ([[DV.int .i64 o], [DV.int .i64 l], [DV.int .i64 ka, DV.int .i64 na, DV.str sa], [DV.int .i64 kb, DV.int .i64 nb, DV.str sb]] : List (List DV)).flatten).ρ 0 = DV.int .i64 o := rfl
  have e1 : (rhoOf theI ([[DV.int .i64 o], [DV.int .i64 l], [DV.int .i64 ka, DV.int .i64 na, DV.str sa], [DV.int .i64 kb, DV.int .i64 nb, DV.str sb]] : List (List DV)).flatten).ρ 1 = DV.int .i64 l := rfl
  have e2 : (rhoOf theI ([[DV.int .i64 o], [DV.int .i64 l], [DV.int .i64 ka, DV.int .i64 na, DV.str sa], [DV.int .i64 kb, DV.int .i64 nb, DV.str sb]] : List (List DV)).flatten).ρ 2 = DV.int .i64 ka := rfl
  have e3 : (rhoOf theI ([[DV.int .i64 o], [DV.int .i64 l], [DV.int .i64 ka, DV.int .i64 na, DV.str sa], [DV.int .i64 kb, DV.int .i64 nb, DV.str sb]] : List (List DV)).flatten).ρ 3 = DV.int .i64 na := rfl
  have e4 : (rhoOf theI ([[DV.int .i64 o], [DV.int .i64 l], [DV.int .i64 ka, DV.int .i64 na, DV.str sa], [DV.int .i64 kb, DV.int .i64 nb, DV.str sb]] : List (List DV)).flatten).ρ 4 = DV.str sa := rfl
  have e5 : (rhoOf theI ([[DV.int .i64 o], [DV.int .i64 l], [DV.int .i64 ka, DV.int .i64 na, DV.str sa], [DV.int .i64 kb, DV.int .i64 nb, DV.str sb]] : List (List DV)).flatten).ρ 5 = DV.int .i64 kb := rfl
  have e6 : (rhoOf theI ([[DV.int .i64 o], [DV.int .i64 l], [DV.int .i64 ka, DV.int .i64 na, DV.str sa], [DV.int .i64 kb, DV.int .i64 nb, DV.str sb]] : List (List DV)).flatten).ρ 6 = DV.int .i64 nb := rfl
  have e7 : (rhoOf theI ([[DV.int .i64 o], [DV.int .i64 l], [DV.int .i64 ka, DV.int .i64 na, DV.str sa], [DV.int .i64 kb, DV.int .i64 nb, DV.str sb]] : List (List DV)).flatten).ρ 7 = DV.str sb := rfl
  have hI : (rhoOf theI ([[DV.int .i64 o], [DV.int .i64 l], [DV.int .i64 ka, DV.int .i64 na, DV.str sa], [DV.int .i64 kb, DV.int .i64 nb, DV.str sb]] : List (List DV)).flatten).I = theI := rfl
  generalize rhoOf theI ([[DV.int .i64 o], [DV.int .i64 l], [DV.int .i64 ka, DV.int .i64 na, DV.str sa], [DV.int .i64 kb, DV.int .i64 nb, DV.str sb]] : List (List DV)).flatten = R at *
  simp only [pBoth, goalPlan, den, den.denL, den.denAll, e0, e1, e2, e3, e4, e5, e6, e7, hI, binD, lenD, notD, atD, isT, Bool.and_true, Bool.and_eq_true, DV.bool.injEq, decide_eq_true_eq, decide_eq_false_iff_not, exists_eq', true_and, decide_true, Bool.true_and, k0, k1, km1]
  repeat' (first | (intro _) | (apply And.intro))
  all_goals simp_all [Fboth, bothZ, i11, FvCheck, iD, sD, den, den.denL, den.denAll, binD, lenD, notD]

end Go.Proofs.YtholilpmihngaaaGreatDoor
namespace Go.Proofs.YtholilpmihngaaaGreatDoor
open Go Go.AM
/-! ### Test and Reckon of the program -/
noncomputable def eBo : Ent := eFn 181 [.one tI, .one tI, .agg tV, .agg tV] [.one tI] [] 19
noncomputable def eCp : Ent := eFn 103 [.agg tV, .agg tV] [.one tI] [] 13
noncomputable def eAd : Ent := eFn 328 [.one tI, .one tI] [.one tI, .one tI] [] 21
noncomputable def eSu : Ent := eFn 329 [.one tI, .one tI] [.one tI, .one tI] [] 22
noncomputable def eMu : Ent := eFn 330 [.one tI, .one tI] [.one tI, .one tI] [] 23
noncomputable def eDi : Ent := eFn 331 [.one tI, .one tI] [.one tI, .one tI] [] 24
noncomputable def eRe : Ent := eFn 332 [.one tI, .one tI] [.one tI, .one tI] [] 25
theorem eBo_ok : EntsOK Tryz.prog G theI [eBo] := ⟨eFn_ok plainG (pre_true fnBoth) (fun _ => rfl) [] (by kernel_rfl), trivial⟩
theorem eTs_ok : EntsOK Tryz.prog G theI [eBo, eCp] := ⟨eBo_ok.1, eFn_ok plainG (pre_true fnCmp) (fun _ => rfl) [] (by kernel_rfl), trivial⟩
theorem eRk_ok : EntsOK Tryz.prog G theI [eBo, eAd, eSu, eMu, eDi, eRe] :=
  ⟨eBo_ok.1, eFn_ok plainG (pre_true fnAdd) (fun _ => rfl) [] (by kernel_rfl), eFn_ok plainG (pre_true fnSub) (fun _ => rfl) [] (by kernel_rfl), eFn_ok plainG (pre_true fnMul) (fun _ => rfl) [] (by kernel_rfl), eFn_ok plainG (pre_true fnDiv) (fun _ => rfl) [] (by kernel_rfl), eFn_ok plainG (pre_true fnRem) (fun _ => rfl) [] (by kernel_rfl), trivial⟩
theorem i13 (ds : List DV) : theI 13 ds = .list (FvCmp ds) := rfl
theorem i19 (ds : List DV) : theI 19 ds = .list (Fboth ds) := rfl
theorem i21 (ds : List DV) : theI 21 ds = .list (Frk 1 ds) := rfl
theorem i22 (ds : List DV) : theI 22 ds = .list (Frk 2 ds) := rfl
theorem i23 (ds : List DV) : theI 23 ds = .list (Frk 3 ds) := rfl
theorem i24 (ds : List DV) : theI 24 ds = .list (Frk 4 ds) := rfl
theorem i25 (ds : List DV) : theI 25 ds = .list (Frk 5 ds) := rfl
theorem both_in {op last k n : Int} {s : ByteArray} {k' n' : Int} {s' : ByteArray} (h : bothZ op last k n s k' n' s' = 0) : 1 ≤ op ∧ op ≤ last := by
  unfold bothZ at h
  split at h
  · omega
  · omega
noncomputable def pTest : Pln :=
  (.ask (.bin .eql (.at (.app 19 [(.v 0), (.ki .i64 (.ofNat 6)), (.v 1), (.v 2), (.v 3), (.v 4), (.v 5), (.v 6)]) (.ki .i64 (.ofNat 0)) 0) (.ki .i64 (.ofNat 0)))
    (.ask (.bin .eql (.v 1) (.ki .i64 (.ofNat 1)))
      (.done [[(.ki .i64 (.ofNat 2))], [(.ki .i64 (.ofNat 0))]])
      (.ask (.bin .eql (.v 4) (.ki .i64 (.ofNat 1)))
        (.done [[(.ki .i64 (.ofNat 2))], [(.ki .i64 (.ofNat 0))]])
        (.ask (.bin .eql (.v 1) (.v 4))
          (.ask (.bin .eql (.v 1) (.ki .i64 (.ofNat 2)))
            (.ask (.bin .eql (.v 0) (.ki .i64 (.ofNat 1)))
              (.ask (.bin .eql (.v 0) (.ki .i64 (.ofNat 6)))
                (.ask (.bin .lss (.at (.app 13 [(.v 1), (.v 2), (.v 3), (.v 4), (.v 5), (.v 6)]) (.ki .i64 (.ofNat 0)) 0) (.ki .i64 (.ofNat 0)))
                  (.done [[(.ki .i64 (.ofNat 0))], [(.ki .i64 (.ofNat 0))]])
                  (.done [[(.ki .i64 (.ofNat 1))], [(.ki .i64 (.ofNat 0))]]))
                (.ask (.bin .eql (.v 0) (.ki .i64 (.ofNat 5)))
                  (.ask (.bin .lss (.ki .i64 (.ofNat 0)) (.at (.app 13 [(.v 1), (.v 2), (.v 3), (.v 4), (.v 5), (.v 6)]) (.ki .i64 (.ofNat 0)) 0))
                    (.done [[(.ki .i64 (.ofNat 1))], [(.ki .i64 (.ofNat 0))]])
                    (.done [[(.ki .i64 (.ofNat 0))], [(.ki .i64 (.ofNat 0))]]))
                  (.ask (.bin .eql (.v 0) (.ki .i64 (.ofNat 4)))
                    (.ask (.bin .lss (.ki .i64 (.ofNat 0)) (.at (.app 13 [(.v 1), (.v 2), (.v 3), (.v 4), (.v 5), (.v 6)]) (.ki .i64 (.ofNat 0)) 0))
                      (.done [[(.ki .i64 (.ofNat 0))], [(.ki .i64 (.ofNat 0))]])
                      (.done [[(.ki .i64 (.ofNat 1))], [(.ki .i64 (.ofNat 0))]]))
                    (.ask (.bin .eql (.v 0) (.ki .i64 (.ofNat 3)))
                      (.ask (.bin .lss (.at (.app 13 [(.v 1), (.v 2), (.v 3), (.v 4), (.v 5), (.v 6)]) (.ki .i64 (.ofNat 0)) 0) (.ki .i64 (.ofNat 0)))
                        (.done [[(.ki .i64 (.ofNat 1))], [(.ki .i64 (.ofNat 0))]])
                        (.done [[(.ki .i64 (.ofNat 0))], [(.ki .i64 (.ofNat 0))]]))
                      (.ask (.bin .eql (.v 0) (.ki .i64 (.ofNat 2)))
                        (.ask (.bin .eql (.at (.app 13 [(.v 1), (.v 2), (.v 3), (.v 4), (.v 5), (.v 6)]) (.ki .i64 (.ofNat 0)) 0) (.ki .i64 (.ofNat 0)))
                          (.done [[(.ki .i64 (.ofNat 0))], [(.ki .i64 (.ofNat 0))]])
                          (.done [[(.ki .i64 (.ofNat 1))], [(.ki .i64 (.ofNat 0))]]))
                        (.ask (.bin .eql (.at (.app 13 [(.v 1), (.v 2), (.v 3), (.v 4), (.v 5), (.v 6)]) (.ki .i64 (.ofNat 0)) 0) (.ki .i64 (.ofNat 0)))
                          (.done [[(.ki .i64 (.ofNat 1))], [(.ki .i64 (.ofNat 0))]])
                          (.done [[(.ki .i64 (.ofNat 0))], [(.ki .i64 (.ofNat 0))]])))))))
              (.ask (.bin .eql (.v 0) (.ki .i64 (.ofNat 2)))
                (.ask (.bin .eql (.v 0) (.ki .i64 (.ofNat 6)))
                  (.ask (.bin .lss (.at (.app 13 [(.v 1), (.v 2), (.v 3), (.v 4), (.v 5), (.v 6)]) (.ki .i64 (.ofNat 0)) 0) (.ki .i64 (.ofNat 0)))
                    (.done [[(.ki .i64 (.ofNat 0))], [(.ki .i64 (.ofNat 0))]])
                    (.done [[(.ki .i64 (.ofNat 1))], [(.ki .i64 (.ofNat 0))]]))
                  (.ask (.bin .eql (.v 0) (.ki .i64 (.ofNat 5)))
                    (.ask (.bin .lss (.ki .i64 (.ofNat 0)) (.at (.app 13 [(.v 1), (.v 2), (.v 3), (.v 4), (.v 5), (.v 6)]) (.ki .i64 (.ofNat 0)) 0))
                      (.done [[(.ki .i64 (.ofNat 1))], [(.ki .i64 (.ofNat 0))]])
                      (.done [[(.ki .i64 (.ofNat 0))], [(.ki .i64 (.ofNat 0))]]))
                    (.ask (.bin .eql (.v 0) (.ki .i64 (.ofNat 4)))
                      (.ask (.bin .lss (.ki .i64 (.ofNat 0)) (.at (.app 13 [(.v 1), (.v 2), (.v 3), (.v 4), (.v 5), (.v 6)]) (.ki .i64 (.ofNat 0)) 0))
                        (.done [[(.ki .i64 (.ofNat 0))], [(.ki .i64 (.ofNat 0))]])
                        (.done [[(.ki .i64 (.ofNat 1))], [(.ki .i64 (.ofNat 0))]]))
                      (.ask (.bin .eql (.v 0) (.ki .i64 (.ofNat 3)))
                        (.ask (.bin .lss (.at (.app 13 [(.v 1), (.v 2), (.v 3), (.v 4), (.v 5), (.v 6)]) (.ki .i64 (.ofNat 0)) 0) (.ki .i64 (.ofNat 0)))
                          (.done [[(.ki .i64 (.ofNat 1))], [(.ki .i64 (.ofNat 0))]])
                          (.done [[(.ki .i64 (.ofNat 0))], [(.ki .i64 (.ofNat 0))]]))
                        (.ask (.bin .eql (.at (.app 13 [(.v 1), (.v 2), (.v 3), (.v 4), (.v 5), (.v 6)]) (.ki .i64 (.ofNat 0)) 0) (.ki .i64 (.ofNat 0)))
                          (.done [[(.ki .i64 (.ofNat 0))], [(.ki .i64 (.ofNat 0))]])
                          (.done [[(.ki .i64 (.ofNat 1))], [(.ki .i64 (.ofNat 0))]]))))))
                (.done [[(.ki .i64 (.ofNat 0))], [(.ki .i64 (.ofNat 153))]])))
            (.ask (.bin .eql (.v 0) (.ki .i64 (.ofNat 6)))
              (.ask (.bin .lss (.at (.app 13 [(.v 1), (.v 2), (.v 3), (.v 4), (.v 5), (.v 6)]) (.ki .i64 (.ofNat 0)) 0) (.ki .i64 (.ofNat 0)))
                (.done [[(.ki .i64 (.ofNat 0))], [(.ki .i64 (.ofNat 0))]])
                (.done [[(.ki .i64 (.ofNat 1))], [(.ki .i64 (.ofNat 0))]]))
              (.ask (.bin .eql (.v 0) (.ki .i64 (.ofNat 5)))
                (.ask (.bin .lss (.ki .i64 (.ofNat 0)) (.at (.app 13 [(.v 1), (.v 2), (.v 3), (.v 4), (.v 5), (.v 6)]) (.ki .i64 (.ofNat 0)) 0))
                  (.done [[(.ki .i64 (.ofNat 1))], [(.ki .i64 (.ofNat 0))]])
                  (.done [[(.ki .i64 (.ofNat 0))], [(.ki .i64 (.ofNat 0))]]))
                (.ask (.bin .eql (.v 0) (.ki .i64 (.ofNat 4)))
                  (.ask (.bin .lss (.ki .i64 (.ofNat 0)) (.at (.app 13 [(.v 1), (.v 2), (.v 3), (.v 4), (.v 5), (.v 6)]) (.ki .i64 (.ofNat 0)) 0))
                    (.done [[(.ki .i64 (.ofNat 0))], [(.ki .i64 (.ofNat 0))]])
                    (.done [[(.ki .i64 (.ofNat 1))], [(.ki .i64 (.ofNat 0))]]))
                  (.ask (.bin .eql (.v 0) (.ki .i64 (.ofNat 3)))
                    (.ask (.bin .lss (.at (.app 13 [(.v 1), (.v 2), (.v 3), (.v 4), (.v 5), (.v 6)]) (.ki .i64 (.ofNat 0)) 0) (.ki .i64 (.ofNat 0)))
                      (.done [[(.ki .i64 (.ofNat 1))], [(.ki .i64 (.ofNat 0))]])
                      (.done [[(.ki .i64 (.ofNat 0))], [(.ki .i64 (.ofNat 0))]]))
                    (.ask (.bin .eql (.v 0) (.ki .i64 (.ofNat 2)))
                      (.ask (.bin .eql (.at (.app 13 [(.v 1), (.v 2), (.v 3), (.v 4), (.v 5), (.v 6)]) (.ki .i64 (.ofNat 0)) 0) (.ki .i64 (.ofNat 0)))
                        (.done [[(.ki .i64 (.ofNat 0))], [(.ki .i64 (.ofNat 0))]])
                        (.done [[(.ki .i64 (.ofNat 1))], [(.ki .i64 (.ofNat 0))]]))
                      (.ask (.bin .eql (.v 0) (.ki .i64 (.ofNat 1)))
                        (.ask (.bin .eql (.at (.app 13 [(.v 1), (.v 2), (.v 3), (.v 4), (.v 5), (.v 6)]) (.ki .i64 (.ofNat 0)) 0) (.ki .i64 (.ofNat 0)))
                          (.done [[(.ki .i64 (.ofNat 1))], [(.ki .i64 (.ofNat 0))]])
                          (.done [[(.ki .i64 (.ofNat 0))], [(.ki .i64 (.ofNat 0))]]))
                        .never)))))))
          (.done [[(.ki .i64 (.ofNat 0))], [(.ki .i64 (.ofNat 153))]]))))
    (.done [[(.ki .i64 (.ofNat 0))], [(.at (.app 19 [(.v 0), (.ki .i64 (.ofNat 6)), (.v 1), (.v 2), (.v 3), (.v 4), (.v 5), (.v 6)]) (.ki .i64 (.ofNat 0)) 0)]]))
noncomputable def pReck : Pln :=
  (.ask (.bin .eql (.at (.app 19 [(.v 0), (.ki .i64 (.ofNat 5)), (.v 1), (.v 2), (.v 3), (.v 4), (.v 5), (.v 6)]) (.ki .i64 (.ofNat 0)) 0) (.ki .i64 (.ofNat 0)))
    (.ask (.bin .eql (.v 1) (.ki .i64 (.ofNat 1)))
      (.ask (.bin .eql (.v 4) (.ki .i64 (.ofNat 1)))
        (.done [[(.ki .i64 (.ofNat 1)), (.ki .i64 (.ofNat 0)), (.ks (bstr #[]))], [(.ki .i64 (.ofNat 0))]])
        (.ask (.bin .eql (.v 4) (.ki .i64 (.ofNat 3)))
          (.done [[(.ki .i64 (.ofNat 1)), (.ki .i64 (.ofNat 0)), (.ks (bstr #[]))], [(.ki .i64 (.ofNat 0))]])
          (.done [[(.ki .i64 (.ofNat 0)), (.ki .i64 (.ofNat 0)), (.ks (bstr #[]))], [(.ki .i64 (.ofNat 153))]])))
      (.ask (.bin .eql (.v 1) (.ki .i64 (.ofNat 3)))
        (.ask (.bin .eql (.v 4) (.ki .i64 (.ofNat 1)))
          (.done [[(.ki .i64 (.ofNat 1)), (.ki .i64 (.ofNat 0)), (.ks (bstr #[]))], [(.ki .i64 (.ofNat 0))]])
          (.ask (.bin .eql (.v 4) (.ki .i64 (.ofNat 3)))
            (.ask (.bin .eql (.v 0) (.ki .i64 (.ofNat 5)))
              (.ask (.bin .eql (.at (.app 25 [(.v 2), (.v 5)]) (.ki .i64 (.ofNat 1)) 0) (.ki .i64 (.ofNat 0)))
                (.done [[(.ki .i64 (.ofNat 3)), (.at (.app 25 [(.v 2), (.v 5)]) (.ki .i64 (.ofNat 0)) 0), (.ks (bstr #[]))], [(.ki .i64 (.ofNat 0))]])
                (.done [[(.ki .i64 (.ofNat 0)), (.ki .i64 (.ofNat 0)), (.ks (bstr #[]))], [(.at (.app 25 [(.v 2), (.v 5)]) (.ki .i64 (.ofNat 1)) 0)]]))
              (.ask (.bin .eql (.v 0) (.ki .i64 (.ofNat 4)))
                (.ask (.bin .eql (.at (.app 24 [(.v 2), (.v 5)]) (.ki .i64 (.ofNat 1)) 0) (.ki .i64 (.ofNat 0)))
                  (.done [[(.ki .i64 (.ofNat 3)), (.at (.app 24 [(.v 2), (.v 5)]) (.ki .i64 (.ofNat 0)) 0), (.ks (bstr #[]))], [(.ki .i64 (.ofNat 0))]])
                  (.done [[(.ki .i64 (.ofNat 0)), (.ki .i64 (.ofNat 0)), (.ks (bstr #[]))], [(.at (.app 24 [(.v 2), (.v 5)]) (.ki .i64 (.ofNat 1)) 0)]]))
                (.ask (.bin .eql (.v 0) (.ki .i64 (.ofNat 3)))
                  (.ask (.bin .eql (.at (.app 23 [(.v 2), (.v 5)]) (.ki .i64 (.ofNat 1)) 0) (.ki .i64 (.ofNat 0)))
                    (.done [[(.ki .i64 (.ofNat 3)), (.at (.app 23 [(.v 2), (.v 5)]) (.ki .i64 (.ofNat 0)) 0), (.ks (bstr #[]))], [(.ki .i64 (.ofNat 0))]])
                    (.done [[(.ki .i64 (.ofNat 0)), (.ki .i64 (.ofNat 0)), (.ks (bstr #[]))], [(.at (.app 23 [(.v 2), (.v 5)]) (.ki .i64 (.ofNat 1)) 0)]]))
                  (.ask (.bin .eql (.v 0) (.ki .i64 (.ofNat 2)))
                    (.ask (.bin .eql (.at (.app 22 [(.v 2), (.v 5)]) (.ki .i64 (.ofNat 1)) 0) (.ki .i64 (.ofNat 0)))
                      (.done [[(.ki .i64 (.ofNat 3)), (.at (.app 22 [(.v 2), (.v 5)]) (.ki .i64 (.ofNat 0)) 0), (.ks (bstr #[]))], [(.ki .i64 (.ofNat 0))]])
                      (.done [[(.ki .i64 (.ofNat 0)), (.ki .i64 (.ofNat 0)), (.ks (bstr #[]))], [(.at (.app 22 [(.v 2), (.v 5)]) (.ki .i64 (.ofNat 1)) 0)]]))
                    (.ask (.bin .eql (.v 0) (.ki .i64 (.ofNat 1)))
                      (.ask (.bin .eql (.at (.app 21 [(.v 2), (.v 5)]) (.ki .i64 (.ofNat 1)) 0) (.ki .i64 (.ofNat 0)))
                        (.done [[(.ki .i64 (.ofNat 3)), (.at (.app 21 [(.v 2), (.v 5)]) (.ki .i64 (.ofNat 0)) 0), (.ks (bstr #[]))], [(.ki .i64 (.ofNat 0))]])
                        (.done [[(.ki .i64 (.ofNat 0)), (.ki .i64 (.ofNat 0)), (.ks (bstr #[]))], [(.at (.app 21 [(.v 2), (.v 5)]) (.ki .i64 (.ofNat 1)) 0)]]))
                      .never)))))
            (.done [[(.ki .i64 (.ofNat 0)), (.ki .i64 (.ofNat 0)), (.ks (bstr #[]))], [(.ki .i64 (.ofNat 153))]])))
        (.done [[(.ki .i64 (.ofNat 0)), (.ki .i64 (.ofNat 0)), (.ks (bstr #[]))], [(.ki .i64 (.ofNat 153))]])))
    (.done [[(.ki .i64 (.ofNat 0)), (.ki .i64 (.ofNat 0)), (.ks (bstr #[]))], [(.at (.app 19 [(.v 0), (.ki .i64 (.ofNat 5)), (.v 1), (.v 2), (.v 3), (.v 4), (.v 5), (.v 6)]) (.ki .i64 (.ofNat 0)) 0)]]))
theorem kTest : (hasB 140 && checkPlan [.one tI, .one tI] (runI theI (entS [eBo, eCp]) [] [] 140 [.one tI, .agg tV, .agg tV]) [] pTest) = true := by kernel_rfl
theorem fnTest : FnOK Tryz.prog G 140 [.one tI, .agg tV, .agg tV] [.one tI, .one tI] (fun _ => True) Ftest := by
  have hk := kTest
  rw [Bool.and_eq_true] at hk
  refine fn_run (entS_ok eTs_ok) [] [] noLoops hk.1 pTest hk.2 ?_
  intro ds h _
  obtain ⟨o, ka, na, sa, kb, nb, sb, rfl, _⟩ := ovv_of h
  have e0 : (rhoOf theI ([[DV.int .i64 o], [DV.int .i64 ka, DV.int .i64 na, DV.str sa], [DV.int .i64 kb, DV.int .i64 nb, DV.str sb]] : List (List DV)).flatten).ρ 0 = DV.int .i64 o := rfl
  have e1 : (rhoOf theI ([[DV.int .i64 o], [DV.int .i64 ka, DV.int .i64 na, DV.str sa], [DV.int .i64 kb, DV.int .i64 nb, DV.str sb]] : List (List DV)).flatten).ρ 1 = DV.int .i64 ka := rfl
  have e2 : (rhoOf theI ([[DV.int .i64 o], [DV.int .i64 ka, DV.int .i64 na, DV.str sa], [DV.int .i64 kb, DV.int .i64 nb, DV.str sb]] : List (List DV)).flatten).ρ 2 = DV.int .i64 na := rfl
  have e3 : (rhoOf theI ([[DV.int .i64 o], [DV.int .i64 ka, DV.int .i64 na, DV.str sa], [DV.int .i64 kb, DV.int .i64 nb, DV.str sb]] : List (List DV)).flatten).ρ 3 = DV.str sa := rfl
  have e4 : (rhoOf theI ([[DV.int .i64 o], [DV.int .i64 ka, DV.int .i64 na, DV.str sa], [DV.int .i64 kb, DV.int .i64 nb, DV.str sb]] : List (List DV)).flatten).ρ 4 = DV.int .i64 kb := rfl
  have e5 : (rhoOf theI ([[DV.int .i64 o], [DV.int .i64 ka, DV.int .i64 na, DV.str sa], [DV.int .i64 kb, DV.int .i64 nb, DV.str sb]] : List (List DV)).flatten).ρ 5 = DV.int .i64 nb := rfl
  have e6 : (rhoOf theI ([[DV.int .i64 o], [DV.int .i64 ka, DV.int .i64 na, DV.str sa], [DV.int .i64 kb, DV.int .i64 nb, DV.str sb]] : List (List DV)).flatten).ρ 6 = DV.str sb := rfl
  have hI : (rhoOf theI ([[DV.int .i64 o], [DV.int .i64 ka, DV.int .i64 na, DV.str sa], [DV.int .i64 kb, DV.int .i64 nb, DV.str sb]] : List (List DV)).flatten).I = theI := rfl
  generalize rhoOf theI ([[DV.int .i64 o], [DV.int .i64 ka, DV.int .i64 na, DV.str sa], [DV.int .i64 kb, DV.int .i64 nb, DV.str sb]] : List (List DV)).flatten = R at *
  have hb := @both_in o 6 ka na sa kb nb sb
  simp only [pTest, goalPlan, den, den.denL, den.denAll, e0, e1, e2, e3, e4, e5, e6, hI, binD, lenD, notD, atD, i19, i13, Fboth, FvCmp, Ftest, testV, iD, sD, List.flatten_cons, List.flatten_nil, List.append_nil, List.cons_append, List.nil_append, List.getD_cons_zero, List.getD_cons_succ, List.map_cons, List.map_nil, List.getD_nil, Int.toNat_zero, DV.bool.injEq, decide_eq_true_eq, decide_eq_false_iff_not, exists_eq', true_and, decide_true, Bool.true_and, k0, k1, km1]
  generalize bothZ o 6 ka na sa kb nb sb = B at *
  generalize cmpV ka na sa kb nb sb = C at *
  repeat' (first | (intro _) | (apply And.intro))
  all_goals simp_all [testZ]
  all_goals (first | omega | ((repeat' split) <;> (first | omega | (exfalso; omega) | exact ⟨rfl, rfl⟩ | (simp_all; done))))

theorem kReck : (hasB 134 && checkPlan [.agg tV, .one tI] (runI theI (entS [eBo, eAd, eSu, eMu, eDi, eRe]) [] [] 134 [.one tI, .agg tV, .agg tV]) [] pReck) = true := by kernel_rfl
theorem fnReck : FnOK Tryz.prog G 134 [.one tI, .agg tV, .agg tV] [.agg tV, .one tI] (fun _ => True) Freck := by
  have hk := kReck
  rw [Bool.and_eq_true] at hk
  refine fn_run (entS_ok eRk_ok) [] [] noLoops hk.1 pReck hk.2 ?_
  intro ds h _
  obtain ⟨o, ka, na, sa, kb, nb, sb, rfl, _⟩ := ovv_of h
  have e0 : (rhoOf theI ([[DV.int .i64 o], [DV.int .i64 ka, DV.int .i64 na, DV.str sa], [DV.int .i64 kb, DV.int .i64 nb, DV.str sb]] : List (List DV)).flatten).ρ 0 = DV.int .i64 o := rfl
  have e1 : (rhoOf theI ([[DV.int .i64 o], [DV.int .i64 ka, DV.int .i64 na, DV.str sa], [DV.int .i64 kb, DV.int .i64 nb, DV.str sb]] : List (List DV)).flatten).ρ 1 = DV.int .i64 ka := rfl
  have e2 : (rhoOf theI ([[DV.int .i64 o], [DV.int .i64 ka, DV.int .i64 na, DV.str sa], [DV.int .i64 kb, DV.int .i64 nb, DV.str sb]] : List (List DV)).flatten).ρ 2 = DV.int .i64 na := rfl
  have e3 : (rhoOf theI ([[DV.int .i64 o], [DV.int .i64 ka, DV.int .i64 na, DV.str sa], [DV.int .i64 kb, DV.int .i64 nb, DV.str sb]] : List (List DV)).flatten).ρ 3 = DV.str sa := rfl
  have e4 : (rhoOf theI ([[DV.int .i64 o], [DV.int .i64 ka, DV.int .i64 na, DV.str sa], [DV.int .i64 kb, DV.int .i64 nb, DV.str sb]] : List (List DV)).flatten).ρ 4 = DV.int .i64 kb := rfl
  have e5 : (rhoOf theI ([[DV.int .i64 o], [DV.int .i64 ka, DV.int .i64 na, DV.str sa], [DV.int .i64 kb, DV.int .i64 nb, DV.str sb]] : List (List DV)).flatten).ρ 5 = DV.int .i64 nb := rfl
  have e6 : (rhoOf theI ([[DV.int .i64 o], [DV.int .i64 ka, DV.int .i64 na, DV.str sa], [DV.int .i64 kb, DV.int .i64 nb, DV.str sb]] : List (List DV)).flatten).ρ 6 = DV.str sb := rfl
  have hI : (rhoOf theI ([[DV.int .i64 o], [DV.int .i64 ka, DV.int .i64 na, DV.str sa], [DV.int .i64 kb, DV.int .i64 nb, DV.str sb]] : List (List DV)).flatten).I = theI := rfl
  generalize rhoOf theI ([[DV.int .i64 o], [DV.int .i64 ka, DV.int .i64 na, DV.str sa], [DV.int .i64 kb, DV.int .i64 nb, DV.str sb]] : List (List DV)).flatten = R at *
  have hb := @both_in o 5 ka na sa kb nb sb
  simp only [pReck, goalPlan, den, den.denL, den.denAll, e0, e1, e2, e3, e4, e5, e6, hI, binD, lenD, notD, atD, i19, i21, i22, i23, i24, i25, Fboth, Frk, Freck, reckV, zeroV, bstr0, iD, sD, List.flatten_cons, List.flatten_nil, List.append_nil, List.cons_append, List.nil_append, List.getD_cons_zero, List.getD_cons_succ, List.map_cons, List.map_nil, List.getD_nil, Int.toNat_zero, DV.bool.injEq, decide_eq_true_eq, decide_eq_false_iff_not, exists_eq', true_and, decide_true, Bool.true_and, k0, k1, km1]
  generalize bothZ o 5 ka na sa kb nb sb = B at *
  repeat' (first | (intro _) | (apply And.intro))
  all_goals simp_all [zeroV]
  all_goals (first | omega | ((repeat' split) <;> (first | omega | (exfalso; omega) | exact ⟨rfl, rfl⟩ | (simp_all; done))))

end Go.Proofs.YtholilpmihngaaaGreatDoor
