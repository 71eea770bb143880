/-
  A part of the proof of QueryValues (the machine on named data, and the contracts of the functions that the law reaches): Q8 Q9 Q10.
-/
import Derived.Test.YtholilpmihngaaaGreatDoorKc
import Derived.Test.YtholilpmihngaaaGreatDoorKa
set_option linter.all false
set_option linter.unusedVariables false
set_option linter.unusedSimpArgs false
set_option linter.unusedSectionVars false
namespace Go.Proofs.YtholilpmihngaaaGreatDoor
open Go Go.AM
/-! ### which nodes may be -/
noncomputable def eKi : Ent := eFn 127 [.one tI] [.one tI] [] 26
theorem eNd_ok : EntsOK Tryz.prog G theI [eCk, eKi] := ⟨eCk_ok.1, eFn_ok plainG (pre_true fnKids) (fun _ => rfl) [] (by kernel_rfl), trivial⟩
theorem is_n {d : List DV} (h : IsL tN d) : ∃ k o a b t nm vk vn vs, d = [.int .i64 k, .int .i64 o, .int .i64 a, .int .i64 b, .str t, .str nm, .int .i64 vk, .int .i64 vn, .str vs] := by
  simp only [IsL, tN] at h
  obtain ⟨d1, _, rfl, h1, d2, _, rfl, h2, d3, _, rfl, h3, d4, _, rfl, h4, d5, _, rfl, h5, d6, _, rfl, h6, d7, _, rfl, h7, d8, _, rfl, h8, d9, _, rfl, h9, rfl⟩ := h
  obtain ⟨k, rfl, _⟩ := h1.i64
  obtain ⟨o, rfl, _⟩ := h2.i64
  obtain ⟨a, rfl, _⟩ := h3.i64
  obtain ⟨b, rfl, _⟩ := h4.i64
  obtain ⟨t, rfl, _⟩ := h5.str
  obtain ⟨nm, rfl, _⟩ := h6.str
  obtain ⟨vk, rfl, _⟩ := h7.i64
  obtain ⟨vn, rfl, _⟩ := h8.i64
  obtain ⟨vs, rfl, _⟩ := h9.str
  exact ⟨k, o, a, b, t, nm, vk, vn, vs, rfl⟩
theorem ni_of {ds : List (List DV)} (h : IsArgs [.agg tN, .one tI] ds) : ∃ k o a b t nm vk vn vs i, ds = [[.int .i64 k, .int .i64 o, .int .i64 a, .int .i64 b, .str t, .str nm, .int .i64 vk, .int .i64 vn, .str vs], [.int .i64 i]] := by
  simp only [IsArgs, IsOne] at h
  obtain ⟨_, _, rfl, h1, _, _, rfl, ⟨d, rfl, h2⟩, rfl⟩ := h
  obtain ⟨k, o, a, b, t, nm, vk, vn, vs, rfl⟩ := is_n h1
  obtain ⟨i, rfl, _⟩ := h2.i64
  exact ⟨k, o, a, b, t, nm, vk, vn, vs, i, rfl⟩
theorem i26 (ds : List DV) : theI 26 ds = .list (Fkids ds) := rfl
theorem kids_of (k : Int) : (k = 1 → kidsZ k = 0) ∧ (k = 7 → kidsZ k = 2) ∧ (k = 8 → kidsZ k = 2) := by
  refine ⟨?_, ?_, ?_⟩ <;> rintro rfl <;> rfl
noncomputable def pNode : Pln :=
  (.ask (.bin .eql (.at (.app 26 [(.v 0)]) (.ki .i64 (.ofNat 0)) 0) (.ki .i64 (.ofNat 0)))
    (.ask (.bin .eql (.v 0) (.ki .i64 (.ofNat 7)))
      (.ask (.bin .lss (.v 1) (.ki .i64 (.ofNat 1)))
        (.done [[(.kb false)]])
        (.done [[(.not (.bin .lss (.ki .i64 (.ofNat 6)) (.v 1)))]]))
      (.ask (.bin .eql (.v 0) (.ki .i64 (.ofNat 8)))
        (.ask (.bin .lss (.v 1) (.ki .i64 (.ofNat 1)))
          (.done [[(.kb false)]])
          (.done [[(.not (.bin .lss (.ki .i64 (.ofNat 5)) (.v 1)))]]))
        (.ask (.bin .eql (.v 0) (.ki .i64 (.ofNat 1)))
          (.done [[(.bin .eql (.at (.app 11 [(.v 6), (.v 7), (.v 8)]) (.ki .i64 (.ofNat 0)) 0) (.ki .i64 (.ofNat 0)))]])
          (.done [[(.kb true)]]))))
    (.ask (.bin .eql (.at (.app 26 [(.v 0)]) (.ki .i64 (.ofNat 0)) 0) (.ki .i64 (.ofNat 1)))
      (.ask (.bin .lss (.v 2) (.ki .i64 (.ofNat 0)))
        (.ask (.bin .eql (.at (.app 26 [(.v 0)]) (.ki .i64 (.ofNat 0)) 0) (.ki .i64 (.ofNat 2)))
          (.ask (.bin .eql (.v 0) (.ki .i64 (.ofNat 7)))
            (.done [[(.kb false)]])
            (.ask (.bin .eql (.v 0) (.ki .i64 (.ofNat 8)))
              (.done [[(.kb false)]])
              (.ask (.bin .eql (.v 0) (.ki .i64 (.ofNat 1)))
                (.done [[(.bin .eql (.at (.app 11 [(.v 6), (.v 7), (.v 8)]) (.ki .i64 (.ofNat 0)) 0) (.ki .i64 (.ofNat 0)))]])
                (.done [[(.kb false)]]))))
          (.ask (.bin .eql (.v 0) (.ki .i64 (.ofNat 7)))
            (.done [[(.kb false)]])
            (.ask (.bin .eql (.v 0) (.ki .i64 (.ofNat 8)))
              (.done [[(.kb false)]])
              (.ask (.bin .eql (.v 0) (.ki .i64 (.ofNat 1)))
                (.done [[(.bin .eql (.at (.app 11 [(.v 6), (.v 7), (.v 8)]) (.ki .i64 (.ofNat 0)) 0) (.ki .i64 (.ofNat 0)))]])
                (.done [[(.kb false)]])))))
        (.ask (.bin .lss (.v 2) (.v 9))
          (.ask (.bin .eql (.v 0) (.ki .i64 (.ofNat 7)))
            (.ask (.bin .lss (.v 1) (.ki .i64 (.ofNat 1)))
              (.done [[(.kb false)]])
              (.done [[(.not (.bin .lss (.ki .i64 (.ofNat 6)) (.v 1)))]]))
            (.ask (.bin .eql (.v 0) (.ki .i64 (.ofNat 8)))
              (.ask (.bin .lss (.v 1) (.ki .i64 (.ofNat 1)))
                (.done [[(.kb false)]])
                (.done [[(.not (.bin .lss (.ki .i64 (.ofNat 5)) (.v 1)))]]))
              (.ask (.bin .eql (.v 0) (.ki .i64 (.ofNat 1)))
                (.done [[(.bin .eql (.at (.app 11 [(.v 6), (.v 7), (.v 8)]) (.ki .i64 (.ofNat 0)) 0) (.ki .i64 (.ofNat 0)))]])
                (.done [[(.kb true)]]))))
          (.ask (.bin .eql (.at (.app 26 [(.v 0)]) (.ki .i64 (.ofNat 0)) 0) (.ki .i64 (.ofNat 2)))
            (.ask (.bin .eql (.v 0) (.ki .i64 (.ofNat 7)))
              (.done [[(.kb false)]])
              (.ask (.bin .eql (.v 0) (.ki .i64 (.ofNat 8)))
                (.done [[(.kb false)]])
                (.ask (.bin .eql (.v 0) (.ki .i64 (.ofNat 1)))
                  (.done [[(.bin .eql (.at (.app 11 [(.v 6), (.v 7), (.v 8)]) (.ki .i64 (.ofNat 0)) 0) (.ki .i64 (.ofNat 0)))]])
                  (.done [[(.kb false)]]))))
            (.ask (.bin .eql (.v 0) (.ki .i64 (.ofNat 7)))
              (.done [[(.kb false)]])
              (.ask (.bin .eql (.v 0) (.ki .i64 (.ofNat 8)))
                (.done [[(.kb false)]])
                (.ask (.bin .eql (.v 0) (.ki .i64 (.ofNat 1)))
                  (.done [[(.bin .eql (.at (.app 11 [(.v 6), (.v 7), (.v 8)]) (.ki .i64 (.ofNat 0)) 0) (.ki .i64 (.ofNat 0)))]])
                  (.done [[(.kb false)]])))))))
      (.ask (.bin .eql (.at (.app 26 [(.v 0)]) (.ki .i64 (.ofNat 0)) 0) (.ki .i64 (.ofNat 2)))
        (.ask (.bin .lss (.v 2) (.ki .i64 (.ofNat 0)))
          (.ask (.bin .eql (.v 0) (.ki .i64 (.ofNat 7)))
            (.done [[(.kb false)]])
            (.ask (.bin .eql (.v 0) (.ki .i64 (.ofNat 8)))
              (.done [[(.kb false)]])
              (.ask (.bin .eql (.v 0) (.ki .i64 (.ofNat 1)))
                (.done [[(.bin .eql (.at (.app 11 [(.v 6), (.v 7), (.v 8)]) (.ki .i64 (.ofNat 0)) 0) (.ki .i64 (.ofNat 0)))]])
                (.done [[(.kb false)]]))))
          (.ask (.bin .lss (.v 2) (.v 9))
            (.ask (.bin .lss (.v 3) (.ki .i64 (.ofNat 0)))
              (.ask (.bin .eql (.v 0) (.ki .i64 (.ofNat 7)))
                (.done [[(.kb false)]])
                (.ask (.bin .eql (.v 0) (.ki .i64 (.ofNat 8)))
                  (.done [[(.kb false)]])
                  (.ask (.bin .eql (.v 0) (.ki .i64 (.ofNat 1)))
                    (.done [[(.bin .eql (.at (.app 11 [(.v 6), (.v 7), (.v 8)]) (.ki .i64 (.ofNat 0)) 0) (.ki .i64 (.ofNat 0)))]])
                    (.done [[(.kb false)]]))))
              (.ask (.bin .eql (.v 0) (.ki .i64 (.ofNat 7)))
                (.ask (.bin .lss (.v 3) (.v 9))
                  (.ask (.bin .lss (.v 1) (.ki .i64 (.ofNat 1)))
                    (.done [[(.kb false)]])
                    (.done [[(.not (.bin .lss (.ki .i64 (.ofNat 6)) (.v 1)))]]))
                  (.done [[(.kb false)]]))
                (.ask (.bin .eql (.v 0) (.ki .i64 (.ofNat 8)))
                  (.ask (.bin .lss (.v 3) (.v 9))
                    (.ask (.bin .lss (.v 1) (.ki .i64 (.ofNat 1)))
                      (.done [[(.kb false)]])
                      (.done [[(.not (.bin .lss (.ki .i64 (.ofNat 5)) (.v 1)))]]))
                    (.done [[(.kb false)]]))
                  (.ask (.bin .eql (.v 0) (.ki .i64 (.ofNat 1)))
                    (.done [[(.bin .eql (.at (.app 11 [(.v 6), (.v 7), (.v 8)]) (.ki .i64 (.ofNat 0)) 0) (.ki .i64 (.ofNat 0)))]])
                    (.done [[(.bin .lss (.v 3) (.v 9))]])))))
            (.ask (.bin .eql (.v 0) (.ki .i64 (.ofNat 7)))
              (.done [[(.kb false)]])
              (.ask (.bin .eql (.v 0) (.ki .i64 (.ofNat 8)))
                (.done [[(.kb false)]])
                (.ask (.bin .eql (.v 0) (.ki .i64 (.ofNat 1)))
                  (.done [[(.bin .eql (.at (.app 11 [(.v 6), (.v 7), (.v 8)]) (.ki .i64 (.ofNat 0)) 0) (.ki .i64 (.ofNat 0)))]])
                  (.done [[(.kb false)]]))))))
        (.ask (.bin .eql (.v 0) (.ki .i64 (.ofNat 7)))
          (.done [[(.kb false)]])
          (.ask (.bin .eql (.v 0) (.ki .i64 (.ofNat 8)))
            (.done [[(.kb false)]])
            (.ask (.bin .eql (.v 0) (.ki .i64 (.ofNat 1)))
              (.done [[(.bin .eql (.at (.app 11 [(.v 6), (.v 7), (.v 8)]) (.ki .i64 (.ofNat 0)) 0) (.ki .i64 (.ofNat 0)))]])
              (.done [[(.kb false)]])))))))
theorem kNode : (hasB 73 && checkPlan [.one .bool] (runI theI (entS [eCk, eKi]) [] [] 73 [.agg tN, .one tI]) [] pNode) = true := by kernel_rfl
set_option maxHeartbeats 4000000 in
theorem fnNode : FnOK Tryz.prog G 73 [.agg tN, .one tI] [.one .bool] (fun _ => True) Fnode := by
  have hk := kNode
  rw [Bool.and_eq_true] at hk
  refine fn_run (entS_ok eNd_ok) [] [] noLoops hk.1 pNode hk.2 ?_
  intro ds h _
  obtain ⟨k, o, a, b, t, nm, vk, vn, vs, i, rfl⟩ := ni_of h
  have e0 : (rhoOf theI ([[DV.int .i64 k, DV.int .i64 o, DV.int .i64 a, DV.int .i64 b, DV.str t, DV.str nm, DV.int .i64 vk, DV.int .i64 vn, DV.str vs], [DV.int .i64 i]] : List (List DV)).flatten).ρ 0 = DV.int .i64 k := rfl
  have e1 : (rhoOf theI ([[DV.int .i64 k, DV.int .i64 o, DV.int .i64 a, DV.int .i64 b, DV.str t, DV.str nm, DV.int .i64 vk, DV.int .i64 vn, DV.str vs], [DV.int .i64 i]] : List (List DV)).flatten).ρ 1 = DV.int .i64 o := rfl
  have e2 : (rhoOf theI ([[DV.int .i64 k, DV.int .i64 o, DV.int .i64 a, DV.int .i64 b, DV.str t, DV.str nm, DV.int .i64 vk, DV.int .i64 vn, DV.str vs], [DV.int .i64 i]] : List (List DV)).flatten).ρ 2 = DV.int .i64 a := rfl
  have e3 : (rhoOf theI ([[DV.int .i64 k, DV.int .i64 o, DV.int .i64 a, DV.int .i64 b, DV.str t, DV.str nm, DV.int .i64 vk, DV.int .i64 vn, DV.str vs], [DV.int .i64 i]] : List (List DV)).flatten).ρ 3 = DV.int .i64 b := rfl
  have e4 : (rhoOf theI ([[DV.int .i64 k, DV.int .i64 o, DV.int .i64 a, DV.int .i64 b, DV.str t, DV.str nm, DV.int .i64 vk, DV.int .i64 vn, DV.str vs], [DV.int .i64 i]] : List (List DV)).flatten).ρ 4 = DV.str t := rfl
  have e5 : (rhoOf theI ([[DV.int .i64 k, DV.int .i64 o, DV.int .i64 a, DV.int .i64 b, DV.str t, DV.str nm, DV.int .i64 vk, DV.int .i64 vn, DV.str vs], [DV.int .i64 i]] : List (List DV)).flatten).ρ 5 = DV.str nm := rfl
  have e6 : (rhoOf theI ([[DV.int .i64 k, DV.int .i64 o, DV.int .i64 a, DV.int .i64 b, DV.str t, DV.str nm, DV.int .i64 vk, DV.int .i64 vn, DV.str vs], [DV.int .i64 i]] : List (List DV)).flatten).ρ 6 = DV.int .i64 vk := rfl
  have e7 : (rhoOf theI ([[DV.int .i64 k, DV.int .i64 o, DV.int .i64 a, DV.int .i64 b, DV.str t, DV.str nm, DV.int .i64 vk, DV.int .i64 vn, DV.str vs], [DV.int .i64 i]] : List (List DV)).flatten).ρ 7 = DV.int .i64 vn := rfl
  have e8 : (rhoOf theI ([[DV.int .i64 k, DV.int .i64 o, DV.int .i64 a, DV.int .i64 b, DV.str t, DV.str nm, DV.int .i64 vk, DV.int .i64 vn, DV.str vs], [DV.int .i64 i]] : List (List DV)).flatten).ρ 8 = DV.str vs := rfl
  have e9 : (rhoOf theI ([[DV.int .i64 k, DV.int .i64 o, DV.int .i64 a, DV.int .i64 b, DV.str t, DV.str nm, DV.int .i64 vk, DV.int .i64 vn, DV.str vs], [DV.int .i64 i]] : List (List DV)).flatten).ρ 9 = DV.int .i64 i := rfl
  have hI : (rhoOf theI ([[DV.int .i64 k, DV.int .i64 o, DV.int .i64 a, DV.int .i64 b, DV.str t, DV.str nm, DV.int .i64 vk, DV.int .i64 vn, DV.str vs], [DV.int .i64 i]] : List (List DV)).flatten).I = theI := rfl
  generalize rhoOf theI ([[DV.int .i64 k, DV.int .i64 o, DV.int .i64 a, DV.int .i64 b, DV.str t, DV.str nm, DV.int .i64 vk, DV.int .i64 vn, DV.str vs], [DV.int .i64 i]] : List (List DV)).flatten = R at *
  have hk := kids_of k
  simp only [pNode, goalPlan, den, den.denL, den.denAll, e0, e1, e2, e3, e4, e5, e6, e7, e8, e9, hI, binD, lenD, notD, atD, i11, i26, FvCheck, Fkids, Fnode, nodeOK, iD, sD, List.flatten_cons, List.flatten_nil, List.append_nil, List.cons_append, List.nil_append, List.getD_cons_zero, List.getD_cons_succ, List.map_cons, List.map_nil, List.getD_nil, Int.toNat_zero, DV.bool.injEq, decide_eq_true_eq, decide_eq_false_iff_not, exists_eq', true_and, decide_true, Bool.true_and, k0, k1, km1]
  generalize kidsZ k = C at *
  generalize valOK vk vn vs.size = A at *
  repeat' (first | (intro _) | (apply And.intro))
  all_goals simp_all []
  all_goals (first | omega | (rw [← decide_not, decide_eq_decide]; omega) | (cases A <;> simp_all; done) | skip)

end Go.Proofs.YtholilpmihngaaaGreatDoor
namespace Go.Proofs.YtholilpmihngaaaGreatDoor
open Go Go.AM
/-! ### which expressions may be -/
theorem isL_of : ∀ {ts : List Ty} {r : List DV}, r.length = ts.length → (∀ (j : Nat) (t : Ty) (d : DV), ts[j]? = some t → r[j]? = some d → Is t d) → IsL ts r
  | [], [], _, _ => by simp [IsL]
  | t :: ts, d :: r, h1, h2 => by
    simp only [IsL]
    exact ⟨d, r, rfl, h2 0 t d rfl rfl, isL_of (by simpa using h1) fun j u e hj he => h2 (j + 1) u e (by simpa using hj) (by simpa using he)⟩
  | [], _ :: _, h, _ => by simp at h
  | _ :: _, [], h, _ => by simp at h
theorem Is.lst {ts : List Ty} {d : DV} (h : Is (.slice ts) d) : ∃ l, d = .list l ∧ l.length ≤ maxLen ∧ ∀ r ∈ l, IsL ts r := by
  obtain ⟨l, rfl, h2, h3⟩ := h.list
  exact ⟨l, rfl, h2, fun r hr => isL_of (h3 r hr).1 (h3 r hr).2⟩
noncomputable def blkE (t : TypeId) : Blk := { t, row := false, sz := 1, n := 1, z := [.dead], c := Tr.nil.put 0 (.sy tE (.v 0)) }
noncomputable def TEx : Tmpl := { tm := [(1, .ptr 0 0), (6, .sy tE (.v 0)), (7, .sy tI (.len (.v 0))), (8, .sy tI (.v 1))], ob := [(0, blkE 28)], src := [.tm 6 tE, .tm 8 tI] }
noncomputable def YEx : Tmpl := { tm := [(1, .ptr 0 0), (6, .sy tE (.v 0))], ob := [(0, blkE 28)], src := [.tm 6 tE] }
noncomputable def NEx : Tmpl := { tm := [(2, .sc (.bool false)), (6, .sy tE (.v 0))], ob := [(0, blkE 28)], src := [.tm 6 tE] }
noncomputable def SEx : StdL := { n := 26, T := TEx, tys := [tE, tI], pre := [(eql (.v 1) (k64 0), true)], f := 111, two := true, keep := [0], yes := (.exit 0, YEx, 0), no := (.ret, NEx, 0) }
noncomputable def eNo : Ent := eFn 73 [.agg tN, .one tI] [.one .bool] [] 27
theorem eNo_ok : EntsOK Tryz.prog G theI [eNo] := ⟨eFn_ok plainG (pre_true fnNode) (fun _ => rfl) [] (by kernel_rfl), trivial⟩
noncomputable abbrev codeEx : Code := loopAt 31 0
noncomputable abbrev ndX : SX := .at (.app 27 [.at (.v 0) (.v 1) 0, .at (.v 0) (.v 1) 1, .at (.v 0) (.v 1) 2, .at (.v 0) (.v 1) 3, .at (.v 0) (.v 1) 4, .at (.v 0) (.v 1) 5, .at (.v 0) (.v 1) 6, .at (.v 0) (.v 1) 7, .at (.v 0) (.v 1) 8, .v 1]) (k64 0) 0
noncomputable def pEx : RPln :=
  .ask (lss (.v 1) (.len (.v 0)))
    (.know (lss (.v 1) (k64 0)) false (.ask (eql (.v 1) (k64 300)) (.exit false [.v 0]) (.ask ndX (.next [.v 0, add (.v 1) (k64 1)]) (.exit false [.v 0]))))
    (.exit true [.v 0])
theorem okEx : (SEx.ok && (planOK SEx pEx && checkRound SEx.L (roundS theI (entS [eNo]) [] [] codeEx) [] pEx)) = true := by kernel_rfl
theorem okFrom_end {l : List (List DV)} {i : Nat} (h : l.length ≤ i) : okFrom l i = true := by
  unfold okFrom
  rw [List.all_eq_true]
  intro j hj
  rw [List.mem_range] at hj
  rw [decide_eq_true (show j < i by omega), Bool.true_or]
theorem okFrom_step {l : List (List DV)} {i : Nat} (h : i < l.length) : okFrom l i = ((decide (i ≠ 300) && nodeR (l.getD i []) i) && okFrom l (i + 1)) := by
  rw [Bool.eq_iff_iff, Bool.and_eq_true]
  unfold okFrom
  simp only [List.all_eq_true, List.mem_range, Bool.or_eq_true, decide_eq_true_eq]
  constructor
  · intro hh
    refine ⟨(hh i h).resolve_left (by omega), fun j hj => ?_⟩
    rcases hh j hj with g | g
    · exact .inl (by omega)
    · exact .inr g
  · rintro ⟨h1, h2⟩ j hj
    rcases h2 j hj with g | g
    · by_cases e : j = i
      · subst e
        exact .inr h1
      · exact .inl (by omega)
    · exact .inr g
def InvEx (ds : List DV) : Prop := ∃ l i, ds = [.list l, .int .i64 i] ∧ 0 ≤ i ∧ i ≤ l.length ∧ l.length ≤ maxLen
def muEx (ds : List DV) : Nat := (lD ds 0).length - (iD ds 1).toNat
theorem nd_den {R : Rho} (hI : R.I = theI) {l : List (List DV)} {i : Int} (e0 : den R (.v 0) = .list l) (e1 : den R (.v 1) = .int .i64 i) : den R ndX = .bool (nodeR (l.getD i.toNat []) i) := by
  have e0' : R.ρ 0 = .list l := e0
  have e1' : R.ρ 1 = .int .i64 i := e1
  simp only [ndX, den, den.denL, hI, e0', e1', atD]
  rfl
theorem loopEx : LoopOK Tryz.prog G theI codeEx SEx.L := by
  refine loop_std (F := FexL) (Inv := InvEx) (μ := muEx) (entS_ok eNo_ok) (sub := []) trivial (lps := []) noLoops (fun _ => rfl) pEx okEx ?_ ?_
  · intro ds h hp
    simp only [SEx, IsL] at h
    obtain ⟨d0, _, rfl, h0, d1, _, rfl, h1, rfl⟩ := h
    obtain ⟨l, rfl, hl, _⟩ := Is.lst h0
    obtain ⟨i, rfl, _⟩ := h1.i64
    have p1 := hp (eql (.v 1) (k64 0), true) (by simp [SEx])
    have e1 : den (rhoOf theI [DV.list l, .int .i64 i]) (.v 1) = .int .i64 i := rfl
    rw [d_eql e1 (d_k .i64 0)] at p1
    simp only [DV.bool.injEq, decide_eq_true_eq] at p1
    exact ⟨l, i, rfl, by omega, by omega, hl⟩
  · rintro ds ⟨l, i, rfl, hi0, hi1, hl⟩
    have hmx := maxLen_lt
    have hI : (rhoOf theI [DV.list l, .int .i64 i]).I = theI := rfl
    generalize hR : rhoOf theI [DV.list l, .int .i64 i] = R at hI
    have e0 : den R (.v 0) = .list l := by rw [← hR]; rfl
    have e1 : den R (.v 1) = .int .i64 i := by rw [← hR]; rfl
    show goalR 1 FexL _ _ R _ pEx
    unfold pEx
    have hF : FexL [.list l, .int .i64 i] = (okFrom l i.toNat, []) := rfl
    refine r_ask (d_lss e1 (d_lenL e0)) (fun h => ?_) (fun h => ?_)
    · simp only [decide_eq_true_eq] at h
      have hs := okFrom_step (show i.toNat < l.length by omega)
      have hadd := d_add (R := R) e1 (d_k .i64 1) (by omega) (by omega)
      refine r_know (by rw [d_lss e1 (d_k .i64 0)]; simp; omega) (r_ask (d_eql e1 (d_k .i64 300)) (fun h3 => ?_) (fun h3 => r_ask (nd_den hI e0 e1) (fun hn => ?_) (fun hn => ?_)))
      · simp only [decide_eq_true_eq] at h3
        show FexL _ = (false, _)
        rw [hF, hs, decide_eq_false (show ¬ i.toNat ≠ 300 by omega)]
        rfl
      · simp only [decide_eq_false_iff_not] at h3
        have hτ : ([.v 0, add (.v 1) (k64 1)] : List SX).map (den R) = [.list l, .int .i64 (i + 1)] := by
          simp only [List.map_cons, List.map_nil, e0, hadd]
          rfl
        show InvEx _ ∧ muEx _ < muEx _ ∧ FexL _ = FexL _
        rw [hτ]
        refine ⟨⟨l, i + 1, rfl, by omega, by omega, hl⟩, ?_, ?_⟩
        · show l.length - (i + 1).toNat < l.length - i.toNat
          omega
        · show (okFrom l (i + 1).toNat, _) = (okFrom l i.toNat, _)
          rw [hs, decide_eq_true (show i.toNat ≠ 300 by omega), show ((i.toNat : Nat) : Int) = i by omega, hn, show (i + 1).toNat = i.toNat + 1 by omega]
          rfl
      · show FexL _ = (false, _)
        rw [hF, hs, show ((i.toNat : Nat) : Int) = i by omega, hn, Bool.and_false, Bool.false_and]
        rfl
    · simp only [decide_eq_false_iff_not] at h
      show FexL _ = (true, _)
      rw [hF, okFrom_end (by omega)]
      rfl
end Go.Proofs.YtholilpmihngaaaGreatDoor
namespace Go.Proofs.YtholilpmihngaaaGreatDoor
open Go Go.AM
/-! ### check.expr -/
noncomputable def pExpr : Pln :=
  (.ask (.at (.app 111 [(.v 0), (.ki .i64 (.ofNat 0))]) (.ki .i64 (.ofNat 0)) 0)
    (.done [[(.bin .lss (.ki .i64 (.ofNat 0)) (.len (.v 0)))]])
    (.done [[(.kb false)]]))
theorem e_of {ds : List (List DV)} (h : IsArgs [.agg [tE]] ds) : ∃ l, ds = [[.list l]] ∧ l.length ≤ maxLen ∧ ∀ r ∈ l, IsL tN r := by
  simp only [IsArgs, IsOne, IsL] at h
  obtain ⟨_, _, rfl, ⟨d, _, rfl, h1, rfl⟩, rfl⟩ := h
  obtain ⟨l, rfl, h2, h3⟩ := Is.lst h1
  exact ⟨l, rfl, h2, h3⟩
theorem kExpr : (hasB 31 && checkPlan [.one .bool] (runI theI (entS [eNo]) [(3, SEx.L)] [] 31 [.agg [tE]]) [] pExpr) = true := by kernel_rfl
theorem fnExpr : FnOK Tryz.prog G 31 [.agg [tE]] [.one .bool] (fun _ => True) FexOK := by
  have hk := kExpr
  rw [Bool.and_eq_true] at hk
  refine fn_run (entS_ok eNo_ok) [(3, SEx.L)] [] (loops1 (by kernel_rfl) loopEx) hk.1 pExpr hk.2 ?_
  intro ds h _
  obtain ⟨l, rfl, hl, _⟩ := e_of h
  have hI : (rhoOf theI ([[DV.list l]] : List (List DV)).flatten).I = theI := rfl
  have e0 : (rhoOf theI ([[DV.list l]] : List (List DV)).flatten).ρ 0 = .list l := rfl
  generalize rhoOf theI ([[DV.list l]] : List (List DV)).flatten = R at *
  have hd := d_std (R := R) (f := 111) (F := FexL) (k := 0) (es := [(.v 0), (.ki .i64 (.ofNat 0))]) hI (fun _ => rfl)
  have hF : FexL ([(.v 0), (.ki .i64 (.ofNat 0))].map (den R)) = (okFrom l 0, []) := by
    simp only [List.map_cons, List.map_nil, den, e0]
    rfl
  rw [hF] at hd
  have hX : FexOK ([[DV.list l]] : List (List DV)).flatten = [[.bool (okFrom l 0 && decide (0 < l.length))]] := rfl
  show (∃ b, _ = DV.bool b) ∧ _
  rw [hX, hd]
  refine ⟨⟨_, rfl⟩, fun h1 => ?_, fun h1 => ?_⟩
  · simp only [List.getD_cons_zero, DV.bool.injEq] at h1
    show _ = _
    rw [h1, Bool.true_and]
    simp [den, e0, lenD, binD]
  · simp only [List.getD_cons_zero, DV.bool.injEq] at h1
    show _ = _
    rw [h1, Bool.false_and]
    rfl
end Go.Proofs.YtholilpmihngaaaGreatDoor
