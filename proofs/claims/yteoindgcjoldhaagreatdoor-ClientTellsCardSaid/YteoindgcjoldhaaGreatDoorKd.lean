/-
  A part of the proof of ClientTells (the machine on named data, and the contracts of the functions that the law reaches): Kf8 Kf9 Kf10 Kf11 Kf12.
-/
import Derived.Test.YteoindgcjoldhaaGreatDoorKc
set_option linter.all false
set_option linter.unusedVariables false
set_option linter.unusedSimpArgs false
set_option linter.unusedSectionVars false
namespace Go.Proofs.YteoindgcjoldhaaGreatDoor
open Go Go.AM
noncomputable def noApp : SX → Bool
  | .v _ => true
  | .ki _ _ => true
  | .kb _ => true
  | .ks _ => true
  | .bin _ x y => noApp x && noApp y
  | _ => false
theorem den_noApp {R1 R2 : Rho} (h : R1.ρ = R2.ρ) : ∀ e : SX, noApp e = true → den R1 e = den R2 e
  | .v i, _ => by simp only [den, h]
  | .ki k z, _ => rfl
  | .kb b, _ => rfl
  | .ks s, _ => rfl
  | .bin op x y, hn => by simp only [noApp, Bool.and_eq_true] at hn; simp only [den, den_noApp h x hn.1, den_noApp h y hn.2]
theorem denAll_noApp {R1 R2 : Rho} (h : R1.ρ = R2.ρ) : ∀ es : List SX, es.all noApp = true → den.denAll R1 es = den.denAll R2 es
  | [], _ => rfl
  | e :: es, hn => by
    simp only [List.all_cons, Bool.and_eq_true] at hn
    simp only [den.denAll, den_noApp h e hn.1, denAll_noApp h es hn.2]
theorem denAll_append (R : Rho) : ∀ xs ys : List SX, den.denAll R (xs ++ ys) = (den.denAll R xs && den.denAll R ys)
  | [], ys => by simp [den.denAll]
  | x :: xs, ys => by simp [den.denAll, denAll_append R xs ys, Bool.and_assoc]
theorem old_noApp : oldE.all noApp = true := by kernel_rfl
theorem old_den (I : Nat → List DV → DV) (ds : List DV) : den.denAll (rhoOf I ds) oldE = oldZ ds := denAll_noApp rfl oldE old_noApp
noncomputable def preQ : List (SX × Bool) := [(.bin .lss (.ki .i64 (.ofNat 1000)) (.len (.v 1)), false)]
noncomputable def sp4 (O : Orc) : FuncId → Option (List AV → AHeap → Out)
  | 63 => some (@symSp O [.agg tVal] [.one tI] [] 63)
  | 69 => some (@symSp O [.agg tVal] [.one .bool] [] 69)
  | 64 => some (@symSp O [.one .str] [.one .bool] preL 64)
  | 68 => some (@symSp O [.one .str] [.one .bool] preL 68)
  | 36 => some (@symSp O [.agg tTx] [.one tI] [] 36)
  | 39 => some (@symSp O [.agg tTx] [.one .bool] [] 39)
  | f => sp3 O f
theorem sp4_ok (O : Orc) (hO : O.I = theI) : SpecOK Tryz.prog G (sp4 O) := by
  intro f sp h
  unfold sp4 at h
  split at h
  · cases h; exact spec_one fn63 fun ds => by rw [hO]; rfl
  · cases h; exact spec_one fn69 fun ds => by rw [hO]; rfl
  · cases h; exact symSp_ok plainG (by rw [hO]; exact fn64) (fun ds => by rw [hO]; rfl) (by kernel_rfl)
  · cases h; exact symSp_ok plainG (by rw [hO]; exact fn68) (fun ds => by rw [hO]; rfl) (by kernel_rfl)
  · cases h; exact spec_one fn36 fun ds => by rw [hO]; rfl
  · cases h; exact spec_one fn39 fun ds => by rw [hO]; rfl
  · exact sp3_ok O hO f sp h
noncomputable def p37b : Pln :=
  (.ask (.bin .eql (.v 0) (.ki .i64 (.ofNat 1)))
    (.ask (.bin .eql (.at (.app 63 [(.v 2), (.v 3), (.v 4)]) (.ki .i64 (.ofNat 0)) 0) (.ki .i64 (.ofNat 0)))
      (.ask (.bin .eql (.v 0) (.ki .i64 (.ofNat 3)))
        (.ask (.bin .eql (.v 2) (.ki .i64 (.ofNat 1)))
          (.done [[(.ki .i64 (.ofNat 300))]])
          (.ask (allO [(.bin .eql (.v 1) (.ks (bstr #[]))), (.bin .eql (.v 5) (.ki .i64 (.ofNat 0))), (.bin .eql (.v 6) (.ki .i64 (.ofNat 0))), (.bin .eql (.v 7) (.ks (bstr #[]))), (.bin .eql (.v 8) (.ki .i64 (.ofNat 0))), (.bin .eql (.v 9) (.ki .i64 (.ofNat 0))), (.bin .eql (.v 10) (.ks (bstr #[])))])
            (.done [[(.ki .i64 (.ofNat 0))]])
            (.done [[(.ki .i64 (.ofNat 300))]])))
        (.ask (.bin .eql (.v 2) (.ki .i64 (.ofNat 1)))
          (.done [[(.ki .i64 (.ofNat 300))]])
          (.ask (.at (.app 64 [(.v 1)]) (.ki .i64 (.ofNat 0)) 0)
            (.ask (allO [(.bin .eql (.v 5) (.ki .i64 (.ofNat 0))), (.bin .eql (.v 6) (.ki .i64 (.ofNat 0))), (.bin .eql (.v 7) (.ks (bstr #[]))), (.bin .eql (.v 8) (.ki .i64 (.ofNat 0))), (.bin .eql (.v 9) (.ki .i64 (.ofNat 0))), (.bin .eql (.v 10) (.ks (bstr #[])))])
              (.done [[(.ki .i64 (.ofNat 0))]])
              (.done [[(.ki .i64 (.ofNat 300))]]))
            (.done [[(.ki .i64 (.ofNat 300))]]))))
      (.ask (.bin .eql (.v 0) (.ki .i64 (.ofNat 3)))
        (.done [[(.ki .i64 (.ofNat 300))]])
        (.done [[(.ki .i64 (.ofNat 300))]])))
    (.ask (.bin .eql (.v 0) (.ki .i64 (.ofNat 2)))
      (.ask (.bin .eql (.at (.app 63 [(.v 5), (.v 6), (.v 7)]) (.ki .i64 (.ofNat 0)) 0) (.ki .i64 (.ofNat 0)))
        (.ask (.bin .eql (.v 0) (.ki .i64 (.ofNat 3)))
          (.ask (.bin .eql (.at (.app 63 [(.v 8), (.v 9), (.v 10)]) (.ki .i64 (.ofNat 0)) 0) (.ki .i64 (.ofNat 0)))
            (.ask (allO [(.bin .eql (.v 1) (.ks (bstr #[]))), (.bin .eql (.v 2) (.ki .i64 (.ofNat 0))), (.bin .eql (.v 3) (.ki .i64 (.ofNat 0))), (.bin .eql (.v 4) (.ks (bstr #[])))])
              (.done [[(.ki .i64 (.ofNat 0))]])
              (.done [[(.ki .i64 (.ofNat 300))]]))
            (.done [[(.ki .i64 (.ofNat 300))]]))
          (.ask (.bin .eql (.at (.app 63 [(.v 8), (.v 9), (.v 10)]) (.ki .i64 (.ofNat 0)) 0) (.ki .i64 (.ofNat 0)))
            (.ask (.at (.app 64 [(.v 1)]) (.ki .i64 (.ofNat 0)) 0)
              (.ask (allO [(.bin .eql (.v 2) (.ki .i64 (.ofNat 0))), (.bin .eql (.v 3) (.ki .i64 (.ofNat 0))), (.bin .eql (.v 4) (.ks (bstr #[])))])
                (.done [[(.ki .i64 (.ofNat 0))]])
                (.done [[(.ki .i64 (.ofNat 300))]]))
              (.done [[(.ki .i64 (.ofNat 300))]]))
            (.done [[(.ki .i64 (.ofNat 300))]])))
        (.ask (.bin .eql (.v 0) (.ki .i64 (.ofNat 3)))
          (.done [[(.ki .i64 (.ofNat 300))]])
          (.done [[(.ki .i64 (.ofNat 300))]])))
      (.ask (.bin .eql (.v 0) (.ki .i64 (.ofNat 3)))
        (.ask (.all [(.bin .eql (.v 1) (.ks (bstr #[]))), (.bin .eql (.v 2) (.ki .i64 (.ofNat 0))), (.bin .eql (.v 3) (.ki .i64 (.ofNat 0))), (.bin .eql (.v 4) (.ks (bstr #[]))), (.bin .eql (.v 5) (.ki .i64 (.ofNat 0))), (.bin .eql (.v 6) (.ki .i64 (.ofNat 0))), (.bin .eql (.v 7) (.ks (bstr #[]))), (.bin .eql (.v 8) (.ki .i64 (.ofNat 0))), (.bin .eql (.v 9) (.ki .i64 (.ofNat 0))), (.bin .eql (.v 10) (.ks (bstr #[])))])
          (.done [[(.ki .i64 (.ofNat 0))]])
          (.done [[(.ki .i64 (.ofNat 300))]]))
        (.done [[(.ki .i64 (.ofNat 300))]]))))
noncomputable def p40b : Pln :=
  (.ask (.bin .eql (.v 0) (.ki .i64 (.ofNat 1)))
    (.ask (.at (.app 68 [(.v 1)]) (.ki .i64 (.ofNat 0)) 0)
      (.ask (.at (.app 69 [(.v 2), (.v 3), (.v 4)]) (.ki .i64 (.ofNat 0)) 0)
        (.ask (.bin .eql (.v 2) (.ki .i64 (.ofNat 1)))
          (.done [[(.kb false)]])
          (.ask (.all [(.bin .eql (.v 5) (.ki .i64 (.ofNat 0))), (.bin .eql (.v 6) (.ki .i64 (.ofNat 0))), (.bin .eql (.v 7) (.ks (bstr #[])))])
            (.ask (.all [(.bin .eql (.v 8) (.ki .i64 (.ofNat 0))), (.bin .eql (.v 9) (.ki .i64 (.ofNat 0))), (.bin .eql (.v 10) (.ks (bstr #[])))])
              (.done [[(.all oldE)]])
              (.done [[(.kb false)]]))
            (.done [[(.kb false)]])))
        (.done [[(.kb false)]]))
      (.done [[(.kb false)]]))
    (.ask (.bin .eql (.v 0) (.ki .i64 (.ofNat 2)))
      (.ask (.at (.app 68 [(.v 1)]) (.ki .i64 (.ofNat 0)) 0)
        (.ask (.at (.app 69 [(.v 5), (.v 6), (.v 7)]) (.ki .i64 (.ofNat 0)) 0)
          (.ask (.at (.app 69 [(.v 8), (.v 9), (.v 10)]) (.ki .i64 (.ofNat 0)) 0)
            (.ask (.all [(.bin .eql (.v 2) (.ki .i64 (.ofNat 0))), (.bin .eql (.v 3) (.ki .i64 (.ofNat 0))), (.bin .eql (.v 4) (.ks (bstr #[])))])
              (.done [[(.all oldE)]])
              (.done [[(.kb false)]]))
            (.done [[(.kb false)]]))
          (.done [[(.kb false)]]))
        (.done [[(.kb false)]]))
      (.ask (.bin .eql (.v 0) (.ki .i64 (.ofNat 3)))
        (.ask (.bin .eql (.v 1) (.ks (bstr #[])))
          (.ask (.all [(.bin .eql (.v 2) (.ki .i64 (.ofNat 0))), (.bin .eql (.v 3) (.ki .i64 (.ofNat 0))), (.bin .eql (.v 4) (.ks (bstr #[])))])
            (.ask (.all [(.bin .eql (.v 5) (.ki .i64 (.ofNat 0))), (.bin .eql (.v 6) (.ki .i64 (.ofNat 0))), (.bin .eql (.v 7) (.ks (bstr #[])))])
              (.done [[(.all [(.bin .eql (.v 8) (.ki .i64 (.ofNat 0))), (.bin .eql (.v 9) (.ki .i64 (.ofNat 0))), (.bin .eql (.v 10) (.ks (bstr #[])))])]])
              (.done [[(.kb false)]]))
            (.done [[(.kb false)]]))
          (.done [[(.kb false)]]))
        (.done [[(.kb false)]]))))

noncomputable def p37 : Pln := .know (.bin .lss (.ki .i64 (.ofNat 1000)) (.len (.v 1))) false p37b
noncomputable def p40 : Pln := .know (.bin .lss (.ki .i64 (.ofNat 1000)) (.len (.v 1))) false p40b
theorem c37 : checkPlan [.one tI] (fun facts => @callL (mkO facts theI) Tryz.prog G (sp4 (mkO facts theI)) 100 (fun _ => none) 37 (mkArgs 0 [.agg tQry]) heap0) [] p37 = true := by kernel_rfl
theorem c40 : checkPlan [.one .bool] (fun facts => @callL (mkO facts theI) Tryz.prog G (sp4 (mkO facts theI)) 100 (fun _ => none) 40 (mkArgs 0 [.agg tQry]) heap0) [] p40 = true := by kernel_rfl
def qryPre (ds : List DV) : Prop := ∀ p ∈ preQ, den (rhoOf theI ds) p.1 = .bool p.2
theorem agg_qry {m : Env} {ds : List (List DV)} {vs : List Value} (h : RepArgs m [.agg tQry] ds vs) : ∃ k t a b c d e f g h i r, ds = [DV.int .i64 k :: .str t :: .int .i64 a :: .int .i64 b :: .str c :: .int .i64 d :: .int .i64 e :: .str f :: .int .i64 g :: .int .i64 h :: .str i :: r] := by
  simp only [RepArgs, RepOne] at h
  obtain ⟨_, _, _, _, rfl, rfl, ⟨_, rfl, h⟩, rfl, rfl⟩ := h
  simp only [tQry, tVal, List.cons_append, List.nil_append, RepV, Rep] at h
  obtain ⟨_, _, _, _, rfl, _, ⟨k, rfl, _⟩, _, _, _, _, rfl, _, ⟨t, rfl, _⟩, _, _, _, _, rfl, _, ⟨a, rfl, _⟩, _, _, _, _, rfl, _, ⟨b, rfl, _⟩, _, _, _, _, rfl, _, ⟨c, rfl, _⟩,
    _, _, _, _, rfl, _, ⟨d, rfl, _⟩, _, _, _, _, rfl, _, ⟨e, rfl, _⟩, _, _, _, _, rfl, _, ⟨f, rfl, _⟩, _, _, _, _, rfl, _, ⟨g, rfl, _⟩, _, _, _, _, rfl, _, ⟨h, rfl, _⟩, _, r, _, _, rfl, _, ⟨i, rfl, _⟩, _⟩ := h
  exact ⟨k, t, a, b, c, d, e, f, g, h, i, r, rfl⟩
theorem fn40 : FnOK Tryz.prog G 40 [.agg tQry] [.one .bool] qryPre F40 := by
  refine fn_run (spec := sp4) sp4_ok (by kernel_rfl) p40 c40 ?_
  intro E ds vs h hp
  obtain ⟨k, t, a, b, c, d, e, f, g, u, v, r, rfl⟩ := agg_qry h
  refine ⟨hp _ (List.mem_cons_self), ?_⟩
  have ho := old_den theI [DV.int .i64 k :: .str t :: .int .i64 a :: .int .i64 b :: .str c :: .int .i64 d :: .int .i64 e :: .str f :: .int .i64 g :: .int .i64 u :: .str v :: r].flatten
  generalize hR : rhoOf theI [DV.int .i64 k :: .str t :: .int .i64 a :: .int .i64 b :: .str c :: .int .i64 d :: .int .i64 e :: .str f :: .int .i64 g :: .int .i64 u :: .str v :: r].flatten = R at *
  have hI : ∀ k ds, R.I k ds = theI k ds := by rw [← hR]; exact fun _ _ => rfl
  have h0 : R.ρ 0 = .int .i64 k := by rw [← hR]; rfl
  have h1 : R.ρ 1 = .str t := by rw [← hR]; rfl
  have h2 : R.ρ 2 = .int .i64 a := by rw [← hR]; rfl
  have h3 : R.ρ 3 = .int .i64 b := by rw [← hR]; rfl
  have h4 : R.ρ 4 = .str c := by rw [← hR]; rfl
  have h5 : R.ρ 5 = .int .i64 d := by rw [← hR]; rfl
  have h6 : R.ρ 6 = .int .i64 e := by rw [← hR]; rfl
  have h7 : R.ρ 7 = .str f := by rw [← hR]; rfl
  have h8 : R.ρ 8 = .int .i64 g := by rw [← hR]; rfl
  have h9 : R.ρ 9 = .int .i64 u := by rw [← hR]; rfl
  have h10 : R.ρ 10 = .str v := by rw [← hR]; rfl
  have i63 : ∀ ds, theI 63 ds = .list (F63 ds) := fun _ => rfl
  have i69 : ∀ ds, theI 69 ds = .list (F69 ds) := fun _ => rfl
  have i64 : ∀ ds, theI 64 ds = .list (F68 ds) := fun _ => rfl
  have i68 : ∀ ds, theI 68 ds = .list (F68 ds) := fun _ => rfl
  have hq : qryD [DV.int .i64 k :: .str t :: .int .i64 a :: .int .i64 b :: .str c :: .int .i64 d :: .int .i64 e :: .str f :: .int .i64 g :: .int .i64 u :: .str v :: r].flatten = (if k = 1 then nameB t && valB a b c && decide (a ≠ 1) && zeroV d e f && zeroV g u v && oldZ [DV.int .i64 k :: .str t :: .int .i64 a :: .int .i64 b :: .str c :: .int .i64 d :: .int .i64 e :: .str f :: .int .i64 g :: .int .i64 u :: .str v :: r].flatten else
    if k = 2 then nameB t && valB d e f && valB g u v && zeroV a b c && oldZ [DV.int .i64 k :: .str t :: .int .i64 a :: .int .i64 b :: .str c :: .int .i64 d :: .int .i64 e :: .str f :: .int .i64 g :: .int .i64 u :: .str v :: r].flatten else
    if k = 3 then decide (t = bstr #[]) && zeroV a b c && zeroV d e f && zeroV g u v else false) := rfl
  clear hR
  generalize oldZ [DV.int .i64 k :: .str t :: .int .i64 a :: .int .i64 b :: .str c :: .int .i64 d :: .int .i64 e :: .str f :: .int .i64 g :: .int .i64 u :: .str v :: r].flatten = oz at *
  have hF : F40 [DV.int .i64 k :: .str t :: .int .i64 a :: .int .i64 b :: .str c :: .int .i64 d :: .int .i64 e :: .str f :: .int .i64 g :: .int .i64 u :: .str v :: r].flatten = [[.bool (if k = 1 then nameB t && valB a b c && decide (a ≠ 1) && zeroV d e f && zeroV g u v && oz else if k = 2 then nameB t && valB d e f && valB g u v && zeroV a b c && oz else if k = 3 then decide (t = bstr #[]) && zeroV a b c && zeroV d e f && zeroV g u v else false)]] := by rw [F40, hq]
  rw [hF]
  simp only [p40b, goalPlan, allO, den, den.denL, den.denAll, denAll_append, ho, hI, h0, h1, h2, h3, h4, h5, h6, h7, h8, h9, h10, i63, i69, i64, i68, F63, F69, F68, iD, sD, atD, binD, isT, List.getD_cons_zero, List.getD_cons_succ, Int.ofNat_eq_natCast, zeroV, List.map_cons, List.map_nil]
  clear h hp hq hF ho hI h0 h1 h2 h3 h4 h5 h6 h7 h8 h9 h10 i63 i69 i64 i68
  generalize nameB t = nb
  generalize valB a b c = va
  generalize valB d e f = vd
  generalize valB g u v = vg
  by_cases k1 : k = 1
  · subst k1
    first | (simp; done) | (simp; grind (splits := 60))
  · by_cases k2 : k = 2
    · subst k2
      first | (simp; done) | (simp; grind (splits := 60))
    · by_cases k3 : k = 3
      · subst k3
        first | (simp; done) | (simp; grind (splits := 60))
      · simp [k1, k2, k3]
theorem fn37 : FnOK Tryz.prog G 37 [.agg tQry] [.one tI] qryPre F37 := by
  refine fn_run (spec := sp4) sp4_ok (by kernel_rfl) p37 c37 ?_
  intro E ds vs h hp
  obtain ⟨k, t, a, b, c, d, e, f, g, u, v, r, rfl⟩ := agg_qry h
  refine ⟨hp _ (List.mem_cons_self), ?_⟩
  have ho := old_den theI [DV.int .i64 k :: .str t :: .int .i64 a :: .int .i64 b :: .str c :: .int .i64 d :: .int .i64 e :: .str f :: .int .i64 g :: .int .i64 u :: .str v :: r].flatten
  generalize hR : rhoOf theI [DV.int .i64 k :: .str t :: .int .i64 a :: .int .i64 b :: .str c :: .int .i64 d :: .int .i64 e :: .str f :: .int .i64 g :: .int .i64 u :: .str v :: r].flatten = R at *
  have hI : ∀ k ds, R.I k ds = theI k ds := by rw [← hR]; exact fun _ _ => rfl
  have h0 : R.ρ 0 = .int .i64 k := by rw [← hR]; rfl
  have h1 : R.ρ 1 = .str t := by rw [← hR]; rfl
  have h2 : R.ρ 2 = .int .i64 a := by rw [← hR]; rfl
  have h3 : R.ρ 3 = .int .i64 b := by rw [← hR]; rfl
  have h4 : R.ρ 4 = .str c := by rw [← hR]; rfl
  have h5 : R.ρ 5 = .int .i64 d := by rw [← hR]; rfl
  have h6 : R.ρ 6 = .int .i64 e := by rw [← hR]; rfl
  have h7 : R.ρ 7 = .str f := by rw [← hR]; rfl
  have h8 : R.ρ 8 = .int .i64 g := by rw [← hR]; rfl
  have h9 : R.ρ 9 = .int .i64 u := by rw [← hR]; rfl
  have h10 : R.ρ 10 = .str v := by rw [← hR]; rfl
  have i63 : ∀ ds, theI 63 ds = .list (F63 ds) := fun _ => rfl
  have i69 : ∀ ds, theI 69 ds = .list (F69 ds) := fun _ => rfl
  have i64 : ∀ ds, theI 64 ds = .list (F68 ds) := fun _ => rfl
  have i68 : ∀ ds, theI 68 ds = .list (F68 ds) := fun _ => rfl
  have hq : qryD [DV.int .i64 k :: .str t :: .int .i64 a :: .int .i64 b :: .str c :: .int .i64 d :: .int .i64 e :: .str f :: .int .i64 g :: .int .i64 u :: .str v :: r].flatten = (if k = 1 then nameB t && valB a b c && decide (a ≠ 1) && zeroV d e f && zeroV g u v && oldZ [DV.int .i64 k :: .str t :: .int .i64 a :: .int .i64 b :: .str c :: .int .i64 d :: .int .i64 e :: .str f :: .int .i64 g :: .int .i64 u :: .str v :: r].flatten else
    if k = 2 then nameB t && valB d e f && valB g u v && zeroV a b c && oldZ [DV.int .i64 k :: .str t :: .int .i64 a :: .int .i64 b :: .str c :: .int .i64 d :: .int .i64 e :: .str f :: .int .i64 g :: .int .i64 u :: .str v :: r].flatten else
    if k = 3 then decide (t = bstr #[]) && zeroV a b c && zeroV d e f && zeroV g u v else false) := rfl
  clear hR
  generalize oldZ [DV.int .i64 k :: .str t :: .int .i64 a :: .int .i64 b :: .str c :: .int .i64 d :: .int .i64 e :: .str f :: .int .i64 g :: .int .i64 u :: .str v :: r].flatten = oz at *
  have hF : F37 [DV.int .i64 k :: .str t :: .int .i64 a :: .int .i64 b :: .str c :: .int .i64 d :: .int .i64 e :: .str f :: .int .i64 g :: .int .i64 u :: .str v :: r].flatten = [[.int .i64 (if (if k = 1 then nameB t && valB a b c && decide (a ≠ 1) && zeroV d e f && zeroV g u v && oz else if k = 2 then nameB t && valB d e f && valB g u v && zeroV a b c && oz else if k = 3 then decide (t = bstr #[]) && zeroV a b c && zeroV d e f && zeroV g u v else false) then 0 else 300)]] := by rw [F37, hq]
  rw [hF]
  simp only [p37b, goalPlan, allO, den, den.denL, den.denAll, denAll_append, ho, hI, h0, h1, h2, h3, h4, h5, h6, h7, h8, h9, h10, i63, i69, i64, i68, F63, F69, F68, iD, sD, atD, binD, isT, List.getD_cons_zero, List.getD_cons_succ, Int.ofNat_eq_natCast, zeroV, List.map_cons, List.map_nil]
  clear h hp hq hF ho hI h0 h1 h2 h3 h4 h5 h6 h7 h8 h9 h10 i63 i69 i64 i68
  generalize nameB t = nb
  generalize valB a b c = va
  generalize valB d e f = vd
  generalize valB g u v = vg
  by_cases k1 : k = 1
  · subst k1
    first | (simp; done) | (simp; grind (splits := 60))
  · by_cases k2 : k = 2
    · subst k2
      first | (simp; done) | (simp; grind (splits := 60))
    · by_cases k3 : k = 3
      · subst k3
        first | (simp; done) | (simp; grind (splits := 60))
      · simp [k1, k2, k3]
end Go.Proofs.YteoindgcjoldhaaGreatDoor
namespace Go.Proofs.YteoindgcjoldhaaGreatDoor
open Go Go.AM
theorem sorted_ge {es : List (List DV)} {i : Int} (h : (es.length : Int) ≤ i) : sortedFrom es i = true := by
  unfold sortedFrom
  simp only [decide_eq_true_eq]
  intro j h1 h2
  omega
theorem sorted_step {es : List (List DV)} {i : Int} (h0 : 0 ≤ i) (h : i < es.length) : sortedFrom es i = ((decide (i = 0) || decide (ix es (i - 1).toNat < ix es i.toNat)) && sortedFrom es (i + 1)) := by
  rw [Bool.eq_iff_iff]
  simp only [sortedFrom, decide_eq_true_eq, Bool.and_eq_true, Bool.or_eq_true]
  constructor
  · intro H
    refine ⟨?_, fun j h1 h2 => H j h1 (by omega)⟩
    rcases H i.toNat (by omega) (by omega) with h | h
    · exact .inl (by omega)
    · refine .inr ?_
      rw [show (i - 1).toNat = i.toNat - 1 by omega]
      exact h
  · rintro ⟨H1, H2⟩ j h1 h2
    by_cases e : (j : Int) = i
    · rcases H1 with H1 | H1
      · exact .inl (by omega)
      · refine .inr ?_
        rw [show (i - 1).toNat = j - 1 by omega, show i.toNat = j by omega] at H1
        exact H1
    · exact H2 j h1 (by omega)
noncomputable def ob12 : List (Nat × Blk) := [(0, { t := 34, row := false, sz := 1, n := 83, z := [.dead], c := (Tr.nil : Tr AV).put 82 (.sy (.slice tDig) (.v 0)) })]
noncomputable def obX : List (Nat × Blk) := [(0, { t := 34, row := false, sz := 1, n := 0, z := [.dead], c := .nil })]
noncomputable def T12 : Tmpl := ⟨[(1, .ptr 0 0), (5, .sy .bool (.v 2)), (86, .sy (.slice tDig) (.v 0)), (87, .sy tI (.len (.v 0))), (88, .sy tI (.v 1))], ob12⟩
noncomputable def Y12 : Tmpl := ⟨[(5, .sy .bool (.v 0))], obX⟩
noncomputable def L12 : LoopSp :=
  { n := 113, T := T12, src := [.tm 86 (.slice tDig), .tm 88 tI, .tm 5 .bool], pre := [(.bin .lss (.v 1) zeroS, false), (.bin .lss (.len (.v 0)) (.v 1), false)], cnd := .kb true,
    yes := (.exit 0, Y12.sub [.app 1012 [.v 0, .v 1, .v 2]]), no := (.exit 0, Y12.sub [.app 1012 [.v 0, .v 1, .v 2]]) }
noncomputable def T15 : Tmpl := ⟨[(1, .ptr 0 0), (82, .sy (.slice tDig) (.v 0)), (83, .sy tI (.len (.v 0))), (84, .sy tI (.v 1))], ob12⟩
noncomputable def Y15 : Tmpl := ⟨[], obX⟩
noncomputable def N15 : Tmpl := ⟨[(2, .sc (.bool false))], obX⟩
noncomputable def L15 : LoopSp :=
  { n := 104, T := T15, src := [.tm 82 (.slice tDig), .tm 84 tI], pre := [(.bin .lss (.v 1) zeroS, false), (.bin .lss (.len (.v 0)) (.v 1), false)], cnd := .app 1015 [.v 0, .v 1],
    yes := (.exit 0, Y15.sub []), no := (.ret, N15.sub []) }
noncomputable def prS : SX := .bin .sub (.v 1) (.ki .i64 (.ofNat 1))
noncomputable def ltS : SX := .bin .lss (.at (.v 0) prS 0) (.at (.v 0) (.v 1) 0)
noncomputable def inF : List (SX × Bool) := [(.bin .lss (.v 1) (.len (.v 0)), true), (.bin .lss (.v 1) zeroS, false)]
noncomputable def pvF : List (SX × Bool) := [(.bin .lss prS (.len (.v 0)), true), (.bin .lss prS zeroS, false)]
noncomputable def run12 (facts : List (SX × Bool)) (s : St) : Run := @codeL (mkO facts theI) Tryz.prog G (sp4 (mkO facts theI)) 100 (fun _ => none) (loop1 12) s
noncomputable def run15 (facts : List (SX × Bool)) (s : St) : Run := @codeL (mkO facts theI) Tryz.prog G (sp4 (mkO facts theI)) 100 (fun _ => none) (loop1 15) s
noncomputable def nx3 (e : SX) : List SX := [.v 0, .bin .add (.v 1) (.ki .i64 (.ofNat 1)), e]
noncomputable def k1 : List (SX × Bool) := [(.bin .lss (.v 1) (.len (.v 0)), false)]
noncomputable def k2 : List (SX × Bool) := (.v 2, false) :: inF
noncomputable def k3 : List (SX × Bool) := (.v 2, true) :: (.bin .eql (.v 1) zeroS, true) :: inF
noncomputable def k4 : List (SX × Bool) := (.v 2, true) :: (.bin .eql (.v 1) zeroS, false) :: (inF ++ pvF)
theorem w1 : stepExit L12 Y12 (.exit 0) [.v 2] (run12 k1 (L12.T.st L12.n)) = true := by kernel_rfl
theorem w2 : stepNext L12 (nx3 (.kb false)) (run12 k2 (L12.T.st L12.n)) = true := by kernel_rfl
theorem w3 : stepNext L12 (nx3 (.kb true)) (run12 k3 (L12.T.st L12.n)) = true := by kernel_rfl
theorem w4 : stepNext L12 (nx3 ltS) (run12 k4 (L12.T.st L12.n)) = true := by kernel_rfl
noncomputable def q2 : List (SX × Bool) := (.bin .lss zeroS (.v 1), false) :: inF
noncomputable def q3 (b : Bool) : List (SX × Bool) := (.bin .lss zeroS (.v 1), true) :: (ltS, b) :: (inF ++ pvF)
theorem v1 : stepExit L15 Y15 (.exit 0) [] (run15 k1 (L15.T.st L15.n)) = true := by kernel_rfl
theorem v2 : stepNext L15 nx (run15 q2 (L15.T.st L15.n)) = true := by kernel_rfl
theorem v3 : stepNext L15 nx (run15 (q3 true) (L15.T.st L15.n)) = true := by kernel_rfl
theorem v4 : stepExit L15 N15 .ret [] (run15 (q3 false) (L15.T.st L15.n)) = true := by kernel_rfl
theorem one12 : (loopsIn (bodyOf 12)).length = 1 := by kernel_rfl
theorem one15 : (loopsIn (bodyOf 15)).length = 1 := by kernel_rfl
end Go.Proofs.YteoindgcjoldhaaGreatDoor
namespace Go.Proofs.YteoindgcjoldhaaGreatDoor
open Go Go.AM
def Digs (es : List (List DV)) : Prop := es.length ≤ maxLen ∧ ∀ j, j < es.length → ∃ z, (es.getD j []).getD 0 (.bool false) = .int .u64 z
theorem digs_ix {es : List (List DV)} (h : Digs es) {j : Nat} (hj : j < es.length) : (es.getD j []).getD 0 (.bool false) = .int .u64 (ix es j) := by
  obtain ⟨z, hz⟩ := h.2 j hj
  rw [hz]
  simp only [ix, iD, hz]
theorem rep_digs {m : Env} {d : DV} {v : Value} (h : Rep m (.slice tDig) d v) : ∃ es, d = .list es ∧ Digs es := by
  simp only [Rep] at h
  obtain ⟨es, a, c, rfl, _, h3, h4, h5, h6⟩ := h
  refine ⟨es, rfl, h4, fun j hj => ?_⟩
  rcases h6 with h6 | ⟨b, o, _, h7⟩
  · have := h6
    omega
  · have := h7 j es[j] (List.getElem?_eq_getElem hj)
    simp only [tDig, RepL] at this
    obtain ⟨d, rest, v, hd, _, hr, _⟩ := this
    simp only [Rep] at hr
    obtain ⟨z, rfl, _⟩ := hr
    exact ⟨z, by simp [List.getD_eq_getElem?_getD, List.getElem?_eq_getElem hj, hd]⟩
def inv3 (R : Rho) : Prop := ∃ (es : List (List DV)) (i : Int), R.ρ 0 = .list es ∧ R.ρ 1 = .int .i64 i ∧ 0 ≤ i ∧ i ≤ es.length ∧ Digs es
def inv3b (R : Rho) : Prop := inv3 R ∧ ∃ b, R.ρ 2 = .bool b
noncomputable def mu3 (R : Rho) : Nat := match R.ρ 0, R.ρ 1 with
  | .list es, .int _ n => es.length - n.toNat
  | _, _ => 0
theorem nx3_rho {R : Rho} {es : List (List DV)} {i : Int} (e : SX) (h0 : R.ρ 0 = .list es) (h1 : R.ρ 1 = .int .i64 i) (h2 : 0 ≤ i) (h3 : i < es.length) (h4 : es.length ≤ maxLen) : (R.sub (nx3 e)).ρ 0 = .list es ∧ (R.sub (nx3 e)).ρ 1 = .int .i64 (i + 1) ∧ (R.sub (nx3 e)).ρ 2 = den R e := by
  refine ⟨h0, ?_, rfl⟩
  simp [nx3, Rho.sub, den, h1, binD]
  exact wrap_i64 (by omega) (by omega)
theorem nx_rho3 {R : Rho} {es : List (List DV)} {i : Int} (h0 : R.ρ 0 = .list es) (h1 : R.ρ 1 = .int .i64 i) (h2 : 0 ≤ i) (h3 : i < es.length) (h4 : es.length ≤ maxLen) : (R.sub nx).ρ 0 = .list es ∧ (R.sub nx).ρ 1 = .int .i64 (i + 1) := by
  refine ⟨h0, ?_⟩
  simp [nx, Rho.sub, den, h1, binD]
  exact wrap_i64 (by omega) (by omega)
theorem prS_den {R : Rho} {i : Int} (h1 : R.ρ 1 = .int .i64 i) (h2 : 1 ≤ i) (h3 : i ≤ maxLen) : den R prS = .int .i64 (i - 1) := by
  simp only [prS, den, h1, binD]
  show DV.int .i64 (IntKind.i64.wrap (i - 1)) = _
  rw [wrap_i64 (by omega) (by omega)]
theorem ltS_den {R : Rho} {es : List (List DV)} {i : Int} (h0 : R.ρ 0 = .list es) (h1 : R.ρ 1 = .int .i64 i) (h2 : 1 ≤ i) (h3 : i < es.length) (hd : Digs es) : den R ltS = .bool (decide (ix es (i - 1).toNat < ix es i.toNat)) := by
  have hp := prS_den h1 h2 (by have := hd.1; omega)
  have e1 := digs_ix hd (j := (i - 1).toNat) (by omega)
  have e2 := digs_ix hd (j := i.toNat) (by omega)
  simp only [ltS, den, hp, h0, h1, atD, e1, e2, binD]
theorem inF_ok {R : Rho} {es : List (List DV)} {i : Int} (h0 : R.ρ 0 = .list es) (h1 : R.ρ 1 = .int .i64 i) (h2 : 0 ≤ i) (h3 : i < es.length) : ∀ q ∈ inF, den R q.1 = .bool q.2 := by
  intro q hq
  simp only [inF, List.mem_cons, List.not_mem_nil, or_false] at hq
  rcases hq with rfl | rfl
  · simp [den, h0, h1, binD, lenD, h3]
  · simp [den, h1, zeroS, binD]; omega
theorem pvF_ok {R : Rho} {es : List (List DV)} {i : Int} (h0 : R.ρ 0 = .list es) (h1 : R.ρ 1 = .int .i64 i) (h2 : 1 ≤ i) (h3 : i < es.length) (h4 : es.length ≤ maxLen) : ∀ q ∈ pvF, den R q.1 = .bool q.2 := by
  have hp := prS_den h1 h2 (by omega)
  intro q hq
  simp only [pvF, List.mem_cons, List.not_mem_nil, or_false] at hq
  rcases hq with rfl | rfl
  · simp [den, hp, h0, binD, lenD]; omega
  · simp [den, hp, zeroS, binD]; omega
theorem noLoops12 : LoopsOK Tryz.prog G theI (fun _ => none) (loop1 12) := fun _ _ _ h => by cases h
theorem noLoops15 : LoopsOK Tryz.prog G theI (fun _ => none) (loop1 15) := fun _ _ _ h => by cases h
theorem lk12 : LoopOK Tryz.prog G theI (loop1 12) L12 := by
  refine loop_ind (spec := sp4) hmix hNum sp4_ok plainG 100 noLoops12 (by kernel_rfl) inv3b mu3 ?_ ?_
  · intro m a w hr hp
    obtain ⟨_, z2, _, _, _⟩ := hr
    have h0 := z2 86
    have h1 := z2 88
    have h5 := z2 5
    have e0 : ((L12.T.st L12.n).tm.get 86).getD (.sc undef) = .sy (.slice tDig) (.v 0) := by kernel_rfl
    have e1 : ((L12.T.st L12.n).tm.get 88).getD (.sc undef) = .sy tI (.v 1) := by kernel_rfl
    have e5 : ((L12.T.st L12.n).tm.get 5).getD (.sc undef) = .sy .bool (.v 2) := by kernel_rfl
    rw [e0] at h0
    rw [e1] at h1
    rw [e5] at h5
    simp only [V, den] at h0 h1 h5
    obtain ⟨es, d0, hd⟩ := rep_digs h0
    simp only [Rep] at h1 h5
    obtain ⟨i, d1, _⟩ := h1
    obtain ⟨b, d5, _⟩ := h5
    have p1 := hp (.bin .lss (.v 1) zeroS, false) (by simp [L12])
    have p2 := hp (.bin .lss (.len (.v 0)) (.v 1), false) (by simp [L12])
    simp [den, d0, d1, zeroS, binD, lenD] at p1 p2
    exact ⟨⟨es, i, d0, d1, p1, p2, hd⟩, b, d5⟩
  · rintro R hI ⟨⟨es, i, h0, h1, h2, h3, hd⟩, b, hb⟩
    have hI' : ∀ k ds, R.I k ds = theI k ds := fun k ds => by rw [hI]
    have happ : ∀ R' : Rho, R'.I = theI → ∀ i' b', R'.ρ 0 = .list es → R'.ρ 1 = .int .i64 i' → R'.ρ 2 = .bool b' → den R' (.app 1012 [.v 0, .v 1, .v 2]) = .bool (b' && sortedFrom es i') := by
      intro R' hI i' b' e0 e1 e2
      simp only [den, den.denL, e0, e1, e2, hI]
      rfl
    have next : ∀ (e : SX) (b' : Bool) facts, stepNext L12 (nx3 e) (run12 facts (L12.T.st L12.n)) = true → (∀ q ∈ facts, den R q.1 = .bool q.2) → i < es.length → den R e = .bool b' → (b && sortedFrom es i) = (b' && sortedFrom es (i + 1)) → StepOK theI run12 L12 inv3b mu3 R := by
      intro e b' facts hc hf hlt he hw
      obtain ⟨r0, r1, r2⟩ := nx3_rho e h0 h1 h2 hlt hd.1
      rw [he] at r2
      refine StepOK.next (nx3 e) facts hc hf ⟨⟨es, i + 1, r0, r1, by omega, by omega, hd⟩, b', r2⟩ ?_ rfl ?_
      · simp only [mu3, r0, r1, h0, h1]
        omega
      · intro c _ x hx
        have hx' : x = .app 1012 [.v 0, .v 1, .v 2] := by cases c <;> simpa [L12, LoopSp.pick, Y12, Tmpl.sub, Tmpl.sxs, substTm, substAV, subst, subst.substs, sxsTm, sxsOb, sxs, substOb, obX, Blk.all, Blk.cellsFrom, sxs.sxss] using hx
        subst hx'
        rw [happ (R.sub (nx3 e)) hI (i + 1) b' r0 r1 r2, happ R hI i b h0 h1 hb, hw]
    by_cases hlt : i < es.length
    · have hin := inF_ok h0 h1 h2 hlt
      have hst := sorted_step h2 hlt
      cases b with
      | false =>
        refine next (.kb false) false k2 w2 ?_ hlt rfl (by simp)
        intro q hq
        simp only [k2, List.mem_cons] at hq
        rcases hq with rfl | hq
        · exact hb
        · exact hin q hq
      | true =>
        by_cases hz : i = 0
        · refine next (.kb true) true k3 w3 ?_ hlt rfl (by rw [hst]; simp [hz])
          intro q hq
          simp only [k3, List.mem_cons] at hq
          rcases hq with rfl | rfl | hq
          · exact hb
          · simp [den, h1, zeroS, binD, hz]
          · exact hin q hq
        · have hl := ltS_den h0 h1 (by omega) hlt hd
          refine next ltS _ k4 w4 ?_ hlt hl (by rw [hst]; simp [hz])
          intro q hq
          simp only [k4, List.mem_cons, List.mem_append] at hq
          rcases hq with rfl | rfl | hq | hq
          · exact hb
          · simp [den, h1, zeroS, binD, hz]
          · exact hin q hq
          · exact pvF_ok h0 h1 (by omega) hlt hd.1 q hq
    · refine StepOK.exit (T' := Y12) (e := .exit 0) (outs := [.app 1012 [.v 0, .v 1, .v 2]]) (τ := [.v 2]) (b := true) k1 w1 ?_ rfl rfl ?_
      · intro q hq
        simp only [k1, List.mem_cons, List.not_mem_nil, or_false] at hq
        subst hq
        simp [den, h0, h1, binD, lenD]
        omega
      · intro j
        cases j with
        | zero =>
          show den R (.app 1012 [.v 0, .v 1, .v 2]) = den R (.v 2)
          rw [happ R hI i b h0 h1 hb, sorted_ge (by omega)]
          simp [den, hb]
        | succ j => simp
theorem lk15 : LoopOK Tryz.prog G theI (loop1 15) L15 := by
  refine loop_ind (spec := sp4) hmix hNum sp4_ok plainG 100 noLoops15 (by kernel_rfl) inv3 mu3 ?_ ?_
  · intro m a w hr hp
    obtain ⟨_, z2, _, _, _⟩ := hr
    have h0 := z2 82
    have h1 := z2 84
    have e0 : ((L15.T.st L15.n).tm.get 82).getD (.sc undef) = .sy (.slice tDig) (.v 0) := by kernel_rfl
    have e1 : ((L15.T.st L15.n).tm.get 84).getD (.sc undef) = .sy tI (.v 1) := by kernel_rfl
    rw [e0] at h0
    rw [e1] at h1
    simp only [V, den] at h0 h1
    obtain ⟨es, d0, hd⟩ := rep_digs h0
    simp only [Rep] at h1
    obtain ⟨i, d1, _⟩ := h1
    have p1 := hp (.bin .lss (.v 1) zeroS, false) (by simp [L15])
    have p2 := hp (.bin .lss (.len (.v 0)) (.v 1), false) (by simp [L15])
    simp [den, d0, d1, zeroS, binD, lenD] at p1 p2
    exact ⟨es, i, d0, d1, p1, p2, hd⟩
  · rintro R hI ⟨es, i, h0, h1, h2, h3, hd⟩
    have happ : ∀ R' : Rho, R'.I = theI → ∀ i', R'.ρ 0 = .list es → R'.ρ 1 = .int .i64 i' → den R' L15.cnd = .bool (sortedFrom es i') := by
      intro R' hI i' e0 e1
      simp only [L15, den, den.denL, e0, e1, hI]
      rfl
    have hcnd := happ R hI i h0 h1
    have hx : ∀ b, ∀ x ∈ (L15.pick b).2.sxs, den (R.sub nx) x = den R x := by
      intro b x hx
      cases b <;> simp [L15, LoopSp.pick, N15, Y15, Tmpl.sub, Tmpl.sxs, substTm, substAV, sxsTm, sxsOb, sxs, substOb, obX, Blk.all, Blk.cellsFrom, sxs.sxss] at hx
    have next : ∀ facts, stepNext L15 nx (run15 facts (L15.T.st L15.n)) = true → (∀ q ∈ facts, den R q.1 = .bool q.2) → i < es.length → sortedFrom es i = sortedFrom es (i + 1) → StepOK theI run15 L15 inv3 mu3 R := by
      intro facts hc hf hlt hw
      obtain ⟨r0, r1⟩ := nx_rho3 h0 h1 h2 hlt hd.1
      refine StepOK.next nx facts hc hf ⟨es, i + 1, r0, r1, by omega, by omega, hd⟩ ?_ ?_ (fun b _ => hx b)
      · simp only [mu3, r0, r1, h0, h1]
        omega
      · rw [happ (R.sub nx) hI (i + 1) r0 r1, hcnd, hw]
    by_cases hlt : i < es.length
    · have hin := inF_ok h0 h1 h2 hlt
      have hst := sorted_step h2 hlt
      by_cases hz : i = 0
      · refine next q2 v2 ?_ hlt (by rw [hst]; simp [hz])
        intro q hq
        simp only [q2, List.mem_cons] at hq
        rcases hq with rfl | hq
        · simp [den, h1, zeroS, binD, hz]
        · exact hin q hq
      · have hl := ltS_den h0 h1 (by omega) hlt hd
        have hf : ∀ c, decide (ix es (i - 1).toNat < ix es i.toNat) = c → ∀ q ∈ q3 c, den R q.1 = .bool q.2 := by
          intro c hc q hq
          simp only [q3, List.mem_cons, List.mem_append] at hq
          rcases hq with rfl | rfl | hq | hq
          · simp [den, h1, zeroS, binD]; omega
          · rw [hl, hc]
          · exact hin q hq
          · exact pvF_ok h0 h1 (by omega) hlt hd.1 q hq
        cases hc : decide (ix es (i - 1).toNat < ix es i.toNat) with
        | true => exact next (q3 true) v3 (hf true hc) hlt (by rw [hst, hc]; simp)
        | false =>
          exact StepOK.exit (T' := N15) (e := .ret) (outs := []) (τ := []) (b := false) (q3 false) v4 (hf false hc) (by rw [hcnd, hst, hc]; simp [hz]) rfl (fun _ => rfl)
    · refine StepOK.exit (T' := Y15) (e := .exit 0) (outs := []) (τ := []) (b := true) k1 v1 ?_ (by rw [hcnd, sorted_ge (by omega)]) rfl (fun _ => rfl)
      intro q hq
      simp only [k1, List.mem_cons, List.not_mem_nil, or_false] at hq
      subst hq
      simp [den, h0, h1, binD, lenD]
      omega
end Go.Proofs.YteoindgcjoldhaaGreatDoor
namespace Go.Proofs.YteoindgcjoldhaaGreatDoor
open Go Go.AM
noncomputable def sp5 (O : Orc) : FuncId → Option (List AV → AHeap → Out)
  | 37 => some (@symSp O [.agg tQry] [.one tI] preQ 37)
  | 40 => some (@symSp O [.agg tQry] [.one .bool] preQ 40)
  | f => sp4 O f
theorem sp5_ok (O : Orc) (hO : O.I = theI) : SpecOK Tryz.prog G (sp5 O) := by
  intro f sp h
  unfold sp5 at h
  split at h
  · cases h; exact symSp_ok plainG (by rw [hO]; exact fn37) (fun ds => by rw [hO]; rfl) (by kernel_rfl)
  · cases h; exact symSp_ok plainG (by rw [hO]; exact fn40) (fun ds => by rw [hO]; rfl) (by kernel_rfl)
  · exact sp4_ok O hO f sp h
end Go.Proofs.YteoindgcjoldhaaGreatDoor
namespace Go.Proofs.YteoindgcjoldhaaGreatDoor
open Go Go.AM
theorem RepV_get {m : Env} : ∀ {ts : List Ty} {ds : List DV} {vs : List Value} {i : Nat} {t : Ty}, RepV m ts ds vs → ts[i]? = some t → ∃ d v, ds[i]? = some d ∧ Rep m t d v
  | t :: ts, ds, vs, 0, u, h, hi => by
    obtain ⟨d, ds', v, vs', rfl, rfl, h1, _⟩ := h
    simp only [List.getElem?_cons_zero, Option.some.injEq] at hi
    subst hi
    exact ⟨d, v, rfl, h1⟩
  | t :: ts, ds, vs, i + 1, u, h, hi => by
    obtain ⟨d, ds', v, vs', rfl, rfl, _, h2⟩ := h
    rw [List.getElem?_cons_succ] at hi ⊢
    exact RepV_get h2 hi
theorem qz_noApp : qzE.all noApp = true := by kernel_rfl
theorem qz_den (I : Nat → List DV → DV) (ds : List DV) : den.denAll (rhoOf I ds) qzE = qZ ds := denAll_noApp rfl qzE qz_noApp
theorem qArgs_den (I : Nat → List DV → DV) (ds : List DV) (h : ds.length = 83) : den.denL (rhoOf I ds) qArgs = (ds.drop 4).take 76 := by
  have key : ∀ l : List Nat, den.denL (rhoOf I ds) (l.map fun i => .v (4 + i)) = l.map fun i => ds.getD (4 + i) (.bool false) := by
    intro l
    induction l with
    | nil => rfl
    | cons a l ih =>
      show den (rhoOf I ds) (.v (4 + a)) :: den.denL (rhoOf I ds) (l.map fun i => .v (4 + i)) = _
      rw [ih]
      rfl
  unfold qArgs
  rw [key]
  refine List.ext_getElem (by simp [h]) fun i h1 h2 => ?_
  simp only [List.getElem_map, List.getElem_range, List.getElem_take, List.getElem_drop]
  have : 4 + i < ds.length := by simp at h1; omega
  simp [List.getD_eq_getElem?_getD, List.getElem?_eq_getElem this]
structure Cli (ds : List DV) (num seq leader : Int) (text : ByteArray) (away rd : Bool) (es : List (List DV)) : Prop where
  len : ds.length = 83
  h0 : ds.getD 0 (.bool false) = .int .i64 num
  h1 : ds.getD 1 (.bool false) = .int .u32 seq
  h2 : ds.getD 2 (.bool false) = .str text
  h3 : ds.getD 3 (.bool false) = .bool away
  h80 : ds.getD 80 (.bool false) = .bool rd
  h81 : ds.getD 81 (.bool false) = .int .i64 leader
  h82 : ds.getD 82 (.bool false) = .list es
  dig : Digs es
theorem agg_cli {m : Env} {ds : List (List DV)} {vs : List Value} (h : RepArgs m [.agg tCli] ds vs) : ∃ row num seq leader text away rd es, ds = [row] ∧ Cli row num seq leader text away rd es := by
  simp only [RepArgs, RepOne] at h
  obtain ⟨row, _, _, _, rfl, rfl, ⟨_, rfl, h⟩, rfl, rfl⟩ := h
  have hlen := h.length
  have g : ∀ {i : Nat} {d : DV}, row[i]? = some d → row.getD i (.bool false) = d := fun hi => by rw [List.getD_eq_getElem?_getD, hi]; rfl
  obtain ⟨d0, _, e0, r0⟩ := RepV_get h (i := 0) (t := tI) rfl
  obtain ⟨d1, _, e1, r1⟩ := RepV_get h (i := 1) (t := tU32) rfl
  obtain ⟨d2, _, e2, r2⟩ := RepV_get h (i := 2) (t := .str) rfl
  obtain ⟨d3, _, e3, r3⟩ := RepV_get h (i := 3) (t := .bool) rfl
  obtain ⟨d4, _, e4, r4⟩ := RepV_get h (i := 80) (t := .bool) rfl
  obtain ⟨d5, _, e5, r5⟩ := RepV_get h (i := 81) (t := tI) rfl
  obtain ⟨d6, _, e6, r6⟩ := RepV_get h (i := 82) (t := .slice tDig) rfl
  obtain ⟨es, rfl, hd⟩ := rep_digs r6
  simp only [Rep] at r0 r1 r2 r3 r4 r5
  obtain ⟨num, rfl, _⟩ := r0
  obtain ⟨seq, rfl, _⟩ := r1
  obtain ⟨text, rfl, _⟩ := r2
  obtain ⟨away, rfl, _⟩ := r3
  obtain ⟨rd, rfl, _⟩ := r4
  obtain ⟨leader, rfl, _⟩ := r5
  exact ⟨row, num, seq, leader, text, away, rd, es, rfl, hlen, g e0, g e1, g e2, g e3, g e4, g e5, g e6, hd⟩
theorem Cli.cliD {ds : List DV} {num seq leader : Int} {text : ByteArray} {away rd : Bool} {es : List (List DV)} (h : Cli ds num seq leader text away rd es) :
    Go.Proofs.YteoindgcjoldhaaGreatDoor.cliD ds = (decide (1 ≤ num) && decide (num ≤ 3) && !(away && rd) && (if away then txB num seq text else decide (text = bstr #[])) &&
      decide (0 ≤ leader) && decide (leader ≤ 5) && decide (es.length ≤ 16) && (if rd then qryD ((ds.drop 4).take 76) else qZ ds) && sortedFrom es 0) := by
  have i0 : iD ds 0 = num := by simp only [iD, h.h0]
  have i1 : iD ds 1 = seq := by simp only [iD, h.h1]
  have i2 : sD ds 2 = text := by simp only [sD, h.h2]
  have i3 : bD ds 3 = away := by simp only [bD, h.h3]
  have i80 : bD ds 80 = rd := by simp only [bD, h.h80]
  have i81 : iD ds 81 = leader := by simp only [iD, h.h81]
  have i82 : lD ds 82 = es := by simp only [lD, h.h82]
  simp only [Go.Proofs.YteoindgcjoldhaaGreatDoor.cliD, i0, i1, i2, i3, i80, i81, i82]
noncomputable def preC : List (SX × Bool) := [(.bin .lss (.ki .i64 (.ofNat 1000)) (.len (.v 5)), false)]
def cliPre (ds : List DV) : Prop := ∀ p ∈ preC, den (rhoOf theI ds) p.1 = .bool p.2
noncomputable def p15b : Pln :=
  (.ask (.bin .lss (.v 0) (.ki .i64 (.ofNat 1)))
    (.done [[(.kb false)]])
    (.ask (.bin .lss (.ki .i64 (.ofNat 3)) (.v 0))
      (.done [[(.kb false)]])
      (.ask (.v 3)
        (.ask (.v 80)
          (.done [[(.kb false)]])
          (.ask (.at (.app 39 [(.v 0), (.v 1), (.v 2)]) (.ki .i64 (.ofNat 0)) 0)
            (.ask (.bin .lss (.v 81) (.ki .i64 (.ofNat 0)))
              (.done [[(.kb false)]])
              (.ask (.bin .lss (.ki .i64 (.ofNat 5)) (.v 81))
                (.done [[(.kb false)]])
                (.ask (.bin .lss (.ki .i64 (.ofNat 16)) (.len (.v 82)))
                  (.done [[(.kb false)]])
                  (.ask (.all qzE)
                    (.ask (.app 1015 [(.v 82), (.ki .i64 (.ofNat 0))])
                      (.done [[(.kb true)]])
                      (.done [[(.kb false)]]))
                    (.done [[(.kb false)]])))))
            (.done [[(.kb false)]])))
        (.ask (.bin .eql (.v 2) (.ks (bstr #[])))
          (.ask (.bin .lss (.v 81) (.ki .i64 (.ofNat 0)))
            (.done [[(.kb false)]])
            (.ask (.bin .lss (.ki .i64 (.ofNat 5)) (.v 81))
              (.done [[(.kb false)]])
              (.ask (.bin .lss (.ki .i64 (.ofNat 16)) (.len (.v 82)))
                (.done [[(.kb false)]])
                (.ask (.v 80)
                  (.ask (.at (.app 40 qArgs) (.ki .i64 (.ofNat 0)) 0)
                    (.ask (.app 1015 [(.v 82), (.ki .i64 (.ofNat 0))])
                      (.done [[(.kb true)]])
                      (.done [[(.kb false)]]))
                    (.done [[(.kb false)]]))
                  (.ask (.all qzE)
                    (.ask (.app 1015 [(.v 82), (.ki .i64 (.ofNat 0))])
                      (.done [[(.kb true)]])
                      (.done [[(.kb false)]]))
                    (.done [[(.kb false)]]))))))
          (.done [[(.kb false)]])))))

noncomputable def p15 : Pln := .know (.bin .lss (.ki .i64 (.ofNat 1000)) (.len (.v 5))) false p15b
theorem c15 : checkPlan [.one .bool] (fun facts => @callL (mkO facts theI) Tryz.prog G (sp5 (mkO facts theI)) 100 (lp 7 L15) 15 (mkArgs 0 [.agg tCli]) heap0) [] p15 = true := by kernel_rfl
theorem fn15 : FnOK Tryz.prog G 15 [.agg tCli] [.one .bool] cliPre F15 := by
  refine fn_loops (spec := sp5) (lps := lp 7 L15) sp5_ok (loops_one one15 lk15) (by kernel_rfl) p15 c15 ?_
  intro E ds vs h hp
  obtain ⟨row, num, seq, leader, text, away, rd, es, rfl, hc⟩ := agg_cli h
  refine ⟨hp _ (List.mem_cons_self), ?_⟩
  have hf : [row].flatten = row := by simp
  rw [hf]
  have hq := qArgs_den theI row hc.len
  have hz := qz_den theI row
  have hD := hc.cliD
  generalize hR : rhoOf theI row = R at *
  have hI : ∀ k ds, R.I k ds = theI k ds := by rw [← hR]; exact fun _ _ => rfl
  have h0 : R.ρ 0 = .int .i64 num := by rw [← hR]; exact hc.h0
  have h1 : R.ρ 1 = .int .u32 seq := by rw [← hR]; exact hc.h1
  have h2 : R.ρ 2 = .str text := by rw [← hR]; exact hc.h2
  have h3 : R.ρ 3 = .bool away := by rw [← hR]; exact hc.h3
  have h80 : R.ρ 80 = .bool rd := by rw [← hR]; exact hc.h80
  have h81 : R.ρ 81 = .int .i64 leader := by rw [← hR]; exact hc.h81
  have h82 : R.ρ 82 = .list es := by rw [← hR]; exact hc.h82
  have i39 : ∀ ds, theI 39 ds = .list (F39 ds) := fun _ => rfl
  have i40 : ∀ ds, theI 40 ds = .list (F40 ds) := fun _ => rfl
  have i1015 : ∀ ds, theI 1015 ds = .bool (sortedFrom (lD ds 0) (iD ds 1)) := fun _ => rfl
  have hF : F15 row = [[.bool (cliD row)]] := rfl
  rw [hF, hD]
  clear hD hF hR h hp hc
  simp only [p15b, goalPlan, den, den.denL, hq, hz, hI, h0, h1, h2, h3, h80, h81, h82, i39, i40, i1015, F39, F40, lD, iD, sD, atD, binD, lenD, isT, List.getD_cons_zero, List.getD_cons_succ, Int.ofNat_eq_natCast, List.map_cons, List.map_nil]
  clear hq hz hI h0 h1 h2 h3 h80 h81 h82
  generalize qryD ((row.drop 4).take 76) = qd
  generalize qZ row = qz
  generalize txB num seq text = tx
  generalize sortedFrom es 0 = so
  generalize es.length = n
  have ht : ∀ b : Bool, (∃ c, DV.bool b = DV.bool c) := fun b => ⟨b, rfl⟩
  by_cases e0 : text = bstr #[] <;> cases away <;> cases rd <;> cases tx <;> cases qd <;> cases qz <;> cases so <;> simp [e0] <;> omega
noncomputable def p12b : Pln :=
  (.ask (.v 3)
    (.ask (.v 80)
      (.ask (.bin .lss (.v 0) (.ki .i64 (.ofNat 1)))
        (.ask (.app 1012 [(.v 82), (.ki .i64 (.ofNat 0)), (.kb false)])
          (.done [[(.ki .i64 (.ofNat 0))]])
          (.done [[(.ki .i64 (.ofNat 320))]]))
        (.ask (.bin .lss (.ki .i64 (.ofNat 3)) (.v 0))
          (.ask (.app 1012 [(.v 82), (.ki .i64 (.ofNat 0)), (.kb false)])
            (.done [[(.ki .i64 (.ofNat 0))]])
            (.done [[(.ki .i64 (.ofNat 320))]]))
          (.ask (.bin .lss (.v 81) (.ki .i64 (.ofNat 0)))
            (.ask (.app 1012 [(.v 82), (.ki .i64 (.ofNat 0)), (.kb false)])
              (.done [[(.ki .i64 (.ofNat 0))]])
              (.done [[(.ki .i64 (.ofNat 320))]]))
            (.ask (.bin .lss (.ki .i64 (.ofNat 5)) (.v 81))
              (.ask (.app 1012 [(.v 82), (.ki .i64 (.ofNat 0)), (.kb false)])
                (.done [[(.ki .i64 (.ofNat 0))]])
                (.done [[(.ki .i64 (.ofNat 320))]]))
              (.ask (.app 1012 [(.v 82), (.ki .i64 (.ofNat 0)), (.kb false)])
                (.done [[(.ki .i64 (.ofNat 0))]])
                (.done [[(.ki .i64 (.ofNat 320))]]))))))
      (.ask (.all qzE)
        (.ask (.bin .lss (.v 0) (.ki .i64 (.ofNat 1)))
          (.ask (.app 1012 [(.v 82), (.ki .i64 (.ofNat 0)), (.kb false)])
            (.done [[(.ki .i64 (.ofNat 0))]])
            (.done [[(.ki .i64 (.ofNat 320))]]))
          (.ask (.bin .lss (.ki .i64 (.ofNat 3)) (.v 0))
            (.ask (.app 1012 [(.v 82), (.ki .i64 (.ofNat 0)), (.kb false)])
              (.done [[(.ki .i64 (.ofNat 0))]])
              (.done [[(.ki .i64 (.ofNat 320))]]))
            (.ask (.bin .lss (.v 81) (.ki .i64 (.ofNat 0)))
              (.ask (.app 1012 [(.v 82), (.ki .i64 (.ofNat 0)), (.kb false)])
                (.done [[(.ki .i64 (.ofNat 0))]])
                (.done [[(.ki .i64 (.ofNat 320))]]))
              (.ask (.bin .lss (.ki .i64 (.ofNat 5)) (.v 81))
                (.ask (.app 1012 [(.v 82), (.ki .i64 (.ofNat 0)), (.kb false)])
                  (.done [[(.ki .i64 (.ofNat 0))]])
                  (.done [[(.ki .i64 (.ofNat 320))]]))
                (.ask (.bin .eql (.at (.app 36 [(.v 0), (.v 1), (.v 2)]) (.ki .i64 (.ofNat 0)) 0) (.ki .i64 (.ofNat 0)))
                  (.ask (.app 1012 [(.v 82), (.ki .i64 (.ofNat 0)), (.not (.bin .lss (.ki .i64 (.ofNat 16)) (.len (.v 82))))])
                    (.done [[(.ki .i64 (.ofNat 0))]])
                    (.done [[(.ki .i64 (.ofNat 320))]]))
                  (.ask (.app 1012 [(.v 82), (.ki .i64 (.ofNat 0)), (.kb false)])
                    (.done [[(.ki .i64 (.ofNat 0))]])
                    (.done [[(.ki .i64 (.ofNat 320))]])))))))
        (.ask (.bin .lss (.v 0) (.ki .i64 (.ofNat 1)))
          (.ask (.app 1012 [(.v 82), (.ki .i64 (.ofNat 0)), (.kb false)])
            (.done [[(.ki .i64 (.ofNat 0))]])
            (.done [[(.ki .i64 (.ofNat 320))]]))
          (.ask (.bin .lss (.ki .i64 (.ofNat 3)) (.v 0))
            (.ask (.app 1012 [(.v 82), (.ki .i64 (.ofNat 0)), (.kb false)])
              (.done [[(.ki .i64 (.ofNat 0))]])
              (.done [[(.ki .i64 (.ofNat 320))]]))
            (.ask (.bin .lss (.v 81) (.ki .i64 (.ofNat 0)))
              (.ask (.app 1012 [(.v 82), (.ki .i64 (.ofNat 0)), (.kb false)])
                (.done [[(.ki .i64 (.ofNat 0))]])
                (.done [[(.ki .i64 (.ofNat 320))]]))
              (.ask (.bin .lss (.ki .i64 (.ofNat 5)) (.v 81))
                (.ask (.app 1012 [(.v 82), (.ki .i64 (.ofNat 0)), (.kb false)])
                  (.done [[(.ki .i64 (.ofNat 0))]])
                  (.done [[(.ki .i64 (.ofNat 320))]]))
                (.ask (.bin .eql (.at (.app 36 [(.v 0), (.v 1), (.v 2)]) (.ki .i64 (.ofNat 0)) 0) (.ki .i64 (.ofNat 0)))
                  (.ask (.app 1012 [(.v 82), (.ki .i64 (.ofNat 0)), (.kb false)])
                    (.done [[(.ki .i64 (.ofNat 0))]])
                    (.done [[(.ki .i64 (.ofNat 320))]]))
                  (.ask (.app 1012 [(.v 82), (.ki .i64 (.ofNat 0)), (.kb false)])
                    (.done [[(.ki .i64 (.ofNat 0))]])
                    (.done [[(.ki .i64 (.ofNat 320))]])))))))))
    (.ask (.bin .eql (.v 2) (.ks (bstr #[])))
      (.ask (.v 80)
        (.ask (.bin .lss (.v 0) (.ki .i64 (.ofNat 1)))
          (.ask (.app 1012 [(.v 82), (.ki .i64 (.ofNat 0)), (.kb false)])
            (.done [[(.ki .i64 (.ofNat 0))]])
            (.done [[(.ki .i64 (.ofNat 320))]]))
          (.ask (.bin .lss (.ki .i64 (.ofNat 3)) (.v 0))
            (.ask (.app 1012 [(.v 82), (.ki .i64 (.ofNat 0)), (.kb false)])
              (.done [[(.ki .i64 (.ofNat 0))]])
              (.done [[(.ki .i64 (.ofNat 320))]]))
            (.ask (.bin .lss (.v 81) (.ki .i64 (.ofNat 0)))
              (.ask (.app 1012 [(.v 82), (.ki .i64 (.ofNat 0)), (.kb false)])
                (.done [[(.ki .i64 (.ofNat 0))]])
                (.done [[(.ki .i64 (.ofNat 320))]]))
              (.ask (.bin .lss (.ki .i64 (.ofNat 5)) (.v 81))
                (.ask (.app 1012 [(.v 82), (.ki .i64 (.ofNat 0)), (.kb false)])
                  (.done [[(.ki .i64 (.ofNat 0))]])
                  (.done [[(.ki .i64 (.ofNat 320))]]))
                (.ask (.bin .eql (.at (.app 37 qArgs) (.ki .i64 (.ofNat 0)) 0) (.ki .i64 (.ofNat 0)))
                  (.ask (.app 1012 [(.v 82), (.ki .i64 (.ofNat 0)), (.not (.bin .lss (.ki .i64 (.ofNat 16)) (.len (.v 82))))])
                    (.done [[(.ki .i64 (.ofNat 0))]])
                    (.done [[(.ki .i64 (.ofNat 320))]]))
                  (.ask (.app 1012 [(.v 82), (.ki .i64 (.ofNat 0)), (.kb false)])
                    (.done [[(.ki .i64 (.ofNat 0))]])
                    (.done [[(.ki .i64 (.ofNat 320))]])))))))
        (.ask (.all qzE)
          (.ask (.bin .lss (.v 0) (.ki .i64 (.ofNat 1)))
            (.ask (.app 1012 [(.v 82), (.ki .i64 (.ofNat 0)), (.kb false)])
              (.done [[(.ki .i64 (.ofNat 0))]])
              (.done [[(.ki .i64 (.ofNat 320))]]))
            (.ask (.bin .lss (.ki .i64 (.ofNat 3)) (.v 0))
              (.ask (.app 1012 [(.v 82), (.ki .i64 (.ofNat 0)), (.kb false)])
                (.done [[(.ki .i64 (.ofNat 0))]])
                (.done [[(.ki .i64 (.ofNat 320))]]))
              (.ask (.bin .lss (.v 81) (.ki .i64 (.ofNat 0)))
                (.ask (.app 1012 [(.v 82), (.ki .i64 (.ofNat 0)), (.kb false)])
                  (.done [[(.ki .i64 (.ofNat 0))]])
                  (.done [[(.ki .i64 (.ofNat 320))]]))
                (.ask (.bin .lss (.ki .i64 (.ofNat 5)) (.v 81))
                  (.ask (.app 1012 [(.v 82), (.ki .i64 (.ofNat 0)), (.kb false)])
                    (.done [[(.ki .i64 (.ofNat 0))]])
                    (.done [[(.ki .i64 (.ofNat 320))]]))
                  (.ask (.app 1012 [(.v 82), (.ki .i64 (.ofNat 0)), (.not (.bin .lss (.ki .i64 (.ofNat 16)) (.len (.v 82))))])
                    (.done [[(.ki .i64 (.ofNat 0))]])
                    (.done [[(.ki .i64 (.ofNat 320))]]))))))
          (.ask (.bin .lss (.v 0) (.ki .i64 (.ofNat 1)))
            (.ask (.app 1012 [(.v 82), (.ki .i64 (.ofNat 0)), (.kb false)])
              (.done [[(.ki .i64 (.ofNat 0))]])
              (.done [[(.ki .i64 (.ofNat 320))]]))
            (.ask (.bin .lss (.ki .i64 (.ofNat 3)) (.v 0))
              (.ask (.app 1012 [(.v 82), (.ki .i64 (.ofNat 0)), (.kb false)])
                (.done [[(.ki .i64 (.ofNat 0))]])
                (.done [[(.ki .i64 (.ofNat 320))]]))
              (.ask (.bin .lss (.v 81) (.ki .i64 (.ofNat 0)))
                (.ask (.app 1012 [(.v 82), (.ki .i64 (.ofNat 0)), (.kb false)])
                  (.done [[(.ki .i64 (.ofNat 0))]])
                  (.done [[(.ki .i64 (.ofNat 320))]]))
                (.ask (.bin .lss (.ki .i64 (.ofNat 5)) (.v 81))
                  (.ask (.app 1012 [(.v 82), (.ki .i64 (.ofNat 0)), (.kb false)])
                    (.done [[(.ki .i64 (.ofNat 0))]])
                    (.done [[(.ki .i64 (.ofNat 320))]]))
                  (.ask (.app 1012 [(.v 82), (.ki .i64 (.ofNat 0)), (.kb false)])
                    (.done [[(.ki .i64 (.ofNat 0))]])
                    (.done [[(.ki .i64 (.ofNat 320))]]))))))))
      (.ask (.v 80)
        (.ask (.bin .lss (.v 0) (.ki .i64 (.ofNat 1)))
          (.ask (.app 1012 [(.v 82), (.ki .i64 (.ofNat 0)), (.kb false)])
            (.done [[(.ki .i64 (.ofNat 0))]])
            (.done [[(.ki .i64 (.ofNat 320))]]))
          (.ask (.bin .lss (.ki .i64 (.ofNat 3)) (.v 0))
            (.ask (.app 1012 [(.v 82), (.ki .i64 (.ofNat 0)), (.kb false)])
              (.done [[(.ki .i64 (.ofNat 0))]])
              (.done [[(.ki .i64 (.ofNat 320))]]))
            (.ask (.bin .lss (.v 81) (.ki .i64 (.ofNat 0)))
              (.ask (.app 1012 [(.v 82), (.ki .i64 (.ofNat 0)), (.kb false)])
                (.done [[(.ki .i64 (.ofNat 0))]])
                (.done [[(.ki .i64 (.ofNat 320))]]))
              (.ask (.bin .lss (.ki .i64 (.ofNat 5)) (.v 81))
                (.ask (.app 1012 [(.v 82), (.ki .i64 (.ofNat 0)), (.kb false)])
                  (.done [[(.ki .i64 (.ofNat 0))]])
                  (.done [[(.ki .i64 (.ofNat 320))]]))
                (.ask (.app 1012 [(.v 82), (.ki .i64 (.ofNat 0)), (.kb false)])
                  (.done [[(.ki .i64 (.ofNat 0))]])
                  (.done [[(.ki .i64 (.ofNat 320))]]))))))
        (.ask (.all qzE)
          (.ask (.bin .lss (.v 0) (.ki .i64 (.ofNat 1)))
            (.ask (.app 1012 [(.v 82), (.ki .i64 (.ofNat 0)), (.kb false)])
              (.done [[(.ki .i64 (.ofNat 0))]])
              (.done [[(.ki .i64 (.ofNat 320))]]))
            (.ask (.bin .lss (.ki .i64 (.ofNat 3)) (.v 0))
              (.ask (.app 1012 [(.v 82), (.ki .i64 (.ofNat 0)), (.kb false)])
                (.done [[(.ki .i64 (.ofNat 0))]])
                (.done [[(.ki .i64 (.ofNat 320))]]))
              (.ask (.bin .lss (.v 81) (.ki .i64 (.ofNat 0)))
                (.ask (.app 1012 [(.v 82), (.ki .i64 (.ofNat 0)), (.kb false)])
                  (.done [[(.ki .i64 (.ofNat 0))]])
                  (.done [[(.ki .i64 (.ofNat 320))]]))
                (.ask (.bin .lss (.ki .i64 (.ofNat 5)) (.v 81))
                  (.ask (.app 1012 [(.v 82), (.ki .i64 (.ofNat 0)), (.kb false)])
                    (.done [[(.ki .i64 (.ofNat 0))]])
                    (.done [[(.ki .i64 (.ofNat 320))]]))
                  (.ask (.app 1012 [(.v 82), (.ki .i64 (.ofNat 0)), (.kb false)])
                    (.done [[(.ki .i64 (.ofNat 0))]])
                    (.done [[(.ki .i64 (.ofNat 320))]]))))))
          (.ask (.bin .lss (.v 0) (.ki .i64 (.ofNat 1)))
            (.ask (.app 1012 [(.v 82), (.ki .i64 (.ofNat 0)), (.kb false)])
              (.done [[(.ki .i64 (.ofNat 0))]])
              (.done [[(.ki .i64 (.ofNat 320))]]))
            (.ask (.bin .lss (.ki .i64 (.ofNat 3)) (.v 0))
              (.ask (.app 1012 [(.v 82), (.ki .i64 (.ofNat 0)), (.kb false)])
                (.done [[(.ki .i64 (.ofNat 0))]])
                (.done [[(.ki .i64 (.ofNat 320))]]))
              (.ask (.bin .lss (.v 81) (.ki .i64 (.ofNat 0)))
                (.ask (.app 1012 [(.v 82), (.ki .i64 (.ofNat 0)), (.kb false)])
                  (.done [[(.ki .i64 (.ofNat 0))]])
                  (.done [[(.ki .i64 (.ofNat 320))]]))
                (.ask (.bin .lss (.ki .i64 (.ofNat 5)) (.v 81))
                  (.ask (.app 1012 [(.v 82), (.ki .i64 (.ofNat 0)), (.kb false)])
                    (.done [[(.ki .i64 (.ofNat 0))]])
                    (.done [[(.ki .i64 (.ofNat 320))]]))
                  (.ask (.app 1012 [(.v 82), (.ki .i64 (.ofNat 0)), (.kb false)])
                    (.done [[(.ki .i64 (.ofNat 0))]])
                    (.done [[(.ki .i64 (.ofNat 320))]]))))))))))

noncomputable def p12 : Pln := .know (.bin .lss (.ki .i64 (.ofNat 1000)) (.len (.v 5))) false p12b
theorem c12 : checkPlan [.one tI] (fun facts => @callL (mkO facts theI) Tryz.prog G (sp5 (mkO facts theI)) 100 (lp 7 L12) 12 (mkArgs 0 [.agg tCli]) heap0) [] p12 = true := by kernel_rfl
theorem fn12 : FnOK Tryz.prog G 12 [.agg tCli] [.one tI] cliPre F12 := by
  refine fn_loops (spec := sp5) (lps := lp 7 L12) sp5_ok (loops_one one12 lk12) (by kernel_rfl) p12 c12 ?_
  intro E ds vs h hp
  obtain ⟨row, num, seq, leader, text, away, rd, es, rfl, hc⟩ := agg_cli h
  refine ⟨hp _ (List.mem_cons_self), ?_⟩
  have hf : [row].flatten = row := by simp
  rw [hf]
  have hq := qArgs_den theI row hc.len
  have hz := qz_den theI row
  have hD := hc.cliD
  generalize hR : rhoOf theI row = R at *
  have hI : ∀ k ds, R.I k ds = theI k ds := by rw [← hR]; exact fun _ _ => rfl
  have h0 : R.ρ 0 = .int .i64 num := by rw [← hR]; exact hc.h0
  have h1 : R.ρ 1 = .int .u32 seq := by rw [← hR]; exact hc.h1
  have h2 : R.ρ 2 = .str text := by rw [← hR]; exact hc.h2
  have h3 : R.ρ 3 = .bool away := by rw [← hR]; exact hc.h3
  have h80 : R.ρ 80 = .bool rd := by rw [← hR]; exact hc.h80
  have h81 : R.ρ 81 = .int .i64 leader := by rw [← hR]; exact hc.h81
  have h82 : R.ρ 82 = .list es := by rw [← hR]; exact hc.h82
  have i36 : ∀ ds, theI 36 ds = .list (F36 ds) := fun _ => rfl
  have i37 : ∀ ds, theI 37 ds = .list (F37 ds) := fun _ => rfl
  have i1012 : ∀ ds, theI 1012 ds = .bool (bD ds 2 && sortedFrom (lD ds 0) (iD ds 1)) := fun _ => rfl
  have hF : F12 row = [[.int .i64 (if cliD row then 0 else 320)]] := rfl
  rw [hF, hD]
  clear hD hF hR h hp hc
  simp only [p12b, goalPlan, den, den.denL, hq, hz, hI, h0, h1, h2, h3, h80, h81, h82, i36, i37, i1012, F36, F37, notD, lD, bD, iD, sD, atD, binD, lenD, isT, List.getD_cons_zero, List.getD_cons_succ, Int.ofNat_eq_natCast, List.map_cons, List.map_nil]
  clear hq hz hI h0 h1 h2 h3 h80 h81 h82
  generalize qryD ((row.drop 4).take 76) = qd
  generalize qZ row = qz
  generalize txB num seq text = tx
  generalize sortedFrom es 0 = so
  generalize es.length = n
  have ht : ∀ b : Bool, (∃ c, DV.bool b = DV.bool c) := fun b => ⟨b, rfl⟩
  by_cases e0 : text = bstr #[] <;> cases away <;> cases rd <;> cases tx <;> cases qd <;> cases qz <;> cases so <;> simp [e0] <;> omega
end Go.Proofs.YteoindgcjoldhaaGreatDoor
