/-
  A part of the proof of LedgerResults (the machine on named data, and the contracts of the functions that the law reaches): Rw Rf.
-/
import Derived.Test.YtjplhjnbcjohoaaGreatDoorShelf
import Derived.Test.YtjplhjnbcjohoaaGreatDoorSa
import Derived.Test.YtjplhjnbcjohoaaGreatDoorSb
import Derived.Test.YtjplhjnbcjohoaaGreatDoorSc
import Derived.Test.YtjplhjnbcjohoaaGreatDoorSd
import Derived.Test.YtjplhjnbcjohoaaGreatDoorSe
import Derived.Test.YtjplhjnbcjohoaaGreatDoorSf
import Derived.Test.YtjplhjnbcjohoaaGreatDoorSg
import Derived.Test.YtjplhjnbcjohoaaGreatDoorSk
import Derived.Test.YtjplhjnbcjohoaaGreatDoorWa
import Derived.Test.YtjplhjnbcjohoaaGreatDoorKa
import Derived.Test.YtjplhjnbcjohoaaGreatDoorKe
import Derived.Test.YtjplhjnbcjohoaaGreatDoorKb
set_option linter.all false
set_option linter.unusedVariables false
set_option linter.unusedSimpArgs false
set_option linter.unusedSectionVars false
namespace Go.Proofs.YtjplhjnbcjohoaaGreatDoor
open Go Go.AM
/-! ### wakes: the closed run as a contract -/
theorem io_ofW {w w' : World} (h1 : w'.os = w.os) (h2 : w'.output = w.output) : ioOf w' = ioOf w := by
  unfold ioOf; rw [h1, h2]
theorem upB_tab : ∀ n : Fin 256, upB (UInt8.ofNat n.val) = Lib.upperB (UInt8.ofNat n.val) := by decide +kernel
theorem upB_eq (b : UInt8) : upB b = Lib.upperB b := by
  have := upB_tab ⟨b.toNat, b.toNat_lt⟩
  simpa only [UInt8.ofNat_toNat] using this
theorem cmpB_eq : ∀ a b : List UInt8, cmpB a b = Lib.compareBytes a b
  | [], [] => rfl
  | [], _ :: _ => rfl
  | _ :: _, [] => rfl
  | a :: xs, b :: ys => by
    have hc : cmpB (a :: xs) (b :: ys) = bif Nat.beq a.toNat b.toNat then cmpB xs ys else bif Nat.blt a.toNat b.toNat then -1 else 1 := rfl
    have hd : Lib.compareBytes (a :: xs) (b :: ys) = if a.toNat < b.toNat then -1 else if b.toNat < a.toNat then 1 else Lib.compareBytes xs ys := rfl
    rw [hc, hd, cmpB_eq xs ys]
    by_cases h : a.toNat = b.toNat
    · have h1 : Nat.beq a.toNat b.toNat = true := by rw [Nat.beq_eq]; exact h
      rw [h1, if_neg (by omega), if_neg (by omega)]
      rfl
    · have h1 : Nat.beq a.toNat b.toNat = false := by rw [← Bool.not_eq_true, Nat.beq_eq]; exact h
      rw [h1]
      by_cases h2 : a.toNat < b.toNat
      · have h3 : Nat.blt a.toNat b.toNat = true := by simp only [Nat.blt, Nat.ble_eq]; omega
        rw [h3, if_pos h2]
        rfl
      · have h3 : Nat.blt a.toNat b.toNat = false := by rw [← Bool.not_eq_true]; simp only [Nat.blt, Nat.ble_eq]; omega
        rw [h3, if_neg h2, if_pos (by omega)]
        rfl
theorem spCmp_ok : @CallOK O0 Tryz.prog G (fun g args h => if g = 249 then spCmp args h else none) := by
  intro g args h av h' hs
  simp only at hs
  split at hs
  · rename_i e
    subst e
    refine ⟨hasB_ok (by kernel_rfl), fun m vs w hv hr hg => ?_⟩
    unfold spCmp at hs
    split at hs
    · rename_i a b
      cases hs
      simp only [VL, V] at hv
      obtain ⟨v, us, e1, rfl, u, us', rfl, rfl, rfl⟩ := hv
      have hvs : vs = #[.string a, .string b] := by apply Array.ext'; simpa using e1
      subst hvs
      refine (Tryz.strings_Compare a b w).mono ?_
      rintro e w' ⟨rfl, rfl⟩
      refine ⟨_, m, rfl, .refl m, ?_, hr⟩
      simp only [V]
      rw [cmpB_eq]
    · cases hs
  · cases hs
theorem spUp_ok : @CallOK O0 Tryz.prog G (fun g args h => if g = 236 then spUp args h else none) := by
  intro g args h av h' hs
  simp only at hs
  split at hs
  · rename_i e
    subst e
    refine ⟨hasB_ok (by kernel_rfl), fun m vs w hv hr hg => ?_⟩
    unfold spUp at hs
    split at hs
    · rename_i s
      split at hs
      · rename_i hc
        cases hs
        simp only [Bool.and_eq_true, List.all_eq_true, Nat.ble_eq] at hc
        simp only [VL, V] at hv
        obtain ⟨v, us, e1, rfl, rfl⟩ := hv
        have hvs : vs = #[.string s] := by apply Array.ext'; simpa using e1
        subst hvs
        refine (Tryz.strings_ToUpper_ascii s w (by omega) ?_).mono ?_
        · intro j b hb
          have := hc.1 b (List.mem_iff_getElem?.2 ⟨j, hb⟩)
          simp only [Nat.blt, Nat.ble_eq] at this
          omega
        · rintro e w' ⟨rfl, hb⟩
          refine ⟨_, m, rfl, .refl m, ?_, hr.grow hb.block (io_ofW hb.os hb.output)⟩
          simp only [V]
          have : s.data.toList.map upB = Lib.toUpperA s.data.toList := List.map_congr_left fun b _ => upB_eq b
          rw [this]
      · cases hs
    · cases hs
  · cases hs
theorem specK_ok : @SpecOK O0 Tryz.prog G specK := by
  intro f sp h
  unfold specK at h
  split at h <;> cases h
  exact spUp_ok
theorem wspec_ok : @SpecOK O0 Tryz.prog G wspec := by
  intro f sp h
  unfold wspec at h
  split at h <;> cases h
  · refine @tabX_ok O0 _ _ _ (@callA_ok O0 Tryz.prog G hmix hNum noSpec (noSpec_ok _) 1000000) plainG 88 blkTab fun r hr => ?_
    simp only [blkTab, List.mem_cons, List.not_mem_nil, or_false] at hr
    rcases hr with rfl | rfl | rfl | rfl | rfl | rfl | rfl
    · exact blkRun0
    · exact blkRun1
    · exact blkRun2
    · exact blkRun3
    · exact blkRun4
    · exact blkRun5
    · exact blkRun6
  · refine @tabX_ok O0 _ _ _ (@callA_ok O0 Tryz.prog G hmix hNum specK specK_ok 1000000) plainG 199 keyTab fun r hr => ?_
    exact List.all_eq_true.1 keyRun r hr
  · exact spCmp_ok
theorem isTrue_some {o : Out} (h : isTrue o = true) : ∃ hx, o = some (.sc (.bool true), hx) := by
  unfold isTrue at h
  split at h
  · exact ⟨_, rfl⟩
  · cases h
noncomputable def frz (w : World) : Env := Go.AM.frozen (Rho.mk (fun _ => DV.bool false) (fun _ _ => DV.bool false)) w
theorem wakes_some : ∃ hx, @callA O0 Tryz.prog G wspec 1000000 4 [] heap0 = some (.sc (.bool true), hx) := isTrue_some wakesRun
theorem VC_emono {m m' : Env} (hE : ∀ b o v, m.ecell b o = some v → m'.ecell b o = some v) {b : Nat} : ∀ {cs : List AV} {o : Nat}, (∀ c ∈ cs, ∃ u, c = AV.sc u) → VC m b o cs → VC m' b o cs
  | [], _, _, _ => by simp [VC]
  | c :: cs, o, hp, hv => by
    simp only [VC] at hv ⊢
    obtain ⟨⟨v, h1, h2⟩, h3⟩ := hv
    obtain ⟨u, rfl⟩ := hp c (by simp)
    exact ⟨⟨v, hE _ _ _ h1, by simpa [V] using h2⟩, VC_emono hE (fun c hc => hp c (List.mem_cons_of_mem _ hc)) h3⟩
theorem fnWakes : FnOK Tryz.prog G 4 [] [.one .bool] (fun _ => True) Ftrue := by
  obtain ⟨hx, hrun⟩ := wakes_some
  have hok := @callA_ok O0 Tryz.prog G hmix hNum wspec wspec_ok 1000000 _ _ _ _ _ hrun
  refine ⟨hok.1, fun E ds vs w hE hr _ hg => ?_⟩
  simp only [RepArgs] at hr
  obtain ⟨rfl, hvs⟩ := hr
  have hvs : vs = #[] := by apply Array.ext'; simpa using hvs
  subst hvs
  have hEc : ∀ b o v, (envE E).ecell b o = some v → (frz w).ecell b o = some v := by
    intro b o v h
    unfold Env.ecell at *
    cases hb : (envE E).E b with
    | none => rw [hb] at h; simp at h
    | some x =>
      rw [hb] at h
      have : w.heap[b]? = some x := hE b x hb
      simp only [frz, Go.AM.frozen, this]
      exact h
  refine (hok.2 (frz w) #[] w (by simp [VL]) (HR.frozen _ w) (@GOK.mk O0 _ _ (fun g cs e => VC_emono hEc (plainG g cs e) (hg g cs e)) (noFacts_ok _))).mono ?_
  rintro e w' ⟨v, m', rfl, k1, k2, k3⟩
  simp only [V] at k2
  subst k2
  have old : ∀ b, b < w.heap.size → w'.heap[b]? = w.heap[b]? := by
    intro b hb
    have e1 : (frz w).E b = some w.heap[b] := Array.getElem?_eq_getElem hb
    rw [k3.E b _ (k1.E b _ e1), Array.getElem?_eq_getElem hb]
  refine ⟨_, E, rfl, ⟨fun _ _ h => h, fun b o h => ⟨?_, .inl h⟩, old, k3.io.trans k1.io⟩, [.bool true], rfl, .bool true, rfl, ?_⟩
  · have h1 := hE b o h
    rw [old b (Array.getElem?_eq_some_iff.1 h1).1]
    exact h1
  · simp only [Rep]
    exact ⟨true, rfl, rfl⟩
end Go.Proofs.YtjplhjnbcjohoaaGreatDoor
namespace Go.Proofs.YtjplhjnbcjohoaaGreatDoor
open Go Go.AM
/-! ### LedgerResults -/
noncomputable def eWakes : Ent := eFn 4 [] [.one .bool] [] 6
noncomputable abbrev entL : List Ent := [eWakes, eOver, eEncR, eDc, eRr, eSameO, eRefB, eSameB]
theorem entL_ok : EntsOK Tryz.prog G theI entL := ⟨eFn_ok plainG (pre_true fnWakes) (fun _ => rfl) [] (by kernel_rfl), eFn_ok plainG (pre_true fnOver) (fun _ => rfl) [] (by kernel_rfl), eFn_ok plainG (pre_true fnEncR) (fun _ => rfl) [] (by kernel_rfl), eDc_ok.1, eRr_ok.1, eSameO_ok.1, eRefB_ok.1, eSameB_ok.1, trivial⟩
noncomputable abbrev rs4 : List SX := [.v 0, .v 1, .v 2, .v 3]
noncomputable abbrev enX (j : Nat) : SX := .at (.app 10 rs4) (k64 j) 0
noncomputable abbrev rbX (j : Nat) : SX := .at (.app 11 rs4) (k64 j) 0
noncomputable abbrev dcX (j k : Nat) : SX := .at (.app 14 [.v 4]) (k64 j) k
noncomputable abbrev rrX (j k : Nat) : SX := .at (.app 15 [.v 4]) (k64 j) k
noncomputable abbrev sxX : SX := .at (.app 16 [dcX 0 0, dcX 0 1, dcX 0 2, dcX 0 3, rrX 0 0, rrX 0 1, rrX 0 2, rrX 0 3]) (k64 0) 0
noncomputable abbrev szX : SX := .at (.app 16 [dcX 0 0, dcX 0 1, dcX 0 2, dcX 0 3, k64 0, k64 0, .emp, k64 0]) (k64 0) 0
noncomputable abbrev pTail : Pln :=
  .ask (rbX 1)
    (.know (eql (enX 1) (k64 0)) true (.done [[.at (.app 4 [enX 0, rbX 0]) (k64 0) 0]]))
    (.know (eql (.len (enX 0)) (k64 0)) true (.done [[eql (enX 1) (k64 271)]]))
noncomputable def pLaw : Pln :=
  .know (.at (.app 6 []) (k64 0) 0) true (.ask (.at (.app 13 [.v 2]) (k64 0) 0) (.done [[.kb true]])
    (.ask (lss (k64 10000) (.len (.v 4))) (.done [[.kb true]])
      (.know (lss (k64 1000000) (.len (.v 4))) false (.know (eql (rrX 1 0) (eql (dcX 1 0) (k64 0))) true
        (.ask (rrX 1 0)
          (.know sxX true pTail)
          (.know (eql (dcX 1 0) (k64 271)) true (.know szX true pTail)))))))
theorem kLaw : (hasB 3 && checkPlan [.one .bool] (runI theI (entS entL) [] [] 3 [.agg tO, .one tB]) [] pLaw) = true := by kernel_rfl
theorem args_L {ds : List (List DV)} (h : IsArgs [.agg tO, .one tB] ds) : ∃ e a rows c l, ds = [[.int .i64 e, .int .i64 a, .list rows, .int .i64 c], [.list (bytesI l)]] ∧ AreB l := by
  simp only [IsArgs, IsOne, IsL, tO] at h
  obtain ⟨_, _, rfl, ⟨d1, _, rfl, h1, d2, _, rfl, h2, d3, _, rfl, h3, d4, _, rfl, h4, rfl⟩, _, _, rfl, ⟨d, rfl, hd⟩, rfl⟩ := h
  obtain ⟨e, rfl, _⟩ := h1.i64
  obtain ⟨a, rfl, _⟩ := h2.i64
  obtain ⟨rows, rfl, _⟩ := h3.rows
  obtain ⟨c, rfl, _⟩ := h4.i64
  obtain ⟨l, rfl, hB, _⟩ := hd.ints
  exact ⟨e, a, rows, c, l, rfl, hB⟩
theorem d_eqb {R : Rho} {x y : SX} {a b : Bool} (hx : den R x = .bool a) (hy : den R y = .bool b) : den R (eql x y) = .bool (a == b) := by
  simp only [den, hx, hy, binD]
theorem fnLaw : FnOK Tryz.prog G 3 [.agg tO, .one tB] [.one .bool] (fun _ => True) Ftrue := by
  have hk := kLaw
  rw [Bool.and_eq_true] at hk
  refine fn_run (entS_ok entL_ok) [] _ noLoops hk.1 pLaw hk.2 fun ds h _ => ?_
  obtain ⟨e, a, rows, c, l, rfl, hB⟩ := args_L h
  have hF : Ftrue [[.int .i64 e, .int .i64 a, .list rows, .int .i64 c], [.list (bytesI l)]].flatten = [[.bool true]] := rfl
  rw [hF]
  generalize hR : rhoOf theI [[.int .i64 e, .int .i64 a, .list rows, .int .i64 c], [.list (bytesI l)]].flatten = R
  have hI : R.I = theI := by rw [← hR]; rfl
  have q0 : R.ρ 0 = .int .i64 e := by rw [← hR]; rfl
  have q1 : R.ρ 1 = .int .i64 a := by rw [← hR]; rfl
  have q2 : R.ρ 2 = .list rows := by rw [← hR]; rfl
  have q3 : R.ρ 3 = .int .i64 c := by rw [← hR]; rfl
  have q4 : R.ρ 4 = .list (bytesI l) := by rw [← hR]; rfl
  have dl := d_lenI (d_v q4)
  have done : goalPlan R [[DV.bool true]] (.done [[.kb true]]) := rfl
  have hrs : rs4.map (den R) = [.int .i64 e, .int .i64 a, .list rows, .int .i64 c] := by simp only [rs4, List.map_cons, List.map_nil, d_v q0, d_v q1, d_v q2, d_v q3]
  have hraw : ([.v 4] : List SX).map (den R) = [.list (bytesI l)] := by simp only [List.map_cons, List.map_nil, d_v q4]
  obtain ⟨b1, b2⟩ := dRefB hI (d_v q0) (d_v q1) (d_v q2) (d_v q3)
  have hE : FencR [.int .i64 e, .int .i64 a, .list rows, .int .i64 c] = if saidOK e a c rows then [[.list (bytesI (saidB e a c rows))], [.int .i64 0]] else [[.list []], [.int .i64 271]] := rfl
  have dE : ∀ j : Nat, den R (enX j) = ((FencR [.int .i64 e, .int .i64 a, .list rows, .int .i64 c]).getD j []).getD 0 (.bool false) := fun j => d_res (F := FencR) (by rw [hI]; rfl) (by rw [hrs])
  have tail : goalPlan R [[DV.bool true]] pTail := by
    refine goal_ask b1 (fun hs => ?_) (fun hs => ?_)
    · rw [hE, hs, if_pos rfl] at dE
      have e0 : den R (enX 0) = .list (bytesI (saidB e a c rows)) := dE 0
      have e1 : den R (enX 1) = .int .i64 0 := dE 1
      refine goal_know (by rw [d_eql e1 (d_k .i64 0)]; rfl) ?_
      show _ = _
      simp only [List.map_cons, List.map_nil, dEqL hI e0 (b2 hs)]
      simp
    · rw [hE, hs, if_neg (by simp)] at dE
      have e0 : den R (enX 0) = .list (bytesI []) := dE 0
      have e1 : den R (enX 1) = .int .i64 271 := dE 1
      refine goal_know (by rw [d_eql (d_lenI e0) (d_k .i64 0)]; rfl) ?_
      show _ = _
      simp only [List.map_cons, List.map_nil, d_eql e1 (d_k .i64 271)]
      rfl
  -- what is read
  have hD : FdecR [.list (bytesI l)] = resP (outP l) := FdecR_I l
  have hQ := FrefR_I l
  have dD : ∀ j k : Nat, den R (dcX j k) = ((resP (outP l)).getD j []).getD k (.bool false) := fun j k => d_res (F := FdecR) (by rw [hI]; rfl) (by rw [hraw, hD])
  have hQ' : FrefR [.list (bytesI l)] = FrefR [[DV.list (bytesI l)]].flatten := rfl
  have dQ : ∀ j k : Nat, den R (rrX j k) = ((FrefR [[DV.list (bytesI l)]].flatten).getD j []).getD k (.bool false) := fun j k => d_res (F := FrefR) (by rw [hI]; rfl) (by rw [hraw, hQ'])
  rw [hQ] at dQ
  have hPQ := outP_Q hB
  have same : ∀ (x0 x1 x2 x3 y0 y1 y2 y3 : SX) (e a c : Int) (r : List (List DV)), den R x0 = .int .i64 e → den R x1 = .int .i64 a → den R x2 = .list r → den R x3 = .int .i64 c → den R y0 = .int .i64 e → den R y1 = .int .i64 a → den R y2 = .list r → den R y3 = .int .i64 c → den R (.at (.app 16 [x0, x1, x2, x3, y0, y1, y2, y3]) (k64 0) 0) = .bool true := by
    intro x0 x1 x2 x3 y0 y1 y2 y3 e a c r h0 h1 h2 h3 g0 g1 g2 g3
    refine d_res (F := FsameO) (by rw [hI]; rfl) ?_
    simp only [List.map_cons, List.map_nil, h0, h1, h2, h3, g0, g1, g2, g3]
    show DV.bool (decide (e = e) && decide (a = a) && decide (c = c) && eqLs r r) = _
    simp [eqLs]
  unfold pLaw
  refine goal_know (d_res (F := Ftrue) (by rw [hI]; rfl) rfl) ?_
  have dO : den R (.at (.app 13 [.v 2]) (k64 0) 0) = .bool (if 300 < rows.length then true else !ovR rows 0) := by
    refine d_res (F := Fover) (by rw [hI]; rfl) ?_
    simp only [List.map_cons, List.map_nil, d_v q2]
    rfl
  refine goal_ask dO (fun _ => done) (fun _ => goal_ask (d_lss (d_k .i64 10000) dl) (fun _ => done) (fun hl => ?_))
  simp only [decide_eq_false_iff_not] at hl
  refine goal_know (len_le R (d_v q4) (by omega)) ?_
  have no : outP l = none → (∃ b : Bool, den R (rrX 1 0) = .bool b ∧ b = false) → goalPlan R [[DV.bool true]] (.know (eql (rrX 1 0) (eql (dcX 1 0) (k64 0))) true (.ask (rrX 1 0) (.know sxX true pTail) (.know (eql (dcX 1 0) (k64 271)) true (.know szX true pTail)))) := by
    rintro hp ⟨b, hb, rfl⟩
    rw [hp] at dD
    have f1 : den R (dcX 1 0) = .int .i64 271 := dD 1 0
    have x0 : den R (dcX 0 0) = .int .i64 0 := dD 0 0
    have x1 : den R (dcX 0 1) = .int .i64 0 := dD 0 1
    have x2 : den R (dcX 0 2) = .list [] := dD 0 2
    have x3 : den R (dcX 0 3) = .int .i64 0 := dD 0 3
    refine goal_know (by rw [d_eqb hb (d_eql f1 (d_k .i64 0))]; rfl) (goal_ask hb (fun h => by cases h) (fun _ => goal_know (by rw [d_eql f1 (d_k .i64 271)]; rfl) (goal_know (same _ _ _ _ _ _ _ _ 0 0 0 [] x0 x1 x2 x3 (d_k .i64 0) (d_k .i64 0) rfl (d_k .i64 0)) tail)))
  rcases ho : outQ l with _ | ⟨e', a', c', rows', ok⟩
  · rw [ho] at dQ hPQ
    exact no hPQ ⟨false, dQ 1 0, rfl⟩
  · cases ok with
    | false =>
      rw [ho] at dQ hPQ
      exact no hPQ ⟨false, dQ 1 0, rfl⟩
    | true =>
      rw [ho] at dQ hPQ
      have hPQ : outP l = some (e', a', c', rows') := hPQ
      rw [hPQ] at dD
      have f1 : den R (dcX 1 0) = .int .i64 0 := dD 1 0
      have o1 : den R (rrX 1 0) = .bool true := dQ 1 0
      refine goal_know (by rw [d_eqb o1 (d_eql f1 (d_k .i64 0))]; rfl) (goal_ask o1 (fun _ => goal_know (same _ _ _ _ _ _ _ _ e' a' c' rows' (dD 0 0) (dD 0 1) (dD 0 2) (dD 0 3) (dQ 0 0) (dQ 0 1) (dQ 0 2) (dQ 0 3)) tail) (fun h => by cases h))
end Go.Proofs.YtjplhjnbcjohoaaGreatDoor
