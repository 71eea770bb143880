/-
  A part of the proof of LedgerTxs (the machine on named data, and the contracts of the functions that the law reaches): Lf9.
-/
import Derived.Test.YtlhdmgmjpnocjaaGreatDoorShelf
import Derived.Test.YtlhdmgmjpnocjaaGreatDoorSa
import Derived.Test.YtlhdmgmjpnocjaaGreatDoorSb
import Derived.Test.YtlhdmgmjpnocjaaGreatDoorSc
import Derived.Test.YtlhdmgmjpnocjaaGreatDoorSd
import Derived.Test.YtlhdmgmjpnocjaaGreatDoorSe
import Derived.Test.YtlhdmgmjpnocjaaGreatDoorSf
import Derived.Test.YtlhdmgmjpnocjaaGreatDoorSg
import Derived.Test.YtlhdmgmjpnocjaaGreatDoorSk
import Derived.Test.YtlhdmgmjpnocjaaGreatDoorWa
import Derived.Test.YtlhdmgmjpnocjaaGreatDoorKb
set_option linter.all false
set_option linter.unusedVariables false
set_option linter.unusedSimpArgs false
set_option linter.unusedSectionVars false
namespace Go.Proofs.YtlhdmgmjpnocjaaGreatDoor
open Go Go.AM
/-! ### wakes: the closed run as a contract -/
theorem upB_tab : ∀ n : Fin 256, upB (UInt8.ofNat n.val) = Lib.upperB (UInt8.ofNat n.val) := by decide +kernel
theorem upB_eq (b : UInt8) : upB b = Lib.upperB b := by
  have := upB_tab ⟨b.toNat, b.toNat_lt⟩
  simpa only [UInt8.ofNat_toNat] using this
theorem cmpB_eq : ∀ a b : List UInt8, cmpB a b = Lib.compareBytes a b
  | [], [] => rfl
  | [], _ :: _ => rfl
  | _ :: _, [] => rfl
  | a :: xs, b :: ys => by
    have hc : cmpB (a :: xs) (b :: ys) = bif Nat.beq a.toNat b.toNat then cmpB xs ys else bif Nat.blt a.toNat b.toNat then -1 else 1 := rfl
    have hd : Lib.compareBytes (a :: xs) (b :: ys) = if a.toNat < b.toNat then -1 else if b.toNat < a.toNat then 1 else Lib.compareBytes xs ys := rfl
    rw [hc, hd, cmpB_eq xs ys]
    by_cases h : a.toNat = b.toNat
    · have h1 : Nat.beq a.toNat b.toNat = true := by rw [Nat.beq_eq]; exact h
      rw [h1, if_neg (by omega), if_neg (by omega)]
      rfl
    · have h1 : Nat.beq a.toNat b.toNat = false := by rw [← Bool.not_eq_true, Nat.beq_eq]; exact h
      rw [h1]
      by_cases h2 : a.toNat < b.toNat
      · have h3 : Nat.blt a.toNat b.toNat = true := by simp only [Nat.blt, Nat.ble_eq]; omega
        rw [h3, if_pos h2]
        rfl
      · have h3 : Nat.blt a.toNat b.toNat = false := by rw [← Bool.not_eq_true]; simp only [Nat.blt, Nat.ble_eq]; omega
        rw [h3, if_neg h2, if_pos (by omega)]
        rfl
theorem spCmp_ok : @CallOK O0 Tryz.prog G (fun g args h => if g = 233 then spCmp args h else none) := by
  intro g args h av h' hs
  simp only at hs
  split at hs
  · rename_i e
    subst e
    refine ⟨hasB_ok (by kernel_rfl), fun m vs w hv hr hg => ?_⟩
    unfold spCmp at hs
    split at hs
    · rename_i a b
      cases hs
      simp only [VL, V] at hv
      obtain ⟨v, us, e1, rfl, u, us', rfl, rfl, rfl⟩ := hv
      have hvs : vs = #[.string a, .string b] := by apply Array.ext'; simpa using e1
      subst hvs
      refine (Tryz.strings_Compare a b w).mono ?_
      rintro e w' ⟨rfl, rfl⟩
      refine ⟨_, m, rfl, .refl m, ?_, hr⟩
      simp only [V]
      rw [cmpB_eq]
    · cases hs
  · cases hs
theorem spUp_ok : @CallOK O0 Tryz.prog G (fun g args h => if g = 220 then spUp args h else none) := by
  intro g args h av h' hs
  simp only at hs
  split at hs
  · rename_i e
    subst e
    refine ⟨hasB_ok (by kernel_rfl), fun m vs w hv hr hg => ?_⟩
    unfold spUp at hs
    split at hs
    · rename_i s
      split at hs
      · rename_i hc
        cases hs
        simp only [Bool.and_eq_true, List.all_eq_true, Nat.ble_eq] at hc
        simp only [VL, V] at hv
        obtain ⟨v, us, e1, rfl, rfl⟩ := hv
        have hvs : vs = #[.string s] := by apply Array.ext'; simpa using e1
        subst hvs
        refine (Tryz.strings_ToUpper_ascii s w (by omega) ?_).mono ?_
        · intro j b hb
          have := hc.1 b (List.mem_iff_getElem?.2 ⟨j, hb⟩)
          simp only [Nat.blt, Nat.ble_eq] at this
          omega
        · rintro e w' ⟨rfl, hb⟩
          refine ⟨_, m, rfl, .refl m, ?_, hr.grow hb.block (io_of hb.os hb.output)⟩
          simp only [V]
          have : s.data.toList.map upB = Lib.toUpperA s.data.toList := List.map_congr_left fun b _ => upB_eq b
          rw [this]
      · cases hs
    · cases hs
  · cases hs
theorem specK_ok : @SpecOK O0 Tryz.prog G specK := by
  intro f sp h
  unfold specK at h
  split at h <;> cases h
  exact spUp_ok
theorem wspec_ok : @SpecOK O0 Tryz.prog G spec := by
  intro f sp h
  unfold spec at h
  split at h <;> cases h
  · refine @tabX_ok O0 _ _ _ (@callA_ok O0 Tryz.prog G hmix hNum noSpec (noSpec_ok _) 1000000) plainG 70 blkTab fun r hr => ?_
    simp only [blkTab, List.mem_cons, List.not_mem_nil, or_false] at hr
    rcases hr with rfl | rfl | rfl | rfl | rfl | rfl | rfl
    · exact blkRun0
    · exact blkRun1
    · exact blkRun2
    · exact blkRun3
    · exact blkRun4
    · exact blkRun5
    · exact blkRun6
  · refine @tabX_ok O0 _ _ _ (@callA_ok O0 Tryz.prog G hmix hNum specK specK_ok 1000000) plainG 183 keyTab fun r hr => ?_
    exact List.all_eq_true.1 keyRun r hr
  · exact spCmp_ok
theorem isTrue_some {o : Out} (h : isTrue o = true) : ∃ hx, o = some (.sc (.bool true), hx) := by
  unfold isTrue at h
  split at h
  · exact ⟨_, rfl⟩
  · cases h
noncomputable def frz (w : World) : Env := Go.AM.frozen (Rho.mk (fun _ => DV.bool false) (fun _ _ => DV.bool false)) w
theorem wakes_some : ∃ hx, @callA O0 Tryz.prog G spec 1000000 4 [] heap0 = some (.sc (.bool true), hx) := isTrue_some wakesRun
theorem VC_emono {m m' : Env} (hE : ∀ b o v, m.ecell b o = some v → m'.ecell b o = some v) {b : Nat} : ∀ {cs : List AV} {o : Nat}, (∀ c ∈ cs, ∃ u, c = AV.sc u) → VC m b o cs → VC m' b o cs
  | [], _, _, _ => by simp [VC]
  | c :: cs, o, hp, hv => by
    simp only [VC] at hv ⊢
    obtain ⟨⟨v, h1, h2⟩, h3⟩ := hv
    obtain ⟨u, rfl⟩ := hp c (by simp)
    exact ⟨⟨v, hE _ _ _ h1, by simpa [V] using h2⟩, VC_emono hE (fun c hc => hp c (List.mem_cons_of_mem _ hc)) h3⟩
theorem fn4 : FnOK Tryz.prog G 4 [] [.one .bool] (fun _ => True) F4 := by
  obtain ⟨hx, hrun⟩ := wakes_some
  have hok := @callA_ok O0 Tryz.prog G hmix hNum spec wspec_ok 1000000 _ _ _ _ _ hrun
  refine ⟨hok.1, fun E ds vs w hE hr _ hg => ?_⟩
  simp only [RepArgs] at hr
  obtain ⟨rfl, hvs⟩ := hr
  have hvs : vs = #[] := by apply Array.ext'; simpa using hvs
  subst hvs
  have hEc : ∀ b o v, (envE E).ecell b o = some v → (frz w).ecell b o = some v := by
    intro b o v h
    unfold Env.ecell at *
    cases hb : (envE E).E b with
    | none => rw [hb] at h; simp at h
    | some x =>
      rw [hb] at h
      have : w.heap[b]? = some x := hE b x hb
      simp only [frz, Go.AM.frozen, this]
      exact h
  refine (hok.2 (frz w) #[] w (by simp [VL]) (HR.frozen _ w) (@GOK.mk O0 _ _ (fun g cs e => VC_emono hEc (plainG g cs e) (hg g cs e)) (noFacts_ok _))).mono ?_
  rintro e w' ⟨v, m', rfl, k1, k2, k3⟩
  simp only [V] at k2
  subst k2
  have old : ∀ b, b < w.heap.size → w'.heap[b]? = w.heap[b]? := by
    intro b hb
    have e1 : (frz w).E b = some w.heap[b] := Array.getElem?_eq_getElem hb
    rw [k3.E b _ (k1.E b _ e1), Array.getElem?_eq_getElem hb]
  refine ⟨_, E, rfl, ⟨fun _ _ h => h, fun b o h => ⟨?_, .inl h⟩, old, k3.io.trans k1.io⟩, [.bool true], rfl, .bool true, rfl, ?_⟩
  · have h1 := hE b o h
    rw [old b (Array.getElem?_eq_some_iff.1 h1).1]
    exact h1
  · simp only [Rep]
    exact ⟨true, rfl, rfl⟩
/-! ### LedgerTxs -/
noncomputable abbrev a4 : SX := .at (.app 4 []) (k64 0) 0
noncomputable abbrev tx : List SX := [.v 0, .v 1, .v 2]
noncomputable abbrev r5 (j : Nat) : SX := .at (.app 5 tx) (k64 j) 0
noncomputable abbrev r6 (j k : Nat) : SX := .at (.app 6 [.v 3]) (k64 j) k
noncomputable abbrev r7 (j k : Nat) : SX := .at (.app 7 [.v 3]) (k64 j) k
noncomputable abbrev r8 : SX := .at (.app 8 tx) (k64 0) 0
noncomputable abbrev r9 : SX := .at (.app 9 tx) (k64 0) 0
noncomputable abbrev r11 : SX := .at (.app 11 tx) (k64 0) 0
noncomputable abbrev eql (a b : SX) : SX := .bin .eql a b
noncomputable abbrev allEq : SX := .all [eql (r6 0 0) (r7 0 0), eql (r6 0 1) (r7 0 1), eql (r6 0 2) (r7 0 2)]
noncomputable def p3 : Pln :=
  .know a4 true (.ask (lss (k64 5000) (.len (.v 2))) (.done [[.kb true]]) (.ask (lss (k64 5000) (.len (.v 3))) (.done [[.kb true]])
    (.know (lss (k64 1000000) (.len (.v 3))) false (.know (eql (r6 1 0) (r7 1 0)) true (.know allEq true
      (.ask r8
        (.know (eql (r5 1) (k64 0)) true (.know (eql r9 (k64 0)) true (.know (lss (k64 1000000) (.len (.v 2))) false (.know (lss (k64 1000000) (.len (r5 0))) false (.know (lss (k64 1000000) (.len r11)) false
          (.done [[.at (.app 10 [r5 0, r11]) (k64 0) 0]]))))))
        (.know (eql (.len (r5 0)) (k64 0)) true (.know (eql (r5 1) (k64 270)) true (.done [[eql r9 (k64 270)]])))))))))
noncomputable def specL : Orc → FuncId → Option (List AV → AHeap → Out) := fun O => @spL O
theorem c3 : checkPlan [.one .bool] (runI theI specL [] 3 [.agg tTx, .one tB]) [] p3 = true := by kernel_rfl
theorem pre_no {f : FuncId} {sg rs : Sig} {F : List DV → List (List DV)} (h : FnOK Tryz.prog G f sg rs (fun _ => True) F) (I : Nat → List DV → DV) : FnOK Tryz.prog G f sg rs (fun ds => ∀ p ∈ ([] : List (SX × Bool)), den (rhoOf I ds) p.1 = .bool p.2) F :=
  ⟨h.1, fun E ds vs w hE hr _ hg => h.2 E ds vs w hE hr trivial hg⟩
theorem specL_ok (O : Orc) (hO : O.I = theI) : @SpecOK O Tryz.prog G (specL O) := by
  intro f sp h
  unfold specL spL at h
  split at h <;> (try (cases h; done))
  · exact spec_one (spec := noSpec) (symSp_ok plainG (preS := []) (pre_no fn4 O.I) (by intro ds; rw [hO]; rfl) (by kernel_rfl)) h
  · exact spec_one (spec := noSpec) (symSp_ok plainG (preS := []) (pre_no fn5 O.I) (by intro ds; rw [hO]; rfl) (by kernel_rfl)) h
  · exact spec_one (spec := noSpec) (symSp_ok plainG (preS := [lenOK 0]) (by rw [hO]; exact fn6) (by intro ds; rw [hO]; rfl) (by kernel_rfl)) h
  · exact spec_one (spec := noSpec) (symSp_ok plainG (preS := []) (pre_no fn7 O.I) (by intro ds; rw [hO]; rfl) (by kernel_rfl)) h
  · exact spec_one (spec := noSpec) (symSp_ok plainG (preS := []) (pre_no fn8 O.I) (by intro ds; rw [hO]; rfl) (by kernel_rfl)) h
  · exact spec_one (spec := noSpec) (symSp_ok plainG (preS := []) (pre_no fn9 O.I) (by intro ds; rw [hO]; rfl) (by kernel_rfl)) h
  · exact spec_one (spec := noSpec) (symSp_ok plainG (preS := [lenOK 0, lenOK 1]) (fn10 O.I) (by intro ds; rw [hO]; rfl) (by kernel_rfl)) h
  · exact spec_one (spec := noSpec) (symSp_ok plainG (preS := [lenOK 2]) (by rw [hO]; exact fn11) (by intro ds; rw [hO]; rfl) (by kernel_rfl)) h
theorem agg_txB {m : Env} {ds : List (List DV)} {vs : List Value} (h : RepArgs m [.agg tTx, .one tB] ds vs) : ∃ c s t l, ds = [[.int .i64 c, .int .u32 s, .str t], [.list (bytesI l)]] ∧ 0 ≤ s ∧ s ≤ 4294967295 := by
  have h' := h
  simp only [RepArgs] at h
  obtain ⟨d, ds', v, vs', rfl, rfl, h1, h2⟩ := h
  obtain ⟨c, s, t, e, k1, k2⟩ := agg_tx (m := m) (ds := [d]) (vs := [v]) ⟨d, [], v, [], rfl, rfl, h1, rfl, rfl⟩
  obtain ⟨l, e2, _, _⟩ := one_B (m := m) (ds := ds') (vs := vs') h2
  cases e
  subst e2
  exact ⟨c, s, t, l, rfl, k1, k2⟩
theorem app_I (R : Rho) (hI : R.I = theI) (f : Nat) (es : List SX) (ds : List DV) (F : List DV → List (List DV)) (hF : ∀ ds, theI f ds = .list (F ds)) (he : den.denL R es = ds) (j k : Nat) : den R (.at (.app f es) (k64 j) k) = ((F ds).getD j []).getD k (.bool false) := by
  simp only [den, hI, he, hF, atD]
  rfl
theorem fn3 : FnOK Tryz.prog G 3 [.agg tTx, .one tB] [.one .bool] (fun _ => True) F3 := by
  refine fn_run (spec := specL) specL_ok [] (by kernel_rfl) p3 c3 ?_
  intro E ds vs h _
  obtain ⟨c, s, t, l, rfl, hs, hs1⟩ := agg_txB h
  show goalPlan _ [[DV.bool true]] _
  generalize hR : rhoOf theI [[.int .i64 c, .int .u32 s, .str t], [.list (bytesI l)]].flatten = R
  have hI : R.I = theI := by rw [← hR]; rfl
  have q0 : R.ρ 0 = .int .i64 c := by rw [← hR]; rfl
  have q1 : R.ρ 1 = .int .u32 s := by rw [← hR]; rfl
  have q2 : R.ρ 2 = .str t := by rw [← hR]; rfl
  have q3 : R.ρ 3 = .list (bytesI l) := by rw [← hR]; rfl
  have r3 : den R (.v 3) = .list (bytesI l) := q3
  have htx : den.denL R tx = [.int .i64 c, .int .u32 s, .str t] := by simp [den.denL, den, q0, q1, q2]
  have hrw : den.denL R [.v 3] = [.list (bytesI l)] := by simp [den.denL, den, q3]
  have h4 := app_I R hI 4 [] [] F4 (fun _ => rfl) rfl 0 0
  have h5 := fun j => app_I R hI 5 tx _ F5 (fun _ => rfl) htx j 0
  have h6 := fun j k => app_I R hI 6 [.v 3] _ F6 (fun _ => rfl) hrw j k
  have h7 := fun j k => app_I R hI 7 [.v 3] _ F6 (fun _ => rfl) hrw j k
  have h8 := app_I R hI 8 tx _ F8 (fun _ => rfl) htx 0 0
  have h9 := app_I R hI 9 tx _ F9 (fun _ => rfl) htx 0 0
  have h11 := app_I R hI 11 tx _ F11 (fun _ => rfl) htx 0 0
  have lt : den R (.len (.v 2)) = .int .i64 t.size := by simp [den, q2, lenD]
  have ll := len_I R r3
  have kf : ∀ {x y : SX} {k l : IntKind} {p q : Int}, den R x = .int k p → den R y = .int l q → q ≤ p → den R (lss x y) = .bool false := fun h1 h2 h3 => by rw [lss_I R h1 h2]; simp; omega
  have eqt : ∀ {x y : SX} {k : IntKind} {p : Int}, den R x = .int k p → den R y = .int k p → den R (eql x y) = .bool true := fun h1 h2 => by simp only [den, h1, h2, binD]; simp
  have eqs : ∀ {x y : SX} {p : ByteArray}, den R x = .str p → den R y = .str p → den R (eql x y) = .bool true := fun h1 h2 => by simp only [den, h1, h2, binD]; simp
  -- what is decoded
  have dec : ∃ (c' s' : Int) (t' : ByteArray) (e' : Int), decF l = [[.int .i64 c', .int .u32 s', .str t'], [.int .i64 e']] := by
    unfold decF
    split
    · split
      · exact ⟨_, _, _, _, rfl⟩
      · exact ⟨_, _, _, _, rfl⟩
    · exact ⟨_, _, _, _, rfl⟩
  obtain ⟨c', s', t', e', hdec⟩ := dec
  have hF6 : F6 [.list (bytesI l)] = [[.int .i64 c', .int .u32 s', .str t'], [.int .i64 e']] := (F6_I l).trans hdec
  rw [hF6] at h6 h7
  have done : goalPlan R [[DV.bool true]] (.done [[.kb true]]) := rfl
  unfold p3
  refine goal_know h4 (goal_ask (lss_I R (k_I R 5000) lt) (fun _ => done) fun g1 => goal_ask (lss_I R (k_I R 5000) ll) (fun _ => done) fun g2 => ?_)
  have g1 := of_decide_eq_false g1
  have g2 := of_decide_eq_false g2
  refine goal_know (kf (k_I R 1000000) ll (by omega)) (goal_know (eqt (h6 1 0) (h7 1 0)) (goal_know ?_ ?_))
  · have e1 := eqt (h6 0 0) (h7 0 0)
    have e2 := eqt (h6 0 1) (h7 0 1)
    have e3 := eqs (h6 0 2) (h7 0 2)
    show DV.bool (den.denAll R _) = _
    simp only [den.denAll, e1, e2, e3, isT]
    rfl
  · refine goal_ask (b := txB c s t) h8 (fun hb => ?_) fun hb => ?_
    · have f5 : F5 [.int .i64 c, .int .u32 s, .str t] = [[.list (bytesI (encI c s t))], [.int .i64 0]] := by
        show (if txB c s t then _ else _) = _
        rw [hb]; rfl
      have f9 : F9 [.int .i64 c, .int .u32 s, .str t] = [[.int .i64 0]] := by
        show [[DV.int .i64 (if txB c s t then _ else _)]] = _
        rw [hb]; rfl
      rw [f5] at h5
      rw [f9] at h9
      have l5 : den R (r5 0) = .list (bytesI (encI c s t)) := h5 0
      have l11 : den R r11 = .list (bytesI (encI c s t)) := h11
      have henc : (encI c s t).length ≤ 1000000 := by
        unfold encI
        rw [List.length_append, len_strI]
        simp
        omega
      refine goal_know (eqt (h5 1) (k_I R 0)) (goal_know (eqt h9 (k_I R 0)) (goal_know (kf (k_I R 1000000) lt (by omega)) (goal_know (len_le R l5 henc) (goal_know (len_le R l11 henc) ?_))))
      have h10 := app_I R hI 10 [r5 0, r11] [.list (bytesI (encI c s t)), .list (bytesI (encI c s t))] F10 (fun _ => rfl) (by simp only [den.denL, l5, l11]) 0 0
      show [[DV.bool true]] = _
      simp only [List.map_cons, List.map_nil]
      rw [h10]
      show _ = [[DV.bool (decide (intsD [DV.list (bytesI (encI c s t)), DV.list (bytesI (encI c s t))] 0 = intsD [DV.list (bytesI (encI c s t)), DV.list (bytesI (encI c s t))] 1))]]
      have : intsD [DV.list (bytesI (encI c s t)), DV.list (bytesI (encI c s t))] 0 = intsD [DV.list (bytesI (encI c s t)), DV.list (bytesI (encI c s t))] 1 := rfl
      rw [decide_eq_true this]
    · have f5 : F5 [.int .i64 c, .int .u32 s, .str t] = [[.list []], [.int .i64 270]] := by
        show (if txB c s t then _ else _) = _
        rw [hb]; rfl
      have f9 : F9 [.int .i64 c, .int .u32 s, .str t] = [[.int .i64 270]] := by
        show [[DV.int .i64 (if txB c s t then _ else _)]] = _
        rw [hb]; rfl
      rw [f5] at h5
      rw [f9] at h9
      have l5 : den R (r5 0) = .list (bytesI []) := h5 0
      refine goal_know (eqt (len_I R l5) (k_I R 0)) (goal_know (eqt (h5 1) (k_I R 270)) ?_)
      show [[DV.bool true]] = _
      simp only [List.map_cons, List.map_nil]
      rw [eqt h9 (k_I R 270)]
end Go.Proofs.YtlhdmgmjpnocjaaGreatDoor
