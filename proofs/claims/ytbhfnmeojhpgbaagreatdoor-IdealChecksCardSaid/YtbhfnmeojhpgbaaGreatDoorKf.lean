/-
  A part of the proof of IdealChecks (the machine on named data, and the contracts of the functions that the law reaches): I16 I17.
-/
import Derived.Test.YtbhfnmeojhpgbaaGreatDoorKe
import Derived.Test.YtbhfnmeojhpgbaaGreatDoorShelf
import Derived.Test.YtbhfnmeojhpgbaaGreatDoorSa
import Derived.Test.YtbhfnmeojhpgbaaGreatDoorSb
import Derived.Test.YtbhfnmeojhpgbaaGreatDoorSc
import Derived.Test.YtbhfnmeojhpgbaaGreatDoorSd
import Derived.Test.YtbhfnmeojhpgbaaGreatDoorSk
import Derived.Test.YtbhfnmeojhpgbaaGreatDoorWa
set_option linter.all false
set_option linter.unusedVariables false
set_option linter.unusedSimpArgs false
set_option linter.unusedSectionVars false
namespace Go.Proofs.YtbhfnmeojhpgbaaGreatDoor
open Go Go.AM
/-! ### IdealChecks -/
abbrev tRws : Ty := .slice [tDids]
abbrev tOrd : Ty := .slice [tInts]
noncomputable abbrev xL : SX := .at (.v 0) (.v 2) 0
noncomputable abbrev paL : SX := .at (.app 26 [xL]) (k64 0) 0
noncomputable abbrev tmL (l : List (Nat × AV)) : List (Nat × AV) := (1, .sy tOrd (.v 1)) :: (20, .sy tRws (.v 0)) :: (21, .sy tI (.len (.v 0))) :: (22, .sy tI (.v 2)) :: l
noncomputable def TLi : Tmpl := { tm := tmL [(6, .sy tDids xL), (7, .sy tDids paL), (50, .sy tOrd (.v 1)), (51, .sy tI (.len (.v 1))), (52, .sy tI (.v 3))], src := [.tm 20 tRws, .tm 1 tOrd, .tm 22 tI, .tm 52 tI] }
noncomputable def YLi : Tmpl := { tm := tmL [], src := [.tm 20 tRws, .tm 1 tOrd, .tm 22 tI] }
noncomputable def SLi : StdL := { n := 84, T := TLi, tys := [tRws, tOrd, tI, tI], pre := [(lss (.v 2) (k64 0), false), (lss (.v 2) (.len (.v 0)), true), (eql (.v 3) (k64 0), true)], f := 133, keep := [0, 1, 2], yes := (.exit 2, YLi, 0) }
noncomputable def TLo : Tmpl := { tm := tmL [], src := [.tm 20 tRws, .tm 1 tOrd, .tm 22 tI] }
noncomputable def SLo : StdL := { n := 84, T := TLo, tys := [tRws, tOrd, tI], pre := [(eql (.v 2) (k64 0), true)], f := 133, yes := (.exit 0, Y0, 0) }
noncomputable abbrev codeLo : Code := loopAt 3 0
noncomputable def codeLi : Code := (loopsIn codeLo).getD 0 .skip
noncomputable abbrev entL : List Ent := [ePa, eCk, eWo, ePl, eOrd, eRo]
theorem entL_ok : EntsOK Tryz.prog G theI entL := ⟨ePa_ok.1, eCk_ok.1, eWo_ok.1, ePl_ok.1, eOrd_ok.1, eRo_ok.1, trivial⟩
noncomputable abbrev plL : SX := .at (.app 27 [.at (.v 1) (.v 3) 0]) (k64 0) 0
noncomputable def rLi : RPln :=
  .ask (lss (.v 3) (.len (.v 1)))
    (knowR [(lss (.v 3) (k64 0), false), (lss (.v 2) (k64 0), false), (lss (.v 2) (.len (.v 0)), true)]
      (.ask (eql (.v 3) (k64 4))
        (.exit true [.v 0, .v 1, .v 2])
        (.know (lss (k64 1000) (.len plL)) false
          (.next [.v 0, .v 1, .v 2, add (.v 3) (k64 1)]))))
    (.exit true [.v 0, .v 1, .v 2])
theorem okLi : (SLi.ok && (planOK SLi rLi && checkRound SLi.L (roundS theI (entS entL) [] [] codeLi) [] rLi)) = true := by kernel_rfl
noncomputable def rLo : RPln :=
  .ask (lss (.v 2) (.len (.v 0)))
    (.know (lss (.v 2) (k64 0)) false
      (.ask (eql (.v 2) (k64 5))
        (.exit true [])
        (.next [.v 0, .v 1, add (.v 2) (k64 1)])))
    (.exit true [])
theorem okLo : (SLo.ok && (planOK SLo rLo && checkRound SLo.L (roundS theI (entS entL) [] [(14, SLi.L)] codeLo) [] rLo)) = true := by kernel_rfl
/-! the loops -/
def IsOrd (r : List DV) : Prop := ∃ o, r = [.list o]
def InvLi (ds : List DV) : Prop := ∃ x q i k, ds = [.list x, .list q, .int .i64 i, .int .i64 k] ∧ 0 ≤ i ∧ i < x.length ∧ 0 ≤ k ∧ k ≤ q.length ∧ q.length ≤ maxLen ∧ ∀ r ∈ q, IsOrd r
def muLi (ds : List DV) : Nat := (lD ds 1).length - (iD ds 3).toNat
theorem ord_is {r : List DV} (h : IsL [tInts] r) : IsOrd r := by
  simp only [IsL] at h
  obtain ⟨_, _, rfl, h1, rfl⟩ := h
  obtain ⟨o, rfl, _⟩ := Is.lst h1
  exact ⟨o, rfl⟩
theorem loopLi : LoopOK Tryz.prog G theI codeLi SLi.L := by
  refine loop_std (F := FT) (Inv := InvLi) (μ := muLi) (entS_ok entL_ok) (sub := []) trivial (lps := []) noLoops (fun _ => rfl) rLi okLi ?_ ?_
  · intro ds h hp
    simp only [SLi, IsL] at h
    obtain ⟨d0, _, rfl, h0, d1, _, rfl, h1, d2, _, rfl, h2, d3, _, rfl, h3, rfl⟩ := h
    obtain ⟨x, rfl, hx, _⟩ := Is.lst h0
    obtain ⟨q, rfl, hq, hr⟩ := Is.lst h1
    obtain ⟨i, rfl, _⟩ := h2.i64
    obtain ⟨k, rfl, _⟩ := h3.i64
    have p1 := hp (lss (.v 2) (k64 0), false) (by simp [SLi])
    have p2 := hp (lss (.v 2) (.len (.v 0)), true) (by simp [SLi])
    have p3 := hp (eql (.v 3) (k64 0), true) (by simp [SLi])
    have e0 : den (rhoOf theI [DV.list x, .list q, .int .i64 i, .int .i64 k]) (.v 0) = .list x := rfl
    have e2 : den (rhoOf theI [DV.list x, .list q, .int .i64 i, .int .i64 k]) (.v 2) = .int .i64 i := rfl
    have e3 : den (rhoOf theI [DV.list x, .list q, .int .i64 i, .int .i64 k]) (.v 3) = .int .i64 k := rfl
    rw [d_lss e2 (d_k .i64 0)] at p1
    rw [d_lss e2 (d_lenL e0)] at p2
    rw [d_eql e3 (d_k .i64 0)] at p3
    simp only [DV.bool.injEq, decide_eq_true_eq, decide_eq_false_iff_not] at p1 p2 p3
    exact ⟨x, q, i, k, rfl, by omega, by omega, by omega, by omega, hq, fun r h => ord_is (by simpa only [IsL] using hr r h)⟩
  · rintro ds ⟨x, q, i, k, rfl, hi0, hi1, hk0, hk1, hq, hr⟩
    have hmx := maxLen_lt
    generalize hR : rhoOf theI [DV.list x, .list q, .int .i64 i, .int .i64 k] = R
    have hI : R.I = theI := by rw [← hR]; rfl
    have e0 : den R (.v 0) = .list x := by rw [← hR]; rfl
    have e1 : den R (.v 1) = .list q := by rw [← hR]; rfl
    have e2 : den R (.v 2) = .int .i64 i := by rw [← hR]; rfl
    have e3 : den R (.v 3) = .int .i64 k := by rw [← hR]; rfl
    show goalR 3 FT _ _ R _ rLi
    unfold rLi
    refine r_ask (d_lss e3 (d_lenL e1)) (fun h => ?_) (fun h => ?_)
    · simp only [decide_eq_true_eq] at h
      have hkl : k.toNat < q.length := by omega
      obtain ⟨o, ho⟩ := hr _ (List.getElem_mem hkl)
      have dr : den R (.at (.v 1) (.v 3) 0) = .list o := by
        have := d_row e1 e3 hk0 hkl 0
        rw [ho] at this
        exact this
      have hpl : den R plL = .list (o.take 12) := by
        refine d_res (F := Fplaces) (by rw [hI]; rfl) ?_
        simp only [List.map_cons, List.map_nil, dr]
        rfl
      have hadd := d_add (R := R) e3 (d_k .i64 1) (by omega) (by omega)
      refine r_knows (l := [_, _, _]) (fun z hz => ?_) ?_
      · simp only [List.mem_cons, List.not_mem_nil, or_false] at hz
        rcases hz with rfl | rfl | rfl
        · rw [d_lss e3 (d_k .i64 0)]; simp; omega
        · rw [d_lss e2 (d_k .i64 0)]; simp; omega
        · rw [d_lss e2 (d_lenL e0)]; simp; omega
      · refine r_ask (d_eql e3 (d_k .i64 4)) (fun _ => rfl) (fun _ => r_know ?_ ?_)
        · rw [d_lss (d_k .i64 1000) (d_lenL hpl)]
          have : (o.take 12).length ≤ 12 := by rw [List.length_take]; omega
          simp only [DV.bool.injEq, decide_eq_false_iff_not]
          omega
        · have hτ : ([.v 0, .v 1, .v 2, add (.v 3) (k64 1)] : List SX).map (den R) = [.list x, .list q, .int .i64 i, .int .i64 (k + 1)] := by
            simp only [List.map_cons, List.map_nil, e0, e1, e2, hadd]
            rfl
          show InvLi _ ∧ muLi _ < muLi _ ∧ FT _ = FT _
          rw [hτ]
          refine ⟨⟨x, q, i, k + 1, rfl, hi0, hi1, by omega, by omega, hq, hr⟩, ?_, rfl⟩
          show q.length - (k + 1).toNat < q.length - k.toNat
          omega
    · rfl
def InvLo (ds : List DV) : Prop := ∃ x q i, ds = [.list x, .list q, .int .i64 i] ∧ 0 ≤ i ∧ i ≤ x.length ∧ x.length ≤ maxLen
theorem loopLo : LoopOK Tryz.prog G theI codeLo SLo.L := by
  refine loop_std (F := FT) (Inv := InvLo) (μ := muRs) (entS_ok entL_ok) (sub := []) trivial (lps := [(14, SLi.L)]) ?_ (fun _ => rfl) rLo okLo ?_ ?_
  · intro B hB L hL
    have h1 := lpsOf_mem hL
    simp only [List.mem_cons, List.not_mem_nil, or_false, Prod.mk.injEq] at h1
    have : loopsIn codeLo = [codeLi] := by kernel_rfl
    rw [this] at hB
    simp only [List.mem_cons, List.not_mem_nil, or_false] at hB
    rw [hB, h1.2]
    exact loopLi
  · intro ds h hp
    simp only [SLo, IsL] at h
    obtain ⟨d0, _, rfl, h0, d1, _, rfl, h1, d2, _, rfl, h2, rfl⟩ := h
    obtain ⟨x, rfl, hx, _⟩ := Is.lst h0
    obtain ⟨q, rfl, _⟩ := Is.lst h1
    obtain ⟨i, rfl, _⟩ := h2.i64
    have p1 := hp (eql (.v 2) (k64 0), true) (by simp [SLo])
    have e2 : den (rhoOf theI [DV.list x, .list q, .int .i64 i]) (.v 2) = .int .i64 i := rfl
    rw [d_eql e2 (d_k .i64 0)] at p1
    simp only [DV.bool.injEq, decide_eq_true_eq] at p1
    exact ⟨x, q, i, rfl, by omega, by omega, hx⟩
  · rintro ds ⟨x, q, i, rfl, hi0, hi1, hx⟩
    have hmx := maxLen_lt
    generalize hR : rhoOf theI [DV.list x, .list q, .int .i64 i] = R
    have e0 : den R (.v 0) = .list x := by rw [← hR]; rfl
    have e1 : den R (.v 1) = .list q := by rw [← hR]; rfl
    have e2 : den R (.v 2) = .int .i64 i := by rw [← hR]; rfl
    show goalR 0 FT _ _ R _ rLo
    unfold rLo
    refine r_ask (d_lss e2 (d_lenL e0)) (fun h => ?_) (fun h => rfl)
    simp only [decide_eq_true_eq] at h
    have hadd := d_add (R := R) e2 (d_k .i64 1) (by omega) (by omega)
    refine r_know (by rw [d_lss e2 (d_k .i64 0)]; simp; omega) (r_ask (d_eql e2 (d_k .i64 5)) (fun _ => rfl) (fun _ => ?_))
    have hτ : ([.v 0, .v 1, add (.v 2) (k64 1)] : List SX).map (den R) = [.list x, .list q, .int .i64 (i + 1)] := by
      simp only [List.map_cons, List.map_nil, e0, e1, hadd]
      rfl
    show InvLo _ ∧ muRs _ < muRs _ ∧ FT _ = FT _
    rw [hτ]
    refine ⟨⟨x, q, i + 1, rfl, by omega, by omega, hx⟩, ?_, rfl⟩
    show x.length - (i + 1).toNat < x.length - i.toNat
    omega
/-! the law -/
noncomputable def eWk : Ent := eFn 4 [] [.one .bool] [] 6
noncomputable def pLaw : Pln := .know (.at (.app 6 []) (k64 0) 0) true (.done [[.kb true]])
theorem kLaw : (hasB 3 && checkPlan [.one .bool] (runI theI (entS [eWk]) [(5, SLo.L)] [] 3 [.one tRws, .one tOrd]) [] pLaw) = true := by kernel_rfl
theorem fnLaw (hw : FnOK Tryz.prog G 4 [] [.one .bool] (fun _ => True) Ftrue) : FnOK Tryz.prog G 3 [.one tRws, .one tOrd] [.one .bool] (fun _ => True) Ftrue := by
  have hk := kLaw
  rw [Bool.and_eq_true] at hk
  have ents : EntsOK Tryz.prog G theI [eWk] := ⟨eFn_ok plainG (pre_true hw) (fun _ => rfl) [] (by kernel_rfl), trivial⟩
  refine fn_run (entS_ok ents) [(5, SLo.L)] [] (loops1 (by kernel_rfl) loopLo) hk.1 pLaw hk.2 fun ds h _ => ?_
  refine goal_know (d_res (F := Ftrue) rfl rfl) ?_
  rfl
end Go.Proofs.YtbhfnmeojhpgbaaGreatDoor
namespace Go.Proofs.YtbhfnmeojhpgbaaGreatDoor
open Go Go.AM
/-! ### wakes: the closed run as a contract -/
theorem io_ofW {w w' : World} (h1 : w'.os = w.os) (h2 : w'.output = w.output) : ioOf w' = ioOf w := by
  unfold ioOf; rw [h1, h2]
theorem upB_tab : ∀ n : Fin 256, upB (UInt8.ofNat n.val) = Lib.upperB (UInt8.ofNat n.val) := by decide +kernel
theorem upB_eq (b : UInt8) : upB b = Lib.upperB b := by
  have := upB_tab ⟨b.toNat, b.toNat_lt⟩
  simpa only [UInt8.ofNat_toNat] using this
theorem cmpB_eq : ∀ a b : List UInt8, cmpB a b = Lib.compareBytes a b
  | [], [] => rfl
  | [], _ :: _ => rfl
  | _ :: _, [] => rfl
  | a :: xs, b :: ys => by
    have hc : cmpB (a :: xs) (b :: ys) = bif Nat.beq a.toNat b.toNat then cmpB xs ys else bif Nat.blt a.toNat b.toNat then -1 else 1 := rfl
    have hd : Lib.compareBytes (a :: xs) (b :: ys) = if a.toNat < b.toNat then -1 else if b.toNat < a.toNat then 1 else Lib.compareBytes xs ys := rfl
    rw [hc, hd, cmpB_eq xs ys]
    by_cases h : a.toNat = b.toNat
    · have h1 : Nat.beq a.toNat b.toNat = true := by rw [Nat.beq_eq]; exact h
      rw [h1, if_neg (by omega), if_neg (by omega)]
      rfl
    · have h1 : Nat.beq a.toNat b.toNat = false := by rw [← Bool.not_eq_true, Nat.beq_eq]; exact h
      rw [h1]
      by_cases h2 : a.toNat < b.toNat
      · have h3 : Nat.blt a.toNat b.toNat = true := by simp only [Nat.blt, Nat.ble_eq]; omega
        rw [h3, if_pos h2]
        rfl
      · have h3 : Nat.blt a.toNat b.toNat = false := by rw [← Bool.not_eq_true]; simp only [Nat.blt, Nat.ble_eq]; omega
        rw [h3, if_neg h2, if_pos (by omega)]
        rfl
theorem spCmp_ok : @CallOK O0 Tryz.prog G (fun g args h => if g = 247 then spCmp args h else none) := by
  intro g args h av h' hs
  simp only at hs
  split at hs
  · rename_i e
    subst e
    refine ⟨hasB_ok (by kernel_rfl), fun m vs w hv hr hg => ?_⟩
    unfold spCmp at hs
    split at hs
    · rename_i a b
      cases hs
      simp only [VL, V] at hv
      obtain ⟨v, us, e1, rfl, u, us', rfl, rfl, rfl⟩ := hv
      have hvs : vs = #[.string a, .string b] := by apply Array.ext'; simpa using e1
      subst hvs
      refine (Tryz.strings_Compare a b w).mono ?_
      rintro e w' ⟨rfl, rfl⟩
      refine ⟨_, m, rfl, .refl m, ?_, hr⟩
      simp only [V]
      rw [cmpB_eq]
    · cases hs
  · cases hs
theorem spUp_ok : @CallOK O0 Tryz.prog G (fun g args h => if g = 234 then spUp args h else none) := by
  intro g args h av h' hs
  simp only at hs
  split at hs
  · rename_i e
    subst e
    refine ⟨hasB_ok (by kernel_rfl), fun m vs w hv hr hg => ?_⟩
    unfold spUp at hs
    split at hs
    · rename_i s
      split at hs
      · rename_i hc
        cases hs
        simp only [Bool.and_eq_true, List.all_eq_true, Nat.ble_eq] at hc
        simp only [VL, V] at hv
        obtain ⟨v, us, e1, rfl, rfl⟩ := hv
        have hvs : vs = #[.string s] := by apply Array.ext'; simpa using e1
        subst hvs
        refine (Tryz.strings_ToUpper_ascii s w (by omega) ?_).mono ?_
        · intro j b hb
          have := hc.1 b (List.mem_iff_getElem?.2 ⟨j, hb⟩)
          simp only [Nat.blt, Nat.ble_eq] at this
          omega
        · rintro e w' ⟨rfl, hb⟩
          refine ⟨_, m, rfl, .refl m, ?_, hr.grow hb.block (io_ofW hb.os hb.output)⟩
          simp only [V]
          have : s.data.toList.map upB = Lib.toUpperA s.data.toList := List.map_congr_left fun b _ => upB_eq b
          rw [this]
      · cases hs
    · cases hs
  · cases hs
theorem spec0_ok : @SpecOK O0 Tryz.prog G spec0 := by
  intro f sp h
  unfold spec0 at h
  split at h <;> cases h
  · exact spUp_ok
  · exact spCmp_ok
theorem tabK_ok : @CallOK O0 Tryz.prog G (fun g args h => if g = 197 then tabX keyTab args h else none) :=
  @tabX_ok O0 _ _ _ (@callA_ok O0 Tryz.prog G hmix hNum spec0 spec0_ok 1000000) plainG 197 keyTab fun r hr => List.all_eq_true.1 keyRun r hr
theorem spec1_ok : @SpecOK O0 Tryz.prog G spec1 := by
  intro f sp h
  unfold spec1 at h
  split at h <;> cases h
  · exact spUp_ok
  · exact spCmp_ok
  · exact tabK_ok
theorem tabN_ok : @CallOK O0 Tryz.prog G (fun g args h => if g = 182 then tabX nameTab args h else none) :=
  @tabX_ok O0 _ _ _ (@callA_ok O0 Tryz.prog G hmix hNum spec1 spec1_ok 1000000) plainG 182 nameTab fun r hr => List.all_eq_true.1 nameRun r hr
theorem tabB_ok : @CallOK O0 Tryz.prog G (fun g args h => if g = 143 then tabX blankTab args h else none) :=
  @tabX_ok O0 _ _ _ (@callA_ok O0 Tryz.prog G hmix hNum spec0 spec0_ok 1000000) plainG 143 blankTab fun r hr => List.all_eq_true.1 blankRun r hr
theorem spec2_ok : @SpecOK O0 Tryz.prog G spec2 := by
  intro f sp h
  unfold spec2 at h
  split at h <;> cases h
  · exact spUp_ok
  · exact spCmp_ok
  · exact tabK_ok
  · exact tabN_ok
theorem tabF_ok : @CallOK O0 Tryz.prog G (fun g args h => if g = 144 then tabX firstTab args h else none) :=
  @tabX_ok O0 _ _ _ (@callA_ok O0 Tryz.prog G hmix hNum spec2 spec2_ok 1000000) plainG 144 firstTab fun r hr => List.all_eq_true.1 firstRun r hr
theorem tabBl_ok : @CallOK O0 Tryz.prog G (fun g args h => if g = 86 then tabX blkTab args h else none) := by
  refine @tabX_ok O0 _ _ _ (@callA_ok O0 Tryz.prog G hmix hNum noSpec (noSpec_ok _) 1000000) plainG 86 blkTab fun r hr => ?_
  simp only [blkTab, List.mem_cons, List.not_mem_nil, or_false] at hr
  rcases hr with rfl | rfl | rfl | rfl
  · exact blkRun0
  · exact blkRun1
  · exact blkRun2
  · exact blkRun3
theorem spec3_ok : @SpecOK O0 Tryz.prog G spec3 := by
  intro f sp h
  unfold spec3 at h
  split at h <;> cases h
  · exact spUp_ok
  · exact spCmp_ok
  · exact tabK_ok
  · exact tabN_ok
  · exact tabF_ok
  · exact tabB_ok
  · exact tabBl_ok
theorem chk_ok : @CallOK O0 Tryz.prog G (fun g args h => if g = 92 then @callRec O0 Tryz.prog G spec3 1000000 9 92 args h else none) := by
  intro g args h av h' hs
  simp only at hs
  split at hs
  · rename_i e
    subst e
    exact @callRec_ok O0 Tryz.prog G spec3 hmix hNum spec3_ok 1000000 9 _ args h av h' hs
  · cases hs
theorem spec4_ok : @SpecOK O0 Tryz.prog G spec4 := by
  intro f sp h
  unfold spec4 at h
  split at h
  · obtain rfl := Option.some.inj h
    exact spUp_ok
  · obtain rfl := Option.some.inj h
    exact spCmp_ok
  · obtain rfl := Option.some.inj h
    exact tabK_ok
  · obtain rfl := Option.some.inj h
    exact tabN_ok
  · obtain rfl := Option.some.inj h
    exact tabF_ok
  · obtain rfl := Option.some.inj h
    exact tabB_ok
  · obtain rfl := Option.some.inj h
    exact tabBl_ok
  · obtain rfl := Option.some.inj h
    exact chk_ok
  · exact absurd h (by simp)
theorem isTrue_some {o : Out} (h : isTrue o = true) : ∃ hx, o = some (.sc (.bool true), hx) := by
  unfold isTrue at h
  split at h
  · exact ⟨_, rfl⟩
  · cases h
noncomputable def frz (w : World) : Env := Go.AM.frozen (Rho.mk (fun _ => DV.bool false) (fun _ _ => DV.bool false)) w
theorem wakes_some : ∃ hx, @callA O0 Tryz.prog G spec4 1000000 4 [] heap0 = some (.sc (.bool true), hx) := isTrue_some wakesRun
theorem VC_emono {m m' : Env} (hE : ∀ b o v, m.ecell b o = some v → m'.ecell b o = some v) {b : Nat} : ∀ {cs : List AV} {o : Nat}, (∀ c ∈ cs, ∃ u, c = AV.sc u) → VC m b o cs → VC m' b o cs
  | [], _, _, _ => by simp [VC]
  | c :: cs, o, hp, hv => by
    simp only [VC] at hv ⊢
    obtain ⟨⟨v, h1, h2⟩, h3⟩ := hv
    obtain ⟨u, rfl⟩ := hp c (by simp)
    exact ⟨⟨v, hE _ _ _ h1, by simpa [V] using h2⟩, VC_emono hE (fun c hc => hp c (List.mem_cons_of_mem _ hc)) h3⟩
theorem fnWakes : FnOK Tryz.prog G 4 [] [.one .bool] (fun _ => True) Ftrue := by
  obtain ⟨hx, hrun⟩ := wakes_some
  have hok := @callA_ok O0 Tryz.prog G hmix hNum spec4 spec4_ok 1000000 _ _ _ _ _ hrun
  refine ⟨hok.1, fun E ds vs w hE hr _ hg => ?_⟩
  simp only [RepArgs] at hr
  obtain ⟨rfl, hvs⟩ := hr
  have hvs : vs = #[] := by apply Array.ext'; simpa using hvs
  subst hvs
  have hEc : ∀ b o v, (envE E).ecell b o = some v → (frz w).ecell b o = some v := by
    intro b o v h
    unfold Env.ecell at *
    cases hb : (envE E).E b with
    | none => rw [hb] at h; simp at h
    | some x =>
      rw [hb] at h
      have : w.heap[b]? = some x := hE b x hb
      simp only [frz, Go.AM.frozen, this]
      exact h
  refine (hok.2 (frz w) #[] w (by simp [VL]) (HR.frozen _ w) (@GOK.mk O0 _ _ (fun g cs e => VC_emono hEc (plainG g cs e) (hg g cs e)) (noFacts_ok _))).mono ?_
  rintro e w' ⟨v, m', rfl, k1, k2, k3⟩
  simp only [V] at k2
  subst k2
  have old : ∀ b, b < w.heap.size → w'.heap[b]? = w.heap[b]? := by
    intro b hb
    have e1 : (frz w).E b = some w.heap[b] := Array.getElem?_eq_getElem hb
    rw [k3.E b _ (k1.E b _ e1), Array.getElem?_eq_getElem hb]
  refine ⟨_, E, rfl, ⟨fun _ _ h => h, fun b o h => ⟨?_, .inl h⟩, old, k3.io.trans k1.io⟩, [.bool true], rfl, .bool true, rfl, ?_⟩
  · have h1 := hE b o h
    rw [old b (Array.getElem?_eq_some_iff.1 h1).1]
    exact h1
  · simp only [Rep]
    exact ⟨true, rfl, rfl⟩
end Go.Proofs.YtbhfnmeojhpgbaaGreatDoor
