/-
  A part of the proof of QuerySame (the machine on named data, and the contracts of the functions that the law reaches): Qf7.
-/
import Derived.Test.YtnacaggkeejodaaGreatDoorShelf
import Derived.Test.YtnacaggkeejodaaGreatDoorRa
import Derived.Test.YtnacaggkeejodaaGreatDoorRb
import Derived.Test.YtnacaggkeejodaaGreatDoorRc
import Derived.Test.YtnacaggkeejodaaGreatDoorWa
import Derived.Test.YtnacaggkeejodaaGreatDoorKa
set_option linter.all false
set_option linter.unusedVariables false
set_option linter.unusedSimpArgs false
set_option linter.unusedSectionVars false
namespace Go.Proofs.YtnacaggkeejodaaGreatDoor
open Go Go.AM
/-! ### wakes: the closed run as a contract -/
theorem io_of {w w' : World} (h1 : w'.os = w.os) (h2 : w'.output = w.output) : ioOf w' = ioOf w := by
  unfold ioOf; rw [h1, h2]
theorem upB_tab : ∀ n : Fin 256, upB (UInt8.ofNat n.val) = Lib.upperB (UInt8.ofNat n.val) := by decide +kernel
theorem upB_eq (b : UInt8) : upB b = Lib.upperB b := by
  have := upB_tab ⟨b.toNat, b.toNat_lt⟩
  simpa only [UInt8.ofNat_toNat] using this
theorem cmpB_eq : ∀ a b : List UInt8, cmpB a b = Lib.compareBytes a b
  | [], [] => rfl
  | [], _ :: _ => rfl
  | _ :: _, [] => rfl
  | a :: xs, b :: ys => by
    have hc : cmpB (a :: xs) (b :: ys) = bif Nat.beq a.toNat b.toNat then cmpB xs ys else bif Nat.blt a.toNat b.toNat then -1 else 1 := rfl
    have hd : Lib.compareBytes (a :: xs) (b :: ys) = if a.toNat < b.toNat then -1 else if b.toNat < a.toNat then 1 else Lib.compareBytes xs ys := rfl
    rw [hc, hd, cmpB_eq xs ys]
    by_cases h : a.toNat = b.toNat
    · have h1 : Nat.beq a.toNat b.toNat = true := by rw [Nat.beq_eq]; exact h
      rw [h1, if_neg (by omega), if_neg (by omega)]
      rfl
    · have h1 : Nat.beq a.toNat b.toNat = false := by rw [← Bool.not_eq_true, Nat.beq_eq]; exact h
      rw [h1]
      by_cases h2 : a.toNat < b.toNat
      · have h3 : Nat.blt a.toNat b.toNat = true := by simp only [Nat.blt, Nat.ble_eq]; omega
        rw [h3, if_pos h2]
        rfl
      · have h3 : Nat.blt a.toNat b.toNat = false := by rw [← Bool.not_eq_true]; simp only [Nat.blt, Nat.ble_eq]; omega
        rw [h3, if_neg h2, if_pos (by omega)]
        rfl
theorem spCmp_ok : @CallOK O0 Tryz.prog G (fun g args h => if g = 157 then spCmp args h else none) := by
  intro g args h av h' hs
  simp only at hs
  split at hs
  · rename_i e
    subst e
    refine ⟨hasB_ok (by kernel_rfl), fun m vs w hv hr hg => ?_⟩
    unfold spCmp at hs
    split at hs
    · rename_i a b
      cases hs
      simp only [VL, V] at hv
      obtain ⟨v, us, e1, rfl, u, us', rfl, rfl, rfl⟩ := hv
      have hvs : vs = #[.string a, .string b] := by apply Array.ext'; simpa using e1
      subst hvs
      refine (Tryz.strings_Compare a b w).mono ?_
      rintro e w' ⟨rfl, rfl⟩
      refine ⟨_, m, rfl, .refl m, ?_, hr⟩
      simp only [V]
      rw [cmpB_eq]
    · cases hs
  · cases hs
theorem spUp_ok : @CallOK O0 Tryz.prog G (fun g args h => if g = 141 then spUp args h else none) := by
  intro g args h av h' hs
  simp only at hs
  split at hs
  · rename_i e
    subst e
    refine ⟨hasB_ok (by kernel_rfl), fun m vs w hv hr hg => ?_⟩
    unfold spUp at hs
    split at hs
    · rename_i s
      split at hs
      · rename_i hc
        cases hs
        simp only [Bool.and_eq_true, List.all_eq_true, Nat.ble_eq] at hc
        simp only [VL, V] at hv
        obtain ⟨v, us, e1, rfl, rfl⟩ := hv
        have hvs : vs = #[.string s] := by apply Array.ext'; simpa using e1
        subst hvs
        refine (Tryz.strings_ToUpper_ascii s w (by omega) ?_).mono ?_
        · intro j b hb
          have := hc.1 b (List.mem_iff_getElem?.2 ⟨j, hb⟩)
          simp only [Nat.blt, Nat.ble_eq] at this
          omega
        · rintro e w' ⟨rfl, hb⟩
          refine ⟨_, m, rfl, .refl m, ?_, hr.grow hb.block (io_of hb.os hb.output)⟩
          simp only [V]
          have : s.data.toList.map upB = Lib.toUpperA s.data.toList := List.map_congr_left fun b _ => upB_eq b
          rw [this]
      · cases hs
    · cases hs
  · cases hs
theorem spec0_ok : @SpecOK O0 Tryz.prog G spec0 := by
  intro f sp h
  unfold spec0 at h
  split at h <;> cases h
  · exact spUp_ok
  · exact spCmp_ok
/-- A table, by the runs of its rows. -/
theorem tab_all {spec : FuncId → Option (List AV → AHeap → Out)} (hs : @SpecOK O0 Tryz.prog G spec) {f : FuncId} {tab : List (List AV × AV)} (h : tab.all (fun r => rowX (@callA O0 Tryz.prog G spec 1000000 f r.1 heap0) r.2) = true) :
    @CallOK O0 Tryz.prog G (fun g args h => if g = f then tabX tab args h else none) :=
  @tabX_ok O0 _ _ _ (@callA_ok O0 Tryz.prog G hmix hNum spec hs 1000000) plainG f tab fun r hr => List.all_eq_true.1 h r hr
theorem spec1_ok : @SpecOK O0 Tryz.prog G spec1 := by
  intro f sp h
  unfold spec1 at h
  split at h <;> cases h
  · exact spUp_ok
  · exact spCmp_ok
  · exact tab_all spec0_ok keyRun
theorem spec2_ok : @SpecOK O0 Tryz.prog G spec2 := by
  intro f sp h
  unfold spec2 at h
  split at h <;> cases h
  · exact spUp_ok
  · exact spCmp_ok
  · exact tab_all spec0_ok keyRun
  · exact tab_all spec1_ok nameRun
theorem spec3_ok : @SpecOK O0 Tryz.prog G spec3 := by
  intro f sp h
  unfold spec3 at h
  split at h <;> cases h
  · exact spUp_ok
  · exact spCmp_ok
  · exact tab_all spec0_ok keyRun
  · exact tab_all spec1_ok nameRun
  · exact tab_all spec2_ok firstRun
  · exact tab_all spec0_ok blankRun
  · exact tab_all spec0_ok checkRun
  · exact tab_all spec0_ok compRun
theorem isTrue_some {o : Out} (h : isTrue o = true) : ∃ hx, o = some (.sc (.bool true), hx) := by
  unfold isTrue at h
  split at h
  · exact ⟨_, rfl⟩
  · cases h
noncomputable def frz (w : World) : Env := Go.AM.frozen (Rho.mk (fun _ => DV.bool false) (fun _ _ => DV.bool false)) w
theorem wakes_some : ∃ hx, @callA O0 Tryz.prog G spec3 1000000 4 [] heap0 = some (.sc (.bool true), hx) := isTrue_some wakesRun
theorem VC_emono {m m' : Env} (hE : ∀ b o v, m.ecell b o = some v → m'.ecell b o = some v) {b : Nat} : ∀ {cs : List AV} {o : Nat}, (∀ c ∈ cs, ∃ u, c = AV.sc u) → VC m b o cs → VC m' b o cs
  | [], _, _, _ => by simp [VC]
  | c :: cs, o, hp, hv => by
    simp only [VC] at hv ⊢
    obtain ⟨⟨v, h1, h2⟩, h3⟩ := hv
    obtain ⟨u, rfl⟩ := hp c (by simp)
    exact ⟨⟨v, hE _ _ _ h1, by simpa [V] using h2⟩, VC_emono hE (fun c hc => hp c (List.mem_cons_of_mem _ hc)) h3⟩
theorem fnWakes : FnOK Tryz.prog G 4 [] [.one .bool] (fun _ => True) Ftrue := by
  obtain ⟨hx, hrun⟩ := wakes_some
  have hok := @callA_ok O0 Tryz.prog G hmix hNum spec3 spec3_ok 1000000 _ _ _ _ _ hrun
  refine ⟨hok.1, fun E ds vs w hE hr _ hg => ?_⟩
  simp only [RepArgs] at hr
  obtain ⟨rfl, hvs⟩ := hr
  have hvs : vs = #[] := by apply Array.ext'; simpa using hvs
  subst hvs
  have hEc : ∀ b o v, (envE E).ecell b o = some v → (frz w).ecell b o = some v := by
    intro b o v h
    unfold Env.ecell at *
    cases hb : (envE E).E b with
    | none => rw [hb] at h; simp at h
    | some x =>
      rw [hb] at h
      have : w.heap[b]? = some x := hE b x hb
      simp only [frz, Go.AM.frozen, this]
      exact h
  refine (hok.2 (frz w) #[] w (by simp [VL]) (HR.frozen _ w) (@GOK.mk O0 _ _ (fun g cs e => VC_emono hEc (plainG g cs e) (hg g cs e)) (noFacts_ok _))).mono ?_
  rintro e w' ⟨v, m', rfl, k1, k2, k3⟩
  simp only [V] at k2
  subst k2
  have old : ∀ b, b < w.heap.size → w'.heap[b]? = w.heap[b]? := by
    intro b hb
    have e1 : (frz w).E b = some w.heap[b] := Array.getElem?_eq_getElem hb
    rw [k3.E b _ (k1.E b _ e1), Array.getElem?_eq_getElem hb]
  refine ⟨_, E, rfl, ⟨fun _ _ h => h, fun b o h => ⟨?_, .inl h⟩, old, k3.io.trans k1.io⟩, [.bool true], rfl, .bool true, rfl, ?_⟩
  · have h1 := hE b o h
    rw [old b (Array.getElem?_eq_some_iff.1 h1).1]
    exact h1
  · simp only [Rep]
    exact ⟨true, rfl, rfl⟩
theorem fn3 : FnOK Tryz.prog G 3 [.agg tO, .agg tO] [.one .bool] (fun _ => True) Ftrue := fnLaw fnWakes
end Go.Proofs.YtnacaggkeejodaaGreatDoor
