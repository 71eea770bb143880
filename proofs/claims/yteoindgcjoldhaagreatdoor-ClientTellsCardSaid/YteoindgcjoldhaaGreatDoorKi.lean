/-
  A part of the proof of ClientTells (the machine on named data, and the contracts of the functions that the law reaches): Kf27 Kf28.
-/
import Derived.Test.YteoindgcjoldhaaGreatDoorKh
set_option linter.all false
set_option linter.unusedVariables false
set_option linter.unusedSimpArgs false
set_option linter.unusedSectionVars false
namespace Go.Proofs.YteoindgcjoldhaaGreatDoor
open Go Go.AM
/-! #### The loop over numbers -/
noncomputable def B54 : Code := (loopsIn (bodyOf 5)).getD 1 .skip
noncomputable def T54 : Tmpl := ⟨[(115, .sy (.slice [tI]) (.v 0)), (116, .sy tI (.len (.v 0))), (117, .sy tI (.v 1))], []⟩
noncomputable def run54 (facts : List (SX × Bool)) (s : St) : Run := @codeL (mkO facts theI) Tryz.prog G (sp5m (mkO facts theI)) 100 (fun _ => none) B54 s
noncomputable def n54 : SX := .at (.v 0) (.v 1) 0
noncomputable def A9 : SX := .app 9 [n54]
noncomputable def er9 : SX := .at A9 (.ki .i64 (.ofNat 1)) 0
noncomputable def s54 (x : SX) : SX := top1 17 (rowS A9 83 ++ (x :: restS))
noncomputable def f54x : List (SX × Bool) := [(.bin .lss (.v 1) (.len (.v 0)), false)]
noncomputable def f54i : List (SX × Bool) := [(.bin .lss (.v 1) (.len (.v 0)), true), (.bin .lss (.v 1) zeroS, false)]
noncomputable def f54y : List (SX × Bool) := (.bin .eql (.v 1) (.ki .i64 (.ofNat 8)), true) :: f54i
noncomputable def f54a : List (SX × Bool) := (.bin .lss n54 (.ki .i64 (.ofNat 1)), true) :: (.bin .eql er9 (.ki .i64 (.ofNat 2)), true) :: (s54 (.ki .i64 (.ofNat 0)), true) :: (.bin .eql (.v 1) (.ki .i64 (.ofNat 8)), false) :: f54i
noncomputable def f54b : List (SX × Bool) := (.bin .lss n54 (.ki .i64 (.ofNat 1)), false) :: (.bin .lss (.ki .i64 (.ofNat 3)) n54, true) :: (.bin .eql er9 (.ki .i64 (.ofNat 2)), true) :: (s54 (.ki .i64 (.ofNat 0)), true) :: (.bin .eql (.v 1) (.ki .i64 (.ofNat 8)), false) :: f54i
noncomputable def f54c : List (SX × Bool) := (.bin .lss n54 (.ki .i64 (.ofNat 1)), false) :: (.bin .lss (.ki .i64 (.ofNat 3)) n54, false) :: (.bin .eql er9 zeroS, true) :: (s54 n54, true) :: (.bin .eql (.v 1) (.ki .i64 (.ofNat 8)), false) :: f54i
noncomputable def j54 : SX := .bin .add (.v 1) (.ki .i64 (.ofNat 1))
noncomputable def nx54 : List SX := [.v 0, j54]
noncomputable def Y54 : Tmpl := ⟨[], []⟩
noncomputable def L54 : LoopSp :=
  { n := 153, T := T54, src := [.tm 115 (.slice [tI]), .tm 117 tI],
    pre := [(.bin .lss (.v 1) zeroS, false), (.bin .lss (.len (.v 0)) (.v 1), false)], cnd := .kb true, yes := (.exit 6, Y54.sub []), no := (.exit 6, Y54.sub []) }
theorem c54a : stepExit L54 Y54 (.exit 6) [] (run54 f54x (L54.T.st L54.n)) = true := by kernel_rfl
theorem c54b : stepExit L54 Y54 (.exit 6) [] (run54 f54y (L54.T.st L54.n)) = true := by kernel_rfl
theorem c54c : stepNext L54 nx54 (run54 f54a (L54.T.st L54.n)) = true := by kernel_rfl
theorem c54d : stepNext L54 nx54 (run54 f54b (L54.T.st L54.n)) = true := by kernel_rfl
theorem c54e : stepNext L54 nx54 (run54 f54c (L54.T.st L54.n)) = true := by kernel_rfl
def I64s (fs : List (List DV)) : Prop := fs.length ≤ maxLen ∧ ∀ j, j < fs.length → ∃ z, (fs.getD j []).getD 0 (.bool false) = .int .i64 z
theorem rep_i64s {m : Env} {d : DV} {v : Value} (h : Rep m (.slice [tI]) d v) : ∃ fs, d = .list fs ∧ I64s fs := by
  simp only [Rep] at h
  obtain ⟨es, a, c, rfl, _, h3, h4, h5, h6⟩ := h
  refine ⟨es, rfl, h4, fun j hj => ?_⟩
  rcases h6 with h6 | ⟨b, o, _, h7⟩
  · have := h6
    omega
  · have := h7 j es[j] (List.getElem?_eq_getElem hj)
    simp only [RepL] at this
    obtain ⟨d, rest, v, hd, _, hr, _⟩ := this
    simp only [Rep] at hr
    obtain ⟨z, rfl, _⟩ := hr
    exact ⟨z, by simp [List.getD_eq_getElem?_getD, List.getElem?_eq_getElem hj, hd]⟩
theorem i64s_ix {es : List (List DV)} (h : I64s es) {j : Nat} (hj : j < es.length) : (es.getD j []).getD 0 (.bool false) = .int .i64 (ix es j) := by
  obtain ⟨z, hz⟩ := h.2 j hj
  rw [hz]
  simp only [ix, iD, hz]
def inv54 (R : Rho) : Prop := ∃ l k, R.ρ 0 = .list l ∧ I64s l ∧ R.ρ 1 = .int .i64 k ∧ 0 ≤ k ∧ k ≤ l.length
noncomputable def mu54 (R : Rho) : Nat := match R.ρ 0, R.ρ 1 with
  | .list fs, .int _ n => fs.length - n.toNat
  | _, _ => 0
theorem sx54 (b : Bool) : (L54.pick b).2.sxs.all (varsLt 1) = true := by cases b <;> kernel_rfl
theorem noLoops54 : LoopsOK Tryz.prog G theI (fun _ => none) B54 := fun _ _ _ h => by cases h
theorem restS_len : restS.length = 82 := by kernel_rfl
theorem restD_len : restD.length = 82 := by
  unfold restD
  rw [List.length_map, restS_len]
set_option maxRecDepth 100000 in
theorem lk54 : LoopOK Tryz.prog G theI B54 L54 := by
  refine loop_ind (spec := sp5m) hmix hNum sp5m_ok plainG 100 noLoops54 (by kernel_rfl) inv54 mu54 ?_ ?_
  · intro m a w hr hp
    obtain ⟨_, z2, _, z4, _⟩ := hr
    have h0 := z2 115
    have h1 := z2 117
    have e0 : ((L54.T.st L54.n).tm.get 115).getD (.sc undef) = .sy (.slice [tI]) (.v 0) := by kernel_rfl
    have e1 : ((L54.T.st L54.n).tm.get 117).getD (.sc undef) = .sy tI (.v 1) := by kernel_rfl
    rw [e0] at h0
    rw [e1] at h1
    simp only [V] at h0 h1
    obtain ⟨l, d0, hd0⟩ := rep_i64s h0
    simp only [Rep] at h1
    obtain ⟨k, d1, _⟩ := h1
    have p1 := hp (.bin .lss (.v 1) zeroS, false) (List.mem_cons_self ..)
    have p2 := hp (.bin .lss (.len (.v 0)) (.v 1), false) (List.mem_cons_of_mem _ (List.mem_cons_self ..))
    have d0' : m.R.ρ 0 = .list l := d0
    have d1' : m.R.ρ 1 = .int .i64 k := d1
    simp only [den, d0', d1', lenD, zeroS, binD] at p1 p2
    simp at p1 p2
    exact ⟨l, k, d0, hd0, d1, p1, p2⟩
  · rintro R hI ⟨l, k, h0, hl, h3, g1, g2⟩
    have hlt1 : den R (.bin .lss (.v 1) (.len (.v 0))) = .bool (decide (k < l.length)) := by simp only [den, h0, h3, lenD, binD]
    have hneg : den R (.bin .lss (.v 1) zeroS) = .bool false := by simp only [den, h3, zeroS, binD]; simp; omega
    have h8 : den R (.bin .eql (.v 1) (.ki .i64 (.ofNat 8))) = .bool (decide (k = 8)) := by simp only [den, h3, binD]; simp
    by_cases hlt : k < l.length
    · have hi : ∀ q ∈ f54i, den R q.1 = .bool q.2 := by
        intro q hq
        simp only [f54i, List.mem_cons, List.not_mem_nil, or_false] at hq
        rcases hq with rfl | rfl
        · rw [hlt1]; simp [hlt]
        · exact hneg
      by_cases h6 : k = 8
      · refine StepOK.exit (T' := Y54) (e := .exit 6) (outs := []) (τ := []) (b := true) f54y c54b ?_ rfl rfl (fun j => rfl)
        intro q hq
        simp only [f54y, List.mem_cons] at hq
        rcases hq with rfl | hq
        · rw [h8]; simp [h6]
        · exact hi q hq
      · have hcell := i64s_ix hl (j := k.toNat) (by omega)
        generalize ix l k.toNat = n at hcell
        have hn : den R n54 = .int .i64 n := by
          show atD (R.ρ 0) (R.ρ 1) 0 = _
          simp only [h0, h3, atD, hcell]
        have hA : den R A9 = .list (F9 [.int .i64 n]) := by
          simp only [A9, den, den.denL, hn, hI]
          rfl
        have hrest : restS.map (den R) = restD := rest_map R
        have h3' : (R.sub nx54).ρ 1 = .int .i64 (k + 1) := by
          show den R j54 = _
          simp only [j54, den, h3, binD]
          show DV.int .i64 (IntKind.i64.wrap (k + 1)) = _
          rw [wrap_i64 (by omega) (by have := hl.1; omega)]
        have h0' : (R.sub nx54).ρ 0 = .list l := h0
        have fin : ∀ facts, stepNext L54 nx54 (run54 facts (L54.T.st L54.n)) = true → (∀ q ∈ facts, den R q.1 = .bool q.2) → StepOK theI run54 L54 inv54 mu54 R := by
          intro facts hc hf
          refine StepOK.next nx54 facts hc hf ⟨l, k + 1, h0', hl, h3', by omega, by omega⟩ ?_ rfl ?_
          · simp only [mu54, h0', h0, h3', h3]
            omega
          · intro b _ x hx
            refine den_congr (n := 1) (R1 := R.sub nx54) (R2 := R) (fun i hi => ?_) rfl x (List.all_eq_true.1 (sx54 b) x hx)
            have : i = 0 := by omega
            subst this
            rfl
        have same : ∀ (x : SX) (z e : Int), den R x = .int .i64 z → F9 [.int .i64 n] = [.int .i64 z :: restD, [.int .i64 e]] → den R (s54 x) = .bool true ∧ den R er9 = .int .i64 e := by
          intro x z e hx hF
          rw [hF] at hA
          have hlen : (DV.int .i64 z :: restD).length = 83 := by simp [restD_len]
          refine ⟨?_, ?_⟩
          · have hc : (rowS A9 83 ++ (x :: restS)).map (den R) = (DV.int .i64 z :: restD) ++ (DV.int .i64 z :: restD) := by
              rw [List.map_append, rowS_den hA hlen, List.map_cons, hx, hrest]
            rw [s54, top1_den hI hc (F := F16) (fun _ => rfl)]
            show DV.bool (sameD _) = _
            rw [sameD_refl hlen]
          · show atD (den R A9) (.int .i64 1) 0 = _
            rw [hA]
            rfl
        have hiD : iD [.int .i64 n] 0 = n := rfl
        have h81 : den R (.bin .eql (.v 1) (.ki .i64 (.ofNat 8))) = .bool false := by rw [h8]; simp [h6]
        have l1 : den R (.bin .lss n54 (.ki .i64 (.ofNat 1))) = .bool (decide (n < 1)) := by simp only [den, hn, binD]; rfl
        have l3 : den R (.bin .lss (.ki .i64 (.ofNat 3)) n54) = .bool (decide (3 < n)) := by simp only [den, hn, binD]; rfl
        by_cases hn1 : n < 1
        · obtain ⟨q1, q2⟩ := same (.ki .i64 (.ofNat 0)) 0 2 rfl (by simp only [F9, hiD]; rw [if_neg (by omega)])
          refine fin _ c54c fun q hq => ?_
          simp only [f54a, List.mem_cons] at hq
          rcases hq with rfl | rfl | rfl | rfl | hq
          · rw [l1]; simp [hn1]
          · show binD .eql (den R er9) (.int .i64 2) = _
            rw [q2]; rfl
          · exact q1
          · exact h81
          · exact hi q hq
        · by_cases hn3 : 3 < n
          · obtain ⟨q1, q2⟩ := same (.ki .i64 (.ofNat 0)) 0 2 rfl (by simp only [F9, hiD]; rw [if_neg (by omega)])
            refine fin _ c54d fun q hq => ?_
            simp only [f54b, List.mem_cons] at hq
            rcases hq with rfl | rfl | rfl | rfl | rfl | hq
            · rw [l1]; simp [hn1]
            · rw [l3]; simp [hn3]
            · show binD .eql (den R er9) (.int .i64 2) = _
              rw [q2]; rfl
            · exact q1
            · exact h81
            · exact hi q hq
          · obtain ⟨q1, q2⟩ := same n54 n 0 hn (by simp only [F9, hiD]; rw [if_pos (by omega)])
            refine fin _ c54e fun q hq => ?_
            simp only [f54c, List.mem_cons] at hq
            rcases hq with rfl | rfl | rfl | rfl | rfl | hq
            · rw [l1]; simp [hn1]
            · rw [l3]; simp [hn3]
            · show binD .eql (den R er9) (.int .i64 0) = _
              rw [q2]; rfl
            · exact q1
            · exact h81
            · exact hi q hq
    · refine StepOK.exit (T' := Y54) (e := .exit 6) (outs := []) (τ := []) (b := true) f54x c54a ?_ rfl rfl (fun j => rfl)
      intro q hq
      simp only [f54x, List.mem_cons, List.not_mem_nil, or_false] at hq
      subst hq
      rw [hlt1]; simp [hlt]
end Go.Proofs.YteoindgcjoldhaaGreatDoor
namespace Go.Proofs.YteoindgcjoldhaaGreatDoor
open Go Go.AM
/-! ### ClientTells -/
noncomputable def lps5 : Nat → Option LoopSp := fun i => match Nat.beq i 5 with
  | true => some L51
  | false => match Nat.beq i 31 with
    | true => some L54
    | false => none
noncomputable def p5 : Pln := .ask (top1 6 []) (.done [[.kb true]]) (.done [[.kb false]])
noncomputable def F5 (_ : List DV) : List (List DV) := [[.bool true]]
theorem c5 : checkPlan [.one .bool] (fun facts => @callL (mkO facts theI) Tryz.prog G (sp5m (mkO facts theI)) 100 lps5 5 (mkArgs 0 tTells) heap0) [] p5 = true := by kernel_rfl
theorem two5 : (loopsIn (bodyOf 5)).length = 2 := by kernel_rfl
theorem key51 : key B51 = 5 := by kernel_rfl
theorem key54 : key B54 = 31 := by kernel_rfl
theorem lps5a : lps5 5 = some L51 := rfl
theorem lps5b : lps5 31 = some L54 := rfl
theorem two_mem {α : Type} {B x y d : α} (h : B ∈ [x, y]) : B = [x, y].headD d ∨ B = [x, y].getD 1 d := by
  simp only [List.mem_cons, List.not_mem_nil, or_false] at h
  exact h
theorem loops5 : LoopsOK Tryz.prog G theI lps5 (bodyOf 5) := by
  intro B hB L hL
  have h : B = B51 ∨ B = B54 := by
    unfold B51 B54 loop1
    have h2 := two5
    cases hl : loopsIn (bodyOf 5) with
    | nil => rw [hl] at hB; cases hB
    | cons x xs =>
      rw [hl] at hB h2
      cases xs with
      | nil => simp at h2
      | cons y ys =>
        have : ys = [] := List.length_eq_zero_iff.1 (Nat.succ.inj (Nat.succ.inj h2))
        subst this
        exact two_mem hB
  rcases h with h | h
  · rw [h, key51, lps5a] at hL
    rw [← Option.some.inj hL, h]
    exact lk51
  · rw [h, key54, lps5b] at hL
    rw [← Option.some.inj hL, h]
    exact lk54
set_option maxRecDepth 100000 in
theorem fn5 : FnOK Tryz.prog G 5 tTells [.one .bool] (fun _ => True) F5 := by
  refine fn_loops (spec := sp5m) (lps := lps5) sp5m_ok loops5 (by kernel_rfl) p5 c5 ?_
  intro E ds vs h _
  have h6 : den (rhoOf theI ds.flatten) (top1 6 []) = .bool true := top1_den (c := []) rfl rfl (F := F6) (fun _ => rfl)
  refine ⟨⟨_, h6⟩, fun _ => rfl, fun h => ?_⟩
  rw [h6] at h
  cases h
end Go.Proofs.YteoindgcjoldhaaGreatDoor
