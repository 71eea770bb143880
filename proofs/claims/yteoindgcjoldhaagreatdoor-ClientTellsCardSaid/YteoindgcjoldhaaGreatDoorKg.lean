/-
  A part of the proof of ClientTells (the machine on named data, and the contracts of the functions that the law reaches): KfL Kw2 Kf21 Kf22.
-/
import Derived.Test.YteoindgcjoldhaaGreatDoorKa
import Derived.Test.YteoindgcjoldhaaGreatDoorWa
import Derived.Test.YteoindgcjoldhaaGreatDoorKc
import Derived.Test.YteoindgcjoldhaaGreatDoorKf
set_option linter.all false
set_option linter.unusedVariables false
set_option linter.unusedSimpArgs false
set_option linter.unusedSectionVars false
namespace Go.Proofs.YteoindgcjoldhaaGreatDoor
open Go Go.AM
/-! ### Known is what a search through all digests finds -/
theorem ix_mono {es : List (List DV)} (hs : sortedFrom es 0 = true) : ∀ (d i : Nat), i + d + 1 < es.length → ix es i < ix es (i + d + 1) := by
  have h1 : ∀ j : Nat, j + 1 < es.length → ix es j < ix es (j + 1) := by
    intro j hj
    unfold sortedFrom at hs
    have := of_decide_eq_true hs (j + 1) hj (by omega)
    rcases this with h | h
    · omega
    · simpa using h
  intro d
  induction d with
  | zero => intro i hi; exact h1 i hi
  | succ d ih =>
    intro i hi
    have := ih i (by omega)
    have h2 := h1 (i + d + 1) (by omega)
    rw [show i + (d + 1) + 1 = i + d + 1 + 1 by omega]
    omega
theorem ix_lt {es : List (List DV)} (hs : sortedFrom es 0 = true) {i j : Nat} (h : i < j) (hj : j < es.length) : ix es i < ix es j := by
  have := ix_mono hs (j - i - 1) i (by omega)
  rw [show i + (j - i - 1) + 1 = j by omega] at this
  exact this
theorem bs_spec {es : List (List DV)} (hs : sortedFrom es 0 = true) (t : Int) : ∀ (n : Nat) (i j : Int), 0 ≤ i → i ≤ j → j ≤ es.length → j - i ≤ n → (∀ k : Nat, (k : Int) < i → ix es k < t) → (∀ k : Nat, j ≤ (k : Int) → k < es.length → t ≤ ix es k) →
    0 ≤ bs es t n i j ∧ bs es t n i j ≤ es.length ∧ (∀ k : Nat, (k : Int) < bs es t n i j → ix es k < t) ∧ (∀ k : Nat, bs es t n i j ≤ (k : Int) → k < es.length → t ≤ ix es k)
  | 0, i, j, h0, h1, h2, h3, ha, hb => by
    have : i = j := by omega
    subst this
    exact ⟨h0, h2, ha, hb⟩
  | n + 1, i, j, h0, h1, h2, h3, ha, hb => by
    simp only [bs]
    by_cases hlt : i < j
    · rw [if_pos hlt]
      by_cases hc : ix es ((i + j) / 2).toNat < t
      · rw [if_pos hc]
        refine bs_spec hs t n _ _ (by omega) (by omega) h2 (by omega) (fun k hk => ?_) hb
        by_cases hk2 : (k : Int) < (i + j) / 2
        · have := ix_lt hs (i := k) (j := ((i + j) / 2).toNat) (by omega) (by omega)
          omega
        · have : k = ((i + j) / 2).toNat := by omega
          rw [this]; exact hc
      · rw [if_neg hc]
        refine bs_spec hs t n _ _ h0 (by omega) (by omega) (by omega) ha (fun k hk hk3 => ?_)
        by_cases hk2 : (i + j) / 2 < (k : Int)
        · have := ix_lt hs (i := ((i + j) / 2).toNat) (j := k) (by omega) (by omega)
          omega
        · have : k = ((i + j) / 2).toNat := by omega
          rw [this]; omega
    · rw [if_neg hlt]
      have : i = j := by omega
      subst this
      exact ⟨h0, h2, ha, hb⟩
theorem scan_false (n : Int) : ∀ (es : List (List DV)) (s : Bool × List DV), scanL false n es s = s
  | [], s => rfl
  | y :: l, s => by simp only [scanL, Bool.false_and, Bool.false_eq_true, if_false]; exact scan_false n l s
theorem scan_none (r : Bool) (n : Int) : ∀ (es : List (List DV)) (s : Bool × List DV), (∀ y ∈ es, iD y 0 ≠ n) → scanL r n es s = s
  | [], s, _ => rfl
  | y :: l, s, h => by
    simp only [scanL, decide_eq_false (h y (by simp)), Bool.and_false, Bool.false_eq_true, if_false]
    exact scan_none r n l s fun y hy => h y (by simp [hy])
theorem scan_app (r : Bool) (n : Int) : ∀ (es fs : List (List DV)) (s : Bool × List DV), scanL r n (es ++ fs) s = scanL r n fs (scanL r n es s)
  | [], _, s => rfl
  | y :: l, fs, s => by simp only [List.cons_append, scanL]; exact scan_app r n l fs _
theorem scan_mem (r : Bool) (n : Int) : ∀ (es : List (List DV)) (s : Bool × List DV), (scanL r n es s).2 = s.2 ∨ (scanL r n es s).2 ∈ es
  | [], s => .inl rfl
  | y :: l, s => by
    simp only [scanL]
    rcases scan_mem r n l (if r && decide (iD y 0 = n) then (true, y) else s) with h | h
    · by_cases hc : (r && decide (iD y 0 = n)) = true
      · rw [if_pos hc] at h ⊢; exact .inr (by rw [h]; simp)
      · rw [if_neg hc] at h ⊢; exact .inl h
    · exact .inr (List.mem_cons_of_mem _ h)
/-- KNOWN is what the search finds. -/
theorem known_law {row : List DV} {n : Int} {es : List (List DV)} (hl : row.length = 83) (he : row.getD 82 (.bool false) = .list es) :
    F14 (row ++ [.int .u64 n]) = [(scanL (cliD row) n es (false, zdig)).2, [.bool (scanL (cliD row) n es (false, zdig)).1]] := by
  have e1 : lD (row ++ [.int .u64 n]) 82 = es := by
    have : (row ++ [DV.int .u64 n]).getD 82 (.bool false) = .list es := by
      rw [← he]
      simp only [List.getD_eq_getElem?_getD, List.getElem?_append_left (show 82 < row.length by omega)]
    simp only [lD, this]
  have e2 : iD (row ++ [.int .u64 n]) 83 = n := by
    have : (row ++ [DV.int .u64 n]).getD 83 (.bool false) = .int .u64 n := by
      simp [List.getD_eq_getElem?_getD, hl]
    simp only [iD, this]
  have e3 : (row ++ [DV.int .u64 n]).take 83 = row := by rw [← hl]; simp
  have e4 : lD row 82 = es := by simp only [lD, he]
  simp only [F14, e1, e2, e3]
  cases hc : cliD row with
  | false => simp only [Bool.false_and, Bool.false_eq_true, if_false, scan_false]
  | true =>
    have hs : sortedFrom es 0 = true := by
      unfold cliD at hc
      simp only [Bool.and_eq_true] at hc
      rw [e4] at hc
      exact hc.2
    obtain ⟨g1, g2, g3, g4⟩ := bs_spec hs n es.length 0 es.length (by omega) (by omega) (by omega) (by omega) (fun k hk => by omega) (fun k hk hk2 => by omega)
    generalize bs es n es.length 0 es.length = b at *
    have hmemix : ∀ y ∈ es, ∃ k, k < es.length ∧ y = es.getD k [] := by
      intro y hy
      obtain ⟨k, hk, rfl⟩ := List.mem_iff_getElem.1 hy
      exact ⟨k, hk, by simp [List.getD_eq_getElem?_getD, List.getElem?_eq_getElem hk]⟩
    by_cases hb : b < es.length
    · by_cases hn : ix es b.toNat = n
      · have hlt : b.toNat < es.length := by omega
        have hsplit : es = es.take b.toNat ++ es.getD b.toNat [] :: es.drop (b.toNat + 1) := by
          have h3 : es.getD b.toNat [] = es[b.toNat] := by simp [List.getD_eq_getElem?_getD, List.getElem?_eq_getElem hlt]
          rw [h3, List.getElem_cons_drop]
          exact (List.take_append_drop _ _).symm
        have hsc : scanL true n es (false, zdig) = (true, es.getD b.toNat []) := by
          rw [hsplit, scan_app]
          have hix : iD (es.getD b.toNat []) 0 = n := hn
          rw [← hsplit]
          simp only [scanL, hix, decide_true, Bool.and_true, if_true]
          refine scan_none _ _ _ _ fun y hy => ?_
          obtain ⟨k, hk, rfl⟩ := List.mem_iff_getElem.1 hy
          rw [List.length_drop] at hk
          rw [List.getElem_drop]
          have h5 : ix es (b.toNat + 1 + k) = iD es[b.toNat + 1 + k] 0 := by
            simp [ix, List.getD_eq_getElem?_getD, List.getElem?_eq_getElem (show b.toNat + 1 + k < es.length by omega)]
          rw [← h5]
          have := ix_lt hs (i := b.toNat) (j := b.toNat + 1 + k) (by omega) (by omega)
          omega
        rw [hsc]
        simp [hb, hn]
      · have hsc : scanL true n es (false, zdig) = (false, zdig) := by
          refine scan_none _ _ _ _ fun y hy => ?_
          obtain ⟨k, hk, rfl⟩ := hmemix y hy
          show ix es k ≠ n
          intro h
          by_cases hk1 : (k : Int) < b
          · have := g3 k hk1; omega
          · have h6 := g4 b.toNat (by omega) (by omega)
            by_cases hk2 : k = b.toNat
            · rw [hk2] at h; exact hn h
            · have := ix_lt hs (i := b.toNat) (j := k) (by omega) hk
              omega
        rw [hsc]
        simp [hn]
    · have hsc : scanL true n es (false, zdig) = (false, zdig) := by
        refine scan_none _ _ _ _ fun y hy => ?_
        obtain ⟨k, hk, rfl⟩ := hmemix y hy
        show ix es k ≠ n
        have := g3 k (by omega)
        omega
      rw [hsc]
      simp [hb]
end Go.Proofs.YteoindgcjoldhaaGreatDoor
namespace Go.Proofs.YteoindgcjoldhaaGreatDoor
open Go Go.AM
/-! ### wakes: the closed run as a contract -/
noncomputable abbrev O0 : Orc := noFacts fun _ _ => .bool false
theorem upB_tab : ∀ n : Fin 256, upB (UInt8.ofNat n.val) = Lib.upperB (UInt8.ofNat n.val) := by decide +kernel
theorem upB_eq (b : UInt8) : upB b = Lib.upperB b := by
  have := upB_tab ⟨b.toNat, b.toNat_lt⟩
  simpa only [UInt8.ofNat_toNat] using this
theorem spUp_ok : @CallOK O0 Tryz.prog G (fun g args h => if g = 153 then spUp args h else none) := by
  intro g args h av h' hs
  simp only at hs
  split at hs
  · rename_i e
    subst e
    refine ⟨hasB_ok (by kernel_rfl), fun m vs w hv hr hg => ?_⟩
    unfold spUp at hs
    split at hs
    · rename_i s
      split at hs
      · rename_i hc
        cases hs
        simp only [Bool.and_eq_true, List.all_eq_true, Nat.ble_eq] at hc
        simp only [VL, V] at hv
        obtain ⟨v, us, e1, rfl, rfl⟩ := hv
        have hvs : vs = #[.string s] := by apply Array.ext'; simpa using e1
        subst hvs
        refine (Tryz.strings_ToUpper_ascii s w (by omega) ?_).mono ?_
        · intro j b hb
          have := hc.1 b (List.mem_iff_getElem?.2 ⟨j, hb⟩)
          simp only [Nat.blt, Nat.ble_eq] at this
          omega
        · rintro e w' ⟨rfl, hb⟩
          refine ⟨_, m, rfl, .refl m, ?_, hr.grow hb.block (io_of hb.os hb.output)⟩
          simp only [V]
          have : s.data.toList.map upB = Lib.toUpperA s.data.toList := List.map_congr_left fun b _ => upB_eq b
          rw [this]
      · cases hs
    · cases hs
  · cases hs
theorem wspec_ok : @SpecOK O0 Tryz.prog G spec := by
  intro f sp h
  unfold spec at h
  split at h <;> cases h
  · refine @tab_ok O0 _ _ _ (@callA_ok O0 Tryz.prog G hmix hNum noSpec (noSpec_ok _) 1000000) plainG 142 tab fun r hr => ?_
    simp only [tab, List.mem_cons, List.not_mem_nil, or_false] at hr
    rcases hr with rfl | rfl
    · exact TabRun.of_dig run0
    · exact TabRun.of_dig run1
  · exact spUp_ok
theorem isTrue_some {o : Out} (h : isTrue o = true) : ∃ hx, o = some (.sc (.bool true), hx) := by
  unfold isTrue at h
  split at h
  · exact ⟨_, rfl⟩
  · cases h
noncomputable def frz (w : World) : Env := Go.AM.frozen (Rho.mk (fun _ => DV.bool false) (fun _ _ => DV.bool false)) w
theorem wakes_some : ∃ hx, @callA O0 Tryz.prog G spec 1000000 6 [] heap0 = some (.sc (.bool true), hx) := isTrue_some wakesRun
theorem VC_emono {m m' : Env} (hE : ∀ b o v, m.ecell b o = some v → m'.ecell b o = some v) {b : Nat} : ∀ {cs : List AV} {o : Nat}, (∀ c ∈ cs, ∃ u, c = AV.sc u) → VC m b o cs → VC m' b o cs
  | [], _, _, _ => by simp [VC]
  | c :: cs, o, hp, hv => by
    simp only [VC] at hv ⊢
    obtain ⟨⟨v, h1, h2⟩, h3⟩ := hv
    obtain ⟨u, rfl⟩ := hp c (by simp)
    exact ⟨⟨v, hE _ _ _ h1, by simpa [V] using h2⟩, VC_emono hE (fun c hc => hp c (List.mem_cons_of_mem _ hc)) h3⟩
theorem fn6 : FnOK Tryz.prog G 6 [] [.one .bool] (fun _ => True) F6 := by
  obtain ⟨hx, hrun⟩ := wakes_some
  have hok := @callA_ok O0 Tryz.prog G hmix hNum spec wspec_ok 1000000 _ _ _ _ _ hrun
  refine ⟨hok.1, fun E ds vs w hE hr _ hg => ?_⟩
  simp only [RepArgs] at hr
  obtain ⟨rfl, hvs⟩ := hr
  have hvs : vs = #[] := by apply Array.ext'; simpa using hvs
  subst hvs
  have hEc : ∀ b o v, (envE E).ecell b o = some v → (frz w).ecell b o = some v := by
    intro b o v h
    unfold Env.ecell at *
    cases hb : (envE E).E b with
    | none => rw [hb] at h; simp at h
    | some x =>
      rw [hb] at h
      have : w.heap[b]? = some x := hE b x hb
      simp only [frz, Go.AM.frozen, this]
      exact h
  refine (hok.2 (frz w) #[] w (by simp [VL]) (HR.frozen _ w) (@GOK.mk O0 _ _ (fun g cs e => VC_emono hEc (plainG g cs e) (hg g cs e)) (noFacts_ok _))).mono ?_
  rintro e w' ⟨v, m', rfl, k1, k2, k3⟩
  simp only [V] at k2
  subst k2
  have old : ∀ b, b < w.heap.size → w'.heap[b]? = w.heap[b]? := by
    intro b hb
    have e1 : (frz w).E b = some w.heap[b] := Array.getElem?_eq_getElem hb
    rw [k3.E b _ (k1.E b _ e1), Array.getElem?_eq_getElem hb]
  refine ⟨_, E, rfl, ⟨fun _ _ h => h, fun b o h => ⟨?_, .inl h⟩, old, k3.io.trans k1.io⟩, [.bool true], rfl, .bool true, rfl, ?_⟩
  · have h1 := hE b o h
    rw [old b (Array.getElem?_eq_some_iff.1 h1).1]
    exact h1
  · simp only [Rep]
    exact ⟨true, rfl, rfl⟩
end Go.Proofs.YteoindgcjoldhaaGreatDoor
namespace Go.Proofs.YteoindgcjoldhaaGreatDoor
open Go Go.AM
/-! ### ClientTells itself: its callees, its loops -/
noncomputable def tTells : Sig := [.one (.slice tCli), .one (.slice [tI]), .one (.slice [tU64])]
noncomputable def sp5m (O : Orc) : FuncId → Option (List AV → AHeap → Out)
  | 6 => some (@symSp O [] [.one .bool] [] 6)
  | 7 => some (@symSp O [.agg tCli] [.agg tCli] [] 7)
  | 9 => some (@symSp O [.one tI] [.agg tCli, .one tI] [] 9)
  | 12 => some (@symSp O [.agg tCli] [.one tI] preC 12)
  | 14 => some (@symSp O [.agg tCli, .one tU64] [.agg tDig, .one .bool] pre14 14)
  | 15 => some (@symSp O [.agg tCli] [.one .bool] preC 15)
  | 16 => some (@symSp O [.agg tCli, .agg tCli] [.one .bool] [] 16)
  | 17 => some (@symSp O [.agg tCli, .agg tCli] [.one .bool] [] 17)
  | _ => none
noncomputable def T51 : Tmpl := ⟨[(0, .sy (.slice tCli) (.v 0)), (1, .sy (.slice [tI]) (.v 1)), (2, .sy (.slice [tU64]) (.v 2)), (27, .sy (.slice tCli) (.v 0)), (28, .sy tI (.len (.v 0))), (29, .sy tI (.v 3))], []⟩
noncomputable def rowCells (X : SX) : Nat → List Ty → Tr AV → Tr AV
  | _, [], t => t
  | k, ty :: l, t => (rowCells X (k + 1) l t).put k (.sy ty (.at X (.ki .i64 (.ofNat 0)) k))
noncomputable def rowS (X : SX) (n : Nat) : List SX := (List.range n).map fun k => .at X (.ki .i64 (.ofNat 0)) k
noncomputable def blkR (ty : Nat) (X : SX) (ts : List Ty) : Blk := { t := ty, row := false, sz := 1, n := ts.length, z := [.dead], c := rowCells X 0 ts .nil }
noncomputable def tm51 : List (Nat × AV) := [(0, .sy (.slice tCli) (.v 0)), (1, .sy (.slice [tI]) (.v 1)), (2, .sy (.slice [tU64]) (.v 2)), (27, .sy (.slice tCli) (.v 0)), (28, .sy tI (.len (.v 0))), (29, .sy tI (.v 3))]
noncomputable def rightS : SX := .at (.app 15 (rowS (.v 4) 83)) (.ki .i64 (.ofNat 0)) 0
noncomputable def T52 : Tmpl := ⟨tm51 ++ [(9, .ptr 1000008 0), (11, .sy .bool rightS), (74, .sy (.slice [tU64]) (.v 2)), (75, .sy tI (.len (.v 2))), (76, .sy tI (.v 5))], [(1000008, blkR 34 (.v 4) tCli)]⟩
noncomputable def okX (n : Nat) (X x : SX) : Bool := varsLt n x || (match x with
  | .at e i _ => eqSX e X && varsLt n i
  | _ => false)
theorem okX_den {n : Nat} {X x : SX} {R1 R2 : Rho} (h : okX n X x = true) (hρ : ∀ i, i < n → R1.ρ i = R2.ρ i) (hI : R1.I = R2.I) (hX : den R1 X = den R2 X) : den R1 x = den R2 x := by
  unfold okX at h
  rw [Bool.or_eq_true] at h
  rcases h with h | h
  · exact den_congr hρ hI x h
  · split at h
    · rename_i e i c
      rw [Bool.and_eq_true] at h
      have := eqSX_eq h.1
      subst this
      simp only [den, hX, den_congr hρ hI i h.2]
    · cases h
/-! #### The innermost loop: the search through all digests -/
noncomputable def esS : SX := .at (.v 4) (.ki .i64 (.ofNat 0)) 82
noncomputable def tm53 : List (Nat × AV) := tm51 ++ [(9, .ptr 1000008 0), (11, .sy .bool rightS), (74, .sy (.slice [tU64]) (.v 2)), (75, .sy tI (.len (.v 2))), (76, .sy tI (.v 5)),
  (14, .sy tU64 (.v 6)), (15, .ptr 2000009 0), (16, .sy .bool (.at (.v 7) (.ki .i64 (.ofNat 1)) 0)), (17, .ptr 2000010 0), (18, .sy .bool (.v 8))]
noncomputable def ob53 : List (Nat × Blk) := [(1000008, blkR 34 (.v 4) tCli), (2000009, blkR 29 (.v 7) tDig), (2000010, { t := 29, row := false, sz := 1, n := 65, z := [.dead], c := putCells 10 0 tDig .nil })]
noncomputable def T53 : Tmpl := ⟨tm53 ++ [(90, .sy (.slice tDig) esS), (91, .sy tI (.len esS)), (92, .sy tI (.v 9))], ob53⟩
noncomputable def Y53 : Tmpl := ⟨tm53, ob53⟩
noncomputable def A53 : List SX := esS :: rightS :: .v 6 :: .v 8 :: .v 9 :: vars 10 65
noncomputable def X53 : SX := .app 1005 A53
noncomputable def outs53 : List SX := [.v 0, .v 1, .v 2, .v 3, .v 4, .v 5, .v 6, .v 7, .at X53 (.ki .i64 (.ofNat 0)) 0, .v 9] ++ (List.range 65).map fun k => .at X53 (.ki .i64 (.ofNat 1)) k
noncomputable def L53 : LoopSp :=
  { n := 153, T := T53, src := [.tm 0 (.slice tCli), .tm 1 (.slice [tI]), .tm 2 (.slice [tU64]), .tm 29 tI, .row 1000008 0 tI, .tm 76 tI, .tm 14 tU64, .row 2000009 0 tU64, .tm 18 .bool, .tm 92 tI] ++ cellSrc 2000010 0 tDig,
    pre := [(.bin .lss (.v 9) zeroS, false), (.bin .lss (.len esS) (.v 9), false)], cnd := .kb true, yes := (.exit 4, Y53.sub outs53), no := (.exit 4, Y53.sub outs53) }
noncomputable def B51 : Code := loop1 5
noncomputable def B52 : Code := (loopsIn B51).headD .skip
noncomputable def B53 : Code := (loopsIn B52).headD .skip
noncomputable def run53 (facts : List (SX × Bool)) (s : St) : Run := @codeL (mkO facts theI) Tryz.prog G (sp5m (mkO facts theI)) 100 (fun _ => none) B53 s
noncomputable def j53 : SX := .bin .add (.v 9) (.ki .i64 (.ofNat 1))
noncomputable def f53x : List (SX × Bool) := [(.bin .lss (.v 9) (.len esS), false)]
noncomputable def f53i : List (SX × Bool) := [(.bin .lss (.v 9) (.len esS), true), (.bin .lss (.v 9) zeroS, false)]
noncomputable def eq53 : SX := .bin .eql (.at esS (.v 9) 0) (.v 6)
noncomputable def f53n : List (SX × Bool) := (rightS, false) :: f53i
noncomputable def f53e (b : Bool) : List (SX × Bool) := (rightS, true) :: (eq53, b) :: f53i
noncomputable def nx53 : List SX := [.v 0, .v 1, .v 2, .v 3, .v 4, .v 5, .v 6, .v 7, .v 8, j53] ++ vars 10 65
noncomputable def hit53 : List SX := [.v 0, .v 1, .v 2, .v 3, .v 4, .v 5, .v 6, .v 7, .kb true, j53] ++ (List.range 65).map fun k => .at esS (.v 9) k
theorem c53a : stepExit L53 Y53 (.exit 4) [] (run53 f53x (L53.T.st L53.n)) = true := by kernel_rfl
theorem c53b : stepNext L53 nx53 (run53 f53n (L53.T.st L53.n)) = true := by kernel_rfl
theorem c53c : stepNext L53 nx53 (run53 (f53e false) (L53.T.st L53.n)) = true := by kernel_rfl
theorem c53d : stepNext L53 hit53 (run53 (f53e true) (L53.T.st L53.n)) = true := by kernel_rfl
end Go.Proofs.YteoindgcjoldhaaGreatDoor
namespace Go.Proofs.YteoindgcjoldhaaGreatDoor
open Go Go.AM
theorem sp5m_ok (O : Orc) (hO : O.I = theI) : SpecOK Tryz.prog G (sp5m O) := by
  intro f sp h
  unfold sp5m at h
  split at h <;> cases h
  · exact spec_one fn6 fun ds => by rw [hO]; rfl
  · exact spec_one fn7 fun ds => by rw [hO]; rfl
  · exact spec_one fn9 fun ds => by rw [hO]; rfl
  · exact symSp_ok plainG (by rw [hO]; exact fn12) (fun ds => by rw [hO]; rfl) (by kernel_rfl)
  · exact symSp_ok plainG (by rw [hO]; exact fn14) (fun ds => by rw [hO]; rfl) (by kernel_rfl)
  · exact symSp_ok plainG (by rw [hO]; exact fn15) (fun ds => by rw [hO]; rfl) (by kernel_rfl)
  · exact spec_one fn16 fun ds => by rw [hO]; rfl
  · exact spec_one fn17 fun ds => by rw [hO]; rfl
theorem sx53 (b : Bool) : (L53.pick b).2.sxs.all (okX 8 X53) = true := by cases b <;> kernel_rfl
noncomputable def wanted (R : Rho) : List DV := (vars 10 65).map (den R)
theorem wanted_len (R : Rho) : (wanted R).length = 65 := by simp [wanted, vars]
def inv53 (R : Rho) : Prop := ∃ es r n s j, den R esS = .list es ∧ den R rightS = .bool r ∧ R.ρ 6 = .int .u64 n ∧ R.ρ 8 = .bool s ∧ R.ρ 9 = .int .i64 j ∧ 0 ≤ j ∧ j ≤ es.length ∧ Digs es ∧ Rows es
noncomputable def mu53 (R : Rho) : Nat := match den R esS, R.ρ 9 with
  | .list es, .int _ n => es.length - n.toNat
  | _, _ => 0
theorem noLoops53 : LoopsOK Tryz.prog G theI (fun _ => none) B53 := fun _ _ _ h => by cases h
theorem X53_den {R : Rho} {es : List (List DV)} {r s : Bool} {n j : Int} (hI : R.I = theI) (he : den R esS = .list es) (hr : den R rightS = .bool r) (h6 : R.ρ 6 = .int .u64 n) (h8 : R.ρ 8 = .bool s) (h9 : R.ρ 9 = .int .i64 j) :
    den R X53 = .list [[.bool (scanL r n (es.drop j.toNat) (s, wanted R)).1], (scanL r n (es.drop j.toNat) (s, wanted R)).2] := by
  have hl : A53.map (den R) = .list es :: .bool r :: .int .u64 n :: .bool s :: .int .i64 j :: wanted R := by
    simp only [A53, List.map_cons, he, hr, wanted]
    simp only [den, h6, h8, h9]
  simp only [X53, den, denL_map, hl, hI]
  show DV.list (F1005 _) = _
  have hw : (wanted R).take 65 = wanted R := by rw [List.take_of_length_le]; rw [wanted_len]; exact Nat.le_refl _
  simp only [F1005, lD, bD, iD, List.getD_cons_zero, List.getD_cons_succ, List.drop_succ_cons, List.drop_zero, hw]
theorem den_sub_lt {n : Nat} {R : Rho} {τ : List SX} {e : SX} (h : varsLt n e = true) (hτ : ∀ i, i < n → den R (τ.getD i (.v i)) = R.ρ i) : den (R.sub τ) e = den R e := den_congr (R1 := R.sub τ) (R2 := R) hτ rfl e h
theorem head8 {R : Rho} {l : List SX} : ∀ i, i < 8 → den R (([SX.v 0, .v 1, .v 2, .v 3, .v 4, .v 5, .v 6, .v 7] ++ l).getD i (.v i)) = R.ρ i := by
  intro i hi
  match i, hi with
  | 0, _ => rfl
  | 1, _ => rfl
  | 2, _ => rfl
  | 3, _ => rfl
  | 4, _ => rfl
  | 5, _ => rfl
  | 6, _ => rfl
  | 7, _ => rfl
theorem getD_vars {a n k : Nat} (h : k < n) (d : SX) : (vars a n).getD k d = .v (a + k) := by
  simp [vars, List.getD_eq_getElem?_getD, List.getElem?_range h]
theorem wanted_get (R : Rho) {k : Nat} (h : k < 65) : (wanted R).getD k (.bool false) = R.ρ (10 + k) := by
  simp [wanted, vars, List.getD_eq_getElem?_getD, List.getElem?_range h, den]
theorem wanted_nx (R : Rho) (a b : SX) : wanted (R.sub ([.v 0, .v 1, .v 2, .v 3, .v 4, .v 5, .v 6, .v 7, a, b] ++ vars 10 65)) = wanted R := by
  unfold wanted
  refine List.map_congr_left fun x hx => ?_
  simp only [vars, List.mem_map, List.mem_range] at hx
  obtain ⟨k, hk, rfl⟩ := hx
  show den R (([SX.v 0, .v 1, .v 2, .v 3, .v 4, .v 5, .v 6, .v 7, a, b] ++ vars 10 65).getD (10 + k) (.v (10 + k))) = _
  have : ([SX.v 0, .v 1, .v 2, .v 3, .v 4, .v 5, .v 6, .v 7, a, b] ++ vars 10 65).getD (10 + k) (.v (10 + k)) = .v (10 + k) := by
    rw [List.getD_eq_getElem?_getD, List.getElem?_append_right (by simp)]
    show ((vars 10 65)[10 + k - 10]?).getD _ = _
    rw [Nat.add_sub_cancel_left, ← List.getD_eq_getElem?_getD, getD_vars hk]
  rw [this]
theorem wanted_hit (R : Rho) (a b : SX) {es : List (List DV)} {j : Int} (he : den R esS = .list es) (h9 : R.ρ 9 = .int .i64 j) (hr : Rows es) (h0 : 0 ≤ j) (h : j < es.length) :
    wanted (R.sub ([.v 0, .v 1, .v 2, .v 3, .v 4, .v 5, .v 6, .v 7, a, b] ++ (List.range 65).map fun k => SX.at esS (.v 9) k)) = es.getD j.toNat [] := by
  have hm : es.getD j.toNat [] ∈ es := by
    have hlt' : j.toNat < es.length := by omega
    rw [List.getD_eq_getElem?_getD, List.getElem?_eq_getElem hlt']
    exact List.getElem_mem hlt'
  refine Eq.trans ?_ (row_cells (hr.2 _ hm).1)
  unfold wanted vars
  rw [List.map_map]
  refine List.map_congr_left fun k hk => ?_
  simp only [List.mem_range] at hk
  show den R (([SX.v 0, .v 1, .v 2, .v 3, .v 4, .v 5, .v 6, .v 7, a, b] ++ (List.range 65).map fun k => SX.at esS (.v 9) k).getD (10 + k) (.v (10 + k))) = _
  have : ([SX.v 0, .v 1, .v 2, .v 3, .v 4, .v 5, .v 6, .v 7, a, b] ++ (List.range 65).map fun k => SX.at esS (.v 9) k).getD (10 + k) (.v (10 + k)) = .at esS (.v 9) k := by
    rw [List.getD_eq_getElem?_getD, List.getElem?_append_right (by simp)]
    show (((List.range 65).map fun k => SX.at esS (.v 9) k)[10 + k - 10]?).getD _ = _
    rw [Nat.add_sub_cancel_left]
    simp [List.getElem?_range hk]
  rw [this]
  show atD (den R esS) (R.ρ 9) k = _
  simp only [he, h9, atD]
set_option maxRecDepth 100000 in
theorem lk53 : LoopOK Tryz.prog G theI B53 L53 := by
  refine loop_ind (spec := sp5m) hmix hNum sp5m_ok plainG 100 noLoops53 (by kernel_rfl) inv53 mu53 ?_ ?_
  · intro m a w hr hp
    obtain ⟨_, z2, _, _, _⟩ := hr
    have h0 := z2 90
    have h1 := z2 11
    have h2 := z2 14
    have h3 := z2 18
    have h4 := z2 92
    have e0 : ((L53.T.st L53.n).tm.get 90).getD (.sc undef) = .sy (.slice tDig) esS := by kernel_rfl
    have e1 : ((L53.T.st L53.n).tm.get 11).getD (.sc undef) = .sy .bool rightS := by kernel_rfl
    have e2 : ((L53.T.st L53.n).tm.get 14).getD (.sc undef) = .sy tU64 (.v 6) := by kernel_rfl
    have e3 : ((L53.T.st L53.n).tm.get 18).getD (.sc undef) = .sy .bool (.v 8) := by kernel_rfl
    have e4 : ((L53.T.st L53.n).tm.get 92).getD (.sc undef) = .sy tI (.v 9) := by kernel_rfl
    rw [e0] at h0
    rw [e1] at h1
    rw [e2] at h2
    rw [e3] at h3
    rw [e4] at h4
    simp only [V] at h0 h1 h2 h3 h4
    have hd0 := rep_rows h0
    obtain ⟨es, d0, hd0⟩ := hd0
    obtain ⟨es', d0', hd0'⟩ := rep_digs h0
    rw [d0] at d0'
    cases d0'
    simp only [Rep] at h1 h2 h3 h4
    obtain ⟨r, d1, _⟩ := h1
    obtain ⟨n, d2, _⟩ := h2
    obtain ⟨s, d3, _⟩ := h3
    obtain ⟨j, d4, _⟩ := h4
    have p1 := hp (.bin .lss (.v 9) zeroS, false) (List.mem_cons_self ..)
    have p2 := hp (.bin .lss (.len esS) (.v 9), false) (List.mem_cons_of_mem _ (List.mem_cons_self ..))
    have d4' : m.R.ρ 9 = .int .i64 j := d4
    simp only [den, d0, d4', lenD, zeroS, binD] at p1 p2
    simp at p1 p2
    exact ⟨es, r, n, s, j, d0, d1, d2, d3, d4, p1, p2, hd0', hd0⟩
  · rintro R hI ⟨es, r, n, s, j, he, hr, h6, h8, h9, g1, g2, hd, hrw⟩
    have hX := X53_den hI he hr h6 h8 h9
    have hlt1 : den R (.bin .lss (.v 9) (.len esS)) = .bool (decide (j < es.length)) := by simp only [den, he, h9, lenD, binD]
    have hneg : den R (.bin .lss (.v 9) zeroS) = .bool false := by simp only [den, h9, zeroS, binD]; simp; omega
    by_cases hlt : j < es.length
    · have hdrop : es.drop j.toNat = es.getD j.toNat [] :: es.drop (j + 1).toNat := by
        have hl : j.toNat < es.length := by omega
        rw [List.drop_eq_getElem_cons hl, show (j + 1).toNat = j.toNat + 1 by omega]
        simp [List.getD_eq_getElem?_getD, List.getElem?_eq_getElem hl]
      have hix : iD (es.getD j.toNat []) 0 = ix es j.toNat := rfl
      have hcell := digs_ix hd (j := j.toNat) (by omega)
      have heq : den R eq53 = .bool (decide (ix es j.toNat = n)) := by
        show binD .eql (atD (den R esS) (R.ρ 9) 0) (R.ρ 6) = _
        simp only [he, h9, h6, atD, hcell, binD]
        simp
      have hj : ∀ a l, (R.sub ([.v 0, .v 1, .v 2, .v 3, .v 4, .v 5, .v 6, .v 7, a, j53] ++ l)).ρ 9 = .int .i64 (j + 1) := by
        intro a l
        show den R j53 = _
        simp only [j53, den, h9, binD]
        show DV.int .i64 (IntKind.i64.wrap (j + 1)) = _
        rw [wrap_i64 (by omega) (by have := hd.1; omega)]
      have next : ∀ (a : SX) (l : List SX) (s' : Bool) facts, stepNext L53 ([.v 0, .v 1, .v 2, .v 3, .v 4, .v 5, .v 6, .v 7, a, j53] ++ l) (run53 facts (L53.T.st L53.n)) = true → (∀ q ∈ facts, den R q.1 = .bool q.2) → den R a = .bool s' →
          scanL r n (es.drop (j + 1).toNat) (s', wanted (R.sub ([.v 0, .v 1, .v 2, .v 3, .v 4, .v 5, .v 6, .v 7, a, j53] ++ l))) = scanL r n (es.drop j.toNat) (s, wanted R) → StepOK theI run53 L53 inv53 mu53 R := by
        intro a l s' facts hc hf ha hs
        have hh : ∀ i, i < 8 → (R.sub ([.v 0, .v 1, .v 2, .v 3, .v 4, .v 5, .v 6, .v 7, a, j53] ++ l)).ρ i = R.ρ i := fun i hi => head8 (l := a :: j53 :: l) i hi
        have he' : den (R.sub ([.v 0, .v 1, .v 2, .v 3, .v 4, .v 5, .v 6, .v 7, a, j53] ++ l)) esS = .list es := by
          rw [den_congr (R1 := R.sub _) (R2 := R) hh rfl esS (by kernel_rfl), he]
        have hr' : den (R.sub ([.v 0, .v 1, .v 2, .v 3, .v 4, .v 5, .v 6, .v 7, a, j53] ++ l)) rightS = .bool r := by
          rw [den_congr (R1 := R.sub _) (R2 := R) hh rfl rightS (by kernel_rfl), hr]
        have h6' := hh 6 (by omega)
        rw [h6] at h6'
        have hX' := X53_den (R := R.sub ([.v 0, .v 1, .v 2, .v 3, .v 4, .v 5, .v 6, .v 7, a, j53] ++ l)) hI he' hr' h6' ha (hj a l)
        rw [hs] at hX'
        refine StepOK.next _ facts hc hf ⟨es, r, n, s', j + 1, he', hr', h6', ha, hj a l, by omega, by omega, hd, hrw⟩ ?_ rfl fun b _ x hx => ?_
        · simp only [mu53, he', he, hj a l, h9]
          omega
        · exact okX_den (List.all_eq_true.1 (sx53 b) x hx) hh rfl (hX'.trans hX.symm)
      cases r with
      | false =>
        refine next (.v 8) (vars 10 65) s f53n c53b ?_ h8 ?_
        · intro q hq
          simp only [f53n, f53i, List.mem_cons, List.not_mem_nil, or_false] at hq
          rcases hq with rfl | rfl | rfl
          · exact hr
          · rw [hlt1]; simp [hlt]
          · exact hneg
        · rw [hdrop, wanted_nx]
          simp only [scanL, Bool.false_and, Bool.false_eq_true, if_false]
      | true =>
        by_cases hn : ix es j.toNat = n
        · refine next (.kb true) _ true (f53e true) c53d ?_ rfl ?_
          · intro q hq
            simp only [f53e, f53i, List.mem_cons, List.not_mem_nil, or_false] at hq
            rcases hq with rfl | rfl | rfl | rfl
            · exact hr
            · rw [heq]; simp [hn]
            · rw [hlt1]; simp [hlt]
            · exact hneg
          · rw [hdrop, wanted_hit R (.kb true) j53 he h9 hrw g1 hlt]
            simp only [scanL, hix, Bool.true_and, decide_eq_true hn, if_true]
        · refine next (.v 8) (vars 10 65) s (f53e false) c53c ?_ h8 ?_
          · intro q hq
            simp only [f53e, f53i, List.mem_cons, List.not_mem_nil, or_false] at hq
            rcases hq with rfl | rfl | rfl | rfl
            · exact hr
            · rw [heq]; simp [hn]
            · rw [hlt1]; simp [hlt]
            · exact hneg
          · rw [hdrop, wanted_nx]
            simp only [scanL, hix, Bool.true_and, decide_eq_false hn, Bool.false_eq_true, if_false]
    · have hdn : es.drop j.toNat = [] := List.drop_eq_nil_of_le (by omega)
      rw [hdn] at hX
      simp only [scanL] at hX
      refine StepOK.exit (T' := Y53) (e := .exit 4) (outs := outs53) (τ := []) (b := true) f53x c53a ?_ rfl rfl ?_
      · intro q hq
        simp only [f53x, List.mem_cons, List.not_mem_nil, or_false] at hq
        subst hq
        rw [hlt1]
        simp [hlt]
      · intro k
        show _ = R.ρ k
        by_cases hk : k < 8
        · exact head8 (l := .at X53 (.ki .i64 (.ofNat 0)) 0 :: .v 9 :: (List.range 65).map fun k => .at X53 (.ki .i64 (.ofNat 1)) k) k hk
        · by_cases hk8 : k = 8
          · subst hk8
            show atD (den R X53) (.int .i64 0) 0 = _
            rw [hX, h8]
            rfl
          · by_cases hk9 : k = 9
            · subst hk9; rfl
            · obtain ⟨i, rfl⟩ : ∃ i, k = 10 + i := ⟨k - 10, by omega⟩
              by_cases hi : i < 65
              · have : outs53.getD (10 + i) (.v (10 + i)) = .at X53 (.ki .i64 (.ofNat 1)) i := by
                  unfold outs53
                  rw [List.getD_eq_getElem?_getD, List.getElem?_append_right (by simp)]
                  show (((List.range 65).map fun k => SX.at X53 (.ki .i64 (.ofNat 1)) k)[10 + i - 10]?).getD _ = _
                  rw [Nat.add_sub_cancel_left]
                  simp [List.getElem?_range hi]
                rw [this, ← wanted_get R hi]
                show atD (den R X53) (.int .i64 1) i = _
                rw [hX]
                rfl
              · have : outs53.getD (10 + i) (.v (10 + i)) = .v (10 + i) := by
                  rw [List.getD_eq_getElem?_getD, List.getElem?_eq_none (by simp [outs53]; omega)]
                  rfl
                rw [this]
                rfl
end Go.Proofs.YteoindgcjoldhaaGreatDoor
