/-
  A part of the proof of IdealChecks (the machine on named data, and the contracts of the functions that the law reaches): I13 I14 I15.
-/
import Derived.Test.YtbhfnmeojhpgbaaGreatDoorKd
set_option linter.all false
set_option linter.unusedVariables false
set_option linter.unusedSimpArgs false
set_option linter.unusedSectionVars false
namespace Go.Proofs.YtbhfnmeojhpgbaaGreatDoor
open Go Go.AM
/-! ### the document's Order -/
noncomputable abbrev raX (k : Nat) : SX := .at (.app 127 [.v 1, .v 0, k64 0]) (k64 0) k
noncomputable abbrev rbX (k : Nat) : SX := .at (.app 128 [.v 1, .v 0, k64 0]) (k64 0) k
noncomputable abbrev rcX (k : Nat) : SX := .at (.app 129 [.v 1, .v 0, k64 0]) (k64 0) k
noncomputable def pRo : Pln :=
  (.ask (eql (ckR 1) (k64 0))
    (.ask (raX 0)
      (.ask (rbX 0)
        (.know (.app 140 [.v 1, .v 0]) true
          (.ask (rcX 0) (.done [[k64 0], [k64 0]]) (.done [[rcX 1], [k64 341]])))
        (.done [[rbX 1], [k64 341]]))
      (.done [[raX 1], [k64 2]]))
    (.done [[ckR 0], [ckR 1]]))
noncomputable abbrev lpsR : List (Nat × LoopSp) := [(6, SrA.L), (12, SrB.L), (18, SrC.L)]
theorem kRo : (hasB 10 && checkPlan [.one tI, .one tI] (runI theI (entS [eWo, eIn]) lpsR [] 10 [.one tDids, .one tInts]) [] pRo) = true := by kernel_rfl
set_option maxRecDepth 100000 in
theorem keyR : loopsIn (bodyOf 10) = [codeRA, codeRB, codeRC] ∧ key codeRA = 6 ∧ key codeRB = 12 ∧ key codeRC = 18 := ⟨by kernel_rfl, by kernel_rfl, by kernel_rfl, by kernel_rfl⟩
set_option maxRecDepth 100000 in
theorem lpsR_ok : LoopsAre theI 10 lpsR := by
  obtain ⟨h1, h2, h3, h4⟩ := keyR
  have hk : ∀ D ∈ loopsIn (bodyOf 10), (key D = 6 → D = codeRA) ∧ (key D = 12 → D = codeRB) ∧ (key D = 18 → D = codeRC) := by
    intro D hD
    rw [h1] at hD
    simp only [List.mem_cons, List.not_mem_nil, or_false] at hD
    rcases hD with hD | hD | hD
    · exact ⟨fun _ => hD, fun h => absurd (h2.symm.trans (hD ▸ h)) (by decide), fun h => absurd (h2.symm.trans (hD ▸ h)) (by decide)⟩
    · exact ⟨fun h => absurd (h3.symm.trans (hD ▸ h)) (by decide), fun _ => hD, fun h => absurd (h3.symm.trans (hD ▸ h)) (by decide)⟩
    · exact ⟨fun h => absurd (h4.symm.trans (hD ▸ h)) (by decide), fun h => absurd (h4.symm.trans (hD ▸ h)) (by decide), fun _ => hD⟩
  refine loopsCons (C := codeRA) h2 (fun D hD e => ?_) (loopsCons (C := codeRB) h3 (fun D hD e => ?_) (loopsCons (C := codeRC) h4 (fun D hD e => ?_) noLoops))
  · rw [(hk D hD).1 e]; exact loopRA
  · rw [(hk D hD).2.1 e]; exact loopRB
  · rw [(hk D hD).2.2 e]; exact loopRC
theorem fnRo : FnOK Tryz.prog G 10 [.one tDids, .one tInts] [.one tI, .one tI] (fun _ => True) Ford := by
  have hk := kRo
  rw [Bool.and_eq_true] at hk
  refine fn_run (entS_ok (l := [eWo, eIn]) ⟨eWo_ok.1, eIn_ok.1, trivial⟩) lpsR [] lpsR_ok hk.1 pRo hk.2 fun ds h _ => ?_
  obtain ⟨l, o, rfl, hl, hr, ho, hs⟩ := args_do h
  have hF : Ford [[DV.list l], [.list o]].flatten = [[.int .i64 (ordR l o).1], [.int .i64 (ordR l o).2]] := rfl
  rw [hF]
  clear h
  generalize hR : rhoOf theI [[DV.list l], [.list o]].flatten = R at *
  have hI : R.I = theI := by rw [← hR]; rfl
  have e0 : den R (.v 0) = .list l := by rw [← hR]; rfl
  have e1 : den R (.v 1) = .list o := by rw [← hR]; rfl
  have c0 : den R (ckR 0) = .int .i64 (chkA l).1 := by
    refine d_res (F := Fchk) (by rw [hI]; rfl) ?_
    simp only [List.map_cons, List.map_nil, e0]
    rfl
  have c1 : den R (ckR 1) = .int .i64 (chkA l).2 := by
    refine d_res (F := Fchk) (by rw [hI]; rfl) ?_
    simp only [List.map_cons, List.map_nil, e0]
    rfl
  have hm : ([.v 1, .v 0, k64 0] : List SX).map (den R) = [.list o, .list l, .int .i64 0] := by
    simp only [List.map_cons, List.map_nil, e0, e1]
    rfl
  have a0 := d_fl0 (R := R) (f := 127) (F := FrA) (by rw [hI]; rfl) hm
  have a1 := d_fl (R := R) (f := 127) (F := FrA) (by rw [hI]; rfl) hm 0
  have b0 := d_fl0 (R := R) (f := 128) (F := FrB) (by rw [hI]; rfl) hm
  have b1 := d_fl (R := R) (f := 128) (F := FrB) (by rw [hI]; rfl) hm 0
  have g0 := d_fl0 (R := R) (f := 129) (F := FrC) (by rw [hI]; rfl) hm
  have g1 := d_fl (R := R) (f := 129) (F := FrC) (by rw [hI]; rfl) hm 0
  rw [FrA_eq] at a0 a1
  rw [FrB_eq] at b0 b1
  rw [FrC_eq] at g0 g1
  simp only [Int.toNat_zero, List.drop_zero, List.take_zero, lastA] at a0 a1 b0 b1 g0 g1
  unfold pRo
  refine goal_ask (d_eql c1 (d_k .i64 0)) (fun hc => ?_) (fun hc => ?_)
  · have hc : (chkA l).2 = 0 := by simpa using hc
    have hord : ordR l o = match ordA o l.length [] 0 with
      | some i => ((i : Int), 2)
      | none => match tolB l o 0 with
        | some i => ((i : Int), 341)
        | none => match seqC l o 0 with
          | some k => (k, 341)
          | none => (0, 0) := by
      unfold ordR
      rw [if_neg (by rw [hc]; simp)]
      rfl
    refine goal_ask a0 (fun ha => ?_) (fun ha => ?_)
    · cases hA : ordA o l.length [] 0 with
      | some i => simp [hA] at ha
      | none =>
        simp only [hA] at hord
        refine goal_ask b0 (fun hb => goal_know (by rw [d140 hI e1 e0, ordA_in hA]) (goal_ask g0 (fun hg => ?_) (fun hg => ?_))) (fun hb => ?_)
        · cases hB : tolB l o 0 with
          | some i => simp [hB] at hb
          | none =>
            cases hC : seqC l o 0 with
            | some i => simp [hC] at hg
            | none =>
              simp only [hB, hC] at hord
              show _ = _
              rw [hord]
              rfl
        · cases hB : tolB l o 0 with
          | some i => simp [hB] at hb
          | none =>
            cases hC : seqC l o 0 with
            | none => simp [hC] at hg
            | some i =>
              simp only [hB, hC] at hord g1
              show _ = _
              rw [hord]
              simp only [List.map_cons, List.map_nil]
              rw [show den R (rcX 1) = _ from g1]
              rfl
        · cases hB : tolB l o 0 with
          | none => simp [hB] at hb
          | some i =>
            simp only [hB] at hord b1
            show _ = _
            rw [hord]
            simp only [List.map_cons, List.map_nil]
            rw [show den R (rbX 1) = _ from b1]
            rfl
    · cases hA : ordA o l.length [] 0 with
      | none => simp [hA] at ha
      | some i =>
        simp only [hA] at a1 hord
        show _ = _
        rw [hord]
        simp only [List.map_cons, List.map_nil]
        rw [show den R (raX 1) = _ from a1]
        rfl
  · have hc : ¬ (chkA l).2 = 0 := by simpa using hc
    have hord : ordR l o = chkA l := by
      unfold ordR
      rw [if_pos hc]
    show _ = _
    rw [hord]
    simp only [List.map_cons, List.map_nil, c0, c1]
noncomputable def eRo : Ent := eFn 10 [.one tDids, .one tInts] [.one tI, .one tI] [] 21
theorem eRo_ok : EntsOK Tryz.prog G theI [eRo] := ⟨eFn_ok plainG (pre_true fnRo) (fun _ => rfl) [] (by kernel_rfl), trivial⟩
end Go.Proofs.YtbhfnmeojhpgbaaGreatDoor
namespace Go.Proofs.YtbhfnmeojhpgbaaGreatDoor
open Go Go.AM
/-! ### the law's cuts: texts, orders -/
noncomputable def pTx : Pln :=
  (.ask (lss (k64 1000) (.len (.v 0)))
    (.ask (lss (.len (.v 0)) (k64 1025))
      (.done [[.cut (.v 0) (k64 0) (.len (.v 0))]])
      (.ask (lss (k64 1025) (.len (.v 0)))
        (.done [[.cut (.v 0) (k64 0) (k64 1025)]])
        (.done [[.cut (.v 0) (k64 0) (.len (.v 0))]])))
    (.ask (lss (.len (.v 0)) (k64 300))
      (.done [[.cut (.v 0) (k64 0) (.len (.v 0))]])
      (.ask (lss (k64 300) (.len (.v 0)))
        (.done [[.cut (.v 0) (k64 0) (k64 300)]])
        (.done [[.cut (.v 0) (k64 0) (.len (.v 0))]]))))
theorem kTx : (hasB 14 && checkPlan [.one .str] (runI theI (entS []) [] [] 14 [.one .str]) [] pTx) = true := by kernel_rfl
theorem fnTx : FnOK Tryz.prog G 14 [.one .str] [.one .str] (fun _ => True) Ftext := by
  have hk := kTx
  rw [Bool.and_eq_true] at hk
  refine fn_run (entS_ok (l := []) trivial) [] [] noLoops hk.1 pTx hk.2 fun ds h _ => ?_
  simp only [IsArgs, IsOne] at h
  obtain ⟨_, _, rfl, ⟨d, rfl, hd⟩, rfl⟩ := h
  obtain ⟨s, rfl, hs⟩ := Is.s hd
  have hF : Ftext [[DV.str s]].flatten = [[.str (cutT s)]] := rfl
  rw [hF]
  generalize hR : rhoOf theI [[DV.str s]].flatten = R
  have e0 : den R (.v 0) = .str s := by rw [← hR]; rfl
  have el := d_lens (R := R) e0
  have c1 : den R (.cut (.v 0) (k64 0) (.len (.v 0))) = .str (s.extract 0 s.size) := by
    show cutD (den R (.v 0)) (den R (k64 0)) (den R (.len (.v 0))) = _
    rw [e0, el]
    rfl
  have c2 : ∀ n : Nat, den R (.cut (.v 0) (k64 0) (k64 n)) = .str (s.extract 0 n) := by
    intro n
    show cutD (den R (.v 0)) (den R (k64 0)) (den R (k64 n)) = _
    rw [e0]
    rfl
  have fin : ∀ {x : SX} {t : ByteArray}, den R x = .str t → cutT s = t → goalPlan R [[.str (cutT s)]] (.done [[x]]) := by
    intro x t hx ht
    show _ = _
    simp only [List.map_cons, List.map_nil, hx, ht]
  unfold pTx
  refine goal_ask (d_lss (d_k .i64 1000) el) (fun h => ?_) (fun h => ?_)
  · have h : 1000 < s.size := by simp only [decide_eq_true_eq] at h; omega
    have hc : cutT s = s.extract 0 (min s.size 1025) := by unfold cutT; rw [if_pos h]
    refine goal_ask (d_lss el (d_k .i64 1025)) (fun h1 => fin c1 ?_) (fun h1 => goal_ask (d_lss (d_k .i64 1025) el) (fun h2 => fin (c2 1025) ?_) (fun h2 => fin c1 ?_))
    · have : s.size < 1025 := by simp only [decide_eq_true_eq] at h1; omega
      rw [hc, Nat.min_eq_left (by omega)]
    · have : 1025 < s.size := by simp only [decide_eq_true_eq] at h2; omega
      rw [hc, Nat.min_eq_right (by omega)]
    · have : s.size = 1025 := by simp only [decide_eq_false_iff_not] at h1 h2; omega
      rw [hc, Nat.min_eq_left (by omega)]
  · have h : ¬ 1000 < s.size := by simp only [decide_eq_false_iff_not] at h; omega
    have hc : cutT s = s.extract 0 (min s.size 300) := by unfold cutT; rw [if_neg h]
    refine goal_ask (d_lss el (d_k .i64 300)) (fun h1 => fin c1 ?_) (fun h1 => goal_ask (d_lss (d_k .i64 300) el) (fun h2 => fin (c2 300) ?_) (fun h2 => fin c1 ?_))
    · have : s.size < 300 := by simp only [decide_eq_true_eq] at h1; omega
      rw [hc, Nat.min_eq_left (by omega)]
    · have : 300 < s.size := by simp only [decide_eq_true_eq] at h2; omega
      rw [hc, Nat.min_eq_right (by omega)]
    · have : s.size = 300 := by simp only [decide_eq_false_iff_not] at h1 h2; omega
      rw [hc, Nat.min_eq_left (by omega)]
noncomputable def eTx : Ent := eFn 14 [.one .str] [.one .str] [] 24
theorem eTx_ok : EntsOK Tryz.prog G theI [eTx] := ⟨eFn_ok plainG (pre_true fnTx) (fun _ => rfl) [] (by kernel_rfl), trivial⟩
noncomputable abbrev cutN (x : SX) : SX := .cut (.v 0) (k64 0) x
noncomputable abbrev doneP (x : SX) : Pln := .know (lss (k64 1000000) (.len (cutN x))) false (.done [[cutN x]])
noncomputable def pPl : Pln :=
  (.ask (lss (.len (.v 0)) (k64 12))
    (doneP (.len (.v 0)))
    (.ask (lss (k64 12) (.len (.v 0)))
      (doneP (k64 12))
      (doneP (.len (.v 0)))))
theorem kPl : (hasB 9 && checkPlan [.one tInts] (runI theI (entS []) [] [] 9 [.one tInts]) [] pPl) = true := by kernel_rfl
theorem fnPl : FnOK Tryz.prog G 9 [.one tInts] [.one tInts] (fun _ => True) Fplaces := by
  have hk := kPl
  rw [Bool.and_eq_true] at hk
  refine fn_run (entS_ok (l := []) trivial) [] [] noLoops hk.1 pPl hk.2 fun ds h _ => ?_
  simp only [IsArgs, IsOne] at h
  obtain ⟨_, _, rfl, ⟨d, rfl, hd⟩, rfl⟩ := h
  obtain ⟨l, rfl, hl, _⟩ := Is.lst hd
  have hF : Fplaces [[DV.list l]].flatten = [[.list (l.take 12)]] := rfl
  rw [hF]
  generalize hR : rhoOf theI [[DV.list l]].flatten = R
  have e0 : den R (.v 0) = .list l := by rw [← hR]; rfl
  have el := d_lenL (R := R) e0
  have fin : ∀ {x : SX} {n : Nat}, den R x = .int .i64 n → l.take n = l.take 12 → goalPlan R [[.list (l.take 12)]] (doneP x) := by
    intro x n hx ht
    have hc : den R (cutN x) = .list (l.take 12) := by
      rw [show cutN x = .cut (.v 0) (k64 0) x from rfl, d_cut e0 hx]
      simp only [Int.toNat_natCast]
      rw [ht]
    refine goal_know (len_leL hc (by rw [List.length_take]; omega)) ?_
    show _ = _
    simp only [List.map_cons, List.map_nil, hc]
  unfold pPl
  refine goal_ask (d_lss el (d_k .i64 12)) (fun h1 => fin el ?_) (fun h1 => goal_ask (d_lss (d_k .i64 12) el) (fun h2 => fin (d_k .i64 12) rfl) (fun h2 => fin el ?_))
  · simp only [decide_eq_true_eq] at h1
    rw [List.take_of_length_le (Nat.le_refl _), List.take_of_length_le (by omega)]
  · simp only [decide_eq_false_iff_not] at h1 h2
    rw [List.take_of_length_le (Nat.le_refl _), List.take_of_length_le (by omega)]
noncomputable def ePl : Ent := eFn 9 [.one tInts] [.one tInts] [] 27
theorem ePl_ok : EntsOK Tryz.prog G theI [ePl] := ⟨eFn_ok plainG (pre_true fnPl) (fun _ => rfl) [] (by kernel_rfl), trivial⟩
/-! ### outcomes -/
noncomputable abbrev bRes (l : List AV) : Blk := newBlk 39 l
noncomputable def TRs : Tmpl := { tm := [(1, .ptr 0 0), (2, .ptr 1 0), (3, .own 7 [tRow] (.v 1)), (7, .sy tRows (.v 0)), (8, .sy tI (.len (.v 0))), (9, .sy tI (.v 2))], ob := [(0, bRes [.sy tI (.v 3), .sy tI (.v 4), .dead, .sy tI (.v 5)]), (1, bRes [.dead, .dead, .dead, .dead])], ow := [⟨7, 88, [tRow], .v 1⟩], src := [.tm 7 tRows, .own 0, .tm 9 tI, .cell 0 0 tI, .cell 0 1 tI, .cell 0 3 tI], osrc := [.tm 3 88 [tRow]] }
noncomputable def YRs : Tmpl := { tm := [(1, .ptr 0 0), (2, .ptr 1 0), (3, .sy tRows (.v 3))], ob := [(0, bRes [.sy tI (.v 0), .sy tI (.v 1), .dead, .sy tI (.v 2)]), (1, bRes [.dead, .dead, .dead, .dead])], src := [.cell 0 0 tI, .cell 0 1 tI, .cell 0 3 tI, .tm 3 tRows], isrc := [.tm 3 88 [tRow]] }
noncomputable def SRs : StdL := { n := 30, T := TRs, tys := [tRows, tRows, tI, tI, tI, tI], pre := [(eql (.v 2) (k64 0), true), (lss (k64 0) (.len (.v 1)), false)], f := 131, keep := [3, 4, 5], yes := (.exit 0, YRs, 1) }
noncomputable abbrev codeRs : Code := loopAt 15 0
noncomputable abbrev rowR : SX := .at (.v 0) (.v 2) 0
noncomputable abbrev cutX (x : SX) : SX := .cut rowR (k64 0) x
noncomputable abbrev nxRs (x : SX) : RPln := .know (lss (k64 1000000) (.len (cutX x))) false (.next [.v 0, .cat (.v 1) (.row [cutX x]), add (.v 2) (k64 1), .v 3, .v 4, .v 5])
noncomputable def rRs : RPln :=
  .ask (lss (.v 2) (.len (.v 0)))
    (knowR [(lss (.v 2) (k64 0), false), (lss (k64 1000000) (.len (.v 1)), false)]
      (.ask (lss (.v 2) (k64 20))
        (.ask (lss (.len rowR) (k64 8))
          (nxRs (.len rowR))
          (.ask (lss (k64 8) (.len rowR))
            (nxRs (k64 8))
            (nxRs (.len rowR))))
        (.next [.v 0, .v 1, add (.v 2) (k64 1), .v 3, .v 4, .v 5])))
    (.exit true [.v 3, .v 4, .v 5, .v 1])
theorem okRs : (SRs.ok && (planOK SRs rRs && checkRound SRs.L (roundS theI (entS []) [] [] codeRs) [] rRs)) = true := by kernel_rfl
def InvRs (ds : List DV) : Prop := ∃ l out i a b c, ds = [.list l, .list out, .int .i64 i, a, b, c] ∧ 0 ≤ i ∧ i ≤ l.length ∧ l.length ≤ maxLen ∧ out.length ≤ i ∧ out.length ≤ 20 ∧ ∀ r ∈ l, IsR r
def muRs (ds : List DV) : Nat := (lD ds 0).length - (iD ds 2).toNat
theorem FresL_eq (l out : List (List DV)) (i : Int) (a b c : DV) : FresL [.list l, .list out, .int .i64 i, a, b, c] = (true, [.list (out ++ ((l.take 20).drop i.toNat).map fun r => [.list ((lD r 0).take 8)])]) := rfl
theorem take_drop_cons {α : Type} {l : List α} {n i : Nat} (h : i < l.length) (hn : i < n) : (l.take n).drop i = l[i] :: (l.take n).drop (i + 1) := by
  have : i < (l.take n).length := by rw [List.length_take]; omega
  rw [List.drop_eq_getElem_cons this, List.getElem_take]
theorem loopRs : LoopOK Tryz.prog G theI codeRs SRs.L := by
  refine loop_std (F := FresL) (Inv := InvRs) (μ := muRs) (entS_ok (l := []) trivial) (sub := []) trivial (lps := []) noLoops (fun _ => rfl) rRs okRs ?_ ?_
  · intro ds h hp
    simp only [SRs, IsL] at h
    obtain ⟨d0, _, rfl, h0, d1, _, rfl, h1, d2, _, rfl, h2, a, _, rfl, _, b, _, rfl, _, c, _, rfl, _, rfl⟩ := h
    obtain ⟨l, rfl, hl, hr⟩ := h0.rows
    obtain ⟨out, rfl, _⟩ := Is.lst h1
    obtain ⟨i, rfl, _⟩ := h2.i64
    have p1 := hp (eql (.v 2) (k64 0), true) (by simp [SRs])
    have p2 := hp (lss (k64 0) (.len (.v 1)), false) (by simp [SRs])
    have e1 : den (rhoOf theI [DV.list l, .list out, .int .i64 i, a, b, c]) (.v 1) = .list out := rfl
    have e2 : den (rhoOf theI [DV.list l, .list out, .int .i64 i, a, b, c]) (.v 2) = .int .i64 i := rfl
    rw [d_eql e2 (d_k .i64 0)] at p1
    rw [d_lss (d_k .i64 0) (d_lenL e1)] at p2
    simp only [DV.bool.injEq, decide_eq_true_eq, decide_eq_false_iff_not] at p1 p2
    exact ⟨l, out, i, a, b, c, rfl, by omega, by omega, hl, by omega, by omega, hr⟩
  · rintro ds ⟨l, out, i, a, b, c, rfl, hi0, hi1, hl, ho1, ho2, hr⟩
    have hmx := maxLen_lt
    generalize hR : rhoOf theI [DV.list l, .list out, .int .i64 i, a, b, c] = R
    have e0 : den R (.v 0) = .list l := by rw [← hR]; rfl
    have e1 : den R (.v 1) = .list out := by rw [← hR]; rfl
    have e2 : den R (.v 2) = .int .i64 i := by rw [← hR]; rfl
    have e3 : den R (.v 3) = a := by rw [← hR]; rfl
    have e4 : den R (.v 4) = b := by rw [← hR]; rfl
    have e5 : den R (.v 5) = c := by rw [← hR]; rfl
    show goalR 3 FresL _ _ R _ rRs
    unfold rRs
    refine r_ask (d_lss e2 (d_lenL e0)) (fun h => ?_) (fun h => ?_)
    · simp only [decide_eq_true_eq] at h
      have hil : i.toNat < l.length := by omega
      obtain ⟨lv, hlv, _, _⟩ := hr _ (List.getElem_mem hil)
      have dr : den R rowR = .list lv := by
        have := d_row e0 e2 hi0 hil 0
        rw [hlv] at this
        exact this
      have el := d_lenL dr
      have hadd := d_add (R := R) e2 (d_k .i64 1) (by omega) (by omega)
      refine r_knows (l := [_, _]) (fun q hq => ?_) ?_
      · simp only [List.mem_cons, List.not_mem_nil, or_false] at hq
        rcases hq with rfl | rfl
        · rw [d_lss e2 (d_k .i64 0)]; simp; omega
        · exact len_leL e1 (by omega)
      · refine r_ask (d_lss e2 (d_k .i64 20)) (fun h1 => ?_) (fun h1 => ?_)
        · have h1 : i < 20 := by simpa using h1
          have step : ∀ {x : SX} {n : Nat}, den R x = .int .i64 n → lv.take n = lv.take 8 → goalR 3 FresL InvRs muRs R [.list l, .list out, .int .i64 i, a, b, c] (nxRs x) := by
            intro x n hx hn
            have hc : den R (cutX x) = .list (lv.take 8) := by
              rw [show cutX x = .cut rowR (k64 0) x from rfl, d_cut dr hx]
              simp only [Int.toNat_natCast]
              rw [hn]
            refine r_know (len_leL hc (by rw [List.length_take]; omega)) ?_
            have hcat : den R (.cat (.v 1) (.row [cutX x])) = .list (out ++ [[.list (lv.take 8)]]) := by
              show catD (den R (.v 1)) (den R (.row [cutX x])) = _
              rw [e1, show den R (.row [cutX x]) = .list [[den R (cutX x)]] from rfl, hc]
              rfl
            have hτ : ([.v 0, .cat (.v 1) (.row [cutX x]), add (.v 2) (k64 1), .v 3, .v 4, .v 5] : List SX).map (den R) = [.list l, .list (out ++ [[.list (lv.take 8)]]), .int .i64 (i + 1), a, b, c] := by
              simp only [List.map_cons, List.map_nil, e0, hadd, hcat, e3, e4, e5]
              rfl
            show InvRs _ ∧ muRs _ < muRs _ ∧ FresL _ = FresL _
            rw [hτ]
            refine ⟨⟨l, _, i + 1, a, b, c, rfl, by omega, by omega, hl, by simp; omega, by simp; omega, hr⟩, ?_, ?_⟩
            · show l.length - (i + 1).toNat < l.length - i.toNat
              omega
            · rw [FresL_eq, FresL_eq, toNat_succ hi0, take_drop_cons hil (n := 20) (by omega), hlv, List.map_cons, List.append_assoc]
              rfl
          refine r_ask (d_lss el (d_k .i64 8)) (fun h2 => step el ?_) (fun h2 => r_ask (d_lss (d_k .i64 8) el) (fun h3 => step (d_k .i64 8) rfl) (fun h3 => step el ?_))
          · simp only [decide_eq_true_eq] at h2
            rw [List.take_of_length_le (Nat.le_refl _), List.take_of_length_le (by omega)]
          · simp only [decide_eq_false_iff_not] at h2 h3
            rw [List.take_of_length_le (Nat.le_refl _), List.take_of_length_le (by omega)]
        · have h1 : ¬ i < 20 := by simpa using h1
          have hτ : ([.v 0, .v 1, add (.v 2) (k64 1), .v 3, .v 4, .v 5] : List SX).map (den R) = [.list l, .list out, .int .i64 (i + 1), a, b, c] := by
            simp only [List.map_cons, List.map_nil, e0, e1, hadd, e3, e4, e5]
            rfl
          show InvRs _ ∧ muRs _ < muRs _ ∧ FresL _ = FresL _
          rw [hτ]
          refine ⟨⟨l, _, i + 1, a, b, c, rfl, by omega, by omega, hl, by omega, by omega, hr⟩, ?_, ?_⟩
          · show l.length - (i + 1).toNat < l.length - i.toNat
            omega
          · rw [FresL_eq, FresL_eq, List.drop_eq_nil_of_le (by rw [List.length_take]; omega), List.drop_eq_nil_of_le (by rw [List.length_take]; omega)]
    · simp only [decide_eq_false_iff_not] at h
      show FresL _ = _
      rw [FresL_eq, List.drop_eq_nil_of_le (by rw [List.length_take]; omega)]
      simp only [List.map_nil, List.append_nil, List.drop_succ_cons, List.drop_zero, List.map_cons, e1]
noncomputable def pRs : Pln := .know (lss (k64 0) (.len .emp)) false (.done [[.v 0, .v 1, .at (.app 131 [.v 2, .emp, k64 0, .v 0, .v 1, .v 3]) (k64 0) 1, .v 3]])
theorem kRs : (hasB 15 && checkPlan [.agg tO] (runI theI (entS []) [(4, SRs.L)] [] 15 [.agg tO]) [] pRs) = true := by kernel_rfl
theorem fnRs : FnOK Tryz.prog G 15 [.agg tO] [.agg tO] (fun _ => True) Fres := by
  have hk := kRs
  rw [Bool.and_eq_true] at hk
  refine fn_run (entS_ok (l := []) trivial) [(4, SRs.L)] [] (loops1 (by kernel_rfl) loopRs) hk.1 pRs hk.2 fun ds h _ => ?_
  simp only [IsArgs, IsOne, IsL, tO] at h
  obtain ⟨_, _, rfl, ⟨a, _, rfl, h1, b, _, rfl, h2, d3, _, rfl, h3, c, _, rfl, h4, rfl⟩, rfl⟩ := h
  obtain ⟨l, rfl, _⟩ := h3.rows
  have hF : Fres [[a, b, DV.list l, c]].flatten = [[a, b, .list (cutRs l), c]] := rfl
  rw [hF]
  generalize hR : rhoOf theI [[a, b, DV.list l, c]].flatten = R
  have hI : R.I = theI := by rw [← hR]; rfl
  have e0 : den R (.v 0) = a := by rw [← hR]; rfl
  have e1 : den R (.v 1) = b := by rw [← hR]; rfl
  have e2 : den R (.v 2) = .list l := by rw [← hR]; rfl
  have e3 : den R (.v 3) = c := by rw [← hR]; rfl
  have hm : ([.v 2, .emp, k64 0, .v 0, .v 1, .v 3] : List SX).map (den R) = [.list l, .list [], .int .i64 0, a, b, c] := by
    simp only [List.map_cons, List.map_nil, e0, e1, e2, e3]
    rfl
  have f1 := d_fl (R := R) (f := 131) (F := FresL) (by rw [hI]; rfl) hm 0
  rw [FresL_eq] at f1
  simp only [Int.toNat_zero, List.drop_zero, List.nil_append] at f1
  refine goal_know rfl ?_
  show _ = _
  simp only [List.map_cons, List.map_nil, e0, e1, e3]
  rw [f1]
  rfl
noncomputable def eRs : Ent := eFn 15 [.agg tO] [.agg tO] [] 25
theorem eRs_ok : EntsOK Tryz.prog G theI [eRs] := ⟨eFn_ok plainG (pre_true fnRs) (fun _ => rfl) [] (by kernel_rfl), trivial⟩
end Go.Proofs.YtbhfnmeojhpgbaaGreatDoor
namespace Go.Proofs.YtbhfnmeojhpgbaaGreatDoor
open Go Go.AM
/-! ### the law's cuts: histories -/
noncomputable def TPa : Tmpl := { tm := [(3, .sy tI (.v 3)), (4, .own 7 tDid (.v 1)), (10, .sy tDids (.v 0)), (11, .sy tI (.len (.v 0))), (12, .sy tI (.v 2))], ow := [⟨7, 46, tDid, .v 1⟩], src := [.tm 10 tDids, .own 0, .tm 12 tI, .tm 3 tI], osrc := [.tm 4 46 tDid] }
noncomputable def YPa : Tmpl := { tm := [(4, .own 7 tDid (.v 0))], ow := [⟨7, 46, tDid, .v 0⟩], src := [.own 0], osrc := [.tm 4 46 tDid] }
noncomputable def SPa : StdL := { n := 36, T := TPa, tys := [tDids, tDids, tI, tI], pre := [(eql (.v 2) (k64 0), true), (lss (k64 0) (.len (.v 1)), false), (lss (k64 65) (.v 3), false)], f := 132, yes := (.exit 0, YPa, 1) }
noncomputable abbrev codePa : Code := loopAt 5 0
noncomputable abbrev pa (k : Nat) : SX := .at (.v 0) (.v 2) k
noncomputable abbrev paT : SX := .at (.app 24 [pa 2]) (k64 0) 0
noncomputable abbrev paR (k : Nat) : SX := .at (.app 25 [pa 5, pa 6, pa 7, pa 8]) (k64 0) k
noncomputable abbrev paRow : List SX := [pa 0, pa 1, paT, pa 3, pa 4, paR 0, paR 1, paR 2, paR 3]
noncomputable def rPa : RPln :=
  .ask (lss (.v 2) (.len (.v 0)))
    (knowR [(lss (.v 2) (k64 0), false), (lss (k64 1000000) (.len (.v 1)), false)]
      (.ask (lss (.v 2) (.v 3))
        (.next [.v 0, .cat (.v 1) (.row paRow), add (.v 2) (k64 1), .v 3])
        (.next [.v 0, .v 1, add (.v 2) (k64 1), .v 3])))
    (.exit true [.v 1])
theorem okPa : (SPa.ok && (planOK SPa rPa && checkRound SPa.L (roundS theI (entS [eTx, eRs]) [] [] codePa) [] rPa)) = true := by kernel_rfl
def InvPa (ds : List DV) : Prop := ∃ l out i n, ds = [.list l, .list out, .int .i64 i, .int .i64 n] ∧ 0 ≤ i ∧ i ≤ l.length ∧ l.length ≤ maxLen ∧ out.length ≤ i ∧ n ≤ 65 ∧ out.length ≤ 65 ∧ ∀ r ∈ l, IsL tDid r
theorem FpastL_eq (l out : List (List DV)) (i n : Int) : FpastL [.list l, .list out, .int .i64 i, .int .i64 n] = (true, [.list (out ++ ((l.take n.toNat).drop i.toNat).map cutDid)]) := rfl
theorem loopPa : LoopOK Tryz.prog G theI codePa SPa.L := by
  refine loop_std (F := FpastL) (Inv := InvPa) (μ := muRs) (entS_ok (l := [eTx, eRs]) ⟨eTx_ok.1, eRs_ok.1, trivial⟩) (sub := []) trivial (lps := []) noLoops (fun _ => rfl) rPa okPa ?_ ?_
  · intro ds h hp
    simp only [SPa, IsL] at h
    obtain ⟨d0, _, rfl, h0, d1, _, rfl, h1, d2, _, rfl, h2, d3, _, rfl, h3, rfl⟩ := h
    obtain ⟨l, rfl, hl, hr⟩ := Is.lst h0
    obtain ⟨out, rfl, _⟩ := Is.lst h1
    obtain ⟨i, rfl, _⟩ := h2.i64
    obtain ⟨n, rfl, _⟩ := h3.i64
    have p1 := hp (eql (.v 2) (k64 0), true) (by simp [SPa])
    have p2 := hp (lss (k64 0) (.len (.v 1)), false) (by simp [SPa])
    have p3 := hp (lss (k64 65) (.v 3), false) (by simp [SPa])
    have e1 : den (rhoOf theI [DV.list l, .list out, .int .i64 i, .int .i64 n]) (.v 1) = .list out := rfl
    have e2 : den (rhoOf theI [DV.list l, .list out, .int .i64 i, .int .i64 n]) (.v 2) = .int .i64 i := rfl
    have e3 : den (rhoOf theI [DV.list l, .list out, .int .i64 i, .int .i64 n]) (.v 3) = .int .i64 n := rfl
    rw [d_eql e2 (d_k .i64 0)] at p1
    rw [d_lss (d_k .i64 0) (d_lenL e1)] at p2
    rw [d_lss (d_k .i64 65) e3] at p3
    simp only [DV.bool.injEq, decide_eq_true_eq, decide_eq_false_iff_not] at p1 p2 p3
    exact ⟨l, out, i, n, rfl, by omega, by omega, hl, by omega, by omega, by omega, hr⟩
  · rintro ds ⟨l, out, i, n, rfl, hi0, hi1, hl, ho1, hn, ho2, hr⟩
    have hmx := maxLen_lt
    generalize hR : rhoOf theI [DV.list l, .list out, .int .i64 i, .int .i64 n] = R
    have hI : R.I = theI := by rw [← hR]; rfl
    have e0 : den R (.v 0) = .list l := by rw [← hR]; rfl
    have e1 : den R (.v 1) = .list out := by rw [← hR]; rfl
    have e2 : den R (.v 2) = .int .i64 i := by rw [← hR]; rfl
    have e3 : den R (.v 3) = .int .i64 n := by rw [← hR]; rfl
    show goalR 0 FpastL _ _ R _ rPa
    unfold rPa
    refine r_ask (d_lss e2 (d_lenL e0)) (fun h => ?_) (fun h => ?_)
    · simp only [decide_eq_true_eq] at h
      have hil : i.toNat < l.length := by omega
      have hrow := hr _ (List.getElem_mem hil)
      have dr := fun c => d_row e0 e2 hi0 hil c
      have hadd := d_add (R := R) e2 (d_k .i64 1) (by omega) (by omega)
      refine r_knows (l := [_, _]) (fun q hq => ?_) ?_
      · simp only [List.mem_cons, List.not_mem_nil, or_false] at hq
        rcases hq with rfl | rfl
        · rw [d_lss e2 (d_k .i64 0)]; simp; omega
        · exact len_leL e1 (by omega)
      · refine r_ask (d_lss e2 e3) (fun h1 => ?_) (fun h1 => ?_)
        · have h1 : i < n := by simpa using h1
          have hmap : paRow.map (den R) = cutDid l[i.toNat] := by
            obtain ⟨c, s, t, a, b, e, g, rs, k, hq, _⟩ := did_is hrow
            have dr' : ∀ c, den R (pa c) = (l[i.toNat]).getD c (.bool false) := dr
            rw [hq] at dr' ⊢
            have hT : den R paT = .str (cutT t) := by
              refine d_res (F := Ftext) (by rw [hI]; rfl) ?_
              simp only [List.map_cons, List.map_nil, dr']
              rfl
            have hO : ∀ j, den R (paR j) = (cutO [.int .i64 e, .int .i64 g, .list rs, .int .i64 k]).getD j (.bool false) := by
              intro j
              refine d_res (F := Fres) (by rw [hI]; rfl) ?_
              simp only [List.map_cons, List.map_nil, dr']
              rfl
            simp only [paRow, List.map_cons, List.map_nil, dr', hT, hO]
            rfl
          have hcat : den R (.cat (.v 1) (.row paRow)) = .list (out ++ [cutDid l[i.toNat]]) := by
            show catD (den R (.v 1)) (den R (.row paRow)) = _
            rw [e1, show den R (.row paRow) = .list [paRow.map (den R)] by simp only [den, denL_map], hmap]
            rfl
          have hτ : ([.v 0, .cat (.v 1) (.row paRow), add (.v 2) (k64 1), .v 3] : List SX).map (den R) = [.list l, .list (out ++ [cutDid l[i.toNat]]), .int .i64 (i + 1), .int .i64 n] := by
            rw [List.map_cons, List.map_cons, List.map_cons, List.map_cons, List.map_nil, e0, hadd, hcat, e3]
            rfl
          show InvPa _ ∧ muRs _ < muRs _ ∧ FpastL _ = FpastL _
          rw [hτ]
          refine ⟨⟨l, _, i + 1, n, rfl, by omega, by omega, hl, by simp; omega, hn, by simp; omega, hr⟩, ?_, ?_⟩
          · show l.length - (i + 1).toNat < l.length - i.toNat
            omega
          · rw [FpastL_eq, FpastL_eq, toNat_succ hi0, take_drop_cons hil (n := n.toNat) (by omega), List.map_cons, List.append_assoc]
            rfl
        · have h1 : ¬ i < n := by simpa using h1
          have hτ : ([.v 0, .v 1, add (.v 2) (k64 1), .v 3] : List SX).map (den R) = [.list l, .list out, .int .i64 (i + 1), .int .i64 n] := by
            simp only [List.map_cons, List.map_nil, e0, e1, hadd, e3]
            rfl
          show InvPa _ ∧ muRs _ < muRs _ ∧ FpastL _ = FpastL _
          rw [hτ]
          refine ⟨⟨l, _, i + 1, n, rfl, by omega, by omega, hl, by omega, hn, ho2, hr⟩, ?_, ?_⟩
          · show l.length - (i + 1).toNat < l.length - i.toNat
            omega
          · rw [FpastL_eq, FpastL_eq, List.drop_eq_nil_of_le (by rw [List.length_take]; omega), List.drop_eq_nil_of_le (by rw [List.length_take]; omega)]
    · simp only [decide_eq_false_iff_not] at h
      show FpastL _ = _
      rw [FpastL_eq, List.drop_eq_nil_of_le (by rw [List.length_take]; omega)]
      simp only [List.map_nil, List.append_nil, List.drop_zero, List.map_cons, e1]
noncomputable abbrev paX (n : Nat) : SX := .at (.app 132 [.v 0, .emp, k64 0, k64 n]) (k64 0) 1
noncomputable def pPa : Pln := .know (lss (k64 0) (.len .emp)) false (.ask (lss (k64 64) (.len (.v 0))) (.done [[paX 65]]) (.done [[paX 6]]))
theorem kPa : (hasB 5 && checkPlan [.one tDids] (runI theI (entS [eTx, eRs]) [(7, SPa.L)] [some (46, tDid)] 5 [.one tDids]) [] pPa) = true := by kernel_rfl
theorem fnPa : FnOK Tryz.prog G 5 [.one tDids] [.one tDids] (fun _ => True) Fpast := by
  have hk := kPa
  rw [Bool.and_eq_true] at hk
  refine fn_run (entS_ok (l := [eTx, eRs]) ⟨eTx_ok.1, eRs_ok.1, trivial⟩) [(7, SPa.L)] _ (loops1 (by kernel_rfl) loopPa) hk.1 pPa hk.2 fun ds h _ => ?_
  obtain ⟨l, rfl, hl, hr⟩ := arg_dids h
  have hF : Fpast [[DV.list l]].flatten = [[.list (pastL l)]] := rfl
  rw [hF]
  generalize hR : rhoOf theI [[DV.list l]].flatten = R
  have hI : R.I = theI := by rw [← hR]; rfl
  have e0 : den R (.v 0) = .list l := by rw [← hR]; rfl
  have f1 : ∀ n : Nat, den R (paX n) = .list ((l.take n).map cutDid) := by
    intro n
    have hm : ([.v 0, .emp, k64 0, k64 n] : List SX).map (den R) = [.list l, .list [], .int .i64 0, .int .i64 n] := by
      simp only [List.map_cons, List.map_nil, e0]
      rfl
    have f1 := d_fl (R := R) (f := 132) (F := FpastL) (by rw [hI]; rfl) hm 0
    rw [FpastL_eq] at f1
    simp only [Int.toNat_zero, List.drop_zero, List.nil_append, Int.toNat_natCast] at f1
    exact f1
  unfold pPa pastL
  refine goal_know rfl (goal_ask (d_lss (d_k .i64 64) (d_lenL e0)) (fun h => ?_) (fun h => ?_))
  · have : 64 < l.length := by simp only [decide_eq_true_eq] at h; omega
    rw [if_pos this]
    show _ = _
    simp only [List.map_cons, List.map_nil, f1]
  · have : ¬ 64 < l.length := by simp only [decide_eq_false_iff_not] at h; omega
    rw [if_neg this]
    show _ = _
    simp only [List.map_cons, List.map_nil, f1]
noncomputable def ePa : Ent := eFn 5 [.one tDids] [.one tDids] [] 26
theorem ePa_ok : EntsOK Tryz.prog G theI [ePa] := ⟨eFn_ok plainG (pre_true fnPa) (fun _ => rfl) [] (by kernel_rfl), trivial⟩
end Go.Proofs.YtbhfnmeojhpgbaaGreatDoor
