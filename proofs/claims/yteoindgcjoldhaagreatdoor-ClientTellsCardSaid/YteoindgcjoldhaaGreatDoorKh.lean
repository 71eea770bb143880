/-
  A part of the proof of ClientTells (the machine on named data, and the contracts of the functions that the law reaches): Kf23 Kf24 Kf25 Kf26.
-/
import Derived.Test.YteoindgcjoldhaaGreatDoorKg
set_option linter.all false
set_option linter.unusedVariables false
set_option linter.unusedSimpArgs false
set_option linter.unusedSectionVars false
namespace Go.Proofs.YteoindgcjoldhaaGreatDoor
open Go Go.AM
/-! #### The loop over indexes -/
noncomputable def tm52 : List (Nat × AV) := tm51 ++ [(9, .ptr 1000008 0), (11, .sy .bool rightS)]
noncomputable def ob52 : List (Nat × Blk) := [(1000008, blkR 34 (.v 4) tCli)]
noncomputable def Y52 : Tmpl := ⟨tm52, ob52⟩
noncomputable def f52p : List (SX × Bool) := [(.bin .lss (.ki .i64 (.ofNat 1000)) (.len (.at (.v 4) (.ki .i64 (.ofNat 0)) 5)), false), (.bin .lss (.ki .i64 (.ofNat 1000000)) (.len esS), false)]
noncomputable def L52 : LoopSp :=
  { n := 153, T := T52, src := [.tm 0 (.slice tCli), .tm 1 (.slice [tI]), .tm 2 (.slice [tU64]), .tm 29 tI, .row 1000008 0 tI, .tm 76 tI],
    pre := (.bin .lss (.v 5) zeroS, false) :: (.bin .lss (.len (.v 2)) (.v 5), false) :: f52p, cnd := .kb true, yes := (.exit 2, Y52.sub []), no := (.exit 2, Y52.sub []) }
noncomputable def run52 (facts : List (SX × Bool)) (s : St) : Run := @codeL (mkO facts theI) Tryz.prog G (sp5m (mkO facts theI)) 100 (lp 21 L53) B52 s
noncomputable def nS52 : SX := .at (.v 2) (.v 5) 0
noncomputable def K52 : SX := .app 14 (rowS (.v 4) 83 ++ [nS52])
noncomputable def t52 : List SX := [.v 0, .v 1, .v 2, .v 3, .v 4, .v 5, nS52, K52, .kb false, zeroS] ++ zdigS
noncomputable def XS52 : SX := subst t52 X53
noncomputable def e52a : SX := .bin .eql (.at K52 (.ki .i64 (.ofNat 1)) 0) (.at XS52 (.ki .i64 (.ofNat 0)) 0)
noncomputable def e52b : SX := .all ((List.range 65).map fun k => .bin .eql (.at K52 (.ki .i64 (.ofNat 0)) k) (.at XS52 (.ki .i64 (.ofNat 1)) k))
noncomputable def f52x : List (SX × Bool) := [(.bin .lss (.v 5) (.len (.v 2)), false)]
noncomputable def f52i : List (SX × Bool) := [(.bin .lss (.v 5) (.len (.v 2)), true), (.bin .lss (.v 5) zeroS, false)]
noncomputable def f52y : List (SX × Bool) := (.bin .eql (.v 5) (.ki .i64 (.ofNat 6)), true) :: f52i
noncomputable def f52n : List (SX × Bool) := (e52a, true) :: (e52b, true) :: (.bin .eql (.v 5) (.ki .i64 (.ofNat 6)), false) :: (f52i ++ f52p)
noncomputable def j52 : SX := .bin .add (.v 5) (.ki .i64 (.ofNat 1))
noncomputable def nx52 : List SX := [.v 0, .v 1, .v 2, .v 3, .v 4, j52]
theorem c52a : stepExit L52 Y52 (.exit 2) [] (run52 f52x (L52.T.st L52.n)) = true := by kernel_rfl
theorem c52b : stepExit L52 Y52 (.exit 2) [] (run52 f52y (L52.T.st L52.n)) = true := by kernel_rfl
theorem c52c : stepNext L52 nx52 (run52 f52n (L52.T.st L52.n)) = true := by kernel_rfl
theorem one52 : (loopsIn B52).length = 1 := by kernel_rfl
theorem loopsB {B : Code} {k : Nat} {L : LoopSp} (h1 : (loopsIn B).length = 1) (h : LoopOK Tryz.prog G theI ((loopsIn B).headD .skip) L) : LoopsOK Tryz.prog G theI (lp k L) B := by
  intro B' hB L' hL
  unfold lp at hL
  have hB' : B' = (loopsIn B).headD .skip := by
    cases hl : loopsIn B with
    | nil => rw [hl] at hB; cases hB
    | cons x xs =>
      rw [hl] at h1 hB
      have : xs = [] := by simpa using h1
      subst this
      simpa using hB
  split at hL
  · cases hL; rw [hB']; exact h
  · cases hL
end Go.Proofs.YteoindgcjoldhaaGreatDoor
namespace Go.Proofs.YteoindgcjoldhaaGreatDoor
open Go Go.AM
def U64s (fs : List (List DV)) : Prop := fs.length ≤ maxLen ∧ ∀ j, j < fs.length → ∃ z, (fs.getD j []).getD 0 (.bool false) = .int .u64 z
theorem rep_u64s {m : Env} {d : DV} {v : Value} (h : Rep m (.slice [tU64]) d v) : ∃ fs, d = .list fs ∧ U64s fs := by
  simp only [Rep] at h
  obtain ⟨es, a, c, rfl, _, h3, h4, h5, h6⟩ := h
  refine ⟨es, rfl, h4, fun j hj => ?_⟩
  rcases h6 with h6 | ⟨b, o, _, h7⟩
  · have := h6
    omega
  · have := h7 j es[j] (List.getElem?_eq_getElem hj)
    simp only [RepL] at this
    obtain ⟨d, rest, v, hd, _, hr, _⟩ := this
    simp only [Rep] at hr
    obtain ⟨z, rfl, _⟩ := hr
    exact ⟨z, by simp [List.getD_eq_getElem?_getD, List.getElem?_eq_getElem hj, hd]⟩
theorem u64s_ix {es : List (List DV)} (h : U64s es) {j : Nat} (hj : j < es.length) : (es.getD j []).getD 0 (.bool false) = .int .u64 (ix es j) := by
  obtain ⟨z, hz⟩ := h.2 j hj
  rw [hz]
  simp only [ix, iD, hz]
noncomputable def crow (R : Rho) : List DV := (rowS (.v 4) 83).map (den R)
theorem crow_len (R : Rho) : (crow R).length = 83 := by simp [crow, rowS]
theorem crow_get (R : Rho) {k : Nat} (h : k < 83) : (crow R).getD k (.bool false) = den R (.at (.v 4) (.ki .i64 (.ofNat 0)) k) := by
  simp [crow, rowS, List.getD_eq_getElem?_getD, List.getElem?_range h]
theorem rightS_den {R : Rho} (hI : R.I = theI) : den R rightS = .bool (cliD (crow R)) := by
  simp only [rightS, den, denL_map, hI]
  rfl
def inv52 (R : Rho) : Prop := ∃ es fs k, den R esS = .list es ∧ Rows es ∧ Digs es ∧ R.ρ 2 = .list fs ∧ U64s fs ∧ R.ρ 5 = .int .i64 k ∧ 0 ≤ k ∧ k ≤ fs.length ∧ ∀ q ∈ f52p, den R q.1 = .bool q.2
noncomputable def mu52 (R : Rho) : Nat := match R.ρ 2, R.ρ 5 with
  | .list fs, .int _ n => fs.length - n.toNat
  | _, _ => 0
theorem sx52 (b : Bool) : (L52.pick b).2.sxs.all (varsLt 5) = true := by cases b <;> kernel_rfl
theorem f52p_lt : f52p.all (fun q => varsLt 5 q.1) = true := by kernel_rfl
theorem t52_lt {R : Rho} : ∀ i, i < 6 → (R.sub t52).ρ i = R.ρ i := by
  intro i hi
  match i, hi with
  | 0, _ => rfl
  | 1, _ => rfl
  | 2, _ => rfl
  | 3, _ => rfl
  | 4, _ => rfl
  | 5, _ => rfl
theorem nx52_lt {R : Rho} : ∀ i, i < 5 → (R.sub nx52).ρ i = R.ρ i := by
  intro i hi
  match i, hi with
  | 0, _ => rfl
  | 1, _ => rfl
  | 2, _ => rfl
  | 3, _ => rfl
  | 4, _ => rfl
theorem wanted_t52 (R : Rho) : wanted (R.sub t52) = zdig := by
  refine Eq.trans ?_ (zdig_den R)
  unfold wanted vars
  refine List.ext_getElem (by simp [zdigS]) fun i h1 h2 => ?_
  have hi : i < 65 := by simpa using h1
  rw [List.getElem_map, List.getElem_map, List.getElem_map, List.getElem_range]
  show den R (t52.getD (10 + i) (.v (10 + i))) = _
  have : t52.getD (10 + i) (.v (10 + i)) = zdigS.getD i (.v (10 + i)) := by
    unfold t52
    rw [List.getD_eq_getElem?_getD, List.getElem?_append_right (by simp), List.getD_eq_getElem?_getD]
    show (zdigS[10 + i - 10]?).getD _ = _
    rw [Nat.add_sub_cancel_left]
  rw [this, List.getD_eq_getElem?_getD, List.getElem?_eq_getElem (by simp [zdigS]; omega)]
  rfl
theorem zdig_plain : ∀ d ∈ zdig, plainD d := by
  intro d hd
  simp only [zdig, List.mem_cons, List.mem_replicate] at hd
  rcases hd with rfl | ⟨_, rfl⟩ <;> trivial
theorem cells_eq {R : Rho} {A B : SX} {row : List DV} (hA : ∀ k, atD (den R A) (.int .i64 0) k = row.getD k (.bool false)) (hB : ∀ k, atD (den R B) (.int .i64 1) k = row.getD k (.bool false)) (hp : ∀ d ∈ row, plainD d) (hl : row.length = 65) :
    den R (.all ((List.range 65).map fun k => .bin .eql (.at A (.ki .i64 (.ofNat 0)) k) (.at B (.ki .i64 (.ofNat 1)) k))) = .bool true := by
  have all : ∀ l : List Nat, (∀ c ∈ l, c < 65) → den.denAll R (l.map fun k => .bin .eql (.at A (.ki .i64 (.ofNat 0)) k) (.at B (.ki .i64 (.ofNat 1)) k)) = true := by
    intro l
    induction l with
    | nil => intro _; rfl
    | cons a l ih =>
      intro hc
      have ha := hc a (by simp)
      have h1 : den R (.bin .eql (.at A (.ki .i64 (.ofNat 0)) a) (.at B (.ki .i64 (.ofNat 1)) a)) = .bool true := by
        show binD .eql (atD (den R A) (.int .i64 0) a) (atD (den R B) (.int .i64 1) a) = _
        rw [hA, hB]
        have hm : row.getD a (.bool false) ∈ row := by
          rw [List.getD_eq_getElem?_getD, List.getElem?_eq_getElem (show a < row.length by omega)]
          exact List.getElem_mem _
        obtain ⟨r, q1, q2⟩ := eql_iff (hp _ hm) (hp _ hm)
        rw [q1, q2.2 rfl]
      simp only [List.map_cons, den.denAll, h1, isT, ih fun c h => hc c (by simp [h]), Bool.and_true]
  show DV.bool _ = _
  rw [all _ (by simp)]
theorem loops52 : LoopsOK Tryz.prog G theI (lp 21 L53) B52 := loopsB one52 lk53
set_option maxRecDepth 100000 in
theorem lk52 : LoopOK Tryz.prog G theI B52 L52 := by
  refine loop_ind (spec := sp5m) hmix hNum sp5m_ok plainG 100 loops52 (by kernel_rfl) inv52 mu52 ?_ ?_
  · intro m a w hr hp
    obtain ⟨_, z2, _, z4, _⟩ := hr
    have h0 := z2 74
    have h1 := z2 76
    have e0 : ((L52.T.st L52.n).tm.get 74).getD (.sc undef) = .sy (.slice [tU64]) (.v 2) := by kernel_rfl
    have e1 : ((L52.T.st L52.n).tm.get 76).getD (.sc undef) = .sy tI (.v 5) := by kernel_rfl
    rw [e0] at h0
    rw [e1] at h1
    simp only [V] at h0 h1
    obtain ⟨fs, d0, hd0⟩ := rep_u64s h0
    simp only [Rep] at h1
    obtain ⟨k, d1, _⟩ := h1
    obtain ⟨_, _, hb⟩ := z4.obj 1000008 (.blk (blkR 34 (.v 4) tCli)) (by kernel_rfl)
    obtain ⟨c, _, _, g3, _⟩ := hb
    have hn : (blkR 34 (.v 4) tCli).n = 83 := by kernel_rfl
    obtain ⟨v, _, hv⟩ := g3 82 (by rw [hn]; omega)
    have e2 : (blkR 34 (.v 4) tCli).cell 82 = .sy (.slice tDig) esS := by kernel_rfl
    rw [e2] at hv
    simp only [V] at hv
    obtain ⟨es, d2, hd2⟩ := rep_rows hv
    obtain ⟨es', d3, hd3⟩ := rep_digs hv
    rw [d2] at d3
    cases d3
    have p1 := hp (.bin .lss (.v 5) zeroS, false) (List.mem_cons_self ..)
    have p2 := hp (.bin .lss (.len (.v 2)) (.v 5), false) (List.mem_cons_of_mem _ (List.mem_cons_self ..))
    have d0' : m.R.ρ 2 = .list fs := d0
    have d1' : m.R.ρ 5 = .int .i64 k := d1
    simp only [den, d0', d1', lenD, zeroS, binD] at p1 p2
    simp at p1 p2
    exact ⟨es, fs, k, d2, hd2, hd3, d0, hd0, d1, p1, p2, fun q hq => hp q (List.mem_cons_of_mem _ (List.mem_cons_of_mem _ hq))⟩
  · rintro R hI ⟨es, fs, k, he, hrw, hd, h2, hfs, h5, g1, g2, hpre⟩
    have hlt1 : den R (.bin .lss (.v 5) (.len (.v 2))) = .bool (decide (k < fs.length)) := by simp only [den, h2, h5, lenD, binD]
    have hneg : den R (.bin .lss (.v 5) zeroS) = .bool false := by simp only [den, h5, zeroS, binD]; simp; omega
    have hsix : den R (.bin .eql (.v 5) (.ki .i64 (.ofNat 6))) = .bool (decide (k = 6)) := by simp only [den, h5, binD]; simp
    by_cases hlt : k < fs.length
    · have hi : ∀ q ∈ f52i, den R q.1 = .bool q.2 := by
        intro q hq
        simp only [f52i, List.mem_cons, List.not_mem_nil, or_false] at hq
        rcases hq with rfl | rfl
        · rw [hlt1]; simp [hlt]
        · exact hneg
      by_cases h6 : k = 6
      · refine StepOK.exit (T' := Y52) (e := .exit 2) (outs := []) (τ := []) (b := true) f52y c52b ?_ rfl rfl (fun j => rfl)
        · intro q hq
          simp only [f52y, List.mem_cons] at hq
          rcases hq with rfl | hq
          · rw [hsix]; simp [h6]
          · exact hi q hq
      · have h82 : (crow R).getD 82 (.bool false) = .list es := (crow_get R (by omega)).trans he
        have hcell := u64s_ix hfs (j := k.toNat) (by omega)
        have hn : den R nS52 = .int .u64 (ix fs k.toNat) := by
          show atD (R.ρ 2) (R.ρ 5) 0 = _
          simp only [h2, h5, atD, hcell]
        have hr := rightS_den hI
        have hK : den R K52 = .list [(scanL (cliD (crow R)) (ix fs k.toNat) es (false, zdig)).2, [.bool (scanL (cliD (crow R)) (ix fs k.toNat) es (false, zdig)).1]] := by
          rw [← known_law (crow_len R) h82]
          simp only [K52, den, denL_map, List.map_append, List.map_cons, List.map_nil, hn, hI]
          rfl
        have hX : den R XS52 = .list [[.bool (scanL (cliD (crow R)) (ix fs k.toNat) es (false, zdig)).1], (scanL (cliD (crow R)) (ix fs k.toNat) es (false, zdig)).2] := by
          unfold XS52
          rw [den_subst]
          have he' : den (R.sub t52) esS = .list es := (den_congr (R1 := R.sub t52) (R2 := R) t52_lt rfl esS (by kernel_rfl)).trans he
          have hr' : den (R.sub t52) rightS = .bool (cliD (crow R)) := (den_congr (R1 := R.sub t52) (R2 := R) t52_lt rfl rightS (by kernel_rfl)).trans hr
          have := X53_den (R := R.sub t52) (s := false) (j := 0) hI he' hr' hn rfl rfl
          rw [wanted_t52] at this
          exact this
        have hrow := scan_mem (cliD (crow R)) (ix fs k.toNat) es (false, zdig)
        generalize scanL (cliD (crow R)) (ix fs k.toNat) es (false, zdig) = sc at *
        have hpl : (∀ d ∈ sc.2, plainD d) ∧ sc.2.length = 65 := by
          rcases hrow with h | h
          · rw [h]; exact ⟨zdig_plain, rfl⟩
          · refine ⟨fun d hd => ?_, (hrw.2 _ h).1⟩
            obtain ⟨k, z, rfl⟩ := (hrw.2 _ h).2 d hd
            trivial
        have ha : den R e52a = .bool true := by
          show binD .eql (atD (den R K52) (.int .i64 1) 0) (atD (den R XS52) (.int .i64 0) 0) = _
          rw [hK, hX]
          show DV.bool (sc.1 == sc.1) = _
          simp
        have hbb : den R e52b = .bool true := cells_eq (row := sc.2) (fun k => by rw [hK]; rfl) (fun k => by rw [hX]; rfl) hpl.1 hpl.2
        have h5' : (R.sub nx52).ρ 5 = .int .i64 (k + 1) := by
          show den R j52 = _
          simp only [j52, den, h5, binD]
          show DV.int .i64 (IntKind.i64.wrap (k + 1)) = _
          rw [wrap_i64 (by omega) (by have := hfs.1; omega)]
        have h2' : (R.sub nx52).ρ 2 = .list fs := h2
        refine StepOK.next nx52 f52n c52c ?_ ⟨es, fs, k + 1, (den_congr (R1 := R.sub nx52) (R2 := R) nx52_lt rfl esS (by kernel_rfl)).trans he, hrw, hd, h2', hfs, h5', by omega, by omega, ?_⟩ ?_ rfl ?_
        · intro q hq
          simp only [f52n, List.mem_cons, List.mem_append] at hq
          rcases hq with rfl | rfl | rfl | hq | hq
          · exact ha
          · exact hbb
          · rw [hsix]; simp [h6]
          · exact hi q hq
          · exact hpre q hq
        · intro q hq
          rw [den_congr (R1 := R.sub nx52) (R2 := R) nx52_lt rfl q.1 (List.all_eq_true.1 f52p_lt q hq)]
          exact hpre q hq
        · simp only [mu52, h2', h2, h5', h5]
          omega
        · intro b _ x hx
          exact den_congr (R1 := R.sub nx52) (R2 := R) nx52_lt rfl x (List.all_eq_true.1 (sx52 b) x hx)
    · refine StepOK.exit (T' := Y52) (e := .exit 2) (outs := []) (τ := []) (b := true) f52x c52a ?_ rfl rfl (fun j => rfl)
      · intro q hq
        simp only [f52x, List.mem_cons, List.not_mem_nil, or_false] at hq
        subst hq
        rw [hlt1]; simp [hlt]
end Go.Proofs.YteoindgcjoldhaaGreatDoor
namespace Go.Proofs.YteoindgcjoldhaaGreatDoor
open Go Go.AM
/-! #### The loop over clients -/
noncomputable def rowA (i : SX) : List SX := (List.range 83).map fun k => .at (.v 0) i k
noncomputable def CS : SX := .app 7 (rowA (.v 3))
noncomputable def DS : SX := .app 7 (rowA zeroS)
noncomputable def cC : List SX := rowS CS 83
noncomputable def cD : List SX := rowS DS 83
noncomputable def top1 (f : Nat) (es : List SX) : SX := .at (.app f es) (.ki .i64 (.ofNat 0)) 0
noncomputable def e51a : SX := .bin .eql (.bin .eql (top1 12 cC) zeroS) (top1 15 cC)
noncomputable def e51b : SX := .bin .eql (top1 16 (cC ++ cD)) (top1 17 (cC ++ cD))
noncomputable def e51c : SX := top1 16 (cC ++ cC)
noncomputable def e51d : SX := .bin .eql (top1 12 cC) (.ki .i64 (.ofNat 320))
noncomputable def f51x : List (SX × Bool) := [(.bin .lss (.v 3) (.len (.v 0)), false)]
noncomputable def f51i : List (SX × Bool) := [(.bin .lss (.v 3) (.len (.v 0)), true), (.bin .lss (.v 3) zeroS, false), (.bin .lss zeroS (.len (.v 0)), true)]
noncomputable def f51y : List (SX × Bool) := (.bin .eql (.v 3) (.ki .i64 (.ofNat 8)), true) :: f51i
noncomputable def f51p : List (SX × Bool) := [(.bin .lss (.ki .i64 (.ofNat 1000)) (.len (.at CS (.ki .i64 (.ofNat 0)) 5)), false), (.bin .lss (.ki .i64 (.ofNat 1000000)) (.len (.at CS (.ki .i64 (.ofNat 0)) 82)), false)]
noncomputable def f51n (b : Bool) : List (SX × Bool) := (top1 15 cC, b) :: (e51a, true) :: (e51b, true) :: (e51c, true) :: (.bin .eql (.v 3) (.ki .i64 (.ofNat 8)), false) :: (f51i ++ f51p)
noncomputable def j51 : SX := .bin .add (.v 3) (.ki .i64 (.ofNat 1))
noncomputable def nx51 : List SX := [.v 0, .v 1, .v 2, j51]
noncomputable def Y51 : Tmpl := ⟨[(0, .sy (.slice tCli) (.v 0)), (1, .sy (.slice [tI]) (.v 1)), (2, .sy (.slice [tU64]) (.v 2))], []⟩
noncomputable def L51 : LoopSp :=
  { n := 153, T := T51, src := [.tm 0 (.slice tCli), .tm 1 (.slice [tI]), .tm 2 (.slice [tU64]), .tm 29 tI],
    pre := [(.bin .lss (.v 3) zeroS, false), (.bin .lss (.len (.v 0)) (.v 3), false)], cnd := .kb true, yes := (.exit 0, Y51.sub []), no := (.exit 0, Y51.sub []) }
noncomputable def run51 (facts : List (SX × Bool)) (s : St) : Run := @codeL (mkO facts theI) Tryz.prog G (sp5m (mkO facts theI)) 100 (lp 14 L52) B51 s
theorem c51a : stepExit L51 Y51 (.exit 0) [] (run51 f51x (L51.T.st L51.n)) = true := by kernel_rfl
theorem c51b : stepExit L51 Y51 (.exit 0) [] (run51 f51y (L51.T.st L51.n)) = true := by kernel_rfl
theorem c51c : stepNext L51 nx51 (run51 (f51n true) (L51.T.st L51.n)) = true := by kernel_rfl
theorem c51d : stepNext L51 nx51 (run51 ((e51d, true) :: f51n false) (L51.T.st L51.n)) = true := by kernel_rfl
theorem one51 : (loopsIn B51).length = 1 := by kernel_rfl
end Go.Proofs.YteoindgcjoldhaaGreatDoor
namespace Go.Proofs.YteoindgcjoldhaaGreatDoor
open Go Go.AM
def Len83 (l : List (List DV)) : Prop := l.length ≤ maxLen ∧ ∀ row ∈ l, row.length = 83
theorem rep_len83 {m : Env} {d : DV} {v : Value} (h : Rep m (.slice tCli) d v) : ∃ l, d = .list l ∧ Len83 l := by
  simp only [Rep] at h
  obtain ⟨es, a, c, rfl, _, h3, h4, h5, h6⟩ := h
  refine ⟨es, rfl, h4, fun row hrow => ?_⟩
  obtain ⟨j, hj⟩ := List.mem_iff_getElem?.1 hrow
  have hlt := (List.getElem?_eq_some_iff.1 hj).1
  rcases h6 with h6 | ⟨b, o, _, h7⟩
  · have := h6
    omega
  · exact (h7 j row hj).length
theorem cutN_size (n : Nat) (s : ByteArray) : (cutN n s).size ≤ n := by
  simp [cutN]
  omega
theorem row7_len {row : List DV} (h : row.length = 83) : (row7 row).length = 83 := by
  have : (row25 ((row.drop 4).take 76)).length = 76 := row25_len (by simp [h])
  simp [row7, this]
theorem row7_name {row : List DV} (h : row.length = 83) : ∃ s, (row7 row).getD 5 (.bool false) = .str s ∧ s.size ≤ 30 := ⟨cutN 30 (sD ((row.drop 4).take 76) 1), rfl, cutN_size _ _⟩
theorem row7_digs {row : List DV} (h : row.length = 83) : ∃ es, (row7 row).getD 82 (.bool false) = .list es ∧ es.length ≤ 17 := by
  have : (row25 ((row.drop 4).take 76)).length = 76 := row25_len (by simp [h])
  refine ⟨(lD row 82).take 17, ?_, by simp; omega⟩
  rw [row7, List.getD_eq_getElem?_getD, List.getElem?_append_right (by simp [this])]
  simp [this]
theorem sameD_refl {c : List DV} (h : c.length = 83) : sameD (c ++ c) = true := by
  have hg : ∀ i, i < 83 → (c ++ c).getD i (.bool false) = (c ++ c).getD (83 + i) (.bool false) := by
    intro i hi
    rw [List.getD_eq_getElem?_getD, List.getD_eq_getElem?_getD, List.getElem?_append_left (by omega), List.getElem?_append_right (by omega)]
    congr 2
    omega
  have hl : lD (c ++ c) 82 = lD (c ++ c) 165 := by
    have := hg 82 (by omega)
    simp only [lD, this]
  unfold sameD
  rw [hl]
  simp only [decide_true, Bool.true_and, Bool.and_eq_true, decide_eq_true_eq]
  exact ⟨fun i hi => hg i (by omega), by unfold eqFrom; simp⟩
theorem rowS_den {R : Rho} {X : SX} {row : List DV} {l : List (List DV)} (hX : den R X = .list (row :: l)) (h : row.length = 83) : (rowS X 83).map (den R) = row := by
  refine Eq.trans ?_ (row_cells h)
  unfold rowS
  rw [List.map_map]
  refine List.map_congr_left fun k _ => ?_
  simp only [Function.comp, den, hX, atD]
  rfl
theorem rowA_den {R : Rho} {i : SX} {l : List (List DV)} {z : Int} (h0 : R.ρ 0 = .list l) (hi : den R i = .int .i64 z) (h : (l.getD z.toNat []).length = 83) : (rowA i).map (den R) = l.getD z.toNat [] := by
  refine Eq.trans ?_ (row_cells h)
  unfold rowA
  rw [List.map_map]
  refine List.map_congr_left fun k _ => ?_
  simp only [Function.comp, den, h0, hi, atD]
theorem app7_den {R : Rho} (hI : R.I = theI) {i : SX} {l : List (List DV)} {z : Int} (h0 : R.ρ 0 = .list l) (hi : den R i = .int .i64 z) (h : (l.getD z.toNat []).length = 83) : den R (.app 7 (rowA i)) = .list [row7 (l.getD z.toNat [])] := by
  simp only [den, denL_map, rowA_den h0 hi h, hI]
  rfl
theorem top1_den {R : Rho} (hI : R.I = theI) {f : Nat} {es : List SX} {c : List DV} {F : List DV → List (List DV)} (hc : es.map (den R) = c) (hf : ∀ ds, theI f ds = .list (F ds)) : den R (top1 f es) = ((F c).getD 0 []).getD 0 (.bool false) := by
  show atD (den R (.app f es)) (.int .i64 0) 0 = _
  simp only [den, denL_map, hc, hI, hf, atD]
  rfl
def inv51 (R : Rho) : Prop := ∃ l k, R.ρ 0 = .list l ∧ Len83 l ∧ R.ρ 3 = .int .i64 k ∧ 0 ≤ k ∧ k ≤ l.length
noncomputable def mu51 (R : Rho) : Nat := match R.ρ 0, R.ρ 3 with
  | .list fs, .int _ n => fs.length - n.toNat
  | _, _ => 0
theorem sx51 (b : Bool) : (L51.pick b).2.sxs.all (varsLt 3) = true := by cases b <;> kernel_rfl
theorem nx51_lt {R : Rho} : ∀ i, i < 3 → (R.sub nx51).ρ i = R.ρ i := by
  intro i hi
  match i, hi with
  | 0, _ => rfl
  | 1, _ => rfl
  | 2, _ => rfl
theorem loops51 : LoopsOK Tryz.prog G theI (lp 14 L52) B51 := loopsB one51 lk52
set_option maxRecDepth 100000 in
theorem lk51 : LoopOK Tryz.prog G theI B51 L51 := by
  refine loop_ind (spec := sp5m) hmix hNum sp5m_ok plainG 100 loops51 (by kernel_rfl) inv51 mu51 ?_ ?_
  · intro m a w hr hp
    obtain ⟨_, z2, _, z4, _⟩ := hr
    have h0 := z2 0
    have h1 := z2 29
    have e0 : ((L51.T.st L51.n).tm.get 0).getD (.sc undef) = .sy (.slice tCli) (.v 0) := by kernel_rfl
    have e1 : ((L51.T.st L51.n).tm.get 29).getD (.sc undef) = .sy tI (.v 3) := by kernel_rfl
    rw [e0] at h0
    rw [e1] at h1
    simp only [V] at h0 h1
    obtain ⟨l, d0, hd0⟩ := rep_len83 h0
    simp only [Rep] at h1
    obtain ⟨k, d1, _⟩ := h1
    have p1 := hp (.bin .lss (.v 3) zeroS, false) (List.mem_cons_self ..)
    have p2 := hp (.bin .lss (.len (.v 0)) (.v 3), false) (List.mem_cons_of_mem _ (List.mem_cons_self ..))
    have d0' : m.R.ρ 0 = .list l := d0
    have d1' : m.R.ρ 3 = .int .i64 k := d1
    simp only [den, d0', d1', lenD, zeroS, binD] at p1 p2
    simp at p1 p2
    exact ⟨l, k, d0, hd0, d1, p1, p2⟩
  · rintro R hI ⟨l, k, h0, hl, h3, g1, g2⟩
    have hlt1 : den R (.bin .lss (.v 3) (.len (.v 0))) = .bool (decide (k < l.length)) := by simp only [den, h0, h3, lenD, binD]
    have hneg : den R (.bin .lss (.v 3) zeroS) = .bool false := by simp only [den, h3, zeroS, binD]; simp; omega
    have h8 : den R (.bin .eql (.v 3) (.ki .i64 (.ofNat 8))) = .bool (decide (k = 8)) := by simp only [den, h3, binD]; simp
    by_cases hlt : k < l.length
    · have hi : ∀ q ∈ f51i, den R q.1 = .bool q.2 := by
        intro q hq
        simp only [f51i, List.mem_cons, List.not_mem_nil, or_false] at hq
        rcases hq with rfl | rfl | rfl
        · rw [hlt1]; simp [hlt]
        · exact hneg
        · simp only [den, h0, zeroS, lenD, binD]; simp; omega
      by_cases h6 : k = 8
      · refine StepOK.exit (T' := Y51) (e := .exit 0) (outs := []) (τ := []) (b := true) f51y c51b ?_ rfl rfl (fun j => rfl)
        intro q hq
        simp only [f51y, List.mem_cons] at hq
        rcases hq with rfl | hq
        · rw [h8]; simp [h6]
        · exact hi q hq
      · have hmem : ∀ j : Nat, j < l.length → (l.getD j []).length = 83 := by
          intro j hj
          refine hl.2 _ ?_
          rw [List.getD_eq_getElem?_getD, List.getElem?_eq_getElem hj]
          exact List.getElem_mem hj
        have hC := app7_den hI h0 (i := .v 3) h3 (hmem _ (by omega))
        have hD := app7_den hI h0 (i := zeroS) (z := 0) rfl (hmem _ (by simp; omega))
        have hlC := row7_len (hmem k.toNat (by omega))
        have hlD := row7_len (hmem (0 : Int).toNat (by simp; omega))
        obtain ⟨nm, hnm, hnl⟩ := row7_name (hmem k.toNat (by omega))
        obtain ⟨dg, hdg, hdl⟩ := row7_digs (hmem k.toNat (by omega))
        have hcC : cC.map (den R) = row7 (l.getD k.toNat []) := rowS_den hC hlC
        have hcD : cD.map (den R) = row7 (l.getD (0 : Int).toNat []) := rowS_den hD hlD
        generalize row7 (l.getD k.toNat []) = C at *
        generalize row7 (l.getD (0 : Int).toNat []) = D at *
        have hr : den R (top1 15 cC) = .bool (cliD C) := top1_den hI hcC (F := F15) (fun _ => rfl)
        have h12 : den R (top1 12 cC) = .int .i64 (if cliD C then 0 else 320) := top1_den hI hcC (F := F12) (fun _ => rfl)
        have h16 : den R (top1 16 (cC ++ cD)) = .bool (sameD (C ++ D)) := top1_den hI (by rw [List.map_append, hcC, hcD]) (F := F16) (fun _ => rfl)
        have h17 : den R (top1 17 (cC ++ cD)) = .bool (sameD (C ++ D)) := top1_den hI (by rw [List.map_append, hcC, hcD]) (F := F16) (fun _ => rfl)
        have h16c : den R (top1 16 (cC ++ cC)) = .bool true := by
          rw [top1_den hI (c := C ++ C) (by rw [List.map_append, hcC]) (F := F16) (fun _ => rfl)]
          show DV.bool (sameD (C ++ C)) = _
          rw [sameD_refl hlC]
        have ha : den R e51a = .bool true := by
          show binD .eql (binD .eql (den R (top1 12 cC)) (.int .i64 0)) (den R (top1 15 cC)) = _
          rw [h12, hr]
          cases cliD C <;> rfl
        have hb : den R e51b = .bool true := by
          show binD .eql (den R (top1 16 (cC ++ cD))) (den R (top1 17 (cC ++ cD))) = _
          rw [h16, h17]
          show DV.bool (_ == _) = _
          simp
        have hp : ∀ q ∈ f51p, den R q.1 = .bool q.2 := by
          have hat : ∀ k, den R (.at CS (.ki .i64 (.ofNat 0)) k) = C.getD k (.bool false) := fun k => by
            show atD (den R CS) (.int .i64 0) k = _
            rw [show den R CS = .list [C] from hC]
            rfl
          intro q hq
          simp only [f51p, List.mem_cons, List.not_mem_nil, or_false] at hq
          rcases hq with rfl | rfl
          · show binD .lss (.int .i64 1000) (lenD (den R (.at CS (.ki .i64 (.ofNat 0)) 5))) = _
            rw [hat, hnm]
            simp only [lenD, binD]
            simp; omega
          · show binD .lss (.int .i64 1000000) (lenD (den R (.at CS (.ki .i64 (.ofNat 0)) 82))) = _
            rw [hat, hdg]
            simp only [lenD, binD]
            simp; omega
        have h3' : (R.sub nx51).ρ 3 = .int .i64 (k + 1) := by
          show den R j51 = _
          simp only [j51, den, h3, binD]
          show DV.int .i64 (IntKind.i64.wrap (k + 1)) = _
          rw [wrap_i64 (by omega) (by have := hl.1; omega)]
        have h0' : (R.sub nx51).ρ 0 = .list l := h0
        have fin : ∀ facts, stepNext L51 nx51 (run51 facts (L51.T.st L51.n)) = true → (∀ q ∈ facts, den R q.1 = .bool q.2) → StepOK theI run51 L51 inv51 mu51 R := by
          intro facts hc hf
          refine StepOK.next nx51 facts hc hf ⟨l, k + 1, h0', hl, h3', by omega, by omega⟩ ?_ rfl ?_
          · simp only [mu51, h0', h0, h3', h3]
            omega
          · intro b _ x hx
            exact den_congr (R1 := R.sub nx51) (R2 := R) nx51_lt rfl x (List.all_eq_true.1 (sx51 b) x hx)
        have hall : ∀ b, cliD C = b → ∀ q ∈ f51n b, den R q.1 = .bool q.2 := by
          intro b hb' q hq
          simp only [f51n, List.mem_cons, List.mem_append] at hq
          rcases hq with rfl | rfl | rfl | rfl | rfl | hq | hq
          · rw [hr, hb']
          · exact ha
          · exact hb
          · exact h16c
          · rw [h8]; simp [h6]
          · exact hi q hq
          · exact hp q hq
        cases hcl : cliD C with
        | true => exact fin _ c51c (hall true hcl)
        | false =>
          refine fin _ c51d fun q hq => ?_
          simp only [List.mem_cons] at hq
          rcases hq with rfl | hq
          · show binD .eql (den R (top1 12 cC)) (.int .i64 320) = _
            rw [h12, hcl]
            rfl
          · exact hall false hcl q hq
    · refine StepOK.exit (T' := Y51) (e := .exit 0) (outs := []) (τ := []) (b := true) f51x c51a ?_ rfl rfl (fun j => rfl)
      intro q hq
      simp only [f51x, List.mem_cons, List.not_mem_nil, or_false] at hq
      subst hq
      rw [hlt1]; simp [hlt]
end Go.Proofs.YteoindgcjoldhaaGreatDoor
