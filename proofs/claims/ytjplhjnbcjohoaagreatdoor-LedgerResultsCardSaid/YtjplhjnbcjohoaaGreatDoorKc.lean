/-
  A part of the proof of LedgerResults (the machine on named data, and the contracts of the functions that the law reaches): Rd1 Rd2 Re1 Re2.
-/
import Derived.Test.YtjplhjnbcjohoaaGreatDoorKb
set_option linter.all false
set_option linter.unusedVariables false
set_option linter.unusedSimpArgs false
set_option linter.unusedSectionVars false
namespace Go.Proofs.YtjplhjnbcjohoaaGreatDoor
open Go Go.AM
/-! ### the document's reading of a value -/
noncomputable abbrev aB (i : SX) : SX := .at (.v 0) i 0
noncomputable def bV0 : Blk := { t := 64, row := false, sz := 1, n := 0, z := [.dead], c := .nil }
noncomputable def bVd : Blk := { t := 64, row := false, sz := 1, n := 3, z := [.dead], c := .nil }
noncomputable def bVz : Blk := { t := 64, row := false, sz := 1, n := 3, z := [.dead], c := (((Tr.nil : Tr AV).put 0 (.sc (.int .i64 0))).put 1 (.sc (.int .i64 0))).put 2 (.sc (.string ⟨#[]⟩)) }
noncomputable def bVk : Blk := { t := 64, row := false, sz := 1, n := 3, z := [.dead], c := ((Tr.nil : Tr AV).put 0 (.sy tI (.v 3))).put 1 (.sc (.int .i64 0)) }
noncomputable def bVt : Blk := { t := 64, row := false, sz := 1, n := 3, z := [.dead], c := (((Tr.nil : Tr AV).put 0 (.sy tI (.v 0))).put 1 (.sc (.int .i64 0))).put 2 (.sy .str (.v 1)) }
noncomputable def TD : Tmpl := { tm := [(0, .sy tB (.v 0)), (2, .ptr 0 0), (5, .ptr 1 0), (6, .ptr 2 0), (7, .own 9 [tU8] (.v 2)), (8, .sy tI (.v 1))], ob := [(0, bVd), (1, bVz), (2, bVk)], ow := [⟨9, 5, [tU8], .v 2⟩], src := [.tm 0 tB, .tm 8 tI, .own 0, .cell 2 0 tI], osrc := [.tm 7 5 [tU8]] }
noncomputable def YDy : Tmpl := { tm := [(2, .ptr 0 0), (3, .sy tI (.v 2)), (4, .sc (.int .i64 0))], ob := [(0, bVt), (1, bV0), (2, bV0)], src := [.cell 0 0 tI, .cell 0 2 .str, .tm 3 tI] }
noncomputable def YDn : Tmpl := { tm := [(2, .ptr 0 0), (3, .sc (.int .i64 0)), (4, .sy tI (.v 0))], ob := [(0, bVz), (1, bV0), (2, bV0)], src := [.tm 4 tI] }
noncomputable abbrev tx (f : Nat) : SX := .app f [.v 0, .v 1, .v 2]
noncomputable def YDz : Tmpl := { tm := [(2, .ptr 0 0), (5, .ptr 1 0)], ob := [(0, bVd), (1, bVz), (2, bV0)] }
noncomputable abbrev preD : List (SX × Bool) := [(lss (k64 1000000) (.len (.v 0)), false), (lss (.v 1) (k64 0), false), (lss (.len (.v 0)) (.v 1), false), (lss (k64 64) (.len (.v 2)), false)]
/-- The loop where bytes end too early. -/
noncomputable def LDz : LoopSp := { n := 112, T := TD, pre := (tx 134, true) :: preD, yes := (.exit 1, YDz, []) }
/-- The loop elsewhere. -/
noncomputable def LD : LoopSp := { n := 112, T := TD, pre := (tx 134, false) :: preD, cnd := eql (tx 121) (k64 0), yes := (.ret, YDy, [.v 3, .text (tx 122), tx 123]), no := (.ret, YDn, [tx 121]) }
noncomputable abbrev codeD : Code := loopAt 19 0
noncomputable abbrev nx1 : SX := add (.v 1) (k64 1)
noncomputable abbrev oc : SX := .cat (.v 2) (.row [aB (.v 1)])
noncomputable abbrev u8k (n : Nat) : SX := .ki .u8 (.ofNat n)
noncomputable def rD : RPln :=
  .ask (lss (.v 1) (.len (.v 0)))
    (.know (lss (.v 1) (k64 0)) false
      (.ask (eql (aB (.v 1)) (u8k 0))
        (.ask (lss nx1 (.len (.v 0)))
          (.know (lss nx1 (k64 0)) false
            (.ask (eql (aB nx1) (u8k 0))
              (.exit true [.v 3, .text (.v 2), add (.v 1) (k64 2)])
              (.ask (eql (aB nx1) (u8k 255))
                (.ask (eql (.len (.v 2)) (k64 64))
                  (.exit false [k64 150])
                  (.know (lss (k64 1000000) (.len (.v 2))) false (.next [.v 0, add nx1 (k64 1), oc, .v 3])))
                (.exit false [k64 150]))))
          (.exit false [k64 7]))
        (.ask (eql (.len (.v 2)) (k64 64))
          (.exit false [k64 150])
          (.know (lss (k64 1000000) (.len (.v 2))) false (.next [.v 0, nx1, oc, .v 3])))))
    .never
noncomputable def rDz : RPln :=
  .ask (lss (.v 1) (.len (.v 0)))
    (.know (lss (.v 1) (k64 0)) false
      (.ask (eql (aB (.v 1)) (u8k 0))
        (.ask (lss nx1 (.len (.v 0)))
          (.know (lss nx1 (k64 0)) false
            (.ask (eql (aB nx1) (u8k 0))
              .never
              (.ask (eql (aB nx1) (u8k 255))
                (.ask (eql (.len (.v 2)) (k64 64))
                  .never
                  (.know (lss (k64 1000000) (.len (.v 2))) false (.next [.v 0, add nx1 (k64 1), oc, .v 3])))
                .never)))
          .never)
        (.ask (eql (.len (.v 2)) (k64 64))
          .never
          (.know (lss (k64 1000000) (.len (.v 2))) false (.next [.v 0, nx1, oc, .v 3])))))
    (.exit true [])
theorem okD : (LD.yes.2.1.ok LD.T LD.n && LD.no.2.1.ok LD.T LD.n && checkRound LD (roundI theI (entS []) [] codeD) [] rD) = true := by kernel_rfl
theorem okDz : (LDz.yes.2.1.ok LDz.T LDz.n && LDz.no.2.1.ok LDz.T LDz.n && checkRound LDz (roundI theI (entS []) [] codeD) [] rDz) = true := by kernel_rfl
/-! the text, step by step -/
abbrev txI (l : List Int) (i : Int) (out : List Int) : Int × List Int × Nat := txt (l.drop i.toNat) out i.toNat
abbrev tzI (l : List Int) (i : Int) (out : List Int) : Bool := txEnd (l.drop i.toNat) out
theorem txt_ne {c : Int} {l out : List Int} {u : Nat} (hc : ¬ c = 0) : txt (c :: l) out u = if out.length = 64 then (150, [], 0) else txt l (out ++ [c]) (u + 1) := by
  rw [txt.eq_def]
  exact if_neg hc
theorem txEnd_ne {c : Int} {l out : List Int} (hc : ¬ c = 0) : txEnd (c :: l) out = if out.length = 64 then false else txEnd l (out ++ [c]) := by
  rw [txEnd.eq_def]
  exact if_neg hc
section
variable {l out : List Int} {i : Int}
theorem tx_drop (h0 : 0 ≤ i) (h1 : i < l.length) : l.drop i.toNat = l.getD i.toNat 0 :: l.drop (i + 1).toNat := by
  have h2 : i.toNat < l.length := by omega
  rw [List.drop_eq_getElem_cons h2, toNat_succ h0]
  simp [List.getD_eq_getElem?_getD, List.getElem?_eq_getElem h2]
theorem tx_one (h0 : 0 ≤ i) (h1 : i < l.length) (hc : ¬ l.getD i.toNat 0 = 0) : txI l i out = if out.length = 64 then (150, [], 0) else txI l (i + 1) (out ++ [l.getD i.toNat 0]) := by
  show txt _ _ _ = _
  rw [tx_drop h0 h1, txt_ne hc]
  have e : (i + 1).toNat = i.toNat + 1 := toNat_succ h0
  simp only [txI, e]
theorem tz_one (h0 : 0 ≤ i) (h1 : i < l.length) (hc : ¬ l.getD i.toNat 0 = 0) : tzI l i out = if out.length = 64 then false else tzI l (i + 1) (out ++ [l.getD i.toNat 0]) := by
  show txEnd _ _ = _
  rw [tx_drop h0 h1, txEnd_ne hc]
theorem tx_last (h0 : 0 ≤ i) (h1 : i < l.length) (h2 : ¬ i + 1 < l.length) (hc : l.getD i.toNat 0 = 0) : txI l i out = (7, [], 0) := by
  show txt _ _ _ = _
  rw [tx_drop h0 h1, List.drop_eq_nil_of_le (i := (i + 1).toNat) (by omega), txt, if_pos hc]
theorem tz_last (h0 : 0 ≤ i) (h1 : i < l.length) (h2 : ¬ i + 1 < l.length) (hc : l.getD i.toNat 0 = 0) : tzI l i out = false := by
  show txEnd _ _ = _
  rw [tx_drop h0 h1, List.drop_eq_nil_of_le (i := (i + 1).toNat) (by omega), txEnd, if_pos hc]
theorem tx_two (h0 : 0 ≤ i) (h2 : i + 1 < l.length) (hc : l.getD i.toNat 0 = 0) : txI l i out = if l.getD (i + 1).toNat 0 = 0 then (0, out, i.toNat + 2) else if l.getD (i + 1).toNat 0 = 255 then (if out.length = 64 then (150, [], 0) else txI l (i + 1 + 1) (out ++ [0])) else (150, [], 0) := by
  show txt _ _ _ = _
  rw [tx_drop h0 (by omega), tx_drop (i := i + 1) (by omega) h2, txt, if_pos hc]
  have e : (i + 1 + 1).toNat = i.toNat + 2 := by omega
  simp only [txI, e]
theorem tz_two (h0 : 0 ≤ i) (h2 : i + 1 < l.length) (hc : l.getD i.toNat 0 = 0) : tzI l i out = if l.getD (i + 1).toNat 0 = 0 then false else if l.getD (i + 1).toNat 0 = 255 then (if out.length = 64 then false else tzI l (i + 1 + 1) (out ++ [0])) else false := by
  show txEnd _ _ = _
  rw [tx_drop h0 (by omega), tx_drop (i := i + 1) (by omega) h2, txEnd, if_pos hc]
end
section
variable {R : Rho} {x y z : SX} {l out : List Int} {i : Int}
theorem d121 (hI : R.I = theI) (hx : den R x = .list (bytesI l)) (hy : den R y = .int .i64 i) (hz : den R z = .list (bytesI out)) : den R (.app 121 [x, y, z]) = .int .i64 (txI l i out).1 := by
  rw [d_app, hI]
  simp only [List.map_cons, List.map_nil, hx, hy, hz]
  show FtxE _ = _
  simp only [FtxE, txtD, intsD, lD, iD, List.getD_cons_zero, List.getD_cons_succ, ints_bytes]
theorem d122 (hI : R.I = theI) (hx : den R x = .list (bytesI l)) (hy : den R y = .int .i64 i) (hz : den R z = .list (bytesI out)) : den R (.app 122 [x, y, z]) = .list (bytesI (txI l i out).2.1) := by
  rw [d_app, hI]
  simp only [List.map_cons, List.map_nil, hx, hy, hz]
  show FtxT _ = _
  simp only [FtxT, txtD, intsD, lD, iD, List.getD_cons_zero, List.getD_cons_succ, ints_bytes]
theorem d123 (hI : R.I = theI) (hx : den R x = .list (bytesI l)) (hy : den R y = .int .i64 i) (hz : den R z = .list (bytesI out)) : den R (.app 123 [x, y, z]) = .int .i64 (txI l i out).2.2 := by
  rw [d_app, hI]
  simp only [List.map_cons, List.map_nil, hx, hy, hz]
  show FtxU _ = _
  simp only [FtxU, txtD, intsD, lD, iD, List.getD_cons_zero, List.getD_cons_succ, ints_bytes]
theorem d134 (hI : R.I = theI) (hx : den R x = .list (bytesI l)) (hy : den R y = .int .i64 i) (hz : den R z = .list (bytesI out)) : den R (.app 134 [x, y, z]) = .bool (tzI l i out) := by
  rw [d_app, hI]
  simp only [List.map_cons, List.map_nil, hx, hy, hz]
  show FtxZ _ = _
  simp only [FtxZ, intsD, lD, iD, List.getD_cons_zero, List.getD_cons_succ, ints_bytes]
end
def invD (z : Bool) (R : Rho) : Prop := ∃ l i out k, R.ρ 0 = .list (bytesI l) ∧ R.ρ 1 = .int .i64 i ∧ R.ρ 2 = .list (bytesI out) ∧ R.ρ 3 = .int .i64 k ∧ AreB l ∧ l.length ≤ 1000000 ∧ 0 ≤ i ∧ i ≤ l.length ∧ out.length ≤ 64 ∧ tzI l i out = z
noncomputable def muD (R : Rho) : Nat := match R.ρ 0, R.ρ 1 with
  | .list l, .int _ i => l.length - i.toNat
  | _, _ => 0
theorem initD {z : Bool} {m : Env} {a : Act} {w : World} (hr : @RS (noFacts theI) plainR m G (TD.st 112) a w) (hp : ∀ p ∈ (tx 134, z) :: preD, den m.R p.1 = .bool p.2) : invD z m.R := by
  obtain ⟨l, e0, hl, _⟩ := (head_sy hr (t := 0) (i := 0) (ty := tB) (by kernel_rfl)).ints
  obtain ⟨i, e1, _⟩ := (head_sy hr (t := 8) (i := 1) (ty := tI) (by kernel_rfl)).i64
  obtain ⟨out, e2, _, _⟩ := (head_own hr (t := 7) (id := 9) (i := 2) (el := 5) (ts := [tU8]) (by kernel_rfl) (by kernel_rfl)).ints
  obtain ⟨k, e3, _⟩ := (head_cell hr (id := 2) (k := 0) (i := 3) (ty := tI) (b := bVk) (by kernel_rfl) (by decide) (by kernel_rfl)).i64
  have hI : m.R.I = theI := by obtain ⟨_, _, _, _, _, _, y, _⟩ := hr; exact y
  have p0 := hp (tx 134, z) (by simp)
  have p1 := hp (lss (k64 1000000) (.len (.v 0)), false) (by simp [preD])
  have p2 := hp (lss (.v 1) (k64 0), false) (by simp [preD])
  have p3 := hp (lss (.len (.v 0)) (.v 1), false) (by simp [preD])
  have p4 := hp (lss (k64 64) (.len (.v 2)), false) (by simp [preD])
  rw [d134 hI (d_v e0) (d_v e1) (d_v e2)] at p0
  rw [d_lss (d_k .i64 1000000) (d_lenI (d_v e0))] at p1
  rw [d_lss (d_v e1) (d_k .i64 0)] at p2
  rw [d_lss (d_lenI (d_v e0)) (d_v e1)] at p3
  rw [d_lss (d_k .i64 64) (d_lenI (d_v e2))] at p4
  simp only [DV.bool.injEq, decide_eq_false_iff_not] at p0 p1 p2 p3 p4
  exact ⟨l, i, out, k, e0, e1, e2, e3, hl, by omega, by omega, by omega, by omega, p0⟩
theorem nextD {z : Bool} {L : LoopSp} (hL : L = LD ∨ L = LDz) {R : Rho} (hI : R.I = theI) {l out : List Int} {i k : Int} (e0 : R.ρ 0 = .list (bytesI l)) (e1 : R.ρ 1 = .int .i64 i) (e2 : R.ρ 2 = .list (bytesI out)) (e3 : R.ρ 3 = .int .i64 k) (hl : AreB l) (hlen : l.length ≤ 1000000)
    {e : SX} {j c : Int} (he : den R e = .int .i64 j) (hc : den R (aB (.v 1)) = .int .u8 c) (h0 : 0 ≤ i) (hj : i < j) (hj2 : j ≤ l.length) (ho : out.length < 64) (hz : tzI l j (out ++ [c]) = z) (ht : txI l i out = txI l j (out ++ [c])) :
    goalRound L (invD z) muD R (.next [.v 0, e, oc, .v 3]) := by
  have hoc := cat_I R (d_v e2) (row_I R hc)
  have s0 := sub_get R [.v 0, e, oc, .v 3] 0 rfl (d_v e0)
  have s1 := sub_get R [.v 0, e, oc, .v 3] 1 rfl he
  have s2 := sub_get R [.v 0, e, oc, .v 3] 2 rfl hoc
  have s3 := sub_get R [.v 0, e, oc, .v 3] 3 rfl (d_v e3)
  refine ⟨⟨l, j, out ++ [c], k, s0, s1, s2, s3, hl, hlen, by omega, hj2, by simp; omega, hz⟩, ?_, ?_, ?_⟩
  · simp only [muD, s0, s1, e0, e1, len_bytesI]
    omega
  · rcases hL with rfl | rfl
    · show den (R.sub _) (eql (tx 121) (k64 0)) = den R (eql (tx 121) (k64 0))
      rw [d_eql (d121 (R := R.sub _) hI (d_v s0) (d_v s1) (d_v s2)) (d_k .i64 0), d_eql (d121 hI (d_v e0) (d_v e1) (d_v e2)) (d_k .i64 0), ht]
    · rfl
  · rcases hL with rfl | rfl
    · intro b _
      cases b
      · show [den (R.sub _) (tx 121)] = [den R (tx 121)]
        rw [d121 (R := R.sub _) hI (d_v s0) (d_v s1) (d_v s2), d121 hI (d_v e0) (d_v e1) (d_v e2), ht]
      · show [den (R.sub _) (.v 3), den (R.sub _) (.text (tx 122)), den (R.sub _) (tx 123)] = [den R (.v 3), den R (.text (tx 122)), den R (tx 123)]
        rw [text_I (R.sub _) (d122 (R := R.sub _) hI (d_v s0) (d_v s1) (d_v s2)), text_I R (d122 hI (d_v e0) (d_v e1) (d_v e2)), d123 (R := R.sub _) hI (d_v s0) (d_v s1) (d_v s2), d123 hI (d_v e0) (d_v e1) (d_v e2), ht, d_v s3, d_v e3]
    · intro b _
      cases b <;> rfl
theorem loopD : LoopOK Tryz.prog G theI codeD LD := by
  refine loop_run (lps := []) (entS_ok (l := []) trivial) noLoops rD okD (invD false) muD (fun m a w hr hp => initD hr hp) ?_
  rintro R hI ⟨l, i, out, k, e0, e1, e2, e3, hl, hlen, h0, h1, ho, hz⟩
  have E := d121 hI (d_v e0) (d_v e1) (d_v e2)
  have hcn : den R LD.cnd = _ := d_eql E (d_k .i64 0)
  have fail : ∀ n : Nat, txI l i out = ((n : Int), [], 0) → ¬ (n : Int) = 0 → goalRound LD (invD false) muD R (.exit false [k64 n]) := by
    intro n hn hne
    refine ⟨?_, ?_⟩
    · rw [hcn, hn]
      simp only [DV.bool.injEq, decide_eq_false_iff_not]
      exact hne
    · show [den R (k64 n)] = [den R (tx 121)]
      rw [E, hn]
      rfl
  have hn1 : i < l.length → den R nx1 = .int .i64 (i + 1) := fun h => d_add (R := R) (d_v e1) (d_k .i64 1) (by omega) (by omega)
  unfold rD
  refine round_ask (d_lss (d_v e1) (d_lenI (d_v e0))) (fun hlt => ?_) (fun hge => ?_)
  · simp only [decide_eq_true_eq] at hlt
    have dn1 := hn1 hlt
    have hc := d_atI (d_v e0) (d_v e1) h0 hlt
    have dlt := d_lss dn1 (d_lenI (d_v e0))
    refine round_know (by rw [d_lss (d_v e1) (d_k .i64 0)]; simp; omega) (round_ask (d_eql hc (d_k .u8 0)) (fun hc0 => ?_) (fun hc0 => ?_))
    · simp only [decide_eq_true_eq] at hc0
      replace hc0 : l.getD i.toNat 0 = 0 := hc0
      refine round_ask dlt (fun h2 => ?_) (fun h2 => ?_)
      · simp only [decide_eq_true_eq] at h2
        have hd := d_atI (d_v e0) dn1 (by omega) h2
        have ht := tx_two (out := out) h0 h2 hc0
        have hzz := tz_two (out := out) h0 h2 hc0
        refine round_know (by rw [d_lss dn1 (d_k .i64 0)]; simp; omega) (round_ask (d_eql hd (d_k .u8 0)) (fun hd0 => ?_) (fun hd0 => ?_))
        · simp only [decide_eq_true_eq] at hd0
          replace hd0 : l.getD (i + 1).toNat 0 = 0 := hd0
          rw [if_pos hd0] at ht
          refine ⟨by rw [hcn, ht]; rfl, ?_⟩
          show [den R (.v 3), den R (.text (.v 2)), den R (add (.v 1) (k64 2))] = [den R (.v 3), den R (.text (tx 122)), den R (tx 123)]
          have h2' : den R (add (.v 1) (k64 2)) = .int .i64 (i + 2) := d_add (R := R) (d_v e1) (d_k .i64 2) (by omega) (by omega)
          rw [text_I R (d122 hI (d_v e0) (d_v e1) (d_v e2)), text_I R (d_v e2), d123 hI (d_v e0) (d_v e1) (d_v e2), ht, h2']
          have : ((i.toNat + 2 : Nat) : Int) = i + 2 := by omega
          rw [this]
        · simp only [decide_eq_false_iff_not] at hd0
          replace hd0 : ¬ l.getD (i + 1).toNat 0 = 0 := hd0
          rw [if_neg hd0] at ht hzz
          refine round_ask (d_eql hd (d_k .u8 255)) (fun hd1 => ?_) (fun hd1 => ?_)
          · simp only [decide_eq_true_eq] at hd1
            replace hd1 : l.getD (i + 1).toNat 0 = 255 := hd1
            rw [if_pos hd1] at ht hzz
            refine round_ask (d_eql (d_lenI (d_v e2)) (d_k .i64 64)) (fun h64 => ?_) (fun h64 => ?_)
            · simp only [decide_eq_true_eq] at h64
              rw [if_pos (by omega)] at ht
              exact fail 150 ht (by decide)
            · simp only [decide_eq_false_iff_not] at h64
              rw [if_neg (by omega)] at ht hzz
              have hn2 : den R (add nx1 (k64 1)) = .int .i64 (i + 1 + 1) := d_add (R := R) dn1 (d_k .i64 1) (by omega) (by omega)
              refine round_know (len_le R (d_v e2) (by omega)) (nextD (.inl rfl) hI e0 e1 e2 e3 hl hlen hn2 hc h0 (by omega) (by omega) (by omega) ?_ ?_)
              · rw [hc0, ← hzz]; exact hz
              · rw [hc0]; exact ht
          · simp only [decide_eq_false_iff_not] at hd1
            replace hd1 : ¬ l.getD (i + 1).toNat 0 = 255 := hd1
            rw [if_neg hd1] at ht
            exact fail 150 ht (by decide)
      · simp only [decide_eq_false_iff_not] at h2
        exact fail 7 (tx_last h0 hlt h2 hc0) (by decide)
    · simp only [decide_eq_false_iff_not] at hc0
      replace hc0 : ¬ l.getD i.toNat 0 = 0 := hc0
      have ht := tx_one (out := out) h0 hlt hc0
      have hzz := tz_one (out := out) h0 hlt hc0
      refine round_ask (d_eql (d_lenI (d_v e2)) (d_k .i64 64)) (fun h64 => ?_) (fun h64 => ?_)
      · simp only [decide_eq_true_eq] at h64
        rw [if_pos (by omega)] at ht
        exact fail 150 ht (by decide)
      · simp only [decide_eq_false_iff_not] at h64
        rw [if_neg (by omega)] at ht hzz
        exact round_know (len_le R (d_v e2) (by omega)) (nextD (.inl rfl) hI e0 e1 e2 e3 hl hlen dn1 hc h0 (by omega) (by omega) (by omega) (by rw [← hzz]; exact hz) ht)
  · simp only [decide_eq_false_iff_not] at hge
    have : tzI l i out = true := by
      show txEnd _ _ = _
      rw [List.drop_eq_nil_of_le (by omega)]
      rfl
    rw [this] at hz
    cases hz
theorem loopDz : LoopOK Tryz.prog G theI codeD LDz := by
  refine loop_run (lps := []) (entS_ok (l := []) trivial) noLoops rDz okDz (invD true) muD (fun m a w hr hp => initD hr hp) ?_
  rintro R hI ⟨l, i, out, k, e0, e1, e2, e3, hl, hlen, h0, h1, ho, hz⟩
  have hn1 : i < l.length → den R nx1 = .int .i64 (i + 1) := fun h => d_add (R := R) (d_v e1) (d_k .i64 1) (by omega) (by omega)
  unfold rDz
  refine round_ask (d_lss (d_v e1) (d_lenI (d_v e0))) (fun hlt => ?_) (fun hge => ⟨rfl, rfl⟩)
  simp only [decide_eq_true_eq] at hlt
  have dn1 := hn1 hlt
  have hc := d_atI (d_v e0) (d_v e1) h0 hlt
  have dlt := d_lss dn1 (d_lenI (d_v e0))
  refine round_know (by rw [d_lss (d_v e1) (d_k .i64 0)]; simp; omega) (round_ask (d_eql hc (d_k .u8 0)) (fun hc0 => ?_) (fun hc0 => ?_))
  · simp only [decide_eq_true_eq] at hc0
    replace hc0 : l.getD i.toNat 0 = 0 := hc0
    refine round_ask dlt (fun h2 => ?_) (fun h2 => ?_)
    · simp only [decide_eq_true_eq] at h2
      have hd := d_atI (d_v e0) dn1 (by omega) h2
      have ht := tx_two (out := out) h0 h2 hc0
      have hzz := tz_two (out := out) h0 h2 hc0
      rw [hz] at hzz
      refine round_know (by rw [d_lss dn1 (d_k .i64 0)]; simp; omega) (round_ask (d_eql hd (d_k .u8 0)) (fun hd0 => ?_) (fun hd0 => ?_))
      · simp only [decide_eq_true_eq] at hd0
        replace hd0 : l.getD (i + 1).toNat 0 = 0 := hd0
        rw [if_pos hd0] at hzz
        cases hzz
      · simp only [decide_eq_false_iff_not] at hd0
        replace hd0 : ¬ l.getD (i + 1).toNat 0 = 0 := hd0
        rw [if_neg hd0] at ht hzz
        refine round_ask (d_eql hd (d_k .u8 255)) (fun hd1 => ?_) (fun hd1 => ?_)
        · simp only [decide_eq_true_eq] at hd1
          replace hd1 : l.getD (i + 1).toNat 0 = 255 := hd1
          rw [if_pos hd1] at ht hzz
          refine round_ask (d_eql (d_lenI (d_v e2)) (d_k .i64 64)) (fun h64 => ?_) (fun h64 => ?_)
          · simp only [decide_eq_true_eq] at h64
            rw [if_pos (by omega)] at hzz
            cases hzz
          · simp only [decide_eq_false_iff_not] at h64
            rw [if_neg (by omega)] at ht hzz
            have hn2 : den R (add nx1 (k64 1)) = .int .i64 (i + 1 + 1) := d_add (R := R) dn1 (d_k .i64 1) (by omega) (by omega)
            refine round_know (len_le R (d_v e2) (by omega)) (nextD (.inr rfl) hI e0 e1 e2 e3 hl hlen hn2 hc h0 (by omega) (by omega) (by omega) ?_ ?_)
            · rw [hc0]; exact hzz.symm
            · rw [hc0]; exact ht
        · simp only [decide_eq_false_iff_not] at hd1
          replace hd1 : ¬ l.getD (i + 1).toNat 0 = 255 := hd1
          rw [if_neg hd1] at hzz
          cases hzz
    · simp only [decide_eq_false_iff_not] at h2
      rw [tz_last h0 hlt h2 hc0] at hz
      cases hz
  · simp only [decide_eq_false_iff_not] at hc0
    replace hc0 : ¬ l.getD i.toNat 0 = 0 := hc0
    have ht := tx_one (out := out) h0 hlt hc0
    have hzz := tz_one (out := out) h0 hlt hc0
    rw [hz] at hzz
    refine round_ask (d_eql (d_lenI (d_v e2)) (d_k .i64 64)) (fun h64 => ?_) (fun h64 => ?_)
    · simp only [decide_eq_true_eq] at h64
      rw [if_pos (by omega)] at hzz
      cases hzz
    · simp only [decide_eq_false_iff_not] at h64
      rw [if_neg (by omega)] at ht hzz
      exact round_know (len_le R (d_v e2) (by omega)) (nextD (.inr rfl) hI e0 e1 e2 e3 hl hlen dn1 hc h0 (by omega) (by omega) (by omega) hzz.symm ht)
theorem lD1 : LoopsAre theI 19 [(24, LD)] := loops1 (by kernel_rfl) loopD
theorem lDz1 : LoopsAre theI 19 [(24, LDz)] := loops1 (by kernel_rfl) loopDz
end Go.Proofs.YtjplhjnbcjohoaaGreatDoor
namespace Go.Proofs.YtjplhjnbcjohoaaGreatDoor
open Go Go.AM
/-! ### the document's reading of a value: the function -/
noncomputable abbrev kX : SX := .conv .i64 (aB (k64 0))
noncomputable abbrev s0X : SX := .ks (bstr #[])
noncomputable abbrev noV (e : SX) : Pln := .done [[k64 0, k64 0, s0X], [k64 0], [e]]
noncomputable abbrev ty (f : Nat) : SX := .app f [.v 0, k64 1, .emp]
noncomputable abbrev c19 : SX := .cut (.v 0) (k64 1) (k64 9)
noncomputable abbrev b19 (j : Nat) : SX := .at c19 (k64 j) 0
noncomputable abbrev m8 (x y : SX) : SX := .bin .add (.bin .mul (.ki .u64 (.ofNat 256)) x) (.conv .u64 y)
noncomputable abbrev n19 : SX := m8 (m8 (m8 (m8 (m8 (m8 (m8 (.bin .add (.ki .u64 (.ofNat 0)) (.conv .u64 (b19 0))) (b19 1)) (b19 2)) (b19 3)) (b19 4)) (b19 5)) (b19 6)) (b19 7)
noncomputable abbrev v19 : SX := .conv .i64 (.bin .add n19 (.ki .u64 (.ofNat 9223372036854775808)))
noncomputable abbrev f19 : List (SX × Bool) := [(lss (k64 0) (.len c19), true), (lss (k64 1) (.len c19), true), (lss (k64 2) (.len c19), true), (lss (k64 3) (.len c19), true), (lss (k64 4) (.len c19), true), (lss (k64 5) (.len c19), true), (lss (k64 6) (.len c19), true), (lss (k64 7) (.len c19), true), (lss (k64 8) (.len c19), false)]
noncomputable abbrev pTxt (b : Bool) : Pln := match b with
  | true => noV (k64 7)
  | false => .ask (eql (ty 121) (k64 0)) (.done [[kX, k64 0, .text (ty 122)], [ty 123], [k64 0]]) (noV (ty 121))
noncomputable def pDr (b : Bool) : Pln :=
  knows [((lenOK 0).1, false), (ty 134, b), (lss (k64 64) (.len .emp), false)] (.ask (lss (.len (.v 0)) (k64 1)) (noV (k64 7))
    (.know (lss (k64 0) (.len (.v 0))) true
      (.ask (eql kX (k64 1)) (.done [[kX, k64 0, s0X], [k64 1], [k64 0]])
        (.ask (eql kX (k64 2))
          (.ask (lss (.len (.v 0)) (k64 2)) (noV (k64 7))
            (.know (lss (k64 1) (.len (.v 0))) true (.ask (lss (u8k 1) (aB (k64 1))) (noV (k64 150)) (.done [[kX, .conv .i64 (aB (k64 1)), s0X], [k64 2], [k64 0]]))))
          (.ask (eql kX (k64 3))
            (.ask (lss (.len (.v 0)) (k64 9)) (noV (k64 7)) (knows f19 (.done [[kX, v19, s0X], [k64 9], [k64 0]])))
            (.ask (eql kX (k64 4)) (pTxt b) (noV (k64 150))))))))
noncomputable abbrev lpD : Bool → List (Nat × LoopSp)
  | true => [(24, LDz)]
  | false => [(24, LD)]
theorem kDrT : (hasB 19 && checkPlan [.agg tV, .one tI, .one tI] (runI theI (entS []) [(24, LDz)] [] 19 [.one tB]) [] (pDr true)) = true := by kernel_rfl
theorem kDrF : (hasB 19 && checkPlan [.agg tV, .one tI, .one tI] (runI theI (entS []) [(24, LD)] [] 19 [.one tB]) [] (pDr false)) = true := by kernel_rfl
theorem one_l {ds : List (List DV)} (h : IsArgs [.one tB] ds) : ∃ l : List Int, ds = [[.list (bytesI l)]] ∧ AreB l ∧ l.length ≤ maxLen := by
  simp only [IsArgs, IsOne] at h
  obtain ⟨_, _, rfl, ⟨d, rfl, hd⟩, rfl⟩ := h
  obtain ⟨l, rfl, h1, h2⟩ := hd.ints
  exact ⟨l, rfl, h1, h2⟩
def decRes (p : Int × List DV × Nat) : List (List DV) := [p.2.1, [.int .i64 p.2.2], [.int .i64 p.1]]
theorem FdecV_I (l : List Int) : FdecV [[DV.list (bytesI l)]].flatten = decRes (decV l) := by
  have e : intsD [[DV.list (bytesI l)]].flatten 0 = l := ints_bytes l
  unfold FdecV
  rw [e]
  rfl
theorem pre_len {R : Rho} {l : List Int} (hp : den R (lenOK 0).1 = .bool (lenOK 0).2) (q0 : R.ρ 0 = .list (bytesI l)) : l.length ≤ 1000000 := by
  rw [d_lss (d_k .i64 1000000) (d_lenI (d_v q0))] at hp
  simp only [DV.bool.injEq, decide_eq_false_iff_not] at hp
  omega
theorem goal_noV {R : Rho} {l : List Int} {x : SX} {e : Int} (hx : den R x = .int .i64 e) (h : decV l = noVal e) : goalPlan R (decRes (decV l)) (noV x) := by
  show _ = _
  rw [h]
  simp only [List.map_cons, List.map_nil, hx]
  rfl
/-- Bytes of a cut, one by one. -/
theorem d_chain {R : Rho} {x : SX} {a b c d e f g h : Int} (hx : ∀ j z, ([a, b, c, d, e, f, g, h] : List Int)[j]? = some z → den R (.at x (k64 j) 0) = .int .u8 z) (hB : AreB [a, b, c, d, e, f, g, h]) :
    den R (m8 (m8 (m8 (m8 (m8 (m8 (m8 (.bin .add (.ki .u64 (.ofNat 0)) (.conv .u64 (.at x (k64 0) 0))) (.at x (k64 1) 0)) (.at x (k64 2) 0)) (.at x (k64 3) 0)) (.at x (k64 4) 0)) (.at x (k64 5) 0)) (.at x (k64 6) 0)) (.at x (k64 7) 0)) = .int .u64 (numI [a, b, c, d, e, f, g, h]) ∧ 0 ≤ numI [a, b, c, d, e, f, g, h] ∧ numI [a, b, c, d, e, f, g, h] ≤ 18446744073709551615 := by
  have ba := areB_mem hB (z := a) (by simp)
  have bb := areB_mem hB (z := b) (by simp)
  have bc := areB_mem hB (z := c) (by simp)
  have bd := areB_mem hB (z := d) (by simp)
  have be := areB_mem hB (z := e) (by simp)
  have bf := areB_mem hB (z := f) (by simp)
  have bg := areB_mem hB (z := g) (by simp)
  have bh := areB_mem hB (z := h) (by simp)
  have s0 := d_mul0 (hx 0 a rfl) ba
  have s1 := d_mul8 s0 (hx 1 b rfl) (by omega) (by omega) bb
  have s2 := d_mul8 s1 (hx 2 c rfl) (by omega) (by omega) bc
  have s3 := d_mul8 s2 (hx 3 d rfl) (by omega) (by omega) bd
  have s4 := d_mul8 s3 (hx 4 e rfl) (by omega) (by omega) be
  have s5 := d_mul8 s4 (hx 5 f rfl) (by omega) (by omega) bf
  have s6 := d_mul8 s5 (hx 6 g rfl) (by omega) (by omega) bg
  have s7 := d_mul8 s6 (hx 7 h rfl) (by omega) (by omega) bh
  rw [numI_8]
  exact ⟨s7, by omega, by omega⟩
theorem goalDr {b : Bool} {ds : List (List DV)} (h : IsArgs [.one tB] ds) (hp : ∀ p ∈ [lenOK 0], den (rhoOf theI ds.flatten) p.1 = .bool p.2) (hb : txEnd ((intsD ds.flatten 0).drop 1) [] = b) : goalPlan (rhoOf theI ds.flatten) (FdecV ds.flatten) (pDr b) := by
  obtain ⟨l, rfl, hB, hlm⟩ := one_l h
  rw [FdecV_I]
  have hb : txEnd (l.drop 1) [] = b := by
    have e : intsD [[DV.list (bytesI l)]].flatten 0 = l := ints_bytes l
    rw [e] at hb
    exact hb
  have hp := hp (lenOK 0) (by simp)
  generalize hR : rhoOf theI [[DV.list (bytesI l)]].flatten = R at hp ⊢
  have hI : R.I = theI := by rw [← hR]; rfl
  have q0 : R.ρ 0 = .list (bytesI l) := by rw [← hR]; rfl
  have hlen := pre_len hp q0
  have dl := d_lenI (d_v q0)
  have T1 : txI l 1 [] = txt (l.drop 1) [] 1 := rfl
  unfold pDr
  refine goal_knows (l := [_, _, _]) ?_ ?_
  · intro q hq
    simp only [List.mem_cons, List.not_mem_nil, or_false] at hq
    rcases hq with rfl | rfl | rfl
    · exact hp
    · rw [d134 hI (d_v q0) (d_k .i64 1) (emp_I R)]
      exact congrArg DV.bool hb
    · rfl
  refine goal_ask (d_lss dl (d_k .i64 1)) (fun h1 => ?_) (fun h1 => ?_)
  · simp only [decide_eq_true_eq] at h1
    have : l = [] := List.length_eq_zero_iff.1 (by omega)
    subst this
    exact goal_noV (d_k .i64 7) rfl
  · simp only [decide_eq_false_iff_not] at h1
    obtain ⟨k, r, rfl⟩ : ∃ k r, l = k :: r := by
      cases l with
      | nil => simp at h1
      | cons k r => exact ⟨k, r, rfl⟩
    have bk := areB_mem hB (z := k) (by simp)
    have hk : den R kX = .int .i64 k := d_ci (d_atI (d_v q0) (d_k .i64 0) (by omega) (by simp)) ⟨bk.1, by omega, by omega⟩
    have fin : ∀ (x y z : SX) (n : Int) (s : ByteArray) (u : Nat), decV (k :: r) = aVal k n s u → den R x = .int .i64 n → den R y = .str s → den R z = .int .i64 u → goalPlan R (decRes (decV (k :: r))) (.done [[kX, x, y], [z], [k64 0]]) := by
      intro x y z n s u h1 h2 h3 h4
      show _ = _
      rw [h1]
      simp only [List.map_cons, List.map_nil, hk, h2, h3, h4]
      rfl
    have ds0 : den R s0X = .str ⟨#[]⟩ := rfl
    refine goal_know (by rw [d_lss (d_k .i64 0) dl]; simp) ?_
    refine goal_ask (d_eql hk (d_k .i64 1)) (fun k1 => ?_) (fun k1 => ?_)
    · simp only [decide_eq_true_eq] at k1
      replace k1 : k = 1 := k1
      subst k1
      exact fin _ _ _ 0 ⟨#[]⟩ 1 rfl (d_k .i64 0) ds0 (d_k .i64 1)
    simp only [decide_eq_false_iff_not] at k1
    replace k1 : ¬ k = 1 := k1
    refine goal_ask (d_eql hk (d_k .i64 2)) (fun k2 => ?_) (fun k2 => ?_)
    · simp only [decide_eq_true_eq] at k2
      replace k2 : k = 2 := k2
      subst k2
      refine goal_ask (d_lss dl (d_k .i64 2)) (fun h2 => ?_) (fun h2 => ?_)
      · simp only [decide_eq_true_eq, List.length_cons] at h2
        have : r = [] := List.length_eq_zero_iff.1 (by omega)
        subst this
        exact goal_noV (d_k .i64 7) rfl
      · simp only [decide_eq_false_iff_not, List.length_cons] at h2
        obtain ⟨n, r', rfl⟩ : ∃ n r', r = n :: r' := by
          cases r with
          | nil => simp at h2
          | cons n r' => exact ⟨n, r', rfl⟩
        have bn := areB_mem hB (z := n) (by simp)
        have dn : den R (aB (k64 1)) = .int .u8 n := d_atI (d_v q0) (d_k .i64 1) (by omega) (by simp; omega)
        refine goal_know (by rw [d_lss (d_k .i64 1) dl]; simp; omega) (goal_ask (d_lss (d_k .u8 1) dn) (fun h3 => ?_) (fun h3 => ?_))
        · simp only [decide_eq_true_eq] at h3
          replace h3 : 1 < n := h3
          exact goal_noV (d_k .i64 150) (show (if 1 < n then _ else _) = _ from if_pos h3)
        · simp only [decide_eq_false_iff_not] at h3
          replace h3 : ¬ 1 < n := h3
          exact fin _ _ _ n ⟨#[]⟩ 2 (show (if 1 < n then _ else _) = _ from if_neg h3) (d_ci dn ⟨bn.1, by omega, by omega⟩) ds0 (d_k .i64 2)
    simp only [decide_eq_false_iff_not] at k2
    replace k2 : ¬ k = 2 := k2
    refine goal_ask (d_eql hk (d_k .i64 3)) (fun k3 => ?_) (fun k3 => ?_)
    · simp only [decide_eq_true_eq] at k3
      replace k3 : k = 3 := k3
      subst k3
      refine goal_ask (d_lss dl (d_k .i64 9)) (fun h2 => ?_) (fun h2 => ?_)
      · simp only [decide_eq_true_eq, List.length_cons] at h2
        have h8 : r.length < 8 := by omega
        exact goal_noV (d_k .i64 7) (show (if r.length < 8 then _ else _) = _ from if_pos h8)
      · simp only [decide_eq_false_iff_not, List.length_cons] at h2
        have h8 : ¬ r.length < 8 := by omega
        obtain ⟨a, b', c, d, e, f, g, i, r', rfl⟩ := eight h8
        have hC : den R c19 = .list (bytesI [a, b', c, d, e, f, g, i]) := by
          rw [d_cutI (d_v q0) (d_k .i64 1) (d_k .i64 9)]
          rfl
        have dC := d_lenI hC
        have hx : ∀ j z, ([a, b', c, d, e, f, g, i] : List Int)[j]? = some z → den R (.at c19 (k64 j) 0) = .int .u8 z := by
          intro j z hj
          have hlt := (List.getElem?_eq_some_iff.1 hj).1
          have h8 : j < 8 := by simpa using hlt
          rw [d_atI hC (d_k .i64 j) (by omega) (by simp; omega)]
          simp only [Int.toNat_natCast, List.getD_eq_getElem?_getD, hj, Option.getD_some]
        obtain ⟨n1, n2, n3⟩ := d_chain hx (fun z hz => hB z (List.mem_cons_of_mem _ (show z ∈ [a, b', c, d, e, f, g, i] ++ r' from List.mem_append_left _ hz)))
        refine goal_knows (l := f19) ?_ ?_
        · intro q hq
          simp only [f19, List.mem_cons, List.not_mem_nil, or_false] at hq
          rcases hq with rfl | rfl | rfl | rfl | rfl | rfl | rfl | rfl | rfl <;> (rw [d_lss (d_k .i64 _) dC]; rfl)
        · exact fin _ _ _ (numI [a, b', c, d, e, f, g, i] - 9223372036854775808) ⟨#[]⟩ 9 (show (if (a :: b' :: c :: d :: e :: f :: g :: i :: r').length < 8 then noVal 7 else aVal 3 (numI [a, b', c, d, e, f, g, i] - 9223372036854775808) ⟨#[]⟩ 9) = _ from if_neg h8) (d_unsign' n1 n2 n3) ds0 (d_k .i64 9)
    simp only [decide_eq_false_iff_not] at k3
    replace k3 : ¬ k = 3 := k3
    refine goal_ask (d_eql hk (d_k .i64 4)) (fun k4 => ?_) (fun k4 => ?_)
    · simp only [decide_eq_true_eq] at k4
      replace k4 : k = 4 := k4
      subst k4
      have hdec : ∀ e out u, txt r [] 1 = (e, out, u) → decV (4 :: r) = if e = 0 then aVal 4 0 (textI out) u else noVal e := by
        intro e out u ht
        show (match txt r [] 1 with | (e, out, u) => if e = 0 then aVal 4 0 (textI out) u else noVal e) = _
        rw [ht]
      replace hb : txEnd r [] = b := hb
      cases b with
      | true =>
        exact goal_noV (d_k .i64 7) (hdec _ _ _ (txEnd_spec _ r (Nat.le_refl _) [] 1 hb))
      | false =>
        have E := d121 (y := k64 1) (i := 1) hI (d_v q0) (d_k .i64 1) (emp_I R)
        have E2 := d122 (y := k64 1) (i := 1) hI (d_v q0) (d_k .i64 1) (emp_I R)
        have E3 := d123 (y := k64 1) (i := 1) hI (d_v q0) (d_k .i64 1) (emp_I R)
        have T : txI (4 :: r) 1 [] = txt r [] 1 := rfl
        rw [T] at E E2 E3
        cases ht : txt r [] 1 with
        | mk e p =>
          obtain ⟨out, u⟩ := p
          rw [ht] at E E2 E3
          refine goal_ask (d_eql E (d_k .i64 0)) (fun h0 => ?_) (fun h0 => ?_)
          · simp only [decide_eq_true_eq] at h0
            replace h0 : e = 0 := h0
            exact fin _ _ _ 0 (textI out) u ((hdec _ _ _ ht).trans (if_pos h0)) (d_k .i64 0) (text_I R E2) E3
          · simp only [decide_eq_false_iff_not] at h0
            replace h0 : ¬ e = 0 := h0
            exact goal_noV E ((hdec _ _ _ ht).trans (if_neg h0))
    · simp only [decide_eq_false_iff_not] at k4
      replace k4 : ¬ k = 4 := k4
      refine goal_noV (d_k .i64 150) ?_
      show (if k = 1 then _ else _) = _
      rw [if_neg k1, if_neg k2, if_neg k3, if_neg k4]
      rfl
theorem fnDr : FnOK Tryz.prog G 19 [.one tB] [.agg tV, .one tI, .one tI] (fun ds => ∀ p ∈ [lenOK 0], den (rhoOf theI ds) p.1 = .bool p.2) FdecV := by
  have kt := kDrT
  have kf := kDrF
  rw [Bool.and_eq_true] at kt kf
  have ft : FnOK Tryz.prog G 19 [.one tB] [.agg tV, .one tI, .one tI] (fun ds => (∀ p ∈ [lenOK 0], den (rhoOf theI ds) p.1 = .bool p.2) ∧ txEnd ((intsD ds 0).drop 1) [] = true) FdecV :=
    fn_run (entS_ok (l := []) trivial) [(24, LDz)] _ lDz1 kt.1 (pDr true) kt.2 fun ds h hp => goalDr h hp.1 hp.2
  have ff : FnOK Tryz.prog G 19 [.one tB] [.agg tV, .one tI, .one tI] (fun ds => (∀ p ∈ [lenOK 0], den (rhoOf theI ds) p.1 = .bool p.2) ∧ txEnd ((intsD ds 0).drop 1) [] = false) FdecV :=
    fn_run (entS_ok (l := []) trivial) [(24, LD)] _ lD1 kf.1 (pDr false) kf.2 fun ds h hp => goalDr h hp.1 hp.2
  refine ⟨ft.1, fun E ds vs w hE hr hp hg => ?_⟩
  cases hb : txEnd ((intsD ds.flatten 0).drop 1) [] with
  | true => exact ft.2 E ds vs w hE hr ⟨hp, hb⟩ hg
  | false => exact ff.2 E ds vs w hE hr ⟨hp, hb⟩ hg
noncomputable def eDr : Ent := eFn 19 [.one tB] [.agg tV, .one tI, .one tI] [lenOK 0] 12
theorem eDr_ok : EntsOK Tryz.prog G theI [eDr] := ⟨eFn_ok plainG fnDr (fun _ => rfl) [] (by kernel_rfl), trivial⟩
end Go.Proofs.YtjplhjnbcjohoaaGreatDoor
namespace Go.Proofs.YtjplhjnbcjohoaaGreatDoor
open Go Go.AM
/-! ### value.Decode: the loop of its text -/
noncomputable def bRd0 : Blk := { t := 159, row := false, sz := 1, n := 0, z := [.dead], c := .nil }
noncomputable def bRd (i : Nat) : Blk := { t := 159, row := false, sz := 1, n := 3, z := [.dead], c := (((Tr.nil : Tr AV).put 0 (.sy tB (.v 0))).put 1 (.sy tI (.v i))).put 2 (.sc (.int .i64 0)) }
noncomputable def TT : Tmpl := { tm := [(0, .ptr 1 0), (4, .own 9 [tU8] (.v 2))], ob := [(1, bRd 1)], ow := [⟨9, 5, [tU8], .v 2⟩], src := [.cell 1 0 tB, .cell 1 1 tI, .own 0], osrc := [.tm 4 5 [tU8]] }
noncomputable def YTy : Tmpl := { tm := [(2, .sy .str (.v 1)), (3, .sc (.int .i64 0))], ob := [(1, bRd 2)], src := [.cell 1 0 tB, .tm 2 .str, .cell 1 1 tI] }
noncomputable def YTn : Tmpl := { tm := [(2, .sc (.string ⟨#[]⟩)), (3, .sy tI (.v 0))], ob := [(1, bRd0)], src := [.tm 3 tI] }
noncomputable def LT : LoopSp := { n := 42, T := TT, pre := [(lss (k64 1000000) (.len (.v 0)), false), (lss (.v 1) (k64 0), false), (lss (.len (.v 0)) (.v 1), false), (lss (k64 64) (.len (.v 2)), false)], cnd := eql (tx 121) (k64 0), yes := (.ret, YTy, [.v 0, .text (tx 122), tx 123]), no := (.ret, YTn, [tx 121]) }
noncomputable abbrev codeT : Code := loopAt 83 0
noncomputable abbrev nx2 : SX := add nx1 (k64 1)
/-- A byte that the reader hands out: all, the place behind it. -/
noncomputable abbrev cutR (e : SX) : SX := .cut (.v 0) (sub e (k64 1)) e
noncomputable abbrev rdB (e : SX) : SX := .conv .u8 (.bin .or (.ki .u64 (.ofNat 0)) (.conv .u64 (.at (cutR e) (k64 0) 0)))
noncomputable abbrev fR (e : SX) : List (SX × Bool) := [(lss (sub e (k64 1)) (k64 0), false), (lss e (sub e (k64 1)), false), (lss (.len (.v 0)) e, false), (lss (k64 0) (.len (cutR e)), true), (lss (k64 1) (.len (cutR e)), false)]
noncomputable abbrev ocT : SX := .cat (.v 2) (.row [rdB nx1])
noncomputable def rT : RPln :=
  .ask (lss (sub (.len (.v 0)) (.v 1)) (k64 1))
    (.exit false [k64 7])
    (knowR (fR nx1)
      (.ask (eql (rdB nx1) (u8k 0))
        (.ask (lss (sub (.len (.v 0)) nx1) (k64 1))
          (.exit false [k64 7])
          (knowR (fR nx2)
            (.ask (eql (rdB nx2) (u8k 0))
              (.exit true [.v 0, .text (.v 2), nx2])
              (.ask (eql (rdB nx2) (u8k 255))
                (.ask (eql (.len (.v 2)) (k64 64))
                  (.exit false [k64 150])
                  (.know (lss (k64 1000000) (.len (.v 2))) false (.next [.v 0, nx2, ocT])))
                (.exit false [k64 150])))))
        (.ask (eql (.len (.v 2)) (k64 64))
          (.exit false [k64 150])
          (.know (lss (k64 1000000) (.len (.v 2))) false (.next [.v 0, nx1, ocT])))))
theorem okT : (LT.yes.2.1.ok LT.T LT.n && LT.no.2.1.ok LT.T LT.n && checkRound LT (roundI theI (entS []) [] codeT) [] rT) = true := by kernel_rfl
theorem one_cut {l : List Int} {i : Nat} (h : i < l.length) : (l.take (i + 1)).drop i = [l.getD i 0] := by
  rw [List.take_add_one, List.drop_append_of_le_length (by rw [List.length_take]; omega), List.drop_of_length_le (by rw [List.length_take]; omega)]
  rw [List.getElem?_eq_getElem h, List.getD_eq_getElem?_getD, List.getElem?_eq_getElem h]
  rfl
/-- What the reader hands out. -/
theorem rd_I {R : Rho} {l : List Int} {e : SX} {i : Int} (q0 : R.ρ 0 = .list (bytesI l)) (he : den R e = .int .i64 (i + 1)) (h0 : 0 ≤ i) (h1 : i < l.length) (hB : AreB l) (hlen : l.length ≤ 1000000) :
    den R (rdB e) = .int .u8 (l.getD i.toNat 0) ∧ ∀ q ∈ fR e, den R q.1 = .bool q.2 := by
  have hs : den R (sub e (k64 1)) = .int .i64 (i + 1 - 1) := d_sub he (d_k .i64 1) (by omega) (by omega)
  rw [show i + 1 - 1 = i by omega] at hs
  have hC : den R (cutR e) = .list (bytesI [l.getD i.toNat 0]) := by
    rw [d_cutI (d_v q0) hs he]
    congr 1
    rw [show (i + 1).toNat = i.toNat + 1 by omega, one_cut (by omega)]
  have hb := areB_mem hB (z := l.getD i.toNat 0) (by
    rw [List.getD_eq_getElem?_getD, List.getElem?_eq_getElem (by omega)]
    exact List.getElem_mem _)
  have hat : den R (.at (cutR e) (k64 0) 0) = .int .u8 (l.getD i.toNat 0) := d_atI (l := [l.getD i.toNat 0]) (z := ((0 : Nat) : Int)) hC (d_k .i64 0) (by omega) (by simp)
  refine ⟨d_c8 (d_or0 hat hb) hb, fun q hq => ?_⟩
  simp only [fR, List.mem_cons, List.not_mem_nil, or_false] at hq
  rcases hq with rfl | rfl | rfl | rfl | rfl
  · rw [d_lss hs (d_k .i64 0)]; simp; omega
  · rw [d_lss he hs]; simp; omega
  · rw [d_lss (d_lenI (d_v q0)) he]; simp; omega
  · rw [d_lss (d_k .i64 0) (d_lenI hC)]; rfl
  · rw [d_lss (d_k .i64 1) (d_lenI hC)]; rfl
def invT (R : Rho) : Prop := ∃ l i out, R.ρ 0 = .list (bytesI l) ∧ R.ρ 1 = .int .i64 i ∧ R.ρ 2 = .list (bytesI out) ∧ AreB l ∧ l.length ≤ 1000000 ∧ 0 ≤ i ∧ i ≤ l.length ∧ out.length ≤ 64
theorem nextT {R : Rho} (hI : R.I = theI) {l out : List Int} {i : Int} (e0 : R.ρ 0 = .list (bytesI l)) (e1 : R.ρ 1 = .int .i64 i) (e2 : R.ρ 2 = .list (bytesI out)) (hl : AreB l) (hlen : l.length ≤ 1000000)
    {e : SX} {j c : Int} (he : den R e = .int .i64 j) (hc : den R (rdB nx1) = .int .u8 c) (h0 : 0 ≤ i) (hj : i < j) (hj2 : j ≤ l.length) (ho : out.length < 64) (ht : txI l i out = txI l j (out ++ [c])) :
    goalRound LT invT muD R (.next [.v 0, e, ocT]) := by
  have hoc := cat_I R (d_v e2) (row_I R hc)
  have s0 := sub_get R [.v 0, e, ocT] 0 rfl (d_v e0)
  have s1 := sub_get R [.v 0, e, ocT] 1 rfl he
  have s2 := sub_get R [.v 0, e, ocT] 2 rfl hoc
  refine ⟨⟨l, j, out ++ [c], s0, s1, s2, hl, hlen, by omega, hj2, by simp; omega⟩, ?_, ?_, fun b _ => ?_⟩
  · simp only [muD, s0, s1, e0, e1, len_bytesI]
    omega
  · show den (R.sub _) (eql (tx 121) (k64 0)) = den R (eql (tx 121) (k64 0))
    rw [d_eql (d121 (R := R.sub _) hI (d_v s0) (d_v s1) (d_v s2)) (d_k .i64 0), d_eql (d121 hI (d_v e0) (d_v e1) (d_v e2)) (d_k .i64 0), ht]
  · cases b
    · show [den (R.sub _) (tx 121)] = [den R (tx 121)]
      rw [d121 (R := R.sub _) hI (d_v s0) (d_v s1) (d_v s2), d121 hI (d_v e0) (d_v e1) (d_v e2), ht]
    · show [den (R.sub _) (.v 0), den (R.sub _) (.text (tx 122)), den (R.sub _) (tx 123)] = [den R (.v 0), den R (.text (tx 122)), den R (tx 123)]
      rw [text_I (R.sub _) (d122 (R := R.sub _) hI (d_v s0) (d_v s1) (d_v s2)), text_I R (d122 hI (d_v e0) (d_v e1) (d_v e2)), d123 (R := R.sub _) hI (d_v s0) (d_v s1) (d_v s2), d123 hI (d_v e0) (d_v e1) (d_v e2), ht, d_v s0, d_v e0]
theorem loopT : LoopOK Tryz.prog G theI codeT LT := by
  refine loop_run (lps := []) (entS_ok (l := []) trivial) noLoops rT okT invT muD ?_ ?_
  · intro m a w hr hp
    obtain ⟨l, e0, hl, _⟩ := (head_cell hr (id := 1) (k := 0) (i := 0) (ty := tB) (b := bRd 1) (by kernel_rfl) (by decide) (by kernel_rfl)).ints
    obtain ⟨i, e1, _⟩ := (head_cell hr (id := 1) (k := 1) (i := 1) (ty := tI) (b := bRd 1) (by kernel_rfl) (by decide) (by kernel_rfl)).i64
    obtain ⟨out, e2, _, _⟩ := (head_own hr (t := 4) (id := 9) (i := 2) (el := 5) (ts := [tU8]) (by kernel_rfl) (by kernel_rfl)).ints
    have p1 := hp (lss (k64 1000000) (.len (.v 0)), false) (by simp [LT])
    have p2 := hp (lss (.v 1) (k64 0), false) (by simp [LT])
    have p3 := hp (lss (.len (.v 0)) (.v 1), false) (by simp [LT])
    have p4 := hp (lss (k64 64) (.len (.v 2)), false) (by simp [LT])
    rw [d_lss (d_k .i64 1000000) (d_lenI (d_v e0))] at p1
    rw [d_lss (d_v e1) (d_k .i64 0)] at p2
    rw [d_lss (d_lenI (d_v e0)) (d_v e1)] at p3
    rw [d_lss (d_k .i64 64) (d_lenI (d_v e2))] at p4
    simp only [DV.bool.injEq, decide_eq_false_iff_not] at p1 p2 p3 p4
    exact ⟨l, i, out, e0, e1, e2, hl, by omega, by omega, by omega, by omega⟩
  · rintro R hI ⟨l, i, out, e0, e1, e2, hl, hlen, h0, h1, ho⟩
    have E := d121 hI (d_v e0) (d_v e1) (d_v e2)
    have hcn : den R LT.cnd = _ := d_eql E (d_k .i64 0)
    have fail : ∀ n : Nat, txI l i out = ((n : Int), [], 0) → ¬ (n : Int) = 0 → goalRound LT invT muD R (.exit false [k64 n]) := by
      intro n hn hne
      refine ⟨?_, ?_⟩
      · rw [hcn, hn]
        simp only [DV.bool.injEq, decide_eq_false_iff_not]
        exact hne
      · show [den R (k64 n)] = [den R (tx 121)]
        rw [E, hn]
        rfl
    unfold rT
    refine round_ask (d_lss (d_sub (d_lenI (d_v e0)) (d_v e1) (by omega) (by omega)) (d_k .i64 1)) (fun hs => ?_) (fun hs => ?_)
    · simp only [decide_eq_true_eq] at hs
      refine fail 7 ?_ (by decide)
      show txt _ _ _ = _
      rw [List.drop_eq_nil_of_le (by omega)]
      rfl
    · simp only [decide_eq_false_iff_not] at hs
      have hlt : i < l.length := by omega
      have dn1 : den R nx1 = .int .i64 (i + 1) := d_add (R := R) (d_v e1) (d_k .i64 1) (by omega) (by omega)
      obtain ⟨hc, hf1⟩ := rd_I e0 dn1 h0 hlt hl hlen
      refine round_knows hf1 (round_ask (d_eql hc (d_k .u8 0)) (fun hc0 => ?_) (fun hc0 => ?_))
      · simp only [decide_eq_true_eq] at hc0
        replace hc0 : l.getD i.toNat 0 = 0 := hc0
        refine round_ask (d_lss (d_sub (d_lenI (d_v e0)) dn1 (by omega) (by omega)) (d_k .i64 1)) (fun h2 => ?_) (fun h2 => ?_)
        · simp only [decide_eq_true_eq] at h2
          exact fail 7 (tx_last h0 hlt (by omega) hc0) (by decide)
        · simp only [decide_eq_false_iff_not] at h2
          have h2 : i + 1 < l.length := by omega
          have dn2 : den R nx2 = .int .i64 (i + 1 + 1) := d_add (R := R) dn1 (d_k .i64 1) (by omega) (by omega)
          obtain ⟨hd, hf2⟩ := rd_I e0 dn2 (by omega) h2 hl hlen
          have ht := tx_two (out := out) h0 h2 hc0
          refine round_knows hf2 (round_ask (d_eql hd (d_k .u8 0)) (fun hd0 => ?_) (fun hd0 => ?_))
          · simp only [decide_eq_true_eq] at hd0
            replace hd0 : l.getD (i + 1).toNat 0 = 0 := hd0
            rw [if_pos hd0] at ht
            refine ⟨by rw [hcn, ht]; rfl, ?_⟩
            show [den R (.v 0), den R (.text (.v 2)), den R nx2] = [den R (.v 0), den R (.text (tx 122)), den R (tx 123)]
            rw [text_I R (d122 hI (d_v e0) (d_v e1) (d_v e2)), text_I R (d_v e2), d123 hI (d_v e0) (d_v e1) (d_v e2), ht, dn2]
            have : ((i.toNat + 2 : Nat) : Int) = i + 1 + 1 := by omega
            rw [this]
          · simp only [decide_eq_false_iff_not] at hd0
            replace hd0 : ¬ l.getD (i + 1).toNat 0 = 0 := hd0
            rw [if_neg hd0] at ht
            refine round_ask (d_eql hd (d_k .u8 255)) (fun hd1 => ?_) (fun hd1 => ?_)
            · simp only [decide_eq_true_eq] at hd1
              replace hd1 : l.getD (i + 1).toNat 0 = 255 := hd1
              rw [if_pos hd1] at ht
              refine round_ask (d_eql (d_lenI (d_v e2)) (d_k .i64 64)) (fun h64 => ?_) (fun h64 => ?_)
              · simp only [decide_eq_true_eq] at h64
                rw [if_pos (by omega)] at ht
                exact fail 150 ht (by decide)
              · simp only [decide_eq_false_iff_not] at h64
                rw [if_neg (by omega)] at ht
                refine round_know (len_le R (d_v e2) (by omega)) (nextT hI e0 e1 e2 hl hlen dn2 hc h0 (by omega) (by omega) (by omega) ?_)
                rw [hc0]
                exact ht
            · simp only [decide_eq_false_iff_not] at hd1
              replace hd1 : ¬ l.getD (i + 1).toNat 0 = 255 := hd1
              rw [if_neg hd1] at ht
              exact fail 150 ht (by decide)
      · simp only [decide_eq_false_iff_not] at hc0
        replace hc0 : ¬ l.getD i.toNat 0 = 0 := hc0
        have ht := tx_one (out := out) h0 hlt hc0
        refine round_ask (d_eql (d_lenI (d_v e2)) (d_k .i64 64)) (fun h64 => ?_) (fun h64 => ?_)
        · simp only [decide_eq_true_eq] at h64
          rw [if_pos (by omega)] at ht
          exact fail 150 ht (by decide)
        · simp only [decide_eq_false_iff_not] at h64
          rw [if_neg (by omega)] at ht
          exact round_know (len_le R (d_v e2) (by omega)) (nextT hI e0 e1 e2 hl hlen dn1 hc h0 (by omega) (by omega) (by omega) ht)
theorem lT : LoopsAre theI 83 [(3, LT)] := loops1 (by kernel_rfl) loopT
noncomputable abbrev subT : SubL := [(83, [(3, LT)])]
theorem subT_ok : SubsOK theI subT := ⟨lT, trivial⟩
end Go.Proofs.YtjplhjnbcjohoaaGreatDoor
namespace Go.Proofs.YtjplhjnbcjohoaaGreatDoor
open Go Go.AM
/-! ### value.Decode -/
noncomputable abbrev cR (a b : Nat) : SX := .cut (.v 0) (k64 a) (k64 b)
noncomputable abbrev rB (a b : Nat) : SX := .conv .u8 (.bin .or (.ki .u64 (.ofNat 0)) (.conv .u64 (.at (cR a b) (k64 0) 0)))
noncomputable abbrev fC (a b : Nat) : List (SX × Bool) := [(lss (.len (.v 0)) (k64 b), false), (lss (k64 0) (.len (cR a b)), true), (lss (k64 1) (.len (cR a b)), false)]
noncomputable abbrev kP : SX := .conv .i64 (rB 0 1)
noncomputable abbrev nL (e : SX) : SX := sub (.len (.v 0)) (sub (.len (.v 0)) e)
noncomputable abbrev o8 (x y : SX) : SX := .bin .or (.bin .shl x (.ki .u64 (.ofNat 8))) (.conv .u64 y)
noncomputable abbrev p19 : SX := o8 (o8 (o8 (o8 (o8 (o8 (o8 (.bin .or (.ki .u64 (.ofNat 0)) (.conv .u64 (b19 0))) (b19 1)) (b19 2)) (b19 3)) (b19 4)) (b19 5)) (b19 6)) (b19 7)
noncomputable abbrev w19 : SX := .conv .i64 (.bin .xor p19 (.ki .u64 (.ofNat 9223372036854775808)))
noncomputable def pDv : Pln :=
  knows [((lenOK 0).1, false), (lss (k64 64) (.len .emp), false)] (.ask (lss (sub (.len (.v 0)) (k64 0)) (k64 1)) (noV (k64 7))
    (knows (fC 0 1)
      (.ask (eql kP (k64 1)) (.done [[kP, k64 0, s0X], [nL (k64 1)], [k64 0]])
        (.ask (eql kP (k64 2))
          (.ask (lss (sub (.len (.v 0)) (k64 1)) (k64 1)) (noV (k64 7))
            (knows (fC 1 2) (.ask (lss (k64 1) (.conv .i64 (rB 1 2))) (noV (k64 150)) (.done [[kP, .conv .i64 (rB 1 2), s0X], [nL (k64 2)], [k64 0]]))))
          (.ask (eql kP (k64 3))
            (.ask (lss (sub (.len (.v 0)) (k64 1)) (k64 8)) (noV (k64 7)) (.know (lss (.len (.v 0)) (k64 9)) false (knows f19 (.done [[kP, w19, s0X], [nL (k64 9)], [k64 0]]))))
            (.ask (eql kP (k64 4))
              (.ask (eql (ty 121) (k64 0)) (.done [[kP, k64 0, .text (ty 122)], [nL (ty 123)], [k64 0]]) (noV (ty 121)))
              (noV (k64 150))))))))
theorem kDv : (hasB 51 && checkPlan [.agg tV, .one tI, .one tI] (runS theI (entS []) subT [] [] 51 [.one tB]) [] pDv) = true := by kernel_rfl
theorem d_chainP {R : Rho} {x : SX} {a b c d e f g h : Int} (hx : ∀ j z, ([a, b, c, d, e, f, g, h] : List Int)[j]? = some z → den R (.at x (k64 j) 0) = .int .u8 z) (hB : AreB [a, b, c, d, e, f, g, h]) :
    den R (o8 (o8 (o8 (o8 (o8 (o8 (o8 (.bin .or (.ki .u64 (.ofNat 0)) (.conv .u64 (.at x (k64 0) 0))) (.at x (k64 1) 0)) (.at x (k64 2) 0)) (.at x (k64 3) 0)) (.at x (k64 4) 0)) (.at x (k64 5) 0)) (.at x (k64 6) 0)) (.at x (k64 7) 0)) = .int .u64 (numI [a, b, c, d, e, f, g, h]) ∧ 0 ≤ numI [a, b, c, d, e, f, g, h] ∧ numI [a, b, c, d, e, f, g, h] ≤ 18446744073709551615 := by
  have ba := areB_mem hB (z := a) (by simp)
  have bb := areB_mem hB (z := b) (by simp)
  have bc := areB_mem hB (z := c) (by simp)
  have bd := areB_mem hB (z := d) (by simp)
  have be := areB_mem hB (z := e) (by simp)
  have bf := areB_mem hB (z := f) (by simp)
  have bg := areB_mem hB (z := g) (by simp)
  have bh := areB_mem hB (z := h) (by simp)
  have s0 := d_or0 (hx 0 a rfl) ba
  have s1 := d_or8 s0 (hx 1 b rfl) (by omega) (by omega) bb
  have s2 := d_or8 s1 (hx 2 c rfl) (by omega) (by omega) bc
  have s3 := d_or8 s2 (hx 3 d rfl) (by omega) (by omega) bd
  have s4 := d_or8 s3 (hx 4 e rfl) (by omega) (by omega) be
  have s5 := d_or8 s4 (hx 5 f rfl) (by omega) (by omega) bf
  have s6 := d_or8 s5 (hx 6 g rfl) (by omega) (by omega) bg
  have s7 := d_or8 s6 (hx 7 h rfl) (by omega) (by omega) bh
  rw [numI_8]
  exact ⟨s7, by omega, by omega⟩
/-- The reader's byte at a known place. -/
theorem rB_I {R : Rho} {l : List Int} {a : Nat} (q0 : R.ρ 0 = .list (bytesI l)) (h1 : a < l.length) (hB : AreB l) : den R (rB a (a + 1)) = .int .u8 (l.getD a 0) ∧ ∀ q ∈ fC a (a + 1), den R q.1 = .bool q.2 := by
  have hC : den R (cR a (a + 1)) = .list (bytesI [l.getD a 0]) := by
    rw [d_cutI (d_v q0) (d_k .i64 a) (d_k .i64 (a + 1))]
    congr 1
    rw [show (((a + 1 : Nat) : Int)).toNat = a + 1 by omega, show ((a : Int)).toNat = a by omega, one_cut h1]
  have hb := areB_mem hB (z := l.getD a 0) (by
    rw [List.getD_eq_getElem?_getD, List.getElem?_eq_getElem h1]
    exact List.getElem_mem _)
  have hat : den R (.at (cR a (a + 1)) (k64 0) 0) = .int .u8 (l.getD a 0) := d_atI (l := [l.getD a 0]) (z := ((0 : Nat) : Int)) hC (d_k .i64 0) (by omega) (by simp)
  refine ⟨d_c8 (d_or0 hat hb) hb, fun q hq => ?_⟩
  simp only [fC, List.mem_cons, List.not_mem_nil, or_false] at hq
  rcases hq with rfl | rfl | rfl
  · rw [d_lss (d_lenI (d_v q0)) (d_k .i64 (a + 1))]; simp; omega
  · rw [d_lss (d_k .i64 0) (d_lenI hC)]; rfl
  · rw [d_lss (d_k .i64 1) (d_lenI hC)]; rfl
theorem fnDv : FnOK Tryz.prog G 51 [.one tB] [.agg tV, .one tI, .one tI] (fun ds => ∀ p ∈ [lenOK 0], den (rhoOf theI ds) p.1 = .bool p.2) FdecV := by
  have hk := kDv
  rw [Bool.and_eq_true] at hk
  refine fn_runS (entS_ok (l := []) trivial) subT_ok [] _ noLoops hk.1 pDv hk.2 ?_
  intro ds h hp
  obtain ⟨l, rfl, hB, hlm⟩ := one_l h
  rw [FdecV_I]
  have hp := hp (lenOK 0) (by simp)
  generalize hR : rhoOf theI [[DV.list (bytesI l)]].flatten = R at hp ⊢
  have hI : R.I = theI := by rw [← hR]; rfl
  have q0 : R.ρ 0 = .list (bytesI l) := by rw [← hR]; rfl
  have hlen := pre_len hp q0
  have dl := d_lenI (d_v q0)
  have dL : ∀ n : Nat, den R (sub (.len (.v 0)) (k64 n)) = .int .i64 (l.length - n) ∨ 1000000 < n := fun n => by
    by_cases hn : n ≤ 1000000
    · exact .inl (d_sub dl (d_k .i64 n) (by omega) (by omega))
    · exact .inr (by omega)
  have dN : ∀ (e : SX) (u : Int), den R e = .int .i64 u → 0 ≤ u → u ≤ l.length → den R (nL e) = .int .i64 u := by
    intro e u he h0 h1
    have : den R (nL e) = .int .i64 (l.length - (l.length - u)) := d_sub dl (d_sub dl he (by omega) (by omega)) (by omega) (by omega)
    rw [this]
    congr 1
    omega
  unfold pDv
  refine goal_knows (l := [_, _]) ?_ ?_
  · intro q hq
    simp only [List.mem_cons, List.not_mem_nil, or_false] at hq
    rcases hq with rfl | rfl
    · exact hp
    · rfl
  have dL0 : den R (sub (.len (.v 0)) (k64 0)) = .int .i64 (l.length - (0 : Nat)) := d_sub dl (d_k .i64 0) (by omega) (by omega)
  refine goal_ask (d_lss dL0 (d_k .i64 1)) (fun h1 => ?_) (fun h1 => ?_)
  · simp only [decide_eq_true_eq] at h1
    have : l = [] := List.length_eq_zero_iff.1 (by omega)
    subst this
    exact goal_noV (d_k .i64 7) rfl
  · simp only [decide_eq_false_iff_not] at h1
    obtain ⟨k, r, rfl⟩ : ∃ k r, l = k :: r := by
      cases l with
      | nil => simp at h1
      | cons k r => exact ⟨k, r, rfl⟩
    have bk := areB_mem hB (z := k) (by simp)
    obtain ⟨hr0, hf0⟩ := rB_I (a := 0) q0 (by simp) hB
    have hk : den R kP = .int .i64 k := d_ci hr0 ⟨bk.1, by have := bk.2; show k ≤ _; omega, by have := bk.2; show k ≤ _; omega⟩
    have fin : ∀ (x y z : SX) (n : Int) (s : ByteArray) (u : Nat), decV (k :: r) = aVal k n s u → den R x = .int .i64 n → den R y = .str s → den R z = .int .i64 u → u ≤ (k :: r).length → goalPlan R (decRes (decV (k :: r))) (.done [[kP, x, y], [nL z], [k64 0]]) := by
      intro x y z n s u h1 h2 h3 h4 h5
      have := dN z u h4 (by omega) (by omega)
      show _ = _
      rw [h1]
      simp only [List.map_cons, List.map_nil, hk, h2, h3, this]
      rfl
    have ds0 : den R s0X = .str ⟨#[]⟩ := rfl
    have dL1 : den R (sub (.len (.v 0)) (k64 1)) = .int .i64 ((k :: r).length - (1 : Nat)) := d_sub dl (d_k .i64 1) (by omega) (by omega)
    refine goal_knows hf0 ?_
    refine goal_ask (d_eql hk (d_k .i64 1)) (fun k1 => ?_) (fun k1 => ?_)
    · simp only [decide_eq_true_eq] at k1
      replace k1 : k = 1 := k1
      subst k1
      exact fin _ _ _ 0 ⟨#[]⟩ 1 rfl (d_k .i64 0) ds0 (d_k .i64 1) (by simp)
    simp only [decide_eq_false_iff_not] at k1
    replace k1 : ¬ k = 1 := k1
    refine goal_ask (d_eql hk (d_k .i64 2)) (fun k2 => ?_) (fun k2 => ?_)
    · simp only [decide_eq_true_eq] at k2
      replace k2 : k = 2 := k2
      subst k2
      refine goal_ask (d_lss dL1 (d_k .i64 1)) (fun h2 => ?_) (fun h2 => ?_)
      · simp only [decide_eq_true_eq, List.length_cons] at h2
        have : r = [] := List.length_eq_zero_iff.1 (by omega)
        subst this
        exact goal_noV (d_k .i64 7) rfl
      · simp only [decide_eq_false_iff_not, List.length_cons] at h2
        obtain ⟨n, r', rfl⟩ : ∃ n r', r = n :: r' := by
          cases r with
          | nil => simp at h2
          | cons n r' => exact ⟨n, r', rfl⟩
        have bn := areB_mem hB (z := n) (by simp)
        obtain ⟨hr1, hf1⟩ := rB_I (a := 1) q0 (by simp) hB
        have dn : den R (.conv .i64 (rB 1 2)) = .int .i64 n := d_ci hr1 ⟨bn.1, by have := bn.2; show n ≤ _; omega, by have := bn.2; show n ≤ _; omega⟩
        refine goal_knows hf1 (goal_ask (d_lss (d_k .i64 1) dn) (fun h3 => ?_) (fun h3 => ?_))
        · simp only [decide_eq_true_eq] at h3
          replace h3 : 1 < n := h3
          exact goal_noV (d_k .i64 150) (show (if 1 < n then _ else _) = _ from if_pos h3)
        · simp only [decide_eq_false_iff_not] at h3
          replace h3 : ¬ 1 < n := h3
          exact fin _ _ _ n ⟨#[]⟩ 2 (show (if 1 < n then _ else _) = _ from if_neg h3) dn ds0 (d_k .i64 2) (by simp)
    simp only [decide_eq_false_iff_not] at k2
    replace k2 : ¬ k = 2 := k2
    refine goal_ask (d_eql hk (d_k .i64 3)) (fun k3 => ?_) (fun k3 => ?_)
    · simp only [decide_eq_true_eq] at k3
      replace k3 : k = 3 := k3
      subst k3
      refine goal_ask (d_lss dL1 (d_k .i64 8)) (fun h2 => ?_) (fun h2 => ?_)
      · simp only [decide_eq_true_eq, List.length_cons] at h2
        have h8 : r.length < 8 := by omega
        exact goal_noV (d_k .i64 7) (show (if r.length < 8 then _ else _) = _ from if_pos h8)
      · simp only [decide_eq_false_iff_not, List.length_cons] at h2
        have h8 : ¬ r.length < 8 := by omega
        obtain ⟨a, b', c, d, e, f, g, i, r', rfl⟩ := eight h8
        have hC : den R c19 = .list (bytesI [a, b', c, d, e, f, g, i]) := by
          rw [d_cutI (d_v q0) (d_k .i64 1) (d_k .i64 9)]
          rfl
        have dC := d_lenI hC
        have hx : ∀ j z, ([a, b', c, d, e, f, g, i] : List Int)[j]? = some z → den R (.at c19 (k64 j) 0) = .int .u8 z := by
          intro j z hj
          have hlt := (List.getElem?_eq_some_iff.1 hj).1
          have h8 : j < 8 := by simpa using hlt
          rw [d_atI hC (d_k .i64 j) (by omega) (by simp; omega)]
          simp only [Int.toNat_natCast, List.getD_eq_getElem?_getD, hj, Option.getD_some]
        obtain ⟨n1, n2, n3⟩ := d_chainP hx (fun z hz => hB z (List.mem_cons_of_mem _ (show z ∈ [a, b', c, d, e, f, g, i] ++ r' from List.mem_append_left _ hz)))
        refine goal_know (by rw [d_lss dl (d_k .i64 9)]; simp; omega) (goal_knows (l := f19) ?_ ?_)
        · intro q hq
          simp only [f19, List.mem_cons, List.not_mem_nil, or_false] at hq
          rcases hq with rfl | rfl | rfl | rfl | rfl | rfl | rfl | rfl | rfl <;> (rw [d_lss (d_k .i64 _) dC]; rfl)
        · exact fin _ _ _ (numI [a, b', c, d, e, f, g, i] - 9223372036854775808) ⟨#[]⟩ 9 (show (if (a :: b' :: c :: d :: e :: f :: g :: i :: r').length < 8 then noVal 7 else aVal 3 (numI [a, b', c, d, e, f, g, i] - 9223372036854775808) ⟨#[]⟩ 9) = _ from if_neg h8) (d_unsign n1 n2 n3) ds0 (d_k .i64 9) (by simp)
    simp only [decide_eq_false_iff_not] at k3
    replace k3 : ¬ k = 3 := k3
    refine goal_ask (d_eql hk (d_k .i64 4)) (fun k4 => ?_) (fun k4 => ?_)
    · simp only [decide_eq_true_eq] at k4
      replace k4 : k = 4 := k4
      subst k4
      have hdec : ∀ e out u, txt r [] 1 = (e, out, u) → decV (4 :: r) = if e = 0 then aVal 4 0 (textI out) u else noVal e := by
        intro e out u ht
        show (match txt r [] 1 with | (e, out, u) => if e = 0 then aVal 4 0 (textI out) u else noVal e) = _
        rw [ht]
      have E := d121 (y := k64 1) (i := 1) hI (d_v q0) (d_k .i64 1) (emp_I R)
      have E2 := d122 (y := k64 1) (i := 1) hI (d_v q0) (d_k .i64 1) (emp_I R)
      have E3 := d123 (y := k64 1) (i := 1) hI (d_v q0) (d_k .i64 1) (emp_I R)
      have T : txI (4 :: r) 1 [] = txt r [] 1 := rfl
      rw [T] at E E2 E3
      cases ht : txt r [] 1 with
      | mk e p =>
        obtain ⟨out, u⟩ := p
        rw [ht] at E E2 E3
        refine goal_ask (d_eql E (d_k .i64 0)) (fun h0 => ?_) (fun h0 => ?_)
        · simp only [decide_eq_true_eq] at h0
          replace h0 : e = 0 := h0
          subst h0
          obtain ⟨_, _, u1, u2, _⟩ := txt_spec _ r (Nat.le_refl _) _ _ _ _ ht
          exact fin _ _ _ 0 (textI out) u ((hdec _ _ _ ht).trans (if_pos rfl)) (d_k .i64 0) (text_I R E2) E3 (by rw [List.length_cons]; omega)
        · simp only [decide_eq_false_iff_not] at h0
          replace h0 : ¬ e = 0 := h0
          exact goal_noV E ((hdec _ _ _ ht).trans (if_neg h0))
    · simp only [decide_eq_false_iff_not] at k4
      replace k4 : ¬ k = 4 := k4
      refine goal_noV (d_k .i64 150) ?_
      show (if k = 1 then _ else _) = _
      rw [if_neg k1, if_neg k2, if_neg k3, if_neg k4]
      rfl
noncomputable def eDv : Ent := eFn 51 [.one tB] [.agg tV, .one tI, .one tI] [lenOK 0] 12
theorem eDv_ok : EntsOK Tryz.prog G theI [eDv] := ⟨eFn_ok plainG fnDv (fun _ => rfl) [] (by kernel_rfl), trivial⟩
end Go.Proofs.YtjplhjnbcjohoaaGreatDoor
