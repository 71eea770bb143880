/-
  A part of the proof of QueryValues (the machine on named data, and the contracts of the functions that the law reaches): Q11 Q12.
-/
import Derived.Test.YtholilpmihngaaaGreatDoorKa
import Derived.Test.YtholilpmihngaaaGreatDoorKd
set_option linter.all false
set_option linter.unusedVariables false
set_option linter.unusedSimpArgs false
set_option linter.unusedSectionVars false
namespace Go.Proofs.YtholilpmihngaaaGreatDoor
open Go Go.AM
/-! ### the product of 128 bits -/
theorem or_one {x y : Int} (h0 : 0 ≤ x) (h1 : x < 18446744073709551616) (h2 : x % 2 = 0) (h3 : 0 ≤ y) (h4 : y < 2) : bitsD .or .u64 x y = x + y := by
  obtain ⟨n, rfl⟩ := Int.eq_ofNat_of_zero_le h0
  obtain ⟨m, rfl⟩ := Int.eq_ofNat_of_zero_le h3
  show IntKind.wrap .u64 (BitVec.ofInt 64 n ||| BitVec.ofInt 64 m).toNat = _
  rw [BitVec.toNat_or, BitVec.toNat_ofInt, BitVec.toNat_ofInt]
  have e0 : ((2 : Nat) ^ 64 : Nat) = 18446744073709551616 := by decide
  rw [e0, show ((n : Int) % (18446744073709551616 : Nat)).toNat = n by omega, show ((m : Int) % (18446744073709551616 : Nat)).toNat = m by omega]
  have h5 := Nat.two_pow_add_eq_or_of_lt (i := 1) (b := m) (by omega) (n / 2)
  rw [show 2 ^ 1 * (n / 2) = n by omega] at h5
  rw [← h5, wrap_u64]
  omega
theorem and_one {x : Int} (h0 : 0 ≤ x) (h1 : x < 18446744073709551616) : bitsD .and .u64 x 1 = x % 2 := by
  obtain ⟨n, rfl⟩ := Int.eq_ofNat_of_zero_le h0
  show IntKind.wrap .u64 (BitVec.ofInt 64 n &&& BitVec.ofInt 64 1).toNat = _
  rw [BitVec.toNat_and, BitVec.toNat_ofInt, BitVec.toNat_ofInt]
  have e0 : ((2 : Nat) ^ 64 : Nat) = 18446744073709551616 := by decide
  rw [e0, show ((n : Int) % (18446744073709551616 : Nat)).toNat = n by omega, show ((1 : Int) % (18446744073709551616 : Nat)).toNat = 1 by omega, Nat.and_one_is_mod, wrap_u64]
  omega

/-- One bit more: w = a * (b / 2 ^ (i + 1)) becomes a * (b / 2 ^ i). -/
theorem wide_bit (a b : Int) (i : Nat) : a * (b / 2 ^ i) = 2 * (a * (b / 2 ^ (i + 1))) + a * (b / 2 ^ i % 2) := by
  have h1 : b / 2 ^ (i + 1) = b / 2 ^ i / 2 := by rw [Int.pow_succ, Int.ediv_ediv_of_nonneg (Int.le_of_lt (Int.pow_pos (by decide)))]
  rw [h1]
  generalize b / 2 ^ i = q
  have h2 : q = 2 * (q / 2) + q % 2 := by omega
  generalize q / 2 = x at *
  generalize q % 2 = y at *
  subst h2
  rw [Int.mul_add, ← Int.mul_assoc, ← Int.mul_assoc, Int.mul_comm a 2]
theorem wide_le {a b : Int} {i : Nat} (ha : 0 ≤ a) (ha' : a < 18446744073709551616) (hb : 0 ≤ b) (hb' : b < 18446744073709551616) : 0 ≤ a * (b / 2 ^ i) ∧ a * (b / 2 ^ i) ≤ 18446744073709551615 * 18446744073709551615 := by
  have hp : (0 : Int) < 2 ^ i := Int.pow_pos (by decide)
  have h1 : 0 ≤ b / 2 ^ i := Int.ediv_nonneg hb (by omega)
  have h2 : b / 2 ^ i ≤ b := Int.ediv_le_self _ hb
  refine ⟨Int.mul_nonneg ha h1, ?_⟩
  exact Int.mul_le_mul (by omega) (by omega) h1 (by decide)
noncomputable def TWd : Tmpl := { tm := [(0, .sy tU64 (.v 0)), (1, .sy tU64 (.v 1)), (6, .sy tU64 (.v 2)), (7, .sy tU64 (.v 3)), (8, .sy tI (.v 4))], src := [.tm 0 tU64, .tm 1 tU64, .tm 6 tU64, .tm 7 tU64, .tm 8 tI] }
noncomputable def YWd : Tmpl := { tm := [(6, .sy tU64 (.v 0)), (7, .sy tU64 (.v 1))], src := [.tm 6 tU64, .tm 7 tU64] }
noncomputable def SWd : StdL := { n := 38, T := TWd, tys := [tU64, tU64, tU64, tU64, tI], pre := [(eql (.v 2) (.ki .u64 (.ofNat 0)), true), (eql (.v 3) (.ki .u64 (.ofNat 0)), true), (eql (.v 4) (k64 63), true)], f := 113, yes := (.exit 0, YWd, 2) }
noncomputable abbrev codeWd : Code := loopAt 89 0
noncomputable abbrev wdH : SX := .bin .or (.bin .shl (.v 2) (.ki .u64 (.ofNat 1))) (.bin .shr (.v 3) (.ki .u64 (.ofNat 63)))
noncomputable abbrev wdL : SX := .bin .shl (.v 3) (.ki .u64 (.ofNat 1))
noncomputable abbrev wdI : SX := .bin .sub (.v 4) (k64 1)
noncomputable def pWd : RPln :=
  .ask (lss (.v 4) (k64 0))
    (.exit true [.v 2, .v 3])
    (.ask (eql (.bin .and (.bin .shr (.v 1) (.conv .u64 (.v 4))) (.ki .u64 (.ofNat 1))) (.ki .u64 (.ofNat 1)))
      (.ask (lss (add wdL (.v 0)) wdL)
        (.next [.v 0, .v 1, add wdH (.ki .u64 (.ofNat 1)), add wdL (.v 0), wdI])
        (.next [.v 0, .v 1, wdH, add wdL (.v 0), wdI]))
      (.next [.v 0, .v 1, wdH, wdL, wdI]))
theorem okWd : (SWd.ok && (planOK SWd pWd && checkRound SWd.L (roundS theI (entS []) [] [] codeWd) [] pWd)) = true := by kernel_rfl
/-- What is added so far: the product by the bits of b above i. -/
def InvWd (ds : List DV) : Prop := ∃ a b h l i, ds = [.int .u64 a, .int .u64 b, .int .u64 h, .int .u64 l, .int .i64 i] ∧ (0 ≤ a ∧ a < 18446744073709551616) ∧ (0 ≤ b ∧ b < 18446744073709551616) ∧ (0 ≤ h ∧ h < 18446744073709551616) ∧ (0 ≤ l ∧ l < 18446744073709551616) ∧ -1 ≤ i ∧ i ≤ 63 ∧ h * 18446744073709551616 + l = a * (b / 2 ^ (i + 1).toNat)
def muWd (ds : List DV) : Nat := (iD ds 4 + 1).toNat
theorem FwideL_eq (a b h l i : DV) : FwideL [a, b, h, l, i] = FwideL [a, b] := rfl
theorem loopWd : LoopOK Tryz.prog G theI codeWd SWd.L := by
  refine loop_std (F := FwideL) (Inv := InvWd) (μ := muWd) (entS_ok (l := []) trivial) (sub := []) trivial (lps := []) noLoops (fun _ => rfl) pWd okWd ?_ ?_
  · intro ds h hp
    simp only [SWd, IsL] at h
    obtain ⟨d0, _, rfl, h0, d1, _, rfl, h1, d2, _, rfl, h2, d3, _, rfl, h3, d4, _, rfl, h4, rfl⟩ := h
    obtain ⟨a, rfl, a1, a2⟩ := h0.int
    obtain ⟨b, rfl, b1, b2⟩ := h1.int
    obtain ⟨x, rfl, x1, x2⟩ := h2.int
    obtain ⟨l, rfl, l1, l2⟩ := h3.int
    obtain ⟨i, rfl, _⟩ := h4.i64
    have p1 := hp (eql (.v 2) (.ki .u64 (.ofNat 0)), true) (by simp [SWd])
    have p2 := hp (eql (.v 3) (.ki .u64 (.ofNat 0)), true) (by simp [SWd])
    have p3 := hp (eql (.v 4) (k64 63), true) (by simp [SWd])
    generalize hR : rhoOf theI [DV.int .u64 a, .int .u64 b, .int .u64 x, .int .u64 l, .int .i64 i] = R at p1 p2 p3
    have e2 : den R (.v 2) = .int .u64 x := by rw [← hR]; rfl
    have e3 : den R (.v 3) = .int .u64 l := by rw [← hR]; rfl
    have e4 : den R (.v 4) = .int .i64 i := by rw [← hR]; rfl
    rw [d_eql e2 (d_k .u64 0)] at p1
    rw [d_eql e3 (d_k .u64 0)] at p2
    rw [d_eql e4 (d_k .i64 63)] at p3
    simp only [DV.bool.injEq, decide_eq_true_eq] at p1 p2 p3
    have ha : a ≤ 18446744073709551615 := a2
    have hb : b ≤ 18446744073709551615 := b2
    subst p1 p2 p3
    refine ⟨a, b, _, _, _, rfl, ⟨a1, by omega⟩, ⟨b1, by omega⟩, by decide, by decide, by decide, by decide, ?_⟩
    have : b / 2 ^ ((63 : Int) + 1).toNat = 0 := Int.ediv_eq_zero_of_lt b1 (by show b < 18446744073709551616; omega)
    show _ = a * (b / 2 ^ ((63 : Int) + 1).toNat)
    rw [this]
    simp
  · rintro ds ⟨a, b, h, l, i, rfl, ha, hb, hh, hl, hi0, hi1, hinv⟩
    generalize hR : rhoOf theI [DV.int .u64 a, .int .u64 b, .int .u64 h, .int .u64 l, .int .i64 i] = R
    have e0 : den R (.v 0) = .int .u64 a := by rw [← hR]; rfl
    have e1 : den R (.v 1) = .int .u64 b := by rw [← hR]; rfl
    have e2 : den R (.v 2) = .int .u64 h := by rw [← hR]; rfl
    have e3 : den R (.v 3) = .int .u64 l := by rw [← hR]; rfl
    have e4 : den R (.v 4) = .int .i64 i := by rw [← hR]; rfl
    show goalR 0 FwideL _ _ R _ pWd
    unfold pWd
    refine r_ask (d_lss e4 (d_k .i64 0)) (fun h0 => ?_) (fun h0 => ?_)
    · simp only [decide_eq_true_eq] at h0
      have : i = -1 := by omega
      subst this
      have h1 : h * 18446744073709551616 + l = a * b := by
        rw [hinv]
        show a * (b / 1) = _
        rw [Int.ediv_one]
      show FwideL _ = (true, [den R (.v 2), den R (.v 3)])
      rw [e2, e3]
      show (true, [DV.int .u64 (a * b / 18446744073709551616), .int .u64 (a * b % 18446744073709551616)]) = _
      rw [← h1]
      have q1 : (h * 18446744073709551616 + l) / 18446744073709551616 = h := by omega
      have q2 : (h * 18446744073709551616 + l) % 18446744073709551616 = l := by omega
      rw [q1, q2]
    · simp only [decide_eq_false_iff_not] at h0
      obtain ⟨n, rfl⟩ := Int.eq_ofNat_of_zero_le (show 0 ≤ i by omega)
      have hn1 : ((n : Int) + 1).toNat = n + 1 := by omega
      rw [hn1] at hinv
      have hbit := wide_bit a b n
      have hle1 := wide_le (i := n) ha.1 ha.2 hb.1 hb.2
      rw [← hinv] at hbit
      have hbm : b / 2 ^ n % 2 = 0 ∨ b / 2 ^ n % 2 = 1 := by omega
      have hsh : den R (.bin .shr (.v 1) (.conv .u64 (.v 4))) = .int .u64 (b / 2 ^ n) := by
        show binD .shr (den R (.v 1)) (convD .u64 (den R (.v 4))) = _
        rw [e1, e4]
        show binD .shr (.int .u64 b) (.int .u64 (IntKind.u64.wrap n)) = _
        rw [wrap_u64]
        have : min ((n : Int) % 18446744073709551616).toNat 64 = n := by omega
        show DV.int .u64 (b.fdiv (2 ^ min ((n : Int) % 18446744073709551616).toNat 64)) = _
        rw [this, Int.fdiv_eq_ediv_of_nonneg _ (Int.le_of_lt (Int.pow_pos (by decide)))]
      have hq0 : 0 ≤ b / 2 ^ n := Int.ediv_nonneg hb.1 (Int.le_of_lt (Int.pow_pos (by decide)))
      have hq1 : b / 2 ^ n < 18446744073709551616 := by have := Int.ediv_le_self (2 ^ n) hb.1; omega
      have hask : den R (eql (.bin .and (.bin .shr (.v 1) (.conv .u64 (.v 4))) (.ki .u64 (.ofNat 1))) (.ki .u64 (.ofNat 1))) = .bool (decide (b / 2 ^ n % 2 = 1)) := by
        refine d_eql (k := .u64) ?_ (d_k .u64 1)
        show binD .and (den R (.bin .shr (.v 1) (.conv .u64 (.v 4)))) (den R (.ki .u64 (.ofNat 1))) = _
        rw [hsh]
        show DV.int .u64 (bitsD .and .u64 (b / 2 ^ n) 1) = _
        rw [and_one hq0 hq1]
      have hdl : den R wdL = .int .u64 (2 * l % 18446744073709551616) := by
        show binD .shl (den R (.v 3)) (den R (.ki .u64 (.ofNat 1))) = _
        rw [e3]
        show DV.int .u64 (IntKind.u64.wrap (l * 2)) = _
        rw [wrap_u64, Int.mul_comm]
      have hh2 : 2 * h < 18446744073709551616 := by
        rcases hbm with e | e <;> rw [e] at hbit <;> omega
      have hdh : den R wdH = .int .u64 (2 * h + l / 9223372036854775808) := by
        have f1 : den R (.bin .shl (.v 2) (.ki .u64 (.ofNat 1))) = .int .u64 (2 * h) := by
          show binD .shl (den R (.v 2)) (den R (.ki .u64 (.ofNat 1))) = _
          rw [e2]
          show DV.int .u64 (IntKind.u64.wrap (h * 2)) = _
          rw [wrap_u64]
          congr 1
          omega
        have f2 : den R (.bin .shr (.v 3) (.ki .u64 (.ofNat 63))) = .int .u64 (l / 9223372036854775808) := by
          show binD .shr (den R (.v 3)) (den R (.ki .u64 (.ofNat 63))) = _
          rw [e3]
          show DV.int .u64 (l.fdiv 9223372036854775808) = _
          rw [Int.fdiv_eq_ediv_of_nonneg _ (by decide)]
        show binD .or (den R (.bin .shl (.v 2) (.ki .u64 (.ofNat 1)))) (den R (.bin .shr (.v 3) (.ki .u64 (.ofNat 63)))) = _
        rw [f1, f2]
        show DV.int .u64 (bitsD .or .u64 (2 * h) (l / 9223372036854775808)) = _
        rw [or_one (by omega) hh2 (by omega) (by omega) (by omega)]
      have hdi : den R wdI = .int .i64 ((n : Int) - 1) := d_sub e4 (d_k .i64 1) (by omega) (by omega)
      have hda : den R (add wdL (.v 0)) = .int .u64 ((2 * l % 18446744073709551616 + a) % 18446744073709551616) := by
        show binD .add (den R wdL) (den R (.v 0)) = _
        rw [hdl, e0]
        show DV.int .u64 (IntKind.u64.wrap (2 * l % 18446744073709551616 + a)) = _
        rw [wrap_u64]
      have next : ∀ (eh el : SX) (h' l' : Int), den R eh = .int .u64 h' → den R el = .int .u64 l' → (0 ≤ h' ∧ h' < 18446744073709551616) → (0 ≤ l' ∧ l' < 18446744073709551616) → h' * 18446744073709551616 + l' = a * (b / 2 ^ n) → goalR 0 FwideL InvWd muWd R [.int .u64 a, .int .u64 b, .int .u64 h, .int .u64 l, .int .i64 (n : Int)] (.next [.v 0, .v 1, eh, el, wdI]) := by
        intro eh el h' l' g1 g2 g3 g4 g5
        have hτ : ([.v 0, .v 1, eh, el, wdI] : List SX).map (den R) = [.int .u64 a, .int .u64 b, .int .u64 h', .int .u64 l', .int .i64 ((n : Int) - 1)] := by
          simp only [List.map_cons, List.map_nil, e0, e1, g1, g2, hdi]
        show InvWd _ ∧ muWd _ < muWd _ ∧ FwideL _ = FwideL _
        rw [hτ]
        refine ⟨⟨a, b, h', l', _, rfl, ha, hb, g3, g4, by omega, by omega, ?_⟩, ?_, rfl⟩
        · rw [show ((n : Int) - 1 + 1).toNat = n by omega]
          exact g5
        · show ((n : Int) - 1 + 1).toNat < ((n : Int) + 1).toNat
          omega
      refine r_ask hask (fun hb1 => ?_) (fun hb1 => ?_)
      · simp only [decide_eq_true_eq] at hb1
        rw [hb1, Int.mul_one] at hbit
        refine r_ask (d_lss hda hdl) (fun hc => ?_) (fun hc => ?_)
        · simp only [decide_eq_true_eq] at hc
          refine next _ _ (2 * h + l / 9223372036854775808 + 1) _ ?_ hda (by omega) (by omega) (by omega)
          show binD .add (den R wdH) (den R (.ki .u64 (.ofNat 1))) = _
          rw [hdh]
          show DV.int .u64 (IntKind.u64.wrap (2 * h + l / 9223372036854775808 + 1)) = _
          rw [wrap_u64]
          congr 1
          omega
        · simp only [decide_eq_false_iff_not] at hc
          exact next _ _ _ _ hdh hda (by omega) (by omega) (by omega)
      · simp only [decide_eq_false_iff_not] at hb1
        have hb0 : b / 2 ^ n % 2 = 0 := by omega
        rw [hb0, Int.mul_zero] at hbit
        exact next _ _ _ _ hdh hdl (by omega) (by omega) (by omega)
noncomputable abbrev wdX (k : Nat) : SX := .at (.app 113 [.v 0, .v 1, .ki .u64 (.ofNat 0), .ki .u64 (.ofNat 0), k64 63]) (k64 0) k
noncomputable def pWide : Pln := .done [[wdX 1], [wdX 2]]
theorem kWide : (hasB 89 && checkPlan [.one tU64, .one tU64] (runI theI (entS []) [(4, SWd.L)] [] 89 [.one tU64, .one tU64]) [] pWide) = true := by kernel_rfl
theorem fnWide : FnOK Tryz.prog G 89 [.one tU64, .one tU64] [.one tU64, .one tU64] (fun _ => True) Fwide := by
  have hk := kWide
  rw [Bool.and_eq_true] at hk
  refine fn_run (entS_ok (l := []) trivial) [(4, SWd.L)] [] (loops1 (by kernel_rfl) loopWd) hk.1 pWide hk.2 fun ds h _ => ?_
  simp only [IsArgs, IsOne] at h
  obtain ⟨_, _, rfl, ⟨d1, rfl, h1⟩, _, _, rfl, ⟨d2, rfl, h2⟩, rfl⟩ := h
  have hI : (rhoOf theI ([[d1], [d2]] : List (List DV)).flatten).I = theI := rfl
  have e0 : (rhoOf theI ([[d1], [d2]] : List (List DV)).flatten).ρ 0 = d1 := rfl
  have e1 : (rhoOf theI ([[d1], [d2]] : List (List DV)).flatten).ρ 1 = d2 := rfl
  generalize rhoOf theI ([[d1], [d2]] : List (List DV)).flatten = R at *
  have hd := fun k => d_std (R := R) (f := 113) (F := FwideL) (k := k) (es := [.v 0, .v 1, .ki .u64 (.ofNat 0), .ki .u64 (.ofNat 0), k64 63]) hI (fun _ => rfl)
  show Fwide _ = [[den R (wdX 1)], [den R (wdX 2)]]
  rw [hd 1, hd 2]
  simp only [List.map_cons, List.map_nil, den, e0, e1]
  rfl
end Go.Proofs.YtholilpmihngaaaGreatDoor
namespace Go.Proofs.YtholilpmihngaaaGreatDoor
open Go Go.AM
/-! ### the document's Reckon -/
noncomputable def eRcs : List Ent := [eFn 20 [.agg tV] [.one .bool] [] 12, eFn 87 [.one tI] [.one tU64] [] 31, eFn 88 [.one tU64, .one tU64, .one .bool] [.one tI, .one .bool] [] 32, eFn 89 [.one tU64, .one tU64] [.one tU64, .one tU64] [] 33]
theorem eRcs_ok : EntsOK Tryz.prog G theI eRcs := ⟨eFn_ok plainG (pre_true fnRight) (fun _ => rfl) [] (by kernel_rfl), eFn_ok plainG (pre_true fnSize) (fun _ => rfl) [] (by kernel_rfl), eFn_ok plainG (pre_true fnSigned) (fun _ => rfl) [] (by kernel_rfl), eFn_ok plainG (pre_true fnWide) (fun _ => rfl) [] (by kernel_rfl), trivial⟩
noncomputable abbrev u64n (n : Nat) : SX := .ki .u64 (.ofNat n)
noncomputable abbrev noStr : SX := .ks (bstr #[])
noncomputable abbrev aX : SX := .at (.app 31 [.v 2]) (k64 0) 0
noncomputable abbrev aY : SX := .at (.app 31 [.v 5]) (k64 0) 0
noncomputable abbrev sgX (h l m : SX) (j : Nat) : SX := .at (.app 32 [h, l, m]) (k64 j) 0
noncomputable abbrev errP (e : Nat) : Pln := .done [[k64 0, k64 0, noStr], [k64 e]]
noncomputable abbrev nulP : Pln := .done [[k64 1, k64 0, noStr], [k64 0]]
noncomputable abbrev okP (h l m : SX) : Pln := .ask (sgX h l m 1) (.done [[k64 3, sgX h l m 0, noStr], [k64 0]]) (errP 151)
noncomputable abbrev rkP (inner : Pln) : Pln :=
  .ask (.at (.app 12 [.v 1, .v 2, .v 3]) (k64 0) 0)
    (.ask (.at (.app 12 [.v 4, .v 5, .v 6]) (k64 0) 0)
      (.ask (eql (.v 1) (k64 1))
        (.ask (eql (.v 4) (k64 1)) nulP (.ask (eql (.v 4) (k64 3)) nulP (errP 153)))
        (.ask (eql (.v 1) (k64 3))
          (.ask (eql (.v 4) (k64 1)) nulP (.ask (eql (.v 4) (k64 3)) inner (errP 153)))
          (errP 153)))
      (errP 150))
    (errP 150)
noncomputable abbrev neX : SX := .bin .lss (.v 2) (k64 0)
noncomputable abbrev neY : SX := .bin .lss (.v 5) (k64 0)
noncomputable abbrev sumP (m : SX) : Pln :=
  .ask (eql neX m)
    (.ask (lss (add aX aY) aX) (okP (u64n 1) (add aX aY) m) (okP (u64n 0) (add aX aY) m))
    (.ask (lss aX aY) (okP (u64n 0) (.bin .sub aY aX) m) (okP (u64n 0) (.bin .sub aX aY) neX))
noncomputable abbrev wdp (j : Nat) : SX := .at (.app 33 [aX, aY]) (k64 j) 0
noncomputable abbrev divP (l m : SX) : Pln := .ask (eql (.v 5) (k64 0)) (errP 152) (.ask (eql aY (u64n 0)) .never (okP (u64n 0) l m))
noncomputable def byOp (n : Nat) (t f : Pln) : Pln := .ask (eql (.v 0) (k64 n)) (knows (kindK (.v 0) n 7) t) f
noncomputable def pRk : Pln :=
  byOp 1 (rkP (sumP neY)) (byOp 2 (rkP (sumP (.not neY))) (byOp 3 (rkP (okP (wdp 0) (wdp 1) (.not (eql neX neY)))) (byOp 4 (rkP (divP (.bin .quo aX aY) (.not (eql neX neY)))) (byOp 5 (rkP (divP (.bin .rem aX aY) neX))
    (.ask (lss (.v 0) (k64 1)) (errP 2) (.ask (lss (k64 5) (.v 0)) (errP 2) .never))))))
theorem kRk : (hasB 45 && checkPlan [.agg tV, .one tI] (runI theI (entS eRcs) [] [] 45 [.one tI, .agg tV, .agg tV]) [] pRk) = true := by kernel_rfl
theorem sg_fit {h l : Int} {m : Bool} (h0 : 0 ≤ h) (l0 : 0 ≤ l) (l1 : l < 18446744073709551616) {z : Int} (hz : z = if m = true then -(h * 18446744073709551616 + l) else h * 18446744073709551616 + l) : signZ h l m = if In64 z then (z, true) else (0, false) := by
  subst hz
  unfold signZ In64
  cases m
  · simp only [Bool.false_eq_true, false_and, true_and, false_or, if_false]
    by_cases c : 0 < h ∨ 9223372036854775808 ≤ l
    · rw [if_pos c, if_neg (by omega)]
    · rw [if_neg c, if_pos (by omega)]
      congr 1
      omega
  · simp only [Bool.true_eq_false, false_and, true_and, or_false, if_true]
    by_cases c : 0 < h ∨ 9223372036854775808 < l
    · rw [if_pos c, if_neg (by omega)]
    · rw [if_neg c, if_pos (by omega)]
      congr 1
      omega
section
variable {R : Rho}
theorem d_sz {x : SX} {n : Int} (hI : R.I = theI) (hx : den R x = .int .i64 n) : den R (.at (.app 31 [x]) (k64 0) 0) = .int .u64 n.natAbs := by
  refine d_res (F := Fsize) (by rw [hI]; rfl) ?_
  simp only [List.map_cons, List.map_nil, hx]
  rfl
theorem d_sg {h l m : SX} {a b : Int} {c : Bool} (hI : R.I = theI) (hh : den R h = .int .u64 a) (hl : den R l = .int .u64 b) (hm : den R m = .bool c) : den R (sgX h l m 0) = .int .i64 (signZ a b c).1 ∧ den R (sgX h l m 1) = .bool (signZ a b c).2 := by
  constructor
  · refine d_res (F := Fsign) (by rw [hI]; rfl) ?_
    simp only [List.map_cons, List.map_nil, hh, hl, hm]
    rfl
  · refine d_res (j := 1) (F := Fsign) (by rw [hI]; rfl) ?_
    simp only [List.map_cons, List.map_nil, hh, hl, hm]
    rfl
theorem okP_goal {h l m : SX} {a b z : Int} {c : Bool} (hI : R.I = theI) (hh : den R h = .int .u64 a) (hl : den R l = .int .u64 b) (hm : den R m = .bool c) (a0 : 0 ≤ a) (b0 : 0 ≤ b) (b1 : b < 18446744073709551616)
    (hz : z = if c = true then -(a * 18446744073709551616 + b) else a * 18446744073709551616 + b) : goalPlan R (if In64 z then [[.int .i64 3, .int .i64 z, .str ⟨#[]⟩], [.int .i64 0]] else [zeroV, [.int .i64 151]]) (okP h l m) := by
  obtain ⟨g0, g1⟩ := d_sg hI hh hl hm
  rw [sg_fit a0 b0 b1 hz] at g0 g1
  refine goal_ask g1 (fun k => ?_) (fun k => ?_)
  · by_cases hc : In64 z
    · rw [if_pos hc] at g0 ⊢
      show _ = [[_, den R (sgX h l m 0), _], _]
      rw [g0]
      rfl
    · rw [if_neg hc] at k
      cases k
  · by_cases hc : In64 z
    · rw [if_pos hc] at k
      cases k
    · rw [if_neg hc]
      rfl
end
theorem rk33 {o n n' z : Int} {s s' : ByteArray} (hb : bothZ o 5 3 n s 3 n' s' = 0) (hz : reckZ o n n' = fit z) : [(reckV o 3 n s 3 n' s').1, [DV.int .i64 (reckV o 3 n s 3 n' s').2]] = if In64 z then [[.int .i64 3, .int .i64 z, .str ⟨#[]⟩], [.int .i64 0]] else [zeroV, [.int .i64 151]] := by
  unfold reckV
  rw [hb, if_neg (by decide), if_neg (by decide), if_neg (by decide), hz]
  unfold fit
  by_cases hc : In64 z
  · rw [if_pos hc, if_pos hc]
    rfl
  · rw [if_neg hc, if_neg hc]
    rfl
theorem rkP_goal {R : Rho} {o k n k' n' : Int} {s s' : ByteArray} (hI : R.I = theI) (e1 : den R (.v 1) = .int .i64 k) (e2 : den R (.v 2) = .int .i64 n) (e3 : den R (.v 3) = .str s) (e4 : den R (.v 4) = .int .i64 k') (e5 : den R (.v 5) = .int .i64 n') (e6 : den R (.v 6) = .str s')
    (ho : 1 ≤ o ∧ o ≤ 5) {inner : Pln} (hin : k = 3 → k' = 3 → bothZ o 5 k n s k' n' s' = 0 → goalPlan R [(reckV o k n s k' n' s').1, [.int .i64 (reckV o k n s k' n' s').2]] inner) : goalPlan R [(reckV o k n s k' n' s').1, [.int .i64 (reckV o k n s k' n' s').2]] (rkP inner) := by
  have r1 : den R (.at (.app 12 [.v 1, .v 2, .v 3]) (k64 0) 0) = .bool (valOK k n s.size) := by
    refine d_res (F := Fright) (by rw [hI]; rfl) ?_
    simp only [List.map_cons, List.map_nil, e1, e2, e3]
    rfl
  have r2 : den R (.at (.app 12 [.v 4, .v 5, .v 6]) (k64 0) 0) = .bool (valOK k' n' s'.size) := by
    refine d_res (F := Fright) (by rw [hI]; rfl) ?_
    simp only [List.map_cons, List.map_nil, e4, e5, e6]
    rfl
  have hno : ¬ (o < 1 ∨ 5 < o) := by omega
  have hbad : (valOK k n s.size && valOK k' n' s'.size) = false → goalPlan R [(reckV o k n s k' n' s').1, [.int .i64 (reckV o k n s k' n' s').2]] (errP 150) := by
    intro h
    show _ = _
    have hb : bothZ o 5 k n s k' n' s' = 150 := by unfold bothZ; rw [if_neg hno, h]; rfl
    unfold reckV
    rw [hb, if_pos (by decide)]
    rfl
  refine goal_ask r1 (fun v1 => goal_ask r2 (fun v2 => ?_) fun v2 => hbad (by rw [v2, Bool.and_false])) fun v1 => hbad (by rw [v1, Bool.false_and])
  have hb : bothZ o 5 k n s k' n' s' = 0 := by unfold bothZ; rw [if_neg hno, v1, v2]; rfl
  have hty : (k ≠ 1 ∧ k ≠ 3 ∨ k' ≠ 1 ∧ k' ≠ 3) → goalPlan R [(reckV o k n s k' n' s').1, [.int .i64 (reckV o k n s k' n' s').2]] (errP 153) := by
    intro h
    show _ = _
    unfold reckV
    rw [hb, if_neg (by decide), if_pos h]
    rfl
  have hnul : ¬ (k ≠ 1 ∧ k ≠ 3 ∨ k' ≠ 1 ∧ k' ≠ 3) → (k = 1 ∨ k' = 1) → goalPlan R [(reckV o k n s k' n' s').1, [.int .i64 (reckV o k n s k' n' s').2]] nulP := by
    intro h1 h2
    show _ = _
    unfold reckV
    rw [hb, if_neg (by decide), if_neg h1, if_pos h2]
    rfl
  refine goal_ask (d_eql e1 (d_k .i64 1)) (fun q => ?_) (fun q => goal_ask (d_eql e1 (d_k .i64 3)) (fun q2 => ?_) fun q2 => ?_)
  · simp only [decide_eq_true_eq] at q
    refine goal_ask (d_eql e4 (d_k .i64 1)) (fun p => hnul (by simp only [decide_eq_true_eq] at p; omega) (.inl q)) (fun p => goal_ask (d_eql e4 (d_k .i64 3)) (fun p2 => hnul (by simp only [decide_eq_true_eq] at p2; omega) (.inl q)) fun p2 => hty (by simp only [decide_eq_false_iff_not] at p p2; omega))
  · simp only [decide_eq_false_iff_not, decide_eq_true_eq] at q q2
    refine goal_ask (d_eql e4 (d_k .i64 1)) (fun p => hnul (by simp only [decide_eq_true_eq] at p; omega) (.inr (by simpa using p))) (fun p => goal_ask (d_eql e4 (d_k .i64 3)) (fun p2 => hin q2 (by simpa using p2) hb) fun p2 => hty (by simp only [decide_eq_false_iff_not] at p p2; omega))
  · exact hty (by simp only [decide_eq_false_iff_not] at q q2; omega)
theorem fnReckon : FnOK Tryz.prog G 45 [.one tI, .agg tV, .agg tV] [.agg tV, .one tI] (fun _ => True) Freck := by
  have hk := kRk
  rw [Bool.and_eq_true] at hk
  refine fn_run (entS_ok eRcs_ok) [] [] noLoops hk.1 pRk hk.2 fun ds h _ => ?_
  obtain ⟨o, k, n, s, k', n', s', rfl, hn, hn'⟩ := ovv_of h
  show goalPlan _ [(reckV o k n s k' n' s').1, [.int .i64 (reckV o k n s k' n' s').2]] _
  generalize hR : rhoOf theI [[DV.int .i64 o], [DV.int .i64 k, .int .i64 n, .str s], [DV.int .i64 k', .int .i64 n', .str s']].flatten = R
  have hI : R.I = theI := by rw [← hR]; rfl
  have e0 : den R (.v 0) = .int .i64 o := by rw [← hR]; rfl
  have e1 : den R (.v 1) = .int .i64 k := by rw [← hR]; rfl
  have e2 : den R (.v 2) = .int .i64 n := by rw [← hR]; rfl
  have e3 : den R (.v 3) = .str s := by rw [← hR]; rfl
  have e4 : den R (.v 4) = .int .i64 k' := by rw [← hR]; rfl
  have e5 : den R (.v 5) = .int .i64 n' := by rw [← hR]; rfl
  have e6 : den R (.v 6) = .str s' := by rw [← hR]; rfl
  have hX := d_sz hI e2
  have hY := d_sz hI e5
  have dx : den R neX = .bool (decide (n < 0)) := d_lss e2 (d_k .i64 0)
  have dy : den R neY = .bool (decide (n' < 0)) := d_lss e5 (d_k .i64 0)
  have dxy : den R (.not (eql neX neY)) = .bool (!(decide (n < 0) == decide (n' < 0))) := by
    show notD (binD .eql (den R neX) (den R neY)) = _
    rw [dx, dy]
    rfl
  unfold In64 at hn hn'
  have hadd : den R (add aX aY) = .int .u64 ((n.natAbs + n'.natAbs : Int) % 18446744073709551616) := by
    show binD .add (den R aX) (den R aY) = _
    rw [hX, hY]
    show DV.int .u64 (IntKind.u64.wrap _) = _
    rw [wrap_u64]
  have hsub1 : den R (.bin .sub aY aX) = .int .u64 ((n'.natAbs - n.natAbs : Int) % 18446744073709551616) := by
    show binD .sub (den R aY) (den R aX) = _
    rw [hX, hY]
    show DV.int .u64 (IntKind.u64.wrap _) = _
    rw [wrap_u64]
  have hsub2 : den R (.bin .sub aX aY) = .int .u64 ((n.natAbs - n'.natAbs : Int) % 18446744073709551616) := by
    show binD .sub (den R aX) (den R aY) = _
    rw [hX, hY]
    show DV.int .u64 (IntKind.u64.wrap _) = _
    rw [wrap_u64]
  -- sums
  have sum : ∀ (op : Int) (m : SX) (mb : Bool) (z : Int), den R m = .bool mb → (mb = decide (n' < 0) ∧ z = n + n' ∨ mb = !decide (n' < 0) ∧ z = n - n') → bothZ op 5 3 n s 3 n' s' = 0 → reckZ op n n' = fit z → goalPlan R [(reckV op 3 n s 3 n' s').1, [.int .i64 (reckV op 3 n s 3 n' s').2]] (sumP m) := by
    intro op m mb z hm hz hb hr
    rw [rk33 hb hr]
    have d1 : den R (eql neX m) = .bool (decide (n < 0) == mb) := by
      show binD .eql (den R neX) (den R m) = _
      rw [dx, hm]
      rfl
    refine goal_ask d1 (fun q => ?_) (fun q => ?_)
    · refine goal_ask (d_lss hadd hX) (fun c => ?_) (fun c => ?_)
      · simp only [decide_eq_true_eq] at c
        refine okP_goal (z := z) hI (d_k .u64 1) hadd hm (by decide) (by omega) (by omega) ?_
        cases mb <;> simp_all <;> omega
      · simp only [decide_eq_false_iff_not] at c
        refine okP_goal (z := z) hI (d_k .u64 0) hadd hm (by decide) (by omega) (by omega) ?_
        cases mb <;> simp_all <;> omega
    · refine goal_ask (d_lss hX hY) (fun c => ?_) (fun c => ?_)
      · simp only [decide_eq_true_eq] at c
        refine okP_goal (z := z) hI (d_k .u64 0) hsub1 hm (by decide) (by omega) (by omega) ?_
        cases mb <;> simp_all <;> omega
      · simp only [decide_eq_false_iff_not] at c
        refine okP_goal (z := z) hI (d_k .u64 0) hsub2 dx (by decide) (by omega) (by omega) ?_
        cases mb <;> simp_all <;> omega
  unfold pRk
  have byo : ∀ (m : Nat) (t f : Pln), ((o = m) → goalPlan R [(reckV o k n s k' n' s').1, [.int .i64 (reckV o k n s k' n' s').2]] t) → (o ≠ m → goalPlan R [(reckV o k n s k' n' s').1, [.int .i64 (reckV o k n s k' n' s').2]] f) → goalPlan R [(reckV o k n s k' n' s').1, [.int .i64 (reckV o k n s k' n' s').2]] (byOp m t f) := by
    intro m t f ht hf
    refine goal_ask (d_eql e0 (d_k .i64 m)) (fun q => ?_) (fun q => hf (by simpa using q))
    simp only [decide_eq_true_eq] at q
    exact goal_knows (kindK_ok (by rw [e0, q]) 7) (ht q)
  refine byo 1 _ _ (fun q => ?_) fun q1 => byo 2 _ _ (fun q => ?_) fun q2 => byo 3 _ _ (fun q => ?_) fun q3 => byo 4 _ _ (fun q => ?_) fun q4 => byo 5 _ _ (fun q => ?_) fun q5 => ?_
  · refine rkP_goal hI e1 e2 e3 e4 e5 e6 (by omega) fun hk hk' hb => ?_
    subst q hk hk'
    exact sum 1 neY _ (n + n') dy (.inl ⟨rfl, rfl⟩) hb rfl
  · refine rkP_goal hI e1 e2 e3 e4 e5 e6 (by omega) fun hk hk' hb => ?_
    subst q hk hk'
    refine sum 2 (.not neY) (!decide (n' < 0)) (n - n') ?_ (.inr ⟨rfl, rfl⟩) hb rfl
    show notD (den R neY) = _
    rw [dy]
    rfl
  · refine rkP_goal hI e1 e2 e3 e4 e5 e6 (by omega) fun hk hk' hb => ?_
    subst q hk hk'
    rw [rk33 hb (z := n * n') rfl]
    have hm : ([aX, aY] : List SX).map (den R) = [.int .u64 n.natAbs, .int .u64 n'.natAbs] := by simp only [List.map_cons, List.map_nil, hX, hY]
    have w0 : den R (wdp 0) = .int .u64 ((n.natAbs * n'.natAbs : Int) / 18446744073709551616) := d_res (F := Fwide) (by rw [hI]; rfl) (by rw [hm]; rfl)
    have w1 : den R (wdp 1) = .int .u64 ((n.natAbs * n'.natAbs : Int) % 18446744073709551616) := d_res (j := 1) (F := Fwide) (by rw [hI]; rfl) (by rw [hm]; rfl)
    have hp : (0 : Int) ≤ n.natAbs * n'.natAbs := Int.mul_nonneg (by omega) (by omega)
    refine okP_goal (z := n * n') hI w0 w1 dxy (Int.ediv_nonneg hp (by decide)) (by omega) (by omega) ?_
    have hrec : (n.natAbs * n'.natAbs : Int) / 18446744073709551616 * 18446744073709551616 + (n.natAbs * n'.natAbs : Int) % 18446744073709551616 = n.natAbs * n'.natAbs := by omega
    rw [hrec]
    by_cases c1 : n < 0 <;> by_cases c2 : n' < 0
    · have a1 : (n.natAbs : Int) = -n := by omega
      have a2 : (n'.natAbs : Int) = -n' := by omega
      rw [a1, a2]
      simp [c1, c2, Int.neg_mul_neg]
    · have a1 : (n.natAbs : Int) = -n := by omega
      have a2 : (n'.natAbs : Int) = n' := by omega
      rw [a1, a2]
      simp [c1, c2, Int.neg_mul]
    · have a1 : (n.natAbs : Int) = n := by omega
      have a2 : (n'.natAbs : Int) = -n' := by omega
      rw [a1, a2]
      simp [c1, c2, Int.mul_neg]
    · have a1 : (n.natAbs : Int) = n := by omega
      have a2 : (n'.natAbs : Int) = n' := by omega
      rw [a1, a2]
      simp [c1, c2]
  · refine rkP_goal hI e1 e2 e3 e4 e5 e6 (by omega) fun hk hk' hb => ?_
    subst hk hk'
    have q4' : o = 4 := q
    clear q
    subst q4'
    refine goal_ask (d_eql e5 (d_k .i64 0)) (fun c => ?_) (fun c => goal_ask (d_eql hY (d_k .u64 0)) (fun c2 => ?_) fun c2 => ?_)
    · simp only [decide_eq_true_eq] at c
      show _ = _
      unfold reckV
      rw [hb, if_neg (by decide), if_neg (by decide), if_neg (by decide)]
      have c : n' = 0 := c
      have : reckZ 4 n n' = (0, 152) := by unfold reckZ; rw [if_neg (by decide), if_neg (by decide), if_neg (by decide), if_pos c]
      rw [this]
      rfl
    · simp only [decide_eq_true_eq, decide_eq_false_iff_not] at c c2
      exact absurd c2 (by show ¬ ((n'.natAbs : Int) = 0); omega)
    · simp only [decide_eq_false_iff_not] at c
      have c : n' ≠ 0 := c
      have hr : reckZ 4 n n' = fit (n.tdiv n') := by unfold reckZ; rw [if_neg (by decide), if_neg (by decide), if_neg (by decide), if_neg c, if_pos rfl]
      rw [rk33 hb hr]
      have hq : den R (.bin .quo aX aY) = .int .u64 ((n.natAbs : Int) / n'.natAbs) := by
        show binD .quo (den R aX) (den R aY) = _
        rw [hX, hY]
        show DV.int .u64 (IntKind.u64.wrap ((n.natAbs : Int).tdiv n'.natAbs)) = _
        rw [wrap_u64, Int.tdiv_eq_ediv_of_nonneg (by omega)]
        have h1 : (n.natAbs : Int) / n'.natAbs ≤ n.natAbs := Int.ediv_le_self _ (by omega)
        have h2 : 0 ≤ (n.natAbs : Int) / n'.natAbs := Int.ediv_nonneg (by omega) (by omega)
        congr 1
        omega
      have h1 : (n.natAbs : Int) / n'.natAbs ≤ n.natAbs := Int.ediv_le_self _ (by omega)
      have h2 : 0 ≤ (n.natAbs : Int) / n'.natAbs := Int.ediv_nonneg (by omega) (by omega)
      refine okP_goal (z := n.tdiv n') hI (d_k .u64 0) hq dxy (by decide) h2 (by omega) ?_
      by_cases c1 : n < 0 <;> by_cases c2 : n' < 0
      · have a1 : (n.natAbs : Int) = -n := by omega
        have a2 : (n'.natAbs : Int) = -n' := by omega
        rw [a1, a2]
        simp only [c1, c2, decide_true, BEq.rfl, Bool.not_true, Bool.false_eq_true, if_false, Int.zero_mul, Int.zero_add]
        rw [← Int.tdiv_eq_ediv_of_nonneg (by omega), Int.neg_tdiv, Int.tdiv_neg, Int.neg_neg]
        simp
      · have a1 : (n.natAbs : Int) = -n := by omega
        have a2 : (n'.natAbs : Int) = n' := by omega
        rw [a1, a2, ← Int.tdiv_eq_ediv_of_nonneg (by omega), Int.neg_tdiv]
        simp [c1, c2]
      · have a1 : (n.natAbs : Int) = n := by omega
        have a2 : (n'.natAbs : Int) = -n' := by omega
        rw [a1, a2, ← Int.tdiv_eq_ediv_of_nonneg (by omega), Int.tdiv_neg]
        simp [c1, c2]
      · have a1 : (n.natAbs : Int) = n := by omega
        have a2 : (n'.natAbs : Int) = n' := by omega
        rw [a1, a2, ← Int.tdiv_eq_ediv_of_nonneg (by omega)]
        simp [c1, c2]
  · refine rkP_goal hI e1 e2 e3 e4 e5 e6 (by omega) fun hk hk' hb => ?_
    subst hk hk'
    have q4' : o = 5 := q
    clear q
    subst q4'
    refine goal_ask (d_eql e5 (d_k .i64 0)) (fun c => ?_) (fun c => goal_ask (d_eql hY (d_k .u64 0)) (fun c2 => ?_) fun c2 => ?_)
    · simp only [decide_eq_true_eq] at c
      show _ = _
      unfold reckV
      rw [hb, if_neg (by decide), if_neg (by decide), if_neg (by decide)]
      have c : n' = 0 := c
      have : reckZ 5 n n' = (0, 152) := by unfold reckZ; rw [if_neg (by decide), if_neg (by decide), if_neg (by decide), if_pos c]
      rw [this]
      rfl
    · simp only [decide_eq_true_eq, decide_eq_false_iff_not] at c c2
      exact absurd c2 (by show ¬ ((n'.natAbs : Int) = 0); omega)
    · simp only [decide_eq_false_iff_not] at c
      have c : n' ≠ 0 := c
      have hr : reckZ 5 n n' = fit (n.tmod n') := by unfold reckZ; rw [if_neg (by decide), if_neg (by decide), if_neg (by decide), if_neg c, if_neg (by decide)]
      rw [rk33 hb hr]
      have hq : den R (.bin .rem aX aY) = .int .u64 ((n.natAbs : Int) % n'.natAbs) := by
        show binD .rem (den R aX) (den R aY) = _
        rw [hX, hY]
        show DV.int .u64 ((n.natAbs : Int).tmod n'.natAbs) = _
        rw [Int.tmod_eq_emod_of_nonneg (by omega)]
      have h1 : (n.natAbs : Int) % n'.natAbs < n'.natAbs := Int.emod_lt_of_pos _ (by omega)
      have h2 : 0 ≤ (n.natAbs : Int) % n'.natAbs := Int.emod_nonneg _ (by omega)
      refine okP_goal (z := n.tmod n') hI (d_k .u64 0) hq dx (by decide) h2 (by omega) ?_
      have hab : n.tmod n' = n.tmod n'.natAbs := by
        rcases Int.natAbs_eq n' with e | e
        · rw [← e]
        · conv => lhs; rw [e]
          rw [Int.tmod_neg]
      rw [hab]
      by_cases c1 : n < 0
      · have a1 : (n.natAbs : Int) = -n := by omega
        rw [a1, ← Int.tmod_eq_emod_of_nonneg (by omega), Int.neg_tmod]
        simp [c1]
      · have a1 : (n.natAbs : Int) = n := by omega
        rw [a1, ← Int.tmod_eq_emod_of_nonneg (by omega)]
        simp [c1]
  · refine goal_ask (d_lss e0 (d_k .i64 1)) (fun c => ?_) (fun c => goal_ask (d_lss (d_k .i64 5) e0) (fun c2 => ?_) fun c2 => ?_)
    all_goals simp only [decide_eq_true_eq, decide_eq_false_iff_not] at *
    · show _ = _
      have hb : bothZ o 5 k n s k' n' s' = 2 := by unfold bothZ; rw [if_pos (.inl (by omega))]
      unfold reckV
      rw [hb, if_pos (by decide)]
      rfl
    · show _ = _
      have hb : bothZ o 5 k n s k' n' s' = 2 := by unfold bothZ; rw [if_pos (.inr (by omega))]
      unfold reckV
      rw [hb, if_pos (by decide)]
      rfl
    · show False
      omega
end Go.Proofs.YtholilpmihngaaaGreatDoor
