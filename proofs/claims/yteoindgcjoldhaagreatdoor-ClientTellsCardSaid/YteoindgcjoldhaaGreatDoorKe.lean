/-
  A part of the proof of ClientTells (the machine on named data, and the contracts of the functions that the law reaches): Kf13 Kf14 Kf15 Kf16.
-/
import Derived.Test.YteoindgcjoldhaaGreatDoorKd
set_option linter.all false
set_option linter.unusedVariables false
set_option linter.unusedSimpArgs false
set_option linter.unusedSectionVars false
namespace Go.Proofs.YteoindgcjoldhaaGreatDoor
open Go Go.AM
noncomputable def p24 : Pln :=
  (.ask (.bin .lss (.ki .i64 (.ofNat 1000)) (.len (.v 0)))
    (.ask (.bin .lss (.len (.v 0)) (.ki .i64 (.ofNat 1025)))
      (.done [[(.cut (.v 0) (.ki .i64 (.ofNat 0)) (.len (.v 0)))]])
      (.ask (.bin .lss (.ki .i64 (.ofNat 1025)) (.len (.v 0)))
        (.done [[(.cut (.v 0) (.ki .i64 (.ofNat 0)) (.ki .i64 (.ofNat 1025)))]])
        (.done [[(.cut (.v 0) (.ki .i64 (.ofNat 0)) (.len (.v 0)))]])))
    (.ask (.bin .lss (.len (.v 0)) (.ki .i64 (.ofNat 200)))
      (.done [[(.cut (.v 0) (.ki .i64 (.ofNat 0)) (.len (.v 0)))]])
      (.ask (.bin .lss (.ki .i64 (.ofNat 200)) (.len (.v 0)))
        (.done [[(.cut (.v 0) (.ki .i64 (.ofNat 0)) (.ki .i64 (.ofNat 200)))]])
        (.done [[(.cut (.v 0) (.ki .i64 (.ofNat 0)) (.len (.v 0)))]]))))
noncomputable def p58 : Pln :=
  (.ask (.bin .lss (.len (.v 2)) (.ki .i64 (.ofNat 65)))
    (.done [[(.v 0), (.v 1), (.cut (.v 2) (.ki .i64 (.ofNat 0)) (.len (.v 2)))]])
    (.ask (.bin .lss (.ki .i64 (.ofNat 65)) (.len (.v 2)))
      (.done [[(.v 0), (.v 1), (.cut (.v 2) (.ki .i64 (.ofNat 0)) (.ki .i64 (.ofNat 65)))]])
      (.done [[(.v 0), (.v 1), (.cut (.v 2) (.ki .i64 (.ofNat 0)) (.len (.v 2)))]])))
noncomputable def p25 : Pln :=
  (.ask (.bin .lss (.len (.v 1)) (.ki .i64 (.ofNat 30)))
    (.done [[(.v 0), (.cut (.v 1) (.ki .i64 (.ofNat 0)) (.len (.v 1))), (.at (.app 58 [(.v 2), (.v 3), (.v 4)]) (.ki .i64 (.ofNat 0)) 0), (.at (.app 58 [(.v 2), (.v 3), (.v 4)]) (.ki .i64 (.ofNat 0)) 1), (.at (.app 58 [(.v 2), (.v 3), (.v 4)]) (.ki .i64 (.ofNat 0)) 2), (.at (.app 58 [(.v 5), (.v 6), (.v 7)]) (.ki .i64 (.ofNat 0)) 0), (.at (.app 58 [(.v 5), (.v 6), (.v 7)]) (.ki .i64 (.ofNat 0)) 1), (.at (.app 58 [(.v 5), (.v 6), (.v 7)]) (.ki .i64 (.ofNat 0)) 2), (.at (.app 58 [(.v 8), (.v 9), (.v 10)]) (.ki .i64 (.ofNat 0)) 0), (.at (.app 58 [(.v 8), (.v 9), (.v 10)]) (.ki .i64 (.ofNat 0)) 1), (.at (.app 58 [(.v 8), (.v 9), (.v 10)]) (.ki .i64 (.ofNat 0)) 2)] ++ vars 11 65])
    (.ask (.bin .lss (.ki .i64 (.ofNat 30)) (.len (.v 1)))
      (.done [[(.v 0), (.cut (.v 1) (.ki .i64 (.ofNat 0)) (.ki .i64 (.ofNat 30))), (.at (.app 58 [(.v 2), (.v 3), (.v 4)]) (.ki .i64 (.ofNat 0)) 0), (.at (.app 58 [(.v 2), (.v 3), (.v 4)]) (.ki .i64 (.ofNat 0)) 1), (.at (.app 58 [(.v 2), (.v 3), (.v 4)]) (.ki .i64 (.ofNat 0)) 2), (.at (.app 58 [(.v 5), (.v 6), (.v 7)]) (.ki .i64 (.ofNat 0)) 0), (.at (.app 58 [(.v 5), (.v 6), (.v 7)]) (.ki .i64 (.ofNat 0)) 1), (.at (.app 58 [(.v 5), (.v 6), (.v 7)]) (.ki .i64 (.ofNat 0)) 2), (.at (.app 58 [(.v 8), (.v 9), (.v 10)]) (.ki .i64 (.ofNat 0)) 0), (.at (.app 58 [(.v 8), (.v 9), (.v 10)]) (.ki .i64 (.ofNat 0)) 1), (.at (.app 58 [(.v 8), (.v 9), (.v 10)]) (.ki .i64 (.ofNat 0)) 2)] ++ vars 11 65])
      (.done [[(.v 0), (.cut (.v 1) (.ki .i64 (.ofNat 0)) (.len (.v 1))), (.at (.app 58 [(.v 2), (.v 3), (.v 4)]) (.ki .i64 (.ofNat 0)) 0), (.at (.app 58 [(.v 2), (.v 3), (.v 4)]) (.ki .i64 (.ofNat 0)) 1), (.at (.app 58 [(.v 2), (.v 3), (.v 4)]) (.ki .i64 (.ofNat 0)) 2), (.at (.app 58 [(.v 5), (.v 6), (.v 7)]) (.ki .i64 (.ofNat 0)) 0), (.at (.app 58 [(.v 5), (.v 6), (.v 7)]) (.ki .i64 (.ofNat 0)) 1), (.at (.app 58 [(.v 5), (.v 6), (.v 7)]) (.ki .i64 (.ofNat 0)) 2), (.at (.app 58 [(.v 8), (.v 9), (.v 10)]) (.ki .i64 (.ofNat 0)) 0), (.at (.app 58 [(.v 8), (.v 9), (.v 10)]) (.ki .i64 (.ofNat 0)) 1), (.at (.app 58 [(.v 8), (.v 9), (.v 10)]) (.ki .i64 (.ofNat 0)) 2)] ++ vars 11 65])))

theorem c24 : checkPlan [.one .str] (fun facts => @callL (mkO facts theI) Tryz.prog G noSpec 100 (fun _ => none) 24 (mkArgs 0 [.one .str]) heap0) [] p24 = true := by kernel_rfl
theorem c58 : checkPlan [.agg tVal] (fun facts => @callL (mkO facts theI) Tryz.prog G noSpec 100 (fun _ => none) 58 (mkArgs 0 [.agg tVal]) heap0) [] p58 = true := by kernel_rfl
theorem fn24 : FnOK Tryz.prog G 24 [.one .str] [.one .str] (fun _ => True) F24 := by
  refine fn_run (I := theI) (spec := fun _ => noSpec) (fun O _ => noSpec_ok O) (by kernel_rfl) p24 c24 ?_
  intro E ds vs h _
  obtain ⟨s, rfl, hs⟩ := one_str h
  have e1 : ∀ n, s.size ≤ n → cutN n s = s := fun n h => by rw [cutN, Nat.min_eq_left h]; simp
  have e2 : ∀ n, n ≤ s.size → cutN n s = s.extract 0 n := fun n h => by rw [cutN, Nat.min_eq_right h]
  simp [p24, goalPlan, den, binD, lenD, cutD, rhoOf, F24, sD, cutT]
  refine ⟨fun a => ⟨fun b => ?_, fun b => ⟨fun c => ?_, fun c => ?_⟩⟩, fun a => ⟨fun b => ?_, fun b => ⟨fun c => ?_, fun c => ?_⟩⟩⟩
  · rw [if_pos (by omega), e1 _ (by omega)]
  · rw [if_pos (by omega), e2 _ (by omega)]
  · rw [if_pos (by omega), e1 _ (by omega)]
  · rw [if_neg (by omega), e1 _ (by omega)]
  · rw [if_neg (by omega), e2 _ (by omega)]
  · rw [if_neg (by omega), e1 _ (by omega)]
theorem fn58 : FnOK Tryz.prog G 58 [.agg tVal] [.agg tVal] (fun _ => True) F58 := by
  refine fn_run (I := theI) (spec := fun _ => noSpec) (fun O _ => noSpec_ok O) (by kernel_rfl) p58 c58 ?_
  intro E ds vs h _
  obtain ⟨k, n, s, rfl⟩ := agg_val h
  have e1 : ∀ n, s.size ≤ n → cutN n s = s := fun n h => by rw [cutN, Nat.min_eq_left h]; simp
  have e2 : ∀ n, n ≤ s.size → cutN n s = s.extract 0 n := fun n h => by rw [cutN, Nat.min_eq_right h]
  simp [p58, goalPlan, den, binD, lenD, cutD, rhoOf, F58, row58, sD]
  refine ⟨fun a => ?_, fun a => ⟨fun b => ?_, fun b => ?_⟩⟩
  · rw [e1 _ (by omega)]
  · rw [e2 _ (by omega)]
  · rw [e1 _ (by omega)]
noncomputable def sp6 (O : Orc) : FuncId → Option (List AV → AHeap → Out)
  | 58 => some (@symSp O [.agg tVal] [.agg tVal] [] 58)
  | 24 => some (@symSp O [.one .str] [.one .str] [] 24)
  | _ => none
theorem sp6_ok (O : Orc) (hO : O.I = theI) : SpecOK Tryz.prog G (sp6 O) := by
  intro f sp h
  unfold sp6 at h
  split at h <;> cases h
  · exact spec_one fn58 fun ds => by rw [hO]; rfl
  · exact spec_one fn24 fun ds => by rw [hO]; rfl
theorem c25 : checkPlan [.agg tQry] (fun facts => @callL (mkO facts theI) Tryz.prog G (sp6 (mkO facts theI)) 100 (fun _ => none) 25 (mkArgs 0 [.agg tQry]) heap0) [] p25 = true := by kernel_rfl
theorem vars_den (I : Nat → List DV → DV) (ds : List DV) (a n : Nat) (h : a + n ≤ ds.length) : (vars a n).map (den (rhoOf I ds)) = (ds.drop a).take n := by
  unfold vars
  rw [List.map_map]
  refine List.ext_getElem (by simp; omega) fun i h1 h2 => ?_
  simp only [List.getElem_map, List.getElem_range, List.getElem_take, List.getElem_drop, Function.comp, den, rhoOf]
  have : a + i < ds.length := by simp at h1; omega
  simp [List.getD_eq_getElem?_getD, List.getElem?_eq_getElem this]
theorem qry_len {m : Env} {row : List DV} {vs : List Value} (h : RepArgs m [.agg tQry] [row] vs) : row.length = 76 := by
  simp only [RepArgs, RepOne] at h
  obtain ⟨_, _, _, _, e, _, ⟨_, _, h⟩, _⟩ := h
  cases e
  exact h.length
theorem fn25 : FnOK Tryz.prog G 25 [.agg tQry] [.agg tQry] (fun _ => True) F25 := by
  refine fn_run (spec := sp6) sp6_ok (by kernel_rfl) p25 c25 ?_
  intro E ds vs h _
  obtain ⟨k, s, a, b, c, d, e, f, g, u, v, r, rfl⟩ := agg_qry h
  have hlen := qry_len h
  have hv := vars_den theI (DV.int .i64 k :: .str s :: .int .i64 a :: .int .i64 b :: .str c :: .int .i64 d :: .int .i64 e :: .str f :: .int .i64 g :: .int .i64 u :: .str v :: r) 11 65 (by omega)
  have hr : ((DV.int .i64 k :: .str s :: .int .i64 a :: .int .i64 b :: .str c :: .int .i64 d :: .int .i64 e :: .str f :: .int .i64 g :: .int .i64 u :: .str v :: r).drop 11).take 65 = r := by
    simp at hlen
    show r.take 65 = r
    rw [List.take_of_length_le (by omega)]
  rw [hr] at hv
  have e1 : ∀ n, s.size ≤ n → cutN n s = s := fun n h => by rw [cutN, Nat.min_eq_left h]; simp
  have e2 : ∀ n, n ≤ s.size → cutN n s = s.extract 0 n := fun n h => by rw [cutN, Nat.min_eq_right h]
  have hF : F25 [DV.int .i64 k :: .str s :: .int .i64 a :: .int .i64 b :: .str c :: .int .i64 d :: .int .i64 e :: .str f :: .int .i64 g :: .int .i64 u :: .str v :: r].flatten = [.int .i64 k :: .str (cutN 30 s) :: (row58 (.int .i64 a) (.int .i64 b) c ++ row58 (.int .i64 d) (.int .i64 e) f ++ row58 (.int .i64 g) (.int .i64 u) v ++ r)] := by simp [F25, row25, sD]
  rw [hF]
  have hfl : [DV.int .i64 k :: .str s :: .int .i64 a :: .int .i64 b :: .str c :: .int .i64 d :: .int .i64 e :: .str f :: .int .i64 g :: .int .i64 u :: .str v :: r].flatten = DV.int .i64 k :: .str s :: .int .i64 a :: .int .i64 b :: .str c :: .int .i64 d :: .int .i64 e :: .str f :: .int .i64 g :: .int .i64 u :: .str v :: r := by simp
  rw [hfl]
  generalize hR : rhoOf theI (DV.int .i64 k :: .str s :: .int .i64 a :: .int .i64 b :: .str c :: .int .i64 d :: .int .i64 e :: .str f :: .int .i64 g :: .int .i64 u :: .str v :: r) = R at *
  have hI : ∀ k ds, R.I k ds = theI k ds := by rw [← hR]; exact fun _ _ => rfl
  have h0 : R.ρ 0 = .int .i64 k := by rw [← hR]; rfl
  have h1 : R.ρ 1 = .str s := by rw [← hR]; rfl
  have h2 : R.ρ 2 = .int .i64 a := by rw [← hR]; rfl
  have h3 : R.ρ 3 = .int .i64 b := by rw [← hR]; rfl
  have h4 : R.ρ 4 = .str c := by rw [← hR]; rfl
  have h5 : R.ρ 5 = .int .i64 d := by rw [← hR]; rfl
  have h6 : R.ρ 6 = .int .i64 e := by rw [← hR]; rfl
  have h7 : R.ρ 7 = .str f := by rw [← hR]; rfl
  have h8 : R.ρ 8 = .int .i64 g := by rw [← hR]; rfl
  have h9 : R.ρ 9 = .int .i64 u := by rw [← hR]; rfl
  have h10 : R.ρ 10 = .str v := by rw [← hR]; rfl
  have i58 : ∀ x y z, theI 58 [x, y, .str z] = .list [row58 x y z] := fun _ _ _ => rfl
  clear hR hF hfl hr h hlen
  simp only [p25, goalPlan, den, den.denL, hI, h0, h1, h2, h3, h4, h5, h6, h7, h8, h9, h10, i58, row58, atD, binD, lenD, cutD, List.map_cons, List.map_nil, List.map_append, hv]
  simp
  refine ⟨fun a => ?_, fun a => ⟨fun b => ?_, fun b => ?_⟩⟩
  · rw [e1 _ (by omega)]
  · rw [e2 _ (by omega)]
  · rw [e1 _ (by omega)]
noncomputable def p7 : Pln :=
  (.ask (.bin .lss (.len (.v 82)) (.ki .i64 (.ofNat 17)))
    (.ask (.bin .lss (.ki .i64 (.ofNat 1000000)) (.len (.cut (.v 82) (.ki .i64 (.ofNat 0)) (.len (.v 82)))))
      .never
      (.done [[(.v 0), (.v 1), (.at (.app 24 [(.v 2)]) (.ki .i64 (.ofNat 0)) 0), (.v 3)] ++ q25 ++ [(.v 80), (.v 81), (.cut (.v 82) (.ki .i64 (.ofNat 0)) (.len (.v 82)))]]))
    (.ask (.bin .lss (.ki .i64 (.ofNat 17)) (.len (.v 82)))
      (.ask (.bin .lss (.ki .i64 (.ofNat 1000000)) (.len (.cut (.v 82) (.ki .i64 (.ofNat 0)) (.ki .i64 (.ofNat 17)))))
        .never
        (.done [[(.v 0), (.v 1), (.at (.app 24 [(.v 2)]) (.ki .i64 (.ofNat 0)) 0), (.v 3)] ++ q25 ++ [(.v 80), (.v 81), (.cut (.v 82) (.ki .i64 (.ofNat 0)) (.ki .i64 (.ofNat 17)))]]))
      (.ask (.bin .lss (.ki .i64 (.ofNat 1000000)) (.len (.cut (.v 82) (.ki .i64 (.ofNat 0)) (.len (.v 82)))))
        .never
        (.done [[(.v 0), (.v 1), (.at (.app 24 [(.v 2)]) (.ki .i64 (.ofNat 0)) 0), (.v 3)] ++ q25 ++ [(.v 80), (.v 81), (.cut (.v 82) (.ki .i64 (.ofNat 0)) (.len (.v 82)))]]))))

noncomputable def sp7 (O : Orc) : FuncId → Option (List AV → AHeap → Out)
  | 25 => some (@symSp O [.agg tQry] [.agg tQry] [] 25)
  | f => sp6 O f
theorem sp7_ok (O : Orc) (hO : O.I = theI) : SpecOK Tryz.prog G (sp7 O) := by
  intro f sp h
  unfold sp7 at h
  split at h
  · cases h; exact spec_one fn25 fun ds => by rw [hO]; rfl
  · exact sp6_ok O hO f sp h
theorem c7 : checkPlan [.agg tCli] (fun facts => @callL (mkO facts theI) Tryz.prog G (sp7 (mkO facts theI)) 100 (fun _ => none) 7 (mkArgs 0 [.agg tCli]) heap0) [] p7 = true := by kernel_rfl
theorem row25_len {q : List DV} (h : q.length = 76) : (row25 q).length = 76 := by
  simp [row25, row58, h]
theorem range_getD {α : Type} {l : List α} {d : α} {n : Nat} (h : l.length = n) : (List.range n).map (fun k => l.getD k d) = l := by
  refine List.ext_getElem (by simp [h]) fun i h1 h2 => ?_
  simp [List.getD_eq_getElem?_getD, List.getElem?_eq_getElem h2]
theorem q25_den (row : List DV) (h : row.length = 83) : q25.map (den (rhoOf theI row)) = row25 ((row.drop 4).take 76) := by
  have hl : ((row.drop 4).take 76).length = 76 := by simp [h]
  have key : ∀ k, den (rhoOf theI row) (.at (.app 25 qArgs) (.ki .i64 (.ofNat 0)) k) = (row25 ((row.drop 4).take 76)).getD k (.bool false) := by
    intro k
    simp only [den, qArgs_den theI row h]
    rfl
  unfold q25
  rw [List.map_map]
  have : ((den (rhoOf theI row)) ∘ fun k => SX.at (.app 25 qArgs) (.ki .i64 (.ofNat 0)) k) = fun k => (row25 ((row.drop 4).take 76)).getD k (.bool false) := by
    funext k
    exact key k
  rw [this, range_getD (row25_len hl)]
theorem fn7 : FnOK Tryz.prog G 7 [.agg tCli] [.agg tCli] (fun _ => True) F7 := by
  refine fn_run (spec := sp7) sp7_ok (by kernel_rfl) p7 c7 ?_
  intro E ds vs h _
  obtain ⟨row, num, seq, leader, text, away, rd, es, rfl, hc⟩ := agg_cli h
  have hf : [row].flatten = row := by simp
  rw [hf]
  have hq := q25_den row hc.len
  have e2 : sD row 2 = text := by simp only [sD, hc.h2]
  have e82 : lD row 82 = es := by simp only [lD, hc.h82]
  have hF : F7 row = [[DV.int .i64 num, .int .u32 seq, .str (cutT text), .bool away] ++ row25 ((row.drop 4).take 76) ++ [.bool rd, .int .i64 leader, .list (es.take 17)]] := by
    simp only [F7, row7, hc.h0, hc.h1, hc.h3, hc.h80, hc.h81, e2, e82]
  rw [hF]
  generalize hR : rhoOf theI row = R at *
  have hI : ∀ k ds, R.I k ds = theI k ds := by rw [← hR]; exact fun _ _ => rfl
  have h0 : R.ρ 0 = .int .i64 num := by rw [← hR]; exact hc.h0
  have h1 : R.ρ 1 = .int .u32 seq := by rw [← hR]; exact hc.h1
  have h2 : R.ρ 2 = .str text := by rw [← hR]; exact hc.h2
  have h3 : R.ρ 3 = .bool away := by rw [← hR]; exact hc.h3
  have h80 : R.ρ 80 = .bool rd := by rw [← hR]; exact hc.h80
  have h81 : R.ρ 81 = .int .i64 leader := by rw [← hR]; exact hc.h81
  have h82 : R.ρ 82 = .list es := by rw [← hR]; exact hc.h82
  have i24 : ∀ s, theI 24 [.str s] = .list [[.str (cutT s)]] := fun _ => rfl
  clear hR hF h hc
  simp only [p7, goalPlan, den, den.denL, hI, h0, h1, h2, h3, h80, h81, h82, i24, atD, binD, lenD, cutD, List.map_cons, List.map_nil, List.map_append, hq]
  simp
  refine ⟨fun a => ⟨by omega, fun _ => ?_⟩, fun a => ⟨fun b => ?_, fun b => ⟨by omega, fun _ => ?_⟩⟩⟩
  · rw [List.take_of_length_le (by omega)]
  · omega
  · rw [List.take_of_length_le (by omega)]
end Go.Proofs.YteoindgcjoldhaaGreatDoor
namespace Go.Proofs.YteoindgcjoldhaaGreatDoor
open Go Go.AM
/-- Rows of digests, cell by cell. -/
def Rows (es : List (List DV)) : Prop := es.length ≤ maxLen ∧ ∀ row ∈ es, row.length = 65 ∧ ∀ d ∈ row, ∃ k z, d = .int k z
theorem repL_ints {m : Env} {b : Nat} : ∀ {ts : List Ty} {ds : List DV} {o : Nat}, RepL m ts ds b o → (∀ t ∈ ts, ∃ k, t = .int k) → ∀ d ∈ ds, ∃ k z, d = .int k z
  | [], ds, o, h, _, d, hd => by simp only [RepL] at h; subst h; simp at hd
  | t :: ts, ds, o, h, ht, d, hd => by
    simp only [RepL] at h
    obtain ⟨x, rest, v, rfl, _, h2, h3⟩ := h
    simp only [List.mem_cons] at hd
    rcases hd with rfl | hd
    · obtain ⟨k, rfl⟩ := ht t (by simp)
      simp only [Rep] at h2
      obtain ⟨z, rfl, _⟩ := h2
      exact ⟨k, z, rfl⟩
    · exact repL_ints h3 (fun u hu => ht u (by simp [hu])) d hd
theorem rep_rows {m : Env} {d : DV} {v : Value} (h : Rep m (.slice tDig) d v) : ∃ es, d = .list es ∧ Rows es := by
  simp only [Rep] at h
  obtain ⟨es, a, c, rfl, _, h3, h4, h5, h6⟩ := h
  refine ⟨es, rfl, h4, fun row hrow => ?_⟩
  obtain ⟨j, hj⟩ := List.mem_iff_getElem?.1 hrow
  have hlt := (List.getElem?_eq_some_iff.1 hj).1
  rcases h6 with h6 | ⟨b, o, _, h7⟩
  · have := h6
    omega
  · have := h7 j row hj
    exact ⟨this.length, repL_ints this (by intro t ht; simp only [tDig, tId, List.mem_cons, List.mem_append, List.mem_replicate] at ht; rcases ht with rfl | ⟨_, rfl⟩ | ⟨_, rfl⟩ <;> exact ⟨_, rfl⟩)⟩
theorem eqFrom_ge {es fs : List (List DV)} {i : Int} (h : (es.length : Int) ≤ i) : eqFrom es fs i = true := by
  unfold eqFrom
  simp only [decide_eq_true_eq]
  intro j h1 h2
  omega
open Classical in
theorem eqFrom_step {es fs : List (List DV)} {i : Int} (h0 : 0 ≤ i) (h : i < es.length) : eqFrom es fs i = (decide (es.getD i.toNat [] = fs.getD i.toNat []) && eqFrom es fs (i + 1)) := by
  rw [Bool.eq_iff_iff]
  simp only [eqFrom, decide_eq_true_eq, Bool.and_eq_true]
  constructor
  · intro H
    exact ⟨H i.toNat (by omega) (by omega), fun j h1 h2 => H j h1 (by omega)⟩
  · rintro ⟨H1, H2⟩ j h1 h2
    by_cases e : (j : Int) = i
    · rw [show i.toNat = j by omega] at H1
      exact H1
    · exact H2 j h1 (by omega)
noncomputable def eqR : SX := .all ((List.range 65).map fun c => .bin .eql (.at (.v 0) (.v 2) c) (.at (.v 1) (.v 2) c))
theorem eqR_den {R : Rho} {es fs : List (List DV)} {i : Int} (h0 : R.ρ 0 = .list es) (h1 : R.ρ 1 = .list fs) (h2 : R.ρ 2 = .int .i64 i) (hi : 0 ≤ i) (hl : i < es.length) (hl2 : es.length = fs.length) (he : Rows es) (hf : Rows fs) :
    ∃ b, den R eqR = .bool b ∧ (b = true ↔ es.getD i.toNat [] = fs.getD i.toNat []) := by
  have e1 : es.getD i.toNat [] = es[i.toNat]'(by omega) := by simp [List.getD_eq_getElem?_getD, List.getElem?_eq_getElem (show i.toNat < es.length by omega)]
  have e2 : fs.getD i.toNat [] = fs[i.toNat]'(by omega) := by simp [List.getD_eq_getElem?_getD, List.getElem?_eq_getElem (show i.toNat < fs.length by omega)]
  obtain ⟨l1, p1⟩ := he.2 _ (List.getElem_mem (show i.toNat < es.length by omega))
  obtain ⟨l2, p2⟩ := hf.2 _ (List.getElem_mem (show i.toNat < fs.length by omega))
  rw [e1, e2]
  generalize es[i.toNat]'(by omega) = x at *
  generalize fs[i.toNat]'(by omega) = y at *
  refine ⟨den.denAll R ((List.range 65).map fun c => .bin .eql (.at (.v 0) (.v 2) c) (.at (.v 1) (.v 2) c)), rfl, ?_⟩
  have cell : ∀ c, c < 65 → ∃ r : Bool, den R (.bin .eql (.at (.v 0) (.v 2) c) (.at (.v 1) (.v 2) c)) = .bool r ∧ (r = true ↔ x.getD c (.bool false) = y.getD c (.bool false)) := by
    intro c hc
    have a1 : den R (.at (.v 0) (.v 2) c) = x.getD c (.bool false) := by simp only [den, h0, h2, atD, e1]
    have a2 : den R (.at (.v 1) (.v 2) c) = y.getD c (.bool false) := by simp only [den, h1, h2, atD, e2]
    have g1 : x.getD c (.bool false) = x[c]'(by omega) := by simp [List.getD_eq_getElem?_getD, List.getElem?_eq_getElem (show c < x.length by omega)]
    have g2 : y.getD c (.bool false) = y[c]'(by omega) := by simp [List.getD_eq_getElem?_getD, List.getElem?_eq_getElem (show c < y.length by omega)]
    obtain ⟨k, z, q1⟩ := p1 _ (List.getElem_mem (show c < x.length by omega))
    obtain ⟨k', z', q2⟩ := p2 _ (List.getElem_mem (show c < y.length by omega))
    rw [g1, g2, q1, q2]
    refine ⟨_, by rw [den, a1, a2, g1, g2, q1, q2]; rfl, ?_⟩
    simp
  have all : ∀ l : List Nat, (∀ c ∈ l, c < 65) → (den.denAll R (l.map fun c => .bin .eql (.at (.v 0) (.v 2) c) (.at (.v 1) (.v 2) c)) = true ↔ ∀ c ∈ l, x.getD c (.bool false) = y.getD c (.bool false)) := by
    intro l
    induction l with
    | nil => intro _; simp [den.denAll]
    | cons a l ih =>
      intro hc
      obtain ⟨r, q1, q2⟩ := cell a (hc a (by simp))
      have := ih fun c h => hc c (by simp [h])
      simp only [List.map_cons, den.denAll, q1, isT, Bool.and_eq_true, q2, this, List.mem_cons, forall_eq_or_imp]
  rw [all _ (by simp)]
  constructor
  · intro H
    refine List.ext_getElem (by omega) fun c g1 g2 => ?_
    have := H c (by simp; omega)
    simpa [List.getD_eq_getElem?_getD, List.getElem?_eq_getElem g1, List.getElem?_eq_getElem g2] using this
  · intro H c _
    rw [H]
noncomputable def T41 : Tmpl := ⟨[(0, .sy (.slice tDig) (.v 0)), (1, .sy (.slice tDig) (.v 1)), (12, .sy tI (.len (.v 0))), (13, .sy tI (.v 2))], []⟩
noncomputable def Y41 : Tmpl := ⟨[], []⟩
noncomputable def N41 : Tmpl := ⟨[(4, .sc (.bool false))], []⟩
noncomputable def L41 : LoopSp :=
  { n := 26, T := T41, src := [.tm 0 (.slice tDig), .tm 1 (.slice tDig), .tm 13 tI], pre := [(.bin .lss (.v 2) zeroS, false), (.bin .lss (.len (.v 0)) (.v 2), false), (.bin .eql (.len (.v 0)) (.len (.v 1)), true)], cnd := .app 1041 [.v 0, .v 1, .v 2],
    yes := (.exit 0, Y41.sub []), no := (.ret, N41.sub []) }
noncomputable def run41 (facts : List (SX × Bool)) (s : St) : Run := @codeL (mkO facts theI) Tryz.prog G (noSpec) 100 (fun _ => none) (loop1 41) s
noncomputable def in41 : List (SX × Bool) := [(.bin .lss (.v 2) (.len (.v 0)), true), (.bin .lss (.v 2) (.len (.v 1)), true), (.bin .lss (.v 2) zeroS, false)]
noncomputable def a1 : List (SX × Bool) := [(.bin .lss (.v 2) (.len (.v 0)), false)]
noncomputable def a2 (b : Bool) : List (SX × Bool) := (eqR, b) :: in41
noncomputable def nx41 : List SX := [.v 0, .v 1, .bin .add (.v 2) (.ki .i64 (.ofNat 1))]
theorem b1 : stepExit L41 Y41 (.exit 0) [] (run41 a1 (L41.T.st L41.n)) = true := by kernel_rfl
theorem b2 : stepNext L41 nx41 (run41 (a2 true) (L41.T.st L41.n)) = true := by kernel_rfl
theorem b3 : stepExit L41 N41 .ret [] (run41 (a2 false) (L41.T.st L41.n)) = true := by kernel_rfl
theorem one41 : (loopsIn (bodyOf 41)).length = 1 := by kernel_rfl
theorem noLoops41 : LoopsOK Tryz.prog G theI (fun _ => none) (loop1 41) := fun _ _ _ h => by cases h
def inv41 (R : Rho) : Prop := ∃ es fs i, R.ρ 0 = .list es ∧ R.ρ 1 = .list fs ∧ R.ρ 2 = .int .i64 i ∧ 0 ≤ i ∧ i ≤ es.length ∧ es.length = fs.length ∧ Rows es ∧ Rows fs
noncomputable def mu41 (R : Rho) : Nat := match R.ρ 0, R.ρ 2 with
  | .list es, .int _ n => es.length - n.toNat
  | _, _ => 0
open Classical in
theorem lk41 : LoopOK Tryz.prog G theI (loop1 41) L41 := by
  refine loop_ind (spec := fun _ => noSpec) hmix hNum (fun O _ => noSpec_ok O) plainG 100 noLoops41 (by kernel_rfl) inv41 mu41 ?_ ?_
  · intro m a w hr hp
    obtain ⟨_, z2, _, _, _⟩ := hr
    have h0 := z2 0
    have h1 := z2 1
    have h2 := z2 13
    have e0 : ((L41.T.st L41.n).tm.get 0).getD (.sc undef) = .sy (.slice tDig) (.v 0) := by kernel_rfl
    have e1 : ((L41.T.st L41.n).tm.get 1).getD (.sc undef) = .sy (.slice tDig) (.v 1) := by kernel_rfl
    have e2 : ((L41.T.st L41.n).tm.get 13).getD (.sc undef) = .sy tI (.v 2) := by kernel_rfl
    rw [e0] at h0
    rw [e1] at h1
    rw [e2] at h2
    simp only [V, den] at h0 h1 h2
    obtain ⟨es, d0, hd0⟩ := rep_rows h0
    obtain ⟨fs, d1, hd1⟩ := rep_rows h1
    simp only [Rep] at h2
    obtain ⟨i, d2, _⟩ := h2
    have p1 := hp (.bin .lss (.v 2) zeroS, false) (by simp [L41])
    have p2 := hp (.bin .lss (.len (.v 0)) (.v 2), false) (by simp [L41])
    have p3 := hp (.bin .eql (.len (.v 0)) (.len (.v 1)), true) (by simp [L41])
    simp [den, d0, d1, d2, zeroS, binD, lenD] at p1 p2 p3
    exact ⟨es, fs, i, d0, d1, d2, p1, p2, by omega, hd0, hd1⟩
  · rintro R hI ⟨es, fs, i, h0, h1, h2, g1, g2, g3, g4, g5⟩
    have happ : ∀ R' : Rho, R'.I = theI → ∀ i', R'.ρ 0 = .list es → R'.ρ 1 = .list fs → R'.ρ 2 = .int .i64 i' → den R' L41.cnd = .bool (eqFrom es fs i') := by
      intro R' hI i' e0 e1 e2
      simp only [L41, den, den.denL, e0, e1, e2, hI]
      rfl
    have hcnd := happ R hI i h0 h1 h2
    by_cases hlt : i < es.length
    · obtain ⟨b, hb, hbi⟩ := eqR_den h0 h1 h2 g1 hlt g3 g4 g5
      have hst := eqFrom_step (fs := fs) g1 hlt
      have hin : ∀ q ∈ a2 b, den R q.1 = .bool q.2 := by
        intro q hq
        simp only [a2, in41, List.mem_cons, List.not_mem_nil, or_false] at hq
        rcases hq with rfl | rfl | rfl | rfl
        · exact hb
        · simp [den, h0, h2, binD, lenD, hlt]
        · simp [den, h1, h2, binD, lenD]; omega
        · simp [den, h2, zeroS, binD]; omega
      cases b with
      | true =>
        have heq := hbi.1 rfl
        have r2 : (R.sub nx41).ρ 2 = .int .i64 (i + 1) := by
          simp [nx41, Rho.sub, den, h2, binD]
          exact wrap_i64 (by omega) (by have := g4.1; omega)
        refine StepOK.next nx41 (a2 true) b2 hin ⟨es, fs, i + 1, h0, h1, r2, by omega, by omega, g3, g4, g5⟩ ?_ ?_ ?_
        · have r0 : (R.sub nx41).ρ 0 = .list es := h0
          simp only [mu41, r0, r2, h0, h2]
          omega
        · rw [happ (R.sub nx41) hI (i + 1) h0 h1 r2, hcnd, hst, decide_eq_true heq, Bool.true_and]
        · intro b _ x hx
          cases b <;> simp [L41, LoopSp.pick, N41, Y41, Tmpl.sub, Tmpl.sxs, substTm, substAV, sxsTm, sxsOb, sxs, substOb] at hx
      | false =>
        have hne : ¬ es.getD i.toNat [] = fs.getD i.toNat [] := fun e => by have := hbi.2 e; cases this
        exact StepOK.exit (T' := N41) (e := .ret) (outs := []) (τ := []) (b := false) (a2 false) b3 hin (by rw [hcnd, hst, decide_eq_false hne, Bool.false_and]) rfl (fun _ => rfl)
    · refine StepOK.exit (T' := Y41) (e := .exit 0) (outs := []) (τ := []) (b := true) a1 b1 ?_ (by rw [hcnd, eqFrom_ge (by omega)]) rfl (fun _ => rfl)
      intro q hq
      simp only [a1, List.mem_cons, List.not_mem_nil, or_false] at hq
      subst hq
      simp [den, h0, h2, binD, lenD]
      omega
end Go.Proofs.YteoindgcjoldhaaGreatDoor
namespace Go.Proofs.YteoindgcjoldhaaGreatDoor
open Go Go.AM
noncomputable def p41 : Pln :=
  (.ask (.bin .eql (.len (.v 0)) (.len (.v 1)))
    (.ask (.app 1041 [(.v 0), (.v 1), (.ki .i64 (.ofNat 0))])
      (.done [[(.kb true)]])
      (.done [[(.kb false)]]))
    (.done [[(.kb false)]]))

theorem c41 : checkPlan [.one .bool] (fun facts => @callL (mkO facts theI) Tryz.prog G noSpec 100 (lp 5 L41) 41 (mkArgs 0 [.one (.slice tDig), .one (.slice tDig)]) heap0) [] p41 = true := by kernel_rfl
theorem two_digs {m : Env} {ds : List (List DV)} {vs : List Value} (h : RepArgs m [.one (.slice tDig), .one (.slice tDig)] ds vs) : ∃ es fs, ds = [[.list es], [.list fs]] ∧ Rows es ∧ Rows fs := by
  simp only [RepArgs, RepOne] at h
  obtain ⟨_, _, _, _, rfl, rfl, ⟨_, rfl, h1⟩, _, _, _, _, rfl, rfl, ⟨_, rfl, h2⟩, rfl, rfl⟩ := h
  obtain ⟨es, rfl, he⟩ := rep_rows h1
  obtain ⟨fs, rfl, hf⟩ := rep_rows h2
  exact ⟨es, fs, rfl, he, hf⟩
theorem fn41 : FnOK Tryz.prog G 41 [.one (.slice tDig), .one (.slice tDig)] [.one .bool] (fun _ => True) F41 := by
  refine fn_loops (spec := fun _ => noSpec) (lps := lp 5 L41) (fun O _ => noSpec_ok O) (loops_one one41 lk41) (by kernel_rfl) p41 c41 ?_
  intro E ds vs h _
  obtain ⟨es, fs, rfl, he, hf⟩ := two_digs h
  have i1041 : ∀ ds, theI 1041 ds = .bool (eqFrom (lD ds 0) (lD ds 1) (iD ds 2)) := fun _ => rfl
  have hF : F41 [[DV.list es], [DV.list fs]].flatten = [[.bool (decide (es.length = fs.length) && eqFrom es fs 0)]] := rfl
  rw [hF]
  simp only [p41, goalPlan, den, den.denL, rhoOf, i1041, List.flatten_cons, List.flatten_nil, List.append_nil, List.cons_append, List.nil_append, List.getD_cons_zero, List.getD_cons_succ, lenD, binD, lD, iD, List.map_cons, List.map_nil]
  generalize eqFrom es fs 0 = ef
  by_cases e : es.length = fs.length <;> cases ef <;> simp [e] <;> omega
/-! ### client.Same -/
theorem rep_plain {m : Env} {t : Ty} {d : DV} {v : Value} (h : Rep m t d v) (ht : ∀ cs, t ≠ .slice cs) : plainD d := by
  cases t with
  | int k => simp only [Rep] at h; obtain ⟨z, rfl, _⟩ := h; trivial
  | bool => simp only [Rep] at h; obtain ⟨z, rfl, _⟩ := h; trivial
  | str => simp only [Rep] at h; obtain ⟨z, rfl, _⟩ := h; trivial
  | slice cs => exact absurd rfl (ht cs)
noncomputable def plainT : Ty → Bool
  | .slice _ => false
  | _ => true
theorem cli_plainT : (tCli.take 82).all plainT = true := by kernel_rfl
structure Two (ra rb : List DV) (es fs : List (List DV)) : Prop where
  la : ra.length = 83
  lb : rb.length = 83
  pa : ∀ i, i < 82 → plainD (ra.getD i (.bool false))
  pb : ∀ i, i < 82 → plainD (rb.getD i (.bool false))
  ea : ra.getD 82 (.bool false) = .list es
  eb : rb.getD 82 (.bool false) = .list fs
  re : Rows es
  rf : Rows fs
theorem repV_cli {m : Env} {r : List DV} {vs : List Value} (h : RepV m tCli r vs) : ∃ es, r.length = 83 ∧ (∀ i, i < 82 → plainD (r.getD i (.bool false))) ∧ r.getD 82 (.bool false) = .list es ∧ Rows es := by
  obtain ⟨d6, _, e6, r6⟩ := RepV_get h (i := 82) (t := .slice tDig) rfl
  obtain ⟨es, rfl, hd⟩ := rep_rows r6
  refine ⟨es, h.length, fun i hi => ?_, by rw [List.getD_eq_getElem?_getD, e6]; rfl, hd⟩
  have hlt : i < tCli.length := by have : tCli.length = 83 := rfl; omega
  obtain ⟨d, v, e, hr⟩ := RepV_get h (i := i) (t := tCli[i]) (List.getElem?_eq_getElem hlt)
  rw [List.getD_eq_getElem?_getD, e]
  refine rep_plain hr fun cs ht => ?_
  have h1 : tCli[i] ∈ tCli.take 82 := List.mem_take_iff_getElem.2 ⟨i, by omega, rfl⟩
  have := List.all_eq_true.1 cli_plainT _ h1
  rw [ht] at this
  cases this
theorem two_cli {m : Env} {ds : List (List DV)} {vs : List Value} (h : RepArgs m [.agg tCli, .agg tCli] ds vs) : ∃ ra rb es fs, ds = [ra, rb] ∧ Two ra rb es fs := by
  simp only [RepArgs, RepOne] at h
  obtain ⟨ra, _, _, _, rfl, rfl, ⟨_, rfl, h1⟩, rb, _, _, _, rfl, rfl, ⟨_, rfl, h2⟩, rfl, rfl⟩ := h
  obtain ⟨es, a1, a2, a3, a4⟩ := repV_cli h1
  obtain ⟨fs, b1, b2, b3, b4⟩ := repV_cli h2
  exact ⟨ra, rb, es, fs, rfl, a1, b1, a2, b2, a3, b3, a4, b4⟩
noncomputable def sp8 (O : Orc) : FuncId → Option (List AV → AHeap → Out)
  | 41 => some (@symSp O [.one (.slice tDig), .one (.slice tDig)] [.one .bool] [] 41)
  | _ => none
theorem sp8_ok (O : Orc) (hO : O.I = theI) : SpecOK Tryz.prog G (sp8 O) := by
  intro f sp h
  unfold sp8 at h
  split at h <;> cases h
  exact spec_one fn41 fun ds => by rw [hO]; rfl
noncomputable def p16 : Pln :=
  (.ask (.bin .eql (.v 0) (.v 83))
    (.ask (.bin .eql (.v 1) (.v 84))
      (.ask (.bin .eql (.v 2) (.v 85))
        (.ask (.bin .eql (.v 3) (.v 86))
          (.ask (.all qEq)
            (.ask (.bin .eql (.v 80) (.v 163))
              (.ask (.bin .eql (.v 81) (.v 164))
                (.done [[(.at (.app 41 [(.v 82), (.v 165)]) (.ki .i64 (.ofNat 0)) 0)]])
                (.done [[(.kb false)]]))
              (.done [[(.kb false)]]))
            (.done [[(.kb false)]]))
          (.done [[(.kb false)]]))
        (.done [[(.kb false)]]))
      (.done [[(.kb false)]]))
    (.done [[(.kb false)]]))

theorem c16 : checkPlan [.one .bool] (fun facts => @callL (mkO facts theI) Tryz.prog G (sp8 (mkO facts theI)) 100 (fun _ => none) 16 (mkArgs 0 [.agg tCli, .agg tCli]) heap0) [] p16 = true := by kernel_rfl
theorem eql_iff {a b : DV} (ha : plainD a) (hb : plainD b) : ∃ r : Bool, binD .eql a b = .bool r ∧ (r = true ↔ a = b) := by
  obtain ⟨r, h1, h2⟩ := eql_lit ha hb
  exact ⟨r, h1, h2.trans ⟨fun h => litD_inj ha hb h, fun h => by rw [h]⟩⟩
theorem denAll_pairs {R : Rho} (f g : Nat → Nat) : ∀ l : List Nat, (∀ i ∈ l, plainD (R.ρ (f i)) ∧ plainD (R.ρ (g i))) → (den.denAll R (l.map fun i => .bin .eql (.v (f i)) (.v (g i))) = true ↔ ∀ i ∈ l, R.ρ (f i) = R.ρ (g i))
  | [], _ => by simp [den.denAll]
  | a :: l, h => by
    obtain ⟨r, q1, q2⟩ := eql_iff (h a (by simp)).1 (h a (by simp)).2
    have ih := denAll_pairs f g l fun i hi => h i (by simp [hi])
    simp only [List.map_cons, den.denAll, den, q1, isT, Bool.and_eq_true, q2, ih, List.mem_cons, forall_eq_or_imp]
open Classical in
theorem fn16 : FnOK Tryz.prog G 16 [.agg tCli, .agg tCli] [.one .bool] (fun _ => True) F16 := by
  refine fn_run (spec := sp8) sp8_ok (by kernel_rfl) p16 c16 ?_
  intro E ds vs h _
  obtain ⟨ra, rb, es, fs, rfl, ht⟩ := two_cli h
  have hfl : [ra, rb].flatten = ra ++ rb := by simp
  rw [hfl]
  have va : ∀ i, i < 83 → (rhoOf theI (ra ++ rb)).ρ i = ra.getD i (.bool false) := fun i hi => by
    simp only [rhoOf, List.getD_eq_getElem?_getD, List.getElem?_append_left (show i < ra.length by rw [ht.la]; exact hi)]
  have vb : ∀ i, i < 83 → (rhoOf theI (ra ++ rb)).ρ (83 + i) = rb.getD i (.bool false) := fun i hi => by
    simp only [rhoOf, List.getD_eq_getElem?_getD]
    rw [List.getElem?_append_right (by rw [ht.la]; omega), ht.la, Nat.add_sub_cancel_left]
  have hsame : sameD (ra ++ rb) = (decide (∀ i : Nat, i < 82 → ra.getD i (.bool false) = rb.getD i (.bool false)) && (decide (es.length = fs.length) && eqFrom es fs 0)) := by
    have e1 : lD (ra ++ rb) 82 = es := by
      have := va 82 (by omega)
      simp only [rhoOf] at this
      simp only [lD, this, ht.ea]
    have e2 : lD (ra ++ rb) 165 = fs := by
      have := vb 82 (by omega)
      simp only [rhoOf] at this
      simp only [lD, this, ht.eb]
    simp only [sameD, e1, e2]
    congr 1
    refine decide_eq_decide.2 ⟨fun H i hi => ?_, fun H i hi => ?_⟩
    · have := H i hi
      have a := va i (by omega)
      have b := vb i (by omega)
      simp only [rhoOf] at a b
      rw [← a, ← b]
      exact this
    · have a := va i (by omega)
      have b := vb i (by omega)
      simp only [rhoOf] at a b
      rw [a, b]
      exact H i hi
  have i41 : ∀ ds, theI 41 ds = .list (F41 ds) := fun _ => rfl
  rw [show F16 (ra ++ rb) = [[.bool (sameD (ra ++ rb))]] from rfl, hsame]
  generalize hR : rhoOf theI (ra ++ rb) = R at *
  have hI : ∀ k ds, R.I k ds = theI k ds := by rw [← hR]; exact fun _ _ => rfl
  have one : ∀ i, i < 82 → ∃ r : Bool, den R (.bin .eql (.v i) (.v (83 + i))) = .bool r ∧ (r = true ↔ ra.getD i (.bool false) = rb.getD i (.bool false)) := by
    intro i hi
    obtain ⟨r, h1, h2⟩ := eql_iff (ht.pa i hi) (ht.pb i hi)
    exact ⟨r, by simp only [den, va i (by omega), vb i (by omega), h1], h2⟩
  have hno : ∀ i, i < 82 → ¬ ra.getD i (.bool false) = rb.getD i (.bool false) → [[DV.bool (decide (∀ i : Nat, i < 82 → ra.getD i (.bool false) = rb.getD i (.bool false)) && (decide (es.length = fs.length) && eqFrom es fs 0))]] = [[DV.bool false]] := by
    intro i hi hn
    rw [decide_eq_false (fun H => hn (H i hi)), Bool.false_and]
  have hq := denAll_pairs (R := R) (fun i => 4 + i) (fun i => 87 + i) (List.range 76) fun i hi => by
    simp only [List.mem_range] at hi
    have := vb (4 + i) (by omega)
    rw [show 83 + (4 + i) = 87 + i by omega] at this
    rw [va (4 + i) (by omega), this]
    exact ⟨ht.pa _ (by omega), ht.pb _ (by omega)⟩
  have leaf : ∀ (i : Nat) (hi : i < 82) (p : Pln), ((ra.getD i (.bool false) = rb.getD i (.bool false)) → goalPlan R [[DV.bool (decide (∀ i : Nat, i < 82 → ra.getD i (.bool false) = rb.getD i (.bool false)) && (decide (es.length = fs.length) && eqFrom es fs 0))]] p) →
      goalPlan R [[DV.bool (decide (∀ i : Nat, i < 82 → ra.getD i (.bool false) = rb.getD i (.bool false)) && (decide (es.length = fs.length) && eqFrom es fs 0))]] (.ask (.bin .eql (.v i) (.v (83 + i))) p (.done [[(.kb false)]])) := by
    intro i hi p hp
    obtain ⟨r, h1, h2⟩ := one i hi
    refine ⟨⟨r, h1⟩, fun h => hp (h2.1 ?_), fun h => ?_⟩
    · rw [h1] at h; cases h; rfl
    · refine hno i hi fun e => ?_
      have := h2.2 e
      rw [h1, this] at h
      cases h
  refine leaf 0 (by omega) _ fun c0 => leaf 1 (by omega) _ fun c1 => leaf 2 (by omega) _ fun c2 => leaf 3 (by omega) _ fun c3 => ?_
  refine ⟨⟨_, rfl⟩, fun hall => leaf 80 (by omega) _ fun c80 => leaf 81 (by omega) _ fun c81 => ?_, fun hall => ?_⟩
  · have hall' : den.denAll R ((List.range 76).map fun i => .bin .eql (.v (4 + i)) (.v (87 + i))) = true := by
      simp only [den, DV.bool.injEq] at hall
      exact hall
    have hcells : ∀ i : Nat, i < 82 → ra.getD i (.bool false) = rb.getD i (.bool false) := by
      intro i hi
      by_cases hm : 4 ≤ i ∧ i < 80
      · have := hq.1 hall' (i - 4) (by simp only [List.mem_range]; omega)
        rw [show 4 + (i - 4) = i by omega, show 87 + (i - 4) = 83 + i by omega, va i (by omega), vb i (by omega)] at this
        exact this
      · have : i = 0 ∨ i = 1 ∨ i = 2 ∨ i = 3 ∨ i = 80 ∨ i = 81 := by omega
        rcases this with rfl | rfl | rfl | rfl | rfl | rfl
        · exact c0
        · exact c1
        · exact c2
        · exact c3
        · exact c80
        · exact c81
    show _ = _
    rw [decide_eq_true hcells, Bool.true_and]
    have e82 : R.ρ 82 = .list es := by rw [va 82 (by omega), ht.ea]
    have e165 : R.ρ 165 = .list fs := by have := vb 82 (by omega); rw [ht.eb] at this; exact this
    simp only [List.map_cons, List.map_nil, den, den.denL, hI, i41, e82, e165]
    rfl
  · have hall' : ¬ den.denAll R ((List.range 76).map fun i => .bin .eql (.v (4 + i)) (.v (87 + i))) = true := by
      simp only [den, DV.bool.injEq] at hall
      intro e
      rw [show qEq = (List.range 76).map fun i => .bin .eql (.v (4 + i)) (.v (87 + i)) from rfl, e] at hall
      cases hall
    rw [hq] at hall'
    have : ∃ i, i < 82 ∧ ¬ ra.getD i (.bool false) = rb.getD i (.bool false) := by
      refine Classical.byContradiction fun hn => hall' fun i hi => ?_
      simp only [List.mem_range] at hi
      have hb := vb (4 + i) (by omega)
      rw [show 83 + (4 + i) = 87 + i by omega] at hb
      rw [va (4 + i) (by omega), hb]
      refine Classical.byContradiction fun hc => hn ⟨4 + i, by omega, hc⟩
    obtain ⟨i, hi, hn⟩ := this
    exact hno i hi hn
end Go.Proofs.YteoindgcjoldhaaGreatDoor
namespace Go.Proofs.YteoindgcjoldhaaGreatDoor
open Go Go.AM
noncomputable def sp9 (O : Orc) : FuncId → Option (List AV → AHeap → Out)
  | 12 => some (@symSp O [.agg tCli] [.one tI] preC 12)
  | _ => none
theorem sp9_ok (O : Orc) (hO : O.I = theI) : SpecOK Tryz.prog G (sp9 O) := by
  intro f sp h
  unfold sp9 at h
  split at h <;> cases h
  exact symSp_ok plainG (by rw [hO]; exact fn12) (fun ds => by rw [hO]; rfl) (by kernel_rfl)
noncomputable def p9b : Pln :=
  (.ask (.bin .eql (.at (.app 12 (.v 0 :: restS)) (.ki .i64 (.ofNat 0)) 0) (.ki .i64 (.ofNat 0)))
    (.done [(.v 0 :: restS), [(.ki .i64 (.ofNat 0))]])
    (.done [(.ki .i64 (.ofNat 0) :: restS), [(.ki .i64 (.ofNat 2))]]))

noncomputable def p9 : Pln := .know (.bin .lss (.ki .i64 (.ofNat 1000)) (.len (.ks (bstr #[])))) false p9b
theorem c9 : checkPlan [.agg tCli, .one tI] (fun facts => @callL (mkO facts theI) Tryz.prog G (sp9 (mkO facts theI)) 100 (fun _ => none) 9 (mkArgs 0 [.one tI]) heap0) [] p9 = true := by kernel_rfl
noncomputable def closedS : SX → Bool
  | .ki _ _ => true
  | .kb _ => true
  | .ks _ => true
  | .emp => true
  | _ => false
theorem rest_closed : restS.all closedS = true := by kernel_rfl
theorem closed_den {R R' : Rho} {e : SX} (h : closedS e = true) : den R e = den R' e := by
  unfold closedS at h
  split at h <;> first | rfl | cases h
theorem rest_map (R : Rho) : restS.map (den R) = restD := List.map_congr_left fun e he => closed_den (List.all_eq_true.1 rest_closed e he)
theorem denL_map (R : Rho) : ∀ l : List SX, den.denL R l = l.map (den R)
  | [] => rfl
  | e :: l => by simp [den.denL, denL_map R l]
theorem cli_new (n : Int) : cliD (.int .i64 n :: restD) = (decide (1 ≤ n) && decide (n ≤ 3)) := by
  have h : cliD (.int .i64 n :: restD) = (decide (1 ≤ n) && decide (n ≤ 3) && true && true && true && true && true && true && true) := by kernel_rfl
  rw [h]
  simp
theorem one_i64 {m : Env} {ds : List (List DV)} {vs : List Value} (h : RepArgs m [.one tI] ds vs) : ∃ z, ds = [[.int .i64 z]] := by
  simp only [RepArgs, RepOne, Rep] at h
  obtain ⟨_, _, _, _, rfl, rfl, ⟨_, rfl, z, rfl, rfl, _⟩, rfl, rfl⟩ := h
  exact ⟨z, rfl⟩
theorem fn9 : FnOK Tryz.prog G 9 [.one tI] [.agg tCli, .one tI] (fun _ => True) F9 := by
  refine fn_run (spec := sp9) sp9_ok (by kernel_rfl) p9 c9 ?_
  intro E ds vs h _
  obtain ⟨n, rfl⟩ := one_i64 h
  have hfl : [[DV.int .i64 n]].flatten = [.int .i64 n] := rfl
  rw [hfl]
  refine ⟨rfl, ?_⟩
  have hr := rest_map (rhoOf theI [DV.int .i64 n])
  have hd : den (rhoOf theI [DV.int .i64 n]) (.app 12 (.v 0 :: restS)) = .list [[.int .i64 (if cliD (.int .i64 n :: restD) then 0 else 320)]] := by
    simp only [den, den.denL, denL_map, hr]
    rfl
  have hF : F9 [DV.int .i64 n] = if 1 ≤ n ∧ n ≤ 3 then [.int .i64 n :: restD, [.int .i64 0]] else [.int .i64 0 :: restD, [.int .i64 2]] := rfl
  rw [hF]
  rw [cli_new] at hd
  have hat : den (rhoOf theI [DV.int .i64 n]) (.bin .eql (.at (.app 12 (.v 0 :: restS)) (.ki .i64 (.ofNat 0)) 0) (.ki .i64 (.ofNat 0))) = .bool (decide (1 ≤ n ∧ n ≤ 3)) := by
    show binD .eql (atD (den (rhoOf theI [DV.int .i64 n]) (.app 12 (.v 0 :: restS))) (.int .i64 0) 0) (.int .i64 0) = _
    rw [hd]
    by_cases h : 1 ≤ n ∧ n ≤ 3
    · simp [atD, binD, h.1, h.2]
    · have : (decide (1 ≤ n) && decide (n ≤ 3)) = false := by
        by_cases a : 1 ≤ n <;> by_cases b : n ≤ 3 <;> simp [a, b] <;> omega
      rw [this]
      simp [atD, binD, h]
  have h0 : den (rhoOf theI [DV.int .i64 n]) (.v 0) = .int .i64 n := rfl
  refine ⟨⟨_, hat⟩, fun h => ?_, fun h => ?_⟩
  · rw [hat] at h
    simp only [DV.bool.injEq, decide_eq_true_eq] at h
    rw [if_pos h]
    simp only [goalPlan, List.map_cons, List.map_nil, hr, h0]
    rfl
  · rw [hat] at h
    simp only [DV.bool.injEq, decide_eq_false_iff_not] at h
    rw [if_neg h]
    simp only [goalPlan, List.map_cons, List.map_nil, hr]
    rfl
end Go.Proofs.YteoindgcjoldhaaGreatDoor
