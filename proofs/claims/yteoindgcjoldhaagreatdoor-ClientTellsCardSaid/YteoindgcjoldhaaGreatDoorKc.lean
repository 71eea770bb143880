/-
  A part of the proof of ClientTells (the machine on named data, and the contracts of the functions that the law reaches): Kf5 Kf5b Kf6 Kf7.
-/
import Derived.WalkKit
import Derived.Laws.IdiomStrings
import Derived.Lib.Case
import Derived.Test.YteoindgcjoldhaaGreatDoorKb
import Derived.Test.YteoindgcjoldhaaGreatDoorShelf
set_option linter.all false
set_option linter.unusedVariables false
set_option linter.unusedSimpArgs false
set_option linter.unusedSectionVars false
namespace Go.Proofs.YteoindgcjoldhaaGreatDoor
open Go Go.AM
noncomputable def p107 : Pln :=
  (.ask (.app 1107 [(.v 0), (.ki .i64 (.ofNat 0))])
    (.done [[(.not (.bin .eql (.v 0) (.ks (bstr #[]))))]])
    (.done [[(.kb false)]]))

theorem c107 : checkPlan [.one .bool] (fun facts => @callL (mkO facts theI) Tryz.prog G (sp1 (mkO facts theI)) 100 (lp 3 L107) 107 (mkArgs 0 [.one .str]) heap0) [] p107 = true := by kernel_rfl
theorem fn107 : FnOK Tryz.prog G 107 [.one .str] [.one .bool] (fun _ => True) F107 := by
  refine fn_loops (spec := sp1) (lps := lp 3 L107) sp1_ok (loops_one one107 lk107) (by kernel_rfl) p107 c107 ?_
  intro E ds vs h _
  obtain ⟨s, rfl, hs⟩ := one_str h
  simp [p107, goalPlan, den, den.denL, rhoOf, F107, theI, sD, iD, wordB, notD, binD]
  constructor
  · intro e; simp [e]
  · intro e; simp [e]

/-! ### strings.ToUpper -/
theorem mem_takeWhile' {α : Type} {p : α → Bool} : ∀ {l : List α} {x : α}, x ∈ l.takeWhile p → p x = true
  | [], x, h => by simp at h
  | a :: l, x, h => by
    rw [List.takeWhile_cons] at h
    split at h
    · rename_i ha
      simp only [List.mem_cons] at h
      rcases h with rfl | h
      · exact ha
      · exact mem_takeWhile' h
    · simp at h
theorem upS_size (s : ByteArray) : (upS s).size = s.size := by
  show (Lib.toUpperA s.data.toList).toArray.size = s.data.size
  simp only [Lib.toUpperA, List.size_toArray, List.length_map, Array.length_toList]
theorem all_of_end {p : Int → Bool} {s : ByteArray} (h : ¬ endFrom p s 0 < s.size) : ∀ b ∈ s.data.toList, p b.toNat = true := by
  unfold endFrom at h
  simp only [Int.toNat_zero, List.drop_zero, Int.zero_add] at h
  have h1 : (s.data.toList.takeWhile fun c => p c.toNat).length ≥ s.data.toList.length := by
    have : s.data.toList.length = s.size := by simp
    omega
  have h2 : s.data.toList.takeWhile (fun c => p c.toNat) = s.data.toList := (List.takeWhile_prefix _).eq_of_length_le h1
  intro b hb
  rw [← h2] at hb
  exact mem_takeWhile' (p := fun c : UInt8 => p c.toNat) hb
theorem letter_ascii {z : Int} (h : letterZ z = true) : z < 128 := by
  unfold letterZ at h
  simp at h
  omega
noncomputable def pre153 : List (SX × Bool) := [(.bin .lss (.ki .i64 (.ofNat 1000)) (.len (.v 0)), false), (.bin .lss (.at (.app 103 [.v 0]) (.ki .i64 (.ofNat 0)) 0) (.len (.v 0)), false)]
theorem io_of {w w' : World} (h1 : w'.os = w.os) (h2 : w'.output = w.output) : ioOf w' = ioOf w := by
  unfold ioOf
  rw [h1, h2]
theorem fn153 : FnOK Tryz.prog G 153 [.one .str] [.one .str] (fun ds => ∀ p ∈ pre153, den (rhoOf theI ds) p.1 = .bool p.2) F153 := by
  refine ⟨hasB_ok (by kernel_rfl), ?_⟩
  intro E ds vs w hE h hpre hg
  have h' := h
  obtain ⟨s, rfl, hs⟩ := one_str h
  simp only [RepArgs, RepOne, Rep] at h'
  obtain ⟨d, ds', v, vs', e1, e2, ⟨x, e3, s', e4, e5, _⟩, _, e6⟩ := h'
  cases e1; cases e3; cases e4; subst e5; subst e6
  have hvs : vs = #[.string s] := by apply Array.ext'; simpa using e2
  subst hvs
  have p1 := hpre _ (List.mem_cons_self)
  have p2 := hpre _ (List.mem_cons_of_mem _ (List.mem_cons_self))
  simp [den, den.denL, rhoOf, theI, F103, sD, atD, binD, lenD] at p1 p2
  have hall := all_of_end (p := letterZ) (s := s) (by omega)
  refine (Tryz.strings_ToUpper_ascii s w (by omega) ?_).mono ?_
  · intro j b hb
    have := letter_ascii (hall b (List.mem_iff_getElem?.2 ⟨j, hb⟩))
    omega
  · rintro e w' ⟨rfl, hb⟩
    refine ⟨_, E, rfl, ⟨fun _ _ e => e, fun b o e => ⟨?_, .inl e⟩, hb.block, io_of hb.os hb.output⟩, ?_⟩
    · have h1 := hE b o e
      rw [hb.block b (Array.getElem?_eq_some_iff.1 h1).1]
      exact h1
    · refine ⟨[.str (upS s)], rfl, _, rfl, ?_⟩
      simp only [Rep]
      refine ⟨_, rfl, rfl, ?_⟩
      have := upS_size s
      show (upS s).size ≤ maxLen
      rw [this]
      exact hs
noncomputable def orSp (a b : List AV → AHeap → Out) (args : List AV) (h : AHeap) : Out := match a args h with
  | some r => some r
  | none => b args h
theorem orSp_ok [O : Orc] {f : FuncId} {a b : List AV → AHeap → Out} (ha : CallOK Tryz.prog G (fun g args h => if g = f then a args h else none)) (hb : CallOK Tryz.prog G (fun g args h => if g = f then b args h else none)) :
    CallOK Tryz.prog G (fun g args h => if g = f then orSp a b args h else none) := by
  intro g args h av h' hs
  simp only at hs
  split at hs
  · rename_i e
    subst e
    unfold orSp at hs
    split at hs
    · rename_i r hr
      cases hs
      exact ha g args h av h' (by simp only [if_true]; exact hr)
    · exact hb g args h av h' (by simp only [if_true]; exact hs)
  · cases hs
end Go.Proofs.YteoindgcjoldhaaGreatDoor
namespace Go.Proofs.YteoindgcjoldhaaGreatDoor
open Go Go.AM Go.RowKit
theorem inf5 : (Tryz.prog.info? 5).map (fun i => (i.zero, i.size, i.bytes)) = some (some (.int .u8 0), 1, 1) := by kernel_rfl
noncomputable def upRow (B : Nat → UInt8) (k : Nat) : List Value := (List.range k).map fun j => Value.int .u8 (Lib.upperB (B j)).toNat
theorem upRow_succ (B : Nat → UInt8) (k : Nat) : upRow B (k + 1) = upRow B k ++ [Value.int .u8 (Lib.upperB (B k)).toNat] := by
  simp [upRow, List.range_succ]
theorem up_tab1 : ∀ n : Fin 256, 97 ≤ n.val → n.val ≤ 122 → (Lib.upperB (UInt8.ofNat n.val)).toNat = n.val - 32 := by decide +kernel
theorem up_tab2 : ∀ n : Fin 256, ¬ (97 ≤ n.val ∧ n.val ≤ 122) → (Lib.upperB (UInt8.ofNat n.val)).toNat = n.val := by decide +kernel
theorem up_yes {b : UInt8} (h1 : (97 : Int) ≤ b.toNat) (h2 : (b.toNat : Int) ≤ 122) : ((Lib.upperB b).toNat : Int) = b.toNat - 32 := by
  have := up_tab1 ⟨b.toNat, b.toNat_lt⟩ (by simp only; omega) (by simp only; omega)
  simp only [UInt8.ofNat_toNat] at this
  omega
theorem up_no {b : UInt8} (h1 : ¬ ((97 : Int) ≤ b.toNat ∧ (b.toNat : Int) ≤ 122)) : ((Lib.upperB b).toNat : Int) = b.toNat := by
  have := up_tab2 ⟨b.toNat, b.toNat_lt⟩ (by simp only; omega)
  simp only [UInt8.ofNat_toNat] at this
  omega
theorem rel_up {L k : Nat} {B : Nat → UInt8} {w0 wr w1 : World} {u3 v' x : Value} {o : Obj} (hL : L ≤ wr.heap.size) (hx : x = Value.int .u8 (Lib.upperB (B k)).toNat)
    (hown : wr.ownsRow L 5 1 u3 k (upRow B k)) (hnx : Below L w0 wr) (hown' : w1.ownsRow L 5 1 v' (k + 1) (upRow B k ++ [x])) (hgrow : (wr.alloc o).grownBy w1 u3.ownBlock) :
    w1.ownsRow L 5 1 v' (k + 1) (upRow B (k + 1)) ∧ Below L w0 w1 := by
  refine ⟨by rw [upRow_succ, ← hx]; exact hown', (hnx.alloc hL o).grown hgrow (by simp; omega) (fun j hj => by have := (hown.lt j hj).1; omega)⟩
theorem one_new (wr : World) (z : Int) : ∀ (j : Nat) (u : Value), [Value.int .u8 z][j]? = some u → (wr.alloc (.cells #[Value.int .u8 z] 5)).cell? (Addr.add ⟨wr.heap.size, 0, none⟩ j) = some u := by
  intro j u hj
  match j, hj with
  | 0, hj => simp at hj; subst hj; simp [Addr.add]
theorem one_cell (z : Int) : ∀ u : Value, u ∈ [Value.int .u8 z] → u.oneCell' = true := by
  intro u hu
  simp at hu
  subst hu
  rfl
theorem one_max {k : Nat} (h : k < 1000) : k + 1 ≤ maxLen := by unfold maxLen; omega
theorem one_size {L : Nat} {wr : World} (h : L ≤ wr.heap.size) (o : Obj) : L ≤ (wr.alloc o).heap.size := by simp; omega
set_option maxHeartbeats 1600000 in
set_option maxRecDepth 1000000 in
theorem cap_any (s r : ByteArray) (n : Nat) (B : Nat → UInt8) (cap : Nat) (w : World) (hs : n ≤ 1000) (w0 : World)
    (hconv : (convert 9 42 (.string s)).run Tryz.prog w = .ok (.slice (some ⟨w.heap.size, 0, none⟩) n cap) w0.drew)
    (hc : ∀ k, k < n → w0.cell? ⟨w.heap.size, k, none⟩ = some (.int .u8 (B k).toNat)) (hsz : w0.heap.size = w.heap.size + 1)
    (hback : ∀ (v : Value) (wr : World), wr.ownsRow (w.heap.size + 1) 5 1 v n (upRow B n) → (convert 42 9 v).run Tryz.prog wr = .ok (.string r) wr) :
    Calls Tryz.prog 158 #[.string s] w fun e w' => e = .returned (.string r) ∧ Below (w.heap.size + 1) w0 w' := by
  obtain ⟨i0, hi, hz0, hz1, hz2⟩ := info_parts inf5
  go_enter Tryz.func158, Tryz.ntmps158
  go_wp2
  go_loopw [3, 9] (fun v i wr => ∃ k : Nat, k ≤ n ∧ i = .int .i64 k ∧ wr.ownsRow (w.heap.size + 1) 5 1 v k (upRow B k) ∧ Below (w.heap.size + 1) w0 wr)
    (fun _ i _ => n - (intOf i).toNat)
  case atStart => exact ⟨0, Nat.zero_le _, rfl, World.ownsRow_nil _ _ _ _, (Below.refl _ _).drew⟩
  case round =>
    obtain ⟨k, hk, rfl, hown, hnx⟩ := hrel
    have hcx : k < n → wr.cell? ⟨w.heap.size, k, none⟩ = some (.int .u8 (B k).toNat) := fun hk => (hnx.cell (by show w.heap.size < w.heap.size + 1; omega)).trans (hc k (by omega))
    have hL : w.heap.size + 1 ≤ wr.heap.size := by have := hnx.size; omega
    rcases (show k = n ∨ (k < n ∧ ((B k).toNat : Int) < 97) ∨ (k < n ∧ (97 : Int) ≤ (B k).toNat ∧ ((B k).toNat : Int) ≤ 122) ∨ (k < n ∧ (122 : Int) < (B k).toNat) from by omega) with rfl | ⟨hkn, hb⟩ | ⟨hkn, hb1, hb2⟩ | ⟨hkn, hb⟩
    · have hbk := hback _ _ hown
      go_wp2
      go_ret
      exact ⟨rfl, hnx⟩
    · go_wp2_with (first
        | (at_builtin; refine wpList_append_own _ rfl _ _ 42 rfl (w.heap.size + 1) 5 i0 (.int .u8 0) 1 1 Tryz.underlying42 hi hz0 hz1 hz2 rfl (by decide) _ _ _ rfl (hown.alloc _) ⟨wr.heap.size, 0, none⟩ 1 1 [.int .u8 ((B k).toNat)] rfl rfl (one_new _ _) (one_cell _) (one_max (by omega)) (by omega) (one_size hL _) ?_)
        | go_in)
      intro v' w1 hown' hgrow _
      have R := rel_up hL (by rw [up_no (by omega)]) hown hnx hown' hgrow
      clear hown' hgrow hown hnx hcx
      go_wp2
      go_roundw
      case rel => exact ⟨k + 1, by omega, by simp, R.1, R.2⟩
      case measure => simp [intOf]; omega
    · go_wp2_with (first
        | (at_builtin; refine wpList_append_own _ rfl _ _ 42 rfl (w.heap.size + 1) 5 i0 (.int .u8 0) 1 1 Tryz.underlying42 hi hz0 hz1 hz2 rfl (by decide) _ _ _ rfl (hown.alloc _) ⟨wr.heap.size, 0, none⟩ 1 1 [.int .u8 ((B k).toNat - 32)] rfl rfl (one_new _ _) (one_cell _) (one_max (by omega)) (by omega) (one_size hL _) ?_)
        | go_in)
      intro v' w1 hown' hgrow _
      have R := rel_up hL (by rw [up_yes hb1 hb2]) hown hnx hown' hgrow
      clear hown' hgrow hown hnx hcx
      go_wp2
      go_roundw
      case rel => exact ⟨k + 1, by omega, by simp, R.1, R.2⟩
      case measure => simp [intOf]; omega
    · go_wp2_with (first
        | (at_builtin; refine wpList_append_own _ rfl _ _ 42 rfl (w.heap.size + 1) 5 i0 (.int .u8 0) 1 1 Tryz.underlying42 hi hz0 hz1 hz2 rfl (by decide) _ _ _ rfl (hown.alloc _) ⟨wr.heap.size, 0, none⟩ 1 1 [.int .u8 ((B k).toNat)] rfl rfl (one_new _ _) (one_cell _) (one_max (by omega)) (by omega) (one_size hL _) ?_)
        | go_in)
      intro v' w1 hown' hgrow _
      have R := rel_up hL (by rw [up_no (by omega)]) hown hnx hown' hgrow
      clear hown' hgrow hown hnx hcx
      go_wp2
      go_roundw
      case rel => exact ⟨k + 1, by omega, by simp, R.1, R.2⟩
      case measure => simp [intOf]; omega
/-- 'string(b)' of a row of bytes of the call's own. -/
theorem back_own (wr : World) (L : Nat) (v : Value) (n : Nat) (l : List UInt8) (hl : l.length = n) (hown : wr.ownsRow L 5 1 v n (l.map fun b => Value.int .u8 b.toNat)) :
    (convert 42 9 v).run Tryz.prog wr = .ok (.string ⟨l.toArray⟩) wr := by
  subst hl
  obtain ⟨_, ⟨rfl, h0⟩ | ⟨g, cap, cur, rfl, _, hg, hn, _, hcs, htk⟩⟩ := hown
  · have : l = [] := List.length_eq_zero_iff.1 h0
    subst this
    rw [run_convert_bytes_string wr 42 9 5 none 0 0 Tryz.underlying42 Tryz.underlying5 Tryz.underlying9]
    have hl := run_loadCells_list (P := Tryz.prog) wr ⟨0, 0, none⟩ [] (fun j v hj => by simp at hj)
    rfl
  · refine run_convert_bytes_back wr 42 9 5 ⟨g, 0, none⟩ cap l Tryz.underlying42 Tryz.underlying5 Tryz.underlying9 fun j hj => ?_
    have h1 : (cur.toList.take (l.length * 1))[j]? = some (Value.int .u8 (l[j].toNat : Int)) := by
      rw [htk]
      simp [List.getElem?_eq_getElem hj]
    rw [List.getElem?_take_of_lt (by omega)] at h1
    have hcell : ∀ i, wr.cell? ⟨g, i, none⟩ = cur[i]? := fun i => by simp [World.cell?, hg]
    have hadd : Addr.add ⟨g, 0, none⟩ j = ⟨g, j, none⟩ := by
      cases j with
      | zero => rfl
      | succ j => simp [Addr.add]
    rw [hadd, hcell]
    simpa using h1
theorem lenB (s : ByteArray) : s.data.toList.length = s.size := Array.length_toList
theorem lenU (s : ByteArray) : (Lib.toUpperA s.data.toList).length = s.size := by
  unfold Lib.toUpperA
  rw [List.length_map, lenB]
theorem byteAt (s : ByteArray) (k : Nat) (hk : k < s.size) : s.data[k]'hk = s.data.toList.getD k 0 := by
  have : k < s.data.toList.length := by simpa using hk
  simp [List.getD_eq_getElem?_getD, List.getElem?_eq_getElem this]
theorem upRow_all (s : ByteArray) : upRow (fun k => s.data.toList.getD k 0) s.size = (Lib.toUpperA s.data.toList).map fun b => Value.int .u8 b.toNat := by
  unfold upRow Lib.toUpperA
  rw [List.map_map]
  refine List.ext_getElem (by rw [List.length_map, List.length_map, List.length_range, lenB]) fun i h1 h2 => ?_
  have hi : i < s.data.toList.length := by
    rw [List.length_map, List.length_range] at h1
    rw [lenB]; exact h1
  rw [List.getElem_map, List.getElem_map, List.getElem_range]
  show Value.int .u8 (Lib.upperB (s.data.toList.getD i 0)).toNat = Value.int .u8 (Lib.upperB s.data.toList[i]).toNat
  rw [List.getD_eq_getElem?_getD, List.getElem?_eq_getElem hi]
  rfl
theorem fn158 : FnOK Tryz.prog G 158 [.one .str] [.one .str] (fun ds => ∀ p ∈ [((.bin .lss (.ki .i64 (.ofNat 1000)) (.len (.v 0)) : SX), false)], den (rhoOf theI ds) p.1 = .bool p.2) F153 := by
  refine ⟨hasB_ok (by kernel_rfl), fun E ds vs w hE hr hpre _ => ?_⟩
  obtain ⟨s, rfl, _⟩ := one_str hr
  have hvs : vs = #[.string s] := by
    simp only [RepArgs, RepOne, Rep] at hr
    obtain ⟨_, _, _, _, e1, e2, ⟨_, rfl, s', rfl, rfl, _⟩, rfl, rfl⟩ := hr
    simp only [List.cons.injEq, DV.str.injEq, and_true] at e1
    subst e1
    exact Array.toList_inj.1 e2
  subst hvs
  have hlen : s.size ≤ 1000 := by
    have := hpre _ (List.mem_cons_self ..)
    simp [den, rhoOf, lenD, binD] at this
    omega
  have hcv := run_bytes_of_string (P := Tryz.prog) w 9 42 5 s Tryz.underlying9 Tryz.underlying42 Tryz.underlying5
  generalize grownCap w s.size 0 5 = cap at hcv
  have hc : ∀ k, k < s.size → (w.alloc (.cells (bytesRow s cap) 5 ((bytesRow s cap).size, (bytesRow s cap).size + 1))).cell? ⟨w.heap.size, k, none⟩ = some (.int .u8 ((fun k => s.data.toList.getD k 0) k).toNat) := by
    intro k hk
    rw [World.cell?_alloc_mark, bytesRow_at s cap k hk, byteAt s k hk]
  have hk := cap_any s (upS s) s.size (fun k => s.data.toList.getD k 0) cap w hlen (w.alloc (.cells (bytesRow s cap) 5 ((bytesRow s cap).size, (bytesRow s cap).size + 1))) hcv hc (by simp) (fun v wr hown => by
    rw [upRow_all] at hown
    exact back_own wr _ v s.size _ (lenU s) hown)
  refine hk.mono fun e w' ⟨he, hb⟩ => ⟨_, E, he, ⟨fun b o h => h, fun b o h => ⟨?_, .inl h⟩, fun b hb' => ?_, io_of hb.os hb.output⟩, ?_⟩
  · have h1 := hE b o h
    have h2 : b < w.heap.size := (Array.getElem?_eq_some_iff.1 h1).1
    rw [hb.block b (by omega), heap_alloc_old w _ h2]
    exact h1
  · rw [hb.block b (by omega), heap_alloc_old w _ hb']
  · refine ⟨[.str (upS s)], by simp [F153, sD], .str (upS s), rfl, ?_⟩
    simp only [Rep]
    refine ⟨_, rfl, rfl, ?_⟩
    have : (upS s).size = s.size := lenU s
    rw [this]
    unfold maxLen
    omega
end Go.Proofs.YteoindgcjoldhaaGreatDoor
namespace Go.Proofs.YteoindgcjoldhaaGreatDoor
open Go Go.AM
noncomputable def preL : List (SX × Bool) := [(.bin .lss (.ki .i64 (.ofNat 1000)) (.len (.v 0)), false)]
noncomputable def sp2 (O : Orc) : FuncId → Option (List AV → AHeap → Out)
  | 103 => some (orSp (@symSp O [.one .str, .con 102] [.one tI] [] 103) (@symSp O [.one .str, .con 104] [.one tI] [] 2103))
  | 153 => some (@symSp O [.one .str] [.one .str] pre153 153)
  | 158 => some (@symSp O [.one .str] [.one .str] preL 158)
  | 107 => some (@symSp O [.one .str] [.one .bool] [] 107)
  | f => sp1 O f
theorem sp2_ok (O : Orc) (hO : O.I = theI) : SpecOK Tryz.prog G (sp2 O) := by
  intro f sp h
  unfold sp2 at h
  split at h
  · cases h
    exact orSp_ok (spec_one fn103 fun ds => by rw [hO]; rfl) (spec_one fn2103 fun ds => by rw [hO]; rfl)
  · cases h
    exact symSp_ok plainG (by rw [hO]; exact fn153) (fun ds => by rw [hO]; rfl) (by kernel_rfl)
  · cases h
    exact symSp_ok plainG (by rw [hO]; exact fn158) (fun ds => by rw [hO]; rfl) (by kernel_rfl)
  · cases h
    exact spec_one fn107 fun ds => by rw [hO]; rfl
  · exact sp1_ok O hO f sp h

/-- One of these words, or none. -/
noncomputable def chain (e : SX) (hit : ByteArray → Pln) (miss : Pln) : List ByteArray → Pln
  | [] => miss
  | k :: ks => .ask (.bin .eql e (.ks k)) (hit k) (chain e hit miss ks)
theorem chain_goal {R : Rho} {e : SX} {x : ByteArray} {res : List (List DV)} (he : den R e = .str x) {hit : ByteArray → Pln} {miss : Pln} : ∀ {ks : List ByteArray}, (∀ k ∈ ks, x = k → goalPlan R res (hit k)) → ((∀ k ∈ ks, x ≠ k) → goalPlan R res miss) → goalPlan R res (chain e hit miss ks)
  | [], _, hm => hm (by simp)
  | k :: ks, hh, hm => by
    have hd : den R (.bin .eql e (.ks k)) = .bool (decide (x = k)) := by simp only [den, he, binD]
    refine ⟨⟨_, hd⟩, fun h => ?_, fun h => ?_⟩
    · rw [hd] at h
      simp only [DV.bool.injEq, decide_eq_true_eq] at h
      exact hh k (by simp) h
    · rw [hd] at h
      simp only [DV.bool.injEq, decide_eq_false_iff_not] at h
      refine chain_goal he (fun k' hk' => hh k' (by simp [hk'])) fun hn => hm fun k' hk' => ?_
      simp only [List.mem_cons] at hk'
      rcases hk' with rfl | hk'
      · exact h
      · exact hn k' hk'
theorem kept_iff (s : ByteArray) : keptB s = true ↔ ∃ k ∈ keysL, upS s = k := by
  simp [keptB]
noncomputable def u153 : SX := .at (.app 153 [.v 0]) (.ki .i64 (.ofNat 0)) 0
noncomputable def u158 : SX := .at (.app 158 [.v 0]) (.ki .i64 (.ofNat 0)) 0
noncomputable def miss101 : Pln := .done [[(.ks (bstr #[]))], [(.kb false)]]
noncomputable def p101 : Pln := .know (.bin .lss (.ki .i64 (.ofNat 1000)) (.len (.v 0))) false (.ask (.bin .lss (.at (.app 103 [(.v 0)]) (.ki .i64 (.ofNat 0)) 0) (.len (.v 0))) miss101 (chain u153 (fun _ => .done [[u153], [.kb true]]) miss101 keysL))
noncomputable def p106 : Pln := .know (.bin .lss (.ki .i64 (.ofNat 1000)) (.len (.v 0))) false (chain u158 (fun k => .done [[.ks k], [.kb true]]) miss101 keysL)
theorem c101 : checkPlan [.one .str, .one .bool] (fun facts => @callL (mkO facts theI) Tryz.prog G (sp2 (mkO facts theI)) 100 (fun _ => none) 101 (mkArgs 0 [.one .str]) heap0) [] p101 = true := by kernel_rfl
theorem c106 : checkPlan [.one .str, .one .bool] (fun facts => @callL (mkO facts theI) Tryz.prog G (sp2 (mkO facts theI)) 100 (fun _ => none) 106 (mkArgs 0 [.one .str]) heap0) [] p106 = true := by kernel_rfl
def lenPre (ds : List DV) : Prop := ∀ p ∈ preL, den (rhoOf theI ds) p.1 = .bool p.2
theorem lenPre_str {s : ByteArray} (h : lenPre [.str s]) : s.size ≤ 1000 := by
  have := h _ (List.mem_cons_self)
  simp [den, rhoOf, binD, lenD] at this
  omega
theorem fn101 : FnOK Tryz.prog G 101 [.one .str] [.one .str, .one .bool] lenPre F101 := by
  refine fn_run (spec := sp2) sp2_ok (by kernel_rfl) p101 c101 ?_
  intro E ds vs h hp
  obtain ⟨s, rfl, hs⟩ := one_str h
  have hsz := lenPre_str hp
  refine ⟨by simp [den, rhoOf, binD, lenD]; omega, ?_⟩
  have h103 : den (rhoOf theI [[DV.str s]].flatten) (.bin .lss (.at (.app 103 [(.v 0)]) (.ki .i64 (.ofNat 0)) 0) (.len (.v 0))) = .bool (decide (endFrom letterZ s 0 < s.size)) := by
    simp [den, den.denL, rhoOf, theI, F103, sD, atD, binD, lenD]
  have h153 : den (rhoOf theI [[DV.str s]].flatten) u153 = .str (upS s) := by
    simp [u153, den, den.denL, rhoOf, theI, F153, sD, atD]
  refine ⟨⟨_, h103⟩, fun h => ?_, fun h => ?_⟩
  · rw [h103] at h
    simp only [DV.bool.injEq, decide_eq_true_eq] at h
    simp [goalPlan, miss101, F101, sD, h, den]
  · rw [h103] at h
    simp only [DV.bool.injEq, decide_eq_false_iff_not] at h
    refine chain_goal h153 (fun k hk e => ?_) fun hn => ?_
    · have hkept : keptB s = true := (kept_iff s).2 ⟨k, hk, e⟩
      simp [goalPlan, F101, sD, h, hkept, den]
      simpa using h153.symm
    · have hkept : keptB s = false := by
        cases hc : keptB s with
        | false => rfl
        | true =>
          obtain ⟨k, hk, e⟩ := (kept_iff s).1 hc
          exact absurd e (hn k hk)
      simp [goalPlan, miss101, F101, sD, h, hkept, den]
theorem fn106 : FnOK Tryz.prog G 106 [.one .str] [.one .str, .one .bool] lenPre F106 := by
  refine fn_run (spec := sp2) sp2_ok (by kernel_rfl) p106 c106 ?_
  intro E ds vs h hp
  obtain ⟨s, rfl, hs⟩ := one_str h
  have hsz := lenPre_str hp
  refine ⟨by simp [den, rhoOf, binD, lenD]; omega, ?_⟩
  have h158 : den (rhoOf theI [[DV.str s]].flatten) u158 = .str (upS s) := by
    simp [u158, den, den.denL, rhoOf, theI, F153, sD, atD]
  refine chain_goal h158 (fun k hk e => ?_) fun hn => ?_
  · have hkept : keptB s = true := (kept_iff s).2 ⟨k, hk, e⟩
    simp [goalPlan, F106, sD, hkept, den, e]
  · have hkept : keptB s = false := by
      cases hc : keptB s with
      | false => rfl
      | true =>
        obtain ⟨k, hk, e⟩ := (kept_iff s).1 hc
        exact absurd e (hn k hk)
    simp [goalPlan, miss101, F106, sD, hkept, den]
end Go.Proofs.YteoindgcjoldhaaGreatDoor
namespace Go.Proofs.YteoindgcjoldhaaGreatDoor
open Go Go.AM
noncomputable def sp3 (O : Orc) : FuncId → Option (List AV → AHeap → Out)
  | 101 => some (@symSp O [.one .str] [.one .str, .one .bool] preL 101)
  | 106 => some (@symSp O [.one .str] [.one .str, .one .bool] preL 106)
  | f => sp2 O f
theorem sp3_ok (O : Orc) (hO : O.I = theI) : SpecOK Tryz.prog G (sp3 O) := by
  intro f sp h
  unfold sp3 at h
  split at h
  · cases h
    exact symSp_ok plainG (by rw [hO]; exact fn101) (fun ds => by rw [hO]; rfl) (by kernel_rfl)
  · cases h
    exact symSp_ok plainG (by rw [hO]; exact fn106) (fun ds => by rw [hO]; rfl) (by kernel_rfl)
  · exact sp2_ok O hO f sp h
theorem keys_caps : keysL.all (fun k => k.data.toList.all fun b => decide (65 ≤ b.toNat) && decide (b.toNat ≤ 90)) = true := by kernel_rfl
theorem up_tab : ∀ n : Fin 256, (decide (65 ≤ (Lib.upperB (UInt8.ofNat n.val)).toNat) && decide ((Lib.upperB (UInt8.ofNat n.val)).toNat ≤ 90)) = true → letterZ (n.val : Int) = true := by decide +kernel
theorem kept_letters {s : ByteArray} (h : keptB s = true) : ∀ b ∈ s.data.toList, letterZ b.toNat = true := by
  obtain ⟨k, hk, e⟩ := (kept_iff s).1 h
  intro b hb
  have h1 := List.all_eq_true.1 keys_caps k hk
  have h2 : Lib.upperB b ∈ k.data.toList := by
    rw [← e]
    show Lib.upperB b ∈ (Lib.toUpperA s.data.toList).toArray.toList
    simp only [Lib.toUpperA, List.mem_map]
    exact ⟨b, hb, rfl⟩
  have h3 := List.all_eq_true.1 h1 _ h2
  have := up_tab ⟨b.toNat, b.toNat_lt⟩
  simp only [UInt8.ofNat_toNat] at this
  exact this h3
theorem takeWhile_all {α : Type} {p : α → Bool} {l : List α} (h : ∀ x ∈ l, p x = true) : l.takeWhile p = l := by
  induction l with
  | nil => rfl
  | cons a l ih =>
    rw [List.takeWhile_cons, if_pos (h a (by simp)), ih fun x hx => h x (by simp [hx])]
theorem end_all {p : Int → Bool} {s : ByteArray} (h : ∀ b ∈ s.data.toList, p b.toNat = true) : endFrom p s 0 = s.size := by
  unfold endFrom
  simp only [Int.toNat_zero, List.drop_zero, Int.zero_add]
  rw [takeWhile_all (p := fun c : UInt8 => p c.toNat) h]
  simp
theorem byteZ_mem {s : ByteArray} {j : Nat} (h : j < s.size) : ∃ b ∈ s.data.toList, byteZ s j = b.toNat := by
  have hl : j < s.data.toList.length := by simpa using h
  refine ⟨s.data.toList[j], List.getElem_mem hl, ?_⟩
  simp [byteZ, List.getD_eq_getElem?_getD, List.getElem?_eq_getElem hl]
theorem mem_byteZ {s : ByteArray} {b : UInt8} (h : b ∈ s.data.toList) : ∃ j, j < s.size ∧ byteZ s j = b.toNat := by
  obtain ⟨j, hj⟩ := List.mem_iff_getElem?.1 h
  have hl := (List.getElem?_eq_some_iff.1 hj).1
  refine ⟨j, by simpa using hl, ?_⟩
  simp only [byteZ, List.getD_eq_getElem?_getD, hj, Option.getD_some]
theorem wordB_iff (s : ByteArray) : wordB s = true ↔ s ≠ bstr #[] ∧ ∀ j : Nat, j < s.size → (letterZ (byteZ s j) || (decide (j ≠ 0) && digitZ (byteZ s j))) = true := by
  simp only [wordB, wordFrom, Bool.and_eq_true, decide_eq_true_eq]
  constructor
  · rintro ⟨h1, h2⟩
    exact ⟨h2, fun j hj => h1 j hj (by omega)⟩
  · rintro ⟨h1, h2⟩
    exact ⟨fun j hj _ => h2 j hj, h1⟩
/-- A word, as the program asks for it. -/
theorem word_prog {s : ByteArray} (h0 : 0 < s.size) : (letterZ (byteZ s 0) = true ∧ endFrom alnumZ s 0 = s.size) ↔ wordB s = true := by
  rw [wordB_iff]
  constructor
  · rintro ⟨h1, h2⟩
    refine ⟨fun e => by rw [e] at h0; exact absurd h0 (by decide), fun j hj => ?_⟩
    obtain ⟨b, hb, e⟩ := byteZ_mem hj
    have := all_of_end (p := alnumZ) (s := s) (by omega) b hb
    by_cases hz : j = 0
    · subst hz; simp [h1]
    · rw [e]
      simp only [alnumZ] at this
      simpa [hz] using this
  · rintro ⟨h1, h2⟩
    refine ⟨by simpa using h2 0 h0, end_all fun b hb => ?_⟩
    obtain ⟨j, hj, e⟩ := mem_byteZ hb
    have := h2 j hj
    rw [e] at this
    simp only [alnumZ]
    rw [Bool.or_eq_true] at this ⊢
    rcases this with h | h
    · exact .inl h
    · exact .inr (by rw [Bool.and_eq_true] at h; exact h.2)
noncomputable def p64b : Pln :=
  (.ask (.bin .eql (.v 0) (.ks (bstr #[])))
    (.done [[(.kb false)]])
    (.ask (.bin .lss (.ki .i64 (.ofNat 24)) (.len (.v 0)))
      (.done [[(.kb false)]])
      (.ask (.bin .lss (.ki .i64 (.ofNat 0)) (.len (.v 0)))
        (.ask (.at (.app 102 [(.byte (.v 0) (.ki .i64 (.ofNat 0)))]) (.ki .i64 (.ofNat 0)) 0)
          (.ask (.bin .eql (.at (.app 2103 [(.v 0)]) (.ki .i64 (.ofNat 0)) 0) (.len (.v 0)))
            (.done [[(.not (.at (.app 101 [(.v 0)]) (.ki .i64 (.ofNat 1)) 0))]])
            (.done [[(.kb false)]]))
          (.done [[(.kb false)]]))
        .never)))
noncomputable def p68b : Pln :=
  (.ask (.at (.app 107 [(.v 0)]) (.ki .i64 (.ofNat 0)) 0)
    (.ask (.at (.app 106 [(.v 0)]) (.ki .i64 (.ofNat 1)) 0)
      (.done [[(.kb false)]])
      (.done [[(.not (.bin .lss (.ki .i64 (.ofNat 24)) (.len (.v 0))))]]))
    (.done [[(.kb false)]]))

noncomputable def p64 : Pln := .know (.bin .lss (.ki .i64 (.ofNat 1000)) (.len (.v 0))) false p64b
noncomputable def p68 : Pln := .know (.bin .lss (.ki .i64 (.ofNat 1000)) (.len (.v 0))) false p68b
theorem c64 : checkPlan [.one .bool] (fun facts => @callL (mkO facts theI) Tryz.prog G (sp3 (mkO facts theI)) 100 (fun _ => none) 64 (mkArgs 0 [.one .str]) heap0) [] p64 = true := by kernel_rfl
theorem c68 : checkPlan [.one .bool] (fun facts => @callL (mkO facts theI) Tryz.prog G (sp3 (mkO facts theI)) 100 (fun _ => none) 68 (mkArgs 0 [.one .str]) heap0) [] p68 = true := by kernel_rfl
theorem fn68 : FnOK Tryz.prog G 68 [.one .str] [.one .bool] lenPre F68 := by
  refine fn_run (spec := sp3) sp3_ok (by kernel_rfl) p68 c68 ?_
  intro E ds vs h hp
  obtain ⟨s, rfl, hs⟩ := one_str h
  have hsz := lenPre_str hp
  refine ⟨by simp [den, rhoOf, binD, lenD]; omega, ?_⟩
  have h106 : (theI 106 [DV.str s]) = .list (F106 [.str s]) := rfl
  have h107 : (theI 107 [DV.str s]) = .list (F107 [.str s]) := rfl
  have e106 : F106 [DV.str s] = if keptB s then [[.str (upS s)], [.bool true]] else [[.str (bstr #[])], [.bool false]] := rfl
  cases hk : keptB s <;> simp [p68b, goalPlan, den, den.denL, rhoOf, h106, h107, e106, hk, F107, F68, nameB, sD, atD, binD, lenD, notD]
  all_goals grind
theorem fn64 : FnOK Tryz.prog G 64 [.one .str] [.one .bool] lenPre F68 := by
  refine fn_run (spec := sp3) sp3_ok (by kernel_rfl) p64 c64 ?_
  intro E ds vs h hp
  obtain ⟨s, rfl, hs⟩ := one_str h
  have hsz := lenPre_str hp
  refine ⟨by simp [den, rhoOf, binD, lenD]; omega, ?_⟩
  have h101 : (theI 101 [DV.str s]) = .list (F101 [.str s]) := rfl
  have h102 : ∀ ds, (theI 102 ds) = .list (F102 ds) := fun _ => rfl
  have h2103 : (theI 2103 [DV.str s]) = .list (F2103 [.str s]) := rfl
  have e101 : F101 [DV.str s] = if keptB s then [[.str (upS s)], [.bool true]] else [[.str (bstr #[])], [.bool false]] := by
    simp only [F101, sD, List.getD_cons_zero]
    by_cases hk : keptB s = true
    · have := end_all (kept_letters hk)
      rw [if_neg (by omega)]
    · by_cases hl : endFrom letterZ s 0 < s.size <;> simp [hl, hk]
  have hb0 : byteD (.str s) (.int .i64 0) = .int .u8 (byteZ s 0) := rfl
  by_cases he : s = bstr #[]
  · subst he
    simp [p64b, goalPlan, den, rhoOf, binD, F68, nameB, sD, wordB]
  · have h0 : 0 < s.size := by
      rcases Nat.eq_zero_or_pos s.size with h | h
      · refine absurd (bytes_ext ?_) he
        have : s.data.toList.length = 0 := by simpa using h
        rw [List.length_eq_zero_iff.1 this]
        rfl
      · exact h
    have hw := word_prog h0
    cases hk : keptB s <;> simp [p64b, goalPlan, den, den.denL, rhoOf, h101, h102, h2103, e101, hk, F102, F2103, F68, nameB, sD, iD, atD, binD, lenD, notD, hb0, he, h0]
    all_goals grind
end Go.Proofs.YteoindgcjoldhaaGreatDoor
